/- The small machine and the contracts of the functions, part 3 (Nums, Puts, Cache, Reader, GetMade, GetMadeS, MadeLaw, KeyLaw, KeyOf, Marks, Mark, Slots, Marks3, CacheGet); no condition. -/
import Derived.Test.YtopofpihpnjmbaaGreatDoorProg
import Derived.Test.YtopofpihpnjmbaaGreatDoorAmZ
import Derived.Test.YtopofpihpnjmbaaGreatDoorAmP
import Derived.Test.YtopofpihpnjmbaaGreatDoorB2
import Derived.KernelRfl
import Derived.Test.YtopofpihpnjmbaaGreatDoorAmK
import Derived.Test.YtopofpihpnjmbaaGreatDoorB1
import Derived.Test.YtopofpihpnjmbaaGreatDoorAmM
namespace Go.Proofs.YtopofpihpnjmbaaGreatDoor.Am
open Go Go.Proofs
set_option linter.unusedSimpArgs false
set_option linter.unusedVariables false
attribute [local congr] yP yt zq
attribute [local simp] yM ZM zM yL zC Zy YL ZB zk Zo YB Zk Yo yB YM YC yC ZC zJ YI yI y1 Z1 Z2 Y1 ZW zW yW ZD Za Ya wblk zD yy YO zP aval dOk za ev_t ev_c zw zy yZ yA isIo hasIo sbin endR fin resL one outL out1 clo1 cloL coe coeL shut shut.shutL wantA weff cellsOf fillA deref natOf ρ0_app Y0 plain plain.plainL Zf Ye Yk Yt Zq yH Zw Zn yk ZN zt Zp nilA srcOf Zr Yp yn renA rb
def figL : List UInt8 → Bool
  | [] => true
  | c :: l => figI (c.toNat : Int) && figL l
def digS (a : Nat) (c : UInt8) : Nat := a * 10 + (c.toNat - 48)
theorem zgY (a : Nat) (c : UInt8) : digS a c = a * 10 + (c.toNat - 48) := rfl
def digF (a : Nat) (l : List UInt8) : Nat := l.foldl digS a
theorem YJ (a : Nat) : digF a [] = a := rfl
theorem yE (a : Nat) (c : UInt8) (l : List UInt8) : digF a (c :: l) = digF (a * 10 + (c.toNat - 48)) l := by unfold digF; rw [List.foldl_cons, zgY]
def yp (s : ByteArray) (most : Int) : Option Nat :=
  if (1 ≤ s.size ∧ s.size ≤ 7) ∧ figL s.data.toList = true ∧ ¬ (2 ≤ s.size ∧ s.data.toList.head? = some 48) ∧ (digF 0 s.data.toList : Int) ≤ most then some (digF 0 s.data.toList) else none
def numA : Option Nat → AV
  | some n => .tup [.sc (.int .i64 n), .sc (.bool true)]
  | none => .tup [.sc (.int .i64 0), .sc (.bool false)]
theorem YV : ∀ a b : List UInt8, figL (a ++ b) = (figL a && figL b)
  | [], b => rfl
  | x :: a, b => by rw [List.cons_append, figL, figL, YV a b, Bool.and_assoc]
theorem zaT (a b : List UInt8) (n : Nat) : digF n (a ++ b) = digF (digF n a) b := by unfold digF; rw [List.foldl_append]
theorem Y8 {c : UInt8} (h : figI (c.toNat : Int) = true) : 48 ≤ c.toNat ∧ c.toNat ≤ 57 := by
  simp only [figI, Bool.and_eq_true, decide_eq_true_eq] at h
  omega
theorem zdj : ∀ (l : List UInt8) (a : Nat), figL l = true → digF a l < (a + 1) * 10 ^ l.length
  | [], a, _ => by rw [YJ]; simp
  | c :: l, a, h => by
    rw [figL, Bool.and_eq_true] at h
    have hc := Y8 h.1
    have ih := zdj l (a * 10 + (c.toNat - 48)) h.2
    rw [yE, List.length_cons, Nat.pow_succ]
    refine Nat.lt_of_lt_of_le ih ?_
    rw [Nat.mul_comm (10 ^ l.length) 10, ← Nat.mul_assoc]
    exact Nat.mul_le_mul_right _ (by omega)
theorem zfz : ∀ (l : List UInt8) (a : Nat), a ≤ digF a l
  | [], a => Nat.le_refl _
  | c :: l, a => by
    rw [yE]
    exact Nat.le_trans (by omega) (zfz l _)
theorem YE {n : Nat} (h : n < 10) : Lib.decDigits n = [UInt8.ofNat (48 + n)] := by rw [Lib.decDigits, dif_pos h]
theorem zaB {n : Nat} (h : 10 ≤ n) : Lib.decDigits n = Lib.decDigits (n / 10) ++ [UInt8.ofNat (48 + n % 10)] := by rw [Lib.decDigits, dif_neg (by omega)]
theorem zey {c : UInt8} (h : 48 ≤ c.toNat) : UInt8.ofNat (48 + (c.toNat - 48)) = c := by
  have e : 48 + (c.toNat - 48) = c.toNat := by omega
  rw [e, UInt8.ofNat_toNat]
theorem zgx : ∀ (k : Nat) (l : List UInt8), l.length = k + 1 → figL l = true → ¬ (2 ≤ l.length ∧ l.head? = some 48) → Lib.decDigits (digF 0 l) = l
  | 0, l, hk, hf, _ => by
    match l, hk with
    | [c], _ =>
      have hc := Y8 (by simpa [figL] using hf : figI (c.toNat : Int) = true)
      rw [show digF 0 [c] = c.toNat - 48 by rw [yE, YJ]; omega, YE (by omega), zey hc.1]
  | k + 1, l, hk, hf, hh => by
    obtain ⟨p, c, rfl⟩ : ∃ p c, l = p ++ [c] := ⟨l.dropLast, l.getLast (by intro h; rw [h] at hk; simp at hk), (List.dropLast_concat_getLast _).symm⟩
    rw [YV, Bool.and_eq_true] at hf
    have hc := Y8 (by simpa [figL] using hf.2 : figI (c.toNat : Int) = true)
    have hpl : p.length = k + 1 := by simpa using hk
    obtain ⟨x, p2, rfl⟩ : ∃ x p2, p = x :: p2 := by
      cases p with
      | nil => simp at hpl
      | cons x p2 => exact ⟨x, p2, rfl⟩
    have hx : x ≠ 48 := fun e => hh ⟨by simp, by simp [e]⟩
    have ih := zgx k (x :: p2) hpl hf.1 (fun h => hx (by simpa using h.2))
    have hxr := Y8 (by have := hf.1; rw [figL, Bool.and_eq_true] at this; exact this.1 : figI (x.toNat : Int) = true)
    have hx2 : x.toNat ≠ 48 := fun e => hx (UInt8.toNat_inj.1 (by simpa using e))
    have hpos : 1 ≤ digF 0 (x :: p2) := by
      rw [yE]
      exact Nat.le_trans (by omega) (zfz p2 _)
    have e : digF 0 (x :: p2 ++ [c]) = digF 0 (x :: p2) * 10 + (c.toNat - 48) := by rw [zaT, yE, YJ]
    rw [e, zaB (by omega), show (digF 0 (x :: p2) * 10 + (c.toNat - 48)) / 10 = digF 0 (x :: p2) by omega, show (digF 0 (x :: p2) * 10 + (c.toNat - 48)) % 10 = c.toNat - 48 by omega, ih, zey hc.1]
theorem zch : ∀ (k n : Nat), n ≤ k → (Lib.decDigits n).head? = some 48 → n = 0
  | k, n, hk, h => by
    by_cases h9 : n < 10
    · rw [YE h9] at h
      simp only [List.head?_cons, Option.some.injEq] at h
      have := congrArg UInt8.toNat h
      rw [UInt8.toNat_ofNat'] at this
      have e : (48 : UInt8).toNat = 48 := rfl
      omega
    · rw [zaB (by omega)] at h
      have hne : Lib.decDigits (n / 10) ≠ [] := by
        by_cases h9 : n / 10 < 10
        · rw [YE h9]; simp
        · rw [zaB (by omega)]; simp
      cases hd : Lib.decDigits (n / 10) with
      | nil => exact absurd hd hne
      | cons x t =>
        rw [hd] at h
        have : n / 10 = 0 := by
          match k, hk with
          | 0, hk => omega
          | k + 1, hk => exact zch k (n / 10) (by omega) (by rw [hd]; simpa using h)
        omega
theorem zcG (n : Nat) : (numT n).data.toList = Lib.decDigits n := by
  rw [← zdJ, Lib.itoa, if_neg (by omega)]
  simp
theorem zcF {s : ByteArray} (h1 : 1 ≤ s.size) (hf : figL s.data.toList = true) : (numT (digF 0 s.data.toList)).toList = s.toList ↔ ¬ (2 ≤ s.size ∧ s.data.toList.head? = some 48) := by
  have hsz : s.size = s.data.toList.length := zL rfl
  rw [Lib.toList_data, Lib.toList_data, zcG]
  constructor
  · rintro h ⟨h2, h3⟩
    have h0 := zch (digF 0 s.data.toList) _ (Nat.le_refl _) (by rw [h]; exact h3)
    rw [h0] at h
    have : s.data.toList.length = 1 := by rw [← h, YE (by omega)]; rfl
    omega
  · intro h
    exact zgx (s.size - 1) _ (by omega) hf (by rw [← hsz]; exact h)
theorem wrapC {c : UInt8} (h : figI (c.toNat : Int) = true) : IntKind.u8.wrap ((c.toNat : Int) - 48) = ((c.toNat - 48 : Nat) : Int) := by
  have := Y8 h
  simp [IntKind.wrap, IntKind.bits, IntKind.signed]
  omega
def A208 : AC := (.seq (.ops [qO 4 (.mov (iC 0)), qO 5 (.mov (.c (.sc (.bool false))))])
  (.seq (.seq (.ops [qO 8 (.mov (.t 0)), qO 9 (.slen (.t 8)), cO 10 126 [.t 9, iC 1, iC 7], qO 11 (.not (.t 10))])
  (.cond (.t 11) (.seq (.ops [qO 4 (.mov (iC 0)), qO 5 (.mov (.c (.sc (.bool false))))])
  .ret)
  .skip))
  (.seq (.ops [qO 6 (.mov (iC 0))])
  (.seq (.seq (.ops [qO 7 (.mov (iC 0))])
  (.block 0 (.loop (.seq (.seq (.ops [qO 12 (.mov (.t 7)), qO 13 (.mov (.t 0)), qO 14 (.slen (.t 13)), qO 15 (.bin .lss (.t 12) (.t 14))])
  (.cond (.t 15) .skip
  (.exit 0)))
  (.seq (.block 1 (.seq (.seq (.ops [qO 18 (.mov (.t 0)), qO 19 (.mov (.t 7)), qO 20 (.idx (.t 18) (.t 19)), cO 21 125 [.t 20], qO 22 (.not (.t 21))])
  (.cond (.t 22) (.seq (.ops [qO 4 (.mov (iC 0)), qO 5 (.mov (.c (.sc (.bool false))))])
  .ret)
  .skip))
  (.ops [qO 23 (.mov (.t 6)), qO 24 (.bin .mul (.t 23) (iC 10)), qO 25 (.mov (.t 0)), qO 26 (.mov (.t 7)), qO 27 (.idx (.t 25) (.t 26)), qO 28 (.bin .sub (.t 27) (.c (.sc (.int .u8 48)))), qO 29 (.cvi .i64 (.t 28)), qO 30 (.bin .add (.t 24) (.t 29)), qO 6 (.mov (.t 30))])))
  (.ops [qO 16 (.mov (.t 7)), qO 17 (.bin .add (.t 16) (iC 1)), qO 7 (.mov (.t 17))]))))))
  (.seq (.seq (.ops [qO 31 (.mov (.t 6)), cO 32 148 [.t 31], qO 33 (.mov (.t 0)), qO 34 (.bin .neq (.t 32) (.t 33)), qO 35 (.mov (.t 34)), qG 36 35 false (.mov (.t 6)), qG 37 35 false (.mov (.t 1)), qG 38 35 false (.bin .gtr (.t 36) (.t 37)), qO 39 (.pick (.t 35) (.c (.sc (.bool true))) (.t 38))])
  (.cond (.t 39) (.seq (.ops [qO 4 (.mov (iC 0)), qO 5 (.mov (.c (.sc (.bool false))))])
  .ret)
  .skip))
  (.seq (.ops [qO 40 (.mov (.t 6)), qO 4 (.mov (.t 40)), qO 5 (.mov (.c (.sc (.bool true))))])
  .ret))))))
theorem K208 : Kf Tryz.prog Tryz.f208 A208 41 [.mov (.t 4), .mov (.t 5)] := ⟨by kernel_rfl, by kernel_rfl, by kernel_rfl⟩
set_option maxHeartbeats 1000000 in
theorem R208 (s : ByteArray) (most : Int) (hm : Ty.int.ok most) : Ret Tryz.prog 208 [.sc (.string s), .sc (.int .i64 most)] (numA (yp s most)) [.un, .un] := by
  by_cases h7 : 1 ≤ s.size ∧ s.size ≤ 7
  case neg =>
    have e : inR s.size 1 7 = false := by
      have : inR s.size 1 7 = (decide ((1 : Int) ≤ s.size) && decide ((s.size : Int) ≤ 7)) := rfl
      rw [this]
      rcases Classical.em (1 ≤ s.size) with h | h
      · have : ¬ s.size ≤ 7 := fun h2 => h7 ⟨h, h2⟩
        have e1 : ¬ ((s.size : Int) ≤ 7) := by omega
        simp [e1]
      · have e1 : ¬ ((1 : Int) ≤ s.size) := by omega
        simp [e1]
    have en : yp s most = none := if_neg fun h => h7 h.1
    refine Ret.run Tryz.func208 K208 (by simp) rfl rfl 500 ?_
    simp [A208, iniρ]
    refine callK.ro 0 rfl (by kernel_rfl) (by simp [Yc]) (R126 s.size 1 7) rfl rfl rfl ?_
    simp [e, en, numA]
  have e : inR s.size 1 7 = true := by
    have e1 : (1 : Int) ≤ s.size := by omega
    have e2 : (s.size : Int) ≤ 7 := by omega
    simp [inR, e1, e2]
  refine Ret.run Tryz.func208 K208 (by simp) rfl rfl 500 ?_
  simp [A208, iniρ]
  refine callK.ro 0 rfl (by kernel_rfl) (by simp [Yc]) (R126 s.size 1 7) rfl rfl rfl ?_
  simp [e]
  refine T.rounds (μ := fun i : List UInt8 × List UInt8 => i.2.length)
    (fun i t => i.1 ++ i.2 = s.data.toList ∧ figL i.1 = true ∧ t.ρ 0 = .sc (.string s) ∧ t.ρ 1 = .sc (.int .i64 most) ∧ t.ρ 6 = .sc (.int .i64 (digF 0 i.1)) ∧ t.ρ 7 = .sc (.int .i64 i.1.length) ∧ t.n = 41) ([], s.data.toList) (by simp [za, figL, YJ]) ?_
  rintro ⟨pre, rest⟩ ⟨ρ, hh, n⟩ ⟨hx, hE, k0, k1, k6, k7, rfl⟩
  simp only at hx hE k0 k1 k6 k7
  have hsz := zL hx
  have hv := zdj pre 0 hE
  have hpl : pre.length ≤ 7 := by have : s.size = pre.length + rest.length := by rw [hsz]; simp
                                  omega
  have hv2 : digF 0 pre < 10000000 := by
    refine Nat.lt_of_lt_of_le hv ?_
    rw [Nat.zero_add, Nat.one_mul]
    exact Nat.pow_le_pow_right (by omega) hpl
  refine yg (n := 400) ?_
  cases rest with
  | nil =>
    simp at hsz hx
    have hn := R148 (digF 0 pre) (by omega)
    have hpN : yp s most = if ¬ (2 ≤ s.size ∧ s.data.toList.head? = some 48) ∧ (digF 0 pre : Int) ≤ most then some (digF 0 pre) else none := by
      unfold yp
      rw [← hx]
      by_cases c : ¬ (2 ≤ s.size ∧ pre.head? = some 48) ∧ (digF 0 pre : Int) ≤ most
      · rw [if_pos c, if_pos ⟨h7, hE, c.1, c.2⟩]
      · rw [if_neg c, if_neg (fun h => c ⟨h.2.2.1, h.2.2.2⟩)]
    have hcan := zcF (s := s) h7.1 (by rw [← hx]; exact hE)
    rw [← hx] at hcan hpN
    obtain ⟨v, hv3⟩ : ∃ v, v = digF 0 pre := ⟨_, rfl⟩
    rw [← hv3] at hn hpN hcan k6
    simp [k0, k7, hsz]
    refine T.on 400 ?_
    simp [k0, k1, k6]
    refine callK.ro 0 rfl (by kernel_rfl) (by simp [Yc]) hn rfl rfl rfl ?_
    by_cases c : ¬ (2 ≤ s.size ∧ pre.head? = some 48)
    case neg =>
      have c2 : ¬ ((numT v).toList = s.toList) := fun h => c (hcan.1 h)
      rw [hpN, if_neg (fun h => c h.1)]
      simp [k0, c2, numA]
    have c2 : (numT v).toList = s.toList := hcan.2 c
    by_cases d : (v : Int) ≤ most
    · have d2 : ¬ (most < v) := by omega
      rw [hpN, if_pos ⟨c, d⟩]
      simp [k0, k1, k6, c2, d2, numA]
    · have d2 : most < v := by omega
      rw [hpN, if_neg (fun h => d h.2)]
      simp [k0, k1, k6, c2, d2, numA]
  | cons c rest =>
    have hg := zY hx
    simp at hsz
    have hlt : (pre.length : Int) < s.size := by omega
    have hw : IntKind.i64.wrap ((pre.length : Int) + 1) = pre.length + 1 := zc (by omega) (by omega)
    simp [k0, k7, hlt, hg]
    refine callK.ro 0 rfl (by kernel_rfl) (by simp [Yc]) (R125 c) rfl rfl rfl ?_
    cases h1 : figI (c.toNat : Int)
    · have : yp s most = none := by
        unfold yp
        rw [if_neg fun h => ?_]
        have := h.2.1
        rw [← hx, YV, figL, h1] at this
        simp at this
      simp [this, numA]
    · have hc := Y8 h1
      have wc := wrapC h1
      have w10 : IntKind.i64.wrap ((digF 0 pre : Int) * 10) = digF 0 pre * 10 := zc (by omega) (by omega)
      have wd : IntKind.i64.wrap ((c.toNat - 48 : Nat) : Int) = (c.toNat - 48 : Nat) := zc (by omega) (by omega)
      have wa : IntKind.i64.wrap ((digF 0 pre : Int) * 10 + (c.toNat - 48 : Nat)) = digF 0 pre * 10 + (c.toNat - 48 : Nat) := zc (by omega) (by omega)
      have hdf : (digF 0 (pre ++ [c]) : Int) = digF 0 pre * 10 + (c.toNat - 48 : Nat) := by rw [zaT, yE, YJ]; omega
      simp [k0, k6, k7, hw, hg, hlt, wc, w10, wd, wa]
      refine ⟨pre ++ [c], rest, by simp, _, Le.refl _, ?_⟩
      simp [hx, k0, k1, za, YV, figL, hE, h1, hdf]
def A214 : AC := (.seq (.ops [qO 4 (.mov (iC 0)), qO 5 (.mov (.c (.sc (.bool false))))])
  (.seq (.ops [qO 6 (.mov (iC 0))])
  (.seq (.seq (.ops [qO 7 (.mov (iC 0))])
  (.block 0 (.loop (.seq (.seq (.ops [qO 8 (.mov (.t 7)), qO 9 (.mov (.t 0)), qO 10 (.slen (.t 9)), qO 11 (.bin .lss (.t 8) (.t 10)), qO 12 (.mov (.t 11)), qG 13 12 true (.mov (.t 7)), qG 14 12 true (.bin .lss (.t 13) (iC 8)), qO 15 (.pick (.t 12) (.t 14) (.c (.sc (.bool false))))])
  (.cond (.t 15) .skip
  (.exit 0)))
  (.seq (.block 1 (.seq (.seq (.ops [qO 18 (.mov (.t 0)), qO 19 (.mov (.t 7)), qO 20 (.idx (.t 18) (.t 19)), cO 21 187 [.t 20], qO 22 (.not (.t 21))])
  (.cond (.t 22) (.seq (.ops [qO 4 (.mov (iC 0)), qO 5 (.mov (.c (.sc (.bool false))))])
  .ret)
  .skip))
  (.ops [qO 23 (.mov (.t 6)), qO 24 (.bin .mul (.t 23) (iC 10)), qO 25 (.mov (.t 0)), qO 26 (.mov (.t 7)), qO 27 (.idx (.t 25) (.t 26)), qO 28 (.bin .sub (.t 27) (.c (.sc (.int .u8 48)))), qO 29 (.cvi .i64 (.t 28)), qO 30 (.bin .add (.t 24) (.t 29)), qO 6 (.mov (.t 30))])))
  (.ops [qO 16 (.mov (.t 7)), qO 17 (.bin .add (.t 16) (iC 1)), qO 7 (.mov (.t 17))]))))))
  (.seq (.seq (.ops [qO 31 (.mov (.t 0)), qO 32 (.slen (.t 31)), cO 33 143 [.t 32, iC 1, iC 7], qO 34 (.not (.t 33)), qO 35 (.mov (.t 34)), qG 36 35 false (.mov (.t 0)), qG 37 35 false (.slen (.t 36)), qG 38 35 false (.bin .gtr (.t 37) (iC 1)), qG 39 35 false (.mov (.t 38)), qG 40 39 true (.mov (.t 0)), qG 41 39 true (.idx (.t 40) (iC 0)), qG 42 39 true (.bin .eql (.t 41) (.c (.sc (.int .u8 48)))), qG 43 35 false (.pick (.t 39) (.t 42) (.c (.sc (.bool false)))), qO 44 (.pick (.t 35) (.c (.sc (.bool true))) (.t 43)), qO 45 (.mov (.t 44)), qG 46 45 false (.mov (.t 6)), qG 47 45 false (.mov (.t 1)), qG 48 45 false (.bin .gtr (.t 46) (.t 47)), qO 49 (.pick (.t 45) (.c (.sc (.bool true))) (.t 48))])
  (.cond (.t 49) (.seq (.ops [qO 4 (.mov (iC 0)), qO 5 (.mov (.c (.sc (.bool false))))])
  .ret)
  .skip))
  (.seq (.ops [qO 50 (.mov (.t 6)), qO 4 (.mov (.t 50)), qO 5 (.mov (.c (.sc (.bool true))))])
  .ret)))))
theorem K214 : Kf Tryz.prog Tryz.f214 A214 51 [.mov (.t 4), .mov (.t 5)] := ⟨by kernel_rfl, by kernel_rfl, by kernel_rfl⟩
set_option maxHeartbeats 2000000 in
theorem R214 (s : ByteArray) (most : Int) (hm : Ty.int.ok most) (hs : s.size ≤ 140737488351232) : Ret Tryz.prog 214 [.sc (.string s), .sc (.int .i64 most)] (numA (yp s most)) [.un, .un] := by
  refine Ret.run Tryz.func214 K214 (by simp) rfl rfl 500 ?_
  simp [A214, iniρ]
  refine T.rounds (μ := fun i : List UInt8 × List UInt8 => i.2.length)
    (fun i t => i.1 ++ i.2 = s.data.toList ∧ figL i.1 = true ∧ i.1.length ≤ 8 ∧ t.ρ 0 = .sc (.string s) ∧ t.ρ 1 = .sc (.int .i64 most) ∧ t.ρ 6 = .sc (.int .i64 (digF 0 i.1)) ∧ t.ρ 7 = .sc (.int .i64 i.1.length) ∧ t.n = 51) ([], s.data.toList) (by simp [za, figL, YJ]) ?_
  rintro ⟨pre, rest⟩ ⟨ρ, hh, n⟩ ⟨hx, hE, hpl, k0, k1, k6, k7, rfl⟩
  simp only at hx hE hpl k0 k1 k6 k7
  have hsz := zL hx
  have hv := zdj pre 0 hE
  have hv2 : digF 0 pre < 100000000 := by
    refine Nat.lt_of_lt_of_le hv ?_
    rw [Nat.zero_add, Nat.one_mul]
    exact Nat.pow_le_pow_right (by omega) hpl
  refine yg (n := 400) ?_
  by_cases h8 : pre.length < 8
  case neg =>
    have h8' : ¬ ((pre.length : Int) < 8) := by omega
    have h9 : 8 ≤ s.size := by rw [hsz]; simp; omega
    have e : inR s.size 1 7 = false := by
      have : inR s.size 1 7 = (decide ((1 : Int) ≤ s.size) && decide ((s.size : Int) ≤ 7)) := rfl
      have e1 : ¬ ((s.size : Int) ≤ 7) := by omega
      rw [this]; simp [e1]
    have en : yp s most = none := if_neg fun h => by omega
    by_cases hlt : (pre.length : Int) < s.size
    · simp [k0, k7, hlt, h8']
      refine T.on 400 ?_
      simp [k0]
      refine callK.ro 0 rfl (by kernel_rfl) (by simp [Yc]) (R143 s.size 1 7) rfl rfl rfl ?_
      simp [e, en, numA]
    · simp [k0, k7, hlt]
      refine T.on 400 ?_
      simp [k0]
      refine callK.ro 0 rfl (by kernel_rfl) (by simp [Yc]) (R143 s.size 1 7) rfl rfl rfl ?_
      simp [e, en, numA]
  have h8' : (pre.length : Int) < 8 := by omega
  cases rest with
  | nil =>
    simp at hsz hx
    have hlt : ¬ ((pre.length : Int) < s.size) := by omega
    have hpN : yp s most = if (1 ≤ s.size ∧ s.size ≤ 7) ∧ ¬ (2 ≤ s.size ∧ s.data.toList.head? = some 48) ∧ (digF 0 pre : Int) ≤ most then some (digF 0 pre) else none := by
      unfold yp
      rw [← hx]
      by_cases c : (1 ≤ s.size ∧ s.size ≤ 7) ∧ ¬ (2 ≤ s.size ∧ pre.head? = some 48) ∧ (digF 0 pre : Int) ≤ most
      · rw [if_pos c, if_pos ⟨c.1, hE, c.2.1, c.2.2⟩]
      · rw [if_neg c, if_neg (fun h => c ⟨h.1, h.2.2.1, h.2.2.2⟩)]
    obtain ⟨v, hv3⟩ : ∃ v, v = digF 0 pre := ⟨_, rfl⟩
    rw [← hv3] at hpN k6
    have hin : inR s.size 1 7 = decide (1 ≤ s.size ∧ s.size ≤ 7) := by
      have : inR s.size 1 7 = (decide ((1 : Int) ≤ s.size) && decide ((s.size : Int) ≤ 7)) := rfl
      rw [this, ← Bool.decide_and]
      congr 1
      apply propext
      constructor <;> intro h <;> constructor <;> omega
    by_cases h7 : 1 ≤ s.size ∧ s.size ≤ 7
    case neg =>
      have en : yp s most = none := by rw [hpN, if_neg fun h => h7 h.1]
      have e : inR s.size 1 7 = false := by rw [hin]; exact decide_eq_false h7
      simp [k0, k7, hlt]
      refine T.on 400 ?_
      simp [k0]
      refine callK.ro 0 rfl (by kernel_rfl) (by simp [Yc]) (R143 s.size 1 7) rfl rfl rfl ?_
      simp [e, en, numA]
    have e : inR s.size 1 7 = true := by rw [hin]; exact decide_eq_true h7
    obtain ⟨x, p2, hp⟩ : ∃ x p2, pre = x :: p2 := by
      cases pre with
      | nil => have e0 : s.size = 0 := hsz; omega
      | cons x p2 => exact ⟨x, p2, rfl⟩
    have hg0 : s[0]? = some x := zY (pre := []) (rest := p2) (by rw [List.nil_append, ← hp, hx])
    have hpos : (0 : Int) < s.size := by omega
    have x48 : ((x.toNat : Int) = 48) ↔ x = 48 := ⟨fun h => UInt8.toNat_inj.1 (by have e : (48 : UInt8).toNat = 48 := rfl; omega), fun h => by rw [h]; rfl⟩
    have hhd : s.data.toList.head? = some x := by rw [← hx, hp]; rfl
    rw [hhd] at hpN
    by_cases g1 : 1 < s.size
    · have g1' : (1 : Int) < s.size := by omega
      by_cases g2 : x = 48
      · have g2' : (x.toNat : Int) = 48 := x48.2 g2
        have en : yp s most = none := by rw [hpN, if_neg fun h => h.2.1 ⟨by omega, by rw [g2]⟩]
        simp [k0, k7, hlt]
        refine T.on 400 ?_
        simp [k0]
        refine callK.ro 0 rfl (by kernel_rfl) (by simp [Yc]) (R143 s.size 1 7) rfl rfl rfl ?_
        simp [k0, e, en, g1', g2', hg0, hpos, numA]
      · have g2' : ¬ ((x.toNat : Int) = 48) := fun h => g2 (x48.1 h)
        by_cases d : (v : Int) ≤ most
        · have d2 : ¬ (most < v) := by omega
          have en : yp s most = some v := by rw [hpN, if_pos ⟨h7, fun h => g2 (by simpa using h.2), d⟩]
          simp [k0, k7, hlt]
          refine T.on 400 ?_
          simp [k0]
          refine callK.ro 0 rfl (by kernel_rfl) (by simp [Yc]) (R143 s.size 1 7) rfl rfl rfl ?_
          simp [k0, k1, k6, e, en, g1', g2', d2, hg0, hpos, numA]
        · have d2 : most < v := by omega
          have en : yp s most = none := by rw [hpN, if_neg fun h => d h.2.2]
          simp [k0, k7, hlt]
          refine T.on 400 ?_
          simp [k0]
          refine callK.ro 0 rfl (by kernel_rfl) (by simp [Yc]) (R143 s.size 1 7) rfl rfl rfl ?_
          simp [k0, k1, k6, e, en, g1', g2', d2, hg0, hpos, numA]
    · have g1' : ¬ (1 : Int) < s.size := by omega
      by_cases d : (v : Int) ≤ most
      · have d2 : ¬ (most < v) := by omega
        have en : yp s most = some v := by rw [hpN, if_pos ⟨h7, fun h => by omega, d⟩]
        simp [k0, k7, hlt]
        refine T.on 400 ?_
        simp [k0]
        refine callK.ro 0 rfl (by kernel_rfl) (by simp [Yc]) (R143 s.size 1 7) rfl rfl rfl ?_
        simp [k0, k1, k6, e, en, g1', d2, numA]
      · have d2 : most < v := by omega
        have en : yp s most = none := by rw [hpN, if_neg fun h => d h.2.2]
        simp [k0, k7, hlt]
        refine T.on 400 ?_
        simp [k0]
        refine callK.ro 0 rfl (by kernel_rfl) (by simp [Yc]) (R143 s.size 1 7) rfl rfl rfl ?_
        simp [k0, k1, k6, e, en, g1', d2, numA]
  | cons c rest =>
    have hg := zY hx
    simp at hsz
    have hlt : (pre.length : Int) < s.size := by omega
    have hw : IntKind.i64.wrap ((pre.length : Int) + 1) = pre.length + 1 := zc (by omega) (by omega)
    simp [k0, k7, hlt, h8', hg]
    refine callK.ro 0 rfl (by kernel_rfl) (by simp [Yc]) (R187 c) rfl rfl rfl ?_
    cases h1 : figI (c.toNat : Int)
    · have : yp s most = none := by
        unfold yp
        rw [if_neg fun h => ?_]
        have := h.2.1
        rw [← hx, YV, figL, h1] at this
        simp at this
      simp [this, numA]
    · have hc := Y8 h1
      have wc := wrapC h1
      have w10 : IntKind.i64.wrap ((digF 0 pre : Int) * 10) = digF 0 pre * 10 := zc (by omega) (by omega)
      have wd : IntKind.i64.wrap ((c.toNat - 48 : Nat) : Int) = (c.toNat - 48 : Nat) := zc (by omega) (by omega)
      have wa : IntKind.i64.wrap ((digF 0 pre : Int) * 10 + (c.toNat - 48 : Nat)) = digF 0 pre * 10 + (c.toNat - 48 : Nat) := zc (by omega) (by omega)
      have hdf : (digF 0 (pre ++ [c]) : Int) = digF 0 pre * 10 + (c.toNat - 48 : Nat) := by rw [zaT, yE, YJ]; omega
      simp [k0, k6, k7, hw, hg, hlt, wc, w10, wd, wa]
      refine ⟨pre ++ [c], rest, by simp, _, Le.refl _, ?_⟩
      simp [hx, k0, k1, za, YV, figL, hE, h1, hdf]
      omega
def putFs : List Int → List File → List Int
  | b, [] => b
  | b, f :: l => putFs (putT (putT b f.path) f.text) l
def putFl (b : List Int) (l : List File) : List Int := putFs (putT b (numT l.length)) l
def fw : List File → Nat
  | [] => 0
  | f :: l => f.path.size + f.text.size + 4 + fw l
theorem Yj (b : List Int) (s : ByteArray) : (putT b s).length ≤ b.length + s.size + 2 := by
  unfold putT
  split
  · have := zad s
    simp only [List.length_append, hiL, List.length_cons, List.length_nil, this]; omega
  · omega
theorem zdC : ∀ (l : List File) (b : List Int), (putFs b l).length ≤ b.length + fw l
  | [], b => Nat.le_refl _
  | f :: l, b => by
    have h1 := Yj b f.path
    have h2 := Yj (putT b f.path) f.text
    have h3 := zdC l (putT (putT b f.path) f.text)
    rw [putFs, fw]; omega
theorem B_fl (b : List Int) : flt (.own (rows B b) b.length 1) = true := B.flo b
theorem B_cnt (b : List Int) : (rows B b).length = b.length * 1 := by rw [Nat.mul_one]; exact B.count b
def A149 : AC := (.seq (.ops [qO 4 (.mov (.c .em))])
  (.seq (.ops [qO 7 (.mov (.t 0)), qO 8 (.mov (.t 1)), qO 9 (.llen (.t 8)), cO 10 148 [.t 9], cO 11 147 [.t 7, .t 10], qO 0 (.mov (.t 11))])
  (.seq (.seq (.ops [qO 12 (.mov (.t 1)), qO 13 (.llen (.t 12)), qO 14 (.mov (iC 0))])
  (.block 0 (.loop (.seq (.ops [qO 15 (.bin .lss (.t 14) (.t 13))])
  (.seq (.cond (.t 15) .skip
  (.exit 0))
  (.seq (.block 1 (.seq (.ops [qO 16 (.iadr 2 (.t 12) (.t 14)), qO 17 (.load true 2 (.t 16)), wO 6 (.alloc [(.sc (.string ⟨#[]⟩)), (.sc (.string ⟨#[]⟩))]), nO (.store 2 (.t 6) (.t 17))])
  (.any [(qO 18 (.mov (.t 0)), []), (qO 19 (.fadr 0 (.t 6)), []), (qO 20 (.load false 1 (.t 19)), [1]), (cO 21 147 [.t 18, .t 20], [0, 2]), (qO 22 (.fadr 1 (.t 6)), []), (qO 23 (.load false 1 (.t 22)), [4]), (cO 24 147 [.t 21, .t 23], [3, 5, 3]), (qO 0 (.mov (.t 24)), [6, 6, 0, 1, 2, 3, 4, 5, 6])])))
  (.ops [qO 25 (.bin .add (.t 14) (iC 1)), qO 14 (.mov (.t 25))])))))))
  (.seq (.ops [qO 26 (.mov (.t 0)), qO 4 (.mov (.t 26))])
  .ret))))
theorem K149 : Kf Tryz.prog Tryz.f149 A149 27 [.mov (.t 4)] := ⟨by kernel_rfl, by kernel_rfl, by kernel_rfl⟩
set_option maxHeartbeats 2000000 in
theorem R149 (b : List Int) (xs : List File) (hn : xs.length < 4611686018427387904) (hb : b.length + xs.length + 10 + fw xs ≤ 140737488350000) : Ret Tryz.prog 149 [.own (rows B b) b.length 1, .ro (rows File.ty.cs xs) xs.length] (.own (rows B (putFl b xs)) (putFl b xs).length 1) [.un, .un] := by
  have hns := Zi xs.length
  have hpl := Yj b (numT xs.length)
  refine Ret.run Tryz.func149 K149 (by simp) rfl rfl 900 ?_
  simp [A149, iniρ]
  refine callK.ro 0 rfl (by kernel_rfl) (by simp [Yc]) (R148 xs.length hn) rfl rfl rfl ?_
  simp
  refine callK.mv1 11 100000 rfl (by kernel_rfl) (by simp [za]) (by simp [za]) (B_cnt _) (Zd B.fr _) (by simp [za, Yc]) (R147 b (numT xs.length) (by omega)) (B_fl _) (by simp [inst, za]; exact ⟨rfl, rfl⟩) rfl ?_
  simp
  refine T.le (Le.reseat [0, 1, 12, 13, 14] [(11, 60)] (by simp) (by simp [za, menB, zb]) (by
    intro c hc cs hcs
    simp at hc
    subst hc
    simp [za] at hcs
    subst hcs
    exact yd (Zd B.fr _))) ?_
  refine T.rounds (μ := fun i : List File × List File × List Int => i.2.1.length)
    (fun i s => i.1 ++ i.2.1 = xs ∧ putFs i.2.2 i.2.1 = putFl b xs ∧ i.2.2.length + fw i.2.1 ≤ 140737488350000 ∧ s.ρ 0 = .sl 60 0 i.2.2.length 1 false ∧ s.ρ 12 = .ro (rows File.ty.cs xs) xs.length ∧ s.ρ 13 = .sc (.int .i64 xs.length) ∧ s.ρ 14 = .sc (.int .i64 i.1.length) ∧ s.h 60 = some (some (rows B i.2.2)) ∧ (∀ c, c ≠ 60 → s.h c = none) ∧ s.n = 27) ([], xs, putT b (numT xs.length)) (by simp [za, putFl]; exact ⟨by omega, fun c hc => by rw [if_neg (fun e => hc e.symm)]⟩) ?_
  rintro ⟨pre, rest, cur⟩ ⟨ρ, hh, n⟩ ⟨hx, hE, hw, k0, k12, k13, k14, b60, bf, rfl⟩
  simp only at hx hE hw k0 k12 k13 k14 b60 bf
  refine yg (n := 400) ?_
  cases rest with
  | nil =>
    have hxl : pre.length = xs.length := by rw [← hx]; simp
    have hE : cur = putFl b xs := hE
    simp [k13, k14, hxl]
    refine T.on 400 ?_
    simp [k0, b60, hE, ex1, B.count, Zd B.fr]
  | cons x rest =>
    have hle : pre.length + (rest.length + 1) = xs.length := by rw [← hx]; simp
    have hlt : (pre.length : Int) < xs.length := by omega
    have hwr : IntKind.i64.wrap ((pre.length : Int) + 1) = pre.length + 1 := zc (by omega) (by omega)
    have hd := ye File.ty.csn pre (x :: rest)
    rw [hx, yc] at hd
    have hd : List.drop (pre.length * 2) (rows File.ty.cs xs) = AV.sc (.string x.path) :: AV.sc (.string x.text) :: rows File.ty.cs rest := hd
    have f6 := bf 6 (by decide)
    have f21 := bf 21 (by decide)
    have f24 := bf 24 (by decide)
    rw [fw] at hw
    have p1 := Yj cur x.path
    have p2 := Yj (putT cur x.path) x.text
    simp [k0, k12, k13, k14, hlt, hd, f6, over]
    refine T.textW 400 [([], []), ([], []), ([], []), ([60, 21], []), ([], [21, 60]), ([], [21, 60]), ([21, 24], []), ([], [])] mixed (by kernel_rfl) (by kernel_rfl) ?_
    simp [k0, Zb, yb]
    refine yf.mv1 21 60 rfl (by kernel_rfl) (by simp [za]) (by simp [za, Za, b60]) (B_cnt _) (Zd B.fr _) (by simp [za, Yc]) (R147 cur x.path (by omega)) (B_fl _) (by simp [inst, za, Za, f21]; exact ⟨rfl, rfl⟩) (by rfl) ?_
    simp [Zb, yb]
    refine yf.mv1 24 21 rfl (by kernel_rfl) (by simp [za]) (by simp [za, Za]) (B_cnt _) (Zd B.fr _) (by simp [za, Yc]) (R147 (putT cur x.path) x.text (by omega)) (B_fl _) (by simp [inst, za, Za, f24]; exact ⟨rfl, rfl⟩) (by rfl) ?_
    simp [k14, hwr, Zb, yb]
    refine ⟨pre ++ [x], rest, by simp, putT (putT cur x.path) x.text, _, Le.reseat [0, 12, 13, 14] [(24, 60)] (by simp) (by simp [za, menB, zb, k12, k13]) ?_, by simpa using hx, hE, by omega, ?_⟩
    · intro c hc cs hcs
      simp at hc
      subst hc
      simp [za] at hcs
      subst hcs
      exact yd (Zd B.fr _)
    · simp [za, k12, k13]
      intro c hc
      rw [if_neg (fun e => hc e.symm)]
def A140 : AC := (.seq (.ops [qO 4 (.mov (.c .em))])
  (.seq (.ops [qO 5 (.mov (.t 0)), qO 6 (.mov (.t 1)), cO 7 134 [.t 6], cO 8 141 [.t 5, .t 7], qO 4 (.mov (.t 8))])
  .ret))
theorem K140 : Kf Tryz.prog Tryz.f140 A140 9 [.mov (.t 4)] := ⟨by kernel_rfl, by kernel_rfl, by kernel_rfl⟩
theorem R140 (b : List Int) (n : Nat) (hn : n < 4611686018427387904) (hb : b.length + n + 10 ≤ 140737488350000) : Ret Tryz.prog 140 [.ro (rows B b) b.length, .sc (.int .i64 n)] (.own (rows B (putT b (numT n))) (putT b (numT n)).length 1) [.un, .un] := by
  have hns := Zi n
  refine Ret.run Tryz.func140 K140 (by simp) rfl rfl 900 ?_
  simp [A140, iniρ]
  refine callK.ro 0 rfl (by kernel_rfl) (by simp [Yc]) (R134 n hn) rfl rfl rfl ?_
  simp
  refine callK.own 8 rfl (by kernel_rfl) (by simp [Yc, ze]) (R141 b (numT n) (by omega)) (B_fl _) (by simp) rfl ?_
  simp [ex1, B.count, Zd B.fr]
def A142 : AC := (.seq (.ops [qO 4 (.mov (.c .em))])
  (.seq (.ops [qO 6 (.mov (.t 0)), qO 7 (.mov (.t 1)), qO 8 (.llen (.t 7)), cO 9 140 [.t 6, .t 8], qO 0 (.mov (.t 9))])
  (.seq (.seq (.ops [qO 5 (.mov (iC 0))])
  (.block 0 (.loop (.seq (.seq (.ops [qO 10 (.mov (.t 5)), qO 11 (.mov (.t 1)), qO 12 (.llen (.t 11)), qO 13 (.bin .lss (.t 10) (.t 12))])
  (.cond (.t 13) .skip
  (.exit 0)))
  (.seq (.block 1 (.any [(qO 16 (.mov (.t 0)), []), (qO 17 (.mov (.t 1)), []), (qO 18 (.mov (.t 5)), []), (qO 19 (.iadr 2 (.t 17) (.t 18)), [1, 2]), (qO 20 (.fadr 0 (.t 19)), [3]), (qO 21 (.load false 1 (.t 20)), [4]), (cO 22 141 [.t 16, .t 21], [0, 5]), (qO 23 (.mov (.t 1)), []), (qO 24 (.mov (.t 5)), []), (qO 25 (.iadr 2 (.t 23) (.t 24)), [7, 8]), (qO 26 (.fadr 1 (.t 25)), [9]), (qO 27 (.load false 1 (.t 26)), [10]), (cO 28 141 [.t 22, .t 27], [6, 11, 6]), (qO 0 (.mov (.t 28)), [12, 12, 0, 1, 2, 3, 4, 5, 6, 7, 8, 9, 10, 11, 12])]))
  (.ops [qO 14 (.mov (.t 5)), qO 15 (.bin .add (.t 14) (iC 1)), qO 5 (.mov (.t 15))]))))))
  (.seq (.ops [qO 29 (.mov (.t 0)), qO 4 (.mov (.t 29))])
  .ret))))
theorem K142 : Kf Tryz.prog Tryz.f142 A142 30 [.mov (.t 4)] := ⟨by kernel_rfl, by kernel_rfl, by kernel_rfl⟩
set_option maxHeartbeats 2000000 in
theorem R142 (b : List Int) (xs : List File) (hn : xs.length < 4611686018427387904) (hb : b.length + xs.length + 10 + fw xs ≤ 140737488350000) : Ret Tryz.prog 142 [.ro (rows B b) b.length, .ro (rows File.ty.cs xs) xs.length] (.own (rows B (putFl b xs)) (putFl b xs).length 1) [.un, .un] := by
  have hns := Zi xs.length
  have hpl := Yj b (numT xs.length)
  refine Ret.run Tryz.func142 K142 (by simp) rfl rfl 900 ?_
  simp [A142, iniρ]
  refine callK.own 9 rfl (by kernel_rfl) (by simp [Yc, ze]) (R140 b xs.length hn (by omega)) (B_fl _) (by simp) rfl ?_
  simp
  refine T.le (Le.reseat [0, 1, 5] [(9, 60)] (by simp) (by simp [za, menB, zb]) (by
    intro c hc cs hcs
    simp at hc
    subst hc
    simp [za] at hcs
    subst hcs
    exact yd (Zd B.fr _))) ?_
  refine T.rounds (μ := fun i : List File × List File × List Int => i.2.1.length)
    (fun i s => i.1 ++ i.2.1 = xs ∧ putFs i.2.2 i.2.1 = putFl b xs ∧ i.2.2.length + fw i.2.1 ≤ 140737488350000 ∧ s.ρ 0 = .sl 60 0 i.2.2.length 1 false ∧ s.ρ 1 = .ro (rows File.ty.cs xs) xs.length ∧ s.ρ 5 = .sc (.int .i64 i.1.length) ∧ s.h 60 = some (some (rows B i.2.2)) ∧ (∀ c, c ≠ 60 → s.h c = none) ∧ s.n = 30) ([], xs, putT b (numT xs.length)) (by simp [za, putFl]; exact ⟨by omega, fun c hc => by rw [if_neg (fun e => hc e.symm)]⟩) ?_
  rintro ⟨pre, rest, cur⟩ ⟨ρ, hh, n⟩ ⟨hx, hE, hw, k0, k1, k5, b60, bf, rfl⟩
  simp only at hx hE hw k0 k1 k5 b60 bf
  refine yg (n := 400) ?_
  cases rest with
  | nil =>
    have hxl : pre.length = xs.length := by rw [← hx]; simp
    have hE : cur = putFl b xs := hE
    simp [k1, k5, hxl]
    refine T.on 400 ?_
    simp [k0, b60, hE, ex1, B.count, Zd B.fr]
  | cons x rest =>
    have hle : pre.length + (rest.length + 1) = xs.length := by rw [← hx]; simp
    have hlt : (pre.length : Int) < xs.length := by omega
    have hwr : IntKind.i64.wrap ((pre.length : Int) + 1) = pre.length + 1 := zc (by omega) (by omega)
    have hd := ye File.ty.csn pre (x :: rest)
    rw [hx, yc] at hd
    have hd : List.drop (pre.length * 2) (rows File.ty.cs xs) = AV.sc (.string x.path) :: AV.sc (.string x.text) :: rows File.ty.cs rest := hd
    have hd1 : List.drop (pre.length * 2 + 1) (rows File.ty.cs xs) = AV.sc (.string x.text) :: rows File.ty.cs rest := by rw [← List.drop_drop, hd]; rfl
    have f22 := bf 22 (by decide)
    have f28 := bf 28 (by decide)
    rw [fw] at hw
    have p1 := Yj cur x.path
    have p2 := Yj (putT cur x.path) x.text
    have r60 : ∀ (h : Hp), h 60 = some (some (rows B cur)) → roc h 8 (.sl 60 0 cur.length 1 false) = some (.ro (rows B cur) cur.length) := fun h e => B.roc e
    have r22 : ∀ (h : Hp), h 22 = some (some (rows B (putT cur x.path))) → roc h 8 (.sl 22 0 (putT cur x.path).length 1 false) = some (.ro (rows B (putT cur x.path)) (putT cur x.path).length) := fun h e => B.roc e
    simp [k1, k5, hlt]
    refine T.textW 400 [([], []), ([], []), ([], []), ([], []), ([], []), ([], []), ([22], []), ([], [22]), ([], [22]), ([], [22]), ([], [22]), ([], [22]), ([28], []), ([], [])] mixed (by kernel_rfl) (by kernel_rfl) ?_
    simp [k0, k1, k5, hlt, hd, Zb, yb]
    refine yf.ro 22 rfl (by kernel_rfl) (by simp [za, Yc, Za, r60, b60]) (R141 cur x.path (by omega)) (B_fl _) (by simp [inst, za, Za, f22]; exact ⟨rfl, rfl⟩) (by rfl) ?_
    simp [k0, k1, k5, hlt, hd1, Zb, yb]
    refine yf.ro 28 rfl (by kernel_rfl) (by simp [za, Yc, Za, r22]) (R141 (putT cur x.path) x.text (by omega)) (B_fl _) (by simp [inst, za, Za, f28]; exact ⟨rfl, rfl⟩) (by rfl) ?_
    simp [k5, hwr, Zb, yb]
    refine ⟨pre ++ [x], rest, by simp, putT (putT cur x.path) x.text, _, Le.reseat [0, 1, 5] [(28, 60)] (by simp) (by simp [za, menB, zb, k1]) ?_, by simpa using hx, hE, by omega, ?_⟩
    · intro c hc cs hcs
      simp at hc
      subst hc
      simp [za] at hcs
      subst hcs
      exact yd (Zd B.fr _)
    · simp [za, k1]
      intro c hc
      rw [if_neg (fun e => hc e.symm)]
def bodyM (m : Made) : List Int := putFl (putT (putT [] m.task) m.log) m.outs
def sumsL (n : Int) : List Int := [n / 256 % 256, n % 256]
def putM (m : Made) : List Int := bodyM m ++ sumsL (bodyM m).sum
def mw (m : Made) : Nat := m.task.size + m.log.size + m.outs.length + 30 + fw m.outs
theorem zaU (m : Made) : (bodyM m).length + 1 ≤ mw m := by
  have h1 := Yj [] m.task
  have h2 := Yj (putT [] m.task) m.log
  have h3 := Yj (putT (putT [] m.task) m.log) (numT m.outs.length)
  have h4 := Zi m.outs.length
  have h5 := zdC m.outs (putT (putT (putT [] m.task) m.log) (numT m.outs.length))
  simp only [List.length_nil] at h1
  unfold bodyM putFl mw
  omega
def byteL (b : List Int) : Prop := ∀ x ∈ b, 0 ≤ x ∧ x ≤ 255
theorem zbZ (s : ByteArray) : byteL (sB s) := fun x hx => by
  obtain ⟨c, _, rfl⟩ := List.mem_map.1 hx
  have := c.toNat_lt
  omega
theorem zbr {a b : List Int} (ha : byteL a) (hb : byteL b) : byteL (a ++ b) := fun x hx => (List.mem_append.1 hx).elim (ha x) (hb x)
theorem zf4 {n : Nat} (h : n ≤ 60000) : byteL (hiL n) := fun x hx => by
  simp only [hiL, List.mem_cons, List.not_mem_nil, or_false] at hx
  rcases hx with rfl | rfl <;> omega
theorem yR {b : List Int} (hb : byteL b) (s : ByteArray) : byteL (putT b s) := by
  unfold putT
  split
  · rename_i h
    exact zbr hb (zbr (zf4 h) (zbZ s))
  · exact hb
theorem zbD : ∀ (l : List File) {b : List Int}, byteL b → byteL (putFs b l)
  | [], _, h => h
  | f :: l, _, h => zbD l (yR (yR h _) _)
theorem zaE (m : Made) : byteL (bodyM m) := zbD _ (yR (yR (yR (fun x hx => by cases hx) _) _) _)
theorem zea (n : Int) : byteL (sumsL n) := fun x hx => by
  simp only [sumsL, List.mem_cons, List.not_mem_nil, or_false] at hx
  rcases hx with rfl | rfl <;> omega
theorem zaj (m : Made) : byteL (putM m) := zbr (zaE m) (zea _)
theorem zbU : ∀ {b : List Int}, byteL b → 0 ≤ b.sum ∧ b.sum ≤ 255 * b.length
  | [], _ => by simp
  | x :: b, h => by
    have h1 := h x (by simp)
    have h2 := zbU (b := b) fun y hy => h y (List.mem_cons_of_mem _ hy)
    simp only [List.sum_cons, List.length_cons]
    omega
theorem zet {n : Int} (h0 : 0 ≤ n) : IntKind.u8.wrap (n.fdiv (2 ^ min 8 IntKind.i64.bits)) = n / 256 % 256 := by
  have e : n.fdiv (2 ^ min 8 IntKind.i64.bits) = n / 256 := by
    rw [Int.fdiv_eq_ediv_of_nonneg _ (by decide)]; rfl
  rw [e]; rfl
theorem zes (n : Int) : IntKind.u8.wrap n = n % 256 := rfl
def A151 : AC := (.seq (.ops [wO 1 (.box (.t 0)), qO 2 (.mov (.c .em))])
  (.seq (.any [(qO 7 (.fadr 0 (.t 1)), []), (qO 8 (.load false 1 (.t 7)), [0]), (cO 9 147 [(.c .em), .t 8], [1]), (qO 10 (.fadr 2 (.t 1)), []), (qO 11 (.load false 1 (.t 10)), [3]), (cO 12 147 [.t 9, .t 11], [2, 4, 2]), (qO 13 (.fadr 1 (.t 1)), []), (qO 14 (.load false 1 (.t 13)), [6]), (cO 15 149 [.t 12, .t 14], [5, 7, 5]), (qO 3 (.mov (.t 15)), [8, 8, 0, 1, 2, 3, 4, 5, 6, 7, 8])])
  (.seq (.ops [qO 4 (.mov (iC 0))])
  (.seq (.seq (.ops [qO 16 (.mov (.t 3)), qO 17 (.llen (.t 16)), qO 18 (.mov (iC 0))])
  (.block 0 (.loop (.seq (.ops [qO 19 (.bin .lss (.t 18) (.t 17))])
  (.seq (.cond (.t 19) .skip
  (.exit 0))
  (.seq (.block 1 (.seq (.ops [qO 20 (.iadr 1 (.t 16) (.t 18)), qO 21 (.load false 1 (.t 20)), qO 6 (.mov (.t 21))])
  (.ops [qO 22 (.mov (.t 4)), qO 23 (.mov (.t 6)), qO 24 (.cvi .i64 (.t 23)), qO 25 (.bin .add (.t 22) (.t 24)), qO 4 (.mov (.t 25))])))
  (.ops [qO 26 (.bin .add (.t 18) (iC 1)), qO 18 (.mov (.t 26))])))))))
  (.seq (.ops [qO 27 (.mov (.t 3)), qO 28 (.mov (.t 4)), qO 29 (.bin .shr (.t 28) (.c (.sc (.int .u64 8)))), qO 30 (.cvi .u8 (.t 29)), qO 31 (.mov (.t 4)), qO 32 (.cvi .u8 (.t 31)), wO 33 (.bsl 1 2 [(.sc (.int .u8 0)), (.sc (.int .u8 0))] [(0, 1, (.t 30)), (1, 1, (.t 32))]), wO 34 (.app 1 1 false (.t 27) (.t 33)), qO 2 (.mov (.t 34))])
  .ret)))))
theorem K151 : Kf Tryz.prog Tryz.f151 A151 35 [.mov (.t 2)] := ⟨by kernel_rfl, by kernel_rfl, by kernel_rfl⟩
set_option maxHeartbeats 2000000 in
theorem R151 (m : Made) (hn : m.outs.length < 4611686018427387904) (hb : mw m ≤ 140737488350000) : Ret Tryz.prog 151 [.agg (Made.ty.cs m)] (.own (rows B (putM m)) (putM m).length 1) [.un] := by
  have h1 := Yj [] m.task
  have h2 := Yj (putT [] m.task) m.log
  have hbl := zaU m
  have hw : mw m = m.task.size + m.log.size + m.outs.length + 30 + fw m.outs := rfl
  simp only [List.length_nil] at h1
  have r1 := R147 [] m.task (by simp only [List.length_nil]; omega)
  have r2 := R147 (putT [] m.task) m.log (by omega)
  have r3 := R149 (putT (putT [] m.task) m.log) m.outs hn (by omega)
  have hby := zaE m
  have hM : putM m = bodyM m ++ sumsL (bodyM m).sum := rfl
  obtain ⟨bd, hbd⟩ : ∃ bd, bd = bodyM m := ⟨_, rfl⟩
  change Ret Tryz.prog 149 _ (.own (rows B (bodyM m)) (bodyM m).length 1) _ at r3
  rw [← hbd] at r3 hby hbl hM
  refine Ret.run Tryz.func151 K151 (by simp) rfl rfl 900 ?_
  simp [A151, iniρ, Made.cse]
  refine T.textW 400 [([], []), ([], []), ([9], []), ([], [9]), ([], [9]), ([9, 12], []), ([], [9, 12]), ([], [9, 12]), ([12, 15], []), ([], [])] mixed (by kernel_rfl) (by kernel_rfl) ?_
  simp [Zb, yb]
  refine yf.mvE 9 1 rfl (by kernel_rfl) (by simp [za]) (by simp [za, Yc]) r1 (B_fl _) (by simp [inst, za, Za]; exact ⟨rfl, rfl⟩) (by rfl) ?_
  simp [Zb, yb]
  refine yf.mv1 12 9 rfl (by kernel_rfl) (by simp [za]) (by simp [za, Za]) (B_cnt _) (Zd B.fr _) (by simp [za, Yc]) r2 (B_fl _) (by simp [inst, za, Za]; exact ⟨rfl, rfl⟩) (by rfl) ?_
  simp [Zb, yb]
  refine yf.mv1 15 12 rfl (by kernel_rfl) (by simp [za]) (by simp [za, Za]) (B_cnt _) (Zd B.fr _) (by simp [za, ze]) r3 (B_fl _) (by simp [inst, za, Za]; exact ⟨rfl, rfl⟩) (by rfl) ?_
  simp [Zb, yb]
  refine T.rounds (μ := fun i : List Int × List Int => i.2.length)
    (fun i s => i.1 ++ i.2 = bd ∧ s.ρ 3 = .sl 15 0 bd.length 1 false ∧ s.ρ 16 = .sl 15 0 bd.length 1 false ∧ s.ρ 17 = .sc (.int .i64 bd.length) ∧ s.ρ 18 = .sc (.int .i64 i.1.length) ∧ s.ρ 4 = .sc (.int .i64 i.1.sum) ∧ s.h 15 = some (some (rows B bd)) ∧ s.h 33 = none ∧ s.h 34 = none ∧ s.n = 35) ([], bd) (by simp [za]) ?_
  rintro ⟨pre, rest⟩ ⟨ρ, hh, n⟩ ⟨hx, k3, k16, k17, k18, k4, b15, f33, f34, rfl⟩
  simp only at hx k3 k16 k17 k18 k4 b15 f33 f34
  refine yg (n := 400) ?_
  cases rest with
  | nil =>
    rw [List.append_nil] at hx
    subst hx
    have hs := zbU hby
    have ws := zet hs.1
    have wl := zes pre.sum
    have c1 : pre.length + 2 ≤ 140737488355328 := by omega
    have e2 : (putM m).length = pre.length + 2 := by rw [hM]; simp [sumsL]
    have e3 : rows B (putM m) = rows B pre ++ [.sc (.int .u8 (pre.sum / 256 % 256)), .sc (.int .u8 (pre.sum % 256))] := by rw [hM, Yd]; rfl
    have hid := Zd B.fr (putM m)
    rw [e3] at hid
    simp [k17, k18]
    refine T.on 400 ?_
    rw [e2, e3]
    simp [k3, k4, b15, f33, f34, ws, wl, over, ex1, B.count, c1, hid]
  | cons x rest =>
    have hle : pre.length + (rest.length + 1) = bd.length := by rw [← hx]; simp
    have hlt : (pre.length : Int) < bd.length := by omega
    have hwr : IntKind.i64.wrap ((pre.length : Int) + 1) = pre.length + 1 := zc (by omega) (by omega)
    have hd := ye B.len pre (x :: rest)
    rw [hx, yc, Nat.mul_one] at hd
    have hd : List.drop pre.length (rows B bd) = .sc (.int .u8 x) :: rows B rest := hd
    have hxr := hby x (by rw [← hx]; simp)
    have hsp := zbU (b := pre) fun y hy => hby y (by rw [← hx]; simp [hy])
    have wx : IntKind.i64.wrap x = x := zc (by omega) (by omega)
    have wsx : IntKind.i64.wrap (pre.sum + x) = pre.sum + x := zc (by omega) (by omega)
    simp [k4, k16, k17, k18, b15, hlt, hd, hwr, wx, wsx]
    refine ⟨pre ++ [x], rest, by simp, _, Le.refl _, ?_⟩
    simp [hx, za, k3, k16, k17, b15, f33, f34]
def A202 : AC := (.seq (.ops [qO 2 (.mov (iC 0))])
  (.seq (.ops [qO 3 (.mov (iC 0))])
  (.seq (.seq (.ops [qO 4 (.mov (iC 0))])
  (.block 0 (.loop (.seq (.seq (.ops [qO 5 (.mov (.t 4)), qO 6 (.mov (.t 0)), qO 7 (.llen (.t 6)), qO 8 (.bin .lss (.t 5) (.t 7))])
  (.cond (.t 8) .skip
  (.exit 0)))
  (.seq (.block 1 (.ops [qO 11 (.mov (.t 3)), qO 12 (.mov (.t 0)), qO 13 (.mov (.t 4)), qO 14 (.iadr 1 (.t 12) (.t 13)), qO 15 (.load false 1 (.t 14)), qO 16 (.cvi .i64 (.t 15)), qO 17 (.bin .add (.t 11) (.t 16)), qO 18 (.bin .rem (.t 17) (iC 65536)), qO 3 (.mov (.t 18))]))
  (.ops [qO 9 (.mov (.t 4)), qO 10 (.bin .add (.t 9) (iC 1)), qO 4 (.mov (.t 10))]))))))
  (.seq (.ops [qO 19 (.mov (.t 3)), qO 2 (.mov (.t 19))])
  .ret))))
theorem K202 : Kf Tryz.prog Tryz.f202 A202 20 [.mov (.t 2)] := ⟨by kernel_rfl, by kernel_rfl, by kernel_rfl⟩
theorem R202 (b : List Int) (hby : byteL b) (hl : b.length ≤ 140737488355328) : Ret Tryz.prog 202 [.ro (rows B b) b.length] (.sc (.int .i64 (b.sum % 65536))) [.un] := by
  refine Ret.run Tryz.func202 K202 (by simp) rfl rfl 500 ?_
  simp [A202, iniρ]
  refine T.rounds (μ := fun i : List Int × List Int => i.2.length)
    (fun i s => i.1 ++ i.2 = b ∧ s.ρ 0 = .ro (rows B b) b.length ∧ s.ρ 3 = .sc (.int .i64 (i.1.sum % 65536)) ∧ s.ρ 4 = .sc (.int .i64 i.1.length) ∧ s.n = 20) ([], b) (by simp [za]) ?_
  rintro ⟨pre, rest⟩ ⟨ρ, hh, n⟩ ⟨hx, k0, k3, k4, rfl⟩
  simp only at hx k0 k3 k4
  refine yg (n := 400) ?_
  cases rest with
  | nil =>
    rw [List.append_nil] at hx
    subst hx
    simp [k0, k4]
    refine T.on 400 ?_
    simp [k3]
  | cons x rest =>
    have hle : pre.length + (rest.length + 1) = b.length := by rw [← hx]; simp
    have hlt : (pre.length : Int) < b.length := by omega
    have hwr : IntKind.i64.wrap ((pre.length : Int) + 1) = pre.length + 1 := zc (by omega) (by omega)
    have hd := ye B.len pre (x :: rest)
    rw [hx, yc, Nat.mul_one] at hd
    have hd : List.drop pre.length (rows B b) = .sc (.int .u8 x) :: rows B rest := hd
    have hxr := hby x (by rw [← hx]; simp)
    have wx : IntKind.i64.wrap x = x := zc (by omega) (by omega)
    obtain ⟨y, hy⟩ : ∃ y, y = pre.sum % 65536 := ⟨_, rfl⟩
    have hyr : 0 ≤ y ∧ y < 65536 := by omega
    have wsx : IntKind.i64.wrap (y + x) = y + x := zc (by omega) (by omega)
    have hm : (y + x).tmod 65536 = (y + x) % 65536 := Int.tmod_eq_emod_of_nonneg (by omega)
    have e2 : (pre.sum + x) % 65536 = (y + x) % 65536 := by rw [hy]; omega
    rw [← hy] at k3
    simp [k0, k3, k4, hlt, hd, hwr, wx, wsx, hm]
    refine ⟨pre ++ [x], rest, by simp, _, Le.refl _, ?_⟩
    simp [hx, za, k0, e2]
def A137 : AC := (.seq (.ops [wO 1 (.box (.t 0)), qO 2 (.mov (.c .em))])
  (.seq (.any [(wO 5 (.bsl 1 0 [] []), []), (qO 6 (.fadr 0 (.t 1)), []), (qO 7 (.load false 1 (.t 6)), [1]), (cO 8 141 [.t 5, .t 7], [0, 2]), (qO 9 (.fadr 2 (.t 1)), []), (qO 10 (.load false 1 (.t 9)), [4]), (cO 11 141 [.t 8, .t 10], [3, 5, 3]), (qO 12 (.fadr 1 (.t 1)), []), (qO 13 (.load false 1 (.t 12)), [7]), (cO 14 142 [.t 11, .t 13], [6, 8, 6]), (qO 3 (.mov (.t 14)), [9, 9, 0, 1, 2, 3, 4, 5, 6, 7, 8, 9])])
  (.seq (.ops [qO 15 (.mov (.t 3)), cO 16 202 [.t 15], qO 4 (.mov (.t 16))])
  (.seq (.ops [qO 17 (.mov (.t 3)), qO 18 (.mov (.t 4)), qO 19 (.bin .shr (.t 18) (.c (.sc (.int .u64 8)))), qO 20 (.cvi .u8 (.t 19)), qO 21 (.mov (.t 4)), qO 22 (.cvi .u8 (.t 21)), wO 23 (.bsl 1 2 [(.sc (.int .u8 0)), (.sc (.int .u8 0))] [(0, 1, (.t 20)), (1, 1, (.t 22))]), wO 24 (.app 1 1 false (.t 17) (.t 23)), qO 2 (.mov (.t 24))])
  .ret))))
theorem K137 : Kf Tryz.prog Tryz.f137 A137 25 [.mov (.t 2)] := ⟨by kernel_rfl, by kernel_rfl, by kernel_rfl⟩
set_option maxHeartbeats 2000000 in
theorem R137 (m : Made) (hn : m.outs.length < 4611686018427387904) (hb : mw m ≤ 140737488350000) : Ret Tryz.prog 137 [.agg (Made.ty.cs m)] (.own (rows B (putM m)) (putM m).length 1) [.un] := by
  have h1 := Yj [] m.task
  have h2 := Yj (putT [] m.task) m.log
  have hbl := zaU m
  have hw : mw m = m.task.size + m.log.size + m.outs.length + 30 + fw m.outs := rfl
  simp only [List.length_nil] at h1
  have r1 := R141 [] m.task (by simp only [List.length_nil]; omega)
  have r2 := R141 (putT [] m.task) m.log (by omega)
  have r3 := R142 (putT (putT [] m.task) m.log) m.outs hn (by omega)
  have hby := zaE m
  have hM : putM m = bodyM m ++ sumsL (bodyM m).sum := rfl
  obtain ⟨bd, hbd⟩ : ∃ bd, bd = bodyM m := ⟨_, rfl⟩
  change Ret Tryz.prog 142 _ (.own (rows B (bodyM m)) (bodyM m).length 1) _ at r3
  rw [← hbd] at r3 hby hbl hM
  obtain ⟨t1, ht1⟩ : ∃ t, t = putT [] m.task := ⟨_, rfl⟩
  rw [← ht1] at r1 r2 r3
  obtain ⟨t2, ht2⟩ : ∃ t, t = putT t1 m.log := ⟨_, rfl⟩
  rw [← ht2] at r2 r3
  have q1 : ∀ (h : Hp), h 8 = some (some (rows B t1)) → roc h 8 (.sl 8 0 t1.length 1 false) = some (.ro (rows B t1) t1.length) := fun h e => B.roc e
  have q2 : ∀ (h : Hp), h 11 = some (some (rows B t2)) → roc h 8 (.sl 11 0 t2.length 1 false) = some (.ro (rows B t2) t2.length) := fun h e => B.roc e
  have q3 : ∀ (h : Hp), h 14 = some (some (rows B bd)) → roc h 8 (.sl 14 0 bd.length 1 false) = some (.ro (rows B bd) bd.length) := fun h e => B.roc e
  have q0 : ∀ (h : Hp), h 5 = some (some []) → roc h 8 (.sl 5 0 0 1 false) = some (.ro (rows B []) 0) := fun h e => B.roc (xs := []) e
  refine Ret.run Tryz.func137 K137 (by simp) rfl rfl 900 ?_
  simp [A137, iniρ, Made.cse]
  refine T.textW 400 [([5], []), ([], [5]), ([], [5]), ([8], []), ([], [5, 8]), ([], [5, 8]), ([11], []), ([], [5, 8, 11]), ([], [5, 8, 11]), ([14], []), ([], [])] mixed (by kernel_rfl) (by kernel_rfl) ?_
  simp [Zb, yb]
  refine yf.ro 8 rfl (by kernel_rfl) (by simp [za, Yc, q0]) r1 (B_fl _) (by simp [inst, za]; exact ⟨rfl, rfl⟩) (by rfl) ?_
  simp [Zb, yb]
  refine yf.ro 11 rfl (by kernel_rfl) (by simp [za, Yc, q1]) r2 (B_fl _) (by simp [inst, za]; exact ⟨rfl, rfl⟩) (by rfl) ?_
  simp [Zb, yb]
  refine yf.ro 14 rfl (by kernel_rfl) (by simp [za, ze, q2]) r3 (B_fl _) (by simp [inst, za]; exact ⟨rfl, rfl⟩) (by rfl) ?_
  simp [Zb, yb]
  refine callK.ro 0 rfl (by kernel_rfl) (by simp [za, q3]) (R202 bd hby (by omega)) rfl rfl rfl ?_
  have hs := zbU hby
  have ws := zet (n := bd.sum % 65536) (by omega)
  have wl := zes (bd.sum % 65536)
  rw [show bd.sum % 65536 / 256 % 256 = bd.sum / 256 % 256 by omega] at ws
  rw [show bd.sum % 65536 % 256 = bd.sum % 256 by omega] at wl
  have c1 : bd.length + 2 ≤ 140737488355328 := by omega
  have e2 : (putM m).length = bd.length + 2 := by rw [hM]; simp [sumsL]
  have e3 : rows B (putM m) = rows B bd ++ [.sc (.int .u8 (bd.sum / 256 % 256)), .sc (.int .u8 (bd.sum % 256))] := by rw [hM, Yd]; rfl
  have hid := Zd B.fr (putM m)
  rw [e3] at hid
  rw [e2, e3]
  simp [ws, wl, over, ex1, B.count, c1, hid]
theorem Slot.cseB (x : Slot) : Slot.ty.cs x = [.ro (rows B x.key) x.key.length, .ro (rows B x.b) x.b.length] := rfl
def A154 : AC := (.seq (.ops [qO 4 (.mov (.c (.sc (.bool false))))])
  (.seq (.ops [qO 5 (.mov (.t 0)), qO 6 (.bstr (.t 5)), qO 7 (.mov (.t 1)), qO 8 (.bstr (.t 7)), qO 9 (.bin .eql (.t 6) (.t 8)), qO 4 (.mov (.t 9))])
  .ret))
theorem K154 : Kf Tryz.prog Tryz.f154 A154 10 [.mov (.t 4)] := ⟨by kernel_rfl, by kernel_rfl, by kernel_rfl⟩
theorem R154 (xs ys : List Int) : Ret Tryz.prog 154 [.ro (rows B xs) xs.length, .ro (rows B ys) ys.length] (.sc (.bool (bEq xs ys))) [.un, .un] := by
  refine Ret.run Tryz.func154 K154 (by simp) rfl rfl 500 ?_
  simp [A154, iniρ, ZP, B.count, B.num, bEq]
def A157 : AC := (.seq (.ops [qO 4 (.mov (iC 0))])
  (.seq (.seq (.ops [qO 5 (.mov (iC 0))])
  (.block 0 (.loop (.seq (.seq (.ops [qO 6 (.mov (.t 5)), qO 7 (.mov (.t 0)), qO 8 (.llen (.t 7)), qO 9 (.bin .lss (.t 6) (.t 8))])
  (.cond (.t 9) .skip
  (.exit 0)))
  (.seq (.block 1 (.seq (.any [(qO 12 (.mov (.t 0)), []), (qO 13 (.mov (.t 5)), []), (qO 14 (.iadr 2 (.t 12) (.t 13)), [0, 1]), (qO 15 (.fadr 0 (.t 14)), [2]), (qO 16 (.load false 1 (.t 15)), [3]), (qO 17 (.bstr (.t 16)), [4]), (qO 18 (.mov (.t 1)), []), (qO 19 (.bstr (.t 18)), [6]), (qO 20 (.bin .eql (.t 17) (.t 19)), [5, 7])])
  (.cond (.t 20) (.seq (.ops [qO 21 (.mov (.t 5)), qO 4 (.mov (.t 21))])
  .ret)
  .skip)))
  (.ops [qO 10 (.mov (.t 5)), qO 11 (.bin .add (.t 10) (iC 1)), qO 5 (.mov (.t 11))]))))))
  (.seq (.ops [qO 4 (.mov (iC (-1)))])
  .ret)))
theorem K157 : Kf Tryz.prog Tryz.f157 A157 22 [.mov (.t 4)] := ⟨by kernel_rfl, by kernel_rfl, by kernel_rfl⟩
theorem R157 (xs : List Slot) (k : List Int) (hb : xs.length < 4611686018427387904) : Ret Tryz.prog 157 [.ro (rows Slot.ty.cs xs) xs.length, .ro (rows B k) k.length] (.sc (.int .i64 (idx (fun s => bEq s.key k) xs 0))) [.un, .un] := by
  refine Ret.run Tryz.func157 K157 (by simp) rfl rfl 500 ?_
  simp [A157, iniρ]
  refine T.rounds (μ := fun i : List Slot × List Slot => i.2.length)
    (fun i s => i.1 ++ i.2 = xs ∧ idx (fun s => bEq s.key k) i.2 i.1.length = idx (fun s => bEq s.key k) xs 0 ∧ s.ρ 0 = .ro (rows Slot.ty.cs xs) xs.length ∧ s.ρ 1 = .ro (rows B k) k.length ∧ s.ρ 5 = .sc (.int .i64 i.1.length) ∧ s.h = h0 ∧ s.n = 22) ([], xs) (by simp [za]) ?_
  rintro ⟨pre, rest⟩ ⟨ρ, hh, n⟩ ⟨hx, hE, h0', h1', h5', rfl, rfl⟩
  simp only at hx hE h0' h1' h5'
  refine yg (n := 400) ?_
  cases rest with
  | nil =>
    simp at hx
    subst hx
    simp [h0', h5']
    refine T.on 400 ?_
    simp [← hE, idx]
  | cons x rest =>
    have hlt : (pre.length : Int) < xs.length := by rw [← hx]; simp only [List.length_append, List.length_cons]; omega
    have hd := ye Slot.ty.csn pre (x :: rest)
    rw [hx, yc] at hd
    have hd : List.drop (pre.length * 2) (rows Slot.ty.cs xs) = Slot.ty.cs x ++ rows Slot.ty.cs rest := hd
    have hw : IntKind.i64.wrap ((pre.length : Int) + 1) = pre.length + 1 := zc (by omega) (by omega)
    simp [h0', h1', h5', hlt]
    refine T.text 400 mixed (by kernel_rfl) (by kernel_rfl) ?_
    by_cases hk : (strOfNums x.key).toList = (strOfNums k).toList
    · have hk' : bEq x.key k = true := by simp [bEq, hk]
      simp [h0', h1', h5', hlt, hd, Slot.cseB, ZP, B.count, B.num, hk, ← hE, idx, hk']
    · have hk' : bEq x.key k = false := by simp [bEq, hk]
      simp [h0', h1', h5', hlt, hd, Slot.cseB, ZP, B.count, B.num, hk, hw]
      refine ⟨pre ++ [x], rest, by simp, _, Le.refl _, ?_⟩
      simp [hx, h0', h1', ← hE, idx, hk', za]
def sumB : List Slot → Int → Int
  | [], a => a
  | x :: xs, a => sumB xs (IntKind.i64.wrap (a + x.b.length))
def A204 : AC := (.seq (.ops [qO 2 (.mov (iC 0))])
  (.seq (.ops [qO 3 (.mov (iC 0))])
  (.seq (.seq (.ops [qO 4 (.mov (iC 0))])
  (.block 0 (.loop (.seq (.seq (.ops [qO 5 (.mov (.t 4)), qO 6 (.mov (.t 0)), qO 7 (.llen (.t 6)), qO 8 (.bin .lss (.t 5) (.t 7))])
  (.cond (.t 8) .skip
  (.exit 0)))
  (.seq (.block 1 (.ops [qO 11 (.mov (.t 3)), qO 12 (.mov (.t 0)), qO 13 (.mov (.t 4)), qO 14 (.iadr 2 (.t 12) (.t 13)), qO 15 (.fadr 1 (.t 14)), qO 16 (.load false 1 (.t 15)), qO 17 (.llen (.t 16)), qO 18 (.bin .add (.t 11) (.t 17)), qO 3 (.mov (.t 18))]))
  (.ops [qO 9 (.mov (.t 4)), qO 10 (.bin .add (.t 9) (iC 1)), qO 4 (.mov (.t 10))]))))))
  (.seq (.ops [qO 19 (.mov (.t 3)), qO 2 (.mov (.t 19))])
  .ret))))
theorem K204 : Kf Tryz.prog Tryz.f204 A204 20 [.mov (.t 2)] := ⟨by kernel_rfl, by kernel_rfl, by kernel_rfl⟩
theorem R204 (xs : List Slot) (hb : xs.length < 4611686018427387904) : Ret Tryz.prog 204 [.ro (rows Slot.ty.cs xs) xs.length] (.sc (.int .i64 (sumB xs 0))) [.un] := by
  refine Ret.run Tryz.func204 K204 (by simp) rfl rfl 500 ?_
  simp [A204, iniρ]
  refine T.rounds (μ := fun i : List Slot × List Slot × Int => i.2.1.length)
    (fun i s => i.1 ++ i.2.1 = xs ∧ sumB i.2.1 i.2.2 = sumB xs 0 ∧ s.ρ 0 = .ro (rows Slot.ty.cs xs) xs.length ∧ s.ρ 3 = .sc (.int .i64 i.2.2) ∧ s.ρ 4 = .sc (.int .i64 i.1.length) ∧ s.h = h0 ∧ s.n = 20) ([], xs, 0) (by simp [za]) ?_
  rintro ⟨pre, rest, acc⟩ ⟨ρ, hh, n⟩ ⟨hx, hE, h0', h1', h5', rfl, rfl⟩
  simp only at hx hE h0' h1' h5'
  refine yg (n := 400) ?_
  cases rest with
  | nil =>
    simp at hx
    subst hx
    simp [h0', h5']
    refine T.on 400 ?_
    simp [h1', ← hE, sumB]
  | cons x rest =>
    have hlt : (pre.length : Int) < xs.length := by rw [← hx]; simp only [List.length_append, List.length_cons]; omega
    have hd := ye Slot.ty.csn pre (x :: rest)
    rw [hx, yc] at hd
    have hd : List.drop (pre.length * 2) (rows Slot.ty.cs xs) = Slot.ty.cs x ++ rows Slot.ty.cs rest := hd
    have hd1 : List.drop (pre.length * 2 + 1) (rows Slot.ty.cs xs) = [.ro (rows B x.b) x.b.length] ++ rows Slot.ty.cs rest := by rw [← List.drop_drop, hd]; rfl
    have hw : IntKind.i64.wrap ((pre.length : Int) + 1) = pre.length + 1 := zc (by omega) (by omega)
    simp [h0', h1', h5', hlt, hd1, hw]
    refine ⟨pre ++ [x], rest, by simp, IntKind.i64.wrap (acc + x.b.length), _, Le.refl _, ?_⟩
    simp [hx, h0', ← hE, sumB, za]
def A212 : AC := (.seq (.ops [qO 2 (.mov (iC 0))])
  (.seq (.ops [qO 3 (.mov (iC 0))])
  (.seq (.seq (.ops [qO 6 (.mov (.t 0)), qO 7 (.llen (.t 6)), qO 8 (.mov (iC 0))])
  (.block 0 (.loop (.seq (.ops [qO 9 (.bin .lss (.t 8) (.t 7))])
  (.seq (.cond (.t 9) .skip
  (.exit 0))
  (.seq (.block 1 (.seq (.ops [qO 10 (.iadr 2 (.t 6) (.t 8)), qO 11 (.load true 2 (.t 10)), wO 5 (.alloc [.em, .em]), nO (.store 2 (.t 5) (.t 11))])
  (.ops [qO 12 (.mov (.t 3)), qO 13 (.fadr 1 (.t 5)), qO 14 (.load false 1 (.t 13)), qO 15 (.llen (.t 14)), qO 16 (.bin .add (.t 12) (.t 15)), qO 3 (.mov (.t 16))])))
  (.ops [qO 17 (.bin .add (.t 8) (iC 1)), qO 8 (.mov (.t 17))])))))))
  (.seq (.ops [qO 18 (.mov (.t 3)), qO 2 (.mov (.t 18))])
  .ret))))
theorem K212 : Kf Tryz.prog Tryz.f212 A212 19 [.mov (.t 2)] := ⟨by kernel_rfl, by kernel_rfl, by kernel_rfl⟩
theorem R212 (xs : List Slot) (hb : xs.length < 4611686018427387904) : Ret Tryz.prog 212 [.ro (rows Slot.ty.cs xs) xs.length] (.sc (.int .i64 (sumB xs 0))) [.un] := by
  refine Ret.run Tryz.func212 K212 (by simp) rfl rfl 500 ?_
  simp [A212, iniρ]
  refine T.rounds (μ := fun i : List Slot × List Slot × Int => i.2.1.length)
    (fun i s => i.1 ++ i.2.1 = xs ∧ sumB i.2.1 i.2.2 = sumB xs 0 ∧ s.ρ 6 = .ro (rows Slot.ty.cs xs) xs.length ∧ s.ρ 7 = .sc (.int .i64 xs.length) ∧ s.ρ 3 = .sc (.int .i64 i.2.2) ∧ s.ρ 8 = .sc (.int .i64 i.1.length) ∧ s.h 5 = none ∧ s.n = 19) ([], xs, 0) (by simp [za]) ?_
  rintro ⟨pre, rest, acc⟩ ⟨ρ, hh, n⟩ ⟨hx, hE, h0', h7', h1', h5', hf, rfl⟩
  simp only at hx hE h0' h7' h1' h5' hf
  refine yg (n := 400) ?_
  cases rest with
  | nil =>
    simp at hx
    subst hx
    simp [h0', h7', h5']
    refine T.on 400 ?_
    simp [h1', ← hE, sumB]
  | cons x rest =>
    have hlt : (pre.length : Int) < xs.length := by rw [← hx]; simp only [List.length_append, List.length_cons]; omega
    have hd := ye Slot.ty.csn pre (x :: rest)
    rw [hx, yc] at hd
    have hd : List.drop (pre.length * 2) (rows Slot.ty.cs xs) = Slot.ty.cs x ++ rows Slot.ty.cs rest := hd
    have hw : IntKind.i64.wrap ((pre.length : Int) + 1) = pre.length + 1 := zc (by omega) (by omega)
    simp [h0', h7', h1', h5', hf, hlt, hd, hw, Slot.cseB, over]
    refine ⟨pre ++ [x], rest, by simp, IntKind.i64.wrap (acc + x.b.length), _, Le.reset [6, 7, 3, 8] [] ?_ (by simp), ?_⟩
    · simp [za, menB, zb, h0', h7']
    · simp [hx, h0', h7', ← hE, sumB, za]
def allAt (g : Slot → Int) : List Slot → Int → Bool
  | [], _ => true
  | x :: xs, i => g x == i && allAt g xs (i + 1)
def zx (xs : List Slot) : Bool := allAt (fun x => idx (fun s => bEq s.key x.key) xs 0) xs 0 && (decide (xs.length ≤ 20) && decide (sumB xs 0 ≤ 3000))
def A139 : AC := (.seq (.ops [qO 2 (.mov (.c (.sc (.bool false))))])
  (.seq (.seq (.ops [qO 3 (.mov (iC 0))])
  (.block 0 (.loop (.seq (.seq (.ops [qO 4 (.mov (.t 3)), qO 5 (.mov (.t 0)), qO 6 (.llen (.t 5)), qO 7 (.bin .lss (.t 4) (.t 6))])
  (.cond (.t 7) .skip
  (.exit 0)))
  (.seq (.block 1 (.seq (.ops [qO 10 (.mov (.t 0)), qO 11 (.mov (.t 0)), qO 12 (.mov (.t 3)), qO 13 (.iadr 2 (.t 11) (.t 12)), qO 14 (.fadr 0 (.t 13)), qO 15 (.load false 1 (.t 14)), cO 16 157 [.t 10, .t 15], qO 17 (.mov (.t 3)), qO 18 (.bin .neq (.t 16) (.t 17))])
  (.cond (.t 18) (.seq (.ops [qO 2 (.mov (.c (.sc (.bool false))))])
  .ret)
  .skip)))
  (.ops [qO 8 (.mov (.t 3)), qO 9 (.bin .add (.t 8) (iC 1)), qO 3 (.mov (.t 9))]))))))
  (.seq (.ops [qO 19 (.mov (.t 0)), qO 20 (.llen (.t 19)), qO 21 (.bin .leq (.t 20) (iC 20)), qO 22 (.mov (.t 21)), qG 23 22 true (.mov (.t 0)), cG 24 22 true 204 [.t 23], qG 25 22 true (.bin .leq (.t 24) (iC 3000)), qO 26 (.pick (.t 22) (.t 25) (.c (.sc (.bool false)))), qO 2 (.mov (.t 26))])
  .ret)))
theorem K139 : Kf Tryz.prog Tryz.f139 A139 27 [.mov (.t 2)] := ⟨by kernel_rfl, by kernel_rfl, by kernel_rfl⟩
theorem R139 (xs : List Slot) (hb : xs.length < 4611686018427387904) : Ret Tryz.prog 139 [.ro (rows Slot.ty.cs xs) xs.length] (.sc (.bool (zx xs))) [.un] := by
  refine Ret.run Tryz.func139 K139 (by simp) rfl rfl 500 ?_
  simp [A139, iniρ]
  let G : Slot → Int := fun x => idx (fun s => bEq s.key x.key) xs 0
  refine T.rounds (μ := fun i : List Slot × List Slot => i.2.length)
    (fun i s => i.1 ++ i.2 = xs ∧ allAt G i.2 i.1.length = allAt G xs 0 ∧ s.ρ 0 = .ro (rows Slot.ty.cs xs) xs.length ∧ s.ρ 3 = .sc (.int .i64 i.1.length) ∧ s.h = h0 ∧ s.n = 27) ([], xs) (by simp [za]) ?_
  rintro ⟨pre, rest⟩ ⟨ρ, hh, n⟩ ⟨hx, hE, h0', h5', rfl, rfl⟩
  simp only at hx hE h0' h5'
  refine yg (n := 400) ?_
  cases rest with
  | nil =>
    simp at hx
    subst hx
    have hE : true = allAt (fun x => idx (fun s => bEq s.key x.key) pre 0) pre 0 := hE
    simp [h0', h5']
    refine T.on 400 ?_
    by_cases hz : pre.length ≤ 20
    · have hz' : (pre.length : Int) ≤ 20 := by omega
      simp [h0', hz']
      refine callK.ro 24 rfl (by kernel_rfl) (by simp [ze, Yc, Zg, za]) (R204 pre hb) rfl rfl rfl ?_
      simp [zx, ← hE, hz]
    · have hz' : ¬ (pre.length : Int) ≤ 20 := by omega
      simp [h0', hz', zx, hz]
  | cons x rest =>
    have hlt : (pre.length : Int) < xs.length := by rw [← hx]; simp only [List.length_append, List.length_cons]; omega
    have hd := ye Slot.ty.csn pre (x :: rest)
    rw [hx, yc] at hd
    have hd : List.drop (pre.length * 2) (rows Slot.ty.cs xs) = Slot.ty.cs x ++ rows Slot.ty.cs rest := hd
    have hw : IntKind.i64.wrap ((pre.length : Int) + 1) = pre.length + 1 := zc (by omega) (by omega)
    simp [h0', h5', hlt, hd, Slot.cseB]
    refine callK.ro 16 rfl (by kernel_rfl) (by simp [ze, Yc, Zg, za, Slot.cseB]) (R157 xs x.key hb) rfl rfl rfl ?_
    by_cases hz : idx (fun s => bEq s.key x.key) xs 0 = (pre.length : Int)
    · simp [h5', hz, hw]
      refine ⟨pre ++ [x], rest, by simp, _, Le.refl _, ?_⟩
      have hE2 : allAt G rest (pre.length + 1) = allAt G xs 0 := by
        rw [← hE]; simp only [allAt]; rw [show G x = (pre.length : Int) from hz]; simp
      simp [hx, h0', hE2, za]
    · have hE2 : allAt (fun x => idx (fun s => bEq s.key x.key) xs 0) xs 0 = false := by
        refine hE.symm.trans ?_
        simp only [allAt]
        rw [show G x = idx (fun s => bEq s.key x.key) xs 0 from rfl]; simp [hz]
      simp [h5', hz, zx, hE2]
def A206 : AC := (.seq (.ops [wO 2 (.box (.t 0)), qO 3 (.mov (.c (.sc (.bool false))))])
  (.seq (.ops [qO 4 (.fadr 0 (.t 2)), qO 5 (.load false 1 (.t 4)), qO 6 (.load false 1 (.t 1)), cO 7 154 [.t 5, .t 6], qO 3 (.mov (.t 7))])
  .ret))
theorem K206 : Kf Tryz.prog Tryz.f206 A206 8 [.mov (.t 3)] := ⟨by kernel_rfl, by kernel_rfl, by kernel_rfl⟩
theorem R206 (s : Slot) (k : List Int) : Ret Tryz.prog 206 [.agg (Slot.ty.cs s), .rp [.ro (rows B k) k.length] 0] (.sc (.bool (bEq s.key k))) [.un, .un] := by
  refine Ret.run Tryz.func206 K206 (by simp) rfl rfl 500 ?_
  simp [A206, iniρ, Slot.cseB]
  refine callK.ro 7 rfl (by kernel_rfl) (by simp [ze, Yc, Zg, za]; rfl) (R154 s.key k) rfl rfl rfl ?_
  simp
theorem R205 (g : FuncId) (caps : List AV) (f : Slot → Bool) (hg : callB Tryz.prog g = true) (hsh : shut.shutL caps = true) (xs : List Slot) (hR : ∀ x ∈ xs, Ret Tryz.prog g (el true (Slot.ty.cs x) :: caps) (.sc (.bool (f x))) (.un :: caps.map fun _ => .un)) (hb : xs.length < 4611686018427387904) :
    Ret Tryz.prog 205 [.ro (rows Slot.ty.cs xs) xs.length, .clo g caps] (.sc (.int .i64 (idx f xs 0))) [.un, .un] :=
  Ret.indexFunc Slot.ty (agg := true) Tryz.func205 ⟨by kernel_rfl, by kernel_rfl, by kernel_rfl⟩ (fun h => by cases h) g caps f hg hsh xs hR hb
def A144 : AC := (.seq (.ops [wO 3 (.box (.t 1)), qO 4 (.mov (iC 0))])
  (.seq (.ops [qO 5 (.mov (.t 0)), qO 6 (.mkf 206 [.t 3]), cO 7 205 [.t 5, .t 6], qO 4 (.mov (.t 7))])
  .ret))
theorem K144 : Kf Tryz.prog Tryz.f144 A144 8 [.mov (.t 4)] := ⟨by kernel_rfl, by kernel_rfl, by kernel_rfl⟩
theorem R144 (xs : List Slot) (k : List Int) (hb : xs.length < 4611686018427387904) : Ret Tryz.prog 144 [.ro (rows Slot.ty.cs xs) xs.length, .ro (rows B k) k.length] (.sc (.int .i64 (idx (fun s => bEq s.key k) xs 0))) [.un, .un] := by
  refine Ret.run Tryz.func144 K144 (by simp) rfl rfl 500 ?_
  simp [A144, iniρ]
  refine callK.ro 0 rfl (by kernel_rfl) (ys := [.ro (rows Slot.ty.cs xs) xs.length, .clo 206 [.rp [.ro (rows B k) k.length] 0]]) (by simp [ze, za, roc]) (R205 206 [.rp [.ro (rows B k) k.length] 0] (fun s => bEq s.key k) (by kernel_rfl) rfl xs (fun x _ => R206 x k) hb) rfl rfl rfl ?_
  simp
def A155 : AC := (.seq (.ops [qO 2 (.mov (.c (.sc (.bool false))))])
  (.seq (.seq (.ops [qO 5 (.mov (.t 0)), qO 6 (.llen (.t 5)), qO 7 (.mov (iC 0))])
  (.block 0 (.loop (.seq (.ops [qO 8 (.bin .lss (.t 7) (.t 6))])
  (.seq (.cond (.t 8) .skip
  (.exit 0))
  (.seq (.block 1 (.seq (.ops [qO 9 (.mov (.t 7)), qO 10 (.iadr 2 (.t 5) (.t 7)), qO 11 (.load true 2 (.t 10)), wO 4 (.alloc [.em, .em]), qO 3 (.mov (.t 9)), nO (.store 2 (.t 4) (.t 11))])
  (.seq (.ops [qO 12 (.mov (.t 0)), qO 13 (.fadr 0 (.t 4)), qO 14 (.load false 1 (.t 13)), cO 15 144 [.t 12, .t 14], qO 16 (.mov (.t 3)), qO 17 (.bin .neq (.t 15) (.t 16))])
  (.cond (.t 17) (.seq (.ops [qO 2 (.mov (.c (.sc (.bool false))))])
  .ret)
  .skip))))
  (.ops [qO 18 (.bin .add (.t 7) (iC 1)), qO 7 (.mov (.t 18))])))))))
  (.seq (.ops [qO 19 (.mov (.t 0)), qO 20 (.llen (.t 19)), qO 21 (.bin .leq (.t 20) (iC 20)), qO 22 (.mov (.t 21)), qG 23 22 true (.mov (.t 0)), cG 24 22 true 212 [.t 23], qG 25 22 true (.bin .leq (.t 24) (iC 3000)), qO 26 (.pick (.t 22) (.t 25) (.c (.sc (.bool false)))), qO 2 (.mov (.t 26))])
  .ret)))
theorem K155 : Kf Tryz.prog Tryz.f155 A155 27 [.mov (.t 2)] := ⟨by kernel_rfl, by kernel_rfl, by kernel_rfl⟩
theorem R155 (xs : List Slot) (hb : xs.length < 4611686018427387904) : Ret Tryz.prog 155 [.ro (rows Slot.ty.cs xs) xs.length] (.sc (.bool (zx xs))) [.un] := by
  refine Ret.run Tryz.func155 K155 (by simp) rfl rfl 500 ?_
  simp [A155, iniρ]
  let G : Slot → Int := fun x => idx (fun s => bEq s.key x.key) xs 0
  refine T.rounds (μ := fun i : List Slot × List Slot => i.2.length)
    (fun i s => i.1 ++ i.2 = xs ∧ allAt G i.2 i.1.length = allAt G xs 0 ∧ s.ρ 0 = .ro (rows Slot.ty.cs xs) xs.length ∧ s.ρ 5 = .ro (rows Slot.ty.cs xs) xs.length ∧ s.ρ 6 = .sc (.int .i64 xs.length) ∧ s.ρ 7 = .sc (.int .i64 i.1.length) ∧ s.h 4 = none ∧ s.n = 27) ([], xs) (by simp [za]) ?_
  rintro ⟨pre, rest⟩ ⟨ρ, hh, n⟩ ⟨hx, hE, h0', h5', h6', h7', hf, rfl⟩
  simp only at hx hE h0' h5' h6' h7' hf
  refine yg (n := 400) ?_
  cases rest with
  | nil =>
    simp at hx
    subst hx
    have hE : true = allAt (fun x => idx (fun s => bEq s.key x.key) pre 0) pre 0 := hE
    simp [h6', h7']
    refine T.on 400 ?_
    by_cases hz : pre.length ≤ 20
    · have hz' : (pre.length : Int) ≤ 20 := by omega
      simp [h0', hz']
      refine callK.ro 24 rfl (by kernel_rfl) (by simp [ze, Yc, Zg, za]) (R212 pre hb) rfl rfl rfl ?_
      simp [zx, ← hE, hz]
    · have hz' : ¬ (pre.length : Int) ≤ 20 := by omega
      simp [h0', hz', zx, hz]
  | cons x rest =>
    have hlt : (pre.length : Int) < xs.length := by rw [← hx]; simp only [List.length_append, List.length_cons]; omega
    have hd := ye Slot.ty.csn pre (x :: rest)
    rw [hx, yc] at hd
    have hd : List.drop (pre.length * 2) (rows Slot.ty.cs xs) = Slot.ty.cs x ++ rows Slot.ty.cs rest := hd
    have hw : IntKind.i64.wrap ((pre.length : Int) + 1) = pre.length + 1 := zc (by omega) (by omega)
    simp [h0', h5', h6', h7', hf, hlt, hd, Slot.cseB, over]
    refine callK.ro 15 rfl (by kernel_rfl) (by simp [ze, Yc, Zg, za, Slot.cseB]) (R144 xs x.key hb) rfl rfl rfl ?_
    by_cases hz : idx (fun s => bEq s.key x.key) xs 0 = (pre.length : Int)
    · simp [h7', hz, hw]
      refine ⟨pre ++ [x], rest, by simp, _, Le.reset [0, 5, 6, 7] [] ?_ (by simp), ?_⟩
      · simp [za, menB, zb, h0', h5', h6']
      have hE2 : allAt G rest (pre.length + 1) = allAt G xs 0 := by
        rw [← hE]; simp only [allAt]; rw [show G x = (pre.length : Int) from hz]; simp
      simp [hx, h0', h5', h6', hE2, za]
    · have hE2 : allAt (fun x => idx (fun s => bEq s.key x.key) xs 0) xs 0 = false := by
        refine hE.symm.trans ?_
        simp only [allAt]
        rw [show G x = idx (fun s => bEq s.key x.key) xs 0 from rfl]; simp [hz]
      simp [h7', hz, zx, hE2]
def nextT (b : List Int) (a : Int) (bad : Bool) : ByteArray × Int × Bool :=
  match getT b a with | some (s, n) => if bad = true then (⟨#[]⟩, a, true) else (s, n, false) | none => (⟨#[]⟩, a, true)
def A207 : AC := (.seq (.ops [qO 2 (.mov (.c (.sc (.string ⟨#[]⟩))))])
  (.seq (.any [(qO 7 (.mov (.t 0)), []), (qO 8 (.nilc (.t 7)), [0]), (qO 9 (.fadr 0 (.t 8)), [1]), (qO 10 (.load false 1 (.t 9)), [2]), (qO 11 (.mov (.t 0)), []), (qO 12 (.nilc (.t 11)), [4]), (qO 13 (.fadr 1 (.t 12)), [5]), (qO 14 (.load false 1 (.t 13)), [6]), (cO 15 248 [.t 10, .t 14], [3, 7]), (qO 6 (.mov (.t 15)), [8]), (qO 16 (.ext (.t 6) 0), [9]), (qO 17 (.ext (.t 6) 1), [9]), (qO 18 (.ext (.t 6) 2), [9]), (qO 3 (.mov (.t 16)), [10, 8, 0, 1, 2, 3, 4, 5, 6, 7, 8, 9, 10]), (qO 4 (.mov (.t 17)), [11, 13, 0, 1, 2, 3, 4, 5, 6, 7, 8, 9, 10, 11, 13]), (qO 5 (.mov (.t 18)), [12, 14, 0, 1, 2, 3, 4, 5, 6, 7, 8, 9, 10, 11, 12, 13, 14])])
  (.seq (.seq (.ops [qO 19 (.mov (.t 0)), qO 20 (.nilc (.t 19)), qO 21 (.fadr 2 (.t 20)), qO 22 (.load false 1 (.t 21)), qO 23 (.mov (.t 22)), qG 24 23 false (.mov (.t 5)), qG 25 23 false (.not (.t 24)), qO 26 (.pick (.t 23) (.c (.sc (.bool true))) (.t 25))])
  (.cond (.t 26) (.seq (.ops [qO 27 (.mov (.t 0)), qO 28 (.nilc (.t 27)), qO 29 (.fadr 2 (.t 28)), nO (.store 1 (.t 29) (.c (.sc (.bool true))))])
  (.seq (.ops [qO 2 (.mov (.c (.sc (.string ⟨#[]⟩))))])
  .ret))
  .skip))
  (.seq (.ops [qO 30 (.mov (.t 0)), qO 31 (.mov (.t 4)), qO 32 (.nilc (.t 30)), qO 33 (.fadr 1 (.t 32)), nO (.store 1 (.t 33) (.t 31))])
  (.seq (.ops [qO 34 (.mov (.t 3)), qO 2 (.mov (.t 34))])
  .ret)))))
theorem K207 : Kf Tryz.prog Tryz.f207 A207 35 [.mov (.t 2)] := ⟨by kernel_rfl, by kernel_rfl, by kernel_rfl⟩
set_option maxHeartbeats 2000000 in
theorem R207 (b : List Int) (a : Int) (bad : Bool) (ha : Ty.int.ok a) (hb : byteL b) (hl : b.length ≤ 140737488355328) : Ret Tryz.prog 207 [.bx [.ro (rows B b) b.length, .sc (.int .i64 a), .sc (.bool bad)]] (.sc (.string (nextT b a bad).1)) [.bx [.ro (rows B b) b.length, .sc (.int .i64 (nextT b a bad).2.1), .sc (.bool (nextT b a bad).2.2)]] := by
  have rg := R248 b a ha hb hl
  have hn : nextT b a bad = match getT b a with | some (s, n) => if bad = true then (⟨#[]⟩, a, true) else (s, n, false) | none => (⟨#[]⟩, a, true) := rfl
  obtain ⟨g, hg⟩ : ∃ g, g = getT b a := ⟨_, rfl⟩
  rw [← hg] at rg hn
  rw [hn]
  cases g with
  | none =>
    cases bad with
    | true =>
      refine Ret.run Tryz.func207 K207 (by simp) rfl rfl 900 ?_
      simp [A207, iniρ]
      refine T.textW 400 [([], []), ([], []), ([], []), ([], []), ([], []), ([], []), ([], []), ([], []), ([], []), ([], []), ([], []), ([], []), ([], []), ([], []), ([], []), ([], [])] mixed (by kernel_rfl) (by kernel_rfl) ?_
      simp [Zb, yb]
      refine yf.ro 0 rfl (by kernel_rfl) (by simp [za, Yc, ze, Za]) rg rfl (by simp [gotA, inst, instL, shut]; exact ⟨rfl, rfl⟩) (by rfl) ?_
      simp [Zb, yb, over, ex1, zb.idfreeL, zb, yj, outC]
    | false =>
      refine Ret.run Tryz.func207 K207 (by simp) rfl rfl 900 ?_
      simp [A207, iniρ]
      refine T.textW 400 [([], []), ([], []), ([], []), ([], []), ([], []), ([], []), ([], []), ([], []), ([], []), ([], []), ([], []), ([], []), ([], []), ([], []), ([], []), ([], [])] mixed (by kernel_rfl) (by kernel_rfl) ?_
      simp [Zb, yb]
      refine yf.ro 0 rfl (by kernel_rfl) (by simp [za, Yc, ze, Za]) rg rfl (by simp [gotA, inst, instL, shut]; exact ⟨rfl, rfl⟩) (by rfl) ?_
      simp [Zb, yb, over, ex1, zb.idfreeL, zb, yj, outC]
  | some p =>
    obtain ⟨s, n⟩ := p
    cases bad with
    | true =>
      refine Ret.run Tryz.func207 K207 (by simp) rfl rfl 900 ?_
      simp [A207, iniρ]
      refine T.textW 400 [([], []), ([], []), ([], []), ([], []), ([], []), ([], []), ([], []), ([], []), ([], []), ([], []), ([], []), ([], []), ([], []), ([], []), ([], []), ([], [])] mixed (by kernel_rfl) (by kernel_rfl) ?_
      simp [Zb, yb]
      refine yf.ro 0 rfl (by kernel_rfl) (by simp [za, Yc, ze, Za]) rg rfl (by simp [gotA, inst, instL, shut]; exact ⟨rfl, rfl⟩) (by rfl) ?_
      simp [Zb, yb, over, ex1, zb.idfreeL, zb, yj, outC]
    | false =>
      refine Ret.run Tryz.func207 K207 (by simp) rfl rfl 900 ?_
      simp [A207, iniρ]
      refine T.textW 400 [([], []), ([], []), ([], []), ([], []), ([], []), ([], []), ([], []), ([], []), ([], []), ([], []), ([], []), ([], []), ([], []), ([], []), ([], []), ([], [])] mixed (by kernel_rfl) (by kernel_rfl) ?_
      simp [Zb, yb]
      refine yf.ro 0 rfl (by kernel_rfl) (by simp [za, Yc, ze, Za]) rg rfl (by simp [gotA, inst, instL, shut]; exact ⟨rfl, rfl⟩) (by rfl) ?_
      simp [Zb, yb, over, ex1, zb.idfreeL, zb, yj, outC]
def A213 : AC := (.seq (.ops [qO 2 (.mov (.c (.sc (.string ⟨#[]⟩))))])
  (.seq (.any [(qO 7 (.mov (.t 0)), []), (qO 8 (.nilc (.t 7)), [0]), (qO 9 (.fadr 0 (.t 8)), [1]), (qO 10 (.load false 1 (.t 9)), [2]), (qO 11 (.mov (.t 0)), []), (qO 12 (.nilc (.t 11)), [4]), (qO 13 (.fadr 1 (.t 12)), [5]), (qO 14 (.load false 1 (.t 13)), [6]), (cO 15 250 [.t 10, .t 14], [3, 7]), (qO 6 (.mov (.t 15)), [8]), (qO 16 (.ext (.t 6) 0), [9]), (qO 17 (.ext (.t 6) 1), [9]), (qO 18 (.ext (.t 6) 2), [9]), (qO 3 (.mov (.t 16)), [10, 8, 0, 1, 2, 3, 4, 5, 6, 7, 8, 9, 10]), (qO 4 (.mov (.t 17)), [11, 13, 0, 1, 2, 3, 4, 5, 6, 7, 8, 9, 10, 11, 13]), (qO 5 (.mov (.t 18)), [12, 14, 0, 1, 2, 3, 4, 5, 6, 7, 8, 9, 10, 11, 12, 13, 14])])
  (.seq (.seq (.ops [qO 19 (.mov (.t 0)), qO 20 (.nilc (.t 19)), qO 21 (.fadr 2 (.t 20)), qO 22 (.load false 1 (.t 21)), qO 23 (.mov (.t 22)), qG 24 23 false (.mov (.t 5)), qG 25 23 false (.not (.t 24)), qO 26 (.pick (.t 23) (.c (.sc (.bool true))) (.t 25))])
  (.cond (.t 26) (.seq (.ops [qO 27 (.mov (.t 0)), qO 28 (.nilc (.t 27)), qO 29 (.fadr 2 (.t 28)), nO (.store 1 (.t 29) (.c (.sc (.bool true))))])
  (.seq (.ops [qO 2 (.mov (.c (.sc (.string ⟨#[]⟩))))])
  .ret))
  .skip))
  (.seq (.ops [qO 30 (.mov (.t 0)), qO 31 (.mov (.t 4)), qO 32 (.nilc (.t 30)), qO 33 (.fadr 1 (.t 32)), nO (.store 1 (.t 33) (.t 31))])
  (.seq (.ops [qO 34 (.mov (.t 3)), qO 2 (.mov (.t 34))])
  .ret)))))
theorem K213 : Kf Tryz.prog Tryz.f213 A213 35 [.mov (.t 2)] := ⟨by kernel_rfl, by kernel_rfl, by kernel_rfl⟩
set_option maxHeartbeats 2000000 in
theorem R213 (b : List Int) (a : Int) (bad : Bool) (ha : Ty.int.ok a) (hb : byteL b) (hl : b.length ≤ 140737488355328) : Ret Tryz.prog 213 [.bx [.ro (rows B b) b.length, .sc (.int .i64 a), .sc (.bool bad)]] (.sc (.string (nextT b a bad).1)) [.bx [.ro (rows B b) b.length, .sc (.int .i64 (nextT b a bad).2.1), .sc (.bool (nextT b a bad).2.2)]] := by
  have rg := R250 b a ha hb hl
  have hn : nextT b a bad = match getT b a with | some (s, n) => if bad = true then (⟨#[]⟩, a, true) else (s, n, false) | none => (⟨#[]⟩, a, true) := rfl
  obtain ⟨g, hg⟩ : ∃ g, g = getT b a := ⟨_, rfl⟩
  rw [← hg] at rg hn
  rw [hn]
  cases g with
  | none =>
    cases bad with
    | true =>
      refine Ret.run Tryz.func213 K213 (by simp) rfl rfl 900 ?_
      simp [A213, iniρ]
      refine T.textW 400 [([], []), ([], []), ([], []), ([], []), ([], []), ([], []), ([], []), ([], []), ([], []), ([], []), ([], []), ([], []), ([], []), ([], []), ([], []), ([], [])] mixed (by kernel_rfl) (by kernel_rfl) ?_
      simp [Zb, yb]
      refine yf.ro 0 rfl (by kernel_rfl) (by simp [za, Yc, ze, Za]) rg rfl (by simp [gotA, inst, instL, shut]; exact ⟨rfl, rfl⟩) (by rfl) ?_
      simp [Zb, yb, over, ex1, zb.idfreeL, zb, yj, outC]
    | false =>
      refine Ret.run Tryz.func213 K213 (by simp) rfl rfl 900 ?_
      simp [A213, iniρ]
      refine T.textW 400 [([], []), ([], []), ([], []), ([], []), ([], []), ([], []), ([], []), ([], []), ([], []), ([], []), ([], []), ([], []), ([], []), ([], []), ([], []), ([], [])] mixed (by kernel_rfl) (by kernel_rfl) ?_
      simp [Zb, yb]
      refine yf.ro 0 rfl (by kernel_rfl) (by simp [za, Yc, ze, Za]) rg rfl (by simp [gotA, inst, instL, shut]; exact ⟨rfl, rfl⟩) (by rfl) ?_
      simp [Zb, yb, over, ex1, zb.idfreeL, zb, yj, outC]
  | some p =>
    obtain ⟨s, n⟩ := p
    cases bad with
    | true =>
      refine Ret.run Tryz.func213 K213 (by simp) rfl rfl 900 ?_
      simp [A213, iniρ]
      refine T.textW 400 [([], []), ([], []), ([], []), ([], []), ([], []), ([], []), ([], []), ([], []), ([], []), ([], []), ([], []), ([], []), ([], []), ([], []), ([], []), ([], [])] mixed (by kernel_rfl) (by kernel_rfl) ?_
      simp [Zb, yb]
      refine yf.ro 0 rfl (by kernel_rfl) (by simp [za, Yc, ze, Za]) rg rfl (by simp [gotA, inst, instL, shut]; exact ⟨rfl, rfl⟩) (by rfl) ?_
      simp [Zb, yb, over, ex1, zb.idfreeL, zb, yj, outC]
    | false =>
      refine Ret.run Tryz.func213 K213 (by simp) rfl rfl 900 ?_
      simp [A213, iniρ]
      refine T.textW 400 [([], []), ([], []), ([], []), ([], []), ([], []), ([], []), ([], []), ([], []), ([], []), ([], []), ([], []), ([], []), ([], []), ([], []), ([], []), ([], [])] mixed (by kernel_rfl) (by kernel_rfl) ?_
      simp [Zb, yb]
      refine yf.ro 0 rfl (by kernel_rfl) (by simp [za, Yc, ze, Za]) rg rfl (by simp [gotA, inst, instL, shut]; exact ⟨rfl, rfl⟩) (by rfl) ?_
      simp [Zb, yb, over, ex1, zb.idfreeL, zb, yj, outC]
def rdN (b : List Int) : Nat → Int → Bool → List File × Int × Bool
  | 0, a, bad => ([], a, bad)
  | k + 1, a, bad => (⟨(nextT b a bad).1, (nextT b (nextT b a bad).2.1 (nextT b a bad).2.2).1⟩ :: (rdN b k (nextT b (nextT b a bad).2.1 (nextT b a bad).2.2).2.1 (nextT b (nextT b a bad).2.1 (nextT b a bad).2.2).2.2).1, (rdN b k (nextT b (nextT b a bad).2.1 (nextT b a bad).2.2).2.1 (nextT b (nextT b a bad).2.1 (nextT b a bad).2.2).2.2).2)
def rdH (b : List Int) (bad : Bool) : ByteArray × ByteArray × ByteArray × Int × Bool :=
  ((nextT b 0 bad).1, (nextT b (nextT b 0 bad).2.1 (nextT b 0 bad).2.2).1,
    nextT b (nextT b (nextT b 0 bad).2.1 (nextT b 0 bad).2.2).2.1 (nextT b (nextT b 0 bad).2.1 (nextT b 0 bad).2.2).2.2)
def getI (b : List Int) : Option Made :=
  if (yp (rdH b false).2.2.1 1000).isSome = true ∧ (rdN b ((yp (rdH b false).2.2.1 1000).getD 0) (rdH b false).2.2.2.1 (rdH b false).2.2.2.2).2.2 = false ∧ bEq (putM ⟨(rdH b false).1, (rdN b ((yp (rdH b false).2.2.1 1000).getD 0) (rdH b false).2.2.2.1 (rdH b false).2.2.2.2).1, (rdH b false).2.1⟩) b = true then
    some ⟨(rdH b false).1, (rdN b ((yp (rdH b false).2.2.1 1000).getD 0) (rdH b false).2.2.2.1 (rdH b false).2.2.2.2).1, (rdH b false).2.1⟩ else none
def Yr : Made := ⟨⟨#[]⟩, [], ⟨#[]⟩⟩
def madeA : Option Made → AV
  | some m => .tup [.agg (Made.ty.oc m), .sc (.bool true)]
  | none => .tup [.agg (Made.ty.oc Yr), .sc (.bool false)]
theorem zdV {b : List Int} {a : Int} {s : ByteArray} {n : Int} (h : getT b a = some (s, n)) : s.size ≤ 60000 ∧ 0 ≤ a ∧ n = a + 2 + s.size ∧ n ≤ b.length := by
  unfold getT at h
  split at h
  · split at h
    · rename_i h1 h2
      simp only [Option.some.injEq, Prod.mk.injEq] at h
      obtain ⟨rfl, rfl⟩ := h
      have e : (strOfNums ((b.drop (a.toNat + 2)).take (lenAt b a.toNat))).size = lenAt b a.toNat := by
        rw [strOfNums_size, List.length_take, List.length_drop]; omega
      rw [e]
      omega
    · cases h
  · cases h
theorem yw (b : List Int) (a : Int) (bad : Bool) (h0 : 0 ≤ a ∧ a ≤ b.length) : (nextT b a bad).1.size ≤ 60000 ∧ 0 ≤ (nextT b a bad).2.1 ∧ (nextT b a bad).2.1 ≤ b.length := by
  unfold nextT
  cases hg : getT b a with
  | none => exact ⟨Nat.zero_le _, h0⟩
  | some p =>
    obtain ⟨s, n⟩ := p
    obtain ⟨h1, h2, h3, h4⟩ := zdV hg
    cases bad with
    | true => exact ⟨Nat.zero_le _, h0⟩
    | false => exact ⟨h1, (by show (0 : Int) ≤ n; omega), h4⟩
theorem za4 (b : List Int) : ∀ (k : Nat) (a : Int) (bad : Bool), (rdN b k a bad).1.length = k
  | 0, _, _ => rfl
  | k + 1, a, bad => by rw [rdN, List.length_cons, za4 b k]
theorem zgl (b : List Int) : ∀ (k : Nat) (a : Int) (bad : Bool), (0 ≤ a ∧ a ≤ b.length) → fw (rdN b k a bad).1 ≤ 120004 * k
  | 0, _, _, _ => Nat.zero_le _
  | k + 1, a, bad, h => by
    have h1 := yw b a bad h
    have h2 := yw b _ (nextT b a bad).2.2 h1.2
    have h3 := zgl b k _ (nextT b (nextT b a bad).2.1 (nextT b a bad).2.2).2.2 h2.2
    rw [rdN, fw]
    simp only
    omega
theorem za7 {s : ByteArray} {k : Nat} (h : yp s 1000 = some k) : k ≤ 1000 := by
  unfold yp at h
  split at h
  · rename_i h1
    cases h
    have := h1.2.2.2
    omega
  · cases h
theorem z7 {b : List Int} {a : Int} (hl : b.length ≤ 140737488355328) (h : 0 ≤ a ∧ a ≤ b.length) : Ty.int.ok a := by
  show _ ∧ _
  constructor <;> omega
def A145 : AC := (.seq (.ops [wO 2 (.alloc [(.sc (.string ⟨#[]⟩)), .em, (.sc (.string ⟨#[]⟩))]), qO 3 (.mov (.c (.sc (.bool false))))])
  (.seq (.ops [qO 9 (.mov (.t 0)), wO 10 (.build [.em, (.sc (.int .i64 0)), (.sc (.bool false))] [(0, 1, (.t 9))]), wO 4 (.alloc [.em, (.sc (.int .i64 0)), (.sc (.bool false))]), nO (.store 3 (.t 4) (.t 10))])
  (.seq (.ops [cO 11 207 [.t 4], wO 12 (.build [(.sc (.string ⟨#[]⟩)), .em, (.sc (.string ⟨#[]⟩))] [(0, 1, (.t 11))]), wO 5 (.alloc [(.sc (.string ⟨#[]⟩)), .em, (.sc (.string ⟨#[]⟩))]), nO (.store 3 (.t 5) (.t 12))])
  (.seq (.ops [cO 13 207 [.t 4], qO 14 (.fadr 2 (.t 5)), nO (.store 1 (.t 14) (.t 13))])
  (.seq (.ops [cO 16 207 [.t 4], cO 17 208 [.t 16, iC 1000], qO 15 (.mov (.t 17)), qO 18 (.ext (.t 15) 0), qO 19 (.ext (.t 15) 1), qO 6 (.mov (.t 18)), qO 7 (.mov (.t 19))])
  (.seq (.seq (.ops [qO 20 (.mov (.t 6)), qO 21 (.mov (iC 0))])
  (.block 0 (.loop (.seq (.ops [qO 22 (.bin .lss (.t 21) (.t 20))])
  (.seq (.cond (.t 22) .skip
  (.exit 0))
  (.seq (.block 1 (.seq (.ops [cO 23 207 [.t 4], wO 24 (.build [(.sc (.string ⟨#[]⟩)), (.sc (.string ⟨#[]⟩))] [(0, 1, (.t 23))]), wO 8 (.alloc [(.sc (.string ⟨#[]⟩)), (.sc (.string ⟨#[]⟩))]), nO (.store 2 (.t 8) (.t 24))])
  (.seq (.ops [cO 25 207 [.t 4], qO 26 (.fadr 1 (.t 8)), nO (.store 1 (.t 26) (.t 25))])
  (.ops [qO 27 (.fadr 1 (.t 5)), qO 28 (.load false 1 (.t 27)), qO 29 (.load true 2 (.t 8)), wO 30 (.bsl 2 1 [(.sc (.string ⟨#[]⟩)), (.sc (.string ⟨#[]⟩))] [(0, 2, (.t 29))]), wO 31 (.app 2 32 false (.t 28) (.t 30)), qO 32 (.fadr 1 (.t 5)), nO (.store 1 (.t 32) (.t 31))]))))
  (.ops [qO 33 (.bin .add (.t 21) (iC 1)), qO 21 (.mov (.t 33))])))))))
  (.seq (.seq (.ops [qO 34 (.mov (.t 7)), qO 35 (.not (.t 34)), qO 36 (.mov (.t 35)), qG 37 36 false (.fadr 2 (.t 4)), qG 38 36 false (.load false 1 (.t 37)), qO 39 (.pick (.t 36) (.c (.sc (.bool true))) (.t 38)), qO 40 (.mov (.t 39)), qG 41 40 false (.load true 3 (.t 5)), cG 42 40 false 151 [.t 41], qG 43 40 false (.mov (.t 0)), cG 44 40 false 154 [.t 42, .t 43], qG 45 40 false (.not (.t 44)), qO 46 (.pick (.t 40) (.c (.sc (.bool true))) (.t 45))])
  (.cond (.t 46) (.seq (.ops [wO 47 (.build [(.sc (.string ⟨#[]⟩)), .em, (.sc (.string ⟨#[]⟩))] []), nO (.store 3 (.t 2) (.t 47)), qO 3 (.mov (.c (.sc (.bool false))))])
  .ret)
  .skip))
  (.seq (.ops [qO 48 (.load true 3 (.t 5)), nO (.store 3 (.t 2) (.t 48)), qO 3 (.mov (.c (.sc (.bool true))))])
  .ret))))))))
theorem K145 : Kf Tryz.prog Tryz.f145 A145 49 [.load true 3 (.t 2), .mov (.t 3)] := ⟨by kernel_rfl, by kernel_rfl, by kernel_rfl⟩
set_option maxHeartbeats 4000000 in
theorem R145 (b : List Int) (hb : byteL b) (hl : b.length ≤ 140737488355328) : Ret Tryz.prog 145 [.ro (rows B b) b.length] (madeA (getI b)) [.un] := by
  have g0 : (0 : Int) ≤ 0 ∧ (0 : Int) ≤ b.length := ⟨Int.le_refl _, by omega⟩
  have g1 := yw b 0 false g0
  have r1 := R207 b 0 false (z7 hl g0) hb hl
  obtain ⟨x, hx⟩ : ∃ x, x = nextT b 0 false := ⟨_, rfl⟩
  rw [← hx] at g1 r1
  have g2 := yw b x.2.1 x.2.2 g1.2
  have r2 := R207 b x.2.1 x.2.2 (z7 hl g1.2) hb hl
  obtain ⟨y, hy⟩ : ∃ y, y = nextT b x.2.1 x.2.2 := ⟨_, rfl⟩
  rw [← hy] at g2 r2
  have g3 := yw b y.2.1 y.2.2 g2.2
  have r3 := R207 b y.2.1 y.2.2 (z7 hl g2.2) hb hl
  obtain ⟨z, hz⟩ : ∃ z, z = nextT b y.2.1 y.2.2 := ⟨_, rfl⟩
  rw [← hz] at g3 r3
  have hH : rdH b false = (x.1, y.1, z) := by unfold rdH; rw [← hx, ← hy, ← hz]
  have rp := R208 z.1 1000 (by constructor <;> decide)
  obtain ⟨pn, hpn⟩ : ∃ pn, pn = yp z.1 1000 := ⟨_, rfl⟩
  have hk : pn.getD 0 ≤ 1000 := by
    cases h : pn with
    | none => exact Nat.zero_le _
    | some k => exact za7 (hpn.symm.trans h)
  rw [← hpn] at rp
  obtain ⟨N, hN⟩ : ∃ N, N = pn.getD 0 := ⟨_, rfl⟩
  rw [← hN] at hk
  have hgI : getI b = if pn.isSome = true ∧ (rdN b N z.2.1 z.2.2).2.2 = false ∧ bEq (putM ⟨x.1, (rdN b N z.2.1 z.2.2).1, y.1⟩) b = true then some ⟨x.1, (rdN b N z.2.1 z.2.2).1, y.1⟩ else none := by
    unfold getI
    rw [hH]
    simp only
    rw [← hpn, ← hN]
  have hfl := zgl b N z.2.1 z.2.2 g3.2
  have hln := za4 b N z.2.1 z.2.2
  obtain ⟨R, hR⟩ : ∃ R, R = rdN b N z.2.1 z.2.2 := ⟨_, rfl⟩
  rw [← hR] at hgI hfl hln
  have np : numA pn = .tup [.sc (.int .i64 N), .sc (.bool pn.isSome)] := by
    rw [hN]; cases pn <;> rfl
  rw [np] at rp
  rw [hgI]
  refine Ret.run Tryz.func145 K145 (by simp) rfl rfl 900 ?_
  simp [A145, iniρ, over]
  refine callK.bx (b := 4) 0 rfl (by kernel_rfl) (by simp [za]) (by simp [za]) (by simp [zb.idfreeL, zb]) rfl (by simp) r1 rfl rfl rfl ?_
  simp [over]
  refine callK.bx (b := 4) 0 rfl (by kernel_rfl) (by simp [za]) (by simp [za]) (by simp [zb.idfreeL, zb]) rfl (by simp) r2 rfl rfl rfl ?_
  simp [over]
  refine callK.bx (b := 4) 0 rfl (by kernel_rfl) (by simp [za]) (by simp [za]) (by simp [zb.idfreeL, zb]) rfl (by simp) r3 rfl rfl rfl ?_
  simp [over]
  refine callK.ro 0 rfl (by kernel_rfl) (by simp [za, Yc]) rp rfl (by simp [inst, instL, shut]; exact ⟨rfl, rfl⟩) rfl ?_
  simp
  refine T.le (Le.layC 5 1 2 (by simp [za]; rfl) rfl) ?_
  refine T.rounds (μ := fun i : List File × Nat × Int × Opt => i.2.1)
    (fun i s => i.1.length + i.2.1 = N ∧ (0 ≤ i.2.2.1 ∧ i.2.2.1 ≤ b.length) ∧ (i.1 ++ (rdN b i.2.1 i.2.2.1 i.2.2.2.v).1, (rdN b i.2.1 i.2.2.1 i.2.2.2.v).2) = R ∧ s.ρ 0 = .ro (rows B b) b.length ∧ s.ρ 2 = .ref 2 0 ∧ s.ρ 4 = .ref 4 0 ∧ s.ρ 5 = .ref 5 0 ∧ s.ρ 7 = .sc (.bool pn.isSome) ∧ s.ρ 20 = .sc (.int .i64 N) ∧ s.ρ 21 = .sc (.int .i64 i.1.length) ∧
      s.h 2 = some (some [.sc (.string ⟨#[]⟩), .em, .sc (.string ⟨#[]⟩)]) ∧ s.h 4 = some (some [.ro (rows B b) b.length, .sc (.int .i64 i.2.2.1), .sc (.bool i.2.2.2.v)]) ∧ s.h 5 = some (some [.sc (.string x.1), .own (rows File.ty.oc i.1) i.1.length 2, .sc (.string y.1)]) ∧ (∀ c, c ≠ 2 → c ≠ 4 → c ≠ 5 → s.h c = none) ∧ s.n = 49) ([], N, z.2.1, ⟨z.2.2⟩) (by
      simp [za, Yf, hR]
      exact ⟨g3.2, fun c h1 h2 h3 => by simp [h1, h2, h3]⟩) ?_
  rintro ⟨acc, k, a, ⟨bad⟩⟩ ⟨ρ, hh, n⟩ ⟨hkN, ga, hE, k0, k2, k4, k5, k7, k20, k21, b2, b4, b5, bf, rfl⟩
  simp only at hkN ga hE k0 k2 k4 k5 k7 k20 k21 b2 b4 b5 bf
  have f60 := bf 60 (by decide) (by decide) (by decide)
  refine T.le (Le.open 5 1 60 b5 rfl f60 (File.frL acc)) ?_
  refine yg (n := 600) ?_
  cases k with
  | zero =>
    have hE : (acc, a, bad) = R := by rw [← hE]; simp [rdN]
    subst hE
    have hkN : acc.length = N := hkN
    subst hkN
    simp only at hfl hln
    simp [k20, k21]
    refine T.on 600 ?_
    by_cases hs : pn.isSome = true
    case neg =>
      have hs' : pn.isSome = false := by simpa using hs
      rw [if_neg (fun h => hs h.1)]
      simp [k0, k2, k4, k5, k7, b2, b4, hs', over, ex1, madeA, Yr, Made.oce, Yf, zb.idfreeL]
    by_cases hbd : bad = false
    case neg =>
      have hbd' : bad = true := by simpa using hbd
      rw [if_neg (fun h => hbd h.2.1)]
      simp [k0, k2, k4, k5, k7, b2, b4, hs, hbd', over, ex1, madeA, Yr, Made.oce, Yf, zb.idfreeL]
    obtain ⟨m, hm⟩ : ∃ m : Made, m = ⟨x.1, acc, y.1⟩ := ⟨_, rfl⟩
    have rM := R151 m (by rw [hm]; show acc.length < _; omega) (by rw [hm]; unfold mw; simp only; omega)
    rw [← hm]
    have hro : ∀ (h : Hp), h 60 = some (some (rows File.ty.oc acc)) → roc h 7 (.sl 60 0 acc.length 2 false) = some (.ro (rows File.ty.cs acc) acc.length) := fun h e => File.roc7 e
    simp [k5, k4, k7, b4, hs, hbd]
    refine callK.own 61 rfl (by kernel_rfl) (ys := [.agg (Made.ty.cs m)]) (by simp [za, Yh, List.mapM_cons, List.mapM_nil, Yc, hro, Made.cse, hm]) rM (B_fl _) (by simp [za, bf]) rfl ?_
    simp [k0]
    have hrb : ∀ (h : Hp), h 61 = some (some (rows B (putM m))) → roc h 8 (.sl 61 0 (putM m).length 1 false) = some (.ro (rows B (putM m)) (putM m).length) := fun h e => B.roc e
    refine callK.ro 0 rfl (by kernel_rfl) (by simp [za, ze, hrb]) (R154 (putM m) b) rfl rfl rfl ?_
    cases hq : bEq (putM m) b
    · simp [k0, k2, k4, k5, k7, b2, b4, hs, hbd, over, ex1, madeA, Yr, Made.oce, Yf, zb.idfreeL]
    · simp [k0, k2, k4, k5, k7, b2, b4, hs, hbd, over, ex1, madeA, Made.oce, hm, File.ocl, File.frL]
  | succ k =>
    have hlt : (acc.length : Int) < N := by omega
    have hwr : IntKind.i64.wrap ((acc.length : Int) + 1) = acc.length + 1 := zc (by omega) (by omega)
    have e1 := yw b a bad ga
    have s1 := R207 b a bad (z7 hl ga) hb hl
    rw [rdN] at hE
    obtain ⟨u, hu⟩ : ∃ u, u = nextT b a bad := ⟨_, rfl⟩
    rw [← hu] at e1 s1 hE
    have e2 := yw b u.2.1 u.2.2 e1.2
    have s2 := R207 b u.2.1 u.2.2 (z7 hl e1.2) hb hl
    obtain ⟨v, hv⟩ : ∃ v, v = nextT b u.2.1 u.2.2 := ⟨_, rfl⟩
    rw [← hv] at e2 s2 hE
    have hcap : (acc.length + 1) * 32 ≤ 140737488355328 := by omega
    have hap : rows File.ty.oc acc ++ [.sc (.string u.1), .sc (.string v.1)] = rows File.ty.oc (acc ++ [⟨u.1, v.1⟩]) := by rw [Yd, yc, Yf]; rfl
    simp [k20, k21, hlt]
    refine callK.bx (b := 4) 0 rfl (by kernel_rfl) (by simp [za, k4]) (by simp [za, b4]) (by simp [zb.idfreeL, zb]) rfl (by simp) s1 rfl rfl rfl ?_
    simp [k4, k5, bf, over]
    refine callK.bx (b := 4) 0 rfl (by kernel_rfl) (by simp [za, k4]) (by simp [za]) (by simp [zb.idfreeL, zb]) rfl (by simp) s2 rfl rfl rfl ?_
    simp [k5, k21, bf, over, File.ocl, hcap, hwr, hap]
    refine ⟨acc ++ [⟨u.1, v.1⟩], k, by omega, v.2.1, ⟨v.2.2⟩, _, Le.trans (Le.pack 5 1 (i := 31) (len := acc.length + 1) (sz := 2) (cs' := rows File.ty.oc (acc ++ [⟨u.1, v.1⟩])) (by simp [za]; rfl) rfl (by simp [za]) (by decide) (by rw [File.ocl]; simp) (File.frL _)) (Le.reset [0, 2, 4, 5, 7, 20, 21] [2, 4, 5] ?_ ?_), by simp; omega, e2.2, by rw [← hE]; simp, ?_⟩
    · simp [za, menB, zb, k0, k2, k4, k5, k7, k20]
    · intro c hc cs hcs
      simp at hc
      rcases hc with rfl | rfl | rfl
      · simp [za, b2] at hcs; subst hcs; simp [zb]
      · simp [za] at hcs; subst hcs; simp [zb]
      · simp [za] at hcs; subst hcs; simp [zb, File.frL]
    · simp [za, k0, k2, k4, k5, k7, k20, b2, Ye]
      exact fun c h1 h2 h3 => by simp [h1, h2, h3]
def rdS (b : List Int) : Nat → Int → Bool → List File × Int × Bool
  | 0, a, bad => ([], a, bad)
  | k + 1, a, bad => if bad = true then ([], a, true) else (⟨(nextT b a bad).1, (nextT b (nextT b a bad).2.1 (nextT b a bad).2.2).1⟩ :: (rdS b k (nextT b (nextT b a bad).2.1 (nextT b a bad).2.2).2.1 (nextT b (nextT b a bad).2.1 (nextT b a bad).2.2).2.2).1, (rdS b k (nextT b (nextT b a bad).2.1 (nextT b a bad).2.2).2.1 (nextT b (nextT b a bad).2.1 (nextT b a bad).2.2).2.2).2)
def Yl (b : List Int) : List Int := b.take (b.length - 2)
def Zs (b : List Int) : Bool := (Yl b).sum % 65536 != (lenAt b (b.length - 2) : Int)
def rdR (b : List Int) : List File × Int × Bool := rdS (Yl b) ((yp (rdH (Yl b) (Zs b)).2.2.1 1000).getD 0) (rdH (Yl b) (Zs b)).2.2.2.1 (rdH (Yl b) (Zs b)).2.2.2.2
def getS (b : List Int) : Option Made :=
  if 2 ≤ b.length ∧ (rdR b).2.2 = false ∧ (yp (rdH (Yl b) (Zs b)).2.2.1 1000).isSome = true ∧ (rdR b).2.1 = ((b.length - 2 : Nat) : Int) then
    some ⟨(rdH (Yl b) (Zs b)).1, (rdR b).1, (rdH (Yl b) (Zs b)).2.1⟩ else none
def A158 : AC := (.seq (.ops [wO 2 (.alloc [(.sc (.string ⟨#[]⟩)), .em, (.sc (.string ⟨#[]⟩))]), qO 3 (.mov (.c (.sc (.bool false))))])
  (.seq (.ops [qO 11 (.mov (.t 0)), qO 12 (.llen (.t 11)), qO 13 (.bin .sub (.t 12) (iC 2)), qO 4 (.mov (.t 13))])
  (.seq (.seq (.ops [qO 14 (.mov (.t 4)), qO 15 (.bin .lss (.t 14) (iC 0))])
  (.cond (.t 15) (.seq (.ops [wO 16 (.build [(.sc (.string ⟨#[]⟩)), .em, (.sc (.string ⟨#[]⟩))] []), nO (.store 3 (.t 2) (.t 16)), qO 3 (.mov (.c (.sc (.bool false))))])
  .ret)
  .skip))
  (.seq (.any [(qO 17 (.mov (.t 0)), []), (qO 18 (.mov (.t 4)), []), (qO 19 (.subl 1 (.t 17) none (some (.t 18))), [0, 1]), (qO 20 (.mov (.t 0)), []), (qO 21 (.mov (.t 4)), []), (qO 22 (.subl 1 (.t 20) none (some (.t 21))), [3, 4]), (cO 23 202 [.t 22], [5]), (qO 24 (.mov (.t 0)), []), (qO 25 (.mov (.t 4)), []), (qO 26 (.iadr 1 (.t 24) (.t 25)), [7, 8]), (qO 27 (.load false 1 (.t 26)), [9]), (qO 28 (.cvi .i64 (.t 27)), [10]), (qO 29 (.bin .shl (.t 28) (.c (.sc (.int .u64 8)))), [11]), (qO 30 (.mov (.t 0)), []), (qO 31 (.mov (.t 4)), []), (qO 32 (.bin .add (.t 31) (iC 1)), [14]), (qO 33 (.iadr 1 (.t 30) (.t 32)), [13, 15]), (qO 34 (.load false 1 (.t 33)), [16]), (qO 35 (.cvi .i64 (.t 34)), [17]), (qO 36 (.bin .or (.t 29) (.t 35)), [12, 18]), (qO 37 (.bin .neq (.t 23) (.t 36)), [6, 19]), (wO 38 (.build [.em, (.sc (.int .i64 0)), (.sc (.bool false))] [(0, 1, (.t 19)), (2, 1, (.t 37))]), [2, 20]), (wO 39 (.box (.t 38)), [21]), (qO 5 (.mov (.t 39)), [22, 6, 0, 1, 2, 3, 4, 5, 6, 7, 8, 9, 10, 11, 12, 13, 14, 15, 16, 17, 18, 19, 20, 21, 22])])
  (.seq (.ops [qO 40 (.mov (.t 5)), cO 41 213 [.t 40], wO 42 (.build [(.sc (.string ⟨#[]⟩)), .em, (.sc (.string ⟨#[]⟩))] [(0, 1, (.t 41))]), wO 6 (.alloc [(.sc (.string ⟨#[]⟩)), .em, (.sc (.string ⟨#[]⟩))]), nO (.store 3 (.t 6) (.t 42))])
  (.seq (.ops [qO 43 (.mov (.t 5)), cO 44 213 [.t 43], qO 45 (.fadr 2 (.t 6)), nO (.store 1 (.t 45) (.t 44))])
  (.seq (.ops [qO 47 (.mov (.t 5)), cO 48 213 [.t 47], cO 49 214 [.t 48, iC 1000], qO 46 (.mov (.t 49)), qO 50 (.ext (.t 46) 0), qO 51 (.ext (.t 46) 1), qO 7 (.mov (.t 50)), qO 8 (.mov (.t 51))])
  (.seq (.seq (.ops [qO 9 (.mov (iC 0))])
  (.block 0 (.loop (.seq (.seq (.ops [qO 52 (.mov (.t 9)), qO 53 (.mov (.t 7)), qO 54 (.bin .lss (.t 52) (.t 53)), qO 55 (.mov (.t 54)), qG 56 55 true (.mov (.t 8)), qO 57 (.pick (.t 55) (.t 56) (.c (.sc (.bool false)))), qO 58 (.mov (.t 57)), qG 59 58 true (.mov (.t 5)), qG 60 58 true (.nilc (.t 59)), qG 61 58 true (.fadr 2 (.t 60)), qG 62 58 true (.load false 1 (.t 61)), qG 63 58 true (.not (.t 62)), qO 64 (.pick (.t 58) (.t 63) (.c (.sc (.bool false))))])
  (.cond (.t 64) .skip
  (.exit 0)))
  (.seq (.block 1 (.seq (.ops [qO 67 (.mov (.t 5)), cO 68 213 [.t 67], wO 69 (.build [(.sc (.string ⟨#[]⟩)), (.sc (.string ⟨#[]⟩))] [(0, 1, (.t 68))]), wO 10 (.alloc [(.sc (.string ⟨#[]⟩)), (.sc (.string ⟨#[]⟩))]), nO (.store 2 (.t 10) (.t 69))])
  (.seq (.ops [qO 70 (.mov (.t 5)), cO 71 213 [.t 70], qO 72 (.fadr 1 (.t 10)), nO (.store 1 (.t 72) (.t 71))])
  (.ops [qO 73 (.fadr 1 (.t 6)), qO 74 (.load false 1 (.t 73)), qO 75 (.load true 2 (.t 10)), wO 76 (.bsl 2 1 [(.sc (.string ⟨#[]⟩)), (.sc (.string ⟨#[]⟩))] [(0, 2, (.t 75))]), wO 77 (.app 2 32 false (.t 74) (.t 76)), qO 78 (.fadr 1 (.t 6)), nO (.store 1 (.t 78) (.t 77))]))))
  (.ops [qO 65 (.mov (.t 9)), qO 66 (.bin .add (.t 65) (iC 1)), qO 9 (.mov (.t 66))]))))))
  (.seq (.seq (.ops [qO 79 (.mov (.t 5)), qO 80 (.nilc (.t 79)), qO 81 (.fadr 2 (.t 80)), qO 82 (.load false 1 (.t 81)), qO 83 (.mov (.t 82)), qG 84 83 false (.mov (.t 8)), qG 85 83 false (.not (.t 84)), qO 86 (.pick (.t 83) (.c (.sc (.bool true))) (.t 85)), qO 87 (.mov (.t 86)), qG 88 87 false (.mov (.t 5)), qG 89 87 false (.nilc (.t 88)), qG 90 87 false (.fadr 1 (.t 89)), qG 91 87 false (.load false 1 (.t 90)), qG 92 87 false (.mov (.t 4)), qG 93 87 false (.bin .neq (.t 91) (.t 92)), qO 94 (.pick (.t 87) (.c (.sc (.bool true))) (.t 93))])
  (.cond (.t 94) (.seq (.ops [wO 95 (.build [(.sc (.string ⟨#[]⟩)), .em, (.sc (.string ⟨#[]⟩))] []), nO (.store 3 (.t 2) (.t 95)), qO 3 (.mov (.c (.sc (.bool false))))])
  .ret)
  .skip))
  (.seq (.ops [qO 96 (.load true 3 (.t 6)), nO (.store 3 (.t 2) (.t 96)), qO 3 (.mov (.c (.sc (.bool true))))])
  .ret))))))))))
theorem K158 : Kf Tryz.prog Tryz.f158 A158 97 [.load true 3 (.t 2), .mov (.t 3)] := ⟨by kernel_rfl, by kernel_rfl, by kernel_rfl⟩
set_option maxHeartbeats 4000000 in
theorem R158 (b : List Int) (hb : byteL b) (hl : b.length ≤ 140737488355328) : Ret Tryz.prog 158 [.ro (rows B b) b.length] (madeA (getS b)) [.un] := by
  by_cases h2 : 2 ≤ b.length
  case neg =>
    have hw0 : IntKind.i64.wrap ((b.length : Int) - 2) = b.length - 2 := zc (by omega) (by omega)
    have hlt : (b.length : Int) - 2 < 0 := by omega
    have e : getS b = none := if_neg fun h => h2 h.1
    refine Ret.run Tryz.func158 K158 (by simp) rfl rfl 900 ?_
    simp [A158, iniρ, hw0, hlt, e, over, ex1, madeA, Yr, Made.oce, Yf, zb.idfreeL]
  obtain ⟨k, hk⟩ : ∃ k, k = b.length - 2 := ⟨_, rfl⟩
  obtain ⟨c, hc⟩ : ∃ c, c = Yl b := ⟨_, rfl⟩
  have hcl : c.length = k := by rw [hc, Yl, List.length_take]; omega
  have hcb : byteL c := fun x hx => by rw [hc] at hx; exact hb x (List.mem_of_mem_take hx)
  have hw0 : IntKind.i64.wrap ((b.length : Int) - 2) = k := by rw [zc (by omega) (by omega)]; omega
  have k1 : k + 1 < b.length := by omega
  have lt0 : k < b.length := by omega
  have nlt : ¬ ((k : Int) < 0) := by omega
  have nk : (0 : Int) ≤ (k : Int) + 1 := by omega
  have ilt0 : (k : Int) < b.length := by omega
  have ilt1 : (k : Int) + 1 < b.length := by omega
  have hkl : k ≤ b.length := by omega
  have wk : IntKind.i64.wrap ((k : Int) + 1) = k + 1 := zc (by omega) (by omega)
  have ds : List.take k (rows B b) = rows B c := by
    have h := ZR B.len b k hkl
    rw [Nat.mul_one] at h
    rw [h, hc, Yl, ← hk]
  have d0 : List.drop k (rows B b) = .sc (.int .u8 b[k]) :: rows B (b.drop (k + 1)) := by
    have h := ye B.len (b.take k) (b.drop k)
    rw [List.take_append_drop, List.length_take, Nat.mul_one, Nat.min_eq_left (by omega), List.drop_eq_getElem_cons (by omega : k < b.length), yc] at h
    exact h
  have d1 : List.drop (k + 1) (rows B b) = .sc (.int .u8 b[k + 1]) :: rows B (b.drop (k + 2)) := by
    have h := ye B.len (b.take (k + 1)) (b.drop (k + 1))
    rw [List.take_append_drop, List.length_take, Nat.mul_one, Nat.min_eq_left (by omega), List.drop_eq_getElem_cons (by omega : k + 1 < b.length), yc] at h
    exact h
  have q0 := hb b[k] (List.getElem_mem _)
  have q1 := hb b[k + 1] (List.getElem_mem _)
  obtain ⟨u, hu⟩ : ∃ u, u = b[k] := ⟨_, rfl⟩
  obtain ⟨v, hv⟩ : ∃ v, v = b[k + 1] := ⟨_, rfl⟩
  rw [← hu] at d0 q0
  rw [← hv] at d1 q1
  have hn : lenAt b k = u.toNat * 256 + v.toNat := by
    unfold lenAt
    rw [List.getElem?_eq_getElem (by omega : k < b.length), List.getElem?_eq_getElem (by omega : k + 1 < b.length), ← hu, ← hv]; rfl
  obtain ⟨m, hm⟩ : ∃ m, m = lenAt b k := ⟨_, rfl⟩
  have hor := zb6 q0 q1
  rw [show u * 256 + v = (m : Int) by rw [hm, hn]; omega] at hor
  have wx : IntKind.i64.wrap u = u := zc (by omega) (by omega)
  have wy : IntKind.i64.wrap v = v := zc (by omega) (by omega)
  have ws : IntKind.i64.wrap (u * 2 ^ min 8 IntKind.i64.bits) = u * 256 := by
    have : (2 : Int) ^ min 8 IntKind.i64.bits = 256 := rfl
    rw [this]; exact zc (by omega) (by omega)
  have hcl2 : c.length ≤ 140737488355328 := by omega
  have rS := R202 c hcb hcl2
  obtain ⟨B0, hB0⟩ : ∃ B0, B0 = Zs b := ⟨_, rfl⟩
  have hB1 : (c.sum % 65536 != (m : Int)) = B0 := by rw [hB0, Zs, ← hc, ← hk, hm]
  have g0 : (0 : Int) ≤ 0 ∧ (0 : Int) ≤ c.length := ⟨Int.le_refl _, by omega⟩
  have g1 := yw c 0 B0 g0
  have r1 := R213 c 0 B0 (z7 hcl2 g0) hcb hcl2
  obtain ⟨x, hx⟩ : ∃ x, x = nextT c 0 B0 := ⟨_, rfl⟩
  rw [← hx] at g1 r1
  have g2 := yw c x.2.1 x.2.2 g1.2
  have r2 := R213 c x.2.1 x.2.2 (z7 hcl2 g1.2) hcb hcl2
  obtain ⟨y, hy⟩ : ∃ y, y = nextT c x.2.1 x.2.2 := ⟨_, rfl⟩
  rw [← hy] at g2 r2
  have g3 := yw c y.2.1 y.2.2 g2.2
  have r3 := R213 c y.2.1 y.2.2 (z7 hcl2 g2.2) hcb hcl2
  obtain ⟨z, hz⟩ : ∃ z, z = nextT c y.2.1 y.2.2 := ⟨_, rfl⟩
  rw [← hz] at g3 r3
  have hH : rdH c B0 = (x.1, y.1, z) := by unfold rdH; rw [← hx, ← hy, ← hz]
  have rp := R214 z.1 1000 (by constructor <;> decide) (by omega)
  obtain ⟨pn, hpn⟩ : ∃ pn, pn = yp z.1 1000 := ⟨_, rfl⟩
  have hkk : pn.getD 0 ≤ 1000 := by
    cases h : pn with
    | none => exact Nat.zero_le _
    | some k => exact za7 (hpn.symm.trans h)
  rw [← hpn] at rp
  obtain ⟨N, hN⟩ : ∃ N, N = pn.getD 0 := ⟨_, rfl⟩
  rw [← hN] at hkk
  have hRR : rdR b = rdS c N z.2.1 z.2.2 := by
    unfold rdR
    rw [← hc, ← hB0, hH]
    simp only
    rw [← hpn, ← hN]
  have hgS : getS b = if (rdS c N z.2.1 z.2.2).2.2 = false ∧ pn.isSome = true ∧ (rdS c N z.2.1 z.2.2).2.1 = (k : Int) then some ⟨x.1, (rdS c N z.2.1 z.2.2).1, y.1⟩ else none := by
    unfold getS
    rw [hRR, ← hc, ← hB0, hH, ← hk]
    simp only
    rw [← hpn]
    by_cases cc : (rdS c N z.2.1 z.2.2).2.2 = false ∧ pn.isSome = true ∧ (rdS c N z.2.1 z.2.2).2.1 = (k : Int)
    · rw [if_pos cc, if_pos ⟨h2, cc.1, cc.2.1, cc.2.2⟩]
    · rw [if_neg cc, if_neg (fun h => cc ⟨h.2.1, h.2.2.1, h.2.2.2⟩)]
  obtain ⟨R, hR⟩ : ∃ R, R = rdS c N z.2.1 z.2.2 := ⟨_, rfl⟩
  rw [← hR] at hgS
  have hsN : 0 < N → pn.isSome = true := fun h => by
    cases hp : pn with
    | none => rw [hp] at hN; simp at hN; omega
    | some j => rfl
  have np : numA pn = .tup [.sc (.int .i64 N), .sc (.bool pn.isSome)] := by
    rw [hN]; cases pn <;> rfl
  rw [np] at rp
  rw [hgS]
  rw [hcl] at r1 r2 r3
  refine Ret.run Tryz.func158 K158 (by simp) rfl rfl 900 ?_
  simp [A158, iniρ, hw0, nlt]
  refine T.textW 400 [([], []), ([], []), ([], []), ([], []), ([], []), ([], []), ([], []), ([], []), ([], []), ([], []), ([], []), ([], []), ([], []), ([], []), ([], []), ([], []), ([], []), ([], []), ([], []), ([], []), ([], []), ([], []), ([39], []), ([], [])] mixed (by kernel_rfl) (by kernel_rfl) ?_
  simp [nlt, hkl, ds, Zb, yb]
  refine yf.ro 0 rfl (by kernel_rfl) (ys := [.ro (rows B c) c.length]) (by simp [za, ze, hcl]) rS rfl rfl (by rfl) ?_
  simp [nlt, nk, hkl, ds, lt0, ilt0, ilt1, k1, d0, d1, wk, wx, wy, ws, hor, hB1, over, Zb, yb]
  refine callK.bx (b := 39) 0 rfl (by kernel_rfl) (by simp [za]) (by simp [za]) (by simp [zb.idfreeL, zb]) rfl (by simp) r1 rfl rfl rfl ?_
  simp [over]
  refine callK.bx (b := 39) 0 rfl (by kernel_rfl) (by simp [za]) (by simp [za]) (by simp [zb.idfreeL, zb]) rfl (by simp) r2 rfl rfl rfl ?_
  simp [over]
  refine callK.bx (b := 39) 0 rfl (by kernel_rfl) (by simp [za]) (by simp [za]) (by simp [zb.idfreeL, zb]) rfl (by simp) r3 rfl rfl rfl ?_
  simp [over]
  refine callK.ro 0 rfl (by kernel_rfl) (by simp [za, Yc]) rp rfl (by simp [inst, instL, shut]; exact ⟨rfl, rfl⟩) rfl ?_
  simp
  refine T.le (Le.layC 6 1 2 (by simp [za]; rfl) rfl) ?_
  refine T.rounds (μ := fun i : List File × Nat × Int × Opt => i.2.1)
    (fun i s => i.1.length + i.2.1 = N ∧ (0 ≤ i.2.2.1 ∧ i.2.2.1 ≤ c.length) ∧ (i.1 ++ (rdS c i.2.1 i.2.2.1 i.2.2.2.v).1, (rdS c i.2.1 i.2.2.1 i.2.2.2.v).2) = R ∧ s.ρ 2 = .ref 2 0 ∧ s.ρ 4 = .sc (.int .i64 k) ∧ s.ρ 5 = .ref 39 0 ∧ s.ρ 6 = .ref 6 0 ∧ s.ρ 7 = .sc (.int .i64 N) ∧ s.ρ 8 = .sc (.bool pn.isSome) ∧ s.ρ 9 = .sc (.int .i64 i.1.length) ∧
      s.h 2 = some (some [.sc (.string ⟨#[]⟩), .em, .sc (.string ⟨#[]⟩)]) ∧ s.h 39 = some (some [.ro (rows B c) k, .sc (.int .i64 i.2.2.1), .sc (.bool i.2.2.2.v)]) ∧ s.h 6 = some (some [.sc (.string x.1), .own (rows File.ty.oc i.1) i.1.length 2, .sc (.string y.1)]) ∧ (∀ c, c ≠ 2 → c ≠ 39 → c ≠ 6 → s.h c = none) ∧ s.n = 97) ([], N, z.2.1, ⟨z.2.2⟩) (by
      simp [za, Yf, hR]
      exact ⟨g3.2, fun c h1 h2 h3 => by simp [h1, h2, h3]⟩) ?_
  rintro ⟨acc, j, a, ⟨bad⟩⟩ ⟨ρ, hh, n⟩ ⟨hkN, ga, hE, k2, k4, k5, k6, k7, k8, k9, b2, b39, b6, bf, rfl⟩
  simp only at hkN ga hE k2 k4 k5 k6 k7 k8 k9 b2 b39 b6 bf
  have f60 := bf 60 (by decide) (by decide) (by decide)
  refine T.le (Le.open 6 1 60 b6 rfl f60 (File.frL acc)) ?_
  have none0 : ∀ r : List File × Int × Bool, r = R → ¬ (r.2.2 = false ∧ pn.isSome = true ∧ r.2.1 = (k : Int)) → (if R.2.2 = false ∧ pn.isSome = true ∧ R.2.1 = (k : Int) then some (⟨x.1, R.1, y.1⟩ : Made) else none) = none := fun r e h => by
    subst e; exact if_neg h
  refine yg (n := 600) ?_
  cases j with
  | zero =>
    have hE : (acc, a, bad) = R := by rw [← hE]; simp [rdS]
    have hkN : acc.length = N := hkN
    subst hkN
    simp [k7, k9]
    refine T.on 600 ?_
    by_cases hbd : bad = false
    case neg =>
      have hbd' : bad = true := by simpa using hbd
      rw [none0 _ hE (fun h => hbd h.1)]
      simp [k2, k4, k5, k6, k8, b2, b39, hbd', over, ex1, madeA, Yr, Made.oce, Yf, zb.idfreeL]
    by_cases hs : pn.isSome = true
    case neg =>
      have hs' : pn.isSome = false := by simpa using hs
      rw [none0 _ hE (fun h => hs h.2.1)]
      simp [k2, k4, k5, k6, k8, b2, b39, hbd, hs', over, ex1, madeA, Yr, Made.oce, Yf, zb.idfreeL]
    by_cases hq : a = (k : Int)
    case neg =>
      rw [none0 _ hE (fun h => hq h.2.2)]
      simp [k2, k4, k5, k6, k8, b2, b39, hbd, hs, hq, over, ex1, madeA, Yr, Made.oce, Yf, zb.idfreeL]
    subst hE
    rw [if_pos ⟨hbd, hs, hq⟩]
    simp [k2, k4, k5, k6, k8, b2, b39, hbd, hs, hq, over, ex1, madeA, Made.oce, File.ocl, File.frL]
  | succ j =>
    have hlt : (acc.length : Int) < N := by omega
    have hs := hsN (by omega)
    rw [rdS] at hE
    by_cases hbd : bad = false
    case neg =>
      have hbd' : bad = true := by simpa using hbd
      rw [if_pos hbd'] at hE
      rw [none0 _ hE (fun h => by cases h.1)]
      simp [k5, k7, k8, k9, b39, hlt, hs, hbd']
      refine T.on 600 ?_
      simp [k2, k4, k5, k6, k8, b2, b39, hbd', over, ex1, madeA, Yr, Made.oce, Yf, zb.idfreeL]
    rw [if_neg (by rw [hbd]; decide)] at hE
    have hwr : IntKind.i64.wrap ((acc.length : Int) + 1) = acc.length + 1 := zc (by omega) (by omega)
    have e1 := yw c a bad ga
    have s1 := R213 c a bad (z7 hcl2 ga) hcb hcl2
    obtain ⟨u, hu⟩ : ∃ u, u = nextT c a bad := ⟨_, rfl⟩
    rw [← hu] at e1 s1 hE
    have e2 := yw c u.2.1 u.2.2 e1.2
    have s2 := R213 c u.2.1 u.2.2 (z7 hcl2 e1.2) hcb hcl2
    obtain ⟨v, hv⟩ : ∃ v, v = nextT c u.2.1 u.2.2 := ⟨_, rfl⟩
    rw [← hv] at e2 s2 hE
    rw [hcl] at s1 s2
    have hcap : (acc.length + 1) * 32 ≤ 140737488355328 := by omega
    have hap : rows File.ty.oc acc ++ [.sc (.string u.1), .sc (.string v.1)] = rows File.ty.oc (acc ++ [⟨u.1, v.1⟩]) := by rw [Yd, yc, Yf]; rfl
    simp [k5, k7, k8, k9, b39, hlt, hs, hbd]
    refine callK.bx (b := 39) 0 rfl (by kernel_rfl) (by simp [za, k5]) (by simp [za, b39]) (by simp [zb.idfreeL, zb]) rfl (by simp) s1 rfl rfl rfl ?_
    simp [k5, k6, bf, over]
    refine callK.bx (b := 39) 0 rfl (by kernel_rfl) (by simp [za, k5]) (by simp [za]) (by simp [zb.idfreeL, zb]) rfl (by simp) s2 rfl rfl rfl ?_
    simp [k6, k9, bf, over, File.ocl, hcap, hwr, hap]
    refine ⟨acc ++ [⟨u.1, v.1⟩], j, by omega, v.2.1, ⟨v.2.2⟩, _, Le.trans (Le.pack 6 1 (i := 77) (len := acc.length + 1) (sz := 2) (cs' := rows File.ty.oc (acc ++ [⟨u.1, v.1⟩])) (by simp [za]; rfl) rfl (by simp [za]) (by decide) (by rw [File.ocl]; simp) (File.frL _)) (Le.reset [2, 4, 5, 6, 7, 8, 9] [2, 39, 6] ?_ ?_), by simp; omega, e2.2, by rw [← hE]; simp, ?_⟩
    · simp [za, menB, zb, k2, k4, k5, k6, k7, k8]
    · intro c hc cs hcs
      simp at hc
      rcases hc with rfl | rfl | rfl
      · simp [za, b2] at hcs; subst hcs; simp [zb]
      · simp [za] at hcs; subst hcs; simp [zb]
      · simp [za] at hcs; subst hcs; simp [zb, File.frL]
    · simp [za, k2, k4, k5, k6, k7, k8, hs, b2, Ye]
      exact fun c h1 h2 h3 => by simp [h1, h2, h3]
def enc1 (s : ByteArray) : List Int := hiL s.size ++ sB s
def encF : List File → List Int
  | [] => []
  | f :: l => enc1 f.path ++ (enc1 f.text ++ encF l)
theorem zd0 (s : ByteArray) : (enc1 s).length = 2 + s.size := by
  have := zad s
  simp only [enc1, List.length_append, hiL, List.length_cons, List.length_nil, this]
theorem zfU (s : ByteArray) : strOfNums (sB s) = s := by
  apply ByteArray.ext
  unfold strOfNums sB
  rw [List.map_map]
  have : (s.data.toList.map ((fun n : Int => UInt8.ofNat n.toNat) ∘ fun b : UInt8 => (b.toNat : Int))) = s.data.toList := by
    conv => rhs; rw [← List.map_id s.data.toList]
    refine List.map_congr_left fun c _ => ?_
    show UInt8.ofNat ((c.toNat : Int).toNat) = c
    rw [Int.toNat_natCast, UInt8.ofNat_toNat]
  rw [this]
theorem zbY {l : List Int} (h : byteL l) : sB (strOfNums l) = l := by
  unfold strOfNums sB
  rw [List.map_map]
  conv => rhs; rw [← List.map_id l]
  refine List.map_congr_left fun x hx => ?_
  have := h x hx
  show (((UInt8.ofNat x.toNat).toNat : Nat) : Int) = x
  rw [UInt8.toNat_ofNat']
  omega
theorem zfK {a b : List Int} (ha : byteL a) (hb : byteL b) : bEq a b = true ↔ a = b := by
  unfold bEq
  rw [beq_iff_eq, Lib.toList_data, Lib.toList_data]
  constructor
  · intro h
    have h2 : strOfNums a = strOfNums b := by
      apply ByteArray.ext
      exact Array.ext' h
    rw [← zbY ha, ← zbY hb, h2]
  · rintro rfl; rfl
theorem zfk {b w : List Int} {s : ByteArray} {n : Int} (hb : byteL b) (hw : ∃ q, b = w ++ q) (h : getT b (w.length : Int) = some (s, n)) : s.size ≤ 60000 ∧ n = ((w ++ enc1 s).length : Nat) ∧ ∃ q, b = (w ++ enc1 s) ++ q := by
  obtain ⟨q, hq⟩ := hw
  have hr := zdV h
  unfold getT at h
  split at h
  case isFalse => cases h
  rename_i c1
  split at h
  case isFalse => cases h
  rename_i c2
  simp only [Option.some.injEq, Prod.mk.injEq] at h
  obtain ⟨rfl, rfl⟩ := h
  have hbl : b.length = w.length + q.length := by rw [hq, List.length_append]
  have hdw : b.drop w.length = q := by rw [hq, List.drop_left]
  obtain ⟨x, y, r, rfl⟩ : ∃ x y r, q = x :: y :: r := by
    match q, hbl with
    | [], hbl => simp at hbl; omega
    | [_], hbl => simp at hbl; omega
    | x :: y :: r, _ => exact ⟨x, y, r, rfl⟩
  have e0 : b[w.length]? = some x := by rw [hq, List.getElem?_append_right (Nat.le_refl _)]; simp
  have e1 : b[w.length + 1]? = some y := by rw [hq, List.getElem?_append_right (by omega)]; simp
  have hL : lenAt b w.length = x.toNat * 256 + y.toNat := by unfold lenAt; rw [e0, e1]; rfl
  have d2 : b.drop (w.length + 2) = r := by rw [← List.drop_drop, hdw]; rfl
  have bx := hb x (by rw [hq]; simp)
  have by' := hb y (by rw [hq]; simp)
  have hrb : byteL r := fun z hz => hb z (by rw [hq]; simp [hz])
  rw [Int.toNat_natCast] at hr c2 ⊢
  have hm : (r.take (lenAt b w.length)).length = lenAt b w.length := by
    rw [List.length_take]
    have : b.length = w.length + (r.length + 1 + 1) := hbl
    omega
  rw [d2] at hr ⊢
  have hs : (strOfNums (r.take (lenAt b w.length))).size = lenAt b w.length := by rw [strOfNums_size, hm]
  have hsb : sB (strOfNums (r.take (lenAt b w.length))) = r.take (lenAt b w.length) := zbY fun z hz => hrb z (List.mem_of_mem_take hz)
  obtain ⟨L, hLd⟩ : ∃ L, L = lenAt b w.length := ⟨_, rfl⟩
  rw [← hLd] at hL hm hs hsb hr ⊢
  refine ⟨hr.1, ?_, r.drop L, ?_⟩
  · rw [List.length_append, zd0, hs]; omega
  · rw [hq, List.append_assoc]
    congr 1
    rw [enc1, hs, hsb, hiL, hL]
    have f1 : ((x.toNat * 256 + y.toNat : Nat) : Int) / 256 = x := by omega
    have f2 : ((x.toNat * 256 + y.toNat : Nat) : Int) % 256 = y := by omega
    rw [f1, f2]
    simp
theorem zf5 {w q : List Int} {s : ByteArray} (hs : s.size ≤ 60000) : getT ((w ++ enc1 s) ++ q) (w.length : Int) = some (s, (((w ++ enc1 s).length : Nat) : Int)) := by
  obtain ⟨b, hb⟩ : ∃ b, b = (w ++ enc1 s) ++ q := ⟨_, rfl⟩
  have hl := zd0 s
  have hbl : b.length = w.length + (2 + s.size) + q.length := by rw [hb, List.length_append, List.length_append, hl]
  have hb2 : b = w ++ ((s.size : Int) / 256 :: (s.size : Int) % 256 :: (sB s ++ q)) := by rw [hb, enc1, hiL]; simp
  have e0 : b[w.length]? = some ((s.size : Int) / 256) := by rw [hb2, List.getElem?_append_right (Nat.le_refl _)]; simp
  have e1 : b[w.length + 1]? = some ((s.size : Int) % 256) := by rw [hb2, List.getElem?_append_right (by omega)]; simp
  have hL : lenAt b w.length = s.size := by unfold lenAt; rw [e0, e1]; show ((s.size : Int) / 256).toNat * 256 + ((s.size : Int) % 256).toNat = _; omega
  have d2 : b.drop (w.length + 2) = sB s ++ q := by
    rw [hb2, ← List.drop_drop, List.drop_left]; rfl
  rw [← hb]
  unfold getT
  rw [Int.toNat_natCast, hL, d2, if_pos ⟨by omega, by omega⟩, if_pos ⟨hs, by omega⟩]
  have ht : (sB s ++ q).take s.size = sB s := by rw [← zad s, List.take_left]
  rw [ht, zfU, List.length_append, hl]
  congr 2
  omega
theorem yS (b : List Int) (a : Int) : nextT b a true = (⟨#[]⟩, a, true) := by
  unfold nextT
  cases getT b a with
  | none => rfl
  | some p => rfl
theorem YS {b w : List Int} {bad : Bool} (hb : byteL b) (hw : ∃ q, b = w ++ q) (h : (nextT b (w.length : Int) bad).2.2 = false) : bad = false ∧ (nextT b (w.length : Int) bad).1.size ≤ 60000 ∧ (nextT b (w.length : Int) bad).2.1 = ((w ++ enc1 (nextT b (w.length : Int) bad).1).length : Nat) ∧ ∃ q, b = (w ++ enc1 (nextT b (w.length : Int) bad).1) ++ q := by
  cases bad with
  | true => rw [yS] at h; cases h
  | false =>
    have hn : nextT b (w.length : Int) false = match getT b (w.length : Int) with | some (s, n) => (s, n, false) | none => (⟨#[]⟩, (w.length : Int), true) := rfl
    cases hg : getT b (w.length : Int) with
    | none => rw [hn, hg] at h; cases h
    | some p =>
      obtain ⟨s, n⟩ := p
      rw [hg] at hn
      rw [hn]
      exact ⟨rfl, zfk hb hw hg⟩
theorem YZ {w q : List Int} {s : ByteArray} (hs : s.size ≤ 60000) : nextT ((w ++ enc1 s) ++ q) (w.length : Int) false = (s, (((w ++ enc1 s).length : Nat) : Int), false) := by
  unfold nextT
  rw [zf5 hs]; rfl
theorem za5 (b : List Int) : ∀ (k : Nat) (a : Int), (rdN b k a true).2.2 = true
  | 0, _ => rfl
  | k + 1, a => by
    rw [rdN, yS]
    simp only
    rw [yS]
    exact za5 b k _
def z6 (l : List File) : Prop := ∀ f ∈ l, f.path.size ≤ 60000 ∧ f.text.size ≤ 60000
theorem zb1 {b : List Int} (hb : byteL b) : ∀ (k : Nat) (w : List Int) (bad : Bool), (∃ q, b = w ++ q) → (rdN b k (w.length : Int) bad).2.2 = false →
    bad = false ∧ z6 (rdN b k (w.length : Int) bad).1 ∧ (rdN b k (w.length : Int) bad).2.1 = ((w ++ encF (rdN b k (w.length : Int) bad).1).length : Nat) ∧ ∃ q, b = (w ++ encF (rdN b k (w.length : Int) bad).1) ++ q
  | 0, w, bad, hw, h => by
    have e : rdN b 0 (w.length : Int) bad = ([], (w.length : Int), bad) := rfl
    rw [e] at h ⊢
    have hn : z6 [] := fun f hf => absurd hf List.not_mem_nil
    exact ⟨h, hn, by simp [encF], by simpa [encF] using hw⟩
  | k + 1, w, bad, hw, h => by
    rw [rdN] at h ⊢
    simp only at h ⊢
    have c2 : (nextT b (nextT b (w.length : Int) bad).2.1 (nextT b (w.length : Int) bad).2.2).2.2 = false := by
      cases hc : (nextT b (nextT b (w.length : Int) bad).2.1 (nextT b (w.length : Int) bad).2.2).2.2 with
      | false => rfl
      | true => rw [hc, za5] at h; cases h
    have c1 : (nextT b (w.length : Int) bad).2.2 = false := by
      cases hc : (nextT b (w.length : Int) bad).2.2 with
      | false => rfl
      | true => rw [hc, yS] at c2; cases c2
    obtain ⟨h1, h2, h3, h4⟩ := YS hb hw c1
    obtain ⟨u, hu⟩ : ∃ u, u = nextT b (w.length : Int) bad := ⟨_, rfl⟩
    rw [← hu] at h c1 c2 h2 h3 h4 ⊢
    rw [h3] at c2 h ⊢
    obtain ⟨g1, g2, g3, g4⟩ := YS hb h4 c2
    obtain ⟨v, hv⟩ : ∃ v, v = nextT b (((w ++ enc1 u.1).length : Nat) : Int) u.2.2 := ⟨_, rfl⟩
    rw [← hv] at h c2 g2 g3 g4 ⊢
    rw [g3] at h ⊢
    obtain ⟨e1, e2, e3, e4⟩ := zb1 hb k _ _ g4 h
    have hap : ∀ l : List File, w ++ encF (⟨u.1, v.1⟩ :: l) = (w ++ enc1 u.1 ++ enc1 v.1) ++ encF l := fun l => by simp [encF]
    rw [hap]
    refine ⟨h1, ?_, e3, e4⟩
    intro f hf
    rcases List.mem_cons.1 hf with rfl | hf
    · exact ⟨h2, g2⟩
    · exact e2 f hf
theorem zeN : ∀ (l : List File) (w q : List Int), z6 l → rdN ((w ++ encF l) ++ q) l.length (w.length : Int) false = (l, (((w ++ encF l).length : Nat) : Int), false)
  | [], w, q, _ => by simp [rdN, encF]
  | f :: l, w, q, h => by
    obtain ⟨h1, h2⟩ := h f (by simp)
    have e : (w ++ encF (f :: l)) ++ q = (w ++ enc1 f.path) ++ (enc1 f.text ++ (encF l ++ q)) := by simp [encF]
    have e2 : (w ++ encF (f :: l)) ++ q = ((w ++ enc1 f.path) ++ enc1 f.text) ++ (encF l ++ q) := by simp [encF]
    have e3 : (w ++ encF (f :: l)) ++ q = ((w ++ enc1 f.path ++ enc1 f.text) ++ encF l) ++ q := by simp [encF]
    have n1 : nextT ((w ++ encF (f :: l)) ++ q) (w.length : Int) false = (f.path, (((w ++ enc1 f.path).length : Nat) : Int), false) := by rw [e]; exact YZ h1
    have n2 : nextT ((w ++ encF (f :: l)) ++ q) (((w ++ enc1 f.path).length : Nat) : Int) false = (f.text, (((w ++ enc1 f.path ++ enc1 f.text).length : Nat) : Int), false) := by rw [e2]; exact YZ h2
    have n3 : rdN ((w ++ encF (f :: l)) ++ q) l.length (((w ++ enc1 f.path ++ enc1 f.text).length : Nat) : Int) false = (l, (((w ++ enc1 f.path ++ enc1 f.text ++ encF l).length : Nat) : Int), false) := by rw [e3]; exact zeN l _ q fun g hg => h g (List.mem_cons_of_mem _ hg)
    rw [List.length_cons, rdN, n1]
    simp only
    rw [n2]
    simp only
    rw [n3]
    simp [encF]
theorem rdS_N (b : List Int) : ∀ (k : Nat) (a : Int) (bad : Bool), ((rdS b k a bad).2.2 = false ∨ (rdN b k a bad).2.2 = false) → rdS b k a bad = rdN b k a bad
  | 0, _, _, _ => rfl
  | k + 1, a, bad, h => by
    cases bad with
    | true =>
      rcases h with h | h
      · rw [rdS, if_pos rfl] at h; cases h
      · rw [za5] at h; cases h
    | false =>
      rw [rdS, if_neg (by decide), rdN] at h
      rw [rdS, if_neg (by decide), rdN]
      simp only at h
      rw [rdS_N b k _ _ h]
theorem zai {b : List Int} {s : ByteArray} (h : s.size ≤ 60000) : putT b s = b ++ enc1 s := if_pos h
theorem zcx : ∀ (l : List File) (b : List Int), z6 l → putFs b l = b ++ encF l
  | [], b, _ => by simp [putFs, encF]
  | f :: l, b, h => by
    obtain ⟨h1, h2⟩ := h f (by simp)
    rw [putFs, zai h1, zai h2, zcx l _ fun g hg => h g (List.mem_cons_of_mem _ hg)]
    simp [encF]
structure Fit (m : Made) : Prop where
  task : m.task.size ≤ 60000
  log : m.log.size ≤ 60000
  outs : z6 m.outs
  num : m.outs.length ≤ 1000
theorem zfJ {m : Made} (h : Fit m) : bodyM m = enc1 m.task ++ (enc1 m.log ++ (enc1 (numT m.outs.length) ++ encF m.outs)) := by
  have hn := Zi m.outs.length
  have := h.num
  unfold bodyM putFl
  rw [zai h.task, zai h.log, zai (by omega), zcx _ _ h.outs]
  simp
theorem zd5 : ∀ (k n : Nat), n ≤ k → digF 0 (Lib.decDigits n) = n ∧ figL (Lib.decDigits n) = true
  | k, n, hk => by
    have dg : ∀ d : Nat, d < 10 → (UInt8.ofNat (48 + d)).toNat = 48 + d := fun d hd => by rw [UInt8.toNat_ofNat']; omega
    have fg : ∀ d : Nat, d < 10 → figI ((UInt8.ofNat (48 + d)).toNat : Int) = true := fun d hd => by
      rw [dg d hd]; simp only [figI, Bool.and_eq_true, decide_eq_true_eq]; omega
    by_cases h9 : n < 10
    · rw [YE h9]
      refine ⟨by rw [yE, YJ, dg n h9]; omega, by rw [figL, fg n h9]; rfl⟩
    · have ih : digF 0 (Lib.decDigits (n / 10)) = n / 10 ∧ figL (Lib.decDigits (n / 10)) = true := by
        match k, hk with
        | 0, hk => omega
        | k + 1, hk => exact zd5 k (n / 10) (by omega)
      rw [zaB (by omega), zaT, YV, ih.1, ih.2, yE, YJ, dg _ (by omega)]
      refine ⟨by omega, by rw [figL, fg _ (by omega)]; rfl⟩
theorem zhr (n : Nat) : 1 ≤ (Lib.decDigits n).length := by
  by_cases h9 : n < 10
  · rw [YE h9]; exact Nat.le_refl _
  · rw [zaB (by omega), List.length_append]; simp
theorem zfC : ∀ (j n : Nat), n < 10 ^ (j + 1) → (Lib.decDigits n).length ≤ j + 1
  | 0, n, h => by rw [YE (by simpa using h)]; simp
  | j + 1, n, h => by
    by_cases h9 : n < 10
    · rw [YE h9]; simp
    · rw [zaB (by omega), List.length_append]
      have := zfC j (n / 10) (by rw [Nat.pow_succ] at h; omega)
      simp; omega
theorem zcA {k : Nat} (hk : k ≤ 1000) : yp (numT k) 1000 = some k := by
  have hl := zcG k
  have hz : (numT k).size = (Lib.decDigits k).length := by rw [← hl]; exact zL rfl
  obtain ⟨d1, d2⟩ := zd5 k k (Nat.le_refl _)
  have hlen := zfC 6 k (by omega)
  have hne := zhr k
  unfold yp
  rw [hl, d1, if_pos]
  refine ⟨⟨by omega, by omega⟩, d2, ?_, by omega⟩
  rintro ⟨h1, h2⟩
  have h0 := zch k k (Nat.le_refl _) h2
  have hz2 : (Lib.decDigits k).length = 1 := by rw [h0, YE (by omega)]; rfl
  omega
theorem zcB {s : ByteArray} {k : Nat} (h : yp s 1000 = some k) : s = numT k ∧ k ≤ 1000 := by
  have hk := za7 h
  unfold yp at h
  split at h
  case isFalse => cases h
  rename_i c
  cases h
  refine ⟨?_, hk⟩
  have := (zcF c.1.1 c.2.1).2 c.2.2.1
  rw [Lib.toList_data, Lib.toList_data] at this
  exact ByteArray.ext (Array.ext' this.symm)
theorem zdB {b : List Int} {bad : Bool} (hb : byteL b) (h : (rdH b bad).2.2.2.2 = false) : bad = false ∧ (rdH b bad).1.size ≤ 60000 ∧ (rdH b bad).2.1.size ≤ 60000 ∧ (rdH b bad).2.2.1.size ≤ 60000 ∧
    (rdH b bad).2.2.2.1 = ((enc1 (rdH b bad).1 ++ enc1 (rdH b bad).2.1 ++ enc1 (rdH b bad).2.2.1).length : Nat) ∧ ∃ q, b = (enc1 (rdH b bad).1 ++ enc1 (rdH b bad).2.1 ++ enc1 (rdH b bad).2.2.1) ++ q := by
  unfold rdH at h ⊢
  simp only at h ⊢
  have c2 : (nextT b (nextT b 0 bad).2.1 (nextT b 0 bad).2.2).2.2 = false := by
    cases hc : (nextT b (nextT b 0 bad).2.1 (nextT b 0 bad).2.2).2.2 with
    | false => rfl
    | true => rw [hc, yS] at h; cases h
  have c1 : (nextT b 0 bad).2.2 = false := by
    cases hc : (nextT b 0 bad).2.2 with
    | false => rfl
    | true => rw [hc, yS] at c2; cases c2
  obtain ⟨h1, h2, h3, h4⟩ := YS (w := []) hb ⟨b, rfl⟩ c1
  have h2 : (nextT b 0 bad).1.size ≤ 60000 := h2
  have h3 : (nextT b 0 bad).2.1 = (([] ++ enc1 (nextT b 0 bad).1).length : Nat) := h3
  have h4 : ∃ q, b = ([] ++ enc1 (nextT b 0 bad).1) ++ q := h4
  rw [List.nil_append] at h3 h4
  obtain ⟨u, hu⟩ : ∃ u, u = nextT b 0 bad := ⟨_, rfl⟩
  rw [← hu] at h c1 c2 h2 h3 h4 ⊢
  rw [h3] at c2 h ⊢
  obtain ⟨g1, g2, g3, g4⟩ := YS hb h4 c2
  obtain ⟨v, hv⟩ : ∃ v, v = nextT b (((enc1 u.1).length : Nat) : Int) u.2.2 := ⟨_, rfl⟩
  rw [← hv] at h c2 g2 g3 g4 ⊢
  rw [g3] at h ⊢
  obtain ⟨e1, e2, e3, e4⟩ := YS hb g4 h
  exact ⟨h1, h2, g2, e2, e3, e4⟩
theorem zgL {a c d : ByteArray} {q : List Int} (ha : a.size ≤ 60000) (hc : c.size ≤ 60000) (hd : d.size ≤ 60000) : rdH ((enc1 a ++ enc1 c ++ enc1 d) ++ q) false = (a, c, d, (((enc1 a ++ enc1 c ++ enc1 d).length : Nat) : Int), false) := by
  have n1 : nextT ((enc1 a ++ enc1 c ++ enc1 d) ++ q) 0 false = (a, (((enc1 a).length : Nat) : Int), false) := by
    have := YZ (w := []) (q := enc1 c ++ (enc1 d ++ q)) ha
    simpa using this
  have n2 : nextT ((enc1 a ++ enc1 c ++ enc1 d) ++ q) (((enc1 a).length : Nat) : Int) false = (c, (((enc1 a ++ enc1 c).length : Nat) : Int), false) := by
    have := YZ (w := enc1 a) (q := enc1 d ++ q) hc
    simpa using this
  have n3 : nextT ((enc1 a ++ enc1 c ++ enc1 d) ++ q) (((enc1 a ++ enc1 c).length : Nat) : Int) false = (d, (((enc1 a ++ enc1 c ++ enc1 d).length : Nat) : Int), false) := YZ (w := enc1 a ++ enc1 c) hd
  unfold rdH
  rw [n1]
  simp only
  rw [n2]
  simp only
  rw [n3]
theorem zd6 {m : Made} (h : Fit m) : bodyM m = (enc1 m.task ++ enc1 m.log ++ enc1 (numT m.outs.length)) ++ encF m.outs := by
  rw [zfJ h]; simp
theorem zdA {m : Made} (h : Fit m) (q : List Int) : rdH (bodyM m ++ q) false = (m.task, m.log, numT m.outs.length, (((enc1 m.task ++ enc1 m.log ++ enc1 (numT m.outs.length)).length : Nat) : Int), false) ∧
    rdN (bodyM m ++ q) m.outs.length (((enc1 m.task ++ enc1 m.log ++ enc1 (numT m.outs.length)).length : Nat) : Int) false = (m.outs, (((bodyM m).length : Nat) : Int), false) := by
  have hn := Zi m.outs.length
  have hk := h.num
  rw [zd6 h]
  constructor
  · rw [List.append_assoc]
    exact zgL h.task h.log (by omega)
  · exact zeN m.outs _ q h.outs
theorem zdW {m : Made} (h : Fit m) : getI (putM m) = some m := by
  obtain ⟨h1, h2⟩ := zdA h (sumsL (bodyM m).sum)
  have hp := zcA h.num
  unfold getI
  rw [show putM m = bodyM m ++ sumsL (bodyM m).sum from rfl, h1]
  simp only
  rw [hp]
  simp only [Option.getD_some]
  rw [h2]
  simp only
  rw [if_pos]
  exact ⟨by first | trivial | rfl, by first | trivial | rfl, (zfK (zaj m) (zaj m)).2 rfl⟩
theorem zaD (m : Made) : Yl (putM m) = bodyM m := by
  unfold Yl putM
  rw [show (bodyM m ++ sumsL (bodyM m).sum).length - 2 = (bodyM m).length by rw [List.length_append]; simp [sumsL], List.take_left]
theorem ze5 (m : Made) : (lenAt (putM m) (bodyM m).length : Int) = (bodyM m).sum % 65536 := by
  have e0 : (putM m)[(bodyM m).length]? = some ((bodyM m).sum / 256 % 256) := by unfold putM; rw [List.getElem?_append_right (Nat.le_refl _)]; simp [sumsL]
  have e1 : (putM m)[(bodyM m).length + 1]? = some ((bodyM m).sum % 256) := by unfold putM; rw [List.getElem?_append_right (by omega)]; simp [sumsL]
  unfold lenAt
  rw [e0, e1]
  show (((((bodyM m).sum / 256 % 256).toNat * 256 + ((bodyM m).sum % 256).toNat : Nat)) : Int) = _
  omega
theorem zf6 {m : Made} (h : Fit m) : getS (putM m) = some m := by
  obtain ⟨h1, h2⟩ := zdA h []
  rw [List.append_nil] at h1 h2
  have hp := zcA h.num
  have hlen : (putM m).length = (bodyM m).length + 2 := by unfold putM; rw [List.length_append]; simp [sumsL]
  have hbs : Zs (putM m) = false := by
    unfold Zs
    rw [zaD, hlen, Nat.add_sub_cancel, ze5]
    simp
  have hR : rdR (putM m) = (m.outs, (((bodyM m).length : Nat) : Int), false) := by
    unfold rdR
    rw [zaD, hbs, h1]
    simp only
    rw [hp]
    simp only [Option.getD_some]
    rw [rdS_N _ _ _ _ (.inr (by rw [h2])), h2]
  unfold getS
  rw [hR, zaD, hbs, h1]
  simp only
  rw [hp, if_pos]
  exact ⟨by omega, by first | trivial | rfl, by first | trivial | rfl, by rw [hlen, Nat.add_sub_cancel]⟩
theorem zcd {b : List Int} (hb : byteL b) {m : Made} (h : getI b = some m) : Fit m ∧ putM m = b := by
  unfold getI at h
  split at h
  case isFalse => cases h
  rename_i c
  obtain ⟨c1, c2, c3⟩ := c
  cases h
  have c4 : (rdH b false).2.2.2.2 = false := by
    cases hc : (rdH b false).2.2.2.2 with
    | false => rfl
    | true => rw [hc, za5] at c2; cases c2
  obtain ⟨h1, h2, h3, h4, h5, h6⟩ := zdB hb c4
  obtain ⟨k, hk⟩ := Option.isSome_iff_exists.1 c1
  obtain ⟨hn, hk2⟩ := zcB hk
  rw [h5] at c2
  obtain ⟨g1, g2, g3, g4⟩ := zb1 hb _ _ _ h6 c2
  refine ⟨⟨h2, h3, ?_, ?_⟩, (zfK (zaj _) hb).1 c3⟩
  · show z6 (rdN b _ (rdH b false).2.2.2.1 _).1
    rw [h5]; exact g2
  · show (rdN b _ _ _).1.length ≤ 1000
    rw [za4, hk]; exact hk2
theorem zf7 {b : List Int} (hb : byteL b) {m : Made} (h : getS b = some m) : Fit m ∧ putM m = b := by
  unfold getS at h
  split at h
  case isFalse => cases h
  rename_i c
  obtain ⟨c0, c1, c2, c3⟩ := c
  cases h
  have hcb : byteL (Yl b) := fun x hx => hb x (List.mem_of_mem_take hx)
  have hcl : (Yl b).length = b.length - 2 := by unfold Yl; rw [List.length_take]; omega
  have eR : rdR b = rdN (Yl b) ((yp (rdH (Yl b) (Zs b)).2.2.1 1000).getD 0) (rdH (Yl b) (Zs b)).2.2.2.1 (rdH (Yl b) (Zs b)).2.2.2.2 := rdS_N _ _ _ _ (.inl c1)
  rw [eR] at c1 c3 ⊢
  have c4 : (rdH (Yl b) (Zs b)).2.2.2.2 = false := by
    cases hc : (rdH (Yl b) (Zs b)).2.2.2.2 with
    | false => rfl
    | true => rw [hc, za5] at c1; cases c1
  obtain ⟨h1, h2, h3, h4, h5, h6⟩ := zdB hcb c4
  obtain ⟨k, hk⟩ := Option.isSome_iff_exists.1 c2
  obtain ⟨hn, hk2⟩ := zcB hk
  rw [h5] at c1 c3 ⊢
  obtain ⟨g1, g2, g3, g4⟩ := zb1 hcb _ _ _ h6 c1
  obtain ⟨m, hm⟩ : ∃ m : Made, m = ⟨(rdH (Yl b) (Zs b)).1, (rdN (Yl b) ((yp (rdH (Yl b) (Zs b)).2.2.1 1000).getD 0) (((enc1 (rdH (Yl b) (Zs b)).1 ++ enc1 (rdH (Yl b) (Zs b)).2.1 ++ enc1 (rdH (Yl b) (Zs b)).2.2.1).length : Nat) : Int) (rdH (Yl b) (Zs b)).2.2.2.2).1, (rdH (Yl b) (Zs b)).2.1⟩ := ⟨_, rfl⟩
  rw [← hm]
  have hfit : Fit m := by
    rw [hm]
    refine ⟨h2, h3, g2, ?_⟩
    show (rdN _ _ _ _).1.length ≤ 1000
    rw [za4, hk]; exact hk2
  refine ⟨hfit, ?_⟩
  have hol : m.outs.length = k := by rw [hm]; show (rdN _ _ _ _).1.length = k; rw [za4, hk]; rfl
  have hbody : Yl b = bodyM m := by
    obtain ⟨q, hq⟩ := g4
    have hW : bodyM m = (enc1 (rdH (Yl b) (Zs b)).1 ++ enc1 (rdH (Yl b) (Zs b)).2.1 ++ enc1 (rdH (Yl b) (Zs b)).2.2.1) ++ encF m.outs := by
      rw [zd6 hfit, hol, ← hn]
      rw [hm]
    have hW2 : m.outs = (rdN (Yl b) ((yp (rdH (Yl b) (Zs b)).2.2.1 1000).getD 0) (((enc1 (rdH (Yl b) (Zs b)).1 ++ enc1 (rdH (Yl b) (Zs b)).2.1 ++ enc1 (rdH (Yl b) (Zs b)).2.2.1).length : Nat) : Int) (rdH (Yl b) (Zs b)).2.2.2.2).1 := by rw [hm]
    rw [← hW2, ← hW] at hq g3
    have hql : q = [] := by
      have := congrArg List.length hq
      rw [List.length_append, hcl] at this
      refine List.length_eq_zero_iff.1 ?_
      rw [g3] at c3
      omega
    rw [hq, hql, List.append_nil]
  have hbs : Zs b = false := h1
  unfold Zs at hbs
  rw [hbody] at hbs
  have hbs : (bodyM m).sum % 65536 = (lenAt b (b.length - 2) : Int) := by simpa using hbs
  have hbb : b = Yl b ++ b.drop (b.length - 2) := by unfold Yl; rw [List.take_append_drop]
  obtain ⟨x, y, hxy⟩ : ∃ x y, b.drop (b.length - 2) = [x, y] := by
    have : (b.drop (b.length - 2)).length = 2 := by rw [List.length_drop]; omega
    match b.drop (b.length - 2), this with
    | [x, y], _ => exact ⟨x, y, rfl⟩
  have ex : b[b.length - 2]? = some x := by
    have : (b.drop (b.length - 2))[0]? = some x := by rw [hxy]; rfl
    rwa [List.getElem?_drop] at this
  have ey : b[b.length - 2 + 1]? = some y := by
    have : (b.drop (b.length - 2))[1]? = some y := by rw [hxy]; rfl
    rwa [List.getElem?_drop] at this
  have bx := hb x (List.mem_of_getElem? ex)
  have by' := hb y (List.mem_of_getElem? ey)
  have hL : lenAt b (b.length - 2) = x.toNat * 256 + y.toNat := by unfold lenAt; rw [ex, ey]; rfl
  rw [hL] at hbs
  rw [hbb, hbody, hxy, putM, sumsL]
  congr 1
  rw [show (bodyM m).sum / 256 % 256 = x by omega, show (bodyM m).sum % 256 = y by omega]
theorem zho {b : List Int} (hb : byteL b) : getI b = getS b := by
  cases hI : getI b with
  | some m =>
    obtain ⟨h1, h2⟩ := zcd hb hI
    rw [← h2, zf6 h1]
  | none =>
    cases hS : getS b with
    | none => rfl
    | some m =>
      obtain ⟨h1, h2⟩ := zf7 hb hS
      rw [← h2, zdW h1] at hI
      cases hI
def txF : List File → List ByteArray
  | [] => []
  | f :: l => f.path :: f.text :: txF l
def txE : List Env → List ByteArray
  | [] => []
  | f :: l => f.name :: f.val :: txE l
def txM : List Made → List ByteArray
  | [] => []
  | m :: l => m.task :: m.log :: numT m.outs.length :: (txF m.outs ++ txM l)
def txJ (j : Job) : List ByteArray := j.name :: numT j.acts.length :: (j.acts ++ numT j.ins.length :: (txF j.ins ++ numT j.envs.length :: (txE j.envs ++ numT j.deps.length :: txM j.deps)))
def putTs : List Int → List ByteArray → List Int
  | b, [] => b
  | b, s :: l => putTs (putT b s) l
def jkey (j : Job) : List Int := putTs [] (txJ j)
theorem zah : ∀ (x y : List ByteArray) (b : List Int), putTs b (x ++ y) = putTs (putTs b x) y
  | [], _, _ => rfl
  | s :: x, y, b => zah x y (putT b s)
theorem zeR : ∀ (l : List File) (b : List Int), putFs b l = putTs b (txF l)
  | [], _ => rfl
  | f :: l, b => zeR l (putT (putT b f.path) f.text)
theorem zb3 (l : List File) (b : List Int) : putFl b l = putTs b (numT l.length :: txF l) := zeR l _
def sw : List ByteArray → Nat
  | [] => 0
  | s :: l => s.size + 2 + sw l
theorem zcq : ∀ (x y : List ByteArray), sw (x ++ y) = sw x + sw y
  | [], y => by simp [sw]
  | s :: x, y => by simp only [List.cons_append, sw, zcq x y]; omega
theorem zb2 : ∀ (l : List ByteArray) (b : List Int), (putTs b l).length ≤ b.length + sw l
  | [], _ => Nat.le_refl _
  | s :: l, b => by
    have h1 := Yj b s
    have h2 := zb2 l (putT b s)
    rw [sw]
    exact Nat.le_trans h2 (by omega)
theorem zbC : ∀ (l : List ByteArray) {b : List Int}, byteL b → byteL (putTs b l)
  | [], _, h => h
  | s :: l, _, h => zbC l (yR h s)
theorem zcK (j : Job) : byteL (jkey j) := zbC _ (fun x hx => by cases hx)
def jw (j : Job) : Nat := sw (txJ j)
theorem zfd (j : Job) : jkey j = putTs (putT (putTs (putT (putFl (putTs (putT (putT [] j.name) (numT j.acts.length)) j.acts) j.ins) (numT j.envs.length)) (txE j.envs)) (numT j.deps.length)) (txM j.deps) := by
  unfold jkey
  rw [zb3]
  simp only [txJ, putTs, zah]
theorem jw_eq (j : Job) : jw j = j.name.size + 2 + ((numT j.acts.length).size + 2) + sw j.acts + ((numT j.ins.length).size + 2) + sw (txF j.ins) + ((numT j.envs.length).size + 2) + sw (txE j.envs) + ((numT j.deps.length).size + 2) + sw (txM j.deps) := by
  unfold jw
  simp only [txJ, sw, zcq]
  omega
theorem zaQ (b : List Int) (l : List File) : (putFl b l).length ≤ b.length + ((numT l.length).size + 2 + sw (txF l)) := by
  rw [zb3]
  exact zb2 _ b
theorem fw_sw : ∀ l : List File, fw l = sw (txF l)
  | [] => rfl
  | f :: l => by simp only [fw, txF, sw, fw_sw l]; omega
theorem Br {h : Hp} {b : Nat} {xs : List Int} (e : h b = some (some (rows B xs))) : roc h 8 (.sl b 0 xs.length 1 false) = some (.ro (rows B xs) xs.length) := B.roc e
theorem Br0 {h : Hp} {b : Nat} (e : h b = some (some [])) : roc h 8 (.sl b 0 0 1 false) = some (.ro (rows B []) 0) := B.roc (xs := []) e
theorem findB {a b x y c : Nat} (h1 : c ≠ x) (h2 : c ≠ y) : [(a, x), (b, y)].find? (fun p => p.2 == c) = none := by simp [Ne.symm h1, Ne.symm h2]
def ol : List Made → Nat
  | [] => 0
  | m :: l => m.outs.length + 20 + ol l
theorem zeD : ∀ l : List File, l.length ≤ sw (txF l)
  | [] => Nat.le_refl _
  | f :: l => by have := zeD l; simp only [txF, sw, List.length_cons]; omega
def A72 : AC := (.seq (.ops [wO 1 (.box (.t 0)), qO 2 (.mov (.c .em))])
  (.seq (.any [(qO 10 (.fadr 0 (.t 1)), []), (qO 11 (.load false 1 (.t 10)), [0]), (cO 12 147 [(.c .em), .t 11], [1]), (qO 13 (.fadr 1 (.t 1)), []), (qO 14 (.load false 1 (.t 13)), [3]), (qO 15 (.llen (.t 14)), [4]), (cO 16 148 [.t 15], [5, 2]), (cO 17 147 [.t 12, .t 16], [2, 6, 6]), (qO 3 (.mov (.t 17)), [7, 7, 0, 1, 2, 3, 4, 5, 6, 7])])
  (.seq (.seq (.ops [qO 18 (.fadr 1 (.t 1)), qO 19 (.load false 1 (.t 18)), qO 20 (.llen (.t 19)), qO 21 (.mov (iC 0))])
  (.block 0 (.loop (.seq (.ops [qO 22 (.bin .lss (.t 21) (.t 20))])
  (.seq (.cond (.t 22) .skip
  (.exit 0))
  (.seq (.block 1 (.seq (.ops [qO 23 (.iadr 1 (.t 19) (.t 21)), qO 24 (.load false 1 (.t 23)), qO 5 (.mov (.t 24))])
  (.ops [qO 25 (.mov (.t 3)), qO 26 (.mov (.t 5)), cO 27 147 [.t 25, .t 26], qO 3 (.mov (.t 27))])))
  (.ops [qO 28 (.bin .add (.t 21) (iC 1)), qO 21 (.mov (.t 28))])))))))
  (.seq (.ops [qO 29 (.mov (.t 3)), qO 30 (.fadr 2 (.t 1)), qO 31 (.load false 1 (.t 30)), cO 32 149 [.t 29, .t 31], qO 3 (.mov (.t 32))])
  (.seq (.ops [qO 33 (.mov (.t 3)), qO 34 (.fadr 3 (.t 1)), qO 35 (.load false 1 (.t 34)), qO 36 (.llen (.t 35)), cO 37 148 [.t 36], cO 38 147 [.t 33, .t 37], qO 3 (.mov (.t 38))])
  (.seq (.seq (.ops [qO 39 (.fadr 3 (.t 1)), qO 40 (.load false 1 (.t 39)), qO 41 (.llen (.t 40)), qO 42 (.mov (iC 0))])
  (.block 2 (.loop (.seq (.ops [qO 43 (.bin .lss (.t 42) (.t 41))])
  (.seq (.cond (.t 43) .skip
  (.exit 2))
  (.seq (.block 3 (.seq (.ops [qO 44 (.iadr 2 (.t 40) (.t 42)), qO 45 (.load true 2 (.t 44)), wO 7 (.alloc [(.sc (.string ⟨#[]⟩)), (.sc (.string ⟨#[]⟩))]), nO (.store 2 (.t 7) (.t 45))])
  (.any [(qO 46 (.mov (.t 3)), []), (qO 47 (.fadr 0 (.t 7)), []), (qO 48 (.load false 1 (.t 47)), [1]), (cO 49 147 [.t 46, .t 48], [0, 2]), (qO 50 (.fadr 1 (.t 7)), []), (qO 51 (.load false 1 (.t 50)), [4]), (cO 52 147 [.t 49, .t 51], [3, 5, 3]), (qO 3 (.mov (.t 52)), [6, 6, 0, 1, 2, 3, 4, 5, 6])])))
  (.ops [qO 53 (.bin .add (.t 42) (iC 1)), qO 42 (.mov (.t 53))])))))))
  (.seq (.ops [qO 54 (.mov (.t 3)), qO 55 (.fadr 4 (.t 1)), qO 56 (.load false 1 (.t 55)), qO 57 (.llen (.t 56)), cO 58 148 [.t 57], cO 59 147 [.t 54, .t 58], qO 3 (.mov (.t 59))])
  (.seq (.seq (.ops [qO 60 (.fadr 4 (.t 1)), qO 61 (.load false 1 (.t 60)), qO 62 (.llen (.t 61)), qO 63 (.mov (iC 0))])
  (.block 4 (.loop (.seq (.ops [qO 64 (.bin .lss (.t 63) (.t 62))])
  (.seq (.cond (.t 64) .skip
  (.exit 4))
  (.seq (.block 5 (.seq (.ops [qO 65 (.iadr 3 (.t 61) (.t 63)), qO 66 (.load true 3 (.t 65)), wO 9 (.alloc [(.sc (.string ⟨#[]⟩)), .em, (.sc (.string ⟨#[]⟩))]), nO (.store 3 (.t 9) (.t 66))])
  (.any [(qO 67 (.mov (.t 3)), []), (qO 68 (.fadr 0 (.t 9)), []), (qO 69 (.load false 1 (.t 68)), [1]), (cO 70 147 [.t 67, .t 69], [0, 2]), (qO 71 (.fadr 2 (.t 9)), []), (qO 72 (.load false 1 (.t 71)), [4]), (cO 73 147 [.t 70, .t 72], [3, 5, 3]), (qO 74 (.fadr 1 (.t 9)), []), (qO 75 (.load false 1 (.t 74)), [7]), (cO 76 149 [.t 73, .t 75], [6, 8, 6]), (qO 3 (.mov (.t 76)), [9, 9, 0, 1, 2, 3, 4, 5, 6, 7, 8, 9])])))
  (.ops [qO 77 (.bin .add (.t 63) (iC 1)), qO 63 (.mov (.t 77))])))))))
  (.seq (.ops [qO 78 (.mov (.t 3)), qO 2 (.mov (.t 78))])
  .ret)))))))))
theorem K72 : Kf Tryz.prog Tryz.f72 A72 79 [.mov (.t 2)] := ⟨by kernel_rfl, by kernel_rfl, by kernel_rfl⟩
set_option maxHeartbeats 4000000 in
theorem R72 (j : Job) (h1 : j.acts.length < 4611686018427387904) (h2 : j.ins.length < 4611686018427387904) (h3 : j.envs.length < 4611686018427387904) (h4 : j.deps.length < 4611686018427387904) (jfit : ∀ m ∈ j.deps, m.outs.length < 4611686018427387904) (hb : jw j + j.acts.length + j.ins.length + j.envs.length + j.deps.length + ol j.deps + 100 ≤ 140737488350000) : Ret Tryz.prog 72 [.agg (Job.ty.cs j)] (.own (rows B (jkey j)) (jkey j).length 1) [.un] := by
  have hn := jw_eq j
  have z1 := Zi j.acts.length
  rw [hn] at hb
  have p0 := Yj [] j.name
  have p1 := Yj (putT [] j.name) (numT j.acts.length)
  simp only [List.length_nil] at p0
  have hk := zfd j
  obtain ⟨b0, hb0⟩ : ∃ b, b = putT (putT [] j.name) (numT j.acts.length) := ⟨_, rfl⟩
  rw [← hb0] at hk p1
  obtain ⟨b1, hb1⟩ : ∃ b, b = putTs b0 j.acts := ⟨_, rfl⟩
  rw [← hb1] at hk
  have p2 := zaQ b1 j.ins
  obtain ⟨b2, hb2⟩ : ∃ b, b = putFl b1 j.ins := ⟨_, rfl⟩
  rw [← hb2] at hk p2
  have p3 := Yj b2 (numT j.envs.length)
  obtain ⟨b3, hb3⟩ : ∃ b, b = putT b2 (numT j.envs.length) := ⟨_, rfl⟩
  rw [← hb3] at hk p3
  obtain ⟨b4, hb4⟩ : ∃ b, b = putTs b3 (txE j.envs) := ⟨_, rfl⟩
  rw [← hb4] at hk
  have p5 := Yj b4 (numT j.deps.length)
  obtain ⟨b5, hb5⟩ : ∃ b, b = putT b4 (numT j.deps.length) := ⟨_, rfl⟩
  rw [← hb5] at hk p5
  have hz2 := fw_sw j.ins
  have y2 := Zi j.ins.length
  have y3 := Zi j.envs.length
  have y4 := Zi j.deps.length
  have r0 := R147 (putT [] j.name) (numT j.acts.length) (by omega)
  rw [← hb0] at r0
  refine Ret.run Tryz.func72 K72 (by simp) rfl rfl 900 ?_
  simp [A72, iniρ, Job.cse]
  refine T.textW 400 [([], []), ([], []), ([12], []), ([], [12]), ([], [12]), ([], [12]), ([], []), ([12, 17], []), ([], [])] mixed (by kernel_rfl) (by kernel_rfl) ?_
  simp [Zb, yb]
  refine yf.mvE 12 1 rfl (by kernel_rfl) (by simp [za]) (by simp [za, Yc]) (R147 [] j.name (by simp only [List.length_nil]; omega)) (B_fl _) (by simp [inst, za, Za]; exact ⟨rfl, rfl⟩) (by rfl) ?_
  simp [Zb, yb]
  refine yf.ro 0 rfl (by kernel_rfl) (by simp [Yc]) (R148 j.acts.length h1) rfl rfl (by rfl) ?_
  simp [Zb, yb]
  refine yf.mv1 17 12 rfl (by kernel_rfl) (by simp [za]) (by simp [za, Za]) (B_cnt _) (Zd B.fr _) (by simp [za, Yc]) r0 (B_fl _) (by simp [inst, za, Za]; exact ⟨rfl, rfl⟩) (by rfl) ?_
  simp [Zb, yb]
  refine T.le (Le.reseat [1, 3, 19, 20, 21] [(1, 1), (17, 60)] (by simp) (by simp [za, Ya, Za, menB, zb]) (by
    intro c hc cs hcs
    simp at hc
    rcases hc with rfl | rfl
    · simp [za, Ya, Za] at hcs
      subst hcs
      simp [Job.cse, zb]
    · simp [za, Ya, Za] at hcs
      subst hcs
      exact yd (Zd B.fr _))) ?_
  refine T.rounds (μ := fun i : List ByteArray × List ByteArray × List Int => i.2.1.length)
    (fun i s => i.1 ++ i.2.1 = j.acts ∧ putTs i.2.2 i.2.1 = b1 ∧ i.2.2.length + sw i.2.1 + ((numT j.ins.length).size + 2 + sw (txF j.ins) + ((numT j.envs.length).size + 2) + sw (txE j.envs) + ((numT j.deps.length).size + 2) + sw (txM j.deps) + (j.ins.length + j.envs.length + j.deps.length + ol j.deps + 100)) ≤ 140737488350000 ∧ s.ρ 1 = .ref 1 0 ∧ s.ρ 3 = .sl 60 0 i.2.2.length 1 false ∧ s.ρ 19 = .ro (rows Ty.str.cs j.acts) j.acts.length ∧ s.ρ 20 = .sc (.int .i64 j.acts.length) ∧ s.ρ 21 = .sc (.int .i64 i.1.length) ∧ s.h 1 = some (some (Job.ty.cs j)) ∧ s.h 60 = some (some (rows B i.2.2)) ∧ (∀ c, c ≠ 60 → c ≠ 1 → s.h c = none) ∧ s.n = 79) ([], j.acts, b0) (by simp [za, Job.cse, hb1]; exact ⟨by omega, fun c hc h1 => by rw [findB h1 hc]⟩) ?_
  rintro ⟨pre, rest, cur⟩ ⟨ρ, hh, n⟩ ⟨hx, hE, hw, k1, k3, k19, k20, k21, q1, b60, bf, rfl⟩
  simp only at hx hE hw k1 k3 k19 k20 k21 q1 b60 bf
  refine yg (n := 400) ?_
  cases rest
  case cons x rest =>
    have hle : pre.length + (rest.length + 1) = j.acts.length := by rw [← hx]; simp
    have hlt : (pre.length : Int) < j.acts.length := by omega
    have hwr : IntKind.i64.wrap ((pre.length : Int) + 1) = pre.length + 1 := zc (by omega) (by omega)
    have hd := ye Ty.str.csn pre (x :: rest)
    rw [hx, yc] at hd
    rw [show pre.length * Ty.str.n = pre.length from Nat.mul_one _] at hd
    have hd : List.drop (pre.length) (rows Ty.str.cs j.acts) = AV.sc (.string x) :: rows Ty.str.cs rest := hd
    rw [sw] at hw
    have c1 := Yj cur x
    have f27 := bf 27 (by decide) (by decide)
    simp [k1, k3, k19, k20, k21, hlt, hd]
    refine callK.mv1 27 60 rfl (by kernel_rfl) (by simp [za]) (by simp [za, b60]) (B_cnt _) (Zd B.fr _) (by simp [za, Yc]) (R147 cur x (by omega)) (B_fl _) (by simp [inst, za, f27]; exact ⟨rfl, rfl⟩) rfl ?_
    simp [k1, k3, k19, k20, k21, hwr]
    refine ⟨pre ++ [x], rest, by simp, putT cur x, _, (Le.reseat [1, 3, 19, 20, 21] [(1, 1), (27, 60)] (by simp) (by simp [za, Ya, Za, menB, zb, k1, k3, k19, k20, k21, q1]) (by
      intro c hc cs hcs
      simp at hc
      rcases hc with rfl | rfl
      · simp [za, Ya, Za, k1, k3, k19, k20, k21, q1] at hcs
        subst hcs
        simp [Job.cse, zb]
      · simp [za, Ya, Za] at hcs
        subst hcs
        exact yd (Zd B.fr _))), by simpa using hx, hE, by omega, ?_⟩
    simp [za, Ya, Za, k1, k3, k19, k20, k21, q1]
    exact fun c hc h1 => by rw [findB h1 hc]
  have hxl : pre.length = j.acts.length := by rw [← hx]; simp
  have hE : cur = b1 := hE
  subst cur
  clear hx
  simp [k1, k3, k19, k20, k21, hxl]
  refine T.on 400 ?_
  have r2 := R149 b1 j.ins h2 (by omega)
  rw [← hb2] at r2
  have r3 := R147 b2 (numT j.envs.length) (by omega)
  rw [← hb3] at r3
  have f32 := bf 32 (by decide) (by decide)
  have f38 := bf 38 (by decide) (by decide)
  simp [k1, k3, q1, b60, Job.cse]
  refine callK.mv1 32 60 rfl (by kernel_rfl) (by simp [za]) (by simp [za, b60]) (B_cnt _) (Zd B.fr _) (by simp [za, ze]) r2 (B_fl _) (by simp [inst, za, f32]; exact ⟨rfl, rfl⟩) rfl ?_
  simp [k1, q1, Job.cse]
  refine callK.ro 0 rfl (by kernel_rfl) (by simp [Yc]) (R148 j.envs.length h3) rfl rfl rfl ?_
  simp
  refine callK.mv1 38 32 rfl (by kernel_rfl) (by simp [za]) (by simp [za]) (B_cnt _) (Zd B.fr _) (by simp [za, Yc]) r3 (B_fl _) (by simp [inst, za, f38]; exact ⟨rfl, rfl⟩) rfl ?_
  simp [k1, q1, Job.cse]
  refine T.le (Le.reseat [1, 3, 40, 41, 42] [(1, 1), (38, 60)] (by simp) (by simp [za, Ya, Za, menB, zb, k1, q1]) (by
    intro c hc cs hcs
    simp at hc
    rcases hc with rfl | rfl
    · simp [za, Ya, Za, k1, q1] at hcs
      subst hcs
      simp [Job.cse, zb]
    · simp [za, Ya, Za] at hcs
      subst hcs
      exact yd (Zd B.fr _))) ?_
  refine T.rounds (μ := fun i : List Env × List Env × List Int => i.2.1.length)
    (fun i s => i.1 ++ i.2.1 = j.envs ∧ putTs i.2.2 (txE i.2.1) = b4 ∧ i.2.2.length + sw (txE i.2.1) + ((numT j.deps.length).size + 2 + sw (txM j.deps) + (j.deps.length + ol j.deps + 100)) ≤ 140737488350000 ∧ s.ρ 1 = .ref 1 0 ∧ s.ρ 3 = .sl 60 0 i.2.2.length 1 false ∧ s.ρ 40 = .ro (rows Env.ty.cs j.envs) j.envs.length ∧ s.ρ 41 = .sc (.int .i64 j.envs.length) ∧ s.ρ 42 = .sc (.int .i64 i.1.length) ∧ s.h 1 = some (some (Job.ty.cs j)) ∧ s.h 60 = some (some (rows B i.2.2)) ∧ (∀ c, c ≠ 60 → c ≠ 1 → s.h c = none) ∧ s.n = 79) ([], j.envs, b3) (by simp [za, Job.cse, k1, q1, hb4]; exact ⟨by omega, fun c hc h1 => by rw [findB h1 hc]⟩) ?_
  rintro ⟨pre, rest, cur⟩ ⟨ρ, hh, n⟩ ⟨hx, hE, hw, k1, k3, k40, k41, k42, q1, b60, bf, rfl⟩
  simp only at hx hE hw k1 k3 k40 k41 k42 q1 b60 bf
  refine yg (n := 400) ?_
  cases rest
  case cons x rest =>
    have hle : pre.length + (rest.length + 1) = j.envs.length := by rw [← hx]; simp
    have hlt : (pre.length : Int) < j.envs.length := by omega
    have hwr : IntKind.i64.wrap ((pre.length : Int) + 1) = pre.length + 1 := zc (by omega) (by omega)
    have hd := ye Env.ty.csn pre (x :: rest)
    rw [hx, yc] at hd
    have hd : List.drop (pre.length * 2) (rows Env.ty.cs j.envs) = AV.sc (.string x.name) :: AV.sc (.string x.val) :: rows Env.ty.cs rest := hd
    rw [txE, sw, sw] at hw
    rw [txE] at hE
    have c1 := Yj cur x.name
    have c2 := Yj (putT cur x.name) x.val
    have f7 := bf 7 (by decide) (by decide)
    have f49 := bf 49 (by decide) (by decide)
    have f52 := bf 52 (by decide) (by decide)
    simp [k1, k3, k40, k41, k42, hlt, hd, f7, over]
    refine T.textW 400 [([], []), ([], []), ([], []), ([60, 49], []), ([], [49, 60]), ([], [49, 60]), ([49, 52], []), ([], [])] mixed (by kernel_rfl) (by kernel_rfl) ?_
    simp [k1, k3, k40, k41, k42, Zb, yb]
    refine yf.mv1 49 60 rfl (by kernel_rfl) (by simp [za]) (by simp [za, Za, b60]) (B_cnt _) (Zd B.fr _) (by simp [za, Yc]) (R147 cur x.name (by omega)) (B_fl _) (by simp [inst, za, Za, f49]; exact ⟨rfl, rfl⟩) (by rfl) ?_
    simp [Zb, yb]
    refine yf.mv1 52 49 rfl (by kernel_rfl) (by simp [za]) (by simp [za, Za]) (B_cnt _) (Zd B.fr _) (by simp [za, Yc]) (R147 (putT cur x.name) x.val (by omega)) (B_fl _) (by simp [inst, za, Za, f52]; exact ⟨rfl, rfl⟩) (by rfl) ?_
    simp [k1, k3, k40, k41, k42, hwr, Zb, yb]
    refine ⟨pre ++ [x], rest, by simp, putT (putT cur x.name) x.val, _, (Le.reseat [1, 3, 40, 41, 42] [(1, 1), (52, 60)] (by simp) (by simp [za, Ya, Za, menB, zb, k1, k3, k40, k41, k42, q1]) (by
      intro c hc cs hcs
      simp at hc
      rcases hc with rfl | rfl
      · simp [za, Ya, Za, k1, k3, k40, k41, k42, q1] at hcs
        subst hcs
        simp [Job.cse, zb]
      · simp [za, Ya, Za] at hcs
        subst hcs
        exact yd (Zd B.fr _))), by simpa using hx, hE, by omega, ?_⟩
    simp [za, Ya, Za, k1, k3, k40, k41, k42, q1]
    exact fun c hc h1 => by rw [findB h1 hc]
  have hxl : pre.length = j.envs.length := by rw [← hx]; simp
  have hE : cur = b4 := hE
  subst cur
  clear hx
  simp [k1, k3, k40, k41, k42, hxl]
  refine T.on 400 ?_
  have r5 := R147 b4 (numT j.deps.length) (by omega)
  rw [← hb5] at r5
  have f59 := bf 59 (by decide) (by decide)
  simp [k1, k3, q1, b60, Job.cse]
  refine callK.ro 0 rfl (by kernel_rfl) (by simp [Yc]) (R148 j.deps.length h4) rfl rfl rfl ?_
  simp
  refine callK.mv1 59 60 rfl (by kernel_rfl) (by simp [za, k3]) (by simp [za, b60]) (B_cnt _) (Zd B.fr _) (by simp [za, Yc]) r5 (B_fl _) (by simp [inst, za, f59]; exact ⟨rfl, rfl⟩) rfl ?_
  simp [k1, q1, Job.cse]
  refine T.le (Le.reseat [1, 3, 61, 62, 63] [(1, 1), (59, 60)] (by simp) (by simp [za, Ya, Za, menB, zb, k1, q1]) (by
    intro c hc cs hcs
    simp at hc
    rcases hc with rfl | rfl
    · simp [za, Ya, Za, k1, q1] at hcs
      subst hcs
      simp [Job.cse, zb]
    · simp [za, Ya, Za] at hcs
      subst hcs
      exact yd (Zd B.fr _))) ?_
  refine T.rounds (μ := fun i : List Made × List Made × List Int => i.2.1.length)
    (fun i s => i.1 ++ i.2.1 = j.deps ∧ putTs i.2.2 (txM i.2.1) = jkey j ∧ i.2.2.length + sw (txM i.2.1) + (ol i.2.1 + 100) ≤ 140737488350000 ∧ s.ρ 1 = .ref 1 0 ∧ s.ρ 3 = .sl 60 0 i.2.2.length 1 false ∧ s.ρ 61 = .ro (rows Made.ty.cs j.deps) j.deps.length ∧ s.ρ 62 = .sc (.int .i64 j.deps.length) ∧ s.ρ 63 = .sc (.int .i64 i.1.length) ∧ s.h 1 = some (some (Job.ty.cs j)) ∧ s.h 60 = some (some (rows B i.2.2)) ∧ (∀ c, c ≠ 60 → c ≠ 1 → s.h c = none) ∧ s.n = 79) ([], j.deps, b5) (by simp [za, Job.cse, k1, q1, hk]; exact ⟨by omega, fun c hc h1 => by rw [findB h1 hc]⟩) ?_
  rintro ⟨pre, rest, cur⟩ ⟨ρ, hh, n⟩ ⟨hx, hE, hw, k1, k3, k61, k62, k63, q1, b60, bf, rfl⟩
  simp only at hx hE hw k1 k3 k61 k62 k63 q1 b60 bf
  refine yg (n := 400) ?_
  cases rest
  case cons x rest =>
    have hle : pre.length + (rest.length + 1) = j.deps.length := by rw [← hx]; simp
    have hlt : (pre.length : Int) < j.deps.length := by omega
    have hwr : IntKind.i64.wrap ((pre.length : Int) + 1) = pre.length + 1 := zc (by omega) (by omega)
    have hd := ye Made.ty.csn pre (x :: rest)
    rw [hx, yc] at hd
    have hd : List.drop (pre.length * 3) (rows Made.ty.cs j.deps) = AV.sc (.string x.task) :: .ro (rows File.ty.cs x.outs) x.outs.length :: .sc (.string x.log) :: rows Made.ty.cs rest := hd
    rw [txM, sw, sw, sw, zcq, ol] at hw
    rw [txM] at hE
    have hf := fw_sw x.outs
    have hfl := zeD x.outs
    have hns := Zi x.outs.length
    have c1 := Yj cur x.task
    have c2 := Yj (putT cur x.task) x.log
    have c3 := zaQ (putT (putT cur x.task) x.log) x.outs
    have hE : putTs (putFl (putT (putT cur x.task) x.log) x.outs) (txM rest) = jkey j := by rw [zb3, ← zah]; exact hE
    have hrest := jfit x (by rw [← hx]; simp)
    have f9 := bf 9 (by decide) (by decide)
    have f70 := bf 70 (by decide) (by decide)
    have f73 := bf 73 (by decide) (by decide)
    have f76 := bf 76 (by decide) (by decide)
    simp [k1, k3, k61, k62, k63, hlt, hd, f9, over]
    refine T.textW 400 [([], []), ([], []), ([], []), ([60, 70], []), ([], [60, 70]), ([], [60, 70]), ([70, 73], []), ([], [60, 70, 73]), ([], [60, 70, 73]), ([73, 76], []), ([], [])] mixed (by kernel_rfl) (by kernel_rfl) ?_
    simp [k1, k3, k61, k62, k63, Zb, yb]
    refine yf.mv1 70 60 rfl (by kernel_rfl) (by simp [za]) (by simp [za, Za, b60]) (B_cnt _) (Zd B.fr _) (by simp [za, Yc]) (R147 cur x.task (by omega)) (B_fl _) (by simp [inst, za, Za, f70]; exact ⟨rfl, rfl⟩) (by rfl) ?_
    simp [Zb, yb]
    refine yf.mv1 73 70 rfl (by kernel_rfl) (by simp [za]) (by simp [za, Za]) (B_cnt _) (Zd B.fr _) (by simp [za, Yc]) (R147 (putT cur x.task) x.log (by omega)) (B_fl _) (by simp [inst, za, Za, f73]; exact ⟨rfl, rfl⟩) (by rfl) ?_
    simp [Zb, yb]
    refine yf.mv1 76 73 rfl (by kernel_rfl) (by simp [za]) (by simp [za, Za]) (B_cnt _) (Zd B.fr _) (by simp [za, ze]) (R149 (putT (putT cur x.task) x.log) x.outs hrest (by omega)) (B_fl _) (by simp [inst, za, Za, f76]; exact ⟨rfl, rfl⟩) (by rfl) ?_
    simp [k1, k3, k61, k62, k63, hwr, Zb, yb]
    refine ⟨pre ++ [x], rest, by simp, putFl (putT (putT cur x.task) x.log) x.outs, _, (Le.reseat [1, 3, 61, 62, 63] [(1, 1), (76, 60)] (by simp) (by simp [za, Ya, Za, menB, zb, k1, k3, k61, k62, k63, q1]) (by
      intro c hc cs hcs
      simp at hc
      rcases hc with rfl | rfl
      · simp [za, Ya, Za, k1, k3, k61, k62, k63, q1] at hcs
        subst hcs
        simp [Job.cse, zb]
      · simp [za, Ya, Za] at hcs
        subst hcs
        exact yd (Zd B.fr _))), by simpa using hx, hE, by omega, ?_⟩
    simp [za, Ya, Za, k1, k3, k61, k62, k63, q1]
    exact fun c hc h1 => by rw [findB h1 hc]
  have hxl : pre.length = j.deps.length := by rw [← hx]; simp
  have hE : cur = jkey j := hE
  subst cur
  clear hx
  simp [k1, k3, k61, k62, k63, hxl]
  refine T.on 400 ?_
  simp [k1, k3, q1, b60, ex1, B.count, Zd B.fr]
def A69 : AC := (.seq (.ops [wO 1 (.box (.t 0)), qO 2 (.mov (.c .em))])
  (.seq (.any [(wO 7 (.bsl 1 0 [] []), []), (qO 8 (.fadr 0 (.t 1)), []), (qO 9 (.load false 1 (.t 8)), [1]), (cO 10 141 [.t 7, .t 9], [0, 2]), (qO 11 (.fadr 1 (.t 1)), []), (qO 12 (.load false 1 (.t 11)), [4]), (qO 13 (.llen (.t 12)), [5]), (cO 14 140 [.t 10, .t 13], [3, 6, 3]), (qO 3 (.mov (.t 14)), [7, 7, 0, 1, 2, 3, 4, 5, 6, 7])])
  (.seq (.seq (.ops [qO 4 (.mov (iC 0))])
  (.block 0 (.loop (.seq (.seq (.ops [qO 15 (.mov (.t 4)), qO 16 (.fadr 1 (.t 1)), qO 17 (.load false 1 (.t 16)), qO 18 (.llen (.t 17)), qO 19 (.bin .lss (.t 15) (.t 18))])
  (.cond (.t 19) .skip
  (.exit 0)))
  (.seq (.block 1 (.ops [qO 22 (.mov (.t 3)), qO 23 (.fadr 1 (.t 1)), qO 24 (.load false 1 (.t 23)), qO 25 (.mov (.t 4)), qO 26 (.iadr 1 (.t 24) (.t 25)), qO 27 (.load false 1 (.t 26)), cO 28 141 [.t 22, .t 27], qO 3 (.mov (.t 28))]))
  (.ops [qO 20 (.mov (.t 4)), qO 21 (.bin .add (.t 20) (iC 1)), qO 4 (.mov (.t 21))]))))))
  (.seq (.any [(qO 29 (.mov (.t 3)), []), (qO 30 (.fadr 2 (.t 1)), []), (qO 31 (.load false 1 (.t 30)), [1]), (cO 32 142 [.t 29, .t 31], [0, 2]), (qO 33 (.fadr 3 (.t 1)), []), (qO 34 (.load false 1 (.t 33)), [4]), (qO 35 (.llen (.t 34)), [5]), (cO 36 140 [.t 32, .t 35], [3, 6, 3]), (qO 3 (.mov (.t 36)), [7, 7, 0, 1, 2, 3, 4, 5, 6, 7])])
  (.seq (.seq (.ops [qO 5 (.mov (iC 0))])
  (.block 2 (.loop (.seq (.seq (.ops [qO 37 (.mov (.t 5)), qO 38 (.fadr 3 (.t 1)), qO 39 (.load false 1 (.t 38)), qO 40 (.llen (.t 39)), qO 41 (.bin .lss (.t 37) (.t 40))])
  (.cond (.t 41) .skip
  (.exit 2)))
  (.seq (.block 3 (.any [(qO 44 (.mov (.t 3)), []), (qO 45 (.fadr 3 (.t 1)), []), (qO 46 (.load false 1 (.t 45)), [1]), (qO 47 (.mov (.t 5)), []), (qO 48 (.iadr 2 (.t 46) (.t 47)), [2, 3]), (qO 49 (.fadr 0 (.t 48)), [4]), (qO 50 (.load false 1 (.t 49)), [5]), (cO 51 141 [.t 44, .t 50], [0, 6]), (qO 52 (.fadr 3 (.t 1)), []), (qO 53 (.load false 1 (.t 52)), [8]), (qO 54 (.mov (.t 5)), []), (qO 55 (.iadr 2 (.t 53) (.t 54)), [9, 10]), (qO 56 (.fadr 1 (.t 55)), [11]), (qO 57 (.load false 1 (.t 56)), [12]), (cO 58 141 [.t 51, .t 57], [7, 13, 7]), (qO 3 (.mov (.t 58)), [14, 14, 0, 1, 2, 3, 4, 5, 6, 7, 8, 9, 10, 11, 12, 13, 14])]))
  (.ops [qO 42 (.mov (.t 5)), qO 43 (.bin .add (.t 42) (iC 1)), qO 5 (.mov (.t 43))]))))))
  (.seq (.ops [qO 59 (.mov (.t 3)), qO 60 (.fadr 4 (.t 1)), qO 61 (.load false 1 (.t 60)), qO 62 (.llen (.t 61)), cO 63 140 [.t 59, .t 62], qO 3 (.mov (.t 63))])
  (.seq (.seq (.ops [qO 6 (.mov (iC 0))])
  (.block 4 (.loop (.seq (.seq (.ops [qO 64 (.mov (.t 6)), qO 65 (.fadr 4 (.t 1)), qO 66 (.load false 1 (.t 65)), qO 67 (.llen (.t 66)), qO 68 (.bin .lss (.t 64) (.t 67))])
  (.cond (.t 68) .skip
  (.exit 4)))
  (.seq (.block 5 (.any [(qO 71 (.mov (.t 3)), []), (qO 72 (.fadr 4 (.t 1)), []), (qO 73 (.load false 1 (.t 72)), [1]), (qO 74 (.mov (.t 6)), []), (qO 75 (.iadr 3 (.t 73) (.t 74)), [2, 3]), (qO 76 (.fadr 0 (.t 75)), [4]), (qO 77 (.load false 1 (.t 76)), [5]), (cO 78 141 [.t 71, .t 77], [0, 6]), (qO 79 (.fadr 4 (.t 1)), []), (qO 80 (.load false 1 (.t 79)), [8]), (qO 81 (.mov (.t 6)), []), (qO 82 (.iadr 3 (.t 80) (.t 81)), [9, 10]), (qO 83 (.fadr 2 (.t 82)), [11]), (qO 84 (.load false 1 (.t 83)), [12]), (cO 85 141 [.t 78, .t 84], [7, 13, 7]), (qO 86 (.fadr 4 (.t 1)), []), (qO 87 (.load false 1 (.t 86)), [15]), (qO 88 (.mov (.t 6)), []), (qO 89 (.iadr 3 (.t 87) (.t 88)), [16, 17]), (qO 90 (.fadr 1 (.t 89)), [18]), (qO 91 (.load false 1 (.t 90)), [19]), (cO 92 142 [.t 85, .t 91], [14, 20, 14]), (qO 3 (.mov (.t 92)), [21, 21, 0, 1, 2, 3, 4, 5, 6, 7, 8, 9, 10, 11, 12, 13, 14, 15, 16, 17, 18, 19, 20, 21])]))
  (.ops [qO 69 (.mov (.t 6)), qO 70 (.bin .add (.t 69) (iC 1)), qO 6 (.mov (.t 70))]))))))
  (.seq (.ops [qO 93 (.mov (.t 3)), qO 2 (.mov (.t 93))])
  .ret))))))))
theorem K69 : Kf Tryz.prog Tryz.f69 A69 94 [.mov (.t 2)] := ⟨by kernel_rfl, by kernel_rfl, by kernel_rfl⟩
set_option maxHeartbeats 4000000 in
theorem R69 (j : Job) (h1 : j.acts.length < 4611686018427387904) (h2 : j.ins.length < 4611686018427387904) (h3 : j.envs.length < 4611686018427387904) (h4 : j.deps.length < 4611686018427387904) (jfit : ∀ m ∈ j.deps, m.outs.length < 4611686018427387904) (hb : jw j + j.acts.length + j.ins.length + j.envs.length + j.deps.length + ol j.deps + 100 ≤ 140737488350000) : Ret Tryz.prog 69 [.agg (Job.ty.cs j)] (.own (rows B (jkey j)) (jkey j).length 1) [.un] := by
  have hn := jw_eq j
  have z1 := Zi j.acts.length
  rw [hn] at hb
  have p0 := Yj [] j.name
  have p1 := Yj (putT [] j.name) (numT j.acts.length)
  simp only [List.length_nil] at p0
  have hk := zfd j
  obtain ⟨b0, hb0⟩ : ∃ b, b = putT (putT [] j.name) (numT j.acts.length) := ⟨_, rfl⟩
  rw [← hb0] at hk p1
  obtain ⟨b1, hb1⟩ : ∃ b, b = putTs b0 j.acts := ⟨_, rfl⟩
  rw [← hb1] at hk
  have p2 := zaQ b1 j.ins
  obtain ⟨b2, hb2⟩ : ∃ b, b = putFl b1 j.ins := ⟨_, rfl⟩
  rw [← hb2] at hk p2
  have p3 := Yj b2 (numT j.envs.length)
  obtain ⟨b3, hb3⟩ : ∃ b, b = putT b2 (numT j.envs.length) := ⟨_, rfl⟩
  rw [← hb3] at hk p3
  obtain ⟨b4, hb4⟩ : ∃ b, b = putTs b3 (txE j.envs) := ⟨_, rfl⟩
  rw [← hb4] at hk
  have p5 := Yj b4 (numT j.deps.length)
  obtain ⟨b5, hb5⟩ : ∃ b, b = putT b4 (numT j.deps.length) := ⟨_, rfl⟩
  rw [← hb5] at hk p5
  have hz2 := fw_sw j.ins
  have y2 := Zi j.ins.length
  have y3 := Zi j.envs.length
  have y4 := Zi j.deps.length
  have r0 := R140 (putT [] j.name) j.acts.length h1 (by omega)
  rw [← hb0] at r0
  refine Ret.run Tryz.func69 K69 (by simp) rfl rfl 900 ?_
  simp [A69, iniρ, Job.cse]
  refine T.textW 400 [([7], []), ([], [7]), ([], [7]), ([10], []), ([], [7, 10]), ([], [7, 10]), ([], [7, 10]), ([14], []), ([], [])] mixed (by kernel_rfl) (by kernel_rfl) ?_
  simp [Zb, yb]
  refine yf.ro 10 rfl (by kernel_rfl) (by simp [za, Yc, Za, Br0]) (R141 [] j.name (by simp only [List.length_nil]; omega)) (B_fl _) (by simp [inst, za, Za]; exact ⟨rfl, rfl⟩) (by rfl) ?_
  simp [Zb, yb]
  refine yf.ro 14 rfl (by kernel_rfl) (by simp [za, Yc, Za, Br]) r0 (B_fl _) (by simp [inst, za, Za]; exact ⟨rfl, rfl⟩) (by rfl) ?_
  simp [Zb, yb]
  refine T.le (Le.reseat [1, 3, 4] [(1, 1), (14, 60)] (by simp) (by simp [za, Ya, Za, menB, zb]) (by
    intro c hc cs hcs
    simp at hc
    rcases hc with rfl | rfl
    · simp [za, Ya, Za] at hcs
      subst hcs
      simp [Job.cse, zb]
    · simp [za, Ya, Za] at hcs
      subst hcs
      exact yd (Zd B.fr _))) ?_
  refine T.rounds (μ := fun i : List ByteArray × List ByteArray × List Int => i.2.1.length)
    (fun i s => i.1 ++ i.2.1 = j.acts ∧ putTs i.2.2 i.2.1 = b1 ∧ i.2.2.length + sw i.2.1 + ((numT j.ins.length).size + 2 + sw (txF j.ins) + ((numT j.envs.length).size + 2) + sw (txE j.envs) + ((numT j.deps.length).size + 2) + sw (txM j.deps) + (j.ins.length + j.envs.length + j.deps.length + ol j.deps + 100)) ≤ 140737488350000 ∧ s.ρ 1 = .ref 1 0 ∧ s.ρ 3 = .sl 60 0 i.2.2.length 1 false ∧ s.ρ 4 = .sc (.int .i64 i.1.length) ∧ s.h 1 = some (some (Job.ty.cs j)) ∧ s.h 60 = some (some (rows B i.2.2)) ∧ (∀ c, c ≠ 60 → c ≠ 1 → s.h c = none) ∧ s.n = 94) ([], j.acts, b0) (by simp [za, Job.cse, hb1]; exact ⟨by omega, fun c hc h1 => by rw [findB h1 hc]⟩) ?_
  rintro ⟨pre, rest, cur⟩ ⟨ρ, hh, n⟩ ⟨hx, hE, hw, k1, k3, k4, q1, b60, bf, rfl⟩
  simp only at hx hE hw k1 k3 k4 q1 b60 bf
  refine yg (n := 400) ?_
  cases rest
  case cons x rest =>
    have hle : pre.length + (rest.length + 1) = j.acts.length := by rw [← hx]; simp
    have hlt : (pre.length : Int) < j.acts.length := by omega
    have hwr : IntKind.i64.wrap ((pre.length : Int) + 1) = pre.length + 1 := zc (by omega) (by omega)
    have hd := ye Ty.str.csn pre (x :: rest)
    rw [hx, yc] at hd
    rw [show pre.length * Ty.str.n = pre.length from Nat.mul_one _] at hd
    have hd : List.drop (pre.length) (rows Ty.str.cs j.acts) = AV.sc (.string x) :: rows Ty.str.cs rest := hd
    rw [sw] at hw
    have c1 := Yj cur x
    have f28 := bf 28 (by decide) (by decide)
    simp [k1, k3, k4, q1, hlt, hd, Job.cse]
    refine callK.ro 28 rfl (by kernel_rfl) (by simp [za, Yc, Br, b60]) (R141 cur x (by omega)) (B_fl _) (by simp [inst, za, f28]; exact ⟨rfl, rfl⟩) rfl ?_
    simp [k1, k3, k4, hwr]
    refine ⟨pre ++ [x], rest, by simp, putT cur x, _, (Le.reseat [1, 3, 4] [(1, 1), (28, 60)] (by simp) (by simp [za, Ya, Za, menB, zb, k1, k3, k4, q1, Job.cse]) (by
      intro c hc cs hcs
      simp at hc
      rcases hc with rfl | rfl
      · simp [za, Ya, Za, k1, k3, k4, q1, Job.cse] at hcs
        subst hcs
        simp [Job.cse, zb]
      · simp [za, Ya, Za] at hcs
        subst hcs
        exact yd (Zd B.fr _))), by simpa using hx, hE, by omega, ?_⟩
    simp [za, Ya, Za, k1, k3, k4, q1, Job.cse]
    exact fun c hc h1 => by rw [findB h1 hc]
  have hxl : pre.length = j.acts.length := by rw [← hx]; simp
  have hE : cur = b1 := hE
  subst cur
  clear hx
  simp [k1, k3, k4, q1, hxl, Job.cse]
  refine T.on 400 ?_
  have r2 := R142 b1 j.ins h2 (by omega)
  rw [← hb2] at r2
  have r3 := R140 b2 j.envs.length h3 (by omega)
  rw [← hb3] at r3
  have f32 := bf 32 (by decide) (by decide)
  have f36 := bf 36 (by decide) (by decide)
  refine T.textW 400 [([], []), ([], []), ([], []), ([32], []), ([], [32]), ([], [32]), ([], [32]), ([36], []), ([], [])] mixed (by kernel_rfl) (by kernel_rfl) ?_
  simp [k1, k3, q1, b60, Job.cse, Zb, yb]
  refine yf.ro 32 rfl (by kernel_rfl) (by simp [za, ze, Za, Br, b60, k3]) r2 (B_fl _) (by simp [inst, za, Za, f32]; exact ⟨rfl, rfl⟩) (by rfl) ?_
  simp [k1, q1, Job.cse, Zb, yb]
  refine yf.ro 36 rfl (by kernel_rfl) (by simp [za, Yc, Za, Br]) r3 (B_fl _) (by simp [inst, za, Za, f36]; exact ⟨rfl, rfl⟩) (by rfl) ?_
  simp [k1, q1, Job.cse, Zb, yb]
  refine T.le (Le.reseat [1, 3, 5] [(1, 1), (36, 60)] (by simp) (by simp [za, Ya, Za, menB, zb, k1, q1]) (by
    intro c hc cs hcs
    simp at hc
    rcases hc with rfl | rfl
    · simp [za, Ya, Za, k1, q1] at hcs
      subst hcs
      simp [Job.cse, zb]
    · simp [za, Ya, Za] at hcs
      subst hcs
      exact yd (Zd B.fr _))) ?_
  refine T.rounds (μ := fun i : List Env × List Env × List Int => i.2.1.length)
    (fun i s => i.1 ++ i.2.1 = j.envs ∧ putTs i.2.2 (txE i.2.1) = b4 ∧ i.2.2.length + sw (txE i.2.1) + ((numT j.deps.length).size + 2 + sw (txM j.deps) + (j.deps.length + ol j.deps + 100)) ≤ 140737488350000 ∧ s.ρ 1 = .ref 1 0 ∧ s.ρ 3 = .sl 60 0 i.2.2.length 1 false ∧ s.ρ 5 = .sc (.int .i64 i.1.length) ∧ s.h 1 = some (some (Job.ty.cs j)) ∧ s.h 60 = some (some (rows B i.2.2)) ∧ (∀ c, c ≠ 60 → c ≠ 1 → s.h c = none) ∧ s.n = 94) ([], j.envs, b3) (by simp [za, Job.cse, k1, q1, hb4]; exact ⟨by omega, fun c hc h1 => by rw [findB h1 hc]⟩) ?_
  rintro ⟨pre, rest, cur⟩ ⟨ρ, hh, n⟩ ⟨hx, hE, hw, k1, k3, k5, q1, b60, bf, rfl⟩
  simp only at hx hE hw k1 k3 k5 q1 b60 bf
  refine yg (n := 400) ?_
  cases rest
  case cons x rest =>
    have hle : pre.length + (rest.length + 1) = j.envs.length := by rw [← hx]; simp
    have hlt : (pre.length : Int) < j.envs.length := by omega
    have hwr : IntKind.i64.wrap ((pre.length : Int) + 1) = pre.length + 1 := zc (by omega) (by omega)
    have hd := ye Env.ty.csn pre (x :: rest)
    rw [hx, yc] at hd
    have hd : List.drop (pre.length * 2) (rows Env.ty.cs j.envs) = AV.sc (.string x.name) :: AV.sc (.string x.val) :: rows Env.ty.cs rest := hd
    rw [txE, sw, sw] at hw
    rw [txE] at hE
    have c1 := Yj cur x.name
    have c2 := Yj (putT cur x.name) x.val
    have hd1 : List.drop (pre.length * 2 + 1) (rows Env.ty.cs j.envs) = AV.sc (.string x.val) :: rows Env.ty.cs rest := by rw [← List.drop_drop, hd]; rfl
    have f51 := bf 51 (by decide) (by decide)
    have f58 := bf 58 (by decide) (by decide)
    simp [k1, k3, k5, q1, hlt, Job.cse]
    refine T.textW 400 [([], []), ([], []), ([], []), ([], []), ([], []), ([], []), ([], []), ([51], []), ([], [51]), ([], [51]), ([], [51]), ([], [51]), ([], [51]), ([], [51]), ([58], []), ([], [])] mixed (by kernel_rfl) (by kernel_rfl) ?_
    simp [k1, k3, k5, q1, hlt, hd, Job.cse, Zb, yb]
    refine yf.ro 51 rfl (by kernel_rfl) (by simp [za, Yc, Za, Br, b60]) (R141 cur x.name (by omega)) (B_fl _) (by simp [inst, za, Za, f51]; exact ⟨rfl, rfl⟩) (by rfl) ?_
    simp [k1, k3, k5, q1, hlt, hd1, Job.cse, Zb, yb]
    refine yf.ro 58 rfl (by kernel_rfl) (by simp [za, Yc, Za, Br]) (R141 (putT cur x.name) x.val (by omega)) (B_fl _) (by simp [inst, za, Za, f58]; exact ⟨rfl, rfl⟩) (by rfl) ?_
    simp [k1, k3, k5, hwr, Zb, yb]
    refine ⟨pre ++ [x], rest, by simp, putT (putT cur x.name) x.val, _, (Le.reseat [1, 3, 5] [(1, 1), (58, 60)] (by simp) (by simp [za, Ya, Za, menB, zb, k1, k3, k5, q1, Job.cse]) (by
      intro c hc cs hcs
      simp at hc
      rcases hc with rfl | rfl
      · simp [za, Ya, Za, k1, k3, k5, q1, Job.cse] at hcs
        subst hcs
        simp [Job.cse, zb]
      · simp [za, Ya, Za] at hcs
        subst hcs
        exact yd (Zd B.fr _))), by simpa using hx, hE, by omega, ?_⟩
    simp [za, Ya, Za, k1, k3, k5, q1, Job.cse]
    exact fun c hc h1 => by rw [findB h1 hc]
  have hxl : pre.length = j.envs.length := by rw [← hx]; simp
  have hE : cur = b4 := hE
  subst cur
  clear hx
  simp [k1, k3, k5, q1, hxl, Job.cse]
  refine T.on 400 ?_
  have r5 := R140 b4 j.deps.length h4 (by omega)
  rw [← hb5] at r5
  have f63 := bf 63 (by decide) (by decide)
  simp [k1, k3, q1, Job.cse]
  refine callK.ro 63 rfl (by kernel_rfl) (by simp [za, Yc, Br, b60, k3]) r5 (B_fl _) (by simp [inst, za, f63]; exact ⟨rfl, rfl⟩) rfl ?_
  simp [k1, q1, Job.cse]
  refine T.le (Le.reseat [1, 3, 6] [(1, 1), (63, 60)] (by simp) (by simp [za, Ya, Za, menB, zb, k1, q1]) (by
    intro c hc cs hcs
    simp at hc
    rcases hc with rfl | rfl
    · simp [za, Ya, Za, k1, q1] at hcs
      subst hcs
      simp [Job.cse, zb]
    · simp [za, Ya, Za] at hcs
      subst hcs
      exact yd (Zd B.fr _))) ?_
  refine T.rounds (μ := fun i : List Made × List Made × List Int => i.2.1.length)
    (fun i s => i.1 ++ i.2.1 = j.deps ∧ putTs i.2.2 (txM i.2.1) = jkey j ∧ i.2.2.length + sw (txM i.2.1) + (ol i.2.1 + 100) ≤ 140737488350000 ∧ s.ρ 1 = .ref 1 0 ∧ s.ρ 3 = .sl 60 0 i.2.2.length 1 false ∧ s.ρ 6 = .sc (.int .i64 i.1.length) ∧ s.h 1 = some (some (Job.ty.cs j)) ∧ s.h 60 = some (some (rows B i.2.2)) ∧ (∀ c, c ≠ 60 → c ≠ 1 → s.h c = none) ∧ s.n = 94) ([], j.deps, b5) (by simp [za, Job.cse, k1, q1, hk]; exact ⟨by omega, fun c hc h1 => by rw [findB h1 hc]⟩) ?_
  rintro ⟨pre, rest, cur⟩ ⟨ρ, hh, n⟩ ⟨hx, hE, hw, k1, k3, k6, q1, b60, bf, rfl⟩
  simp only at hx hE hw k1 k3 k6 q1 b60 bf
  refine yg (n := 400) ?_
  cases rest
  case cons x rest =>
    have hle : pre.length + (rest.length + 1) = j.deps.length := by rw [← hx]; simp
    have hlt : (pre.length : Int) < j.deps.length := by omega
    have hwr : IntKind.i64.wrap ((pre.length : Int) + 1) = pre.length + 1 := zc (by omega) (by omega)
    have hd := ye Made.ty.csn pre (x :: rest)
    rw [hx, yc] at hd
    have hd : List.drop (pre.length * 3) (rows Made.ty.cs j.deps) = AV.sc (.string x.task) :: .ro (rows File.ty.cs x.outs) x.outs.length :: .sc (.string x.log) :: rows Made.ty.cs rest := hd
    rw [txM, sw, sw, sw, zcq, ol] at hw
    rw [txM] at hE
    have hf := fw_sw x.outs
    have hfl := zeD x.outs
    have hns := Zi x.outs.length
    have c1 := Yj cur x.task
    have c2 := Yj (putT cur x.task) x.log
    have c3 := zaQ (putT (putT cur x.task) x.log) x.outs
    have hE : putTs (putFl (putT (putT cur x.task) x.log) x.outs) (txM rest) = jkey j := by rw [zb3, ← zah]; exact hE
    have hrest := jfit x (by rw [← hx]; simp)
    have hd1 : List.drop (pre.length * 3 + 1) (rows Made.ty.cs j.deps) = .ro (rows File.ty.cs x.outs) x.outs.length :: .sc (.string x.log) :: rows Made.ty.cs rest := by rw [← List.drop_drop, hd]; rfl
    have hd2 : List.drop (pre.length * 3 + 2) (rows Made.ty.cs j.deps) = .sc (.string x.log) :: rows Made.ty.cs rest := by rw [← List.drop_drop, hd]; rfl
    have f78 := bf 78 (by decide) (by decide)
    have f85 := bf 85 (by decide) (by decide)
    have f92 := bf 92 (by decide) (by decide)
    simp [k1, k3, k6, q1, hlt, Job.cse]
    refine T.textW 400 [([], []), ([], []), ([], []), ([], []), ([], []), ([], []), ([], []), ([78], []), ([], [78]), ([], [78]), ([], [78]), ([], [78]), ([], [78]), ([], [78]), ([85], []), ([], [78, 85]), ([], [78, 85]), ([], [78, 85]), ([], [78, 85]), ([], [78, 85]), ([], [78, 85]), ([92], []), ([], [])] mixed (by kernel_rfl) (by kernel_rfl) ?_
    simp [k1, k3, k6, q1, hlt, hd, Job.cse, Zb, yb]
    refine yf.ro 78 rfl (by kernel_rfl) (by simp [za, Yc, Za, Br, b60]) (R141 cur x.task (by omega)) (B_fl _) (by simp [inst, za, Za, f78]; exact ⟨rfl, rfl⟩) (by rfl) ?_
    simp [k1, k3, k6, q1, hlt, hd2, Job.cse, Zb, yb]
    refine yf.ro 85 rfl (by kernel_rfl) (by simp [za, Yc, Za, Br]) (R141 (putT cur x.task) x.log (by omega)) (B_fl _) (by simp [inst, za, Za, f85]; exact ⟨rfl, rfl⟩) (by rfl) ?_
    simp [k1, k3, k6, q1, hlt, hd1, Job.cse, Zb, yb]
    refine yf.ro 92 rfl (by kernel_rfl) (by simp [za, ze, Za, Br]) (R142 (putT (putT cur x.task) x.log) x.outs hrest (by omega)) (B_fl _) (by simp [inst, za, Za, f92]; exact ⟨rfl, rfl⟩) (by rfl) ?_
    simp [k1, k3, k6, hwr, Zb, yb]
    refine ⟨pre ++ [x], rest, by simp, putFl (putT (putT cur x.task) x.log) x.outs, _, (Le.reseat [1, 3, 6] [(1, 1), (92, 60)] (by simp) (by simp [za, Ya, Za, menB, zb, k1, k3, k6, q1, Job.cse]) (by
      intro c hc cs hcs
      simp at hc
      rcases hc with rfl | rfl
      · simp [za, Ya, Za, k1, k3, k6, q1, Job.cse] at hcs
        subst hcs
        simp [Job.cse, zb]
      · simp [za, Ya, Za] at hcs
        subst hcs
        exact yd (Zd B.fr _))), by simpa using hx, hE, by omega, ?_⟩
    simp [za, Ya, Za, k1, k3, k6, q1, Job.cse]
    exact fun c hc h1 => by rw [findB h1 hc]
  have hxl : pre.length = j.deps.length := by rw [← hx]; simp
  have hE : cur = jkey j := hE
  subst cur
  clear hx
  simp [k1, k3, k6, q1, hxl, Job.cse]
  refine T.on 400 ?_
  simp [k1, k3, q1, b60, ex1, B.count, Zd B.fr]
def File.tot (x : File) : Nat := 1 + 1
def Need.tot (x : Need) : Nat := 1 + 1
def Cmd.tot (x : Cmd) : Nat := 1 + toL zcr x.acts
def Pack.tot (x : Pack) : Nat := 1 + toL zcr x.uses + toL Need.tot x.needs + toL Cmd.tot x.cmds
def Env.tot (x : Env) : Nat := 1 + 1
def Rule.tot (x : Rule) : Nat := 1 + toL zcr x.on + toL zcr x.ins + toL zcr x.envs + 1
def Made.tot (x : Made) : Nat := 1 + toL File.tot x.outs + 1
def Mark.tot (x : Mark) : Nat := 1 + 1
def Slot.tot (x : Slot) : Nat := x.key.length + x.b.length
theorem Slot.ow2 (x : Slot) {i : Nat} {cs : List AV} {len sz : Nat} (h : (Slot.ty.oc x)[i]? = some (.own cs len sz)) : (i = 0 ∧ cs = rows B x.key ∧ len = x.key.length ∧ sz = 1) ∨ (i = 1 ∧ cs = rows B x.b ∧ len = x.b.length ∧ sz = 1) := by
  rw [Slot.oce] at h
  match i with
  | 0 => left; simp at h; exact ⟨rfl, h.1.symm, h.2.1.symm, h.2.2.symm⟩
  | 1 => right; simp at h; exact ⟨rfl, h.1.symm, h.2.1.symm, h.2.2.symm⟩
  | i + 2 => simp at h
def Yv (xs : List Slot) (k : List Int) : Option Made :=
  if 0 ≤ idx (fun s => bEq s.key k) xs 0 then match xs[(idx (fun s => bEq s.key k) xs 0).toNat]? with
    | some s => match getI s.b with | some m => if YD m = true then some m else none | none => none
    | none => none
  else none
theorem zfl {b : List Int} (hb : byteL b) (hl : b.length ≤ 140737488355328) {m : Made} (h : getI b = some m) : m.task.size ≤ 1048576 ∧ m.outs.length < 4611686018427387904 ∧ ∀ x ∈ m.outs, x.path.size ≤ 1048576 := by
  obtain ⟨h1, _⟩ := zcd hb h
  exact ⟨by have := h1.task; omega, by have := h1.num; omega, fun x hx => by have := (h1.outs x hx).1; omega⟩
theorem za0 {x : Slot} (h : Slot.ty.ok x) : byteL x.b ∧ x.b.length ≤ 140737488355328 := by
  obtain ⟨_, ⟨o2, o3⟩, _⟩ := h
  refine ⟨fun y hy => o3 y hy, ?_⟩
  have : x.b.length * 1 ≤ 140737488351232 := o2
  omega
def A71 : AC := (.seq (.ops [wO 4 (.alloc [(.sc (.string ⟨#[]⟩)), .em, (.sc (.string ⟨#[]⟩))]), qO 5 (.mov (.c (.sc (.bool false))))])
  (.seq (.ops [qO 9 (.mov (.t 0)), qO 10 (.mov (.t 1)), cO 11 144 [.t 9, .t 10], qO 6 (.mov (.t 11))])
  (.seq (.seq (.ops [qO 12 (.mov (.t 6)), qO 13 (.bin .lss (.t 12) (iC 0))])
  (.cond (.t 13) (.seq (.ops [wO 14 (.build [(.sc (.string ⟨#[]⟩)), .em, (.sc (.string ⟨#[]⟩))] []), nO (.store 3 (.t 4) (.t 14)), qO 5 (.mov (.c (.sc (.bool false))))])
  .ret)
  .skip))
  (.seq (.ops [qO 16 (.mov (.t 0)), qO 17 (.mov (.t 6)), qO 18 (.iadr 2 (.t 16) (.t 17)), qO 19 (.fadr 1 (.t 18)), qO 20 (.load false 1 (.t 19)), cO 21 145 [.t 20], qO 15 (.mov (.t 21)), qO 22 (.ext (.t 15) 0), qO 23 (.ext (.t 15) 1), wO 7 (.alloc [(.sc (.string ⟨#[]⟩)), .em, (.sc (.string ⟨#[]⟩))]), nO (.store 3 (.t 7) (.t 22)), qO 8 (.mov (.t 23))])
  (.seq (.seq (.ops [qO 24 (.mov (.t 8)), qO 25 (.not (.t 24)), qO 26 (.mov (.t 25)), qG 27 26 false (.load true 3 (.t 7)), cG 28 26 false 146 [.t 27], qG 29 26 false (.not (.t 28)), qO 30 (.pick (.t 26) (.c (.sc (.bool true))) (.t 29))])
  (.cond (.t 30) (.seq (.ops [wO 31 (.build [(.sc (.string ⟨#[]⟩)), .em, (.sc (.string ⟨#[]⟩))] []), nO (.store 3 (.t 4) (.t 31)), qO 5 (.mov (.c (.sc (.bool false))))])
  .ret)
  .skip))
  (.seq (.ops [qO 32 (.load true 3 (.t 7)), nO (.store 3 (.t 4) (.t 32)), qO 5 (.mov (.c (.sc (.bool true))))])
  .ret))))))
theorem K71 : Kf Tryz.prog Tryz.f71 A71 33 [.load true 3 (.t 4), .mov (.t 5)] := ⟨by kernel_rfl, by kernel_rfl, by kernel_rfl⟩
set_option maxHeartbeats 2000000 in
theorem R71 (xs : List Slot) (k : List Int) (hx : Slot.ty.slice.ok xs) : Ret Tryz.prog 71 [.ro (rows Slot.ty.cs xs) xs.length, .ro (rows B k) k.length] (madeA (Yv xs k)) [.un, .un] := by
  have hb : xs.length < 4611686018427387904 := Slot.ty.lenb (by decide) hx
  have hcg : Yv xs k = if 0 ≤ idx (fun s => bEq s.key k) xs 0 then match xs[(idx (fun s => bEq s.key k) xs 0).toNat]? with
    | some s => match getI s.b with | some m => if YD m = true then some m else none | none => none
    | none => none
  else none := rfl
  have ra := R144 xs k hb
  rcases zE (fun s : Slot => bEq s.key k) xs 0 with ⟨pre, s, rest, e, h2, h1, e2⟩ | ⟨h1, e2⟩
  case inr =>
    rw [e2] at hcg ra
    rw [hcg, if_neg (by decide)]
    refine Ret.run Tryz.func71 K71 (by simp) rfl rfl 500 ?_
    simp [A71, iniρ]
    refine callK.ro 0 rfl (by kernel_rfl) (by simp [ze]) ra rfl rfl rfl ?_
    simp [over, ex1, madeA, Yr, Made.oce, Yf, zb.idfreeL]
  have e2 : idx (fun s => bEq s.key k) xs 0 = (pre.length : Int) := by rw [e2]; omega
  have hg : xs[pre.length]? = some s := by rw [e]; simp
  rw [e2] at hcg ra
  rw [Int.toNat_natCast, hg, if_pos (by omega)] at hcg
  simp only at hcg
  have hso : Slot.ty.ok s := hx.2 s (by rw [e]; simp)
  obtain ⟨sb, sl⟩ := za0 hso
  have rg := R145 s.b sb sl
  obtain ⟨g, hgg⟩ : ∃ g, g = getI s.b := ⟨_, rfl⟩
  rw [← hgg] at rg hcg
  have hle : xs.length = pre.length + (rest.length + 1) := by rw [e]; simp
  have hlt : (pre.length : Int) < xs.length := by omega
  have hlt2 : pre.length < xs.length := by omega
  have hd := ye Slot.ty.csn pre (s :: rest)
  rw [← e, yc] at hd
  have hd : List.drop (pre.length * 2) (rows Slot.ty.cs xs) = AV.ro (rows B s.key) s.key.length :: AV.ro (rows B s.b) s.b.length :: rows Slot.ty.cs rest := hd
  have hd1 : List.drop (pre.length * 2 + 1) (rows Slot.ty.cs xs) = AV.ro (rows B s.b) s.b.length :: rows Slot.ty.cs rest := by rw [← List.drop_drop, hd]; rfl
  have n0 : ¬ ((pre.length : Int) < 0) := by omega
  rw [hcg]
  cases g with
  | none =>
    refine Ret.run Tryz.func71 K71 (by simp) rfl rfl 500 ?_
    simp [A71, iniρ]
    refine callK.ro 0 rfl (by kernel_rfl) (by simp [ze]) ra rfl rfl rfl ?_
    simp [n0, hlt, hlt2, hd1]
    refine callK.ro 21 rfl (by kernel_rfl) (by simp [ze]) rg (by simp [madeA, Yr, Made.oce, Yf, flt, flt.fltL]) (by simp [madeA, Yr, Made.oce, inst, instL, shut, za]; exact ⟨rfl, rfl⟩) rfl ?_
    simp [over, ex1, madeA, Yr, Made.oce, Yf, zb.idfreeL]
  | some m =>
    obtain ⟨z1, z2, z3⟩ := zfl sb sl hgg.symm
    have rk := R146 m z1 z2 z3
    have fm : flt (madeA (some m)) = true := by
      have := Made.ty.flL m
      simp [madeA, flt, flt.fltL, this]
    refine Ret.run Tryz.func71 K71 (by simp) rfl rfl 500 ?_
    simp [A71, iniρ]
    refine callK.ro 0 rfl (by kernel_rfl) (by simp [ze]) ra rfl rfl rfl ?_
    simp [n0, hlt, hlt2, hd1]
    refine callK.ro 21 rfl (by kernel_rfl) (by simp [ze]) rg fm (by simp [madeA, Made.oce, inst, instL, shut, za]; exact ⟨rfl, rfl⟩) rfl ?_
    simp [over]
    have hro : ∀ (h : Hp) (q : Nat), h q = some (some (rows File.ty.oc m.outs)) → roc h 7 (.sl q 0 m.outs.length 2 false) = some (.ro (rows File.ty.cs m.outs) m.outs.length) := fun h q e => File.roc7 e
    refine callK.ro 0 rfl (by kernel_rfl) (ys := [.agg (Made.ty.cs m)]) (by simp [za, Yh, List.mapM_cons, List.mapM_nil, Yc, hro, Made.cse]) rk rfl rfl rfl ?_
    cases hk : YD m
    · simp [over, ex1, madeA, Yr, Made.oce, Yf, zb.idfreeL]
    · simp [over, ex1, madeA, Made.oce, File.ocl, File.frL]
def A76 : AC := (.seq (.ops [wO 4 (.alloc [(.sc (.string ⟨#[]⟩)), .em, (.sc (.string ⟨#[]⟩))]), qO 5 (.mov (.c (.sc (.bool false))))])
  (.seq (.ops [qO 9 (.mov (.t 0)), qO 10 (.mov (.t 1)), cO 11 157 [.t 9, .t 10], qO 6 (.mov (.t 11))])
  (.seq (.seq (.ops [qO 12 (.mov (.t 6)), qO 13 (.bin .lss (.t 12) (iC 0))])
  (.cond (.t 13) (.seq (.ops [wO 14 (.build [(.sc (.string ⟨#[]⟩)), .em, (.sc (.string ⟨#[]⟩))] []), nO (.store 3 (.t 4) (.t 14)), qO 5 (.mov (.c (.sc (.bool false))))])
  .ret)
  .skip))
  (.seq (.ops [qO 16 (.mov (.t 0)), qO 17 (.mov (.t 6)), qO 18 (.iadr 2 (.t 16) (.t 17)), qO 19 (.fadr 1 (.t 18)), qO 20 (.load false 1 (.t 19)), cO 21 158 [.t 20], qO 15 (.mov (.t 21)), qO 22 (.ext (.t 15) 0), qO 23 (.ext (.t 15) 1), wO 7 (.alloc [(.sc (.string ⟨#[]⟩)), .em, (.sc (.string ⟨#[]⟩))]), nO (.store 3 (.t 7) (.t 22)), qO 8 (.mov (.t 23))])
  (.seq (.seq (.ops [qO 24 (.mov (.t 8)), qO 25 (.not (.t 24)), qO 26 (.mov (.t 25)), qG 27 26 false (.load true 3 (.t 7)), cG 28 26 false 138 [.t 27], qG 29 26 false (.not (.t 28)), qO 30 (.pick (.t 26) (.c (.sc (.bool true))) (.t 29))])
  (.cond (.t 30) (.seq (.ops [wO 31 (.build [(.sc (.string ⟨#[]⟩)), .em, (.sc (.string ⟨#[]⟩))] []), nO (.store 3 (.t 4) (.t 31)), qO 5 (.mov (.c (.sc (.bool false))))])
  .ret)
  .skip))
  (.seq (.ops [qO 32 (.load true 3 (.t 7)), nO (.store 3 (.t 4) (.t 32)), qO 5 (.mov (.c (.sc (.bool true))))])
  .ret))))))
theorem K76 : Kf Tryz.prog Tryz.f76 A76 33 [.load true 3 (.t 4), .mov (.t 5)] := ⟨by kernel_rfl, by kernel_rfl, by kernel_rfl⟩
set_option maxHeartbeats 2000000 in
theorem R76 (xs : List Slot) (k : List Int) (hx : Slot.ty.slice.ok xs) : Ret Tryz.prog 76 [.ro (rows Slot.ty.cs xs) xs.length, .ro (rows B k) k.length] (madeA (Yv xs k)) [.un, .un] := by
  have hb : xs.length < 4611686018427387904 := Slot.ty.lenb (by decide) hx
  have hcg : Yv xs k = if 0 ≤ idx (fun s => bEq s.key k) xs 0 then match xs[(idx (fun s => bEq s.key k) xs 0).toNat]? with
    | some s => match getI s.b with | some m => if YD m = true then some m else none | none => none
    | none => none
  else none := rfl
  have ra := R157 xs k hb
  rcases zE (fun s : Slot => bEq s.key k) xs 0 with ⟨pre, s, rest, e, h2, h1, e2⟩ | ⟨h1, e2⟩
  case inr =>
    rw [e2] at hcg ra
    rw [hcg, if_neg (by decide)]
    refine Ret.run Tryz.func76 K76 (by simp) rfl rfl 500 ?_
    simp [A76, iniρ]
    refine callK.ro 0 rfl (by kernel_rfl) (by simp [ze]) ra rfl rfl rfl ?_
    simp [over, ex1, madeA, Yr, Made.oce, Yf, zb.idfreeL]
  have e2 : idx (fun s => bEq s.key k) xs 0 = (pre.length : Int) := by rw [e2]; omega
  have hg : xs[pre.length]? = some s := by rw [e]; simp
  rw [e2] at hcg ra
  rw [Int.toNat_natCast, hg, if_pos (by omega)] at hcg
  simp only at hcg
  have hso : Slot.ty.ok s := hx.2 s (by rw [e]; simp)
  obtain ⟨sb, sl⟩ := za0 hso
  have rg := R158 s.b sb sl
  rw [← zho sb] at rg
  obtain ⟨g, hgg⟩ : ∃ g, g = getI s.b := ⟨_, rfl⟩
  rw [← hgg] at rg hcg
  have hle : xs.length = pre.length + (rest.length + 1) := by rw [e]; simp
  have hlt : (pre.length : Int) < xs.length := by omega
  have hlt2 : pre.length < xs.length := by omega
  have hd := ye Slot.ty.csn pre (s :: rest)
  rw [← e, yc] at hd
  have hd : List.drop (pre.length * 2) (rows Slot.ty.cs xs) = AV.ro (rows B s.key) s.key.length :: AV.ro (rows B s.b) s.b.length :: rows Slot.ty.cs rest := hd
  have hd1 : List.drop (pre.length * 2 + 1) (rows Slot.ty.cs xs) = AV.ro (rows B s.b) s.b.length :: rows Slot.ty.cs rest := by rw [← List.drop_drop, hd]; rfl
  have n0 : ¬ ((pre.length : Int) < 0) := by omega
  rw [hcg]
  cases g with
  | none =>
    refine Ret.run Tryz.func76 K76 (by simp) rfl rfl 500 ?_
    simp [A76, iniρ]
    refine callK.ro 0 rfl (by kernel_rfl) (by simp [ze]) ra rfl rfl rfl ?_
    simp [n0, hlt, hlt2, hd1]
    refine callK.ro 21 rfl (by kernel_rfl) (by simp [ze]) rg (by simp [madeA, Yr, Made.oce, Yf, flt, flt.fltL]) (by simp [madeA, Yr, Made.oce, inst, instL, shut, za]; exact ⟨rfl, rfl⟩) rfl ?_
    simp [over, ex1, madeA, Yr, Made.oce, Yf, zb.idfreeL]
  | some m =>
    obtain ⟨z1, z2, z3⟩ := zfl sb sl hgg.symm
    have rk := R138 m z1 z2 z3
    have fm : flt (madeA (some m)) = true := by
      have := Made.ty.flL m
      simp [madeA, flt, flt.fltL, this]
    refine Ret.run Tryz.func76 K76 (by simp) rfl rfl 500 ?_
    simp [A76, iniρ]
    refine callK.ro 0 rfl (by kernel_rfl) (by simp [ze]) ra rfl rfl rfl ?_
    simp [n0, hlt, hlt2, hd1]
    refine callK.ro 21 rfl (by kernel_rfl) (by simp [ze]) rg fm (by simp [madeA, Made.oce, inst, instL, shut, za]; exact ⟨rfl, rfl⟩) rfl ?_
    simp [over]
    have hro : ∀ (h : Hp) (q : Nat), h q = some (some (rows File.ty.oc m.outs)) → roc h 7 (.sl q 0 m.outs.length 2 false) = some (.ro (rows File.ty.cs m.outs) m.outs.length) := fun h q e => File.roc7 e
    refine callK.ro 0 rfl (by kernel_rfl) (ys := [.agg (Made.ty.cs m)]) (by simp [za, Yh, List.mapM_cons, List.mapM_nil, Yc, hro, Made.cse]) rk rfl rfl rfl ?_
    cases hk : YD m
    · simp [over, ex1, madeA, Yr, Made.oce, Yf, zb.idfreeL]
    · simp [over, ex1, madeA, Made.oce, File.ocl, File.frL]
end Go.Proofs.YtopofpihpnjmbaaGreatDoor.Am
