/- The functions of the program, each by its contract: Nums; no condition. -/
import Derived.Test.YtaknfalbmblagaaDoorProg
import Derived.Test.YtaknfalbmblagaaDoorAmZ
import Derived.Test.YtaknfalbmblagaaDoorAmP
import Derived.Test.YtaknfalbmblagaaDoorParse
import Derived.KernelRfl
namespace Go.Proofs.YtaknfalbmblagaaDoor.Am
open Go Go.Proofs
set_option linter.unusedSimpArgs false
set_option linter.unusedVariables false
attribute [local congr] T_congr callK_congr callWK_congr
attribute [local simp] run_nil run_op0 run_opg run_seq run_cond run_block run_ret run_skip run_skip_after run_skip_blk run_exit run_exit_after run_exit_blk run_loop run_any runS_nil runS_op0 runS_opg runW_nil runW_op0 runW_opg exec_q exec_w exec_c exec_n execW_q execW_w execW_c restW_app hideH_app merge_app wblk rest_app restS_app execS_q execS_c aval dOk upd_app ev_t ev_c setO_some setO_none put_mk pinsOf isIo hasIo sbin endR fin resL one outL out1 clo1 cloL coe coeL shut shut.shutL wantA weff cellsOf fillA deref natOf ρ0_app h0_app plain plain.plainL keep_app keepH_app andThen_normal andThen_ret andThen_exit pop_nil pop_after pop_after_ret pop_after_exit pop_blk pop_blk_ret pop_blk_exit nilA srcOf srcCells keepR_app keepHR_app renA rb
def figL : List UInt8 → Bool
  | [] => true
  | c :: l => figI (c.toNat : Int) && figL l
def digS (a : Nat) (c : UInt8) : Nat := a * 10 + (c.toNat - 48)
theorem digS_eq (a : Nat) (c : UInt8) : digS a c = a * 10 + (c.toNat - 48) := rfl
def digF (a : Nat) (l : List UInt8) : Nat := l.foldl digS a
theorem digF_nil (a : Nat) : digF a [] = a := rfl
theorem digF_cons (a : Nat) (c : UInt8) (l : List UInt8) : digF a (c :: l) = digF (a * 10 + (c.toNat - 48)) l := by unfold digF; rw [List.foldl_cons, digS_eq]
def parseN (s : ByteArray) (most : Int) : Option Nat :=
  if (1 ≤ s.size ∧ s.size ≤ 7) ∧ figL s.data.toList = true ∧ ¬ (2 ≤ s.size ∧ s.data.toList.head? = some 48) ∧ (digF 0 s.data.toList : Int) ≤ most then some (digF 0 s.data.toList) else none
def numA : Option Nat → AV
  | some n => .tup [.sc (.int .i64 n), .sc (.bool true)]
  | none => .tup [.sc (.int .i64 0), .sc (.bool false)]
theorem figL_app : ∀ a b : List UInt8, figL (a ++ b) = (figL a && figL b)
  | [], b => rfl
  | x :: a, b => by rw [List.cons_append, figL, figL, figL_app a b, Bool.and_assoc]
theorem digF_app (a b : List UInt8) (n : Nat) : digF n (a ++ b) = digF (digF n a) b := by unfold digF; rw [List.foldl_append]
theorem fig_rng {c : UInt8} (h : figI (c.toNat : Int) = true) : 48 ≤ c.toNat ∧ c.toNat ≤ 57 := by
  simp only [figI, Bool.and_eq_true, decide_eq_true_eq] at h
  omega
theorem digF_lt : ∀ (l : List UInt8) (a : Nat), figL l = true → digF a l < (a + 1) * 10 ^ l.length
  | [], a, _ => by rw [digF_nil]; simp
  | c :: l, a, h => by
    rw [figL, Bool.and_eq_true] at h
    have hc := fig_rng h.1
    have ih := digF_lt l (a * 10 + (c.toNat - 48)) h.2
    rw [digF_cons, List.length_cons, Nat.pow_succ]
    refine Nat.lt_of_lt_of_le ih ?_
    rw [Nat.mul_comm (10 ^ l.length) 10, ← Nat.mul_assoc]
    exact Nat.mul_le_mul_right _ (by omega)
theorem digF_ge : ∀ (l : List UInt8) (a : Nat), a ≤ digF a l
  | [], a => Nat.le_refl _
  | c :: l, a => by
    rw [digF_cons]
    exact Nat.le_trans (by omega) (digF_ge l _)
theorem dec_small {n : Nat} (h : n < 10) : Lib.decDigits n = [UInt8.ofNat (48 + n)] := by rw [Lib.decDigits, dif_pos h]
theorem dec_big {n : Nat} (h : 10 ≤ n) : Lib.decDigits n = Lib.decDigits (n / 10) ++ [UInt8.ofNat (48 + n % 10)] := by rw [Lib.decDigits, dif_neg (by omega)]
theorem u8_back {c : UInt8} (h : 48 ≤ c.toNat) : UInt8.ofNat (48 + (c.toNat - 48)) = c := by
  have e : 48 + (c.toNat - 48) = c.toNat := by omega
  rw [e, UInt8.ofNat_toNat]
theorem dec_of : ∀ (k : Nat) (l : List UInt8), l.length = k + 1 → figL l = true → ¬ (2 ≤ l.length ∧ l.head? = some 48) → Lib.decDigits (digF 0 l) = l
  | 0, l, hk, hf, _ => by
    match l, hk with
    | [c], _ =>
      have hc := fig_rng (by simpa [figL] using hf : figI (c.toNat : Int) = true)
      rw [show digF 0 [c] = c.toNat - 48 by rw [digF_cons, digF_nil]; omega, dec_small (by omega), u8_back hc.1]
  | k + 1, l, hk, hf, hh => by
    obtain ⟨p, c, rfl⟩ : ∃ p c, l = p ++ [c] := ⟨l.dropLast, l.getLast (by intro h; rw [h] at hk; simp at hk), (List.dropLast_concat_getLast _).symm⟩
    rw [figL_app, Bool.and_eq_true] at hf
    have hc := fig_rng (by simpa [figL] using hf.2 : figI (c.toNat : Int) = true)
    have hpl : p.length = k + 1 := by simpa using hk
    obtain ⟨x, p2, rfl⟩ : ∃ x p2, p = x :: p2 := by
      cases p with
      | nil => simp at hpl
      | cons x p2 => exact ⟨x, p2, rfl⟩
    have hx : x ≠ 48 := fun e => hh ⟨by simp, by simp [e]⟩
    have ih := dec_of k (x :: p2) hpl hf.1 (fun h => hx (by simpa using h.2))
    have hxr := fig_rng (by have := hf.1; rw [figL, Bool.and_eq_true] at this; exact this.1 : figI (x.toNat : Int) = true)
    have hx2 : x.toNat ≠ 48 := fun e => hx (UInt8.toNat_inj.1 (by simpa using e))
    have hpos : 1 ≤ digF 0 (x :: p2) := by
      rw [digF_cons]
      exact Nat.le_trans (by omega) (digF_ge p2 _)
    have e : digF 0 (x :: p2 ++ [c]) = digF 0 (x :: p2) * 10 + (c.toNat - 48) := by rw [digF_app, digF_cons, digF_nil]
    rw [e, dec_big (by omega), show (digF 0 (x :: p2) * 10 + (c.toNat - 48)) / 10 = digF 0 (x :: p2) by omega, show (digF 0 (x :: p2) * 10 + (c.toNat - 48)) % 10 = c.toNat - 48 by omega, ih, u8_back hc.1]
theorem dec_head : ∀ (k n : Nat), n ≤ k → (Lib.decDigits n).head? = some 48 → n = 0
  | k, n, hk, h => by
    by_cases h9 : n < 10
    · rw [dec_small h9] at h
      simp only [List.head?_cons, Option.some.injEq] at h
      have := congrArg UInt8.toNat h
      rw [UInt8.toNat_ofNat'] at this
      have e : (48 : UInt8).toNat = 48 := rfl
      omega
    · rw [dec_big (by omega)] at h
      have hne : Lib.decDigits (n / 10) ≠ [] := by
        by_cases h9 : n / 10 < 10
        · rw [dec_small h9]; simp
        · rw [dec_big (by omega)]; simp
      cases hd : Lib.decDigits (n / 10) with
      | nil => exact absurd hd hne
      | cons x t =>
        rw [hd] at h
        have : n / 10 = 0 := by
          match k, hk with
          | 0, hk => omega
          | k + 1, hk => exact dec_head k (n / 10) (by omega) (by rw [hd]; simpa using h)
        omega
theorem ba_list {s : ByteArray} {l : List UInt8} (h : s.data.toList = l) : s = ⟨l.toArray⟩ := by
  subst h
  apply ByteArray.ext
  simp
theorem numT_list (n : Nat) : (numT n).data.toList = Lib.decDigits n := by
  rw [← numT_dec, Lib.itoa, if_neg (by omega)]
  simp
/-- the canonical text of a number -/
theorem num_canon {s : ByteArray} (h1 : 1 ≤ s.size) (hf : figL s.data.toList = true) : (numT (digF 0 s.data.toList)).toList = s.toList ↔ ¬ (2 ≤ s.size ∧ s.data.toList.head? = some 48) := by
  have hsz : s.size = s.data.toList.length := str_len rfl
  rw [Lib.toList_data, Lib.toList_data, numT_list]
  constructor
  · rintro h ⟨h2, h3⟩
    have h0 := dec_head (digF 0 s.data.toList) _ (Nat.le_refl _) (by rw [h]; exact h3)
    rw [h0] at h
    have : s.data.toList.length = 1 := by rw [← h, dec_small (by omega)]; rfl
    omega
  · intro h
    exact dec_of (s.size - 1) _ (by omega) hf (by rw [← hsz]; exact h)
theorem wrapC {c : UInt8} (h : figI (c.toNat : Int) = true) : IntKind.u8.wrap ((c.toNat : Int) - 48) = ((c.toNat - 48 : Nat) : Int) := by
  have := fig_rng h
  simp [IntKind.wrap, IntKind.bits, IntKind.signed]
  omega
/- 39: loop.example/g00464/impl.ParseNum -/
def A39 : AC := (.seq (.ops [⟨(some 4), none, .q (.mov (.c (.sc (.int .i64 0))))⟩, ⟨(some 5), none, .q (.mov (.c (.sc (.bool false))))⟩])
  (.seq (.seq (.ops [⟨(some 8), none, .q (.mov (.t 0))⟩, ⟨(some 9), none, .q (.slen (.t 8))⟩, ⟨(some 10), none, .c (.c (.clo 53 [])) [(.t 9), (.c (.sc (.int .i64 1))), (.c (.sc (.int .i64 7)))]⟩, ⟨(some 11), none, .q (.not (.t 10))⟩])
  (.cond (.t 11) (.seq (.ops [⟨(some 4), none, .q (.mov (.c (.sc (.int .i64 0))))⟩, ⟨(some 5), none, .q (.mov (.c (.sc (.bool false))))⟩])
  .ret)
  .skip))
  (.seq (.ops [⟨(some 6), none, .q (.mov (.c (.sc (.int .i64 0))))⟩])
  (.seq (.seq (.ops [⟨(some 7), none, .q (.mov (.c (.sc (.int .i64 0))))⟩])
  (.block 0 (.loop (.seq (.seq (.ops [⟨(some 12), none, .q (.mov (.t 7))⟩, ⟨(some 13), none, .q (.mov (.t 0))⟩, ⟨(some 14), none, .q (.slen (.t 13))⟩, ⟨(some 15), none, .q (.bin .lss (.t 12) (.t 14))⟩])
  (.cond (.t 15) .skip
  (.exit 0)))
  (.seq (.block 1 (.seq (.seq (.ops [⟨(some 18), none, .q (.mov (.t 0))⟩, ⟨(some 19), none, .q (.mov (.t 7))⟩, ⟨(some 20), none, .q (.idx (.t 18) (.t 19))⟩, ⟨(some 21), none, .c (.c (.clo 54 [])) [(.t 20)]⟩, ⟨(some 22), none, .q (.not (.t 21))⟩])
  (.cond (.t 22) (.seq (.ops [⟨(some 4), none, .q (.mov (.c (.sc (.int .i64 0))))⟩, ⟨(some 5), none, .q (.mov (.c (.sc (.bool false))))⟩])
  .ret)
  .skip))
  (.ops [⟨(some 23), none, .q (.mov (.t 6))⟩, ⟨(some 24), none, .q (.bin .mul (.t 23) (.c (.sc (.int .i64 10))))⟩, ⟨(some 25), none, .q (.mov (.t 0))⟩, ⟨(some 26), none, .q (.mov (.t 7))⟩, ⟨(some 27), none, .q (.idx (.t 25) (.t 26))⟩, ⟨(some 28), none, .q (.bin .sub (.t 27) (.c (.sc (.int .u8 48))))⟩, ⟨(some 29), none, .q (.cvi .i64 (.t 28))⟩, ⟨(some 30), none, .q (.bin .add (.t 24) (.t 29))⟩, ⟨(some 6), none, .q (.mov (.t 30))⟩])))
  (.ops [⟨(some 16), none, .q (.mov (.t 7))⟩, ⟨(some 17), none, .q (.bin .add (.t 16) (.c (.sc (.int .i64 1))))⟩, ⟨(some 7), none, .q (.mov (.t 17))⟩]))))))
  (.seq (.seq (.ops [⟨(some 31), none, .q (.mov (.t 6))⟩, ⟨(some 32), none, .c (.c (.clo 55 [])) [(.t 31)]⟩, ⟨(some 33), none, .q (.mov (.t 0))⟩, ⟨(some 34), none, .q (.bin .neq (.t 32) (.t 33))⟩, ⟨(some 35), none, .q (.mov (.t 34))⟩, ⟨(some 36), (some (35, false)), .q (.mov (.t 6))⟩, ⟨(some 37), (some (35, false)), .q (.mov (.t 1))⟩, ⟨(some 38), (some (35, false)), .q (.bin .gtr (.t 36) (.t 37))⟩, ⟨(some 39), none, .q (.pick (.t 35) (.c (.sc (.bool true))) (.t 38))⟩])
  (.cond (.t 39) (.seq (.ops [⟨(some 4), none, .q (.mov (.c (.sc (.int .i64 0))))⟩, ⟨(some 5), none, .q (.mov (.c (.sc (.bool false))))⟩])
  .ret)
  .skip))
  (.seq (.ops [⟨(some 40), none, .q (.mov (.t 6))⟩, ⟨(some 4), none, .q (.mov (.t 40))⟩, ⟨(some 5), none, .q (.mov (.c (.sc (.bool true))))⟩])
  .ret))))))
theorem K39 : Tryd.f39.body.bind (comp Tryd.prog) = some A39 ∧ Tryd.f39.ntmps = 41 ∧ Tryd.f39.results.toList.mapM (resB Tryd.prog) = some [.mov (.t 4), .mov (.t 5)] := ⟨by kernel_rfl, by kernel_rfl, by kernel_rfl⟩
set_option maxHeartbeats 1000000 in
theorem R39 (s : ByteArray) (most : Int) (hm : Ty.int.ok most) : Ret Tryd.prog 39 [.sc (.string s), .sc (.int .i64 most)] (numA (parseN s most)) [.un, .un] := by
  by_cases h7 : 1 ≤ s.size ∧ s.size ≤ 7
  case neg =>
    have e : inR s.size 1 7 = false := by
      have : inR s.size 1 7 = (decide ((1 : Int) ≤ s.size) && decide ((s.size : Int) ≤ 7)) := rfl
      rw [this]
      rcases Classical.em (1 ≤ s.size) with h | h
      · have : ¬ s.size ≤ 7 := fun h2 => h7 ⟨h, h2⟩
        have e1 : ¬ ((s.size : Int) ≤ 7) := by omega
        simp [e1]
      · have e1 : ¬ ((1 : Int) ≤ s.size) := by omega
        simp [e1]
    have en : parseN s most = none := if_neg fun h => h7 h.1
    refine Ret.run Tryd.func39 K39 (by simp) rfl rfl 500 ?_
    simp [A39, iniρ]
    refine callK.ro 0 rfl (by kernel_rfl) (by simp [roc_sc]) (R53 s.size 1 7) rfl rfl rfl ?_
    simp [e, en, numA]
  have e : inR s.size 1 7 = true := by
    have e1 : (1 : Int) ≤ s.size := by omega
    have e2 : (s.size : Int) ≤ 7 := by omega
    simp [inR, e1, e2]
  refine Ret.run Tryd.func39 K39 (by simp) rfl rfl 500 ?_
  simp [A39, iniρ]
  refine callK.ro 0 rfl (by kernel_rfl) (by simp [roc_sc]) (R53 s.size 1 7) rfl rfl rfl ?_
  simp [e]
  refine T.rounds (μ := fun i : List UInt8 × List UInt8 => i.2.length)
    (fun i t => i.1 ++ i.2 = s.data.toList ∧ figL i.1 = true ∧ t.ρ 0 = .sc (.string s) ∧ t.ρ 1 = .sc (.int .i64 most) ∧ t.ρ 6 = .sc (.int .i64 (digF 0 i.1)) ∧ t.ρ 7 = .sc (.int .i64 i.1.length) ∧ t.n = 41) ([], s.data.toList) (by simp [upd_app, figL, digF_nil]) ?_
  rintro ⟨pre, rest⟩ ⟨ρ, hh, n⟩ ⟨hx, hE, k0, k1, k6, k7, rfl⟩
  simp only at hx hE k0 k1 k6 k7
  have hsz := str_len hx
  have hv := digF_lt pre 0 hE
  have hpl : pre.length ≤ 7 := by have : s.size = pre.length + rest.length := by rw [hsz]; simp
                                  omega
  have hv2 : digF 0 pre < 10000000 := by
    refine Nat.lt_of_lt_of_le hv ?_
    rw [Nat.zero_add, Nat.one_mul]
    exact Nat.pow_le_pow_right (by omega) hpl
  refine run_ok (n := 400) ?_
  cases rest with
  | nil =>
    simp at hsz hx
    have hn := R55 (digF 0 pre) (by omega)
    have hpN : parseN s most = if ¬ (2 ≤ s.size ∧ s.data.toList.head? = some 48) ∧ (digF 0 pre : Int) ≤ most then some (digF 0 pre) else none := by
      unfold parseN
      rw [← hx]
      by_cases c : ¬ (2 ≤ s.size ∧ pre.head? = some 48) ∧ (digF 0 pre : Int) ≤ most
      · rw [if_pos c, if_pos ⟨h7, hE, c.1, c.2⟩]
      · rw [if_neg c, if_neg (fun h => c ⟨h.2.2.1, h.2.2.2⟩)]
    have hcan := num_canon (s := s) h7.1 (by rw [← hx]; exact hE)
    rw [← hx] at hcan hpN
    obtain ⟨v, hv3⟩ : ∃ v, v = digF 0 pre := ⟨_, rfl⟩
    rw [← hv3] at hn hpN hcan k6
    simp [k0, k7, hsz]
    refine T.on 400 ?_
    simp [k0, k1, k6]
    refine callK.ro 0 rfl (by kernel_rfl) (by simp [roc_sc]) hn rfl rfl rfl ?_
    by_cases c : ¬ (2 ≤ s.size ∧ pre.head? = some 48)
    case neg =>
      have c2 : ¬ ((numT v).toList = s.toList) := fun h => c (hcan.1 h)
      rw [hpN, if_neg (fun h => c h.1)]
      simp [k0, c2, numA]
    have c2 : (numT v).toList = s.toList := hcan.2 c
    by_cases d : (v : Int) ≤ most
    · have d2 : ¬ (most < v) := by omega
      rw [hpN, if_pos ⟨c, d⟩]
      simp [k0, k1, k6, c2, d2, numA]
    · have d2 : most < v := by omega
      rw [hpN, if_neg (fun h => d h.2)]
      simp [k0, k1, k6, c2, d2, numA]
  | cons c rest =>
    have hg := str_get hx
    simp at hsz
    have hlt : (pre.length : Int) < s.size := by omega
    have hw : IntKind.i64.wrap ((pre.length : Int) + 1) = pre.length + 1 := wrap_i64 (by omega) (by omega)
    simp [k0, k7, hlt, hg]
    refine callK.ro 0 rfl (by kernel_rfl) (by simp [roc_sc]) (R54 c) rfl rfl rfl ?_
    cases h1 : figI (c.toNat : Int)
    · have : parseN s most = none := by
        unfold parseN
        rw [if_neg fun h => ?_]
        have := h.2.1
        rw [← hx, figL_app, figL, h1] at this
        simp at this
      simp [this, numA]
    · have hc := fig_rng h1
      have wc := wrapC h1
      have w10 : IntKind.i64.wrap ((digF 0 pre : Int) * 10) = digF 0 pre * 10 := wrap_i64 (by omega) (by omega)
      have wd : IntKind.i64.wrap ((c.toNat - 48 : Nat) : Int) = (c.toNat - 48 : Nat) := wrap_i64 (by omega) (by omega)
      have wa : IntKind.i64.wrap ((digF 0 pre : Int) * 10 + (c.toNat - 48 : Nat)) = digF 0 pre * 10 + (c.toNat - 48 : Nat) := wrap_i64 (by omega) (by omega)
      have hdf : (digF 0 (pre ++ [c]) : Int) = digF 0 pre * 10 + (c.toNat - 48 : Nat) := by rw [digF_app, digF_cons, digF_nil]; omega
      simp [k0, k6, k7, hw, hg, hlt, wc, w10, wd, wa]
      refine ⟨pre ++ [c], rest, by simp, _, Le.refl _, ?_⟩
      simp [hx, k0, k1, upd_app, figL_app, figL, hE, h1, hdf]
/- 31: loop.example/g00464/spec.ParseNum -/
def A31 : AC := (.seq (.ops [⟨(some 4), none, .q (.mov (.c (.sc (.int .i64 0))))⟩, ⟨(some 5), none, .q (.mov (.c (.sc (.bool false))))⟩])
  (.seq (.ops [⟨(some 6), none, .q (.mov (.c (.sc (.int .i64 0))))⟩])
  (.seq (.seq (.ops [⟨(some 7), none, .q (.mov (.c (.sc (.int .i64 0))))⟩])
  (.block 0 (.loop (.seq (.seq (.ops [⟨(some 8), none, .q (.mov (.t 7))⟩, ⟨(some 9), none, .q (.mov (.t 0))⟩, ⟨(some 10), none, .q (.slen (.t 9))⟩, ⟨(some 11), none, .q (.bin .lss (.t 8) (.t 10))⟩, ⟨(some 12), none, .q (.mov (.t 11))⟩, ⟨(some 13), (some (12, true)), .q (.mov (.t 7))⟩, ⟨(some 14), (some (12, true)), .q (.bin .lss (.t 13) (.c (.sc (.int .i64 8))))⟩, ⟨(some 15), none, .q (.pick (.t 12) (.t 14) (.c (.sc (.bool false))))⟩])
  (.cond (.t 15) .skip
  (.exit 0)))
  (.seq (.block 1 (.seq (.seq (.ops [⟨(some 18), none, .q (.mov (.t 0))⟩, ⟨(some 19), none, .q (.mov (.t 7))⟩, ⟨(some 20), none, .q (.idx (.t 18) (.t 19))⟩, ⟨(some 21), none, .c (.c (.clo 46 [])) [(.t 20)]⟩, ⟨(some 22), none, .q (.not (.t 21))⟩])
  (.cond (.t 22) (.seq (.ops [⟨(some 4), none, .q (.mov (.c (.sc (.int .i64 0))))⟩, ⟨(some 5), none, .q (.mov (.c (.sc (.bool false))))⟩])
  .ret)
  .skip))
  (.ops [⟨(some 23), none, .q (.mov (.t 6))⟩, ⟨(some 24), none, .q (.bin .mul (.t 23) (.c (.sc (.int .i64 10))))⟩, ⟨(some 25), none, .q (.mov (.t 0))⟩, ⟨(some 26), none, .q (.mov (.t 7))⟩, ⟨(some 27), none, .q (.idx (.t 25) (.t 26))⟩, ⟨(some 28), none, .q (.bin .sub (.t 27) (.c (.sc (.int .u8 48))))⟩, ⟨(some 29), none, .q (.cvi .i64 (.t 28))⟩, ⟨(some 30), none, .q (.bin .add (.t 24) (.t 29))⟩, ⟨(some 6), none, .q (.mov (.t 30))⟩])))
  (.ops [⟨(some 16), none, .q (.mov (.t 7))⟩, ⟨(some 17), none, .q (.bin .add (.t 16) (.c (.sc (.int .i64 1))))⟩, ⟨(some 7), none, .q (.mov (.t 17))⟩]))))))
  (.seq (.seq (.ops [⟨(some 31), none, .q (.mov (.t 0))⟩, ⟨(some 32), none, .q (.slen (.t 31))⟩, ⟨(some 33), none, .c (.c (.clo 47 [])) [(.t 32), (.c (.sc (.int .i64 1))), (.c (.sc (.int .i64 7)))]⟩, ⟨(some 34), none, .q (.not (.t 33))⟩, ⟨(some 35), none, .q (.mov (.t 34))⟩, ⟨(some 36), (some (35, false)), .q (.mov (.t 0))⟩, ⟨(some 37), (some (35, false)), .q (.slen (.t 36))⟩, ⟨(some 38), (some (35, false)), .q (.bin .gtr (.t 37) (.c (.sc (.int .i64 1))))⟩, ⟨(some 39), (some (35, false)), .q (.mov (.t 38))⟩, ⟨(some 40), (some (39, true)), .q (.mov (.t 0))⟩, ⟨(some 41), (some (39, true)), .q (.idx (.t 40) (.c (.sc (.int .i64 0))))⟩, ⟨(some 42), (some (39, true)), .q (.bin .eql (.t 41) (.c (.sc (.int .u8 48))))⟩, ⟨(some 43), (some (35, false)), .q (.pick (.t 39) (.t 42) (.c (.sc (.bool false))))⟩, ⟨(some 44), none, .q (.pick (.t 35) (.c (.sc (.bool true))) (.t 43))⟩, ⟨(some 45), none, .q (.mov (.t 44))⟩, ⟨(some 46), (some (45, false)), .q (.mov (.t 6))⟩, ⟨(some 47), (some (45, false)), .q (.mov (.t 1))⟩, ⟨(some 48), (some (45, false)), .q (.bin .gtr (.t 46) (.t 47))⟩, ⟨(some 49), none, .q (.pick (.t 45) (.c (.sc (.bool true))) (.t 48))⟩])
  (.cond (.t 49) (.seq (.ops [⟨(some 4), none, .q (.mov (.c (.sc (.int .i64 0))))⟩, ⟨(some 5), none, .q (.mov (.c (.sc (.bool false))))⟩])
  .ret)
  .skip))
  (.seq (.ops [⟨(some 50), none, .q (.mov (.t 6))⟩, ⟨(some 4), none, .q (.mov (.t 50))⟩, ⟨(some 5), none, .q (.mov (.c (.sc (.bool true))))⟩])
  .ret)))))
theorem K31 : Tryd.f31.body.bind (comp Tryd.prog) = some A31 ∧ Tryd.f31.ntmps = 51 ∧ Tryd.f31.results.toList.mapM (resB Tryd.prog) = some [.mov (.t 4), .mov (.t 5)] := ⟨by kernel_rfl, by kernel_rfl, by kernel_rfl⟩
set_option maxHeartbeats 2000000 in
theorem R31 (s : ByteArray) (most : Int) (hm : Ty.int.ok most) (hs : s.size ≤ 140737488351232) : Ret Tryd.prog 31 [.sc (.string s), .sc (.int .i64 most)] (numA (parseN s most)) [.un, .un] := by
  refine Ret.run Tryd.func31 K31 (by simp) rfl rfl 500 ?_
  simp [A31, iniρ]
  refine T.rounds (μ := fun i : List UInt8 × List UInt8 => i.2.length)
    (fun i t => i.1 ++ i.2 = s.data.toList ∧ figL i.1 = true ∧ i.1.length ≤ 8 ∧ t.ρ 0 = .sc (.string s) ∧ t.ρ 1 = .sc (.int .i64 most) ∧ t.ρ 6 = .sc (.int .i64 (digF 0 i.1)) ∧ t.ρ 7 = .sc (.int .i64 i.1.length) ∧ t.n = 51) ([], s.data.toList) (by simp [upd_app, figL, digF_nil]) ?_
  rintro ⟨pre, rest⟩ ⟨ρ, hh, n⟩ ⟨hx, hE, hpl, k0, k1, k6, k7, rfl⟩
  simp only at hx hE hpl k0 k1 k6 k7
  have hsz := str_len hx
  have hv := digF_lt pre 0 hE
  have hv2 : digF 0 pre < 100000000 := by
    refine Nat.lt_of_lt_of_le hv ?_
    rw [Nat.zero_add, Nat.one_mul]
    exact Nat.pow_le_pow_right (by omega) hpl
  refine run_ok (n := 400) ?_
  by_cases h8 : pre.length < 8
  case neg =>
    have h8' : ¬ ((pre.length : Int) < 8) := by omega
    have h9 : 8 ≤ s.size := by rw [hsz]; simp; omega
    have e : inR s.size 1 7 = false := by
      have : inR s.size 1 7 = (decide ((1 : Int) ≤ s.size) && decide ((s.size : Int) ≤ 7)) := rfl
      have e1 : ¬ ((s.size : Int) ≤ 7) := by omega
      rw [this]; simp [e1]
    have en : parseN s most = none := if_neg fun h => by omega
    by_cases hlt : (pre.length : Int) < s.size
    · simp [k0, k7, hlt, h8']
      refine T.on 400 ?_
      simp [k0]
      refine callK.ro 0 rfl (by kernel_rfl) (by simp [roc_sc]) (R47 s.size 1 7) rfl rfl rfl ?_
      simp [e, en, numA]
    · simp [k0, k7, hlt]
      refine T.on 400 ?_
      simp [k0]
      refine callK.ro 0 rfl (by kernel_rfl) (by simp [roc_sc]) (R47 s.size 1 7) rfl rfl rfl ?_
      simp [e, en, numA]
  have h8' : (pre.length : Int) < 8 := by omega
  cases rest with
  | nil =>
    simp at hsz hx
    have hlt : ¬ ((pre.length : Int) < s.size) := by omega
    have hpN : parseN s most = if (1 ≤ s.size ∧ s.size ≤ 7) ∧ ¬ (2 ≤ s.size ∧ s.data.toList.head? = some 48) ∧ (digF 0 pre : Int) ≤ most then some (digF 0 pre) else none := by
      unfold parseN
      rw [← hx]
      by_cases c : (1 ≤ s.size ∧ s.size ≤ 7) ∧ ¬ (2 ≤ s.size ∧ pre.head? = some 48) ∧ (digF 0 pre : Int) ≤ most
      · rw [if_pos c, if_pos ⟨c.1, hE, c.2.1, c.2.2⟩]
      · rw [if_neg c, if_neg (fun h => c ⟨h.1, h.2.2.1, h.2.2.2⟩)]
    obtain ⟨v, hv3⟩ : ∃ v, v = digF 0 pre := ⟨_, rfl⟩
    rw [← hv3] at hpN k6
    have hin : inR s.size 1 7 = decide (1 ≤ s.size ∧ s.size ≤ 7) := by
      have : inR s.size 1 7 = (decide ((1 : Int) ≤ s.size) && decide ((s.size : Int) ≤ 7)) := rfl
      rw [this, ← Bool.decide_and]
      congr 1
      apply propext
      constructor <;> intro h <;> constructor <;> omega
    by_cases h7 : 1 ≤ s.size ∧ s.size ≤ 7
    case neg =>
      have en : parseN s most = none := by rw [hpN, if_neg fun h => h7 h.1]
      have e : inR s.size 1 7 = false := by rw [hin]; exact decide_eq_false h7
      simp [k0, k7, hlt]
      refine T.on 400 ?_
      simp [k0]
      refine callK.ro 0 rfl (by kernel_rfl) (by simp [roc_sc]) (R47 s.size 1 7) rfl rfl rfl ?_
      simp [e, en, numA]
    have e : inR s.size 1 7 = true := by rw [hin]; exact decide_eq_true h7
    obtain ⟨x, p2, hp⟩ : ∃ x p2, pre = x :: p2 := by
      cases pre with
      | nil => have e0 : s.size = 0 := hsz; omega
      | cons x p2 => exact ⟨x, p2, rfl⟩
    have hg0 : s[0]? = some x := str_get (pre := []) (rest := p2) (by rw [List.nil_append, ← hp, hx])
    have hpos : (0 : Int) < s.size := by omega
    have x48 : ((x.toNat : Int) = 48) ↔ x = 48 := ⟨fun h => UInt8.toNat_inj.1 (by have e : (48 : UInt8).toNat = 48 := rfl; omega), fun h => by rw [h]; rfl⟩
    have hhd : s.data.toList.head? = some x := by rw [← hx, hp]; rfl
    rw [hhd] at hpN
    by_cases g1 : 1 < s.size
    · have g1' : (1 : Int) < s.size := by omega
      by_cases g2 : x = 48
      · have g2' : (x.toNat : Int) = 48 := x48.2 g2
        have en : parseN s most = none := by rw [hpN, if_neg fun h => h.2.1 ⟨by omega, by rw [g2]⟩]
        simp [k0, k7, hlt]
        refine T.on 400 ?_
        simp [k0]
        refine callK.ro 0 rfl (by kernel_rfl) (by simp [roc_sc]) (R47 s.size 1 7) rfl rfl rfl ?_
        simp [k0, e, en, g1', g2', hg0, hpos, numA]
      · have g2' : ¬ ((x.toNat : Int) = 48) := fun h => g2 (x48.1 h)
        by_cases d : (v : Int) ≤ most
        · have d2 : ¬ (most < v) := by omega
          have en : parseN s most = some v := by rw [hpN, if_pos ⟨h7, fun h => g2 (by simpa using h.2), d⟩]
          simp [k0, k7, hlt]
          refine T.on 400 ?_
          simp [k0]
          refine callK.ro 0 rfl (by kernel_rfl) (by simp [roc_sc]) (R47 s.size 1 7) rfl rfl rfl ?_
          simp [k0, k1, k6, e, en, g1', g2', d2, hg0, hpos, numA]
        · have d2 : most < v := by omega
          have en : parseN s most = none := by rw [hpN, if_neg fun h => d h.2.2]
          simp [k0, k7, hlt]
          refine T.on 400 ?_
          simp [k0]
          refine callK.ro 0 rfl (by kernel_rfl) (by simp [roc_sc]) (R47 s.size 1 7) rfl rfl rfl ?_
          simp [k0, k1, k6, e, en, g1', g2', d2, hg0, hpos, numA]
    · have g1' : ¬ (1 : Int) < s.size := by omega
      by_cases d : (v : Int) ≤ most
      · have d2 : ¬ (most < v) := by omega
        have en : parseN s most = some v := by rw [hpN, if_pos ⟨h7, fun h => by omega, d⟩]
        simp [k0, k7, hlt]
        refine T.on 400 ?_
        simp [k0]
        refine callK.ro 0 rfl (by kernel_rfl) (by simp [roc_sc]) (R47 s.size 1 7) rfl rfl rfl ?_
        simp [k0, k1, k6, e, en, g1', d2, numA]
      · have d2 : most < v := by omega
        have en : parseN s most = none := by rw [hpN, if_neg fun h => d h.2.2]
        simp [k0, k7, hlt]
        refine T.on 400 ?_
        simp [k0]
        refine callK.ro 0 rfl (by kernel_rfl) (by simp [roc_sc]) (R47 s.size 1 7) rfl rfl rfl ?_
        simp [k0, k1, k6, e, en, g1', d2, numA]
  | cons c rest =>
    have hg := str_get hx
    simp at hsz
    have hlt : (pre.length : Int) < s.size := by omega
    have hw : IntKind.i64.wrap ((pre.length : Int) + 1) = pre.length + 1 := wrap_i64 (by omega) (by omega)
    simp [k0, k7, hlt, h8', hg]
    refine callK.ro 0 rfl (by kernel_rfl) (by simp [roc_sc]) (R46 c) rfl rfl rfl ?_
    cases h1 : figI (c.toNat : Int)
    · have : parseN s most = none := by
        unfold parseN
        rw [if_neg fun h => ?_]
        have := h.2.1
        rw [← hx, figL_app, figL, h1] at this
        simp at this
      simp [this, numA]
    · have hc := fig_rng h1
      have wc := wrapC h1
      have w10 : IntKind.i64.wrap ((digF 0 pre : Int) * 10) = digF 0 pre * 10 := wrap_i64 (by omega) (by omega)
      have wd : IntKind.i64.wrap ((c.toNat - 48 : Nat) : Int) = (c.toNat - 48 : Nat) := wrap_i64 (by omega) (by omega)
      have wa : IntKind.i64.wrap ((digF 0 pre : Int) * 10 + (c.toNat - 48 : Nat)) = digF 0 pre * 10 + (c.toNat - 48 : Nat) := wrap_i64 (by omega) (by omega)
      have hdf : (digF 0 (pre ++ [c]) : Int) = digF 0 pre * 10 + (c.toNat - 48 : Nat) := by rw [digF_app, digF_cons, digF_nil]; omega
      simp [k0, k6, k7, hw, hg, hlt, wc, w10, wd, wa]
      refine ⟨pre ++ [c], rest, by simp, _, Le.refl _, ?_⟩
      simp [hx, k0, k1, upd_app, figL_app, figL, hE, h1, hdf]
      omega
end Go.Proofs.YtaknfalbmblagaaDoor.Am
