/- The small machine and the contracts of the functions, part 1 (Base, Types, Plumb, Job, Sames, Words, Paths, Files, Cut, Tasks, Run, Ready); no condition. -/
import Derived.Test.YtopofpihpnjmbaaGreatDoorProg
import Derived.Test.YtopofpihpnjmbaaGreatDoorAmZ
import Derived.Test.YtopofpihpnjmbaaGreatDoorAmP
import Derived.KernelRfl
import Derived.Test.YtopofpihpnjmbaaGreatDoorAmL
import Derived.Test.YtopofpihpnjmbaaGreatDoorAmF
namespace Go.Proofs.YtopofpihpnjmbaaGreatDoor.Am
open Go Go.Proofs
abbrev qO (d : Nat) (o : QOp) : AOp := ⟨some d, none, .q o⟩
abbrev wO (d : Nat) (o : WOp) : AOp := ⟨some d, none, .w o⟩
abbrev nO (o : WOp) : AOp := ⟨none, none, .w o⟩
abbrev cO (d f : Nat) (xs : List AX) : AOp := ⟨some d, none, .c (.c (.clo f [])) xs⟩
abbrev qG (d g : Nat) (b : Bool) (o : QOp) : AOp := ⟨some d, some (g, b), .q o⟩
abbrev cG (d g : Nat) (b : Bool) (f : Nat) (xs : List AX) : AOp := ⟨some d, some (g, b), .c (.c (.clo f [])) xs⟩
abbrev iC (n : Int) : AX := .c (.sc (.int .i64 n))
abbrev Kf (P : Program) (fn : Func) (c : AC) (n : Nat) (rs : List QOp) : Prop := fn.body.bind (comp P) = some c ∧ fn.ntmps = n ∧ fn.results.toList.mapM (resB P) = some rs
set_option linter.unusedSimpArgs false
set_option linter.unusedVariables false
attribute [local congr] ZL yp Zm
attribute [local simp] YI yI ZI YH ZA Zv zI yz Yh zl zA Zi Zl Yz zJ zB YA yA yG ZG zG YX yX ZY zY ZS zS yS yB Za yc wblk ZB Yv yK YK aval dOk za ev_t ev_c Zt zv yT Yy isIo hasIo sbin endR fin resL one outL out1 clo1 cloL coe coeL shut shut.shutL wantA weff cellsOf fillA deref natOf ρ0_app ZX plain plain.plainL ye Ze zj Yp Ym ZJ zw zk yi yJ Zp Yl nilA srcOf Yn Zq Yo renA rb
def A163 : AC := (.seq (.ops [qO 4 (.mov (iC 0))])
  (.seq (.ops [qO 5 (.mov (.t 1)), qO 6 (.mov (.t 0)), qO 7 (.llen (.t 6)), qO 8 (.bin .sub (.t 5) (.t 7)), qO 1 (.mov (.t 8))])
  (.seq (.seq (.ops [qO 9 (.mov (.t 1)), qO 10 (.bin .lss (.t 9) (iC 0))])
  (.cond (.t 10) (.seq (.ops [qO 4 (.mov (iC (-1)))])
  .ret)
  .skip))
  (.seq (.ops [qO 11 (.mov (.t 1)), qO 4 (.mov (.t 11))])
  .ret))))
theorem K163 : Kf Tryz.prog Tryz.f163 A163 12 [.mov (.t 4)] := ⟨by kernel_rfl, by kernel_rfl, by kernel_rfl⟩
theorem R163 (xs : List Int) (hx : Ty.byte.slice.ok xs) : Sz Tryz.prog 163 (.ro (rows Ty.byte.cs xs) xs.length) (Ty.byte.slice.wt xs) := by
  intro l h0 h1
  have hb := Ty.byte.lenb (by decide) hx
  have hw : IntKind.i64.wrap (l - xs.length) = l - xs.length := Ya (by omega) (by omega)
  have hz : wtL Ty.byte.wt xs = 0 := ze2 (fun _ => rfl) xs
  by_cases hn : l - (xs.length : Int) < 0
  · refine ⟨-1, .inl (by decide), ?_⟩
    refine Ret.run Tryz.func163 K163 (by simp) rfl rfl 500 ?_
    simp [A163, iniρ, hw, hn]; try omega
  · refine ⟨l - xs.length, .inr ?_, ?_⟩
    · show _ = l - ((xs.length + wtL Ty.byte.wt xs : Nat) : Int); rw [hz]; omega
    refine Ret.run Tryz.func163 K163 (by simp) rfl rfl 500 ?_
    simp [A163, iniρ, hw, hn]; try omega
def A167 : AC := (.seq (.ops [qO 2 (.mov (.c .em))])
  (.seq (.ops [qO 5 (.mov (.t 0)), qO 6 (.llen (.t 5)), wO 7 (.mk 1 1 [(.sc (.int .u8 0))] (.t 6) (.t 6)), qO 3 (.mov (.t 7))])
  (.seq (.seq (.ops [qO 4 (.mov (iC 0))])
  (.block 0 (.loop (.seq (.seq (.ops [qO 8 (.mov (.t 4)), qO 9 (.mov (.t 0)), qO 10 (.llen (.t 9)), qO 11 (.bin .lss (.t 8) (.t 10))])
  (.cond (.t 11) .skip
  (.exit 0)))
  (.seq (.block 1 (.ops [qO 14 (.mov (.t 3)), qO 15 (.mov (.t 4)), qO 16 (.mov (.t 0)), qO 17 (.mov (.t 4)), qO 18 (.iadr 1 (.t 16) (.t 17)), qO 19 (.load false 1 (.t 18)), qO 20 (.iadr 1 (.t 14) (.t 15)), nO (.store 1 (.t 20) (.t 19))]))
  (.ops [qO 12 (.mov (.t 4)), qO 13 (.bin .add (.t 12) (iC 1)), qO 4 (.mov (.t 13))]))))))
  (.seq (.ops [qO 21 (.mov (.t 3)), qO 2 (.mov (.t 21))])
  .ret))))
theorem K167 : Kf Tryz.prog Tryz.f167 A167 22 [.mov (.t 2)] := ⟨by kernel_rfl, by kernel_rfl, by kernel_rfl⟩
theorem R167 (xs : List Int) (hx : Ty.byte.slice.ok xs) : Ret Tryz.prog 167 [.ro (rows Ty.byte.cs xs) xs.length] (.own (rows Ty.byte.oc xs) xs.length 1) [.un] := by
  have hb : xs.length * 1 ≤ 140737488351232 := hx.1
  show Ret Tryz.prog 167 [.ro (rows B xs) xs.length] (.own (rows B xs) xs.length 1) [.un]
  refine Ret.run Tryz.func167 K167 (by simp) rfl rfl 500 ?_
  have h1 : (xs.length : Int) ≤ 281474976710656 := by omega
  have h2 : (xs.length : Int) ≤ 9223372036854775807 := by omega
  simp [A167, iniρ, h1, h2]
  refine T.rounds (μ := fun i : List Int × List Int => i.2.length)
    (fun i s => i.1 ++ i.2 = xs ∧ s.ρ 0 = .ro (rows B xs) xs.length ∧ s.ρ 3 = .sl 7 0 xs.length 1 false ∧ s.ρ 4 = .sc (.int .i64 i.1.length) ∧ s.h 7 = some (some (rows B i.1 ++ rows Bz i.2)) ∧ s.n = 22) ([], xs) (by simp [za, zf, B.rep]) ?_
  rintro ⟨pre, rest⟩ ⟨ρ, hh, n⟩ ⟨hx, h0', h3', h4', h7', rfl⟩
  simp only at hx h0' h3' h4' h7'
  refine Zf (n := 400) ?_
  cases rest with
  | nil =>
    simp at hx
    subst hx
    simp [h0', h3', h4']
    refine T.on 400 ?_
    simp [h3', h7', ex1, zf, B.count, Zd B.fr]
  | cons x rest =>
    have hlt : (pre.length : Int) < xs.length := by rw [← hx]; simp only [List.length_append, List.length_cons]; omega
    have hd := Yd B.len pre (x :: rest)
    rw [hx, Zc, Nat.mul_one] at hd
    have hw : IntKind.i64.wrap ((pre.length : Int) + 1) = pre.length + 1 := Ya (by omega) (by omega)
    have hov : over _ _ [AV.sc (.int .u8 x)] = _ := zd6 B.len Bz.len pre rest x
    rw [Nat.mul_one] at hov
    have hle : pre.length + 1 ≤ (rows B pre).length + (rows Bz (x :: rest)).length := by rw [zb B.len, zb Bz.len, List.length_cons]; omega
    simp [h0', h3', h4', h7', hlt, hd, B, hw, hle, hov]
    refine ⟨pre ++ [x], rest, by simp, _, Le.refl _, ?_⟩
    simp [hx, h0', h3', za]
def A171 : AC := (.seq (.ops [qO 4 (.mov (.c (.sc (.bool false))))])
  (.seq (.seq (.ops [qO 6 (.mov (.t 0)), qO 7 (.llen (.t 6)), qO 8 (.mov (.t 1)), qO 9 (.llen (.t 8)), qO 10 (.bin .neq (.t 7) (.t 9))])
  (.cond (.t 10) (.seq (.ops [qO 4 (.mov (.c (.sc (.bool false))))])
  .ret)
  .skip))
  (.seq (.seq (.ops [qO 5 (.mov (iC 0))])
  (.block 0 (.loop (.seq (.seq (.ops [qO 11 (.mov (.t 5)), qO 12 (.mov (.t 0)), qO 13 (.llen (.t 12)), qO 14 (.bin .lss (.t 11) (.t 13))])
  (.cond (.t 14) .skip
  (.exit 0)))
  (.seq (.block 1 (.seq (.any [(qO 17 (.mov (.t 0)), []), (qO 18 (.mov (.t 5)), []), (qO 19 (.iadr 1 (.t 17) (.t 18)), [0, 1]), (qO 20 (.load false 1 (.t 19)), [2]), (qO 21 (.mov (.t 1)), []), (qO 22 (.mov (.t 5)), []), (qO 23 (.iadr 1 (.t 21) (.t 22)), [4, 5]), (qO 24 (.load false 1 (.t 23)), [6]), (qO 25 (.bin .neq (.t 20) (.t 24)), [3, 7])])
  (.cond (.t 25) (.seq (.ops [qO 4 (.mov (.c (.sc (.bool false))))])
  .ret)
  .skip)))
  (.ops [qO 15 (.mov (.t 5)), qO 16 (.bin .add (.t 15) (iC 1)), qO 5 (.mov (.t 16))]))))))
  (.seq (.ops [qO 4 (.mov (.c (.sc (.bool true))))])
  .ret))))
theorem K171 : Kf Tryz.prog Tryz.f171 A171 26 [.mov (.t 4)] := ⟨by kernel_rfl, by kernel_rfl, by kernel_rfl⟩
theorem R171 (xs : List Int) (hx : Ty.byte.slice.ok xs) : Ret Tryz.prog 171 [.ro (rows Ty.byte.cs xs) xs.length, .ro (rows Ty.byte.cs xs) xs.length] (.sc (.bool true)) [.un, .un] := by
  have hb := Ty.byte.lenb (by decide) hx
  show Ret Tryz.prog 171 [.ro (rows B xs) xs.length, .ro (rows B xs) xs.length] (.sc (.bool true)) [.un, .un]
  refine Ret.run Tryz.func171 K171 (by simp) rfl rfl 500 ?_
  simp [A171, iniρ]
  refine T.rounds (μ := fun i : List Int × List Int => i.2.length)
    (fun i s => i.1 ++ i.2 = xs ∧ s.ρ 0 = .ro (rows B xs) xs.length ∧ s.ρ 1 = .ro (rows B xs) xs.length ∧ s.ρ 5 = .sc (.int .i64 i.1.length) ∧ s.h = h0 ∧ s.n = 26) ([], xs) (by simp [za]) ?_
  rintro ⟨pre, rest⟩ ⟨ρ, hh, n⟩ ⟨hx, h0', h1', h5', rfl, rfl⟩
  simp only at hx h0' h1' h5'
  refine Zf (n := 400) ?_
  cases rest with
  | nil =>
    simp at hx
    subst hx
    simp [h0', h5']
    refine T.on 400 ?_
    simp
  | cons x rest =>
    have hlt : (pre.length : Int) < xs.length := by rw [← hx]; simp only [List.length_append, List.length_cons]; omega
    have hd := Yd B.len pre (x :: rest)
    rw [hx, Zc, Nat.mul_one] at hd
    have hw : IntKind.i64.wrap ((pre.length : Int) + 1) = pre.length + 1 := Ya (by omega) (by omega)
    simp [h0', h1', h5', hlt]
    refine T.text 400 mixed (by kernel_rfl) (by kernel_rfl) ?_
    simp [h0', h1', h5', hlt, hd, B, hw]
    refine ⟨pre ++ [x], rest, by simp, _, Le.refl _, ?_⟩
    simp [hx, h0', h1', za]
def A80 : AC := (.seq (.ops [qO 4 (.mov (iC 0))])
  (.seq (.ops [qO 6 (.mov (.t 1)), qO 7 (.mov (.t 0)), qO 8 (.llen (.t 7)), qO 9 (.bin .sub (.t 6) (.t 8)), qO 1 (.mov (.t 9))])
  (.seq (.seq (.ops [qO 10 (.mov (.t 1)), qO 11 (.bin .lss (.t 10) (iC 0))])
  (.cond (.t 11) (.seq (.ops [qO 4 (.mov (iC (-1)))])
  .ret)
  .skip))
  (.seq (.seq (.ops [qO 5 (.mov (iC 0))])
  (.block 0 (.loop (.seq (.seq (.ops [qO 12 (.mov (.t 5)), qO 13 (.mov (.t 0)), qO 14 (.llen (.t 13)), qO 15 (.bin .lss (.t 12) (.t 14))])
  (.cond (.t 15) .skip
  (.exit 0)))
  (.seq (.block 1 (.seq (.ops [qO 18 (.mov (.t 1)), qO 19 (.mov (.t 0)), qO 20 (.mov (.t 5)), qO 21 (.iadr 1 (.t 19) (.t 20)), qO 22 (.load false 1 (.t 21)), qO 23 (.slen (.t 22)), qO 24 (.bin .sub (.t 18) (.t 23)), qO 1 (.mov (.t 24))])
  (.seq (.ops [qO 25 (.mov (.t 1)), qO 26 (.bin .lss (.t 25) (iC 0))])
  (.cond (.t 26) (.seq (.ops [qO 4 (.mov (iC (-1)))])
  .ret)
  .skip))))
  (.ops [qO 16 (.mov (.t 5)), qO 17 (.bin .add (.t 16) (iC 1)), qO 5 (.mov (.t 17))]))))))
  (.seq (.ops [qO 27 (.mov (.t 1)), qO 4 (.mov (.t 27))])
  .ret)))))
theorem K80 : Kf Tryz.prog Tryz.f80 A80 28 [.mov (.t 4)] := ⟨by kernel_rfl, by kernel_rfl, by kernel_rfl⟩
theorem R80 (xs : List ByteArray) (hx : Ty.str.slice.ok xs) : Sz Tryz.prog 80 (.ro (rows Ty.str.cs xs) xs.length) (Ty.str.slice.wt xs) := by
  intro left hl0 hl1
  have hb := Ty.str.lenb (by decide) hx
  have hs : ∀ x ∈ xs, x.size ≤ 140737488351232 := hx.2
  have hwl : IntKind.i64.wrap (left - xs.length) = left - xs.length := Ya (by omega) (by omega)
  let f : ByteArray → Int → Int := fun x l => l - x.size
  refine ⟨if left - xs.length < 0 then -1 else szL f xs (left - xs.length), ?_, ?_⟩
  · split
    · left; omega
    · rcases zby (f := f) (wt := Ty.str.wt) xs (fun x hx l h0 h1 => .inr rfl) (left - xs.length) (by omega) (by omega) with h | h
      · exact .inl h
      · right; rw [h]; show _ = left - ((xs.length + wtL Ty.str.wt xs : Nat) : Int); omega
  refine Ret.run Tryz.func80 K80 (by simp) rfl rfl 500 ?_
  by_cases hneg : left - (xs.length : Int) < 0
  · have hneg' : left < (xs.length : Int) := by omega
    simp [A80, iniρ, hwl, hneg, hneg']; try omega
  have hneg' : ¬ left < (xs.length : Int) := by omega
  simp [A80, iniρ, hwl, hneg, hneg']
  have hl0' : 0 ≤ left - (xs.length : Int) := by omega
  have hl1' : left - (xs.length : Int) ≤ 1048576 := by omega
  generalize hlg : left - (xs.length : Int) = l0 at *
  clear hlg hwl hneg
  refine T.rounds (μ := fun i : List ByteArray × List ByteArray × Int => i.2.1.length)
    (fun i s => i.1 ++ i.2.1 = xs ∧ 0 ≤ i.2.2 ∧ i.2.2 ≤ 1048576 ∧ szL f i.2.1 i.2.2 = szL f xs l0 ∧ s.ρ 0 = .ro (rows Ty.str.cs xs) xs.length ∧ s.ρ 1 = .sc (.int .i64 i.2.2) ∧ s.ρ 5 = .sc (.int .i64 i.1.length) ∧ s.h = h0 ∧ s.n = 28) ([], xs, l0) (by simp [za, hl0', hl1']) ?_
  rintro ⟨pre, rest, l⟩ ⟨ρ, hh, n⟩ ⟨hx, hp0, hp1, hL, h0', h1', h5', rfl, rfl⟩
  simp only at hx hp0 hp1 hL h0' h1' h5'
  refine Zf (n := 400) ?_
  cases rest with
  | nil =>
    simp at hx
    subst hx
    simp [h0', h1', h5']
    refine T.on 400 ?_
    simp [h1', ← hL, szL]
  | cons x rest =>
    have hlt : (pre.length : Int) < xs.length := by rw [← hx]; simp only [List.length_append, List.length_cons]; omega
    have hd := Yd Ty.str.csn pre (x :: rest)
    rw [hx, Zc] at hd
    have hd : List.drop pre.length (rows Ty.str.cs xs) = AV.sc (.string x) :: rows Ty.str.cs rest := by rw [← Nat.mul_one pre.length]; exact hd
    have hw : IntKind.i64.wrap ((pre.length : Int) + 1) = pre.length + 1 := Ya (by omega) (by omega)
    have hxm : x.size ≤ 140737488351232 := hs x (by rw [← hx]; simp)
    have hw2 : IntKind.i64.wrap (l - x.size) = l - x.size := Ya (by omega) (by omega)
    by_cases hz : l - (x.size : Int) < 0
    · have hz' : l < (x.size : Int) := by omega
      simp [h0', h1', h5', hlt, hd, hw, hw2, hz, hz', ← hL, szL, f]
      try omega
    · have hz' : ¬ l < (x.size : Int) := by omega
      simp [h0', h1', h5', hlt, hd, hw, hw2, hz, hz']
      have b1 : (x.size : Int) ≤ l := by omega
      have b2 : l - (x.size : Int) ≤ 1048576 := by omega
      refine ⟨pre ++ [x], rest, by simp, l - x.size, _, Le.refl _, ?_⟩
      simp [hx, h0', ← hL, szL, f, hz, hz', b1, b2, za]
def A85 : AC := (.seq (.ops [qO 2 (.mov (.c .em))])
  (.seq (.ops [qO 5 (.mov (.t 0)), qO 6 (.llen (.t 5)), wO 7 (.mk 1 16 [(.sc (.string ⟨#[]⟩))] (.t 6) (.t 6)), qO 3 (.mov (.t 7))])
  (.seq (.seq (.ops [qO 4 (.mov (iC 0))])
  (.block 0 (.loop (.seq (.seq (.ops [qO 8 (.mov (.t 4)), qO 9 (.mov (.t 0)), qO 10 (.llen (.t 9)), qO 11 (.bin .lss (.t 8) (.t 10))])
  (.cond (.t 11) .skip
  (.exit 0)))
  (.seq (.block 1 (.ops [qO 14 (.mov (.t 3)), qO 15 (.mov (.t 4)), qO 16 (.mov (.t 0)), qO 17 (.mov (.t 4)), qO 18 (.iadr 1 (.t 16) (.t 17)), qO 19 (.load false 1 (.t 18)), qO 20 (.iadr 1 (.t 14) (.t 15)), nO (.store 1 (.t 20) (.t 19))]))
  (.ops [qO 12 (.mov (.t 4)), qO 13 (.bin .add (.t 12) (iC 1)), qO 4 (.mov (.t 13))]))))))
  (.seq (.ops [qO 21 (.mov (.t 3)), qO 2 (.mov (.t 21))])
  .ret))))
theorem K85 : Kf Tryz.prog Tryz.f85 A85 22 [.mov (.t 2)] := ⟨by kernel_rfl, by kernel_rfl, by kernel_rfl⟩
theorem R85 (xs : List ByteArray) (hx : Ty.str.slice.ok xs) : Ret Tryz.prog 85 [.ro (rows Ty.str.cs xs) xs.length] (.own (rows Ty.str.oc xs) xs.length 1) [.un] := by
  have hb : xs.length * 16 ≤ 140737488351232 := hx.1
  show Ret Tryz.prog 85 [.ro (rows Ty.str.cs xs) xs.length] (.own (rows Ty.str.cs xs) xs.length 1) [.un]
  refine Ret.run Tryz.func85 K85 (by simp) rfl rfl 500 ?_
  have h1 : (xs.length : Int) * 16 ≤ 281474976710656 := by omega
  have h2 : (xs.length : Int) ≤ 9223372036854775807 := by omega
  simp [A85, iniρ, h1, h2]
  refine T.rounds (μ := fun i : List ByteArray × List ByteArray => i.2.length)
    (fun i s => i.1 ++ i.2 = xs ∧ s.ρ 0 = .ro (rows Ty.str.cs xs) xs.length ∧ s.ρ 3 = .sl 7 0 xs.length 1 false ∧ s.ρ 4 = .sc (.int .i64 i.1.length) ∧ s.h 7 = some (some (rows Ty.str.cs i.1 ++ rows (fun _ : ByteArray => [AV.sc (.string ⟨#[]⟩)]) i.2)) ∧ s.n = 22) ([], xs) (by
      have := zbl [AV.sc (.string ⟨#[]⟩)] xs
      have e : ∀ k, (List.replicate k [AV.sc (.string ⟨#[]⟩)]).flatten = List.replicate k (AV.sc (.string ⟨#[]⟩)) := fun k => by induction k with
        | zero => rfl
        | succ k ih => rw [List.replicate_succ, List.flatten_cons, ih]; rfl
      rw [e] at this
      simp [za, zf, this]) ?_
  rintro ⟨pre, rest⟩ ⟨ρ, hh, n⟩ ⟨hx, h0', h3', h4', h7', rfl⟩
  simp only at hx h0' h3' h4' h7'
  refine Zf (n := 400) ?_
  cases rest with
  | nil =>
    simp at hx
    subst hx
    have := Ty.str.frL pre
    simp [h0', h3', h4']
    refine T.on 400 ?_
    simp [h3', h7', ex1, zf, zd2, show Yb.idfreeL (rows Ty.str.cs pre) = true from this]
  | cons x rest =>
    have hlt : (pre.length : Int) < xs.length := by rw [← hx]; simp only [List.length_append, List.length_cons]; omega
    have hd := Yd Ty.str.csn pre (x :: rest)
    rw [hx, Zc] at hd
    have hd : List.drop pre.length (rows Ty.str.cs xs) = AV.sc (.string x) :: rows Ty.str.cs rest := by rw [← Nat.mul_one pre.length]; exact hd
    have hw : IntKind.i64.wrap ((pre.length : Int) + 1) = pre.length + 1 := Ya (by omega) (by omega)
    have hov := ZN (f := Ty.str.cs) (z := fun _ => [AV.sc (.string ⟨#[]⟩)]) Ty.str.csn (fun _ => rfl) pre rest x [AV.sc (.string x)] rfl
    rw [show pre.length * Ty.str.n = pre.length from Nat.mul_one _] at hov
    have hle : pre.length + 1 ≤ (rows Ty.str.cs pre).length + (rows (fun _ : ByteArray => [AV.sc (.string ⟨#[]⟩)]) (x :: rest)).length := by rw [zd2, zb (n := 1) (fun _ => rfl), List.length_cons]; omega
    simp [h0', h3', h4', h7', hlt, hd, hw, hle, hov]
    refine ⟨pre ++ [x], rest, by simp, _, Le.refl _, ?_⟩
    simp [hx, h0', h3', za, ze, Zc, zf]
    rfl
def A91 : AC := (.seq (.ops [qO 4 (.mov (.c (.sc (.bool false))))])
  (.seq (.seq (.ops [qO 6 (.mov (.t 0)), qO 7 (.llen (.t 6)), qO 8 (.mov (.t 1)), qO 9 (.llen (.t 8)), qO 10 (.bin .neq (.t 7) (.t 9))])
  (.cond (.t 10) (.seq (.ops [qO 4 (.mov (.c (.sc (.bool false))))])
  .ret)
  .skip))
  (.seq (.seq (.ops [qO 5 (.mov (iC 0))])
  (.block 0 (.loop (.seq (.seq (.ops [qO 11 (.mov (.t 5)), qO 12 (.mov (.t 0)), qO 13 (.llen (.t 12)), qO 14 (.bin .lss (.t 11) (.t 13))])
  (.cond (.t 14) .skip
  (.exit 0)))
  (.seq (.block 1 (.seq (.any [(qO 17 (.mov (.t 0)), []), (qO 18 (.mov (.t 5)), []), (qO 19 (.iadr 1 (.t 17) (.t 18)), [0, 1]), (qO 20 (.load false 1 (.t 19)), [2]), (qO 21 (.mov (.t 1)), []), (qO 22 (.mov (.t 5)), []), (qO 23 (.iadr 1 (.t 21) (.t 22)), [4, 5]), (qO 24 (.load false 1 (.t 23)), [6]), (qO 25 (.bin .neq (.t 20) (.t 24)), [3, 7])])
  (.cond (.t 25) (.seq (.ops [qO 4 (.mov (.c (.sc (.bool false))))])
  .ret)
  .skip)))
  (.ops [qO 15 (.mov (.t 5)), qO 16 (.bin .add (.t 15) (iC 1)), qO 5 (.mov (.t 16))]))))))
  (.seq (.ops [qO 4 (.mov (.c (.sc (.bool true))))])
  .ret))))
theorem K91 : Kf Tryz.prog Tryz.f91 A91 26 [.mov (.t 4)] := ⟨by kernel_rfl, by kernel_rfl, by kernel_rfl⟩
theorem R91 (xs : List ByteArray) (hx : Ty.str.slice.ok xs) : Ret Tryz.prog 91 [.ro (rows Ty.str.cs xs) xs.length, .ro (rows Ty.str.cs xs) xs.length] (.sc (.bool true)) [.un, .un] := by
  have hb := Ty.str.lenb (by decide) hx
  refine Ret.run Tryz.func91 K91 (by simp) rfl rfl 500 ?_
  simp [A91, iniρ]
  refine T.rounds (μ := fun i : List ByteArray × List ByteArray => i.2.length)
    (fun i s => i.1 ++ i.2 = xs ∧ s.ρ 0 = .ro (rows Ty.str.cs xs) xs.length ∧ s.ρ 1 = .ro (rows Ty.str.cs xs) xs.length ∧ s.ρ 5 = .sc (.int .i64 i.1.length) ∧ s.h = h0 ∧ s.n = 26) ([], xs) (by simp [za]) ?_
  rintro ⟨pre, rest⟩ ⟨ρ, hh, n⟩ ⟨hx, h0', h1', h5', rfl, rfl⟩
  simp only at hx h0' h1' h5'
  refine Zf (n := 400) ?_
  cases rest with
  | nil =>
    simp at hx
    subst hx
    simp [h0', h5']
    refine T.on 400 ?_
    simp
  | cons x rest =>
    have hlt : (pre.length : Int) < xs.length := by rw [← hx]; simp only [List.length_append, List.length_cons]; omega
    have hd := Yd Ty.str.csn pre (x :: rest)
    rw [hx, Zc] at hd
    have hd : List.drop pre.length (rows Ty.str.cs xs) = AV.sc (.string x) :: rows Ty.str.cs rest := by rw [← Nat.mul_one pre.length]; exact hd
    have hw : IntKind.i64.wrap ((pre.length : Int) + 1) = pre.length + 1 := Ya (by omega) (by omega)
    simp [h0', h1', h5', hlt]
    refine T.text 400 mixed (by kernel_rfl) (by kernel_rfl) ?_
    simp [h0', h1', h5', hlt, hd, hw]
    refine ⟨pre ++ [x], rest, by simp, _, Le.refl _, ?_⟩
    simp [hx, h0', h1', za]
structure File where
  path : ByteArray
  text : ByteArray
def File.ty : Ty File := Ty.struct (Ty.str.cons (Ty.str.cons Ty.nil)) (fun x => (x.path, x.text, ())) (fun p => ⟨p.1, p.2.1⟩) (fun _ => rfl) 32
theorem File.cse (x : File) : File.ty.cs x = [.sc (.string x.path), .sc (.string x.text)] := rfl
theorem File.oce (x : File) : File.ty.oc x = [.sc (.string x.path), .sc (.string x.text)] := rfl
theorem File.wte (x : File) : File.ty.wt x = x.path.size + (x.text.size + 0) := rfl
theorem File.ocl (xs : List File) : (rows File.ty.oc xs).length = xs.length * 2 := zb File.ty.ocn xs
theorem File.frL (xs : List File) : Yb.idfreeL (rows File.ty.oc xs) = true := File.ty.frL xs
theorem File.roc8 {h : Hp} {b : Nat} {xs : List File} {lim : Bool} (hb : h b = some (some (rows File.ty.oc xs))) : roc h 8 (.sl b 0 xs.length 2 lim) = some (.ro (rows File.ty.cs xs) xs.length) := File.ty.roc8 (by decide) hb
theorem File.roc7 {h : Hp} {b : Nat} {xs : List File} {lim : Bool} (hb : h b = some (some (rows File.ty.oc xs))) : roc h 7 (.sl b 0 xs.length 2 lim) = some (.ro (rows File.ty.cs xs) xs.length) := File.ty.roc7 (by decide) hb
structure Need where
  name : ByteArray
  range : ByteArray
def Need.ty : Ty Need := Ty.struct (Ty.str.cons (Ty.str.cons Ty.nil)) (fun x => (x.name, x.range, ())) (fun p => ⟨p.1, p.2.1⟩) (fun _ => rfl) 32
theorem Need.cse (x : Need) : Need.ty.cs x = [.sc (.string x.name), .sc (.string x.range)] := rfl
theorem Need.oce (x : Need) : Need.ty.oc x = [.sc (.string x.name), .sc (.string x.range)] := rfl
theorem Need.wte (x : Need) : Need.ty.wt x = x.name.size + (x.range.size + 0) := rfl
theorem Need.ocl (xs : List Need) : (rows Need.ty.oc xs).length = xs.length * 2 := zb Need.ty.ocn xs
theorem Need.frL (xs : List Need) : Yb.idfreeL (rows Need.ty.oc xs) = true := Need.ty.frL xs
theorem Need.roc8 {h : Hp} {b : Nat} {xs : List Need} {lim : Bool} (hb : h b = some (some (rows Need.ty.oc xs))) : roc h 8 (.sl b 0 xs.length 2 lim) = some (.ro (rows Need.ty.cs xs) xs.length) := Need.ty.roc8 (by decide) hb
theorem Need.roc7 {h : Hp} {b : Nat} {xs : List Need} {lim : Bool} (hb : h b = some (some (rows Need.ty.oc xs))) : roc h 7 (.sl b 0 xs.length 2 lim) = some (.ro (rows Need.ty.cs xs) xs.length) := Need.ty.roc7 (by decide) hb
structure Cmd where
  task : ByteArray
  acts : List ByteArray
def Cmd.ty : Ty Cmd := Ty.struct (Ty.str.cons (Ty.str.slice.cons Ty.nil)) (fun x => (x.task, x.acts, ())) (fun p => ⟨p.1, p.2.1⟩) (fun _ => rfl) 40
theorem Cmd.cse (x : Cmd) : Cmd.ty.cs x = [.sc (.string x.task), .ro (rows Ty.str.cs x.acts) x.acts.length] := rfl
theorem Cmd.oce (x : Cmd) : Cmd.ty.oc x = [.sc (.string x.task), .own (rows Ty.str.oc x.acts) x.acts.length 1] := rfl
theorem Cmd.wte (x : Cmd) : Cmd.ty.wt x = x.task.size + ((x.acts.length + wtL Ty.str.wt x.acts) + 0) := rfl
theorem Cmd.ocl (xs : List Cmd) : (rows Cmd.ty.oc xs).length = xs.length * 2 := zb Cmd.ty.ocn xs
theorem Cmd.frL (xs : List Cmd) : Yb.idfreeL (rows Cmd.ty.oc xs) = true := Cmd.ty.frL xs
theorem Cmd.roc8 {h : Hp} {b : Nat} {xs : List Cmd} {lim : Bool} (hb : h b = some (some (rows Cmd.ty.oc xs))) : roc h 8 (.sl b 0 xs.length 2 lim) = some (.ro (rows Cmd.ty.cs xs) xs.length) := Cmd.ty.roc8 (by decide) hb
theorem Cmd.roc7 {h : Hp} {b : Nat} {xs : List Cmd} {lim : Bool} (hb : h b = some (some (rows Cmd.ty.oc xs))) : roc h 7 (.sl b 0 xs.length 2 lim) = some (.ro (rows Cmd.ty.cs xs) xs.length) := Cmd.ty.roc7 (by decide) hb
structure Pack where
  name : ByteArray
  uses : List ByteArray
  needs : List Need
  cmds : List Cmd
def Pack.ty : Ty Pack := Ty.struct (Ty.str.cons (Ty.str.slice.cons (Need.ty.slice.cons (Cmd.ty.slice.cons Ty.nil)))) (fun x => (x.name, x.uses, x.needs, x.cmds, ())) (fun p => ⟨p.1, p.2.1, p.2.2.1, p.2.2.2.1⟩) (fun _ => rfl) 88
theorem Pack.cse (x : Pack) : Pack.ty.cs x = [.sc (.string x.name), .ro (rows Ty.str.cs x.uses) x.uses.length, .ro (rows Need.ty.cs x.needs) x.needs.length, .ro (rows Cmd.ty.cs x.cmds) x.cmds.length] := rfl
theorem Pack.oce (x : Pack) : Pack.ty.oc x = [.sc (.string x.name), .own (rows Ty.str.oc x.uses) x.uses.length 1, .own (rows Need.ty.oc x.needs) x.needs.length 2, .own (rows Cmd.ty.oc x.cmds) x.cmds.length 2] := rfl
theorem Pack.wte (x : Pack) : Pack.ty.wt x = x.name.size + ((x.uses.length + wtL Ty.str.wt x.uses) + ((x.needs.length + wtL Need.ty.wt x.needs) + ((x.cmds.length + wtL Cmd.ty.wt x.cmds) + 0))) := rfl
theorem Pack.ocl (xs : List Pack) : (rows Pack.ty.oc xs).length = xs.length * 4 := zb Pack.ty.ocn xs
theorem Pack.frL (xs : List Pack) : Yb.idfreeL (rows Pack.ty.oc xs) = true := Pack.ty.frL xs
theorem Pack.roc8 {h : Hp} {b : Nat} {xs : List Pack} {lim : Bool} (hb : h b = some (some (rows Pack.ty.oc xs))) : roc h 8 (.sl b 0 xs.length 4 lim) = some (.ro (rows Pack.ty.cs xs) xs.length) := Pack.ty.roc8 (by decide) hb
theorem Pack.roc7 {h : Hp} {b : Nat} {xs : List Pack} {lim : Bool} (hb : h b = some (some (rows Pack.ty.oc xs))) : roc h 7 (.sl b 0 xs.length 4 lim) = some (.ro (rows Pack.ty.cs xs) xs.length) := Pack.ty.roc7 (by decide) hb
structure Env where
  name : ByteArray
  val : ByteArray
def Env.ty : Ty Env := Ty.struct (Ty.str.cons (Ty.str.cons Ty.nil)) (fun x => (x.name, x.val, ())) (fun p => ⟨p.1, p.2.1⟩) (fun _ => rfl) 32
theorem Env.cse (x : Env) : Env.ty.cs x = [.sc (.string x.name), .sc (.string x.val)] := rfl
theorem Env.oce (x : Env) : Env.ty.oc x = [.sc (.string x.name), .sc (.string x.val)] := rfl
theorem Env.wte (x : Env) : Env.ty.wt x = x.name.size + (x.val.size + 0) := rfl
theorem Env.ocl (xs : List Env) : (rows Env.ty.oc xs).length = xs.length * 2 := zb Env.ty.ocn xs
theorem Env.frL (xs : List Env) : Yb.idfreeL (rows Env.ty.oc xs) = true := Env.ty.frL xs
theorem Env.roc8 {h : Hp} {b : Nat} {xs : List Env} {lim : Bool} (hb : h b = some (some (rows Env.ty.oc xs))) : roc h 8 (.sl b 0 xs.length 2 lim) = some (.ro (rows Env.ty.cs xs) xs.length) := Env.ty.roc8 (by decide) hb
theorem Env.roc7 {h : Hp} {b : Nat} {xs : List Env} {lim : Bool} (hb : h b = some (some (rows Env.ty.oc xs))) : roc h 7 (.sl b 0 xs.length 2 lim) = some (.ro (rows Env.ty.cs xs) xs.length) := Env.ty.roc7 (by decide) hb
structure Rule where
  task : ByteArray
  on : List ByteArray
  ins : List ByteArray
  envs : List ByteArray
  keep : Bool
def Rule.ty : Ty Rule := Ty.struct (Ty.str.cons (Ty.str.slice.cons (Ty.str.slice.cons (Ty.str.slice.cons (Ty.bool.cons Ty.nil))))) (fun x => (x.task, x.on, x.ins, x.envs, x.keep, ())) (fun p => ⟨p.1, p.2.1, p.2.2.1, p.2.2.2.1, p.2.2.2.2.1⟩) (fun _ => rfl) 96
theorem Rule.cse (x : Rule) : Rule.ty.cs x = [.sc (.string x.task), .ro (rows Ty.str.cs x.on) x.on.length, .ro (rows Ty.str.cs x.ins) x.ins.length, .ro (rows Ty.str.cs x.envs) x.envs.length, .sc (.bool x.keep)] := rfl
theorem Rule.oce (x : Rule) : Rule.ty.oc x = [.sc (.string x.task), .own (rows Ty.str.oc x.on) x.on.length 1, .own (rows Ty.str.oc x.ins) x.ins.length 1, .own (rows Ty.str.oc x.envs) x.envs.length 1, .sc (.bool x.keep)] := rfl
theorem Rule.wte (x : Rule) : Rule.ty.wt x = x.task.size + ((x.on.length + wtL Ty.str.wt x.on) + ((x.ins.length + wtL Ty.str.wt x.ins) + ((x.envs.length + wtL Ty.str.wt x.envs) + (0 + 0)))) := rfl
theorem Rule.ocl (xs : List Rule) : (rows Rule.ty.oc xs).length = xs.length * 5 := zb Rule.ty.ocn xs
theorem Rule.frL (xs : List Rule) : Yb.idfreeL (rows Rule.ty.oc xs) = true := Rule.ty.frL xs
theorem Rule.roc8 {h : Hp} {b : Nat} {xs : List Rule} {lim : Bool} (hb : h b = some (some (rows Rule.ty.oc xs))) : roc h 8 (.sl b 0 xs.length 5 lim) = some (.ro (rows Rule.ty.cs xs) xs.length) := Rule.ty.roc8 (by decide) hb
theorem Rule.roc7 {h : Hp} {b : Nat} {xs : List Rule} {lim : Bool} (hb : h b = some (some (rows Rule.ty.oc xs))) : roc h 7 (.sl b 0 xs.length 5 lim) = some (.ro (rows Rule.ty.cs xs) xs.length) := Rule.ty.roc7 (by decide) hb
structure World where
  packs : List Pack
  rules : List Rule
  files : List File
  envs : List Env
def World.ty : Ty World := Ty.struct (Pack.ty.slice.cons (Rule.ty.slice.cons (File.ty.slice.cons (Env.ty.slice.cons Ty.nil)))) (fun x => (x.packs, x.rules, x.files, x.envs, ())) (fun p => ⟨p.1, p.2.1, p.2.2.1, p.2.2.2.1⟩) (fun _ => rfl) 96
theorem World.cse (x : World) : World.ty.cs x = [.ro (rows Pack.ty.cs x.packs) x.packs.length, .ro (rows Rule.ty.cs x.rules) x.rules.length, .ro (rows File.ty.cs x.files) x.files.length, .ro (rows Env.ty.cs x.envs) x.envs.length] := rfl
theorem World.oce (x : World) : World.ty.oc x = [.own (rows Pack.ty.oc x.packs) x.packs.length 4, .own (rows Rule.ty.oc x.rules) x.rules.length 5, .own (rows File.ty.oc x.files) x.files.length 2, .own (rows Env.ty.oc x.envs) x.envs.length 2] := rfl
theorem World.wte (x : World) : World.ty.wt x = (x.packs.length + wtL Pack.ty.wt x.packs) + ((x.rules.length + wtL Rule.ty.wt x.rules) + ((x.files.length + wtL File.ty.wt x.files) + ((x.envs.length + wtL Env.ty.wt x.envs) + 0))) := rfl
theorem World.ocl (xs : List World) : (rows World.ty.oc xs).length = xs.length * 4 := zb World.ty.ocn xs
theorem World.frL (xs : List World) : Yb.idfreeL (rows World.ty.oc xs) = true := World.ty.frL xs
theorem World.roc8 {h : Hp} {b : Nat} {xs : List World} {lim : Bool} (hb : h b = some (some (rows World.ty.oc xs))) : roc h 8 (.sl b 0 xs.length 4 lim) = some (.ro (rows World.ty.cs xs) xs.length) := World.ty.roc8 (by decide) hb
theorem World.roc7 {h : Hp} {b : Nat} {xs : List World} {lim : Bool} (hb : h b = some (some (rows World.ty.oc xs))) : roc h 7 (.sl b 0 xs.length 4 lim) = some (.ro (rows World.ty.cs xs) xs.length) := World.ty.roc7 (by decide) hb
structure Plan where
  tasks : List ByteArray
  deps : List (List ByteArray)
def Plan.ty : Ty Plan := Ty.struct (Ty.str.slice.cons (Ty.str.slice.slice.cons Ty.nil)) (fun x => (x.tasks, x.deps, ())) (fun p => ⟨p.1, p.2.1⟩) (fun _ => rfl) 48
theorem Plan.cse (x : Plan) : Plan.ty.cs x = [.ro (rows Ty.str.cs x.tasks) x.tasks.length, .ro (rows Ty.str.slice.cs x.deps) x.deps.length] := rfl
theorem Plan.oce (x : Plan) : Plan.ty.oc x = [.own (rows Ty.str.oc x.tasks) x.tasks.length 1, .own (rows Ty.str.slice.oc x.deps) x.deps.length 1] := rfl
theorem Plan.wte (x : Plan) : Plan.ty.wt x = (x.tasks.length + wtL Ty.str.wt x.tasks) + ((x.deps.length + wtL Ty.str.slice.wt x.deps) + 0) := rfl
theorem Plan.ocl (xs : List Plan) : (rows Plan.ty.oc xs).length = xs.length * 2 := zb Plan.ty.ocn xs
theorem Plan.frL (xs : List Plan) : Yb.idfreeL (rows Plan.ty.oc xs) = true := Plan.ty.frL xs
theorem Plan.roc8 {h : Hp} {b : Nat} {xs : List Plan} {lim : Bool} (hb : h b = some (some (rows Plan.ty.oc xs))) : roc h 8 (.sl b 0 xs.length 2 lim) = some (.ro (rows Plan.ty.cs xs) xs.length) := Plan.ty.roc8 (by decide) hb
theorem Plan.roc7 {h : Hp} {b : Nat} {xs : List Plan} {lim : Bool} (hb : h b = some (some (rows Plan.ty.oc xs))) : roc h 7 (.sl b 0 xs.length 2 lim) = some (.ro (rows Plan.ty.cs xs) xs.length) := Plan.ty.roc7 (by decide) hb
structure Made where
  task : ByteArray
  outs : List File
  log : ByteArray
def Made.ty : Ty Made := Ty.struct (Ty.str.cons (File.ty.slice.cons (Ty.str.cons Ty.nil))) (fun x => (x.task, x.outs, x.log, ())) (fun p => ⟨p.1, p.2.1, p.2.2.1⟩) (fun _ => rfl) 56
theorem Made.cse (x : Made) : Made.ty.cs x = [.sc (.string x.task), .ro (rows File.ty.cs x.outs) x.outs.length, .sc (.string x.log)] := rfl
theorem Made.oce (x : Made) : Made.ty.oc x = [.sc (.string x.task), .own (rows File.ty.oc x.outs) x.outs.length 2, .sc (.string x.log)] := rfl
theorem Made.wte (x : Made) : Made.ty.wt x = x.task.size + ((x.outs.length + wtL File.ty.wt x.outs) + (x.log.size + 0)) := rfl
theorem Made.ocl (xs : List Made) : (rows Made.ty.oc xs).length = xs.length * 3 := zb Made.ty.ocn xs
theorem Made.frL (xs : List Made) : Yb.idfreeL (rows Made.ty.oc xs) = true := Made.ty.frL xs
theorem Made.roc8 {h : Hp} {b : Nat} {xs : List Made} {lim : Bool} (hb : h b = some (some (rows Made.ty.oc xs))) : roc h 8 (.sl b 0 xs.length 3 lim) = some (.ro (rows Made.ty.cs xs) xs.length) := Made.ty.roc8 (by decide) hb
theorem Made.roc7 {h : Hp} {b : Nat} {xs : List Made} {lim : Bool} (hb : h b = some (some (rows Made.ty.oc xs))) : roc h 7 (.sl b 0 xs.length 3 lim) = some (.ro (rows Made.ty.cs xs) xs.length) := Made.ty.roc7 (by decide) hb
structure Mark where
  task : ByteArray
  how : Int
def Mark.ty : Ty Mark := Ty.struct (Ty.str.cons (Ty.int.cons Ty.nil)) (fun x => (x.task, x.how, ())) (fun p => ⟨p.1, p.2.1⟩) (fun _ => rfl) 24
theorem Mark.cse (x : Mark) : Mark.ty.cs x = [.sc (.string x.task), .sc (.int .i64 x.how)] := rfl
theorem Mark.oce (x : Mark) : Mark.ty.oc x = [.sc (.string x.task), .sc (.int .i64 x.how)] := rfl
theorem Mark.wte (x : Mark) : Mark.ty.wt x = x.task.size + (0 + 0) := rfl
theorem Mark.ocl (xs : List Mark) : (rows Mark.ty.oc xs).length = xs.length * 2 := zb Mark.ty.ocn xs
theorem Mark.frL (xs : List Mark) : Yb.idfreeL (rows Mark.ty.oc xs) = true := Mark.ty.frL xs
theorem Mark.roc8 {h : Hp} {b : Nat} {xs : List Mark} {lim : Bool} (hb : h b = some (some (rows Mark.ty.oc xs))) : roc h 8 (.sl b 0 xs.length 2 lim) = some (.ro (rows Mark.ty.cs xs) xs.length) := Mark.ty.roc8 (by decide) hb
theorem Mark.roc7 {h : Hp} {b : Nat} {xs : List Mark} {lim : Bool} (hb : h b = some (some (rows Mark.ty.oc xs))) : roc h 7 (.sl b 0 xs.length 2 lim) = some (.ro (rows Mark.ty.cs xs) xs.length) := Mark.ty.roc7 (by decide) hb
structure Slot where
  key : List Int
  b : List Int
def Slot.ty : Ty Slot := Ty.struct (Ty.byte.slice.cons (Ty.byte.slice.cons Ty.nil)) (fun x => (x.key, x.b, ())) (fun p => ⟨p.1, p.2.1⟩) (fun _ => rfl) 48
theorem Slot.cse (x : Slot) : Slot.ty.cs x = [.ro (rows Ty.byte.cs x.key) x.key.length, .ro (rows Ty.byte.cs x.b) x.b.length] := rfl
theorem Slot.oce (x : Slot) : Slot.ty.oc x = [.own (rows Ty.byte.oc x.key) x.key.length 1, .own (rows Ty.byte.oc x.b) x.b.length 1] := rfl
theorem Slot.wte (x : Slot) : Slot.ty.wt x = (x.key.length + wtL Ty.byte.wt x.key) + ((x.b.length + wtL Ty.byte.wt x.b) + 0) := rfl
theorem Slot.ocl (xs : List Slot) : (rows Slot.ty.oc xs).length = xs.length * 2 := zb Slot.ty.ocn xs
theorem Slot.frL (xs : List Slot) : Yb.idfreeL (rows Slot.ty.oc xs) = true := Slot.ty.frL xs
theorem Slot.roc8 {h : Hp} {b : Nat} {xs : List Slot} {lim : Bool} (hb : h b = some (some (rows Slot.ty.oc xs))) : roc h 8 (.sl b 0 xs.length 2 lim) = some (.ro (rows Slot.ty.cs xs) xs.length) := Slot.ty.roc8 (by decide) hb
theorem Slot.roc7 {h : Hp} {b : Nat} {xs : List Slot} {lim : Bool} (hb : h b = some (some (rows Slot.ty.oc xs))) : roc h 7 (.sl b 0 xs.length 2 lim) = some (.ro (rows Slot.ty.cs xs) xs.length) := Slot.ty.roc7 (by decide) hb
structure Run where
  w : World
  p : Plan
  slots : Int
  goOn : Bool
  made : List Made
  marks : List Mark
  going : List ByteArray
  cache : List Slot
def Run.ty : Ty Run := Ty.struct (World.ty.cons (Plan.ty.cons (Ty.int.cons (Ty.bool.cons (Made.ty.slice.cons (Mark.ty.slice.cons (Ty.str.slice.cons (Slot.ty.slice.cons Ty.nil)))))))) (fun x => (x.w, x.p, x.slots, x.goOn, x.made, x.marks, x.going, x.cache, ())) (fun p => ⟨p.1, p.2.1, p.2.2.1, p.2.2.2.1, p.2.2.2.2.1, p.2.2.2.2.2.1, p.2.2.2.2.2.2.1, p.2.2.2.2.2.2.2.1⟩) (fun _ => rfl) 256
theorem Run.cse (x : Run) : Run.ty.cs x = [.ro (rows Pack.ty.cs x.w.packs) x.w.packs.length, .ro (rows Rule.ty.cs x.w.rules) x.w.rules.length, .ro (rows File.ty.cs x.w.files) x.w.files.length, .ro (rows Env.ty.cs x.w.envs) x.w.envs.length, .ro (rows Ty.str.cs x.p.tasks) x.p.tasks.length, .ro (rows Ty.str.slice.cs x.p.deps) x.p.deps.length, .sc (.int .i64 x.slots), .sc (.bool x.goOn), .ro (rows Made.ty.cs x.made) x.made.length, .ro (rows Mark.ty.cs x.marks) x.marks.length, .ro (rows Ty.str.cs x.going) x.going.length, .ro (rows Slot.ty.cs x.cache) x.cache.length] := rfl
theorem Run.oce (x : Run) : Run.ty.oc x = [.own (rows Pack.ty.oc x.w.packs) x.w.packs.length 4, .own (rows Rule.ty.oc x.w.rules) x.w.rules.length 5, .own (rows File.ty.oc x.w.files) x.w.files.length 2, .own (rows Env.ty.oc x.w.envs) x.w.envs.length 2, .own (rows Ty.str.oc x.p.tasks) x.p.tasks.length 1, .own (rows Ty.str.slice.oc x.p.deps) x.p.deps.length 1, .sc (.int .i64 x.slots), .sc (.bool x.goOn), .own (rows Made.ty.oc x.made) x.made.length 3, .own (rows Mark.ty.oc x.marks) x.marks.length 2, .own (rows Ty.str.oc x.going) x.going.length 1, .own (rows Slot.ty.oc x.cache) x.cache.length 2] := rfl
theorem Run.wte (x : Run) : Run.ty.wt x = World.ty.wt x.w + (Plan.ty.wt x.p + (0 + (0 + ((x.made.length + wtL Made.ty.wt x.made) + ((x.marks.length + wtL Mark.ty.wt x.marks) + ((x.going.length + wtL Ty.str.wt x.going) + ((x.cache.length + wtL Slot.ty.wt x.cache) + 0))))))) := rfl
theorem Run.ocl (xs : List Run) : (rows Run.ty.oc xs).length = xs.length * 12 := zb Run.ty.ocn xs
theorem Run.frL (xs : List Run) : Yb.idfreeL (rows Run.ty.oc xs) = true := Run.ty.frL xs
theorem Run.roc8 {h : Hp} {b : Nat} {xs : List Run} {lim : Bool} (hb : h b = some (some (rows Run.ty.oc xs))) : roc h 8 (.sl b 0 xs.length 12 lim) = some (.ro (rows Run.ty.cs xs) xs.length) := Run.ty.roc8 (by decide) hb
theorem Run.roc7 {h : Hp} {b : Nat} {xs : List Run} {lim : Bool} (hb : h b = some (some (rows Run.ty.oc xs))) : roc h 7 (.sl b 0 xs.length 12 lim) = some (.ro (rows Run.ty.cs xs) xs.length) := Run.ty.roc7 (by decide) hb
structure Job where
  name : ByteArray
  acts : List ByteArray
  ins : List File
  envs : List Env
  deps : List Made
def Job.ty : Ty Job := Ty.struct (Ty.str.cons (Ty.str.slice.cons (File.ty.slice.cons (Env.ty.slice.cons (Made.ty.slice.cons Ty.nil))))) (fun x => (x.name, x.acts, x.ins, x.envs, x.deps, ())) (fun p => ⟨p.1, p.2.1, p.2.2.1, p.2.2.2.1, p.2.2.2.2.1⟩) (fun _ => rfl) 112
theorem Job.cse (x : Job) : Job.ty.cs x = [.sc (.string x.name), .ro (rows Ty.str.cs x.acts) x.acts.length, .ro (rows File.ty.cs x.ins) x.ins.length, .ro (rows Env.ty.cs x.envs) x.envs.length, .ro (rows Made.ty.cs x.deps) x.deps.length] := rfl
theorem Job.oce (x : Job) : Job.ty.oc x = [.sc (.string x.name), .own (rows Ty.str.oc x.acts) x.acts.length 1, .own (rows File.ty.oc x.ins) x.ins.length 2, .own (rows Env.ty.oc x.envs) x.envs.length 2, .own (rows Made.ty.oc x.deps) x.deps.length 3] := rfl
theorem Job.wte (x : Job) : Job.ty.wt x = x.name.size + ((x.acts.length + wtL Ty.str.wt x.acts) + ((x.ins.length + wtL File.ty.wt x.ins) + ((x.envs.length + wtL Env.ty.wt x.envs) + ((x.deps.length + wtL Made.ty.wt x.deps) + 0)))) := rfl
theorem Job.ocl (xs : List Job) : (rows Job.ty.oc xs).length = xs.length * 5 := zb Job.ty.ocn xs
theorem Job.frL (xs : List Job) : Yb.idfreeL (rows Job.ty.oc xs) = true := Job.ty.frL xs
theorem Job.roc8 {h : Hp} {b : Nat} {xs : List Job} {lim : Bool} (hb : h b = some (some (rows Job.ty.oc xs))) : roc h 8 (.sl b 0 xs.length 5 lim) = some (.ro (rows Job.ty.cs xs) xs.length) := Job.ty.roc8 (by decide) hb
theorem Job.roc7 {h : Hp} {b : Nat} {xs : List Job} {lim : Bool} (hb : h b = some (some (rows Job.ty.oc xs))) : roc h 7 (.sl b 0 xs.length 5 lim) = some (.ro (rows Job.ty.cs xs) xs.length) := Job.ty.roc7 (by decide) hb
structure Doc where
  name : ByteArray
  text : ByteArray
def Doc.ty : Ty Doc := Ty.struct (Ty.str.cons (Ty.str.cons Ty.nil)) (fun x => (x.name, x.text, ())) (fun p => ⟨p.1, p.2.1⟩) (fun _ => rfl) 32
theorem Doc.cse (x : Doc) : Doc.ty.cs x = [.sc (.string x.name), .sc (.string x.text)] := rfl
theorem Doc.oce (x : Doc) : Doc.ty.oc x = [.sc (.string x.name), .sc (.string x.text)] := rfl
theorem Doc.wte (x : Doc) : Doc.ty.wt x = x.name.size + (x.text.size + 0) := rfl
theorem Doc.ocl (xs : List Doc) : (rows Doc.ty.oc xs).length = xs.length * 2 := zb Doc.ty.ocn xs
theorem Doc.frL (xs : List Doc) : Yb.idfreeL (rows Doc.ty.oc xs) = true := Doc.ty.frL xs
theorem Doc.roc8 {h : Hp} {b : Nat} {xs : List Doc} {lim : Bool} (hb : h b = some (some (rows Doc.ty.oc xs))) : roc h 8 (.sl b 0 xs.length 2 lim) = some (.ro (rows Doc.ty.cs xs) xs.length) := Doc.ty.roc8 (by decide) hb
theorem Doc.roc7 {h : Hp} {b : Nat} {xs : List Doc} {lim : Bool} (hb : h b = some (some (rows Doc.ty.oc xs))) : roc h 7 (.sl b 0 xs.length 2 lim) = some (.ro (rows Doc.ty.cs xs) xs.length) := Doc.ty.roc7 (by decide) hb
structure Op where
  kind : Int
  a : ByteArray
  b : ByteArray
def Op.ty : Ty Op := Ty.struct (Ty.int.cons (Ty.str.cons (Ty.str.cons Ty.nil))) (fun x => (x.kind, x.a, x.b, ())) (fun p => ⟨p.1, p.2.1, p.2.2.1⟩) (fun _ => rfl) 40
theorem Op.cse (x : Op) : Op.ty.cs x = [.sc (.int .i64 x.kind), .sc (.string x.a), .sc (.string x.b)] := rfl
theorem Op.oce (x : Op) : Op.ty.oc x = [.sc (.int .i64 x.kind), .sc (.string x.a), .sc (.string x.b)] := rfl
theorem Op.wte (x : Op) : Op.ty.wt x = 0 + (x.a.size + (x.b.size + 0)) := rfl
theorem Op.ocl (xs : List Op) : (rows Op.ty.oc xs).length = xs.length * 3 := zb Op.ty.ocn xs
theorem Op.frL (xs : List Op) : Yb.idfreeL (rows Op.ty.oc xs) = true := Op.ty.frL xs
theorem Op.roc8 {h : Hp} {b : Nat} {xs : List Op} {lim : Bool} (hb : h b = some (some (rows Op.ty.oc xs))) : roc h 8 (.sl b 0 xs.length 3 lim) = some (.ro (rows Op.ty.cs xs) xs.length) := Op.ty.roc8 (by decide) hb
theorem Op.roc7 {h : Hp} {b : Nat} {xs : List Op} {lim : Bool} (hb : h b = some (some (rows Op.ty.oc xs))) : roc h 7 (.sl b 0 xs.length 3 lim) = some (.ro (rows Op.ty.cs xs) xs.length) := Op.ty.roc7 (by decide) hb
structure Disk where
  sure : List Doc
  pend : List Op
def Disk.ty : Ty Disk := Ty.struct (Doc.ty.slice.cons (Op.ty.slice.cons Ty.nil)) (fun x => (x.sure, x.pend, ())) (fun p => ⟨p.1, p.2.1⟩) (fun _ => rfl) 48
theorem Disk.cse (x : Disk) : Disk.ty.cs x = [.ro (rows Doc.ty.cs x.sure) x.sure.length, .ro (rows Op.ty.cs x.pend) x.pend.length] := rfl
theorem Disk.oce (x : Disk) : Disk.ty.oc x = [.own (rows Doc.ty.oc x.sure) x.sure.length 2, .own (rows Op.ty.oc x.pend) x.pend.length 3] := rfl
theorem Disk.wte (x : Disk) : Disk.ty.wt x = (x.sure.length + wtL Doc.ty.wt x.sure) + ((x.pend.length + wtL Op.ty.wt x.pend) + 0) := rfl
theorem Disk.ocl (xs : List Disk) : (rows Disk.ty.oc xs).length = xs.length * 2 := zb Disk.ty.ocn xs
theorem Disk.frL (xs : List Disk) : Yb.idfreeL (rows Disk.ty.oc xs) = true := Disk.ty.frL xs
theorem Disk.roc8 {h : Hp} {b : Nat} {xs : List Disk} {lim : Bool} (hb : h b = some (some (rows Disk.ty.oc xs))) : roc h 8 (.sl b 0 xs.length 2 lim) = some (.ro (rows Disk.ty.cs xs) xs.length) := Disk.ty.roc8 (by decide) hb
theorem Disk.roc7 {h : Hp} {b : Nat} {xs : List Disk} {lim : Bool} (hb : h b = some (some (rows Disk.ty.oc xs))) : roc h 7 (.sl b 0 xs.length 2 lim) = some (.ro (rows Disk.ty.cs xs) xs.length) := Disk.ty.roc7 (by decide) hb
structure Ver where
  a : Int
  b : Int
  c : Int
  pre : List ByteArray
def Ver.ty : Ty Ver := Ty.struct (Ty.int.cons (Ty.int.cons (Ty.int.cons (Ty.str.slice.cons Ty.nil)))) (fun x => (x.a, x.b, x.c, x.pre, ())) (fun p => ⟨p.1, p.2.1, p.2.2.1, p.2.2.2.1⟩) (fun _ => rfl) 48
theorem Ver.cse (x : Ver) : Ver.ty.cs x = [.sc (.int .i64 x.a), .sc (.int .i64 x.b), .sc (.int .i64 x.c), .ro (rows Ty.str.cs x.pre) x.pre.length] := rfl
theorem Ver.oce (x : Ver) : Ver.ty.oc x = [.sc (.int .i64 x.a), .sc (.int .i64 x.b), .sc (.int .i64 x.c), .own (rows Ty.str.oc x.pre) x.pre.length 1] := rfl
theorem Ver.wte (x : Ver) : Ver.ty.wt x = 0 + (0 + (0 + ((x.pre.length + wtL Ty.str.wt x.pre) + 0))) := rfl
theorem Ver.ocl (xs : List Ver) : (rows Ver.ty.oc xs).length = xs.length * 4 := zb Ver.ty.ocn xs
theorem Ver.frL (xs : List Ver) : Yb.idfreeL (rows Ver.ty.oc xs) = true := Ver.ty.frL xs
theorem Ver.roc8 {h : Hp} {b : Nat} {xs : List Ver} {lim : Bool} (hb : h b = some (some (rows Ver.ty.oc xs))) : roc h 8 (.sl b 0 xs.length 4 lim) = some (.ro (rows Ver.ty.cs xs) xs.length) := Ver.ty.roc8 (by decide) hb
theorem Ver.roc7 {h : Hp} {b : Nat} {xs : List Ver} {lim : Bool} (hb : h b = some (some (rows Ver.ty.oc xs))) : roc h 7 (.sl b 0 xs.length 4 lim) = some (.ro (rows Ver.ty.cs xs) xs.length) := Ver.ty.roc7 (by decide) hb
structure Cmp where
  op : Int
  v : Ver
def Cmp.ty : Ty Cmp := Ty.struct (Ty.int.cons (Ver.ty.cons Ty.nil)) (fun x => (x.op, x.v, ())) (fun p => ⟨p.1, p.2.1⟩) (fun _ => rfl) 56
theorem Cmp.cse (x : Cmp) : Cmp.ty.cs x = [.sc (.int .i64 x.op), .sc (.int .i64 x.v.a), .sc (.int .i64 x.v.b), .sc (.int .i64 x.v.c), .ro (rows Ty.str.cs x.v.pre) x.v.pre.length] := rfl
theorem Cmp.oce (x : Cmp) : Cmp.ty.oc x = [.sc (.int .i64 x.op), .sc (.int .i64 x.v.a), .sc (.int .i64 x.v.b), .sc (.int .i64 x.v.c), .own (rows Ty.str.oc x.v.pre) x.v.pre.length 1] := rfl
theorem Cmp.wte (x : Cmp) : Cmp.ty.wt x = 0 + (Ver.ty.wt x.v + 0) := rfl
theorem Cmp.ocl (xs : List Cmp) : (rows Cmp.ty.oc xs).length = xs.length * 5 := zb Cmp.ty.ocn xs
theorem Cmp.frL (xs : List Cmp) : Yb.idfreeL (rows Cmp.ty.oc xs) = true := Cmp.ty.frL xs
theorem Cmp.roc8 {h : Hp} {b : Nat} {xs : List Cmp} {lim : Bool} (hb : h b = some (some (rows Cmp.ty.oc xs))) : roc h 8 (.sl b 0 xs.length 5 lim) = some (.ro (rows Cmp.ty.cs xs) xs.length) := Cmp.ty.roc8 (by decide) hb
theorem Cmp.roc7 {h : Hp} {b : Nat} {xs : List Cmp} {lim : Bool} (hb : h b = some (some (rows Cmp.ty.oc xs))) : roc h 7 (.sl b 0 xs.length 5 lim) = some (.ro (rows Cmp.ty.cs xs) xs.length) := Cmp.ty.roc7 (by decide) hb
structure Entry where
  name : ByteArray
  v : Ver
  needs : List Need
def Entry.ty : Ty Entry := Ty.struct (Ty.str.cons (Ver.ty.cons (Need.ty.slice.cons Ty.nil))) (fun x => (x.name, x.v, x.needs, ())) (fun p => ⟨p.1, p.2.1, p.2.2.1⟩) (fun _ => rfl) 88
theorem Entry.cse (x : Entry) : Entry.ty.cs x = [.sc (.string x.name), .sc (.int .i64 x.v.a), .sc (.int .i64 x.v.b), .sc (.int .i64 x.v.c), .ro (rows Ty.str.cs x.v.pre) x.v.pre.length, .ro (rows Need.ty.cs x.needs) x.needs.length] := rfl
theorem Entry.oce (x : Entry) : Entry.ty.oc x = [.sc (.string x.name), .sc (.int .i64 x.v.a), .sc (.int .i64 x.v.b), .sc (.int .i64 x.v.c), .own (rows Ty.str.oc x.v.pre) x.v.pre.length 1, .own (rows Need.ty.oc x.needs) x.needs.length 2] := rfl
theorem Entry.wte (x : Entry) : Entry.ty.wt x = x.name.size + (Ver.ty.wt x.v + ((x.needs.length + wtL Need.ty.wt x.needs) + 0)) := rfl
theorem Entry.ocl (xs : List Entry) : (rows Entry.ty.oc xs).length = xs.length * 6 := zb Entry.ty.ocn xs
theorem Entry.frL (xs : List Entry) : Yb.idfreeL (rows Entry.ty.oc xs) = true := Entry.ty.frL xs
theorem Entry.roc8 {h : Hp} {b : Nat} {xs : List Entry} {lim : Bool} (hb : h b = some (some (rows Entry.ty.oc xs))) : roc h 8 (.sl b 0 xs.length 6 lim) = some (.ro (rows Entry.ty.cs xs) xs.length) := Entry.ty.roc8 (by decide) hb
theorem Entry.roc7 {h : Hp} {b : Nat} {xs : List Entry} {lim : Bool} (hb : h b = some (some (rows Entry.ty.oc xs))) : roc h 7 (.sl b 0 xs.length 6 lim) = some (.ro (rows Entry.ty.cs xs) xs.length) := Entry.ty.roc7 (by decide) hb
structure Pick where
  name : ByteArray
  v : Ver
def Pick.ty : Ty Pick := Ty.struct (Ty.str.cons (Ver.ty.cons Ty.nil)) (fun x => (x.name, x.v, ())) (fun p => ⟨p.1, p.2.1⟩) (fun _ => rfl) 64
theorem Pick.cse (x : Pick) : Pick.ty.cs x = [.sc (.string x.name), .sc (.int .i64 x.v.a), .sc (.int .i64 x.v.b), .sc (.int .i64 x.v.c), .ro (rows Ty.str.cs x.v.pre) x.v.pre.length] := rfl
theorem Pick.oce (x : Pick) : Pick.ty.oc x = [.sc (.string x.name), .sc (.int .i64 x.v.a), .sc (.int .i64 x.v.b), .sc (.int .i64 x.v.c), .own (rows Ty.str.oc x.v.pre) x.v.pre.length 1] := rfl
theorem Pick.wte (x : Pick) : Pick.ty.wt x = x.name.size + (Ver.ty.wt x.v + 0) := rfl
theorem Pick.ocl (xs : List Pick) : (rows Pick.ty.oc xs).length = xs.length * 5 := zb Pick.ty.ocn xs
theorem Pick.frL (xs : List Pick) : Yb.idfreeL (rows Pick.ty.oc xs) = true := Pick.ty.frL xs
theorem Pick.roc8 {h : Hp} {b : Nat} {xs : List Pick} {lim : Bool} (hb : h b = some (some (rows Pick.ty.oc xs))) : roc h 8 (.sl b 0 xs.length 5 lim) = some (.ro (rows Pick.ty.cs xs) xs.length) := Pick.ty.roc8 (by decide) hb
theorem Pick.roc7 {h : Hp} {b : Nat} {xs : List Pick} {lim : Bool} (hb : h b = some (some (rows Pick.ty.oc xs))) : roc h 7 (.sl b 0 xs.length 5 lim) = some (.ro (rows Pick.ty.cs xs) xs.length) := Pick.ty.roc7 (by decide) hb
theorem zd4 (pre rest : List ByteArray) (x : ByteArray) : List.drop pre.length (rows Ty.str.cs (pre ++ x :: rest)) = .sc (.string x) :: rows Ty.str.cs rest := by
  have h := Yd Ty.str.csn pre (x :: rest)
  have h : List.drop (pre.length * 1) (rows Ty.str.cs (pre ++ x :: rest)) = rows Ty.str.cs (x :: rest) := h
  rw [Nat.mul_one] at h
  rw [h, Zc]; rfl
def A164 : AC := (.seq (.ops [wO 2 (.box (.t 0)), qO 4 (.mov (iC 0))])
  (.seq (.ops [qO 5 (.mov (.t 1)), qO 6 (.fadr 0 (.t 2)), qO 7 (.load false 1 (.t 6)), qO 8 (.slen (.t 7)), qO 9 (.bin .sub (.t 5) (.t 8)), qO 1 (.mov (.t 9))])
  (.seq (.seq (.ops [qO 10 (.mov (.t 1)), qO 11 (.bin .lss (.t 10) (iC 0))])
  (.cond (.t 11) (.seq (.ops [qO 4 (.mov (iC (-1)))])
  .ret)
  .skip))
  (.seq (.ops [qO 12 (.mov (.t 1)), qO 13 (.fadr 1 (.t 2)), qO 14 (.load false 1 (.t 13)), qO 15 (.slen (.t 14)), qO 16 (.bin .sub (.t 12) (.t 15)), qO 1 (.mov (.t 16))])
  (.seq (.seq (.ops [qO 17 (.mov (.t 1)), qO 18 (.bin .lss (.t 17) (iC 0))])
  (.cond (.t 18) (.seq (.ops [qO 4 (.mov (iC (-1)))])
  .ret)
  .skip))
  (.seq (.ops [qO 19 (.mov (.t 1)), qO 4 (.mov (.t 19))])
  .ret))))))
theorem K164 : Kf Tryz.prog Tryz.f164 A164 20 [.mov (.t 4)] := ⟨by kernel_rfl, by kernel_rfl, by kernel_rfl⟩
theorem R164 (x : File) (hx : File.ty.ok x) : Sz Tryz.prog 164 (.agg (File.ty.cs x)) (File.ty.wt x) := by
  intro l h0 h1
  obtain ⟨o0, o1, _⟩ := hx
  have o0 : x.path.size ≤ 140737488351232 := o0
  have w0 : IntKind.i64.wrap (l - x.path.size) = l - x.path.size := Ya (by omega) (by omega)
  by_cases n0 : l - (x.path.size : Int) < 0
  · refine ⟨-1, .inl (by decide), ?_⟩
    refine Ret.run Tryz.func164 K164 (by simp) rfl rfl 500 ?_
    simp [A164, iniρ, File.cse, w0, n0]
    try omega
  have p0 : 0 ≤ (l - (x.path.size : Int)) := by omega
  have o1 : x.text.size ≤ 140737488351232 := o1
  have w1 : IntKind.i64.wrap ((l - (x.path.size : Int)) - x.text.size) = (l - (x.path.size : Int)) - x.text.size := Ya (by omega) (by omega)
  by_cases n1 : (l - (x.path.size : Int)) - (x.text.size : Int) < 0
  · refine ⟨-1, .inl (by decide), ?_⟩
    refine Ret.run Tryz.func164 K164 (by simp) rfl rfl 500 ?_
    simp [A164, iniρ, File.cse, w0, n0, w1, n1]
    try omega
  have p1 : 0 ≤ ((l - (x.path.size : Int)) - (x.text.size : Int)) := by omega
  refine ⟨((l - (x.path.size : Int)) - (x.text.size : Int)), .inr ?_, ?_⟩
  · rw [File.wte]; omega
  refine Ret.run Tryz.func164 K164 (by simp) rfl rfl 500 ?_
  simp [A164, iniρ, File.cse, w0, n0, w1, n1]
theorem R81 (xs : List File) (hx : File.ty.slice.ok xs) : Sz Tryz.prog 81 (.ro (rows File.ty.cs xs) xs.length) (File.ty.slice.wt xs) := Sz.slice File.ty (agg := true) Tryz.func81 ⟨by kernel_rfl, by kernel_rfl, by kernel_rfl⟩ (by kernel_rfl) (by simp) xs (fun x h => R164 x (hx.2 x h)) (File.ty.lenb (by decide) hx)
def A168 : AC := (.seq (.ops [wO 1 (.box (.t 0)), wO 2 (.alloc [(.sc (.string ⟨#[]⟩)), (.sc (.string ⟨#[]⟩))])])
  (.seq (.ops [wO 3 (.alloc [(.sc (.string ⟨#[]⟩)), (.sc (.string ⟨#[]⟩))])])
  (.seq (.ops [qO 4 (.fadr 0 (.t 1)), qO 5 (.load false 1 (.t 4)), qO 6 (.fadr 0 (.t 3)), nO (.store 1 (.t 6) (.t 5))])
  (.seq (.ops [qO 7 (.fadr 1 (.t 1)), qO 8 (.load false 1 (.t 7)), qO 9 (.fadr 1 (.t 3)), nO (.store 1 (.t 9) (.t 8))])
  (.seq (.ops [qO 10 (.load true 2 (.t 3)), nO (.store 2 (.t 2) (.t 10))])
  .ret)))))
theorem K168 : Kf Tryz.prog Tryz.f168 A168 11 [.load true 2 (.t 2)] := ⟨by kernel_rfl, by kernel_rfl, by kernel_rfl⟩
theorem R168 (x : File) (hx : File.ty.ok x) : Ret Tryz.prog 168 [.agg (File.ty.cs x)] (.agg (File.ty.oc x)) [.un] := by
  obtain ⟨o0, o1, _⟩ := hx
  refine Ret.run Tryz.func168 K168 (by simp) rfl rfl 500 ?_
  simp [A168, iniρ, File.cse, over, ex1, File.oce]
theorem R86 (xs : List File) (hx : File.ty.slice.ok xs) : Ret Tryz.prog 86 [.ro (rows File.ty.cs xs) xs.length] (.own (rows File.ty.oc xs) xs.length 2) [.un] := Ret.toS File.ty Tryz.func86 ⟨by kernel_rfl, by kernel_rfl, by kernel_rfl⟩ (by kernel_rfl) (fun x h => R168 x h) (by decide) (by decide) xs hx
def A172 : AC := (.seq (.ops [wO 2 (.box (.t 0)), wO 3 (.box (.t 1)), qO 4 (.mov (.c (.sc (.bool false))))])
  (.seq (.seq (.ops [qO 5 (.fadr 0 (.t 2)), qO 6 (.load false 1 (.t 5)), qO 7 (.fadr 0 (.t 3)), qO 8 (.load false 1 (.t 7)), qO 9 (.bin .neq (.t 6) (.t 8))])
  (.cond (.t 9) (.seq (.ops [qO 4 (.mov (.c (.sc (.bool false))))])
  .ret)
  .skip))
  (.seq (.seq (.ops [qO 10 (.fadr 1 (.t 2)), qO 11 (.load false 1 (.t 10)), qO 12 (.fadr 1 (.t 3)), qO 13 (.load false 1 (.t 12)), qO 14 (.bin .neq (.t 11) (.t 13))])
  (.cond (.t 14) (.seq (.ops [qO 4 (.mov (.c (.sc (.bool false))))])
  .ret)
  .skip))
  (.seq (.ops [qO 4 (.mov (.c (.sc (.bool true))))])
  .ret))))
theorem K172 : Kf Tryz.prog Tryz.f172 A172 15 [.mov (.t 4)] := ⟨by kernel_rfl, by kernel_rfl, by kernel_rfl⟩
theorem R172 (x : File) (hx : File.ty.ok x) : Ret Tryz.prog 172 [.agg (File.ty.cs x), .agg (File.ty.cs x)] (.sc (.bool true)) [.un, .un] := by
  obtain ⟨o0, o1, _⟩ := hx
  refine Ret.run Tryz.func172 K172 (by simp) rfl rfl 500 ?_
  simp [A172, iniρ, File.cse]
theorem R90 (xs : List File) (hx : File.ty.slice.ok xs) : Ret Tryz.prog 90 [.ro (rows File.ty.cs xs) xs.length, .ro (rows File.ty.cs xs) xs.length] (.sc (.bool true)) [.un, .un] := Ret.eqS mixed File.ty (agg := true) Tryz.func90 ⟨by kernel_rfl, by kernel_rfl, by kernel_rfl⟩ (by kernel_rfl) (by simp) xs (fun x h => R172 x (hx.2 x h)) (File.ty.lenb (by decide) hx)
def A165 : AC := (.seq (.ops [wO 2 (.box (.t 0)), qO 4 (.mov (iC 0))])
  (.seq (.ops [qO 5 (.mov (.t 1)), qO 6 (.fadr 0 (.t 2)), qO 7 (.load false 1 (.t 6)), qO 8 (.slen (.t 7)), qO 9 (.bin .sub (.t 5) (.t 8)), qO 1 (.mov (.t 9))])
  (.seq (.seq (.ops [qO 10 (.mov (.t 1)), qO 11 (.bin .lss (.t 10) (iC 0))])
  (.cond (.t 11) (.seq (.ops [qO 4 (.mov (iC (-1)))])
  .ret)
  .skip))
  (.seq (.ops [qO 12 (.mov (.t 1)), qO 13 (.fadr 1 (.t 2)), qO 14 (.load false 1 (.t 13)), qO 15 (.slen (.t 14)), qO 16 (.bin .sub (.t 12) (.t 15)), qO 1 (.mov (.t 16))])
  (.seq (.seq (.ops [qO 17 (.mov (.t 1)), qO 18 (.bin .lss (.t 17) (iC 0))])
  (.cond (.t 18) (.seq (.ops [qO 4 (.mov (iC (-1)))])
  .ret)
  .skip))
  (.seq (.ops [qO 19 (.mov (.t 1)), qO 4 (.mov (.t 19))])
  .ret))))))
theorem K165 : Kf Tryz.prog Tryz.f165 A165 20 [.mov (.t 4)] := ⟨by kernel_rfl, by kernel_rfl, by kernel_rfl⟩
theorem R165 (x : Env) (hx : Env.ty.ok x) : Sz Tryz.prog 165 (.agg (Env.ty.cs x)) (Env.ty.wt x) := by
  intro l h0 h1
  obtain ⟨o0, o1, _⟩ := hx
  have o0 : x.name.size ≤ 140737488351232 := o0
  have w0 : IntKind.i64.wrap (l - x.name.size) = l - x.name.size := Ya (by omega) (by omega)
  by_cases n0 : l - (x.name.size : Int) < 0
  · refine ⟨-1, .inl (by decide), ?_⟩
    refine Ret.run Tryz.func165 K165 (by simp) rfl rfl 500 ?_
    simp [A165, iniρ, Env.cse, w0, n0]
    try omega
  have p0 : 0 ≤ (l - (x.name.size : Int)) := by omega
  have o1 : x.val.size ≤ 140737488351232 := o1
  have w1 : IntKind.i64.wrap ((l - (x.name.size : Int)) - x.val.size) = (l - (x.name.size : Int)) - x.val.size := Ya (by omega) (by omega)
  by_cases n1 : (l - (x.name.size : Int)) - (x.val.size : Int) < 0
  · refine ⟨-1, .inl (by decide), ?_⟩
    refine Ret.run Tryz.func165 K165 (by simp) rfl rfl 500 ?_
    simp [A165, iniρ, Env.cse, w0, n0, w1, n1]
    try omega
  have p1 : 0 ≤ ((l - (x.name.size : Int)) - (x.val.size : Int)) := by omega
  refine ⟨((l - (x.name.size : Int)) - (x.val.size : Int)), .inr ?_, ?_⟩
  · rw [Env.wte]; omega
  refine Ret.run Tryz.func165 K165 (by simp) rfl rfl 500 ?_
  simp [A165, iniρ, Env.cse, w0, n0, w1, n1]
theorem R82 (xs : List Env) (hx : Env.ty.slice.ok xs) : Sz Tryz.prog 82 (.ro (rows Env.ty.cs xs) xs.length) (Env.ty.slice.wt xs) := Sz.slice Env.ty (agg := true) Tryz.func82 ⟨by kernel_rfl, by kernel_rfl, by kernel_rfl⟩ (by kernel_rfl) (by simp) xs (fun x h => R165 x (hx.2 x h)) (Env.ty.lenb (by decide) hx)
def A169 : AC := (.seq (.ops [wO 1 (.box (.t 0)), wO 2 (.alloc [(.sc (.string ⟨#[]⟩)), (.sc (.string ⟨#[]⟩))])])
  (.seq (.ops [wO 3 (.alloc [(.sc (.string ⟨#[]⟩)), (.sc (.string ⟨#[]⟩))])])
  (.seq (.ops [qO 4 (.fadr 0 (.t 1)), qO 5 (.load false 1 (.t 4)), qO 6 (.fadr 0 (.t 3)), nO (.store 1 (.t 6) (.t 5))])
  (.seq (.ops [qO 7 (.fadr 1 (.t 1)), qO 8 (.load false 1 (.t 7)), qO 9 (.fadr 1 (.t 3)), nO (.store 1 (.t 9) (.t 8))])
  (.seq (.ops [qO 10 (.load true 2 (.t 3)), nO (.store 2 (.t 2) (.t 10))])
  .ret)))))
theorem K169 : Kf Tryz.prog Tryz.f169 A169 11 [.load true 2 (.t 2)] := ⟨by kernel_rfl, by kernel_rfl, by kernel_rfl⟩
theorem R169 (x : Env) (hx : Env.ty.ok x) : Ret Tryz.prog 169 [.agg (Env.ty.cs x)] (.agg (Env.ty.oc x)) [.un] := by
  obtain ⟨o0, o1, _⟩ := hx
  refine Ret.run Tryz.func169 K169 (by simp) rfl rfl 500 ?_
  simp [A169, iniρ, Env.cse, over, ex1, Env.oce]
theorem R87 (xs : List Env) (hx : Env.ty.slice.ok xs) : Ret Tryz.prog 87 [.ro (rows Env.ty.cs xs) xs.length] (.own (rows Env.ty.oc xs) xs.length 2) [.un] := Ret.toS Env.ty Tryz.func87 ⟨by kernel_rfl, by kernel_rfl, by kernel_rfl⟩ (by kernel_rfl) (fun x h => R169 x h) (by decide) (by decide) xs hx
def A173 : AC := (.seq (.ops [wO 2 (.box (.t 0)), wO 3 (.box (.t 1)), qO 4 (.mov (.c (.sc (.bool false))))])
  (.seq (.seq (.ops [qO 5 (.fadr 0 (.t 2)), qO 6 (.load false 1 (.t 5)), qO 7 (.fadr 0 (.t 3)), qO 8 (.load false 1 (.t 7)), qO 9 (.bin .neq (.t 6) (.t 8))])
  (.cond (.t 9) (.seq (.ops [qO 4 (.mov (.c (.sc (.bool false))))])
  .ret)
  .skip))
  (.seq (.seq (.ops [qO 10 (.fadr 1 (.t 2)), qO 11 (.load false 1 (.t 10)), qO 12 (.fadr 1 (.t 3)), qO 13 (.load false 1 (.t 12)), qO 14 (.bin .neq (.t 11) (.t 13))])
  (.cond (.t 14) (.seq (.ops [qO 4 (.mov (.c (.sc (.bool false))))])
  .ret)
  .skip))
  (.seq (.ops [qO 4 (.mov (.c (.sc (.bool true))))])
  .ret))))
theorem K173 : Kf Tryz.prog Tryz.f173 A173 15 [.mov (.t 4)] := ⟨by kernel_rfl, by kernel_rfl, by kernel_rfl⟩
theorem R173 (x : Env) (hx : Env.ty.ok x) : Ret Tryz.prog 173 [.agg (Env.ty.cs x), .agg (Env.ty.cs x)] (.sc (.bool true)) [.un, .un] := by
  obtain ⟨o0, o1, _⟩ := hx
  refine Ret.run Tryz.func173 K173 (by simp) rfl rfl 500 ?_
  simp [A173, iniρ, Env.cse]
theorem R92 (xs : List Env) (hx : Env.ty.slice.ok xs) : Ret Tryz.prog 92 [.ro (rows Env.ty.cs xs) xs.length, .ro (rows Env.ty.cs xs) xs.length] (.sc (.bool true)) [.un, .un] := Ret.eqS mixed Env.ty (agg := true) Tryz.func92 ⟨by kernel_rfl, by kernel_rfl, by kernel_rfl⟩ (by kernel_rfl) (by simp) xs (fun x h => R173 x (hx.2 x h)) (Env.ty.lenb (by decide) hx)
def A166 : AC := (.seq (.ops [wO 2 (.box (.t 0)), qO 4 (.mov (iC 0))])
  (.seq (.ops [qO 5 (.mov (.t 1)), qO 6 (.fadr 0 (.t 2)), qO 7 (.load false 1 (.t 6)), qO 8 (.slen (.t 7)), qO 9 (.bin .sub (.t 5) (.t 8)), qO 1 (.mov (.t 9))])
  (.seq (.seq (.ops [qO 10 (.mov (.t 1)), qO 11 (.bin .lss (.t 10) (iC 0))])
  (.cond (.t 11) (.seq (.ops [qO 4 (.mov (iC (-1)))])
  .ret)
  .skip))
  (.seq (.ops [qO 12 (.fadr 1 (.t 2)), qO 13 (.load false 1 (.t 12)), qO 14 (.mov (.t 1)), cO 15 81 [.t 13, .t 14], qO 1 (.mov (.t 15))])
  (.seq (.seq (.ops [qO 16 (.mov (.t 1)), qO 17 (.bin .lss (.t 16) (iC 0))])
  (.cond (.t 17) (.seq (.ops [qO 4 (.mov (iC (-1)))])
  .ret)
  .skip))
  (.seq (.ops [qO 18 (.mov (.t 1)), qO 19 (.fadr 2 (.t 2)), qO 20 (.load false 1 (.t 19)), qO 21 (.slen (.t 20)), qO 22 (.bin .sub (.t 18) (.t 21)), qO 1 (.mov (.t 22))])
  (.seq (.seq (.ops [qO 23 (.mov (.t 1)), qO 24 (.bin .lss (.t 23) (iC 0))])
  (.cond (.t 24) (.seq (.ops [qO 4 (.mov (iC (-1)))])
  .ret)
  .skip))
  (.seq (.ops [qO 25 (.mov (.t 1)), qO 4 (.mov (.t 25))])
  .ret))))))))
theorem K166 : Kf Tryz.prog Tryz.f166 A166 26 [.mov (.t 4)] := ⟨by kernel_rfl, by kernel_rfl, by kernel_rfl⟩
theorem R166 (x : Made) (hx : Made.ty.ok x) : Sz Tryz.prog 166 (.agg (Made.ty.cs x)) (Made.ty.wt x) := by
  intro l h0 h1
  obtain ⟨o0, o1, o2, _⟩ := hx
  have o0 : x.task.size ≤ 140737488351232 := o0
  have w0 : IntKind.i64.wrap (l - x.task.size) = l - x.task.size := Ya (by omega) (by omega)
  by_cases n0 : l - (x.task.size : Int) < 0
  · refine ⟨-1, .inl (by decide), ?_⟩
    refine Ret.run Tryz.func166 K166 (by simp) rfl rfl 500 ?_
    simp [A166, iniρ, Made.cse, w0, n0]
    try omega
  have p0 : 0 ≤ (l - (x.task.size : Int)) := by omega
  obtain ⟨m1, e1, q1⟩ := R81 x.outs o1 (l - (x.task.size : Int)) (by omega) (by omega)
  by_cases n1 : m1 < 0
  · refine ⟨-1, .inl (by decide), ?_⟩
    refine Ret.run Tryz.func166 K166 (by simp) rfl rfl 500 ?_
    simp [A166, iniρ, Made.cse, w0, n0, n1]
    refine callK.ro 0 rfl (by kernel_rfl) (by simp [ya, zd, yd, Made.cse]) q1 rfl rfl rfl ?_
    simp [w0, n0, n1, Made.cse]
  have e1 : m1 = (l - (x.task.size : Int)) - ((x.outs.length + wtL File.ty.wt x.outs : Nat) : Int) := e1.resolve_left n1
  have o2 : x.log.size ≤ 140737488351232 := o2
  have w2 : IntKind.i64.wrap (m1 - x.log.size) = m1 - x.log.size := Ya (by omega) (by omega)
  by_cases n2 : m1 - (x.log.size : Int) < 0
  · refine ⟨-1, .inl (by decide), ?_⟩
    refine Ret.run Tryz.func166 K166 (by simp) rfl rfl 500 ?_
    simp [A166, iniρ, Made.cse, w0, n0, n1, w2, n2]
    refine callK.ro 0 rfl (by kernel_rfl) (by simp [ya, zd, yd, Made.cse]) q1 rfl rfl rfl ?_
    simp [w0, n0, n1, w2, n2, Made.cse]
    try omega
  have p2 : 0 ≤ (m1 - (x.log.size : Int)) := by omega
  refine ⟨(m1 - (x.log.size : Int)), .inr ?_, ?_⟩
  · rw [Made.wte]; omega
  refine Ret.run Tryz.func166 K166 (by simp) rfl rfl 500 ?_
  simp [A166, iniρ, Made.cse, w0, n0, n1, w2, n2]
  refine callK.ro 0 rfl (by kernel_rfl) (by simp [ya, zd, yd, Made.cse]) q1 rfl rfl rfl ?_
  simp [w0, n0, n1, w2, n2, Made.cse]
theorem R83 (xs : List Made) (hx : Made.ty.slice.ok xs) : Sz Tryz.prog 83 (.ro (rows Made.ty.cs xs) xs.length) (Made.ty.slice.wt xs) := Sz.slice Made.ty (agg := true) Tryz.func83 ⟨by kernel_rfl, by kernel_rfl, by kernel_rfl⟩ (by kernel_rfl) (by simp) xs (fun x h => R166 x (hx.2 x h)) (Made.ty.lenb (by decide) hx)
def A170 : AC := (.seq (.ops [wO 1 (.box (.t 0)), wO 2 (.alloc [(.sc (.string ⟨#[]⟩)), .em, (.sc (.string ⟨#[]⟩))])])
  (.seq (.ops [wO 3 (.alloc [(.sc (.string ⟨#[]⟩)), .em, (.sc (.string ⟨#[]⟩))])])
  (.seq (.ops [qO 4 (.fadr 0 (.t 1)), qO 5 (.load false 1 (.t 4)), qO 6 (.fadr 0 (.t 3)), nO (.store 1 (.t 6) (.t 5))])
  (.seq (.ops [qO 7 (.fadr 1 (.t 1)), qO 8 (.load false 1 (.t 7)), cO 9 86 [.t 8], qO 10 (.fadr 1 (.t 3)), nO (.store 1 (.t 10) (.t 9))])
  (.seq (.ops [qO 11 (.fadr 2 (.t 1)), qO 12 (.load false 1 (.t 11)), qO 13 (.fadr 2 (.t 3)), nO (.store 1 (.t 13) (.t 12))])
  (.seq (.ops [qO 14 (.load true 3 (.t 3)), nO (.store 3 (.t 2) (.t 14))])
  .ret))))))
theorem K170 : Kf Tryz.prog Tryz.f170 A170 15 [.load true 3 (.t 2)] := ⟨by kernel_rfl, by kernel_rfl, by kernel_rfl⟩
theorem R170 (x : Made) (hx : Made.ty.ok x) : Ret Tryz.prog 170 [.agg (Made.ty.cs x)] (.agg (Made.ty.oc x)) [.un] := by
  obtain ⟨o0, o1, o2, _⟩ := hx
  refine Ret.run Tryz.func170 K170 (by simp) rfl rfl 500 ?_
  simp [A170, iniρ, Made.cse, over, ex1, Made.oce, File.ocl, File.frL]
  refine callK.own 501 rfl (by kernel_rfl) (by simp [ya, zd, yd, Made.cse]) (R86 x.outs o1) (File.ty.flo x.outs) (by simp) rfl ?_
  simp [over, ex1, Made.oce, File.ocl, File.frL]
theorem R88 (xs : List Made) (hx : Made.ty.slice.ok xs) : Ret Tryz.prog 88 [.ro (rows Made.ty.cs xs) xs.length] (.own (rows Made.ty.oc xs) xs.length 3) [.un] := Ret.toS Made.ty Tryz.func88 ⟨by kernel_rfl, by kernel_rfl, by kernel_rfl⟩ (by kernel_rfl) (fun x h => R170 x h) (by decide) (by decide) xs hx
def A30 : AC := (.seq (.ops [wO 2 (.box (.t 0)), wO 3 (.box (.t 1)), qO 4 (.mov (.c (.sc (.bool false))))])
  (.seq (.seq (.ops [qO 5 (.fadr 0 (.t 2)), qO 6 (.load false 1 (.t 5)), qO 7 (.fadr 0 (.t 3)), qO 8 (.load false 1 (.t 7)), qO 9 (.bin .neq (.t 6) (.t 8))])
  (.cond (.t 9) (.seq (.ops [qO 4 (.mov (.c (.sc (.bool false))))])
  .ret)
  .skip))
  (.seq (.seq (.ops [qO 10 (.fadr 1 (.t 2)), qO 11 (.load false 1 (.t 10)), qO 12 (.fadr 1 (.t 3)), qO 13 (.load false 1 (.t 12)), cO 14 90 [.t 11, .t 13], qO 15 (.not (.t 14))])
  (.cond (.t 15) (.seq (.ops [qO 4 (.mov (.c (.sc (.bool false))))])
  .ret)
  .skip))
  (.seq (.seq (.ops [qO 16 (.fadr 2 (.t 2)), qO 17 (.load false 1 (.t 16)), qO 18 (.fadr 2 (.t 3)), qO 19 (.load false 1 (.t 18)), qO 20 (.bin .neq (.t 17) (.t 19))])
  (.cond (.t 20) (.seq (.ops [qO 4 (.mov (.c (.sc (.bool false))))])
  .ret)
  .skip))
  (.seq (.ops [qO 4 (.mov (.c (.sc (.bool true))))])
  .ret)))))
theorem K30 : Kf Tryz.prog Tryz.f30 A30 21 [.mov (.t 4)] := ⟨by kernel_rfl, by kernel_rfl, by kernel_rfl⟩
theorem R30 (x : Made) (hx : Made.ty.ok x) : Ret Tryz.prog 30 [.agg (Made.ty.cs x), .agg (Made.ty.cs x)] (.sc (.bool true)) [.un, .un] := by
  obtain ⟨o0, o1, o2, _⟩ := hx
  refine Ret.run Tryz.func30 K30 (by simp) rfl rfl 500 ?_
  simp [A30, iniρ, Made.cse]
  refine callK.ro 0 rfl (by kernel_rfl) (by simp [ya, zd, yd, Made.cse]) (R90 x.outs o1) rfl rfl rfl ?_
  simp [Made.cse]
theorem R93 (xs : List Made) (hx : Made.ty.slice.ok xs) : Ret Tryz.prog 93 [.ro (rows Made.ty.cs xs) xs.length, .ro (rows Made.ty.cs xs) xs.length] (.sc (.bool true)) [.un, .un] := Ret.eqS mixed Made.ty (agg := true) Tryz.func93 ⟨by kernel_rfl, by kernel_rfl, by kernel_rfl⟩ (by kernel_rfl) (by simp) xs (fun x h => R30 x (hx.2 x h)) (Made.ty.lenb (by decide) hx)
def A79 : AC := (.seq (.ops [wO 2 (.box (.t 0)), qO 4 (.mov (iC 0))])
  (.seq (.ops [qO 5 (.fadr 0 (.t 2)), qO 6 (.load false 1 (.t 5)), qO 7 (.mov (.t 1)), cO 8 163 [.t 6, .t 7], qO 1 (.mov (.t 8))])
  (.seq (.seq (.ops [qO 9 (.mov (.t 1)), qO 10 (.bin .lss (.t 9) (iC 0))])
  (.cond (.t 10) (.seq (.ops [qO 4 (.mov (iC (-1)))])
  .ret)
  .skip))
  (.seq (.ops [qO 11 (.fadr 1 (.t 2)), qO 12 (.load false 1 (.t 11)), qO 13 (.mov (.t 1)), cO 14 163 [.t 12, .t 13], qO 1 (.mov (.t 14))])
  (.seq (.seq (.ops [qO 15 (.mov (.t 1)), qO 16 (.bin .lss (.t 15) (iC 0))])
  (.cond (.t 16) (.seq (.ops [qO 4 (.mov (iC (-1)))])
  .ret)
  .skip))
  (.seq (.ops [qO 17 (.mov (.t 1)), qO 4 (.mov (.t 17))])
  .ret))))))
theorem K79 : Kf Tryz.prog Tryz.f79 A79 18 [.mov (.t 4)] := ⟨by kernel_rfl, by kernel_rfl, by kernel_rfl⟩
theorem R79 (x : Slot) (hx : Slot.ty.ok x) : Sz Tryz.prog 79 (.agg (Slot.ty.cs x)) (Slot.ty.wt x) := by
  intro l h0 h1
  obtain ⟨o0, o1, _⟩ := hx
  obtain ⟨m0, e0, q0⟩ := R163 x.key o0 l (by omega) (by omega)
  by_cases n0 : m0 < 0
  · refine ⟨-1, .inl (by decide), ?_⟩
    refine Ret.run Tryz.func79 K79 (by simp) rfl rfl 500 ?_
    simp [A79, iniρ, Slot.cse, n0]
    refine callK.ro 0 rfl (by kernel_rfl) (by simp [ya, zd, yd, Slot.cse]) q0 rfl rfl rfl ?_
    simp [n0, Slot.cse]
  have e0 : m0 = l - ((x.key.length + wtL Ty.byte.wt x.key : Nat) : Int) := e0.resolve_left n0
  obtain ⟨m1, e1, q1⟩ := R163 x.b o1 m0 (by omega) (by omega)
  by_cases n1 : m1 < 0
  · refine ⟨-1, .inl (by decide), ?_⟩
    refine Ret.run Tryz.func79 K79 (by simp) rfl rfl 500 ?_
    simp [A79, iniρ, Slot.cse, n0, n1]
    refine callK.ro 0 rfl (by kernel_rfl) (by simp [ya, zd, yd, Slot.cse]) q0 rfl rfl rfl ?_
    simp [n0, n1, Slot.cse]
    refine callK.ro 0 rfl (by kernel_rfl) (by simp [ya, zd, yd, Slot.cse]) q1 rfl rfl rfl ?_
    simp [n0, n1, Slot.cse]
  have e1 : m1 = m0 - ((x.b.length + wtL Ty.byte.wt x.b : Nat) : Int) := e1.resolve_left n1
  refine ⟨m1, .inr ?_, ?_⟩
  · rw [Slot.wte]; omega
  refine Ret.run Tryz.func79 K79 (by simp) rfl rfl 500 ?_
  simp [A79, iniρ, Slot.cse, n0, n1]
  refine callK.ro 0 rfl (by kernel_rfl) (by simp [ya, zd, yd, Slot.cse]) q0 rfl rfl rfl ?_
  simp [n0, n1, Slot.cse]
  refine callK.ro 0 rfl (by kernel_rfl) (by simp [ya, zd, yd, Slot.cse]) q1 rfl rfl rfl ?_
  simp [n0, n1, Slot.cse]
theorem R25 (xs : List Slot) (hx : Slot.ty.slice.ok xs) : Sz Tryz.prog 25 (.ro (rows Slot.ty.cs xs) xs.length) (Slot.ty.slice.wt xs) := Sz.slice Slot.ty (agg := true) Tryz.func25 ⟨by kernel_rfl, by kernel_rfl, by kernel_rfl⟩ (by kernel_rfl) (by simp) xs (fun x h => R79 x (hx.2 x h)) (Slot.ty.lenb (by decide) hx)
def A84 : AC := (.seq (.ops [wO 1 (.box (.t 0)), wO 2 (.alloc [.em, .em])])
  (.seq (.ops [wO 3 (.alloc [.em, .em])])
  (.seq (.ops [qO 4 (.fadr 0 (.t 1)), qO 5 (.load false 1 (.t 4)), cO 6 167 [.t 5], qO 7 (.fadr 0 (.t 3)), nO (.store 1 (.t 7) (.t 6))])
  (.seq (.ops [qO 8 (.fadr 1 (.t 1)), qO 9 (.load false 1 (.t 8)), cO 10 167 [.t 9], qO 11 (.fadr 1 (.t 3)), nO (.store 1 (.t 11) (.t 10))])
  (.seq (.ops [qO 12 (.load true 2 (.t 3)), nO (.store 2 (.t 2) (.t 12))])
  .ret)))))
theorem K84 : Kf Tryz.prog Tryz.f84 A84 13 [.load true 2 (.t 2)] := ⟨by kernel_rfl, by kernel_rfl, by kernel_rfl⟩
theorem R84 (x : Slot) (hx : Slot.ty.ok x) : Ret Tryz.prog 84 [.agg (Slot.ty.cs x)] (.agg (Slot.ty.oc x)) [.un] := by
  obtain ⟨o0, o1, _⟩ := hx
  refine Ret.run Tryz.func84 K84 (by simp) rfl rfl 500 ?_
  simp [A84, iniρ, Slot.cse, over, ex1, Slot.oce, zbW, Ty.byte.frL]
  refine callK.own 500 rfl (by kernel_rfl) (by simp [ya, zd, yd, Slot.cse]) (R167 x.key o0) (Ty.byte.flo x.key) (by simp) rfl ?_
  simp [over, ex1, Slot.oce, zbW, Ty.byte.frL]
  refine callK.own 501 rfl (by kernel_rfl) (by simp [ya, zd, yd, Slot.cse]) (R167 x.b o1) (Ty.byte.flo x.b) (by simp) rfl ?_
  simp [over, ex1, Slot.oce, zbW, Ty.byte.frL]
theorem R27 (xs : List Slot) (hx : Slot.ty.slice.ok xs) : Ret Tryz.prog 27 [.ro (rows Slot.ty.cs xs) xs.length] (.own (rows Slot.ty.oc xs) xs.length 2) [.un] := Ret.toS Slot.ty Tryz.func27 ⟨by kernel_rfl, by kernel_rfl, by kernel_rfl⟩ (by kernel_rfl) (fun x h => R84 x h) (by decide) (by decide) xs hx
def A89 : AC := (.seq (.ops [wO 2 (.box (.t 0)), wO 3 (.box (.t 1)), qO 4 (.mov (.c (.sc (.bool false))))])
  (.seq (.seq (.ops [qO 5 (.fadr 0 (.t 2)), qO 6 (.load false 1 (.t 5)), qO 7 (.fadr 0 (.t 3)), qO 8 (.load false 1 (.t 7)), cO 9 171 [.t 6, .t 8], qO 10 (.not (.t 9))])
  (.cond (.t 10) (.seq (.ops [qO 4 (.mov (.c (.sc (.bool false))))])
  .ret)
  .skip))
  (.seq (.seq (.ops [qO 11 (.fadr 1 (.t 2)), qO 12 (.load false 1 (.t 11)), qO 13 (.fadr 1 (.t 3)), qO 14 (.load false 1 (.t 13)), cO 15 171 [.t 12, .t 14], qO 16 (.not (.t 15))])
  (.cond (.t 16) (.seq (.ops [qO 4 (.mov (.c (.sc (.bool false))))])
  .ret)
  .skip))
  (.seq (.ops [qO 4 (.mov (.c (.sc (.bool true))))])
  .ret))))
theorem K89 : Kf Tryz.prog Tryz.f89 A89 17 [.mov (.t 4)] := ⟨by kernel_rfl, by kernel_rfl, by kernel_rfl⟩
theorem R89 (x : Slot) (hx : Slot.ty.ok x) : Ret Tryz.prog 89 [.agg (Slot.ty.cs x), .agg (Slot.ty.cs x)] (.sc (.bool true)) [.un, .un] := by
  obtain ⟨o0, o1, _⟩ := hx
  refine Ret.run Tryz.func89 K89 (by simp) rfl rfl 500 ?_
  simp [A89, iniρ, Slot.cse]
  refine callK.ro 0 rfl (by kernel_rfl) (by simp [ya, zd, yd, Slot.cse]) (R171 x.key o0) rfl rfl rfl ?_
  simp [Slot.cse]
  refine callK.ro 0 rfl (by kernel_rfl) (by simp [ya, zd, yd, Slot.cse]) (R171 x.b o1) rfl rfl rfl ?_
  simp [Slot.cse]
theorem R29 (xs : List Slot) (hx : Slot.ty.slice.ok xs) : Ret Tryz.prog 29 [.ro (rows Slot.ty.cs xs) xs.length, .ro (rows Slot.ty.cs xs) xs.length] (.sc (.bool true)) [.un, .un] := Ret.eqS mixed Slot.ty (agg := true) Tryz.func29 ⟨by kernel_rfl, by kernel_rfl, by kernel_rfl⟩ (by kernel_rfl) (by simp) xs (fun x h => R89 x (hx.2 x h)) (Slot.ty.lenb (by decide) hx)
def A26 : AC := (.seq (.ops [wO 2 (.box (.t 0)), qO 4 (.mov (iC 0))])
  (.seq (.ops [qO 5 (.mov (.t 1)), qO 6 (.fadr 0 (.t 2)), qO 7 (.load false 1 (.t 6)), qO 8 (.slen (.t 7)), qO 9 (.bin .sub (.t 5) (.t 8)), qO 1 (.mov (.t 9))])
  (.seq (.seq (.ops [qO 10 (.mov (.t 1)), qO 11 (.bin .lss (.t 10) (iC 0))])
  (.cond (.t 11) (.seq (.ops [qO 4 (.mov (iC (-1)))])
  .ret)
  .skip))
  (.seq (.ops [qO 12 (.fadr 1 (.t 2)), qO 13 (.load false 1 (.t 12)), qO 14 (.mov (.t 1)), cO 15 80 [.t 13, .t 14], qO 1 (.mov (.t 15))])
  (.seq (.seq (.ops [qO 16 (.mov (.t 1)), qO 17 (.bin .lss (.t 16) (iC 0))])
  (.cond (.t 17) (.seq (.ops [qO 4 (.mov (iC (-1)))])
  .ret)
  .skip))
  (.seq (.ops [qO 18 (.fadr 2 (.t 2)), qO 19 (.load false 1 (.t 18)), qO 20 (.mov (.t 1)), cO 21 81 [.t 19, .t 20], qO 1 (.mov (.t 21))])
  (.seq (.seq (.ops [qO 22 (.mov (.t 1)), qO 23 (.bin .lss (.t 22) (iC 0))])
  (.cond (.t 23) (.seq (.ops [qO 4 (.mov (iC (-1)))])
  .ret)
  .skip))
  (.seq (.ops [qO 24 (.fadr 3 (.t 2)), qO 25 (.load false 1 (.t 24)), qO 26 (.mov (.t 1)), cO 27 82 [.t 25, .t 26], qO 1 (.mov (.t 27))])
  (.seq (.seq (.ops [qO 28 (.mov (.t 1)), qO 29 (.bin .lss (.t 28) (iC 0))])
  (.cond (.t 29) (.seq (.ops [qO 4 (.mov (iC (-1)))])
  .ret)
  .skip))
  (.seq (.ops [qO 30 (.fadr 4 (.t 2)), qO 31 (.load false 1 (.t 30)), qO 32 (.mov (.t 1)), cO 33 83 [.t 31, .t 32], qO 1 (.mov (.t 33))])
  (.seq (.seq (.ops [qO 34 (.mov (.t 1)), qO 35 (.bin .lss (.t 34) (iC 0))])
  (.cond (.t 35) (.seq (.ops [qO 4 (.mov (iC (-1)))])
  .ret)
  .skip))
  (.seq (.ops [qO 36 (.mov (.t 1)), qO 4 (.mov (.t 36))])
  .ret))))))))))))
theorem K26 : Kf Tryz.prog Tryz.f26 A26 37 [.mov (.t 4)] := ⟨by kernel_rfl, by kernel_rfl, by kernel_rfl⟩
theorem R26 (x : Job) (hx : Job.ty.ok x) : Sz Tryz.prog 26 (.agg (Job.ty.cs x)) (Job.ty.wt x) := by
  intro l h0 h1
  obtain ⟨o0, o1, o2, o3, o4, _⟩ := hx
  have o0 : x.name.size ≤ 140737488351232 := o0
  have w0 : IntKind.i64.wrap (l - x.name.size) = l - x.name.size := Ya (by omega) (by omega)
  by_cases n0 : l - (x.name.size : Int) < 0
  · refine ⟨-1, .inl (by decide), ?_⟩
    refine Ret.run Tryz.func26 K26 (by simp) rfl rfl 500 ?_
    simp [A26, iniρ, Job.cse, w0, n0]
    try omega
  have p0 : 0 ≤ (l - (x.name.size : Int)) := by omega
  obtain ⟨m1, e1, q1⟩ := R80 x.acts o1 (l - (x.name.size : Int)) (by omega) (by omega)
  by_cases n1 : m1 < 0
  · refine ⟨-1, .inl (by decide), ?_⟩
    refine Ret.run Tryz.func26 K26 (by simp) rfl rfl 500 ?_
    simp [A26, iniρ, Job.cse, w0, n0, n1]
    refine callK.ro 0 rfl (by kernel_rfl) (by simp [ya, zd, yd, Job.cse]) q1 rfl rfl rfl ?_
    simp [w0, n0, n1, Job.cse]
  have e1 : m1 = (l - (x.name.size : Int)) - ((x.acts.length + wtL Ty.str.wt x.acts : Nat) : Int) := e1.resolve_left n1
  obtain ⟨m2, e2, q2⟩ := R81 x.ins o2 m1 (by omega) (by omega)
  by_cases n2 : m2 < 0
  · refine ⟨-1, .inl (by decide), ?_⟩
    refine Ret.run Tryz.func26 K26 (by simp) rfl rfl 500 ?_
    simp [A26, iniρ, Job.cse, w0, n0, n1, n2]
    refine callK.ro 0 rfl (by kernel_rfl) (by simp [ya, zd, yd, Job.cse]) q1 rfl rfl rfl ?_
    simp [w0, n0, n1, n2, Job.cse]
    refine callK.ro 0 rfl (by kernel_rfl) (by simp [ya, zd, yd, Job.cse]) q2 rfl rfl rfl ?_
    simp [w0, n0, n1, n2, Job.cse]
  have e2 : m2 = m1 - ((x.ins.length + wtL File.ty.wt x.ins : Nat) : Int) := e2.resolve_left n2
  obtain ⟨m3, e3, q3⟩ := R82 x.envs o3 m2 (by omega) (by omega)
  by_cases n3 : m3 < 0
  · refine ⟨-1, .inl (by decide), ?_⟩
    refine Ret.run Tryz.func26 K26 (by simp) rfl rfl 500 ?_
    simp [A26, iniρ, Job.cse, w0, n0, n1, n2, n3]
    refine callK.ro 0 rfl (by kernel_rfl) (by simp [ya, zd, yd, Job.cse]) q1 rfl rfl rfl ?_
    simp [w0, n0, n1, n2, n3, Job.cse]
    refine callK.ro 0 rfl (by kernel_rfl) (by simp [ya, zd, yd, Job.cse]) q2 rfl rfl rfl ?_
    simp [w0, n0, n1, n2, n3, Job.cse]
    refine callK.ro 0 rfl (by kernel_rfl) (by simp [ya, zd, yd, Job.cse]) q3 rfl rfl rfl ?_
    simp [w0, n0, n1, n2, n3, Job.cse]
  have e3 : m3 = m2 - ((x.envs.length + wtL Env.ty.wt x.envs : Nat) : Int) := e3.resolve_left n3
  obtain ⟨m4, e4, q4⟩ := R83 x.deps o4 m3 (by omega) (by omega)
  by_cases n4 : m4 < 0
  · refine ⟨-1, .inl (by decide), ?_⟩
    refine Ret.run Tryz.func26 K26 (by simp) rfl rfl 500 ?_
    simp [A26, iniρ, Job.cse, w0, n0, n1, n2, n3, n4]
    refine callK.ro 0 rfl (by kernel_rfl) (by simp [ya, zd, yd, Job.cse]) q1 rfl rfl rfl ?_
    simp [w0, n0, n1, n2, n3, n4, Job.cse]
    refine callK.ro 0 rfl (by kernel_rfl) (by simp [ya, zd, yd, Job.cse]) q2 rfl rfl rfl ?_
    simp [w0, n0, n1, n2, n3, n4, Job.cse]
    refine callK.ro 0 rfl (by kernel_rfl) (by simp [ya, zd, yd, Job.cse]) q3 rfl rfl rfl ?_
    simp [w0, n0, n1, n2, n3, n4, Job.cse]
    refine callK.ro 0 rfl (by kernel_rfl) (by simp [ya, zd, yd, Job.cse]) q4 rfl rfl rfl ?_
    simp [w0, n0, n1, n2, n3, n4, Job.cse]
  have e4 : m4 = m3 - ((x.deps.length + wtL Made.ty.wt x.deps : Nat) : Int) := e4.resolve_left n4
  refine ⟨m4, .inr ?_, ?_⟩
  · rw [Job.wte]; omega
  refine Ret.run Tryz.func26 K26 (by simp) rfl rfl 500 ?_
  simp [A26, iniρ, Job.cse, w0, n0, n1, n2, n3, n4]
  refine callK.ro 0 rfl (by kernel_rfl) (by simp [ya, zd, yd, Job.cse]) q1 rfl rfl rfl ?_
  simp [w0, n0, n1, n2, n3, n4, Job.cse]
  refine callK.ro 0 rfl (by kernel_rfl) (by simp [ya, zd, yd, Job.cse]) q2 rfl rfl rfl ?_
  simp [w0, n0, n1, n2, n3, n4, Job.cse]
  refine callK.ro 0 rfl (by kernel_rfl) (by simp [ya, zd, yd, Job.cse]) q3 rfl rfl rfl ?_
  simp [w0, n0, n1, n2, n3, n4, Job.cse]
  refine callK.ro 0 rfl (by kernel_rfl) (by simp [ya, zd, yd, Job.cse]) q4 rfl rfl rfl ?_
  simp [w0, n0, n1, n2, n3, n4, Job.cse]
def A28 : AC := (.seq (.ops [wO 1 (.box (.t 0)), wO 2 (.alloc [(.sc (.string ⟨#[]⟩)), .em, .em, .em, .em])])
  (.seq (.ops [wO 3 (.alloc [(.sc (.string ⟨#[]⟩)), .em, .em, .em, .em])])
  (.seq (.ops [qO 4 (.fadr 0 (.t 1)), qO 5 (.load false 1 (.t 4)), qO 6 (.fadr 0 (.t 3)), nO (.store 1 (.t 6) (.t 5))])
  (.seq (.ops [qO 7 (.fadr 1 (.t 1)), qO 8 (.load false 1 (.t 7)), cO 9 85 [.t 8], qO 10 (.fadr 1 (.t 3)), nO (.store 1 (.t 10) (.t 9))])
  (.seq (.ops [qO 11 (.fadr 2 (.t 1)), qO 12 (.load false 1 (.t 11)), cO 13 86 [.t 12], qO 14 (.fadr 2 (.t 3)), nO (.store 1 (.t 14) (.t 13))])
  (.seq (.ops [qO 15 (.fadr 3 (.t 1)), qO 16 (.load false 1 (.t 15)), cO 17 87 [.t 16], qO 18 (.fadr 3 (.t 3)), nO (.store 1 (.t 18) (.t 17))])
  (.seq (.ops [qO 19 (.fadr 4 (.t 1)), qO 20 (.load false 1 (.t 19)), cO 21 88 [.t 20], qO 22 (.fadr 4 (.t 3)), nO (.store 1 (.t 22) (.t 21))])
  (.seq (.ops [qO 23 (.load true 5 (.t 3)), nO (.store 5 (.t 2) (.t 23))])
  .ret))))))))
theorem K28 : Kf Tryz.prog Tryz.f28 A28 24 [.load true 5 (.t 2)] := ⟨by kernel_rfl, by kernel_rfl, by kernel_rfl⟩
theorem R28 (x : Job) (hx : Job.ty.ok x) : Ret Tryz.prog 28 [.agg (Job.ty.cs x)] (.agg (Job.ty.oc x)) [.un] := by
  obtain ⟨o0, o1, o2, o3, o4, _⟩ := hx
  refine Ret.run Tryz.func28 K28 (by simp) rfl rfl 500 ?_
  simp [A28, iniρ, Job.cse, over, ex1, Job.oce, zQ, Ty.str.frL, File.ocl, File.frL, Env.ocl, Env.frL, Made.ocl, Made.frL]
  refine callK.own 501 rfl (by kernel_rfl) (by simp [ya, zd, yd, Job.cse]) (R85 x.acts o1) (Ty.str.flo x.acts) (by simp) rfl ?_
  simp [over, ex1, Job.oce, zQ, Ty.str.frL, File.ocl, File.frL, Env.ocl, Env.frL, Made.ocl, Made.frL]
  refine callK.own 502 rfl (by kernel_rfl) (by simp [ya, zd, yd, Job.cse]) (R86 x.ins o2) (File.ty.flo x.ins) (by simp) rfl ?_
  simp [over, ex1, Job.oce, zQ, Ty.str.frL, File.ocl, File.frL, Env.ocl, Env.frL, Made.ocl, Made.frL]
  refine callK.own 503 rfl (by kernel_rfl) (by simp [ya, zd, yd, Job.cse]) (R87 x.envs o3) (Env.ty.flo x.envs) (by simp) rfl ?_
  simp [over, ex1, Job.oce, zQ, Ty.str.frL, File.ocl, File.frL, Env.ocl, Env.frL, Made.ocl, Made.frL]
  refine callK.own 504 rfl (by kernel_rfl) (by simp [ya, zd, yd, Job.cse]) (R88 x.deps o4) (Made.ty.flo x.deps) (by simp) rfl ?_
  simp [over, ex1, Job.oce, zQ, Ty.str.frL, File.ocl, File.frL, Env.ocl, Env.frL, Made.ocl, Made.frL]
def A31 : AC := (.seq (.ops [wO 2 (.box (.t 0)), wO 3 (.box (.t 1)), qO 4 (.mov (.c (.sc (.bool false))))])
  (.seq (.seq (.ops [qO 5 (.fadr 0 (.t 2)), qO 6 (.load false 1 (.t 5)), qO 7 (.fadr 0 (.t 3)), qO 8 (.load false 1 (.t 7)), qO 9 (.bin .neq (.t 6) (.t 8))])
  (.cond (.t 9) (.seq (.ops [qO 4 (.mov (.c (.sc (.bool false))))])
  .ret)
  .skip))
  (.seq (.seq (.ops [qO 10 (.fadr 1 (.t 2)), qO 11 (.load false 1 (.t 10)), qO 12 (.fadr 1 (.t 3)), qO 13 (.load false 1 (.t 12)), cO 14 91 [.t 11, .t 13], qO 15 (.not (.t 14))])
  (.cond (.t 15) (.seq (.ops [qO 4 (.mov (.c (.sc (.bool false))))])
  .ret)
  .skip))
  (.seq (.seq (.ops [qO 16 (.fadr 2 (.t 2)), qO 17 (.load false 1 (.t 16)), qO 18 (.fadr 2 (.t 3)), qO 19 (.load false 1 (.t 18)), cO 20 90 [.t 17, .t 19], qO 21 (.not (.t 20))])
  (.cond (.t 21) (.seq (.ops [qO 4 (.mov (.c (.sc (.bool false))))])
  .ret)
  .skip))
  (.seq (.seq (.ops [qO 22 (.fadr 3 (.t 2)), qO 23 (.load false 1 (.t 22)), qO 24 (.fadr 3 (.t 3)), qO 25 (.load false 1 (.t 24)), cO 26 92 [.t 23, .t 25], qO 27 (.not (.t 26))])
  (.cond (.t 27) (.seq (.ops [qO 4 (.mov (.c (.sc (.bool false))))])
  .ret)
  .skip))
  (.seq (.seq (.ops [qO 28 (.fadr 4 (.t 2)), qO 29 (.load false 1 (.t 28)), qO 30 (.fadr 4 (.t 3)), qO 31 (.load false 1 (.t 30)), cO 32 93 [.t 29, .t 31], qO 33 (.not (.t 32))])
  (.cond (.t 33) (.seq (.ops [qO 4 (.mov (.c (.sc (.bool false))))])
  .ret)
  .skip))
  (.seq (.ops [qO 4 (.mov (.c (.sc (.bool true))))])
  .ret)))))))
theorem K31 : Kf Tryz.prog Tryz.f31 A31 34 [.mov (.t 4)] := ⟨by kernel_rfl, by kernel_rfl, by kernel_rfl⟩
theorem R31 (x : Job) (hx : Job.ty.ok x) : Ret Tryz.prog 31 [.agg (Job.ty.cs x), .agg (Job.ty.cs x)] (.sc (.bool true)) [.un, .un] := by
  obtain ⟨o0, o1, o2, o3, o4, _⟩ := hx
  refine Ret.run Tryz.func31 K31 (by simp) rfl rfl 500 ?_
  simp [A31, iniρ, Job.cse]
  refine callK.ro 0 rfl (by kernel_rfl) (by simp [ya, zd, yd, Job.cse]) (R91 x.acts o1) rfl rfl rfl ?_
  simp [Job.cse]
  refine callK.ro 0 rfl (by kernel_rfl) (by simp [ya, zd, yd, Job.cse]) (R90 x.ins o2) rfl rfl rfl ?_
  simp [Job.cse]
  refine callK.ro 0 rfl (by kernel_rfl) (by simp [ya, zd, yd, Job.cse]) (R92 x.envs o3) rfl rfl rfl ?_
  simp [Job.cse]
  refine callK.ro 0 rfl (by kernel_rfl) (by simp [ya, zd, yd, Job.cse]) (R93 x.deps o4) rfl rfl rfl ?_
  simp [Job.cse]
def inR (x a b : Int) : Bool := decide (a ≤ x) && decide (x ≤ b)
def zV (n : Int) : Bool := decide (97 ≤ n) && decide (n ≤ 122)
def figI (n : Int) : Bool := decide (48 ≤ n) && decide (n ≤ 57)
def nameC (i : Nat) (c : UInt8) : Bool := zV (c.toNat : Int) || (decide (i ≠ 0) && (figI (c.toNat : Int) || decide ((c.toNat : Int) = 45)))
def nameL : List UInt8 → Nat → Bool
  | [], _ => true
  | c :: l, i => nameC i c && nameL l (i + 1)
def zx (s : ByteArray) : Bool := nameL s.data.toList 0 && inR s.size 1 10
theorem yU {s : ByteArray} {pre rest : List UInt8} {c : UInt8} (h : pre ++ c :: rest = s.data.toList) : s[pre.length]? = some c := by
  have h2 : s.data.toList[pre.length]? = some c := by rw [← h]; simp
  have hlt : pre.length < s.size := by
    have := (List.getElem?_eq_some_iff.1 h2).1
    simpa using this
  have h3 : s.data[pre.length]? = some c := by rw [← Array.getElem?_toList]; exact h2
  rw [Array.getElem?_eq_some_iff] at h3
  obtain ⟨h4, h5⟩ := h3
  have : s[pre.length]? = some s[pre.length] := getElem?_pos s pre.length hlt
  rw [this]
  congr 1
theorem ZH {s : ByteArray} {l : List UInt8} (h : l = s.data.toList) : s.size = l.length := by subst h; exact Array.length_toList.symm
theorem zfL (a b : List UInt8) : (Op.bytesLess a b || a == b) = !(Op.bytesLess b a) := by
  induction a generalizing b with
  | nil => cases b <;> simp [Op.bytesLess]
  | cons x a ih =>
    cases b with
    | nil => simp [Op.bytesLess]
    | cons y b =>
      simp only [Op.bytesLess]
      by_cases h1 : x < y
      · have h2 : ¬ y < x := fun h => by have := UInt8.lt_iff_toNat_lt.1 h; have := UInt8.lt_iff_toNat_lt.1 h1; omega
        have h3 : ¬ y = x := fun h => by subst h; exact h2 h1
        simp [h1, h2, h3]
      · by_cases h2 : y < x
        · have h3 : ¬ x = y := fun h => by subst h; exact h1 h2
          simp [h1, h2, h3]
        · have h3 : x = y := by
            apply UInt8.toNat_inj.1
            have := mt UInt8.lt_iff_toNat_lt.2 h1; have := mt UInt8.lt_iff_toNat_lt.2 h2; omega
          subst h3
          simp [h1, ih]
def A143 : AC := (.seq (.ops [qO 6 (.mov (.c (.sc (.bool false))))])
  (.seq (.ops [qO 7 (.mov (.t 0)), qO 8 (.mov (.t 1)), qO 9 (.bin .geq (.t 7) (.t 8)), qO 10 (.mov (.t 9)), qG 11 10 true (.mov (.t 0)), qG 12 10 true (.mov (.t 2)), qG 13 10 true (.bin .leq (.t 11) (.t 12)), qO 14 (.pick (.t 10) (.t 13) (.c (.sc (.bool false)))), qO 6 (.mov (.t 14))])
  .ret))
theorem K143 : Kf Tryz.prog Tryz.f143 A143 15 [.mov (.t 6)] := ⟨by kernel_rfl, by kernel_rfl, by kernel_rfl⟩
theorem R143 (x a b : Int) : Ret Tryz.prog 143 [.sc (.int .i64 x), .sc (.int .i64 a), .sc (.int .i64 b)] (.sc (.bool (inR x a b))) [.un, .un, .un] := by
  refine Ret.run Tryz.func143 K143 (by simp) rfl rfl 500 ?_
  by_cases h : a ≤ x <;> simp [A143, iniρ, inR, h]
def A126 : AC := (.seq (.ops [qO 6 (.mov (.c (.sc (.bool false))))])
  (.seq (.ops [qO 7 (.mov (.t 0)), qO 8 (.mov (.t 1)), qO 9 (.bin .geq (.t 7) (.t 8)), qO 10 (.mov (.t 9)), qG 11 10 true (.mov (.t 0)), qG 12 10 true (.mov (.t 2)), qG 13 10 true (.bin .leq (.t 11) (.t 12)), qO 14 (.pick (.t 10) (.t 13) (.c (.sc (.bool false)))), qO 6 (.mov (.t 14))])
  .ret))
theorem K126 : Kf Tryz.prog Tryz.f126 A126 15 [.mov (.t 6)] := ⟨by kernel_rfl, by kernel_rfl, by kernel_rfl⟩
theorem R126 (x a b : Int) : Ret Tryz.prog 126 [.sc (.int .i64 x), .sc (.int .i64 a), .sc (.int .i64 b)] (.sc (.bool (inR x a b))) [.un, .un, .un] := by
  refine Ret.run Tryz.func126 K126 (by simp) rfl rfl 500 ?_
  by_cases h : a ≤ x <;> simp [A126, iniρ, inR, h]
def A124 : AC := (.seq (.ops [qO 2 (.mov (.c (.sc (.bool false))))])
  (.seq (.ops [qO 3 (.mov (.t 0)), qO 4 (.bin .geq (.t 3) (.c (.sc (.int .u8 97)))), qO 5 (.mov (.t 4)), qG 6 5 true (.mov (.t 0)), qG 7 5 true (.bin .leq (.t 6) (.c (.sc (.int .u8 122)))), qO 8 (.pick (.t 5) (.t 7) (.c (.sc (.bool false)))), qO 2 (.mov (.t 8))])
  .ret))
theorem K124 : Kf Tryz.prog Tryz.f124 A124 9 [.mov (.t 2)] := ⟨by kernel_rfl, by kernel_rfl, by kernel_rfl⟩
theorem R124 (c : UInt8) : Ret Tryz.prog 124 [.sc (.int .u8 c.toNat)] (.sc (.bool (zV c.toNat))) [.un] := by
  refine Ret.run Tryz.func124 K124 (by simp) rfl rfl 500 ?_
  by_cases h : (97 : Int) ≤ c.toNat <;> simp [A124, iniρ, zV, h]
def A125 : AC := (.seq (.ops [qO 2 (.mov (.c (.sc (.bool false))))])
  (.seq (.ops [qO 3 (.mov (.t 0)), qO 4 (.bin .geq (.t 3) (.c (.sc (.int .u8 48)))), qO 5 (.mov (.t 4)), qG 6 5 true (.mov (.t 0)), qG 7 5 true (.bin .leq (.t 6) (.c (.sc (.int .u8 57)))), qO 8 (.pick (.t 5) (.t 7) (.c (.sc (.bool false)))), qO 2 (.mov (.t 8))])
  .ret))
theorem K125 : Kf Tryz.prog Tryz.f125 A125 9 [.mov (.t 2)] := ⟨by kernel_rfl, by kernel_rfl, by kernel_rfl⟩
theorem R125 (c : UInt8) : Ret Tryz.prog 125 [.sc (.int .u8 c.toNat)] (.sc (.bool (figI c.toNat))) [.un] := by
  refine Ret.run Tryz.func125 K125 (by simp) rfl rfl 500 ?_
  by_cases h : (48 : Int) ≤ c.toNat <;> simp [A125, iniρ, figI, h]
def A186 : AC := (.seq (.ops [qO 2 (.mov (.c (.sc (.bool false))))])
  (.seq (.ops [qO 3 (.mov (.t 0)), qO 4 (.cvi .i64 (.t 3)), cO 5 143 [.t 4, iC 97, iC 122], qO 2 (.mov (.t 5))])
  .ret))
theorem K186 : Kf Tryz.prog Tryz.f186 A186 6 [.mov (.t 2)] := ⟨by kernel_rfl, by kernel_rfl, by kernel_rfl⟩
theorem R186 (c : UInt8) : Ret Tryz.prog 186 [.sc (.int .u8 c.toNat)] (.sc (.bool (zV c.toNat))) [.un] := by
  have hw : IntKind.i64.wrap (c.toNat : Int) = c.toNat := Ya (by omega) (by have := c.toNat_lt; omega)
  refine Ret.run Tryz.func186 K186 (by simp) rfl rfl 500 ?_
  simp [A186, iniρ, hw]
  refine callK.ro 0 rfl (by kernel_rfl) (by simp [ya]) (R143 c.toNat 97 122) rfl rfl rfl ?_
  simp [inR, zV]
def A187 : AC := (.seq (.ops [qO 2 (.mov (.c (.sc (.bool false))))])
  (.seq (.ops [qO 3 (.mov (.t 0)), qO 4 (.cvi .i64 (.t 3)), cO 5 143 [.t 4, iC 48, iC 57], qO 2 (.mov (.t 5))])
  .ret))
theorem K187 : Kf Tryz.prog Tryz.f187 A187 6 [.mov (.t 2)] := ⟨by kernel_rfl, by kernel_rfl, by kernel_rfl⟩
theorem R187 (c : UInt8) : Ret Tryz.prog 187 [.sc (.int .u8 c.toNat)] (.sc (.bool (figI c.toNat))) [.un] := by
  have hw : IntKind.i64.wrap (c.toNat : Int) = c.toNat := Ya (by omega) (by have := c.toNat_lt; omega)
  refine Ret.run Tryz.func187 K187 (by simp) rfl rfl 500 ?_
  simp [A187, iniρ, hw]
  refine callK.ro 0 rfl (by kernel_rfl) (by simp [ya]) (R143 c.toNat 48 57) rfl rfl rfl ?_
  simp [inR, figI]
def A114 : AC := (.seq (.ops [qO 2 (.mov (.c (.sc (.bool false))))])
  (.seq (.seq (.ops [qO 3 (.mov (iC 0))])
  (.block 0 (.loop (.seq (.seq (.ops [qO 4 (.mov (.t 3)), qO 5 (.mov (.t 0)), qO 6 (.slen (.t 5)), qO 7 (.bin .lss (.t 4) (.t 6))])
  (.cond (.t 7) .skip
  (.exit 0)))
  (.seq (.block 1 (.seq (.ops [qO 10 (.mov (.t 0)), qO 11 (.mov (.t 3)), qO 12 (.idx (.t 10) (.t 11)), cO 13 186 [.t 12], qO 14 (.not (.t 13)), qO 15 (.mov (.t 14)), qG 16 15 true (.mov (.t 3)), qG 17 15 true (.bin .eql (.t 16) (iC 0)), qG 18 15 true (.mov (.t 17)), qG 19 18 false (.mov (.t 0)), qG 20 18 false (.mov (.t 3)), qG 21 18 false (.idx (.t 19) (.t 20)), cG 22 18 false 187 [.t 21], qG 23 18 false (.not (.t 22)), qG 24 18 false (.mov (.t 23)), qG 25 24 true (.mov (.t 0)), qG 26 24 true (.mov (.t 3)), qG 27 24 true (.idx (.t 25) (.t 26)), qG 28 24 true (.bin .neq (.t 27) (.c (.sc (.int .u8 45)))), qG 29 18 false (.pick (.t 24) (.t 28) (.c (.sc (.bool false)))), qG 30 15 true (.pick (.t 18) (.c (.sc (.bool true))) (.t 29)), qO 31 (.pick (.t 15) (.t 30) (.c (.sc (.bool false))))])
  (.cond (.t 31) (.seq (.ops [qO 2 (.mov (.c (.sc (.bool false))))])
  .ret)
  .skip)))
  (.ops [qO 8 (.mov (.t 3)), qO 9 (.bin .add (.t 8) (iC 1)), qO 3 (.mov (.t 9))]))))))
  (.seq (.ops [qO 32 (.mov (.t 0)), qO 33 (.slen (.t 32)), cO 34 143 [.t 33, iC 1, iC 10], qO 2 (.mov (.t 34))])
  .ret)))
theorem K114 : Kf Tryz.prog Tryz.f114 A114 35 [.mov (.t 2)] := ⟨by kernel_rfl, by kernel_rfl, by kernel_rfl⟩
theorem R114 (s : ByteArray) (hs : s.size ≤ 140737488351232) : Ret Tryz.prog 114 [.sc (.string s)] (.sc (.bool (zx s))) [.un] := by
  refine Ret.run Tryz.func114 K114 (by simp) rfl rfl 500 ?_
  simp [A114, iniρ]
  refine T.rounds (μ := fun i : List UInt8 × List UInt8 => i.2.length)
    (fun i t => i.1 ++ i.2 = s.data.toList ∧ nameL i.2 i.1.length = nameL s.data.toList 0 ∧ t.ρ 0 = .sc (.string s) ∧ t.ρ 3 = .sc (.int .i64 i.1.length) ∧ t.h = h0 ∧ t.n = 35) ([], s.data.toList) (by simp [za]) ?_
  rintro ⟨pre, rest⟩ ⟨ρ, hh, n⟩ ⟨hx, hE, k0, k3, rfl, rfl⟩
  simp only at hx hE k0 k3
  have hsz := ZH hx
  refine Zf (n := 400) ?_
  cases rest with
  | nil =>
    simp at hsz
    simp [k0, k3, hsz]
    refine T.on 400 ?_
    simp [k0]
    refine callK.ro 0 rfl (by kernel_rfl) (by simp [ya]) (R143 s.size 1 10) rfl rfl rfl ?_
    simp [zx, ← hE, nameL]
  | cons c rest =>
    have hg := yU hx
    simp at hsz
    have hlt : (pre.length : Int) < s.size := by omega
    have hw : IntKind.i64.wrap ((pre.length : Int) + 1) = pre.length + 1 := Ya (by omega) (by omega)
    simp [k0, k3, hlt, hg]
    refine callK.ro 0 rfl (by kernel_rfl) (by simp [ya]) (R186 c) rfl rfl rfl ?_
    have step : nameC pre.length c = true → ∀ (Q : Prop), (nameL rest (pre.length + 1) = nameL s.data.toList 0 → Q) → Q := fun h Q k => k (by rw [← hE]; simp [nameL, h])
    have stop : nameC pre.length c = false → zx s = false := fun h => by simp [zx, ← hE, nameL, h]
    cases h1 : zV (c.toNat : Int)
    · by_cases hz : pre.length = 0
      · have := stop (by simp [nameC, h1, hz])
        simp [k0, k3, h1, hz, hlt, hg, this]
      · have hz' : pre ≠ [] := fun e => hz (by simp [e])
        simp [k0, k3, h1, hz, hz', hlt, hg]
        refine callK.ro 0 rfl (by kernel_rfl) (by simp [ya]) (R187 c) rfl rfl rfl ?_
        cases h2 : figI (c.toNat : Int)
        · by_cases h3 : (c.toNat : Int) = 45
          · simp [k0, k3, h1, h2, hz, hz', hlt, hg, h3, hw]
            refine step (by simp [nameC, h1, h2, hz, hz', h3]) _ fun hE2 => ?_
            refine ⟨pre ++ [c], rest, by simp, _, Le.refl _, ?_⟩
            simp [hx, k0, hE2, za]
          · have := stop (by simp [nameC, h1, h2, hz, hz', h3])
            simp [k0, k3, h1, h2, hz, hz', hlt, hg, h3, this]
        · simp [k0, k3, h1, h2, hz, hz', hlt, hg, hw]
          refine step (by simp [nameC, h1, h2, hz, hz']) _ fun hE2 => ?_
          refine ⟨pre ++ [c], rest, by simp, _, Le.refl _, ?_⟩
          simp [hx, k0, hE2, za]
    · simp [k0, k3, h1, hlt, hg, hw]
      refine step (by simp [nameC, h1]) _ fun hE2 => ?_
      refine ⟨pre ++ [c], rest, by simp, _, Le.refl _, ?_⟩
      simp [hx, k0, hE2, za]
def A61 : AC := (.seq (.ops [qO 2 (.mov (.c (.sc (.bool false))))])
  (.seq (.seq (.ops [qO 3 (.mov (iC 0))])
  (.block 0 (.loop (.seq (.seq (.ops [qO 4 (.mov (.t 3)), qO 5 (.mov (.t 0)), qO 6 (.slen (.t 5)), qO 7 (.bin .lss (.t 4) (.t 6))])
  (.cond (.t 7) .skip
  (.exit 0)))
  (.seq (.block 1 (.seq (.ops [qO 10 (.mov (.t 0)), qO 11 (.mov (.t 3)), qO 12 (.idx (.t 10) (.t 11)), cO 13 124 [.t 12], qO 14 (.not (.t 13)), qO 15 (.mov (.t 14)), qG 16 15 true (.mov (.t 3)), qG 17 15 true (.bin .eql (.t 16) (iC 0)), qG 18 15 true (.mov (.t 17)), qG 19 18 false (.mov (.t 0)), qG 20 18 false (.mov (.t 3)), qG 21 18 false (.idx (.t 19) (.t 20)), cG 22 18 false 125 [.t 21], qG 23 18 false (.not (.t 22)), qG 24 18 false (.mov (.t 23)), qG 25 24 true (.mov (.t 0)), qG 26 24 true (.mov (.t 3)), qG 27 24 true (.idx (.t 25) (.t 26)), qG 28 24 true (.bin .neq (.t 27) (.c (.sc (.int .u8 45)))), qG 29 18 false (.pick (.t 24) (.t 28) (.c (.sc (.bool false)))), qG 30 15 true (.pick (.t 18) (.c (.sc (.bool true))) (.t 29)), qO 31 (.pick (.t 15) (.t 30) (.c (.sc (.bool false))))])
  (.cond (.t 31) (.seq (.ops [qO 2 (.mov (.c (.sc (.bool false))))])
  .ret)
  .skip)))
  (.ops [qO 8 (.mov (.t 3)), qO 9 (.bin .add (.t 8) (iC 1)), qO 3 (.mov (.t 9))]))))))
  (.seq (.ops [qO 32 (.mov (.t 0)), qO 33 (.slen (.t 32)), cO 34 126 [.t 33, iC 1, iC 10], qO 2 (.mov (.t 34))])
  .ret)))
theorem K61 : Kf Tryz.prog Tryz.f61 A61 35 [.mov (.t 2)] := ⟨by kernel_rfl, by kernel_rfl, by kernel_rfl⟩
theorem R61 (s : ByteArray) (hs : s.size ≤ 140737488351232) : Ret Tryz.prog 61 [.sc (.string s)] (.sc (.bool (zx s))) [.un] := by
  refine Ret.run Tryz.func61 K61 (by simp) rfl rfl 500 ?_
  simp [A61, iniρ]
  refine T.rounds (μ := fun i : List UInt8 × List UInt8 => i.2.length)
    (fun i t => i.1 ++ i.2 = s.data.toList ∧ nameL i.2 i.1.length = nameL s.data.toList 0 ∧ t.ρ 0 = .sc (.string s) ∧ t.ρ 3 = .sc (.int .i64 i.1.length) ∧ t.h = h0 ∧ t.n = 35) ([], s.data.toList) (by simp [za]) ?_
  rintro ⟨pre, rest⟩ ⟨ρ, hh, n⟩ ⟨hx, hE, k0, k3, rfl, rfl⟩
  simp only at hx hE k0 k3
  have hsz := ZH hx
  refine Zf (n := 400) ?_
  cases rest with
  | nil =>
    simp at hsz
    simp [k0, k3, hsz]
    refine T.on 400 ?_
    simp [k0]
    refine callK.ro 0 rfl (by kernel_rfl) (by simp [ya]) (R126 s.size 1 10) rfl rfl rfl ?_
    simp [zx, ← hE, nameL]
  | cons c rest =>
    have hg := yU hx
    simp at hsz
    have hlt : (pre.length : Int) < s.size := by omega
    have hw : IntKind.i64.wrap ((pre.length : Int) + 1) = pre.length + 1 := Ya (by omega) (by omega)
    simp [k0, k3, hlt, hg]
    refine callK.ro 0 rfl (by kernel_rfl) (by simp [ya]) (R124 c) rfl rfl rfl ?_
    have step : nameC pre.length c = true → ∀ (Q : Prop), (nameL rest (pre.length + 1) = nameL s.data.toList 0 → Q) → Q := fun h Q k => k (by rw [← hE]; simp [nameL, h])
    have stop : nameC pre.length c = false → zx s = false := fun h => by simp [zx, ← hE, nameL, h]
    cases h1 : zV (c.toNat : Int)
    · by_cases hz : pre.length = 0
      · have := stop (by simp [nameC, h1, hz])
        simp [k0, k3, h1, hz, hlt, hg, this]
      · have hz' : pre ≠ [] := fun e => hz (by simp [e])
        simp [k0, k3, h1, hz, hz', hlt, hg]
        refine callK.ro 0 rfl (by kernel_rfl) (by simp [ya]) (R125 c) rfl rfl rfl ?_
        cases h2 : figI (c.toNat : Int)
        · by_cases h3 : (c.toNat : Int) = 45
          · simp [k0, k3, h1, h2, hz, hz', hlt, hg, h3, hw]
            refine step (by simp [nameC, h1, h2, hz, hz', h3]) _ fun hE2 => ?_
            refine ⟨pre ++ [c], rest, by simp, _, Le.refl _, ?_⟩
            simp [hx, k0, hE2, za]
          · have := stop (by simp [nameC, h1, h2, hz, hz', h3])
            simp [k0, k3, h1, h2, hz, hz', hlt, hg, h3, this]
        · simp [k0, k3, h1, h2, hz, hz', hlt, hg, hw]
          refine step (by simp [nameC, h1, h2, hz, hz']) _ fun hE2 => ?_
          refine ⟨pre ++ [c], rest, by simp, _, Le.refl _, ?_⟩
          simp [hx, k0, hE2, za]
    · simp [k0, k3, h1, hlt, hg, hw]
      refine step (by simp [nameC, h1]) _ fun hE2 => ?_
      refine ⟨pre ++ [c], rest, by simp, _, Le.refl _, ?_⟩
      simp [hx, k0, hE2, za]
def lttI (n : Int) : Bool := zV n || figI n || n == 46 || n == 45 || n == 95
def letL : List UInt8 → Bool
  | [] => true
  | c :: l => lttI (c.toNat : Int) && letL l
def yk (s : ByteArray) : Bool := letL s.data.toList && (inR s.size 1 12 && !(s.toList == [46]) && !(s.toList == [46, 46]))
def A247 : AC := (.seq (.ops [qO 2 (.mov (.c (.sc (.bool false))))])
  (.seq (.ops [qO 3 (.mov (.t 0)), cO 4 186 [.t 3], qO 5 (.mov (.t 4)), qG 6 5 false (.mov (.t 0)), cG 7 5 false 187 [.t 6], qO 8 (.pick (.t 5) (.c (.sc (.bool true))) (.t 7)), qO 9 (.mov (.t 8)), qG 10 9 false (.mov (.t 0)), qG 11 9 false (.bin .eql (.t 10) (.c (.sc (.int .u8 46)))), qO 12 (.pick (.t 9) (.c (.sc (.bool true))) (.t 11)), qO 13 (.mov (.t 12)), qG 14 13 false (.mov (.t 0)), qG 15 13 false (.bin .eql (.t 14) (.c (.sc (.int .u8 45)))), qO 16 (.pick (.t 13) (.c (.sc (.bool true))) (.t 15)), qO 17 (.mov (.t 16)), qG 18 17 false (.mov (.t 0)), qG 19 17 false (.bin .eql (.t 18) (.c (.sc (.int .u8 95)))), qO 20 (.pick (.t 17) (.c (.sc (.bool true))) (.t 19)), qO 2 (.mov (.t 20))])
  .ret))
theorem K247 : Kf Tryz.prog Tryz.f247 A247 21 [.mov (.t 2)] := ⟨by kernel_rfl, by kernel_rfl, by kernel_rfl⟩
theorem R247 (c : UInt8) : Ret Tryz.prog 247 [.sc (.int .u8 c.toNat)] (.sc (.bool (lttI c.toNat))) [.un] := by
  refine Ret.run Tryz.func247 K247 (by simp) rfl rfl 500 ?_
  simp [A247, iniρ]
  refine callK.ro 0 rfl (by kernel_rfl) (by simp [ya]) (R186 c) rfl rfl rfl ?_
  cases h1 : zV (c.toNat : Int)
  case true => simp [lttI, h1]
  simp
  refine callK.ro 0 rfl (by kernel_rfl) (by simp [ya]) (R187 c) rfl rfl rfl ?_
  cases h2 : figI (c.toNat : Int)
  case true => simp [lttI, h1, h2]
  by_cases h3 : (c.toNat : Int) = 46
  · simp [lttI, h1, h2, h3]
  by_cases h4 : (c.toNat : Int) = 45
  · simp [lttI, h1, h2, h3, h4]
  simp [lttI, h1, h2, h3, h4]
def A203 : AC := (.seq (.ops [qO 2 (.mov (.c (.sc (.bool false))))])
  (.seq (.seq (.ops [qO 3 (.mov (iC 0))])
  (.block 0 (.loop (.seq (.seq (.ops [qO 4 (.mov (.t 3)), qO 5 (.mov (.t 0)), qO 6 (.slen (.t 5)), qO 7 (.bin .lss (.t 4) (.t 6))])
  (.cond (.t 7) .skip
  (.exit 0)))
  (.seq (.block 1 (.seq (.ops [qO 10 (.mov (.t 0)), qO 11 (.mov (.t 3)), qO 12 (.idx (.t 10) (.t 11)), cO 13 247 [.t 12], qO 14 (.not (.t 13))])
  (.cond (.t 14) (.seq (.ops [qO 2 (.mov (.c (.sc (.bool false))))])
  .ret)
  .skip)))
  (.ops [qO 8 (.mov (.t 3)), qO 9 (.bin .add (.t 8) (iC 1)), qO 3 (.mov (.t 9))]))))))
  (.seq (.ops [qO 15 (.mov (.t 0)), qO 16 (.slen (.t 15)), cO 17 143 [.t 16, iC 1, iC 12], qO 18 (.mov (.t 17)), qG 19 18 true (.mov (.t 0)), qG 20 18 true (.bin .neq (.t 19) (.c (.sc (.string ⟨#[46]⟩)))), qO 21 (.pick (.t 18) (.t 20) (.c (.sc (.bool false)))), qO 22 (.mov (.t 21)), qG 23 22 true (.mov (.t 0)), qG 24 22 true (.bin .neq (.t 23) (.c (.sc (.string ⟨#[46, 46]⟩)))), qO 25 (.pick (.t 22) (.t 24) (.c (.sc (.bool false)))), qO 2 (.mov (.t 25))])
  .ret)))
theorem K203 : Kf Tryz.prog Tryz.f203 A203 26 [.mov (.t 2)] := ⟨by kernel_rfl, by kernel_rfl, by kernel_rfl⟩
theorem R203 (s : ByteArray) (hs : s.size ≤ 140737488351232) : Ret Tryz.prog 203 [.sc (.string s)] (.sc (.bool (yk s))) [.un] := by
  refine Ret.run Tryz.func203 K203 (by simp) rfl rfl 500 ?_
  simp [A203, iniρ]
  refine T.rounds (μ := fun i : List UInt8 × List UInt8 => i.2.length)
    (fun i t => i.1 ++ i.2 = s.data.toList ∧ letL i.2 = letL s.data.toList ∧ t.ρ 0 = .sc (.string s) ∧ t.ρ 3 = .sc (.int .i64 i.1.length) ∧ t.h = h0 ∧ t.n = 26) ([], s.data.toList) (by simp [za]) ?_
  rintro ⟨pre, rest⟩ ⟨ρ, hh, n⟩ ⟨hx, hE, k0, k3, rfl, rfl⟩
  simp only at hx hE k0 k3
  have hsz := ZH hx
  refine Zf (n := 400) ?_
  cases rest with
  | nil =>
    simp at hsz
    simp [k0, k3, hsz]
    refine T.on 400 ?_
    simp [k0]
    refine callK.ro 0 rfl (by kernel_rfl) (by simp [ya]) (R143 s.size 1 12) rfl rfl rfl ?_
    have hL : letL s.data.toList = true := by rw [← hE]; rfl
    cases h1 : inR s.size 1 12
    case false => simp [yk, h1]
    by_cases h2 : s.toList = [46]
    case pos => simp [k0, yk, h1, h2]
    have h2' : (s.toList == [46]) = false := by simpa using h2
    by_cases h3 : s.toList = [46, 46]
    · simp [k0, yk, h1, h2, h2', h3, hL]
    · have h3' : (s.toList == [46, 46]) = false := by simpa using h3
      simp [k0, yk, h1, h2, h2', h3, h3', hL]
  | cons c rest =>
    have hg := yU hx
    simp at hsz
    have hlt : (pre.length : Int) < s.size := by omega
    have hw : IntKind.i64.wrap ((pre.length : Int) + 1) = pre.length + 1 := Ya (by omega) (by omega)
    simp [k0, k3, hlt, hg]
    refine callK.ro 0 rfl (by kernel_rfl) (by simp [ya]) (R247 c) rfl rfl rfl ?_
    cases h1 : lttI (c.toNat : Int)
    · have : yk s = false := by simp [yk, ← hE, letL, h1]
      simp [this]
    · simp [k3, hw]
      refine ⟨pre ++ [c], rest, by simp, _, Le.refl _, ?_⟩
      simp [hx, k0, za, ← hE, letL, h1]
def yu (s : ByteArray) (b : Int) : Nat → Nat → List UInt8 → List ByteArray
  | f, i, [] => [s.extract f i]
  | f, i, c :: l => if (c.toNat : Int) = b then s.extract f i :: yu s b (i + 1) (i + 1) l else yu s b f (i + 1) l
def Zn (s : ByteArray) (b : Int) : List ByteArray := yu s b 0 0 s.data.toList
structure Opt where
  v : Bool
def A113 : AC := (.seq (.ops [qO 4 (.mov (.c .em))])
  (.seq (.ops [wO 8 (.bsl 1 0 [] []), qO 5 (.mov (.t 8))])
  (.seq (.ops [qO 6 (.mov (iC 0))])
  (.seq (.seq (.ops [qO 7 (.mov (iC 0))])
  (.block 0 (.loop (.seq (.seq (.ops [qO 9 (.mov (.t 7)), qO 10 (.mov (.t 0)), qO 11 (.slen (.t 10)), qO 12 (.bin .leq (.t 9) (.t 11))])
  (.cond (.t 12) .skip
  (.exit 0)))
  (.seq (.block 1 (.seq (.ops [qO 15 (.mov (.t 7)), qO 16 (.mov (.t 0)), qO 17 (.slen (.t 16)), qO 18 (.bin .eql (.t 15) (.t 17)), qO 19 (.mov (.t 18)), qG 20 19 false (.mov (.t 0)), qG 21 19 false (.mov (.t 7)), qG 22 19 false (.idx (.t 20) (.t 21)), qG 23 19 false (.mov (.t 1)), qG 24 19 false (.bin .eql (.t 22) (.t 23)), qO 25 (.pick (.t 19) (.c (.sc (.bool true))) (.t 24))])
  (.cond (.t 25) (.seq (.ops [qO 26 (.mov (.t 5)), qO 27 (.mov (.t 0)), qO 28 (.mov (.t 6)), qO 29 (.mov (.t 7)), qO 30 (.subs (.t 27) (some (.t 28)) (some (.t 29))), wO 31 (.bsl 1 1 [(.sc (.string ⟨#[]⟩))] [(0, 1, (.t 30))]), wO 32 (.app 1 16 false (.t 26) (.t 31)), qO 5 (.mov (.t 32))])
  (.ops [qO 33 (.mov (.t 7)), qO 34 (.bin .add (.t 33) (iC 1)), qO 6 (.mov (.t 34))]))
  .skip)))
  (.ops [qO 13 (.mov (.t 7)), qO 14 (.bin .add (.t 13) (iC 1)), qO 7 (.mov (.t 14))]))))))
  (.seq (.ops [qO 35 (.mov (.t 5)), qO 4 (.mov (.t 35))])
  .ret)))))
theorem K113 : Kf Tryz.prog Tryz.f113 A113 36 [.mov (.t 4)] := ⟨by kernel_rfl, by kernel_rfl, by kernel_rfl⟩
theorem R113 (s : ByteArray) (b : Int) (hs : s.size ≤ 1048576) : Ret Tryz.prog 113 [.sc (.string s), .sc (.int .u8 b)] (.own (rows Ty.str.oc (Zn s b)) (Zn s b).length 1) [.un, .un] := by
  refine Ret.run Tryz.func113 K113 (by simp) rfl rfl 900 ?_
  simp [A113, iniρ, over]
  -- ended: the last part is out
  refine T.rounds (μ := fun i : List UInt8 × List UInt8 × List ByteArray × Nat × Opt => i.2.1.length + (if i.2.2.2.2.v then 0 else 1))
    (fun i t => i.1 ++ i.2.1 = s.data.toList ∧ i.2.2.2.1 ≤ i.1.length ∧ i.2.2.1.length ≤ i.1.length + (if i.2.2.2.2.v then 1 else 0) ∧ (if i.2.2.2.2.v then i.2.1 = [] ∧ i.2.2.1 = Zn s b else i.2.2.1 ++ yu s b i.2.2.2.1 i.1.length i.2.1 = Zn s b) ∧
      t.ρ 0 = .sc (.string s) ∧ t.ρ 1 = .sc (.int .u8 b) ∧ t.ρ 5 = .sl 8 0 i.2.2.1.length 1 false ∧ (i.2.2.2.2.v = false → t.ρ 6 = .sc (.int .i64 i.2.2.2.1)) ∧ t.ρ 7 = .sc (.int .i64 (i.1.length + (if i.2.2.2.2.v then 1 else 0))) ∧ t.h 8 = some (some (rows Ty.str.oc i.2.2.1)) ∧ t.h 31 = none ∧ t.h 32 = none ∧ t.n = 36) ([], s.data.toList, [], 0, ⟨false⟩) (by simp [za, zf, Zn]) ?_
  rintro ⟨pre, rest, out, f, ⟨e⟩⟩ ⟨ρ, hh, n⟩ ⟨hx, hf, ho, hE, k0, k1, k5, k6, k7, k8, f1, f2, rfl⟩
  simp only at hx hf ho hE k0 k1 k5 k6 k7 k8 f1 f2
  have hsz := ZH hx
  refine Zf (n := 400) ?_
  cases e with
  | true =>
    simp at hE k7
    obtain ⟨rfl, hE⟩ := hE
    simp at hsz
    have h1 : ¬ ((pre.length : Int) + 1 ≤ s.size) := by omega
    simp [k0, k7, h1]
    refine T.on 400 ?_
    have hid : Yb.idfreeL (rows Ty.str.oc (Zn s b)) = true := Ty.str.frL _
    simp [k5, k8, ex1, hE, zQ, hid]
  | false =>
    simp at hE k6 k7 ho
    have hps : pre.length ≤ s.size := by rw [hsz]; simp
    have hw : IntKind.i64.wrap ((pre.length : Int) + 1) = pre.length + 1 := Ya (by omega) (by omega)
    have hcap : (out.length + 1) * 16 ≤ 140737488355328 := by omega
    have hap : ∀ (l : List ByteArray) (g : ByteArray), rows Ty.str.oc l ++ [.sc (.string g)] = rows Ty.str.oc (l ++ [g]) := fun l g => by rw [ze]; rfl
    cases rest with
    | nil =>
      simp at hsz
      simp [k0, k1, k5, k6, k7, k8, f1, f2, hsz, hw, over, zQ, hcap, hap, hf]
      refine ⟨pre, [], out ++ [s.extract f pre.length], f, ⟨true⟩, ⟨rfl, rfl⟩, _, Le.reseat [0, 1, 5, 7] [(32, 8)] (by simp) (by simp [za, menB, Yb, k0, k1]) ?_, ?_⟩
      · intro b' hb cs hcs
        simp at hb
        subst hb
        simp [za] at hcs
        subst hcs
        exact Yj (fun x c hc => (Ty.str.ow x c hc).fr) _
      · have hE2 : out ++ [s.extract f pre.length] = Zn s b := hE
        simp [za, k0, k1, hE2]
        refine ⟨by simpa using hx, hf, ?_⟩
        rw [← hE2]; simp; omega
    | cons c rest =>
      have hg := yU hx
      simp at hsz
      have hlt : (pre.length : Int) < s.size := by omega
      have hlt2 : pre.length < s.size := by omega
      have hle : (pre.length : Int) ≤ s.size := by omega
      have hne : ¬ ((pre.length : Int) = s.size) := by omega
      have hne2 : ¬ (pre.length = s.size) := by omega
      rw [yu] at hE
      by_cases hc : (c.toNat : Int) = b
      · rw [if_pos hc] at hE
        simp [k0, k1, k5, k6, k7, k8, f1, f2, hlt, hle, hne, hne2, hg, hc, hw, hps, over, zQ, hcap, hap, hf]
        refine ⟨pre ++ [c], rest, out ++ [s.extract f pre.length], pre.length + 1, ⟨false⟩, by simp, _, Le.reseat [0, 1, 5, 6, 7] [(32, 8)] (by simp) (by simp [za, menB, Yb, k0, k1]) ?_, ?_⟩
        · intro b' hb cs hcs
          simp at hb
          subst hb
          simp [za] at hcs
          subst hcs
          exact Yj (fun x c hc => (Ty.str.ow x c hc).fr) _
        · simp [za, k0, k1, hx, hE]
          omega
      · have hcb : ((c.toNat : Int) == b) = false := by simpa using hc
        rw [if_neg hc] at hE
        simp [k0, k1, k5, k6, k7, k8, f1, f2, hlt, hle, hne, hne2, hg, hc, hcb, hw, over, zQ, hap]
        refine ⟨pre ++ [c], rest, out, f, ⟨false⟩, by simp, _, Le.refl _, ?_⟩
        simp [za, k0, k1, k5, k6, k8, f1, f2, hx, hE]
        omega
def ZD : List ByteArray → Bool
  | [] => true
  | x :: l => yk x && ZD l
def YJ (s : ByteArray) : Bool := ZD (Zn s 47) && decide ((Zn s 47).length ≤ 4)
theorem yH (s : ByteArray) (b : Int) : ∀ (l : List UInt8) (f i : Nat), ∀ x ∈ yu s b f i l, x.size ≤ s.size
  | [], f, i, x, h => by
    simp [yu] at h
    subst h
    rw [ByteArray.size_extract]; omega
  | c :: l, f, i, x, h => by
    rw [yu] at h
    split at h
    · rcases List.mem_cons.1 h with rfl | h
      · rw [ByteArray.size_extract]; omega
      · exact yH s b l _ _ x h
    · exact yH s b l _ _ x h
theorem ZZ (s : ByteArray) (b : Int) : ∀ (l : List UInt8) (f i : Nat), (yu s b f i l).length ≤ l.length + 1
  | [], f, i => by simp [yu]
  | c :: l, f, i => by
    rw [yu]
    split
    · have := ZZ s b l (i + 1) (i + 1); simp; omega
    · have := ZZ s b l f (i + 1); simp; omega
def A189 : AC := (.seq (.ops [qO 2 (.mov (.c (.sc (.bool false))))])
  (.seq (.ops [qO 5 (.mov (.t 0)), cO 6 113 [.t 5, (.c (.sc (.int .u8 47)))], qO 3 (.mov (.t 6))])
  (.seq (.seq (.ops [qO 4 (.mov (iC 0))])
  (.block 0 (.loop (.seq (.seq (.ops [qO 7 (.mov (.t 4)), qO 8 (.mov (.t 3)), qO 9 (.llen (.t 8)), qO 10 (.bin .lss (.t 7) (.t 9))])
  (.cond (.t 10) .skip
  (.exit 0)))
  (.seq (.block 1 (.seq (.ops [qO 13 (.mov (.t 3)), qO 14 (.mov (.t 4)), qO 15 (.iadr 1 (.t 13) (.t 14)), qO 16 (.load false 1 (.t 15)), cO 17 203 [.t 16], qO 18 (.not (.t 17))])
  (.cond (.t 18) (.seq (.ops [qO 2 (.mov (.c (.sc (.bool false))))])
  .ret)
  .skip)))
  (.ops [qO 11 (.mov (.t 4)), qO 12 (.bin .add (.t 11) (iC 1)), qO 4 (.mov (.t 12))]))))))
  (.seq (.ops [qO 19 (.mov (.t 3)), qO 20 (.llen (.t 19)), qO 21 (.bin .leq (.t 20) (iC 4)), qO 2 (.mov (.t 21))])
  .ret))))
theorem K189 : Kf Tryz.prog Tryz.f189 A189 22 [.mov (.t 2)] := ⟨by kernel_rfl, by kernel_rfl, by kernel_rfl⟩
theorem R189 (s : ByteArray) (hs : s.size ≤ 1048576) : Ret Tryz.prog 189 [.sc (.string s)] (.sc (.bool (YJ s))) [.un] := by
  have hz : ∀ x ∈ Zn s 47, x.size ≤ s.size := yH s 47 _ 0 0
  have hl : (Zn s 47).length ≤ s.size + 1 := by
    have := ZZ s 47 s.data.toList 0 0
    simpa [Zn] using this
  obtain ⟨ps, hps⟩ : ∃ ps, ps = Zn s 47 := ⟨_, rfl⟩
  have rs := R113 s 47 hs
  rw [← hps] at hz hl rs
  refine Ret.run Tryz.func189 K189 (by simp) rfl rfl 900 ?_
  simp [A189, iniρ]
  refine callK.own 6 rfl (by kernel_rfl) (by simp [ya]) rs (Ty.str.flo ps) (by simp) rfl ?_
  simp
  refine T.rounds (μ := fun i : List ByteArray × List ByteArray => i.2.length)
    (fun i t => i.1 ++ i.2 = ps ∧ ZD i.2 = ZD ps ∧ t.ρ 3 = .sl 6 0 ps.length 1 false ∧ t.ρ 4 = .sc (.int .i64 i.1.length) ∧ t.h 6 = some (some (rows Ty.str.oc ps)) ∧ t.n = 22) ([], ps) (by simp [za]) ?_
  rintro ⟨pre, rest⟩ ⟨ρ, hh, n⟩ ⟨hx, hE, k3, k4, k6, rfl⟩
  simp only at hx hE k3 k4 k6
  refine Zf (n := 400) ?_
  cases rest with
  | nil =>
    have hxl : pre.length = ps.length := by rw [← hx]; simp
    have hA : ZD ps = true := by rw [← hE]; rfl
    simp [k3, k4, hxl]
    refine T.on 400 ?_
    simp [k3, YJ, ← hps, hA]
    try omega
  | cons x rest =>
    have hle : pre.length + (rest.length + 1) = ps.length := by rw [← hx]; simp
    have hlt : (pre.length : Int) < ps.length := by omega
    have hlt2 : pre.length < ps.length := by omega
    have hw : IntKind.i64.wrap ((pre.length : Int) + 1) = pre.length + 1 := Ya (by omega) (by omega)
    have hd := Yd Ty.str.ocn pre (x :: rest)
    rw [hx, Zc] at hd
    have hd : List.drop pre.length (rows Ty.str.oc ps) = AV.sc (.string x) :: rows Ty.str.oc rest := by
      have h2 := hd
      rwa [show pre.length * Ty.str.n = pre.length from Nat.mul_one _] at h2
    simp [k3, k4, k6, hlt, hlt2, hd]
    have hxz := hz x (by rw [← hx]; simp)
    refine callK.ro 0 rfl (by kernel_rfl) (by simp [ya]) (R203 x (by omega)) rfl rfl rfl ?_
    cases h1 : yk x
    · have hA : ZD ps = false := by rw [← hE]; simp [ZD, h1]
      simp [YJ, ← hps, hA]
    · simp [k4, hw]
      refine ⟨pre ++ [x], rest, by simp, _, Le.refl _, ?_⟩
      simp [hx, k3, k6, za, ← hE, ZD, h1]
structure FlP where
  v : Bool
def gtrP (a b : ByteArray) : Bool := !Op.bytesLess a.toList b.toList && !(a.toList == b.toList)
def putF (f : File) : List File → Bool → List File
  | [], d => if d then [] else [f]
  | x :: xs, d => if x.path.toList = f.path.toList then putF f xs d else if (!d && gtrP x.path f.path) = true then f :: x :: putF f xs true else x :: putF f xs d
theorem zfG (xs : List File) : plain.plainL (rows File.ty.oc xs) = true := zcc (Yj (q := plain) (fun x c hc => by simp [File.oce] at hc; rcases hc with rfl | rfl <;> rfl) xs)
theorem zeH (xs : List File) : ∀ y ∈ rows File.ty.oc xs, Yb y = true := Yj (fun x c hc => (File.ty.ow x c hc).fr) xs
def A178 : AC := (.seq (.ops [wO 3 (.box (.t 1)), qO 4 (.mov (.c .em))])
  (.seq (.ops [wO 8 (.bsl 2 0 [] []), qO 5 (.mov (.t 8))])
  (.seq (.ops [qO 6 (.mov (.c (.sc (.bool false))))])
  (.seq (.seq (.ops [qO 7 (.mov (iC 0))])
  (.block 0 (.loop (.seq (.seq (.ops [qO 9 (.mov (.t 7)), qO 10 (.mov (.t 0)), qO 11 (.llen (.t 10)), qO 12 (.bin .lss (.t 9) (.t 11))])
  (.cond (.t 12) .skip
  (.exit 0)))
  (.seq (.block 1 (.seq (.seq (.any [(qO 15 (.mov (.t 0)), []), (qO 16 (.mov (.t 7)), []), (qO 17 (.iadr 2 (.t 15) (.t 16)), [0, 1]), (qO 18 (.fadr 0 (.t 17)), [2]), (qO 19 (.load false 1 (.t 18)), [3]), (qO 20 (.fadr 0 (.t 3)), []), (qO 21 (.load false 1 (.t 20)), [5]), (qO 22 (.bin .eql (.t 19) (.t 21)), [4, 6])])
  (.cond (.t 22) (.exit 1)
  .skip))
  (.seq (.seq (.any [(qO 23 (.mov (.t 6)), []), (qO 24 (.not (.t 23)), [0]), (qO 25 (.mov (.t 24)), [1]), (qG 26 25 true (.mov (.t 0)), [2]), (qG 27 25 true (.mov (.t 7)), [2]), (qG 28 25 true (.iadr 2 (.t 26) (.t 27)), [3, 4, 2]), (qG 29 25 true (.fadr 0 (.t 28)), [5, 2]), (qG 30 25 true (.load false 1 (.t 29)), [6, 2]), (qG 31 25 true (.fadr 0 (.t 3)), [2]), (qG 32 25 true (.load false 1 (.t 31)), [8, 2]), (qG 33 25 true (.bin .gtr (.t 30) (.t 32)), [7, 9, 2]), (qO 34 (.pick (.t 25) (.t 33) (.c (.sc (.bool false)))), [2, 10])])
  (.cond (.t 34) (.seq (.ops [qO 35 (.mov (.t 5)), qO 36 (.load true 2 (.t 3)), wO 37 (.bsl 2 1 [(.sc (.string ⟨#[]⟩)), (.sc (.string ⟨#[]⟩))] [(0, 2, (.t 36))]), wO 38 (.app 2 32 false (.t 35) (.t 37)), qO 5 (.mov (.t 38))])
  (.ops [qO 6 (.mov (.c (.sc (.bool true))))]))
  .skip))
  (.ops [qO 39 (.mov (.t 5)), qO 40 (.mov (.t 0)), qO 41 (.mov (.t 7)), qO 42 (.iadr 2 (.t 40) (.t 41)), qO 43 (.load true 2 (.t 42)), wO 44 (.bsl 2 1 [(.sc (.string ⟨#[]⟩)), (.sc (.string ⟨#[]⟩))] [(0, 2, (.t 43))]), wO 45 (.app 2 32 false (.t 39) (.t 44)), qO 5 (.mov (.t 45))]))))
  (.ops [qO 13 (.mov (.t 7)), qO 14 (.bin .add (.t 13) (iC 1)), qO 7 (.mov (.t 14))]))))))
  (.seq (.seq (.ops [qO 46 (.mov (.t 6)), qO 47 (.not (.t 46))])
  (.cond (.t 47) (.ops [qO 48 (.mov (.t 5)), qO 49 (.load true 2 (.t 3)), wO 50 (.bsl 2 1 [(.sc (.string ⟨#[]⟩)), (.sc (.string ⟨#[]⟩))] [(0, 2, (.t 49))]), wO 51 (.app 2 32 false (.t 48) (.t 50)), qO 5 (.mov (.t 51))])
  .skip))
  (.seq (.ops [qO 52 (.mov (.t 5)), qO 4 (.mov (.t 52))])
  .ret))))))
theorem K178 : Kf Tryz.prog Tryz.f178 A178 53 [.mov (.t 4)] := ⟨by kernel_rfl, by kernel_rfl, by kernel_rfl⟩
set_option maxHeartbeats 1000000 in
theorem R178 (xs : List File) (f : File) (hok : File.ty.slice.ok xs) : Ret Tryz.prog 178 [.ro (rows File.ty.cs xs) xs.length, .agg (File.ty.cs f)] (.own (rows File.ty.oc (putF f xs false)) (putF f xs false).length 2) [.un, .un] := by
  have hb : xs.length * 32 ≤ 140737488351232 := hok.1
  refine Ret.run Tryz.func178 K178 (by simp) rfl rfl 900 ?_
  simp [A178, iniρ, File.cse, over]
  refine T.rounds (μ := fun i : List File × List File × List File × FlP => i.2.1.length)
    (fun i s => i.1 ++ i.2.1 = xs ∧ i.2.2.1 ++ putF f i.2.1 i.2.2.2.v = putF f xs false ∧ i.2.2.1.length ≤ i.1.length + (if i.2.2.2.v then 1 else 0) ∧ s.ρ 0 = .ro (rows File.ty.cs xs) xs.length ∧ s.ρ 3 = .ref 3 0 ∧ s.ρ 5 = .sl 8 0 i.2.2.1.length 2 false ∧ s.ρ 6 = .sc (.bool i.2.2.2.v) ∧ s.ρ 7 = .sc (.int .i64 i.1.length) ∧
      s.h 3 = some (some [.sc (.string f.path), .sc (.string f.text)]) ∧ s.h 8 = some (some (rows File.ty.oc i.2.2.1)) ∧ s.h 37 = none ∧ s.h 38 = none ∧ s.h 44 = none ∧ s.h 45 = none ∧ s.h 50 = none ∧ s.h 51 = none ∧ s.n = 53) ([], xs, [], ⟨false⟩) (by simp [za, zf]) ?_
  rintro ⟨pre, rest, out, ⟨done⟩⟩ ⟨ρ, hh, n⟩ ⟨hx, hE, hle, h0', h3', h5', h6', h7', k3, k8, f1, f2, f3, f4, f5, f6, rfl⟩
  simp only at hx hE hle h0' h3' h5' h6' h7' k3 k8 f1 f2 f3 f4 f5 f6
  refine Zf (n := 400) ?_
  have hpl : pre.length + rest.length = xs.length := by rw [← hx]; simp
  have hol : out.length ≤ pre.length + 1 := by split at hle <;> omega
  have hc1 : (out.length + 1) * 32 ≤ 140737488355328 := by omega
  cases rest with
  | nil =>
    simp at hx
    obtain ⟨xs0, hx0⟩ : ∃ xs0, xs0 = xs := ⟨_, rfl⟩
    rw [← hx0] at hE ⊢
    rw [hx0]
    have hpx : pre.length = xs.length := by rw [hx]
    simp [h0', h7', hpx]
    refine T.on 400 ?_
    rw [← hx0] at *
    cases done
    · have hfin : rows File.ty.oc out ++ [.sc (.string f.path), .sc (.string f.text)] = rows File.ty.oc (putF f xs0 false) := by rw [← hE, ze, putF]; simp [Zc, zf, File.oce]
      have hlen : (putF f xs0 false).length = out.length + 1 := by rw [← hE, putF]; simp
      have hid : Yb.idfreeL (rows File.ty.oc (putF f xs0 false)) = true := File.frL _
      simp [h3', h5', h6', k3, k8, f5, f6, over, File.ocl, hc1, ex1, hfin, hlen, hid]
    · have hE2 : out = putF f xs0 false := by rw [← hE, putF]; simp
      simp [h5', h6', k8, ex1, File.ocl, File.frL, hE2]
  | cons x rest =>
    have hlt : (pre.length : Int) < xs.length := by simp only [List.length_cons] at hpl; omega
    have hlt2 : pre.length < xs.length := by omega
    have hd := Yd File.ty.csn pre (x :: rest)
    rw [hx, Zc] at hd
    have hd : List.drop (pre.length * 2) (rows File.ty.cs xs) = AV.sc (.string x.path) :: AV.sc (.string x.text) :: rows File.ty.cs rest := hd
    have hw : IntKind.i64.wrap ((pre.length : Int) + 1) = pre.length + 1 := Ya (by omega) (by omega)
    have hap : ∀ (l : List File) (g : File), rows File.ty.oc l ++ [.sc (.string g.path), .sc (.string g.text)] = rows File.ty.oc (l ++ [g]) := fun l g => by rw [ze]; simp [Zc, zf, File.oce]
    simp [h0', h7', hlt]
    refine T.text 400 mixed (by kernel_rfl) (by kernel_rfl) ?_
    by_cases hk : x.path.toList = f.path.toList
    case pos =>
      simp [h0', h3', h7', k3, hlt, hlt2, hd, hk, hw]
      refine ⟨pre ++ [x], rest, by simp, out, ⟨done⟩, _, Le.refl _, ?_⟩
      simp [hx, h0', h3', h5', h6', k3, k8, f1, f2, f3, f4, f5, f6, za]
      rw [putF, if_pos hk] at hE
      exact ⟨hE, by omega⟩
    rw [putF, if_neg hk] at hE
    have hk2 : (x.path.toList == f.path.toList) = false := by simpa using hk
    simp only [List.length_cons] at hpl
    simp [h0', h3', h7', k3, hlt, hlt2, hd, hk, hw]
    refine T.text 400 mixed (by kernel_rfl) (by kernel_rfl) ?_
    cases done
    case true =>
      simp at hE hle
      have hc2 : (out.length + 1) * 32 ≤ 140737488355328 := by omega
      simp [h0', h3', h5', h6', h7', k3, k8, f3, f4, hlt, hlt2, hd, hw, over, File.ocl, hc2, hap]
      refine ⟨pre ++ [x], rest, by simp, out ++ [x], ⟨true⟩, _, Le.reseat [0, 3, 5, 6, 7] [(45, 8), (3, 3)] (by simp) (by simp [za, menB, Yb, h0', h3', h6']) ?_, ?_⟩
      · intro b hb cs hcs
        simp at hb
        rcases hb with rfl | rfl
        · simp [za] at hcs
          subst hcs
          exact zeH _
        · simp [za, k3] at hcs
          subst hcs
          simp [Yb]
      · simp [hx, h0', h3', h6', k3, za, hE]
        omega
    simp at hle
    cases hg : Op.bytesLess x.path.toList f.path.toList
    case false =>
      have hgt : gtrP x.path f.path = true := by simp [gtrP, hg, hk2]
      simp [hgt] at hE
      have hc2 : (out.length + 1) * 32 ≤ 140737488355328 := by omega
      have hc4 : out.length + 1 + 1 ≤ xs.length + 1 := by omega
      have hc3 : (out.length + 1 + 1) * 32 ≤ 140737488355328 := Nat.le_trans (Nat.mul_le_mul_right 32 hc4) (Nat.le_trans (Nat.le_of_eq (Nat.succ_mul xs.length 32)) (Nat.le_trans (Nat.add_le_add_right hb 32) (by decide)))
      simp [h0', h3', h5', h6', h7', k3, k8, f1, f2, f3, f4, hlt, hlt2, hd, hw, hk, hk2, hg, over, File.ocl, hc2, hc3, hap]
      refine ⟨pre ++ [x], rest, by simp, out ++ [f, x], ⟨true⟩, _, Le.reseat [0, 3, 5, 6, 7] [(45, 8), (3, 3)] (by simp) (by simp [za, menB, Yb, h0', h3', h6']) ?_, ?_⟩
      · intro b hb cs hcs
        simp at hb
        rcases hb with rfl | rfl
        · simp [za] at hcs
          subst hcs
          exact zeH _
        · simp [za, k3] at hcs
          subst hcs
          simp [Yb]
      · simp [hx, h0', h3', h6', k3, za, hE]
        omega
    case true =>
      have hgt : gtrP x.path f.path = false := by simp [gtrP, hg, hk2]
      simp [hgt] at hE
      have hc2 : (out.length + 1) * 32 ≤ 140737488355328 := hc1
      simp [h0', h3', h5', h6', h7', k3, k8, f1, f2, f3, f4, hlt, hlt2, hd, hw, hk, hk2, hg, over, File.ocl, hc2, hap]
      refine ⟨pre ++ [x], rest, by simp, out ++ [x], ⟨false⟩, _, Le.reseat [0, 3, 5, 6, 7] [(45, 8), (3, 3)] (by simp) (by simp [za, menB, Yb, h0', h3', h6']) ?_, ?_⟩
      · intro b hb cs hcs
        simp at hb
        rcases hb with rfl | rfl
        · simp [za] at hcs
          subst hcs
          exact zeH _
        · simp [za, k3] at hcs
          subst hcs
          simp [Yb]
      · simp [hx, h0', h3', h6', k3, za, hE]
        omega
def above (p : Option ByteArray) (x : ByteArray) : Bool := match p with | none => true | some q => Op.bytesLess q.toList x.toList
def Zz : Option ByteArray → List File → Bool
  | _, [] => true
  | p, x :: l => YJ x.path && (decide (x.text.size ≤ 60) && (above p x.path && Zz (some x.path) l))
def lastP : List File → Option ByteArray
  | [] => none
  | x :: l => match lastP l with | some p => some p | none => some x.path
theorem YO : ∀ (l : List File) (x : File), lastP (l ++ [x]) = some x.path
  | [], x => rfl
  | y :: l, x => by simp only [List.cons_append, lastP, YO l x]
def Yx (xs : List File) : Bool := Zz none xs && decide (xs.length ≤ 30)
def A179 : AC := (.seq (.ops [qO 2 (.mov (.c (.sc (.bool false))))])
  (.seq (.seq (.ops [qO 3 (.mov (iC 0))])
  (.block 0 (.loop (.seq (.seq (.ops [qO 4 (.mov (.t 3)), qO 5 (.mov (.t 0)), qO 6 (.llen (.t 5)), qO 7 (.bin .lss (.t 4) (.t 6))])
  (.cond (.t 7) .skip
  (.exit 0)))
  (.seq (.block 1 (.seq (.any [(qO 10 (.mov (.t 0)), []), (qO 11 (.mov (.t 3)), []), (qO 12 (.iadr 2 (.t 10) (.t 11)), [0, 1]), (qO 13 (.fadr 0 (.t 12)), [2]), (qO 14 (.load false 1 (.t 13)), [3]), (cO 15 189 [.t 14], [4]), (qO 16 (.not (.t 15)), [5]), (qO 17 (.mov (.t 16)), [6, 5]), (qG 18 17 false (.mov (.t 0)), [7]), (qG 19 17 false (.mov (.t 3)), [7]), (qG 20 17 false (.iadr 2 (.t 18) (.t 19)), [8, 9, 7]), (qG 21 17 false (.fadr 1 (.t 20)), [10, 7]), (qG 22 17 false (.load false 1 (.t 21)), [11, 7]), (qG 23 17 false (.slen (.t 22)), [12, 7]), (qG 24 17 false (.bin .gtr (.t 23) (iC 60)), [13, 7]), (qO 25 (.pick (.t 17) (.c (.sc (.bool true))) (.t 24)), [7, 14]), (qO 26 (.mov (.t 25)), [15, 7]), (qG 27 26 false (.mov (.t 3)), [16]), (qG 28 26 false (.bin .gtr (.t 27) (iC 0)), [17, 16]), (qG 29 26 false (.mov (.t 28)), [18, 16, 16]), (qG 30 29 true (.mov (.t 0)), [19]), (qG 31 29 true (.mov (.t 3)), [19]), (qG 32 29 true (.bin .sub (.t 31) (iC 1)), [21, 19]), (qG 33 29 true (.iadr 2 (.t 30) (.t 32)), [20, 22, 19]), (qG 34 29 true (.fadr 0 (.t 33)), [23, 19]), (qG 35 29 true (.load false 1 (.t 34)), [24, 19]), (qG 36 29 true (.mov (.t 0)), [19]), (qG 37 29 true (.mov (.t 3)), [19]), (qG 38 29 true (.iadr 2 (.t 36) (.t 37)), [26, 27, 19]), (qG 39 29 true (.fadr 0 (.t 38)), [28, 19]), (qG 40 29 true (.load false 1 (.t 39)), [29, 19]), (qG 41 29 true (.bin .geq (.t 35) (.t 40)), [25, 30, 19]), (qG 42 26 false (.pick (.t 29) (.t 41) (.c (.sc (.bool false)))), [19, 31, 16]), (qO 43 (.pick (.t 26) (.c (.sc (.bool true))) (.t 42)), [16, 32])])
  (.cond (.t 43) (.seq (.ops [qO 2 (.mov (.c (.sc (.bool false))))])
  .ret)
  .skip)))
  (.ops [qO 8 (.mov (.t 3)), qO 9 (.bin .add (.t 8) (iC 1)), qO 3 (.mov (.t 9))]))))))
  (.seq (.ops [qO 44 (.mov (.t 0)), qO 45 (.llen (.t 44)), qO 46 (.bin .leq (.t 45) (iC 30)), qO 2 (.mov (.t 46))])
  .ret)))
theorem K179 : Kf Tryz.prog Tryz.f179 A179 47 [.mov (.t 2)] := ⟨by kernel_rfl, by kernel_rfl, by kernel_rfl⟩
set_option maxHeartbeats 2000000 in
set_option maxRecDepth 100000 in
theorem R179 (xs : List File) (hb : xs.length < 4611686018427387904) (hp : ∀ x ∈ xs, x.path.size ≤ 1048576) : Ret Tryz.prog 179 [.ro (rows File.ty.cs xs) xs.length] (.sc (.bool (Yx xs))) [.un] := by
  refine Ret.run Tryz.func179 K179 (by simp) rfl rfl 900 ?_
  simp [A179, iniρ]
  refine T.rounds (μ := fun i : List File × List File => i.2.length)
    (fun i s => i.1 ++ i.2 = xs ∧ Zz (lastP i.1) i.2 = Zz none xs ∧ s.ρ 0 = .ro (rows File.ty.cs xs) xs.length ∧ s.ρ 3 = .sc (.int .i64 i.1.length) ∧ s.h = h0 ∧ s.n = 47) ([], xs) (by simp [za, lastP]) ?_
  rintro ⟨pre, rest⟩ ⟨ρ, hh, n⟩ ⟨hx, hE, k0, k3, rfl, rfl⟩
  simp only at hx hE k0 k3
  refine Zf (n := 400) ?_
  cases rest with
  | nil =>
    have hxl : pre.length = xs.length := by rw [← hx]; simp
    have hA : Zz none xs = true := by rw [← hE]; cases lastP pre <;> rfl
    simp [k0, k3, hxl]
    refine T.on 400 ?_
    simp [k0, Yx, hA]
    try omega
  | cons x rest =>
    have hle : pre.length + (rest.length + 1) = xs.length := by rw [← hx]; simp
    have hlt : (pre.length : Int) < xs.length := by omega
    have hlt2 : pre.length < xs.length := by omega
    have hw : IntKind.i64.wrap ((pre.length : Int) + 1) = pre.length + 1 := Ya (by omega) (by omega)
    have hd := Yd File.ty.csn pre (x :: rest)
    rw [hx, Zc] at hd
    have hd : List.drop (pre.length * 2) (rows File.ty.cs xs) = AV.sc (.string x.path) :: AV.sc (.string x.text) :: rows File.ty.cs rest := hd
    have hd1 : List.drop (pre.length * 2 + 1) (rows File.ty.cs xs) = AV.sc (.string x.text) :: rows File.ty.cs rest := by rw [← List.drop_drop, hd]; rfl
    have hxp := hp x (by rw [← hx]; simp)
    have stop : ∀ c, (YJ x.path && (decide (x.text.size ≤ 60) && above (lastP pre) x.path)) = c → c = false → Yx xs = false := fun c h1 h2 => by
      subst h2
      have : Zz none xs = false := by
        rw [← hE, Zz]
        cases h5 : YJ x.path <;> cases h6 : decide (x.text.size ≤ 60) <;> cases h7 : above (lastP pre) x.path <;> simp_all
      simp [Yx, this]
    simp [k0, k3, hlt]
    refine T.text 400 mixed (by kernel_rfl) (by kernel_rfl) ?_
    simp [k0, k3, hlt, hlt2, hd]
    refine zad.by rfl (by kernel_rfl) rfl (R189 x.path hxp) ?_
    cases h1 : YJ x.path
    · have := stop _ rfl (by simp [h1])
      simp [this]
    by_cases h2 : x.text.size ≤ 60
    case neg =>
      have := stop _ rfl (by simp [h2])
      have h2' : (60 : Int) < x.text.size := by omega
      simp [k0, k3, hlt, hlt2, hd1, h2', this]
    have h2' : ¬ ((60 : Int) < x.text.size) := by omega
    have fin : above (lastP pre) x.path = true → Zz (some x.path) rest = Zz none xs := fun h => by
      rw [← hE, Zz, h1, h]; simp [h2]
    rcases List.eq_nil_or_concat pre with rfl | ⟨p0, q, ep⟩
    · simp at hlt hlt2 hd1 hw
      simp [k0, k3, hlt, hlt2, hd1, h2']
      refine ⟨[x], rest, by simp, _, Le.refl _, ?_⟩
      have hF := fin rfl
      simp at hx
      simp [hx, k0, za, lastP, hF, hw]
    rw [List.concat_eq_append] at ep
    subst ep
    have hq : List.drop (p0.length * 2) (rows File.ty.cs xs) = AV.sc (.string q.path) :: AV.sc (.string q.text) :: rows File.ty.cs (x :: rest) := by
      have h := Yd File.ty.csn p0 (q :: x :: rest)
      have e : p0 ++ q :: x :: rest = xs := by rw [← hx]; simp
      rw [e, Zc] at h
      exact h
    have hw0 : IntKind.i64.wrap (p0.length : Int) = p0.length := Ya (by omega) (by simp only [List.length_append] at hle; omega)
    have hl0 : p0.length < xs.length := by simp only [List.length_append] at hle; omega
    rw [YO] at fin stop
    simp only [List.length_append, List.length_cons, List.length_nil, Nat.zero_add] at hlt hlt2 hd hd1 hw k3
    have hpos : (0 : Int) < (p0.length : Int) + 1 := by omega
    have hpos2 : (0 : Int) ≤ (p0.length : Int) + 1 := by omega
    have hlt3 : (p0.length : Int) + 1 < xs.length := by omega
    cases h3 : Op.bytesLess q.path.toList x.path.toList
    · have := stop _ rfl (by simp [above, h3])
      simp [k0, k3, hlt, hlt2, hd, hd1, h2', hpos, hpos2, hlt3, hw0, hl0, hq, h3, this]
    · have hF := fin (by simp [above, h3])
      simp [k0, k3, hlt, hlt2, hd, hd1, h2', hpos, hpos2, hlt3, hw0, hl0, hq, h3]
      refine ⟨p0 ++ [q] ++ [x], rest, by simp, _, Le.refl _, ?_⟩
      rw [YO]
      simp at hw hx
      simp [hx, k0, za, hF, hw]
      omega
theorem zc9 (f : File) : ∀ (xs : List File) (d : Bool), (putF f xs d).length ≤ xs.length + 1
  | [], d => by cases d <;> simp [putF]
  | x :: xs, d => by
    have h1 := zc9 f xs d
    rw [putF]
    split
    · simp; omega
    · split
      · have h3 : ∀ (xs : List File), (putF f xs true).length ≤ xs.length := by
          intro xs
          induction xs with
          | nil => simp [putF]
          | cons y ys ih =>
            rw [putF]
            split
            · simp; omega
            · simp; omega
        have := h3 xs
        simp; omega
      · simp; omega
theorem zaF (f : File) : ∀ (xs : List File) (d : Bool), ∀ x ∈ putF f xs d, x = f ∨ x ∈ xs
  | [], d, x, h => by cases d <;> simp [putF] at h; exact .inl h
  | y :: ys, d, x, h => by
    rw [putF] at h
    split at h
    · exact (zaF f ys d x h).imp id (List.mem_cons_of_mem _)
    · split at h
      · rcases List.mem_cons.1 h with rfl | h
        · exact .inl rfl
        · rcases List.mem_cons.1 h with rfl | h
          · exact .inr (List.mem_cons_self ..)
          · exact (zaF f ys true x h).imp id (List.mem_cons_of_mem _)
      · rcases List.mem_cons.1 h with rfl | h
        · exact .inr (List.mem_cons_self ..)
        · exact (zaF f ys d x h).imp id (List.mem_cons_of_mem _)
def yh (xs : List File) (f : File) : List File × Bool := if Yx (putF f xs false) = true then (putF f xs false, true) else (xs, false)
def A105 : AC := (.seq (.ops [wO 3 (.box (.t 1)), qO 4 (.mov (.c .em)), qO 5 (.mov (.c (.sc (.bool false))))])
  (.seq (.ops [qO 7 (.mov (.t 0)), qO 8 (.load true 2 (.t 3)), cO 9 178 [.t 7, .t 8], qO 6 (.mov (.t 9))])
  (.seq (.seq (.ops [qO 10 (.mov (.t 6)), cO 11 179 [.t 10], qO 12 (.not (.t 11))])
  (.cond (.t 12) (.seq (.ops [wO 13 (.bsl 2 0 [] []), qO 14 (.mov (.t 0)), wO 15 (.app 2 32 false (.t 13) (.t 14)), qO 4 (.mov (.t 15)), qO 5 (.mov (.c (.sc (.bool false))))])
  .ret)
  .skip))
  (.seq (.ops [qO 16 (.mov (.t 6)), qO 4 (.mov (.t 16)), qO 5 (.mov (.c (.sc (.bool true))))])
  .ret))))
theorem K105 : Kf Tryz.prog Tryz.f105 A105 17 [.mov (.t 4), .mov (.t 5)] := ⟨by kernel_rfl, by kernel_rfl, by kernel_rfl⟩
theorem R105 (xs : List File) (f : File) (hok : File.ty.slice.ok xs) (hp : ∀ x ∈ xs, x.path.size ≤ 1048576) (hf : f.path.size ≤ 1048576) : Ret Tryz.prog 105 [.ro (rows File.ty.cs xs) xs.length, .agg (File.ty.cs f)] (.tup [.own (rows File.ty.oc (yh xs f).1) (yh xs f).1.length 2, .sc (.bool (yh xs f).2)]) [.un, .un] := by
  have hb : xs.length * 32 ≤ 140737488351232 := hok.1
  obtain ⟨ys, hys⟩ : ∃ ys, ys = putF f xs false := ⟨_, rfl⟩
  have rp := R178 xs f hok
  have hl := zc9 f xs false
  have hm := zaF f xs false
  rw [← hys] at rp hl hm
  have rf := R179 ys (by omega) (fun x hx => (hm x hx).elim (fun e => e ▸ hf) (hp x))
  refine Ret.run Tryz.func105 K105 (by simp) rfl rfl 900 ?_
  simp [A105, iniρ, File.cse, over]
  refine callK.own 9 rfl (by kernel_rfl) (by simp [zd, yd]; rfl) rp (File.ty.flo ys) (by simp [za]) rfl ?_
  simp
  refine callK.ro 0 rfl (by kernel_rfl) (by simp [File.roc8]) rf rfl rfl rfl ?_
  have hcap : xs.length * 32 ≤ 140737488355328 := by omega
  have hsc := zfG xs
  have hfe : rows File.ty.cs xs = rows File.ty.oc xs := rfl
  cases h : Yx ys
  · simp [yh, ← hys, h, over, hcap, hfe, hsc, File.ocl, ex1, File.frL]
  · simp [yh, ← hys, h, ex1, File.ocl, File.frL]
theorem zbf (s : ByteArray) (i j : Nat) : (s.extract i j).data.toList = (s.data.toList.take j).drop i := by
  rw [ByteArray.data_extract, Array.toList_extract, List.extract_eq_take_drop, List.drop_take]
theorem zX (c : UInt8) : ∀ l : List UInt8, (Lib.indexByte l c = -1 ∧ c ∉ l) ∨ ∃ p q, l = p ++ c :: q ∧ c ∉ p ∧ Lib.indexByte l c = (p.length : Int)
  | [] => .inl ⟨rfl, by simp⟩
  | x :: l => by
    by_cases h : x = c
    · subst h
      exact .inr ⟨[], l, rfl, by simp, by simp [Lib.indexByte]⟩
    · have h2 : (x == c) = false := by simpa using h
      rcases zX c l with ⟨e, hn⟩ | ⟨p, q, e, hn, e2⟩
      · left
        refine ⟨by simp [Lib.indexByte, h2, e], fun hm => ?_⟩
        rcases List.mem_cons.1 hm with e2 | e2
        · exact h e2.symm
        · exact hn e2
      · right
        refine ⟨x :: p, q, by rw [e]; rfl, fun hm => ?_, ?_⟩
        · rcases List.mem_cons.1 hm with e3 | e3
          · exact h e3.symm
          · exact hn e3
        · have h3 : (Lib.indexByte l c == -1) = false := by rw [e2]; simp
          rw [Lib.indexByte, h2, h3, e2]
          simp
theorem u8_eq {x c : UInt8} : ((x.toNat : Int) = (c.toNat : Int)) ↔ x = c := ⟨fun h => UInt8.toNat_inj.1 (by omega), fun h => by rw [h]⟩
theorem yQ (s : ByteArray) (c : UInt8) (f : Nat) : ∀ (l : List UInt8) (i : Nat), c ∉ l → yu s (c.toNat : Int) f i l = [s.extract f (i + l.length)]
  | [], i, _ => rfl
  | x :: l, i, h => by
    have hx : ¬ ((x.toNat : Int) = (c.toNat : Int)) := fun e => h (by rw [u8_eq.1 e]; exact List.mem_cons_self ..)
    rw [yu, if_neg hx, yQ s c f l (i + 1) (fun hm => h (List.mem_cons_of_mem _ hm))]
    congr 2
    simp only [List.length_cons]; omega
theorem yZ (s : ByteArray) (c : UInt8) (f : Nat) (q : List UInt8) : ∀ (p : List UInt8) (i : Nat), c ∉ p → yu s (c.toNat : Int) f i (p ++ c :: q) = s.extract f (i + p.length) :: yu s (c.toNat : Int) (i + p.length + 1) (i + p.length + 1) q
  | [], i, _ => by rw [List.nil_append, yu, if_pos rfl]; rfl
  | x :: p, i, h => by
    have hx : ¬ ((x.toNat : Int) = (c.toNat : Int)) := fun e => h (by rw [u8_eq.1 e]; exact List.mem_cons_self ..)
    rw [List.cons_append, yu, if_neg hx, yZ s c f q p (i + 1) (fun hm => h (List.mem_cons_of_mem _ hm))]
    have e : i + 1 + p.length = i + (x :: p).length := by simp only [List.length_cons]; omega
    rw [e]
theorem zH (s : ByteArray) (c : UInt8) : ∀ (l : List UInt8) (f i : Nat), (yu s (c.toNat : Int) f i l).length = l.count c + 1
  | [], _, _ => rfl
  | x :: l, f, i => by
    rw [yu]
    by_cases h : x = c
    · rw [if_pos (u8_eq.2 h), List.length_cons, zH s c l, h, List.count_cons_self]
    · rw [if_neg (fun e => h (u8_eq.1 e)), zH s c l, List.count_cons_of_ne (fun e => h (by simpa using e))]
theorem R242 (s : ByteArray) (c : UInt8) : Ret Tryz.prog 242 [.sc (.string s), .sc (.string ⟨#[c]⟩)] (.sc (.int .i64 (Lib.indexByte s.data.toList c))) [.un, .un] :=
  Ret.twoOf rfl rfl rfl fun w => Any.strings_Index_one Tryz.lays143 s c w
theorem R193 (s : ByteArray) (c : UInt8) : Ret Tryz.prog 193 [.sc (.string s), .sc (.string ⟨#[c]⟩)] (.sc (.int .i64 (Lib.indexByte s.data.toList c))) [.un, .un] :=
  Ret.twoOf rfl rfl rfl fun w => Any.stringslite_Index_one Tryz.lays219 s c w
theorem R241 (s : ByteArray) (c : UInt8) : Ret Tryz.prog 241 [.sc (.string s), .sc (.string ⟨#[c]⟩)] (.sc (.int .i64 (Lib.countByte s.data.toList c))) [.un, .un] :=
  Ret.twoOf rfl rfl rfl fun w => Any.strings_Count_one Tryz.lays138 s c w
def cutF (s : ByteArray) (c : UInt8) : ByteArray × ByteArray × Bool :=
  if 0 ≤ Lib.indexByte s.data.toList c then (s.extract 0 (Lib.indexByte s.data.toList c).toNat, s.extract ((Lib.indexByte s.data.toList c).toNat + 1) s.size, true) else (s, ⟨#[]⟩, false)
def za7 (x : ByteArray × ByteArray × Bool) : AV := .tup [.sc (.string x.1), .sc (.string x.2.1), .sc (.bool x.2.2)]
def A123 : AC := (.seq (.ops [qO 4 (.mov (.c (.sc (.string ⟨#[]⟩)))), qO 5 (.mov (.c (.sc (.string ⟨#[]⟩)))), qO 6 (.mov (.c (.sc (.bool false))))])
  (.seq (.seq (.ops [qO 8 (.mov (.t 0)), qO 9 (.mov (.t 1)), cO 10 193 [.t 8, .t 9], qO 7 (.mov (.t 10))])
  (.seq (.ops [qO 11 (.mov (.t 7)), qO 12 (.bin .geq (.t 11) (iC 0))])
  (.cond (.t 12) (.seq (.any [(qO 13 (.mov (.t 0)), []), (qO 14 (.mov (.t 7)), []), (qO 15 (.subs (.t 13) none (some (.t 14))), [0, 1]), (qO 16 (.mov (.t 0)), []), (qO 17 (.mov (.t 7)), []), (qO 18 (.mov (.t 1)), []), (qO 19 (.slen (.t 18)), [5]), (qO 20 (.bin .add (.t 17) (.t 19)), [4, 6]), (qO 21 (.subs (.t 16) (some (.t 20)) none), [3, 7]), (qO 4 (.mov (.t 15)), [2, 0, 1, 2]), (qO 5 (.mov (.t 21)), [8, 9, 0, 1, 2, 3, 4, 5, 6, 7, 8, 9]), (qO 6 (.mov (.c (.sc (.bool true)))), [10, 0, 1, 2, 3, 4, 5, 6, 7, 8, 9, 10])])
  .ret)
  .skip)))
  (.seq (.ops [qO 22 (.mov (.t 0)), qO 4 (.mov (.t 22)), qO 5 (.mov (.c (.sc (.string ⟨#[]⟩)))), qO 6 (.mov (.c (.sc (.bool false))))])
  .ret)))
theorem K123 : Kf Tryz.prog Tryz.f123 A123 23 [.mov (.t 4), .mov (.t 5), .mov (.t 6)] := ⟨by kernel_rfl, by kernel_rfl, by kernel_rfl⟩
theorem R123 (s : ByteArray) (c : UInt8) (hs : s.size ≤ 140737488351232) : Ret Tryz.prog 123 [.sc (.string s), .sc (.string ⟨#[c]⟩)] (za7 (cutF s c)) [.un, .un] := by
  refine Ret.run Tryz.func123 K123 (by simp) rfl rfl 500 ?_
  simp [A123, iniρ]
  refine callK.ro 0 rfl (by kernel_rfl) (by simp [ya]) (R193 s c) rfl rfl rfl ?_
  rcases zX c s.data.toList with ⟨e, hn⟩ | ⟨p, q, e, hn, e2⟩
  · simp [e, cutF, za7]
  · have hsz := ZH e.symm
    have hl : p.length + 1 ≤ s.size := by rw [hsz]; simp
    have h0 : (0 : Int) ≤ p.length := by omega
    have hw : IntKind.i64.wrap ((p.length : Int) + 1) = p.length + 1 := Ya (by omega) (by omega)
    have h1 : (0 : Int) ≤ (p.length : Int) + 1 := by omega
    have h2 : ((p.length : Int) + 1).toNat = p.length + 1 := by omega
    have h3 : p.length ≤ s.size := by omega
    have hc : (⟨#[c]⟩ : ByteArray).size = 1 := rfl
    simp [e2, h0]
    refine T.text 400 mixed (by kernel_rfl) (by kernel_rfl) ?_
    simp [e2, h0, h1, h2, h3, hw, hl, hc, cutF, za7]
def A60 : AC := (.seq (.ops [qO 4 (.mov (.c (.sc (.string ⟨#[]⟩)))), qO 5 (.mov (.c (.sc (.string ⟨#[]⟩)))), qO 6 (.mov (.c (.sc (.bool false))))])
  (.seq (.ops [qO 7 (.mov (.t 0)), qO 8 (.mov (.t 1)), cO 9 123 [.t 7, .t 8], qO 10 (.ext (.t 9) 0), qO 11 (.ext (.t 9) 1), qO 12 (.ext (.t 9) 2), qO 4 (.mov (.t 10)), qO 5 (.mov (.t 11)), qO 6 (.mov (.t 12))])
  .ret))
theorem K60 : Kf Tryz.prog Tryz.f60 A60 13 [.mov (.t 4), .mov (.t 5), .mov (.t 6)] := ⟨by kernel_rfl, by kernel_rfl, by kernel_rfl⟩
theorem R60 (s : ByteArray) (c : UInt8) (hs : s.size ≤ 140737488351232) : Ret Tryz.prog 60 [.sc (.string s), .sc (.string ⟨#[c]⟩)] (za7 (cutF s c)) [.un, .un] := by
  refine Ret.run Tryz.func60 K60 (by simp) rfl rfl 500 ?_
  simp [A60, iniρ]
  refine callK.ro 0 rfl (by kernel_rfl) (by simp [ya]) (R123 s c hs) rfl (by simp [za7, inst, instL, shut]; exact ⟨rfl, rfl⟩) rfl ?_
  simp [za7]
theorem zdu {s : ByteArray} {f : Nat} : (s.extract f s.size).data.toList = s.data.toList.drop f := by
  rw [zbf, show s.size = s.data.toList.length by rw [Array.length_toList]; rfl, List.take_length]
theorem extr0 {s : ByteArray} {f m : Nat} (h : f + m ≤ s.size) : (s.extract f s.size).extract 0 m = s.extract f (f + m) := by
  rw [ByteArray.extract_extract, Nat.add_zero, Nat.min_eq_left h]
theorem extr1 {s : ByteArray} {f m n : Nat} (h : s.size ≤ f + n) : (s.extract f s.size).extract m n = s.extract (f + m) s.size := by
  rw [ByteArray.extract_extract, Nat.min_eq_right h]
theorem zaQ (n : Nat) (x : ByteArray) : rows Ty.str.oc (List.replicate n x) = List.replicate n (.sc (.string x)) := by
  induction n with
  | zero => rfl
  | succ n ih => rw [List.replicate_succ, List.replicate_succ, Zc, ih]; rfl
theorem zdc (l : List ByteArray) (n : Nat) (x : ByteArray) : over (rows Ty.str.oc (l ++ List.replicate (n + 1) ⟨#[]⟩)) l.length [.sc (.string x)] = rows Ty.str.oc ((l ++ [x]) ++ List.replicate n ⟨#[]⟩) := by
  rw [ze, ze, ze, zaQ, zaQ, List.replicate_succ]
  have e : (rows Ty.str.oc l).length = l.length := by rw [zb Ty.str.ocn]; exact Nat.mul_one _
  show (rows Ty.str.oc l ++ AV.sc (.string ⟨#[]⟩) :: List.replicate n (AV.sc (.string ⟨#[]⟩))).set l.length (.sc (.string x)) = _
  rw [← e, List.set_append_right _ _ (Nat.le_refl _), Nat.sub_self]
  show _ = (rows Ty.str.oc l ++ [AV.sc (.string x)]) ++ _
  simp
def A197 : AC := (.seq (.ops [qO 8 (.mov (.c .em))])
  (.seq (.seq (.ops [qO 12 (.mov (.t 3)), qO 13 (.bin .eql (.t 12) (iC 0))])
  (.cond (.t 13) (.seq (.ops [qO 8 (.mov (.c .em))])
  .ret)
  .skip))
  (.seq (.seq (.ops [qO 14 (.mov (.t 1)), qO 15 (.bin .eql (.t 14) (.c (.sc (.string ⟨#[]⟩))))])
  (.cond (.t 15) (.seq (.ops [qO 16 (.mov (.t 0)), qO 17 (.mov (.t 3)), cO 18 240 [.t 16, .t 17], qO 8 (.mov (.t 18))])
  .ret)
  .skip))
  (.seq (.seq (.ops [qO 19 (.mov (.t 3)), qO 20 (.bin .lss (.t 19) (iC 0))])
  (.cond (.t 20) (.ops [qO 21 (.mov (.t 0)), qO 22 (.mov (.t 1)), cO 23 241 [.t 21, .t 22], qO 24 (.bin .add (.t 23) (iC 1)), qO 3 (.mov (.t 24))])
  .skip))
  (.seq (.ops [qO 25 (.mov (.t 3)), qO 26 (.mov (.t 0)), qO 27 (.slen (.t 26)), qO 28 (.bin .add (.t 27) (iC 1)), qO 29 (.mm true (.t 25) (.t 28)), qO 3 (.mov (.t 29))])
  (.seq (.ops [qO 30 (.mov (.t 3)), wO 31 (.mk 1 16 [(.sc (.string ⟨#[]⟩))] (.t 30) (.t 30)), qO 9 (.mov (.t 31))])
  (.seq (.ops [qO 32 (.mov (.t 3)), qO 33 (.bin .sub (.t 32) (iC 1)), qO 3 (.mov (.t 33))])
  (.seq (.ops [qO 10 (.mov (iC 0))])
  (.seq (.block 0 (.loop (.seq (.seq (.ops [qO 34 (.mov (.t 10)), qO 35 (.mov (.t 3)), qO 36 (.bin .lss (.t 34) (.t 35))])
  (.cond (.t 36) .skip
  (.exit 0)))
  (.block 1 (.seq (.ops [qO 37 (.mov (.t 0)), qO 38 (.mov (.t 1)), cO 39 242 [.t 37, .t 38], qO 11 (.mov (.t 39))])
  (.seq (.seq (.ops [qO 40 (.mov (.t 11)), qO 41 (.bin .lss (.t 40) (iC 0))])
  (.cond (.t 41) (.exit 0)
  .skip))
  (.seq (.ops [qO 42 (.mov (.t 9)), qO 43 (.mov (.t 10)), qO 44 (.mov (.t 0)), qO 45 (.mov (.t 11)), qO 46 (.mov (.t 2)), qO 47 (.bin .add (.t 45) (.t 46)), qO 48 (.subs (.t 44) none (some (.t 47))), qO 49 (.iadr 1 (.t 42) (.t 43)), nO (.store 1 (.t 49) (.t 48))])
  (.seq (.ops [qO 50 (.mov (.t 0)), qO 51 (.mov (.t 11)), qO 52 (.mov (.t 1)), qO 53 (.slen (.t 52)), qO 54 (.bin .add (.t 51) (.t 53)), qO 55 (.subs (.t 50) (some (.t 54)) none), qO 0 (.mov (.t 55))])
  (.ops [qO 56 (.mov (.t 10)), qO 57 (.bin .add (.t 56) (iC 1)), qO 10 (.mov (.t 57))])))))))))
  (.seq (.ops [qO 58 (.mov (.t 9)), qO 59 (.mov (.t 10)), qO 60 (.mov (.t 0)), qO 61 (.iadr 1 (.t 58) (.t 59)), nO (.store 1 (.t 61) (.t 60))])
  (.seq (.ops [qO 62 (.mov (.t 9)), qO 63 (.mov (.t 10)), qO 64 (.bin .add (.t 63) (iC 1)), qO 65 (.subl 1 (.t 62) none (some (.t 64))), qO 8 (.mov (.t 65))])
  .ret)))))))))))
theorem K197 : Kf Tryz.prog Tryz.f197 A197 66 [.mov (.t 8)] := ⟨by kernel_rfl, by kernel_rfl, by kernel_rfl⟩
set_option maxHeartbeats 1000000 in
theorem R197 (s : ByteArray) (c : UInt8) (hs : s.size ≤ 1048576) : Ret Tryz.prog 197 [.sc (.string s), .sc (.string ⟨#[c]⟩), .sc (.int .i64 0), .sc (.int .i64 (-1))] (.own (rows Ty.str.oc (Zn s c.toNat)) (Zn s c.toNat).length 1) [.un, .un, .un, .un] := by
  obtain ⟨N, hN⟩ : ∃ N, N = s.data.toList.count c := ⟨_, rfl⟩
  have hlen : (Zn s c.toNat).length = N + 1 := by rw [hN]; exact zH s c s.data.toList 0 0
  have hNs : N ≤ s.size := by rw [hN, show s.size = s.data.toList.length by rw [Array.length_toList]; rfl]; exact List.count_le_length
  have hC := R241 s c
  rw [show Lib.countByte s.data.toList c = N from hN.symm] at hC
  have hcc : (⟨#[c]⟩ : ByteArray).size = 1 := rfl
  have hne : ¬ ((⟨#[c]⟩ : ByteArray).toList = []) := by rw [Lib.toList_data]; simp
  have w1 : IntKind.i64.wrap ((N : Int) + 1) = N + 1 := Ya (by omega) (by omega)
  have w2 : IntKind.i64.wrap ((s.size : Int) + 1) = s.size + 1 := Ya (by omega) (by omega)
  have w3 : IntKind.i64.wrap ((N : Int) + 1 - 1) = N := by rw [show (N : Int) + 1 - 1 = N by omega]; exact Ya (by omega) (by omega)
  have hmin : min ((N : Int) + 1) (s.size + 1) = N + 1 := by omega
  refine Ret.run Tryz.func197 K197 (by simp) rfl rfl 900 ?_
  simp [A197, iniρ, hne]
  refine callK.ro 0 rfl (by kernel_rfl) (by simp [ya]) hC rfl rfl rfl ?_
  have n1 : ¬ (s.size < N) := by omega
  have n2 : (0 : Int) ≤ (N : Int) + 1 := by omega
  have n3 : ((N : Int) + 1) * 16 ≤ 281474976710656 := by omega
  have n4 : (N : Int) + 1 ≤ 9223372036854775807 := by omega
  have n5 : ((N : Int) + 1).toNat = N + 1 := by omega
  have w0 : IntKind.i64.wrap (N : Int) = N := Ya (by omega) (by omega)
  simp [w1, w2, w3, n1, n2, n3, n4, n5]
  refine T.rounds (μ := fun i : List ByteArray × Nat × List UInt8 => i.2.2.length)
    (fun i t => i.2.1 ≤ s.size ∧ i.2.2 = s.data.toList.drop i.2.1 ∧ i.1 ++ yu s c.toNat i.2.1 i.2.1 i.2.2 = Zn s c.toNat ∧ t.ρ 0 = .sc (.string (s.extract i.2.1 s.size)) ∧ t.ρ 1 = .sc (.string ⟨#[c]⟩) ∧ t.ρ 2 = .sc (.int .i64 0) ∧ t.ρ 3 = .sc (.int .i64 N) ∧ t.ρ 9 = .sl 31 0 (N + 1) 1 false ∧ t.ρ 10 = .sc (.int .i64 i.1.length) ∧
      t.h 31 = some (some (rows Ty.str.oc (i.1 ++ List.replicate (N + 1 - i.1.length) ⟨#[]⟩))) ∧ t.n = 66) ([], 0, s.data.toList) (by simp [za, Zn, zaQ, w0]) ?_
  rintro ⟨done, f, l⟩ ⟨ρ, hh, n⟩ ⟨hf, hl, hE, k0, k1, k2, k3, k9, k10, k31, rfl⟩
  simp only at hf hl hE k0 k1 k2 k3 k9 k10 k31
  have hn2 := congrArg List.length hE
  rw [List.length_append, zH, hlen] at hn2
  refine Zf (n := 400) ?_
  have lt1 : (done.length : Int) ≤ N := by omega
  have hI := R242 (s.extract f s.size) c
  rw [zdu, ← hl] at hI
  have fsz : (s.extract f s.size).size = s.size - f := by rw [ByteArray.size_extract]; omega
  have hlsz : l.length = s.size - f := by rw [hl, List.length_drop]; rfl
  by_cases hlt : done.length < N
  case neg =>
    obtain rfl : done.length = N := by omega
    have hcn : c ∉ l := fun hm => by have := List.count_pos_iff.2 hm; omega
    rw [yQ s c f l f hcn] at hE
    have e2 : f + l.length = s.size := by omega
    rw [e2] at hE
    have hov := zdc done 0 (s.extract f s.size)
    rw [List.replicate_zero, List.append_nil, hE] at hov
    rw [show done.length + 1 - done.length = 0 + 1 by omega] at k31
    have hrl : (rows Ty.str.oc (done ++ List.replicate (0 + 1) (⟨#[]⟩ : ByteArray))).length = done.length + 1 := by rw [zb Ty.str.ocn]; simp; exact Nat.mul_one _
    have hrs : (rows Ty.str.oc (Zn s c.toNat)).length = done.length + 1 := by rw [zb Ty.str.ocn, hlen]; exact Nat.mul_one _
    have hid : Yb.idfreeL (rows Ty.str.oc (Zn s c.toNat)) = true := Ty.str.frL _
    obtain ⟨R, hR⟩ : ∃ R, R = rows Ty.str.oc (done ++ List.replicate (0 + 1) (⟨#[]⟩ : ByteArray)) := ⟨_, rfl⟩
    rw [← hR] at k31 hov hrl
    have lt3 : (done.length : Int) < done.length + 1 := by omega
    have w5 : IntKind.i64.wrap ((done.length : Int) + 1) = done.length + 1 := w1
    simp [k3, k10]
    refine T.on 400 ?_
    simp [k0, k9, k10, k31, lt3, hrl, hov, w5, n2, n5, ex1, hrs, hid, hlen]
  rcases zX c l with ⟨e, hn⟩ | ⟨p, q, e, hn, e2⟩
  · have : l.count c = 0 := List.count_eq_zero.2 hn
    omega
  have hsz2 : p.length + (q.length + 1) = s.size - f := by rw [← hlsz, e]; simp
  have lt2 : (done.length : Int) < N := by omega
  have hov := zdc done (N - done.length) (s.extract f (f + p.length))
  rw [show N - done.length + 1 = N + 1 - done.length by omega, show N - done.length = N + 1 - (done.length + 1) by omega] at hov
  have hrl : (rows Ty.str.oc (done ++ List.replicate (N + 1 - done.length) (⟨#[]⟩ : ByteArray))).length = N + 1 := by rw [zb Ty.str.ocn]; simp; show _ * 1 = _; omega
  obtain ⟨R, hR⟩ : ∃ R, R = rows Ty.str.oc (done ++ List.replicate (N + 1 - done.length) (⟨#[]⟩ : ByteArray)) := ⟨_, rfl⟩
  rw [← hR] at k31 hov hrl
  have x0 := extr0 (s := s) (f := f) (m := p.length) (by omega)
  have x1 := extr1 (s := s) (f := f) (m := p.length + 1) (n := s.size - f) (by omega)
  have wp : IntKind.i64.wrap (p.length : Int) = p.length := Ya (by omega) (by omega)
  have wp1 : IntKind.i64.wrap ((p.length : Int) + 1) = p.length + 1 := Ya (by omega) (by omega)
  have wd1 : IntKind.i64.wrap ((done.length : Int) + 1) = done.length + 1 := Ya (by omega) (by omega)
  have q0 : ¬ ((p.length : Int) < 0) := by omega
  have q1 : (0 : Int) ≤ (p.length : Int) + 1 := by omega
  have q2 : ((p.length : Int) + 1).toNat = p.length + 1 := by omega
  have q3 : p.length ≤ s.size - f := by omega
  have q4 : p.length + 1 ≤ s.size - f := by omega
  have q5 : (done.length : Int) < N + 1 := by omega
  have q6 : done.length + 1 ≤ N + 1 := by omega
  rw [e2] at hI
  simp [k0, k1, k3, k10, lt2]
  refine callK.ro 0 rfl (by kernel_rfl) (by simp [ya]) hI rfl rfl rfl ?_
  simp [k0, k1, k2, k9, k10, k31, lt2, q0, q1, q2, q3, q4, q5, q6, wp, wp1, wd1, fsz, hcc, hrl, hov, x0, x1]
  have hq : q = s.data.toList.drop (f + p.length + 1) := by
    have h := congrArg (List.drop (p.length + 1)) (hl.symm.trans e)
    rw [List.drop_drop, show p.length + 1 = (p ++ [c]).length by simp, show p ++ c :: q = (p ++ [c]) ++ q by simp, List.drop_left] at h
    rw [← h]; simp; congr 1
  refine ⟨done ++ [s.extract f (f + p.length)], f + p.length + 1, q, by rw [e]; simp; omega, _, Le.refl _, by omega, hq, ?_, ?_⟩
  · rw [e, yZ s c f q p f hn] at hE
    rw [← hE]; simp
  · simp [za, k0, k1, k2, k3, k9, show f + (p.length + 1) = f + p.length + 1 by omega]
def A130 : AC := (.seq (.ops [qO 4 (.mov (.c .em))])
  (.seq (.ops [qO 5 (.mov (.t 0)), qO 6 (.mov (.t 1)), cO 7 197 [.t 5, .t 6, iC 0, (iC (-1))], qO 4 (.mov (.t 7))])
  .ret))
theorem K130 : Kf Tryz.prog Tryz.f130 A130 8 [.mov (.t 4)] := ⟨by kernel_rfl, by kernel_rfl, by kernel_rfl⟩
theorem R130 (s : ByteArray) (c : UInt8) (hs : s.size ≤ 1048576) : Ret Tryz.prog 130 [.sc (.string s), .sc (.string ⟨#[c]⟩)] (.own (rows Ty.str.oc (Zn s c.toNat)) (Zn s c.toNat).length 1) [.un, .un] := by
  have hl : (rows Ty.str.oc (Zn s c.toNat)).length = (Zn s c.toNat).length := by rw [zb Ty.str.ocn]; exact Nat.mul_one _
  have hid : Yb.idfreeL (rows Ty.str.oc (Zn s c.toNat)) = true := Ty.str.frL _
  refine Ret.run Tryz.func130 K130 (by simp) rfl rfl 500 ?_
  simp [A130, iniρ]
  refine callK.own 7 rfl (by kernel_rfl) (by simp [ya]) (R197 s c hs) (Ty.str.flo _) (by simp) rfl ?_
  simp [ex1, hl, hid]
def A238 : AC := (.seq (.ops [qO 2 (.mov (.c (.sc (.bool false))))])
  (.seq (.ops [qO 3 (.mov (.t 0)), cO 4 124 [.t 3], qO 5 (.mov (.t 4)), qG 6 5 false (.mov (.t 0)), cG 7 5 false 125 [.t 6], qO 8 (.pick (.t 5) (.c (.sc (.bool true))) (.t 7)), qO 9 (.mov (.t 8)), qG 10 9 false (.mov (.t 0)), qG 11 9 false (.bin .eql (.t 10) (.c (.sc (.int .u8 46)))), qO 12 (.pick (.t 9) (.c (.sc (.bool true))) (.t 11)), qO 13 (.mov (.t 12)), qG 14 13 false (.mov (.t 0)), qG 15 13 false (.bin .eql (.t 14) (.c (.sc (.int .u8 45)))), qO 16 (.pick (.t 13) (.c (.sc (.bool true))) (.t 15)), qO 17 (.mov (.t 16)), qG 18 17 false (.mov (.t 0)), qG 19 17 false (.bin .eql (.t 18) (.c (.sc (.int .u8 95)))), qO 20 (.pick (.t 17) (.c (.sc (.bool true))) (.t 19)), qO 2 (.mov (.t 20))])
  .ret))
theorem K238 : Kf Tryz.prog Tryz.f238 A238 21 [.mov (.t 2)] := ⟨by kernel_rfl, by kernel_rfl, by kernel_rfl⟩
theorem R238 (c : UInt8) : Ret Tryz.prog 238 [.sc (.int .u8 c.toNat)] (.sc (.bool (lttI c.toNat))) [.un] := by
  refine Ret.run Tryz.func238 K238 (by simp) rfl rfl 500 ?_
  simp [A238, iniρ]
  refine callK.ro 0 rfl (by kernel_rfl) (by simp [ya]) (R124 c) rfl rfl rfl ?_
  cases h1 : zV (c.toNat : Int)
  case true => simp [lttI, h1]
  simp
  refine callK.ro 0 rfl (by kernel_rfl) (by simp [ya]) (R125 c) rfl rfl rfl ?_
  cases h2 : figI (c.toNat : Int)
  case true => simp [lttI, h1, h2]
  by_cases h3 : (c.toNat : Int) = 46
  · simp [lttI, h1, h2, h3]
  by_cases h4 : (c.toNat : Int) = 45
  · simp [lttI, h1, h2, h3, h4]
  simp [lttI, h1, h2, h3, h4]
def A195 : AC := (.seq (.ops [qO 2 (.mov (.c (.sc (.bool false))))])
  (.seq (.seq (.ops [qO 3 (.mov (iC 0))])
  (.block 0 (.loop (.seq (.seq (.ops [qO 4 (.mov (.t 3)), qO 5 (.mov (.t 0)), qO 6 (.slen (.t 5)), qO 7 (.bin .lss (.t 4) (.t 6))])
  (.cond (.t 7) .skip
  (.exit 0)))
  (.seq (.block 1 (.seq (.ops [qO 10 (.mov (.t 0)), qO 11 (.mov (.t 3)), qO 12 (.idx (.t 10) (.t 11)), cO 13 238 [.t 12], qO 14 (.not (.t 13))])
  (.cond (.t 14) (.seq (.ops [qO 2 (.mov (.c (.sc (.bool false))))])
  .ret)
  .skip)))
  (.ops [qO 8 (.mov (.t 3)), qO 9 (.bin .add (.t 8) (iC 1)), qO 3 (.mov (.t 9))]))))))
  (.seq (.ops [qO 15 (.mov (.t 0)), qO 16 (.slen (.t 15)), cO 17 126 [.t 16, iC 1, iC 12], qO 18 (.mov (.t 17)), qG 19 18 true (.mov (.t 0)), qG 20 18 true (.bin .neq (.t 19) (.c (.sc (.string ⟨#[46]⟩)))), qO 21 (.pick (.t 18) (.t 20) (.c (.sc (.bool false)))), qO 22 (.mov (.t 21)), qG 23 22 true (.mov (.t 0)), qG 24 22 true (.bin .neq (.t 23) (.c (.sc (.string ⟨#[46, 46]⟩)))), qO 25 (.pick (.t 22) (.t 24) (.c (.sc (.bool false)))), qO 2 (.mov (.t 25))])
  .ret)))
theorem K195 : Kf Tryz.prog Tryz.f195 A195 26 [.mov (.t 2)] := ⟨by kernel_rfl, by kernel_rfl, by kernel_rfl⟩
theorem R195 (s : ByteArray) (hs : s.size ≤ 140737488351232) : Ret Tryz.prog 195 [.sc (.string s)] (.sc (.bool (yk s))) [.un] := by
  refine Ret.run Tryz.func195 K195 (by simp) rfl rfl 500 ?_
  simp [A195, iniρ]
  refine T.rounds (μ := fun i : List UInt8 × List UInt8 => i.2.length)
    (fun i t => i.1 ++ i.2 = s.data.toList ∧ letL i.2 = letL s.data.toList ∧ t.ρ 0 = .sc (.string s) ∧ t.ρ 3 = .sc (.int .i64 i.1.length) ∧ t.h = h0 ∧ t.n = 26) ([], s.data.toList) (by simp [za]) ?_
  rintro ⟨pre, rest⟩ ⟨ρ, hh, n⟩ ⟨hx, hE, k0, k3, rfl, rfl⟩
  simp only at hx hE k0 k3
  have hsz := ZH hx
  refine Zf (n := 400) ?_
  cases rest with
  | nil =>
    simp at hsz
    simp [k0, k3, hsz]
    refine T.on 400 ?_
    simp [k0]
    refine callK.ro 0 rfl (by kernel_rfl) (by simp [ya]) (R126 s.size 1 12) rfl rfl rfl ?_
    have hL : letL s.data.toList = true := by rw [← hE]; rfl
    cases h1 : inR s.size 1 12
    case false => simp [yk, h1]
    by_cases h2 : s.toList = [46]
    case pos => simp [k0, yk, h1, h2]
    have h2' : (s.toList == [46]) = false := by simpa using h2
    by_cases h3 : s.toList = [46, 46]
    · simp [k0, yk, h1, h2, h2', h3, hL]
    · have h3' : (s.toList == [46, 46]) = false := by simpa using h3
      simp [k0, yk, h1, h2, h2', h3, h3', hL]
  | cons c rest =>
    have hg := yU hx
    simp at hsz
    have hlt : (pre.length : Int) < s.size := by omega
    have hw : IntKind.i64.wrap ((pre.length : Int) + 1) = pre.length + 1 := Ya (by omega) (by omega)
    simp [k0, k3, hlt, hg]
    refine callK.ro 0 rfl (by kernel_rfl) (by simp [ya]) (R238 c) rfl rfl rfl ?_
    cases h1 : lttI (c.toNat : Int)
    · have : yk s = false := by simp [yk, ← hE, letL, h1]
      simp [this]
    · simp [k3, hw]
      refine ⟨pre ++ [c], rest, by simp, _, Le.refl _, ?_⟩
      simp [hx, k0, za, ← hE, letL, h1]
def A128 : AC := (.seq (.ops [qO 2 (.mov (.c (.sc (.bool false))))])
  (.seq (.ops [qO 6 (.mov (.t 0)), cO 7 130 [.t 6, (.c (.sc (.string ⟨#[47]⟩)))], qO 3 (.mov (.t 7))])
  (.seq (.seq (.ops [qO 8 (.mov (.t 3)), qO 9 (.llen (.t 8)), qO 10 (.mov (iC 0))])
  (.block 0 (.loop (.seq (.ops [qO 11 (.bin .lss (.t 10) (.t 9))])
  (.seq (.cond (.t 11) .skip
  (.exit 0))
  (.seq (.block 1 (.seq (.ops [qO 12 (.iadr 1 (.t 8) (.t 10)), qO 13 (.load false 1 (.t 12)), qO 5 (.mov (.t 13))])
  (.seq (.ops [qO 14 (.mov (.t 5)), cO 15 195 [.t 14], qO 16 (.not (.t 15))])
  (.cond (.t 16) (.seq (.ops [qO 2 (.mov (.c (.sc (.bool false))))])
  .ret)
  .skip))))
  (.ops [qO 17 (.bin .add (.t 10) (iC 1)), qO 10 (.mov (.t 17))])))))))
  (.seq (.ops [qO 18 (.mov (.t 3)), qO 19 (.llen (.t 18)), qO 20 (.bin .leq (.t 19) (iC 4)), qO 2 (.mov (.t 20))])
  .ret))))
theorem K128 : Kf Tryz.prog Tryz.f128 A128 21 [.mov (.t 2)] := ⟨by kernel_rfl, by kernel_rfl, by kernel_rfl⟩
theorem R128 (s : ByteArray) (hs : s.size ≤ 1048576) : Ret Tryz.prog 128 [.sc (.string s)] (.sc (.bool (YJ s))) [.un] := by
  have hz : ∀ x ∈ Zn s 47, x.size ≤ s.size := yH s 47 _ 0 0
  have hl : (Zn s 47).length ≤ s.size + 1 := by
    have := ZZ s 47 s.data.toList 0 0
    simpa [Zn] using this
  obtain ⟨ps, hps⟩ : ∃ ps, ps = Zn s 47 := ⟨_, rfl⟩
  have rs := R130 s 47 hs
  rw [show (((47 : UInt8).toNat : Nat) : Int) = 47 from rfl] at rs
  rw [← hps] at hz hl rs
  refine Ret.run Tryz.func128 K128 (by simp) rfl rfl 900 ?_
  simp [A128, iniρ]
  refine callK.own 6 rfl (by kernel_rfl) (by simp [ya]) rs (Ty.str.flo ps) (by simp) rfl ?_
  simp
  refine T.rounds (μ := fun i : List ByteArray × List ByteArray => i.2.length)
    (fun i t => i.1 ++ i.2 = ps ∧ ZD i.2 = ZD ps ∧ t.ρ 3 = .sl 6 0 ps.length 1 false ∧ t.ρ 8 = .sl 6 0 ps.length 1 false ∧ t.ρ 9 = .sc (.int .i64 ps.length) ∧ t.ρ 10 = .sc (.int .i64 i.1.length) ∧ t.h 6 = some (some (rows Ty.str.oc ps)) ∧ t.n = 21) ([], ps) (by simp [za]) ?_
  rintro ⟨pre, rest⟩ ⟨ρ, hh, n⟩ ⟨hx, hE, k3, k8, k9, k10, k6, rfl⟩
  simp only at hx hE k3 k8 k9 k10 k6
  refine Zf (n := 400) ?_
  cases rest with
  | nil =>
    have hxl : pre.length = ps.length := by rw [← hx]; simp
    have hA : ZD ps = true := by rw [← hE]; rfl
    simp [k9, k10, hxl]
    refine T.on 400 ?_
    simp [k3, YJ, ← hps, hA]
    all_goals omega
  | cons x rest =>
    have hle : pre.length + (rest.length + 1) = ps.length := by rw [← hx]; simp
    have hlt : (pre.length : Int) < ps.length := by omega
    have hw : IntKind.i64.wrap ((pre.length : Int) + 1) = pre.length + 1 := Ya (by omega) (by omega)
    have hd := zd4 pre rest x
    rw [hx] at hd
    have hd : List.drop pre.length (rows Ty.str.oc ps) = .sc (.string x) :: rows Ty.str.oc rest := hd
    have hxs := hz x (by rw [← hx]; simp)
    simp [k8, k9, k10, k6, hlt, hd]
    refine callK.ro 0 rfl (by kernel_rfl) (by simp [ya, za]) (R195 x (by omega)) rfl rfl rfl ?_
    cases h1 : yk x
    · have : YJ s = false := by
        have h2 : ZD ps = false := by rw [← hE, ZD, h1]; rfl
        simp [YJ, ← hps, h2]
      simp [this]
    · simp [k10, hw]
      refine ⟨pre ++ [x], rest, by simp, _, Le.refl _, ?_⟩
      simp [hx, za, k3, k8, k9, k6, ← hE, ZD, h1]
def A224 : AC := (.seq (.ops [qO 2 (.mov (.c (.sc (.bool false))))])
  (.seq (.seq (.ops [qO 5 (.mov (.t 0)), qO 6 (.llen (.t 5)), qO 7 (.mov (iC 0))])
  (.block 0 (.loop (.seq (.ops [qO 8 (.bin .lss (.t 7) (.t 6))])
  (.seq (.cond (.t 8) .skip
  (.exit 0))
  (.seq (.block 1 (.seq (.ops [qO 9 (.mov (.t 7)), qO 10 (.iadr 2 (.t 5) (.t 7)), qO 11 (.load true 2 (.t 10)), wO 4 (.alloc [(.sc (.string ⟨#[]⟩)), (.sc (.string ⟨#[]⟩))]), qO 3 (.mov (.t 9)), nO (.store 2 (.t 4) (.t 11))])
  (.seq (.any [(qO 12 (.fadr 0 (.t 4)), []), (qO 13 (.load false 1 (.t 12)), [0]), (cO 14 128 [.t 13], [1]), (qO 15 (.not (.t 14)), [2]), (qO 16 (.mov (.t 15)), [3, 2]), (qG 17 16 false (.fadr 1 (.t 4)), [4]), (qG 18 16 false (.load false 1 (.t 17)), [5, 4]), (qG 19 16 false (.slen (.t 18)), [6, 4]), (qG 20 16 false (.bin .gtr (.t 19) (iC 60)), [7, 4]), (qO 21 (.pick (.t 16) (.c (.sc (.bool true))) (.t 20)), [4, 8]), (qO 22 (.mov (.t 21)), [9, 4]), (qG 23 22 false (.mov (.t 3)), [10]), (qG 24 22 false (.bin .gtr (.t 23) (iC 0)), [11, 10]), (qG 25 22 false (.mov (.t 24)), [12, 10, 10]), (qG 26 25 true (.fadr 0 (.t 4)), [13]), (qG 27 25 true (.load false 1 (.t 26)), [14, 13]), (qG 28 25 true (.mov (.t 0)), [13]), (qG 29 25 true (.mov (.t 3)), [13]), (qG 30 25 true (.bin .sub (.t 29) (iC 1)), [17, 13]), (qG 31 25 true (.iadr 2 (.t 28) (.t 30)), [16, 18, 13]), (qG 32 25 true (.fadr 0 (.t 31)), [19, 13]), (qG 33 25 true (.load false 1 (.t 32)), [20, 13]), (qG 34 25 true (.bin .leq (.t 27) (.t 33)), [15, 21, 13]), (qG 35 22 false (.pick (.t 25) (.t 34) (.c (.sc (.bool false)))), [13, 22, 10]), (qO 36 (.pick (.t 22) (.c (.sc (.bool true))) (.t 35)), [10, 23])])
  (.cond (.t 36) (.seq (.ops [qO 2 (.mov (.c (.sc (.bool false))))])
  .ret)
  .skip))))
  (.ops [qO 37 (.bin .add (.t 7) (iC 1)), qO 7 (.mov (.t 37))])))))))
  (.seq (.ops [qO 38 (.mov (.t 0)), qO 39 (.llen (.t 38)), qO 40 (.bin .leq (.t 39) (iC 30)), qO 2 (.mov (.t 40))])
  .ret)))
theorem K224 : Kf Tryz.prog Tryz.f224 A224 41 [.mov (.t 2)] := ⟨by kernel_rfl, by kernel_rfl, by kernel_rfl⟩
set_option maxHeartbeats 2000000 in
set_option maxRecDepth 100000 in
theorem R224 (xs : List File) (hb : xs.length < 4611686018427387904) (hp : ∀ x ∈ xs, x.path.size ≤ 1048576) : Ret Tryz.prog 224 [.ro (rows File.ty.cs xs) xs.length] (.sc (.bool (Yx xs))) [.un] := by
  refine Ret.run Tryz.func224 K224 (by simp) rfl rfl 900 ?_
  simp [A224, iniρ]
  refine T.rounds (μ := fun i : List File × List File => i.2.length)
    (fun i s => i.1 ++ i.2 = xs ∧ Zz (lastP i.1) i.2 = Zz none xs ∧ s.ρ 0 = .ro (rows File.ty.cs xs) xs.length ∧ s.ρ 5 = .ro (rows File.ty.cs xs) xs.length ∧ s.ρ 6 = .sc (.int .i64 xs.length) ∧ s.ρ 7 = .sc (.int .i64 i.1.length) ∧ s.h 4 = none ∧ s.n = 41) ([], xs) (by simp [za, lastP]) ?_
  rintro ⟨pre, rest⟩ ⟨ρ, hh, n⟩ ⟨hx, hE, k0, k5, k6, k7, f4, rfl⟩
  simp only at hx hE k0 k5 k6 k7 f4
  refine Zf (n := 400) ?_
  cases rest with
  | nil =>
    have hxl : pre.length = xs.length := by rw [← hx]; simp
    have hA : Zz none xs = true := by rw [← hE]; cases lastP pre <;> rfl
    simp [k6, k7, hxl]
    refine T.on 400 ?_
    simp [k0, Yx, hA]
    all_goals omega
  | cons x rest =>
    have hle : pre.length + (rest.length + 1) = xs.length := by rw [← hx]; simp
    have hlt : (pre.length : Int) < xs.length := by omega
    have hlt2 : pre.length < xs.length := by omega
    have hw : IntKind.i64.wrap ((pre.length : Int) + 1) = pre.length + 1 := Ya (by omega) (by omega)
    have hd := Yd File.ty.csn pre (x :: rest)
    rw [hx, Zc] at hd
    have hd : List.drop (pre.length * 2) (rows File.ty.cs xs) = AV.sc (.string x.path) :: AV.sc (.string x.text) :: rows File.ty.cs rest := hd
    have hxp := hp x (by rw [← hx]; simp)
    have stop : ∀ c, (YJ x.path && (decide (x.text.size ≤ 60) && above (lastP pre) x.path)) = c → c = false → Yx xs = false := fun c h1 h2 => by
      subst h2
      have : Zz none xs = false := by
        rw [← hE, Zz]
        cases h5 : YJ x.path <;> cases h6 : decide (x.text.size ≤ 60) <;> cases h7 : above (lastP pre) x.path <;> simp_all
      simp [Yx, this]
    have fin : YJ x.path = true → x.text.size ≤ 60 → above (lastP pre) x.path = true → Zz (some x.path) rest = Zz none xs := fun h1 h2 h => by
      rw [← hE, Zz, h1, h]; simp [h2]
    simp [k0, k5, k6, k7, hlt, hlt2, hd, f4, over]
    refine T.text 400 mixed (by kernel_rfl) (by kernel_rfl) ?_
    simp
    refine zad.by rfl (by kernel_rfl) (by simp [ya]) (R128 x.path hxp) ?_
    cases h1 : YJ x.path
    · have := stop _ rfl (by simp [h1])
      simp [this]
    by_cases h2 : x.text.size ≤ 60
    case neg =>
      have := stop _ rfl (by simp [h2])
      have h2' : (60 : Int) < x.text.size := by omega
      simp [h2', this]
    have h2' : ¬ ((60 : Int) < x.text.size) := by omega
    rcases List.eq_nil_or_concat pre with rfl | ⟨p0, q, ep⟩
    · simp at hlt hlt2 hw k7
      simp [k7, h2']
      refine ⟨[x], rest, by simp, _, Le.reset [0, 5, 6, 7] [] (by simp [za, menB, Yb, k0, k5, k6]) (by simp), ?_⟩
      have hF := fin h1 h2 rfl
      simp at hx
      simp [hx, k0, k5, k6, za, lastP, hF, hw]
    rw [List.concat_eq_append] at ep
    subst ep
    have hq : List.drop (p0.length * 2) (rows File.ty.cs xs) = AV.sc (.string q.path) :: AV.sc (.string q.text) :: rows File.ty.cs (x :: rest) := by
      have h := Yd File.ty.csn p0 (q :: x :: rest)
      have e : p0 ++ q :: x :: rest = xs := by rw [← hx]; simp
      rw [e, Zc] at h
      exact h
    have hw0 : IntKind.i64.wrap (p0.length : Int) = p0.length := Ya (by omega) (by simp only [List.length_append] at hle; omega)
    have hl0 : p0.length < xs.length := by simp only [List.length_append] at hle; omega
    rw [YO] at fin stop
    simp only [List.length_append, List.length_cons, List.length_nil, Nat.zero_add] at hlt hlt2 hd hw k7
    have hpos : (0 : Int) < (p0.length : Int) + 1 := by omega
    have hl0' : (p0.length : Int) < xs.length := by omega
    cases h3 : Op.bytesLess q.path.toList x.path.toList
    · have := stop _ rfl (by simp [above, h3])
      have h4 := zfL x.path.toList q.path.toList
      rw [h3] at h4
      simp [k0, k7, h2', hpos, hw0, hl0, hl0', hq, h3, h4, this]
    · have hF := fin h1 h2 (by simp [above, h3])
      have h4 := zfL x.path.toList q.path.toList
      rw [h3] at h4
      simp [k0, k7, h2', hpos, hw0, hl0, hl0', hq, h3, h4]
      refine ⟨p0 ++ [q] ++ [x], rest, by simp, _, Le.reset [0, 5, 6, 7] [] (by simp [za, menB, Yb, k0, k5, k6]) (by simp), ?_⟩
      rw [YO]
      simp at hw hx
      simp [hx, k0, k5, k6, za, hF, hw]
      omega
def ZM : List File → Bool
  | [] => true
  | x :: l => yk x.path && ZM l
def zU (xs : List File) : Bool := ZM xs && (decide (xs.length ≤ 6) && Yx xs)
def A210 : AC := (.seq (.ops [qO 2 (.mov (.c (.sc (.bool false))))])
  (.seq (.seq (.ops [qO 5 (.mov (.t 0)), qO 6 (.llen (.t 5)), qO 7 (.mov (iC 0))])
  (.block 0 (.loop (.seq (.ops [qO 8 (.bin .lss (.t 7) (.t 6))])
  (.seq (.cond (.t 8) .skip
  (.exit 0))
  (.seq (.block 1 (.seq (.ops [qO 9 (.iadr 2 (.t 5) (.t 7)), qO 10 (.load true 2 (.t 9)), wO 4 (.alloc [(.sc (.string ⟨#[]⟩)), (.sc (.string ⟨#[]⟩))]), nO (.store 2 (.t 4) (.t 10))])
  (.seq (.ops [qO 11 (.fadr 0 (.t 4)), qO 12 (.load false 1 (.t 11)), cO 13 195 [.t 12], qO 14 (.not (.t 13))])
  (.cond (.t 14) (.seq (.ops [qO 2 (.mov (.c (.sc (.bool false))))])
  .ret)
  .skip))))
  (.ops [qO 15 (.bin .add (.t 7) (iC 1)), qO 7 (.mov (.t 15))])))))))
  (.seq (.ops [qO 16 (.mov (.t 0)), qO 17 (.llen (.t 16)), qO 18 (.bin .leq (.t 17) (iC 6)), qO 19 (.mov (.t 18)), qG 20 19 true (.mov (.t 0)), cG 21 19 true 224 [.t 20], qO 22 (.pick (.t 19) (.t 21) (.c (.sc (.bool false)))), qO 2 (.mov (.t 22))])
  .ret)))
theorem K210 : Kf Tryz.prog Tryz.f210 A210 23 [.mov (.t 2)] := ⟨by kernel_rfl, by kernel_rfl, by kernel_rfl⟩
theorem R210 (xs : List File) (hb : xs.length < 4611686018427387904) (hp : ∀ x ∈ xs, x.path.size ≤ 1048576) : Ret Tryz.prog 210 [.ro (rows File.ty.cs xs) xs.length] (.sc (.bool (zU xs))) [.un] := by
  refine Ret.run Tryz.func210 K210 (by simp) rfl rfl 900 ?_
  simp [A210, iniρ]
  refine T.rounds (μ := fun i : List File × List File => i.2.length)
    (fun i s => i.1 ++ i.2 = xs ∧ ZM i.2 = ZM xs ∧ s.ρ 0 = .ro (rows File.ty.cs xs) xs.length ∧ s.ρ 5 = .ro (rows File.ty.cs xs) xs.length ∧ s.ρ 6 = .sc (.int .i64 xs.length) ∧ s.ρ 7 = .sc (.int .i64 i.1.length) ∧ s.h 4 = none ∧ s.n = 23) ([], xs) (by simp [za]) ?_
  rintro ⟨pre, rest⟩ ⟨ρ, hh, n⟩ ⟨hx, hE, k0, k5, k6, k7, f4, rfl⟩
  simp only at hx hE k0 k5 k6 k7 f4
  refine Zf (n := 400) ?_
  cases rest with
  | nil =>
    have hxl : pre.length = xs.length := by rw [← hx]; simp
    have hA : ZM xs = true := by rw [← hE]; rfl
    simp [k6, k7, hxl]
    refine T.on 400 ?_
    by_cases h6 : xs.length ≤ 6
    · have h6' : (xs.length : Int) ≤ 6 := by omega
      simp [k0, h6']
      refine callK.ro 0 rfl (by kernel_rfl) (by simp [zd]) (R224 xs hb hp) rfl rfl rfl ?_
      simp [zU, hA, h6]
    · have h6' : ¬ (xs.length : Int) ≤ 6 := by omega
      simp [k0, h6', zU, h6]
  | cons x rest =>
    have hle : pre.length + (rest.length + 1) = xs.length := by rw [← hx]; simp
    have hlt : (pre.length : Int) < xs.length := by omega
    have hw : IntKind.i64.wrap ((pre.length : Int) + 1) = pre.length + 1 := Ya (by omega) (by omega)
    have hd := Yd File.ty.csn pre (x :: rest)
    rw [hx, Zc] at hd
    have hd : List.drop (pre.length * 2) (rows File.ty.cs xs) = AV.sc (.string x.path) :: AV.sc (.string x.text) :: rows File.ty.cs rest := hd
    have hxp := hp x (by rw [← hx]; simp)
    simp [k0, k5, k6, k7, hlt, hd, f4, over]
    refine callK.ro 0 rfl (by kernel_rfl) (by simp [ya, za]) (R195 x.path (by omega)) rfl rfl rfl ?_
    cases h1 : yk x.path
    · have h2 : ZM xs = false := by rw [← hE, ZM, h1]; rfl
      simp [zU, h2]
    · simp [k7, hw]
      refine ⟨pre ++ [x], rest, by simp, _, Le.reset [0, 5, 6, 7] [] (by simp [za, menB, Yb, k0, k5, k6]) (by simp), ?_⟩
      simp [hx, za, k0, k5, k6, ← hE, ZM, h1]
def sameT (t x : ByteArray) : Bool := x.toList == t.toList
def tIx (t : ByteArray) (l : List ByteArray) : Int := idx (sameT t) l 0
def hasT (t : ByteArray) (l : List ByteArray) : Bool := l.any (sameT t)
theorem zf4 (t : ByteArray) (l : List ByteArray) : decide (0 ≤ tIx t l) = hasT t l := by
  rcases YB (sameT t) l 0 with ⟨pre, x, rest, e, h2, h1, e2⟩ | ⟨h1, e2⟩
  · have e2 : tIx t l = (pre.length : Int) := by unfold tIx; rw [e2]; omega
    rw [e2, hasT, e]
    simp [h2]
  · have e2 : tIx t l = -1 := e2
    have e3 : hasT t l = false := by
      unfold hasT
      rw [List.any_eq_false]
      exact fun x hx => by simp [h1 x hx]
    rw [e2, e3]; rfl
def A251 : AC := (.seq (.ops [qO 4 (.mov (iC 0))])
  (.seq (.seq (.ops [qO 6 (.mov (.t 0)), qO 7 (.llen (.t 6)), qO 8 (.mov (iC 0))])
  (.block 0 (.loop (.seq (.ops [qO 9 (.bin .lss (.t 8) (.t 7))])
  (.seq (.cond (.t 9) .skip
  (.exit 0))
  (.seq (.block 1 (.seq (.ops [qO 10 (.mov (.t 8)), qO 5 (.mov (.t 10))])
  (.seq (.ops [qO 11 (.mov (.t 1)), qO 12 (.mov (.t 0)), qO 13 (.mov (.t 5)), qO 14 (.iadr 1 (.t 12) (.t 13)), qO 15 (.load false 1 (.t 14)), qO 16 (.bin .eql (.t 11) (.t 15))])
  (.cond (.t 16) (.seq (.ops [qO 17 (.mov (.t 5)), qO 4 (.mov (.t 17))])
  .ret)
  .skip))))
  (.ops [qO 18 (.bin .add (.t 8) (iC 1)), qO 8 (.mov (.t 18))])))))))
  (.seq (.ops [qO 4 (.mov (iC (-1)))])
  .ret)))
theorem K251 : Kf Tryz.prog Tryz.f251 A251 19 [.mov (.t 4)] := ⟨by kernel_rfl, by kernel_rfl, by kernel_rfl⟩
theorem R251 (xs : List ByteArray) (t : ByteArray) (hb : xs.length < 4611686018427387904) : Ret Tryz.prog 251 [.ro (rows Ty.str.cs xs) xs.length, .sc (.string t)] (.sc (.int .i64 (tIx t xs))) [.un, .un] := by
  refine Ret.run Tryz.func251 K251 (by simp) rfl rfl 500 ?_
  simp [A251, iniρ]
  refine T.rounds (μ := fun i : List ByteArray × List ByteArray => i.2.length)
    (fun i s => i.1 ++ i.2 = xs ∧ idx (sameT t) i.2 i.1.length = tIx t xs ∧ s.ρ 0 = .ro (rows Ty.str.cs xs) xs.length ∧ s.ρ 1 = .sc (.string t) ∧ s.ρ 7 = .sc (.int .i64 xs.length) ∧ s.ρ 8 = .sc (.int .i64 i.1.length) ∧ s.n = 19) ([], xs) (by simp [za, tIx]) ?_
  rintro ⟨pre, rest⟩ ⟨ρ, hh, n⟩ ⟨hx, hE, k0, k1, k7, k8, rfl⟩
  simp only at hx hE k0 k1 k7 k8
  refine Zf (n := 400) ?_
  cases rest with
  | nil =>
    simp at hx
    subst hx
    simp [k7, k8]
    refine T.on 400 ?_
    simp [← hE, idx]
  | cons x rest =>
    have hlt : (pre.length : Int) < xs.length := by rw [← hx]; simp only [List.length_append, List.length_cons]; omega
    have hd := zd4 pre rest x
    rw [hx] at hd
    have hw : IntKind.i64.wrap ((pre.length : Int) + 1) = pre.length + 1 := Ya (by omega) (by omega)
    by_cases hk : x.toList = t.toList
    · have hs : sameT t x = true := by simp [sameT, hk]
      simp [k0, k1, k7, k8, hlt, hd, hk, ← hE, idx, hs]
    · have hk' : ¬ t.toList = x.toList := fun e => hk e.symm
      have hs : sameT t x = false := by simp [sameT, hk]
      simp [k0, k1, k7, k8, hlt, hd, hk', hw]
      refine ⟨pre ++ [x], rest, by simp, _, Le.refl _, ?_⟩
      simp [hx, k0, k1, k7, za, ← hE, idx, hs]
def A215 : AC := (.seq (.ops [qO 4 (.mov (.c (.sc (.bool false))))])
  (.seq (.ops [qO 5 (.mov (.t 0)), qO 6 (.mov (.t 1)), cO 7 251 [.t 5, .t 6], qO 8 (.bin .geq (.t 7) (iC 0)), qO 4 (.mov (.t 8))])
  .ret))
theorem K215 : Kf Tryz.prog Tryz.f215 A215 9 [.mov (.t 4)] := ⟨by kernel_rfl, by kernel_rfl, by kernel_rfl⟩
theorem R215 (xs : List ByteArray) (t : ByteArray) (hb : xs.length < 4611686018427387904) : Ret Tryz.prog 215 [.ro (rows Ty.str.cs xs) xs.length, .sc (.string t)] (.sc (.bool (hasT t xs))) [.un, .un] := by
  refine Ret.run Tryz.func215 K215 (by simp) rfl rfl 500 ?_
  simp [A215, iniρ]
  refine callK.ro 0 rfl (by kernel_rfl) (by simp [zd, ya, za]) (R251 xs t hb) rfl rfl rfl ?_
  simp [zf4]
end Go.Proofs.YtopofpihpnjmbaaGreatDoor.Am
