/- The functions of the program, each by its contract: DrawMarks; no condition. -/
import Derived.Test.YtadoadomogceiaaProg
import Derived.Test.YtadoadomogceiaaAmZ
import Derived.Test.YtadoadomogceiaaAmP
import Derived.Test.YtadoadomogceiaaDraw
import Derived.KernelRfl
namespace Go.Proofs.Ytadoadomogceiaa.Am
open Go Go.Proofs
set_option linter.unusedSimpArgs false
set_option linter.unusedVariables false
attribute [local congr] T_congr callK_congr callWK_congr
attribute [local simp] run_nil run_op0 run_opg run_seq run_cond run_block run_ret run_skip run_skip_after run_skip_blk run_exit run_exit_after run_exit_blk run_loop run_any runS_nil runS_op0 runS_opg runW_nil runW_op0 runW_opg exec_q exec_w exec_c exec_n execW_q execW_w execW_c restW_app hideH_app merge_app wblk rest_app restS_app execS_q execS_c aval dOk upd_app ev_t ev_c setO_some setO_none put_mk pinsOf isIo hasIo sbin endR fin resL one outL out1 clo1 cloL coe coeL shut shut.shutL wantA weff cellsOf fillA deref natOf ρ0_app h0_app plain plain.plainL keep_app keepH_app andThen_normal andThen_ret andThen_exit pop_nil pop_after pop_after_ret pop_after_exit pop_blk pop_blk_ret pop_blk_exit nilA srcOf srcCells keepR_app keepHR_app renA rb
def abcd : List ByteArray := [⟨#[97, 35, 98]⟩, ⟨#[99, 35, 100]⟩]
def oneMark (c : Cur) : Mark := ⟨abcd[(belowV c 2).toNat]?.getD default, belowV (belowC c 2) 6⟩
def marksF : Nat → Cur → List Mark × Cur
  | 0, c => ([], c)
  | n + 1, c => (oneMark c :: (marksF n (belowC (belowC c 2) 6)).1, (marksF n (belowC (belowC c 2) 6)).2)
def marksV (c : Cur) : List Mark := (marksF (belowV c 4).toNat (belowC c 4)).1
def marksC (c : Cur) : Cur := (marksF (belowV c 4).toNat (belowC c 4)).2
/- 61: loop.example/g00464/spec.l21Marks -/
def A61 : AC := (.seq (.ops [⟨(some 2), none, .q (.mov (.c .em))⟩])
  (.seq (.ops [⟨(some 5), none, .w (.bsl 2 0 [] [])⟩, ⟨(some 3), none, .q (.mov (.t 5))⟩])
  (.seq (.seq (.ops [⟨(some 6), none, .q (.mov (.t 0))⟩, ⟨(some 7), none, .c (.c (.clo 63 [])) [(.t 6), (.c (.sc (.int .i64 4)))]⟩, ⟨(some 4), none, .q (.mov (.t 7))⟩])
  (.block 0 (.loop (.seq (.seq (.ops [⟨(some 8), none, .q (.mov (.t 4))⟩, ⟨(some 9), none, .q (.bin .gtr (.t 8) (.c (.sc (.int .i64 0))))⟩])
  (.cond (.t 9) .skip
  (.exit 0)))
  (.seq (.block 1 (.ops [⟨(some 12), none, .q (.mov (.t 3))⟩, ⟨(some 13), none, .q (.mov (.t 0))⟩, ⟨(some 14), none, .w (.bsl 1 2 [(.sc (.string ⟨#[]⟩)), (.sc (.string ⟨#[]⟩))] [(0, 1, (.c (.sc (.string ⟨#[97, 35, 98]⟩)))), (1, 1, (.c (.sc (.string ⟨#[99, 35, 100]⟩))))])⟩, ⟨(some 15), none, .c (.c (.clo 105 [])) [(.t 13), (.t 14)]⟩, ⟨(some 16), none, .q (.mov (.t 0))⟩, ⟨(some 17), none, .c (.c (.clo 63 [])) [(.t 16), (.c (.sc (.int .i64 6)))]⟩, ⟨(some 18), none, .w (.build [(.sc (.string ⟨#[]⟩)), (.sc (.int .i64 0))] [(0, 1, (.t 15)), (1, 1, (.t 17))])⟩, ⟨(some 19), none, .w (.bsl 2 1 [(.sc (.string ⟨#[]⟩)), (.sc (.int .i64 0))] [(0, 2, (.t 18))])⟩, ⟨(some 20), none, .w (.app 2 24 false (.t 12) (.t 19))⟩, ⟨(some 3), none, .q (.mov (.t 20))⟩]))
  (.ops [⟨(some 10), none, .q (.mov (.t 4))⟩, ⟨(some 11), none, .q (.bin .sub (.t 10) (.c (.sc (.int .i64 1))))⟩, ⟨(some 4), none, .q (.mov (.t 11))⟩]))))))
  (.seq (.ops [⟨(some 21), none, .q (.mov (.t 3))⟩, ⟨(some 2), none, .q (.mov (.t 21))⟩])
  .ret))))
theorem K61 : Try.f61.body.bind (comp Try.prog) = some A61 ∧ Try.f61.ntmps = 22 ∧ Try.f61.results.toList.mapM (resB Try.prog) = some [.mov (.t 2)] := ⟨by kernel_rfl, by kernel_rfl, by kernel_rfl⟩
theorem R61 (c : Cur) (hc : c.ok) : Ret Try.prog 61 [.bx c.cs] (.own (rows Mark.ty.oc (marksV c)) (marksV c).length 2) [.bx (marksC c).cs] := by
  have fr : ∀ c : Cur, idfree.idfreeL c.cs = true := fun c => rfl
  refine Ret.run Try.func61 K61 (by simp) rfl rfl 900 ?_
  simp [A61, iniρ]
  refine callK.bx (b := 100000) 0 rfl (by kernel_rfl) (by simp [upd_app]) (by simp [upd_app]) (fr c) (by simp [upd_app]) (by simp) (R63 c hc 4) rfl (by rfl) rfl ?_
  obtain ⟨r1, r2⟩ := belowV_rng c (n := 4) (by omega)
  obtain ⟨m, hm⟩ : ∃ m : Nat, belowV c 4 = m := ⟨(belowV c 4).toNat, by omega⟩
  have hV : marksF m (belowC c 4) = (marksV c, marksC c) := by simp [marksV, marksC, hm]
  rw [hm] at r2 ⊢
  simp
  refine T.rounds (μ := fun i : List Mark × Nat × Cur => i.2.1)
    (fun i s => i.2.2.ok ∧ i.1.length + i.2.1 ≤ 4 ∧ i.1 ++ (marksF i.2.1 i.2.2).1 = marksV c ∧ (marksF i.2.1 i.2.2).2 = marksC c ∧ s.ρ 0 = .ref 100000 0 ∧ s.ρ 3 = .sl 5 0 i.1.length 2 false ∧ s.ρ 4 = .sc (.int .i64 i.2.1) ∧ s.h 100000 = some (some i.2.2.cs) ∧ s.h 5 = some (some (rows Mark.ty.oc i.1)) ∧ s.h 14 = none ∧ s.h 19 = none ∧ s.h 20 = none ∧ s.n = 22) ([], m, belowC c 4) (by simp [upd_app, rows_nil, hV, belowC_ok hc]; omega) ?_
  rintro ⟨pre, j, c⟩ ⟨ρ, hh, n⟩ ⟨hc, hj, hE, hF, h0', h3', h4', k0, k5, f1, f2, f3, rfl⟩
  simp only at hc hj hE hF h0' h3' h4' k0 k5 f1 f2 f3
  refine run_ok (n := 400) ?_
  cases j with
  | zero =>
    simp only [marksF, List.append_nil] at hE hF
    simp [h4']
    refine T.on 400 ?_
    simp [h0', h3', k0, k5, ex1, Mark.ocl, Mark.frL, fr, ioPos1, hE, hF]
  | succ j =>
    have hw : IntKind.i64.wrap (j : Int) = j := wrap_i64 (by omega) (by omega)
    have hpos : (0 : Int) < (j : Int) + 1 := by omega
    simp [h0', h3', h4', k0, k5, f1, hpos, over]
    have rs : Ret Try.prog 105 [.bx c.cs, .own (rows Ty.str.oc abcd) 2 1] (.sc (.string (oneMark c).task)) [.bx (belowC c 2).cs, .un] := R105 c hc abcd (by decide)
    refine callK.bm 100000 14 (len := 2) (sz := 1) rfl (by kernel_rfl) (by simp [upd_app, h0']) (by simp [upd_app, k0]) (fr c) (by simp [upd_app]) (by simp [upd_app]; rfl) (by rfl) (by rfl) (by decide) rs rfl rfl ?_
    simp [h0', h3', h4', k0, k5, f1]
    refine callK.bx (b := 100000) 0 rfl (by kernel_rfl) (by simp [upd_app]) (by simp [upd_app]) (fr _) (by simp [upd_app]) (by simp) (R63 _ (belowC_ok hc 2) 6) rfl (by rfl) rfl ?_
    have hcap : (pre.length + 1) * 24 ≤ 140737488355328 := by omega
    simp [h0', h3', h4', k0, k5, f1, f2, f3, hw, over, hcap, Mark.ocl]
    refine ⟨pre ++ [oneMark c], j, by omega, belowC (belowC c 2) 6, _, Le.reseat [0, 3, 4] [(20, 5), (100000, 100000)] (by simp) (by simp [upd_app, menB, h0', idfree]) ?_, ?_⟩
    · intro b hb cs hcs
      simp at hb
      rcases hb with rfl | rfl
      · simp [upd_app] at hcs
        subst hcs
        intro y hy
        rcases List.mem_append.1 hy with hy | hy
        · exact rows_all (fun x c hc => (Mark.ty.ow x c hc).fr) _ y hy
        · simp at hy
          rcases hy with rfl | rfl <;> rfl
      · simp [upd_app] at hcs
        subst hcs
        intro y hy
        simp [Cur.cs] at hy
        rcases hy with rfl | rfl | rfl <;> rfl
    · simp [upd_app, h0', rows_append, rows_cons, rows_nil, Mark.oce, oneMark, belowC_ok, hc, hw]
      exact ⟨by omega, hE, hF⟩
theorem marksF_le : ∀ (n : Nat) (c : Cur), (marksF n c).1.length = n
  | 0, _ => rfl
  | n + 1, c => by simp [marksF, marksF_le n]
theorem abcd_ok (i : Nat) : (abcd[i]?.getD default).size ≤ 3 := by
  match i with
  | 0 => decide
  | 1 => decide
  | i + 2 => exact Nat.zero_le _
theorem marksF_ok : ∀ (n : Nat) (c : Cur) (x : Mark), x ∈ (marksF n c).1 → x.task.size ≤ 3 ∧ 0 ≤ x.how ∧ x.how < 6
  | 0, _, x, h => by simp [marksF] at h
  | n + 1, c, x, h => by
    simp only [marksF, List.mem_cons] at h
    rcases h with rfl | h
    · exact ⟨abcd_ok _, belowV_rng (belowC c 2) (n := 6) (by omega)⟩
    · exact marksF_ok n _ x h
theorem marksC_ok {c : Cur} (h : c.ok) : (marksC c).ok := by
  have key : ∀ (n : Nat) (c : Cur), c.ok → (marksF n c).2.ok := by
    intro n
    induction n with
    | zero => intro c h; exact h
    | succ n ih => intro c h; exact ih _ (belowC_ok (belowC_ok h 2) 6)
  exact key _ _ (belowC_ok h 4)
theorem marksV_le (c : Cur) : (marksV c).length ≤ 3 := by
  obtain ⟨r1, r2⟩ := belowV_rng c (n := 4) (by omega)
  rw [marksV, marksF_le]
  omega
theorem marks_ok {l : List Mark} (h1 : l.length ≤ 3) (h2 : ∀ x ∈ l, x.task.size ≤ 3 ∧ 0 ≤ x.how ∧ x.how < 6) : Mark.ty.slice.ok l := by
  refine ⟨?_, fun x hx => ?_⟩
  · show l.length * 24 ≤ _
    omega
  · obtain ⟨a, b, c⟩ := h2 x hx
    exact ⟨show x.task.size ≤ 140737488351232 by omega, show -9223372036854775808 ≤ x.how ∧ x.how ≤ 9223372036854775807 by omega, trivial⟩
/-- the first how turned -/
def setHow : List Mark → Int → List Mark
  | [], _ => []
  | x :: l, v => ⟨x.task, v⟩ :: l
def dsmB (a : List Mark) (c : Cur) : List Mark × Cur :=
  if 0 < a.length then
    if belowV c 2 = 0 then (setHow a (belowV (belowC c 2) 5), belowC (belowC c 2) 5) else (a, belowC c 2)
  else (a, c)
def dsm (code : List Int) : List Mark × List Mark :=
  let a := marksV (newC code)
  let p := dsmB a (marksC (newC code))
  if belowV p.2 4 = 0 then (a, marksV (belowC p.2 4)) else (a, p.1)
theorem dsmB_ok {a : List Mark} {c : Cur} (hc : c.ok) : (dsmB a c).2.ok := by
  unfold dsmB
  split
  · split
    · exact belowC_ok (belowC_ok hc 2) 5
    · exact belowC_ok hc 2
  · exact hc
/- 14: loop.example/g00464/spec.DrawSameMarks -/
def A14 : AC := (.seq (.ops [⟨(some 2), none, .q (.mov (.c .em))⟩, ⟨(some 3), none, .q (.mov (.c .em))⟩])
  (.seq (.ops [⟨(some 7), none, .q (.mov (.t 0))⟩, ⟨(some 8), none, .c (.c (.clo 60 [])) [(.t 7)]⟩, ⟨(some 4), none, .q (.mov (.t 8))⟩])
  (.seq (.ops [⟨(some 9), none, .q (.mov (.t 4))⟩, ⟨(some 10), none, .c (.c (.clo 61 [])) [(.t 9)]⟩, ⟨(some 5), none, .q (.mov (.t 10))⟩])
  (.seq (.ops [⟨(some 11), none, .w (.bsl 2 0 [] [])⟩, ⟨(some 12), none, .q (.mov (.t 5))⟩, ⟨(some 13), none, .w (.app 2 24 false (.t 11) (.t 12))⟩, ⟨(some 6), none, .q (.mov (.t 13))⟩])
  (.seq (.seq (.ops [⟨(some 14), none, .q (.mov (.t 6))⟩, ⟨(some 15), none, .q (.llen (.t 14))⟩, ⟨(some 16), none, .q (.bin .gtr (.t 15) (.c (.sc (.int .i64 0))))⟩, ⟨(some 17), none, .q (.mov (.t 16))⟩, ⟨(some 18), (some (17, true)), .q (.mov (.t 4))⟩, ⟨(some 19), (some (17, true)), .c (.c (.clo 62 [])) [(.t 18), (.c (.sc (.int .i64 2)))]⟩, ⟨(some 20), none, .q (.pick (.t 17) (.t 19) (.c (.sc (.bool false))))⟩])
  (.cond (.t 20) (.ops [⟨(some 21), none, .q (.mov (.t 6))⟩, ⟨(some 22), none, .q (.mov (.t 4))⟩, ⟨(some 23), none, .c (.c (.clo 63 [])) [(.t 22), (.c (.sc (.int .i64 5)))]⟩, ⟨(some 24), none, .q (.iadr 2 (.t 21) (.c (.sc (.int .i64 0))))⟩, ⟨(some 25), none, .q (.fadr 1 (.t 24))⟩, ⟨none, none, .w (.store 1 (.t 25) (.t 23))⟩])
  .skip))
  (.seq (.seq (.ops [⟨(some 26), none, .q (.mov (.t 4))⟩, ⟨(some 27), none, .c (.c (.clo 62 [])) [(.t 26), (.c (.sc (.int .i64 4)))]⟩])
  (.cond (.t 27) (.seq (.ops [⟨(some 28), none, .q (.mov (.t 5))⟩, ⟨(some 29), none, .q (.mov (.t 4))⟩, ⟨(some 30), none, .c (.c (.clo 61 [])) [(.t 29)]⟩, ⟨(some 2), none, .q (.mov (.t 28))⟩, ⟨(some 3), none, .q (.mov (.t 30))⟩])
  .ret)
  .skip))
  (.seq (.ops [⟨(some 31), none, .q (.mov (.t 5))⟩, ⟨(some 32), none, .q (.mov (.t 6))⟩, ⟨(some 2), none, .q (.mov (.t 31))⟩, ⟨(some 3), none, .q (.mov (.t 32))⟩])
  .ret)))))))
theorem K14 : Try.f14.body.bind (comp Try.prog) = some A14 ∧ Try.f14.ntmps = 33 ∧ Try.f14.results.toList.mapM (resB Try.prog) = some [.mov (.t 2), .mov (.t 3)] := ⟨by kernel_rfl, by kernel_rfl, by kernel_rfl⟩
theorem R14 (code : List Int) (hx : Ty.byte.slice.ok code) : Ret Try.prog 14 [.ro (rows B code) code.length] (.tup [.own (rows Mark.ty.oc (dsm code).1) (dsm code).1.length 2, .own (rows Mark.ty.oc (dsm code).2) (dsm code).2.length 2]) [.un] := by
  have fr : ∀ c : Cur, idfree.idfreeL c.cs = true := fun c => rfl
  have hc0 := newC_ok hx
  have hc1 := marksC_ok hc0
  obtain ⟨a, ha⟩ : ∃ a, a = marksV (newC code) := ⟨_, rfl⟩
  obtain ⟨c1, hc1'⟩ : ∃ c1, c1 = marksC (newC code) := ⟨_, rfl⟩
  have r1 := R61 (newC code) hc0
  have hal := marksV_le (newC code)
  rw [← ha] at r1 hal
  rw [← hc1'] at r1 hc1
  refine Ret.run Try.func14 K14 (by simp) rfl rfl 900 ?_
  simp [A14, iniρ]
  refine callK.cut [.ro] 60 (r := [(none, none)]) rfl (by kernel_rfl) rfl (by rfl) (by rfl) (by simp [closedB, shut, upd_app]) (by simp [shutArgs, roc_ro, upd_app]; rfl) (by rfl) (R60 code hx) (by rfl) (by rfl) (by simp [inst, upd_app]; exact ⟨rfl, rfl⟩) rfl ?_
  simp
  refine callK.bx (b := 60) 61 rfl (by kernel_rfl) (by simp [upd_app]) (by simp [upd_app]) (fr _) (by simp [upd_app]) (by simp) r1 rfl (by simp [inst, upd_app]; exact ⟨rfl, rfl⟩) rfl ?_
  have hcap : a.length * 24 ≤ 140737488355328 := by omega
  by_cases hA : a = []
  case pos =>
    simp [hA, over, rows_nil]
    refine callK.bx (b := 60) 0 rfl (by kernel_rfl) (by simp [upd_app]) (by simp [upd_app]) (fr _) (by simp [upd_app]) (by simp) (R62 c1 (hc1) 4) rfl (by rfl) rfl ?_
    by_cases h4 : belowV (c1) 4 = 0
    · simp [h4]
      refine callK.bx (b := 60) 70 rfl (by kernel_rfl) (by simp [upd_app]) (by simp [upd_app]) (fr _) (by simp [upd_app]) (by simp) (R61 _ (belowC_ok (hc1) 4)) rfl (by simp [inst, upd_app]; exact ⟨rfl, rfl⟩) rfl ?_
      simp [dsm, dsmB, ← ha, ← hc1', hA, h4, ex1, Mark.ocl, Mark.frL, rows_nil, idfree.idfreeL]
    · simp [h4, dsm, dsmB, ← ha, ← hc1', hA, ex1, Mark.ocl, Mark.frL, rows_nil, idfree.idfreeL]
  have hA0 : 0 < a.length := List.length_pos_iff.2 hA
  have hta : List.take (a.length * 2) (rows Mark.ty.oc a) = rows Mark.ty.oc a := List.take_of_length_le (by rw [Mark.ocl]; exact Nat.le_refl _)
  have hpl : plain.plainL (rows Mark.ty.oc a) = true := plainL_of (rows_all (q := plain) (fun x c hc => by simp [Mark.oce] at hc; rcases hc with rfl | rfl <;> rfl) a)
  simp [hA, Mark.ocl, hcap, over, hta, hpl, hA0]
  refine callK.bx (b := 60) 0 rfl (by kernel_rfl) (by simp [upd_app]) (by simp [upd_app]) (fr _) (by simp [upd_app]) (by simp) (R62 c1 hc1 2) rfl (by rfl) rfl ?_
  by_cases h2 : belowV c1 2 = 0
  case neg =>
    simp [h2, hA0]
    refine callK.bx (b := 60) 0 rfl (by kernel_rfl) (by simp [upd_app]) (by simp [upd_app]) (fr _) (by simp [upd_app]) (by simp) (R62 (belowC c1 2) (belowC_ok hc1 2) 4) rfl (by rfl) rfl ?_
    by_cases h4 : belowV (belowC c1 2) 4 = 0
    · simp [h4]
      refine callK.bx (b := 60) 70 rfl (by kernel_rfl) (by simp [upd_app]) (by simp [upd_app]) (fr _) (by simp [upd_app]) (by simp) (R61 _ (belowC_ok (belowC_ok hc1 2) 4)) rfl (by simp [inst, upd_app]; exact ⟨rfl, rfl⟩) rfl ?_
      simp [dsm, dsmB, ← ha, ← hc1', hA, hA0, h2, h4, ex1, Mark.ocl, Mark.frL]
    · simp [h4, dsm, dsmB, ← ha, ← hc1', hA, hA0, h2, ex1, Mark.ocl, Mark.frL]
  simp [h2, hA0]
  refine callK.bx (b := 60) 0 rfl (by kernel_rfl) (by simp [upd_app]) (by simp [upd_app]) (fr _) (by simp [upd_app]) (by simp) (R63 _ (belowC_ok hc1 2) 5) rfl (by rfl) rfl ?_
  have hset : over (rows Mark.ty.oc a) 1 [.sc (.int .i64 (belowV (belowC c1 2) 5))] = rows Mark.ty.oc (setHow a (belowV (belowC c1 2) 5)) := by
    cases a with
    | nil => exact absurd rfl hA
    | cons x l => rw [setHow, rows_cons, rows_cons, Mark.oce, Mark.oce]; rfl
  have hsl : (setHow a (belowV (belowC c1 2) 5)).length = a.length := by cases a <;> rfl
  have hc8 : 2 ≤ a.length * 2 := by omega
  simp [hA, hA0, hset, Mark.ocl, hc8]
  refine callK.bx (b := 60) 0 rfl (by kernel_rfl) (by simp [upd_app]) (by simp [upd_app]) (fr _) (by simp [upd_app]) (by simp) (R62 (belowC (belowC c1 2) 5) (belowC_ok (belowC_ok hc1 2) 5) 4) rfl (by rfl) rfl ?_
  by_cases h4 : belowV (belowC (belowC c1 2) 5) 4 = 0
  · simp [h4]
    refine callK.bx (b := 60) 70 rfl (by kernel_rfl) (by simp [upd_app]) (by simp [upd_app]) (fr _) (by simp [upd_app]) (by simp) (R61 _ (belowC_ok (belowC_ok (belowC_ok hc1 2) 5) 4)) rfl (by simp [inst, upd_app]; exact ⟨rfl, rfl⟩) rfl ?_
    simp [dsm, dsmB, ← ha, ← hc1', hA, hA0, h2, h4, ex1, Mark.ocl, Mark.frL]
  · simp [h4, dsm, dsmB, ← ha, ← hc1', hA, hA0, h2, ex1, Mark.ocl, Mark.frL, hsl]
end Go.Proofs.Ytadoadomogceiaa.Am
