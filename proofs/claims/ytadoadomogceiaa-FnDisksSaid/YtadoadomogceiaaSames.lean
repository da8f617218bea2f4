/- The functions of the program, each by its contract: Sames; no condition. -/
import Derived.Test.YtadoadomogceiaaProg
import Derived.Test.YtadoadomogceiaaAmZ
import Derived.Test.YtadoadomogceiaaAmP
import Derived.Test.YtadoadomogceiaaJob
import Derived.KernelRfl
namespace Go.Proofs.Ytadoadomogceiaa.Am
open Go Go.Proofs
set_option linter.unusedSimpArgs false
set_option linter.unusedVariables false
attribute [local congr] T_congr callK_congr callWK_congr
attribute [local simp] run_nil run_op0 run_opg run_seq run_cond run_block run_ret run_skip run_skip_after run_skip_blk run_exit run_exit_after run_exit_blk run_loop run_any runS_nil runS_op0 runS_opg runW_nil runW_op0 runW_opg exec_q exec_w exec_c exec_n execW_q execW_w execW_c restW_app hideH_app merge_app wblk rest_app restS_app execS_q execS_c aval dOk upd_app ev_t ev_c setO_some setO_none put_mk pinsOf isIo hasIo sbin endR fin resL one outL out1 clo1 cloL coe coeL shut shut.shutL wantA weff cellsOf fillA deref natOf ρ0_app h0_app plain plain.plainL keep_app keepH_app andThen_normal andThen_ret andThen_exit pop_nil pop_after pop_after_ret pop_after_exit pop_blk pop_blk_ret pop_blk_exit nilA srcOf srcCells keepR_app keepHR_app renA rb
def plainH (n : Int) : Int := if n = 2 then 1 else n
def markEq (m n : Mark) : Bool := strEq m.task n.task && (plainH m.how == plainH n.how)
/- 69: loop.example/g00464/spec.l21How -/
def A69 : AC := (.seq (.ops [⟨(some 2), none, .q (.mov (.c (.sc (.int .i64 0))))⟩])
  (.seq (.seq (.ops [⟨(some 3), none, .q (.mov (.t 0))⟩, ⟨(some 4), none, .q (.bin .eql (.t 3) (.c (.sc (.int .i64 2))))⟩])
  (.cond (.t 4) (.seq (.ops [⟨(some 2), none, .q (.mov (.c (.sc (.int .i64 1))))⟩])
  .ret)
  .skip))
  (.seq (.ops [⟨(some 5), none, .q (.mov (.t 0))⟩, ⟨(some 2), none, .q (.mov (.t 5))⟩])
  .ret)))
theorem K69 : Try.f69.body.bind (comp Try.prog) = some A69 ∧ Try.f69.ntmps = 6 ∧ Try.f69.results.toList.mapM (resB Try.prog) = some [.mov (.t 2)] := ⟨by kernel_rfl, by kernel_rfl, by kernel_rfl⟩
theorem R69 (n : Int) : Ret Try.prog 69 [.sc (.int .i64 n)] (.sc (.int .i64 (plainH n))) [.un] := by
  refine Ret.run Try.func69 K69 (by simp) rfl rfl 500 ?_
  simp +contextual [A69, iniρ, plainH]
/- 68: loop.example/g00464/impl.plainHow -/
def A68 : AC := (.seq (.ops [⟨(some 2), none, .q (.mov (.c (.sc (.int .i64 0))))⟩])
  (.seq (.seq (.ops [⟨(some 3), none, .q (.mov (.t 0))⟩, ⟨(some 4), none, .q (.bin .eql (.t 3) (.c (.sc (.int .i64 2))))⟩])
  (.cond (.t 4) (.seq (.ops [⟨(some 2), none, .q (.mov (.c (.sc (.int .i64 1))))⟩])
  .ret)
  .skip))
  (.seq (.ops [⟨(some 5), none, .q (.mov (.t 0))⟩, ⟨(some 2), none, .q (.mov (.t 5))⟩])
  .ret)))
theorem K68 : Try.f68.body.bind (comp Try.prog) = some A68 ∧ Try.f68.ntmps = 6 ∧ Try.f68.results.toList.mapM (resB Try.prog) = some [.mov (.t 2)] := ⟨by kernel_rfl, by kernel_rfl, by kernel_rfl⟩
theorem R68 (n : Int) : Ret Try.prog 68 [.sc (.int .i64 n)] (.sc (.int .i64 (plainH n))) [.un] := by
  refine Ret.run Try.func68 K68 (by simp) rfl rfl 500 ?_
  simp +contextual [A68, iniρ, plainH]
/- 67: loop.example/g00464/impl.SameMarks$1 -/
def A67 : AC := (.seq (.ops [⟨(some 2), none, .w (.box (.t 0))⟩, ⟨(some 3), none, .w (.box (.t 1))⟩, ⟨(some 4), none, .q (.mov (.c (.sc (.bool false))))⟩])
  (.seq (.any [(⟨(some 5), none, .q (.fadr 0 (.t 2))⟩, []), (⟨(some 6), none, .q (.load false 1 (.t 5))⟩, [0]), (⟨(some 7), none, .q (.fadr 0 (.t 3))⟩, []), (⟨(some 8), none, .q (.load false 1 (.t 7))⟩, [2]), (⟨(some 9), none, .q (.bin .eql (.t 6) (.t 8))⟩, [1, 3]), (⟨(some 10), none, .q (.mov (.t 9))⟩, [4]), (⟨(some 11), (some (10, true)), .q (.fadr 1 (.t 2))⟩, [5]), (⟨(some 12), (some (10, true)), .q (.load false 1 (.t 11))⟩, [6, 5]), (⟨(some 13), (some (10, true)), .c (.c (.clo 68 [])) [(.t 12)]⟩, [7, 5, 5]), (⟨(some 14), (some (10, true)), .q (.fadr 1 (.t 3))⟩, [5]), (⟨(some 15), (some (10, true)), .q (.load false 1 (.t 14))⟩, [9, 5]), (⟨(some 16), (some (10, true)), .c (.c (.clo 68 [])) [(.t 15)]⟩, [10, 8, 5]), (⟨(some 17), (some (10, true)), .q (.bin .eql (.t 13) (.t 16))⟩, [8, 11, 5]), (⟨(some 18), none, .q (.pick (.t 10) (.t 17) (.c (.sc (.bool false))))⟩, [5, 12]), (⟨(some 4), none, .q (.mov (.t 18))⟩, [13, 11, 0, 1, 2, 3, 4, 5, 6, 7, 8, 9, 10, 11, 12, 13])])
  .ret))
theorem K67 : Try.f67.body.bind (comp Try.prog) = some A67 ∧ Try.f67.ntmps = 19 ∧ Try.f67.results.toList.mapM (resB Try.prog) = some [.mov (.t 4)] := ⟨by kernel_rfl, by kernel_rfl, by kernel_rfl⟩
theorem R67 (m n : Mark) : Ret Try.prog 67 [.agg (Mark.ty.cs m), .agg (Mark.ty.cs n)] (.sc (.bool (markEq m n))) [.un, .un] := by
  refine Ret.run Try.func67 K67 (by simp) rfl rfl 500 ?_
  simp [A67, iniρ, Mark.cse]
  refine T.text 400 mixed (by kernel_rfl) (by kernel_rfl) ?_
  by_cases h : m.task.toList = n.task.toList
  · simp [h]
    refine callSK.by rfl (by kernel_rfl) rfl (R68 _) ?_
    simp [h]
    refine callSK.by rfl (by kernel_rfl) rfl (R68 _) ?_
    simp [h]
    simp [markEq, strEq, h]
  · simp [h]
    simp [markEq, strEq, h]
theorem R66 (xs ys : List Mark) (hb : xs.length < 4611686018427387904) : Ret Try.prog 66 [.ro (rows Mark.ty.cs xs) xs.length, .ro (rows Mark.ty.cs ys) ys.length, .clo 67 []] (.sc (.bool (eqBy markEq xs ys))) [.un, .un, .un] := Ret.equalFunc Mark.ty (z := Mark.ty.z) Try.func66 ⟨by kernel_rfl, by kernel_rfl, by kernel_rfl⟩ rfl 67 markEq (by kernel_rfl) xs ys (fun x _ y _ => R67 x y) hb
/- 16: loop.example/g00464/impl.SameMarks -/
def A16 : AC := (.seq (.ops [⟨(some 4), none, .q (.mov (.c (.sc (.bool false))))⟩])
  (.seq (.ops [⟨(some 5), none, .q (.mov (.t 0))⟩, ⟨(some 6), none, .q (.mov (.t 1))⟩, ⟨(some 7), none, .c (.c (.clo 66 [])) [(.t 5), (.t 6), (.c (.clo 67 []))]⟩, ⟨(some 4), none, .q (.mov (.t 7))⟩])
  .ret))
theorem K16 : Try.f16.body.bind (comp Try.prog) = some A16 ∧ Try.f16.ntmps = 8 ∧ Try.f16.results.toList.mapM (resB Try.prog) = some [.mov (.t 4)] := ⟨by kernel_rfl, by kernel_rfl, by kernel_rfl⟩
theorem R16 (xs ys : List Mark) (hb : xs.length < 4611686018427387904) : Ret Try.prog 16 [.ro (rows Mark.ty.cs xs) xs.length, .ro (rows Mark.ty.cs ys) ys.length] (.sc (.bool (eqBy markEq xs ys))) [.un, .un] := by
  refine Ret.run Try.func16 K16 (by simp) rfl rfl 500 ?_
  simp [A16, iniρ]
  refine callK.ro 0 rfl (by kernel_rfl) (by simp [roc_ro, roc_clo (cs := []) rfl]) (R66 xs ys hb) rfl rfl rfl ?_
  simp
/- 17: loop.example/g00464/spec.SameMarks -/
def A17 : AC := (.seq (.ops [⟨(some 4), none, .q (.mov (.c (.sc (.bool false))))⟩])
  (.seq (.seq (.ops [⟨(some 6), none, .q (.mov (.t 0))⟩, ⟨(some 7), none, .q (.llen (.t 6))⟩, ⟨(some 8), none, .q (.mov (.t 1))⟩, ⟨(some 9), none, .q (.llen (.t 8))⟩, ⟨(some 10), none, .q (.bin .neq (.t 7) (.t 9))⟩])
  (.cond (.t 10) (.seq (.ops [⟨(some 4), none, .q (.mov (.c (.sc (.bool false))))⟩])
  .ret)
  .skip))
  (.seq (.seq (.ops [⟨(some 5), none, .q (.mov (.c (.sc (.int .i64 0))))⟩])
  (.block 0 (.loop (.seq (.seq (.ops [⟨(some 11), none, .q (.mov (.t 5))⟩, ⟨(some 12), none, .q (.mov (.t 0))⟩, ⟨(some 13), none, .q (.llen (.t 12))⟩, ⟨(some 14), none, .q (.bin .lss (.t 11) (.t 13))⟩])
  (.cond (.t 14) .skip
  (.exit 0)))
  (.seq (.block 1 (.seq (.any [(⟨(some 17), none, .q (.mov (.t 0))⟩, []), (⟨(some 18), none, .q (.mov (.t 5))⟩, []), (⟨(some 19), none, .q (.iadr 2 (.t 17) (.t 18))⟩, [0, 1]), (⟨(some 20), none, .q (.fadr 0 (.t 19))⟩, [2]), (⟨(some 21), none, .q (.load false 1 (.t 20))⟩, [3]), (⟨(some 22), none, .q (.mov (.t 1))⟩, []), (⟨(some 23), none, .q (.mov (.t 5))⟩, []), (⟨(some 24), none, .q (.iadr 2 (.t 22) (.t 23))⟩, [5, 6]), (⟨(some 25), none, .q (.fadr 0 (.t 24))⟩, [7]), (⟨(some 26), none, .q (.load false 1 (.t 25))⟩, [8]), (⟨(some 27), none, .q (.bin .neq (.t 21) (.t 26))⟩, [4, 9]), (⟨(some 28), none, .q (.mov (.t 27))⟩, [10]), (⟨(some 29), (some (28, false)), .q (.mov (.t 0))⟩, [11]), (⟨(some 30), (some (28, false)), .q (.mov (.t 5))⟩, [11]), (⟨(some 31), (some (28, false)), .q (.iadr 2 (.t 29) (.t 30))⟩, [12, 13, 11]), (⟨(some 32), (some (28, false)), .q (.fadr 1 (.t 31))⟩, [14, 11]), (⟨(some 33), (some (28, false)), .q (.load false 1 (.t 32))⟩, [15, 11]), (⟨(some 34), (some (28, false)), .c (.c (.clo 69 [])) [(.t 33)]⟩, [16, 11, 11]), (⟨(some 35), (some (28, false)), .q (.mov (.t 1))⟩, [11]), (⟨(some 36), (some (28, false)), .q (.mov (.t 5))⟩, [11]), (⟨(some 37), (some (28, false)), .q (.iadr 2 (.t 35) (.t 36))⟩, [18, 19, 11]), (⟨(some 38), (some (28, false)), .q (.fadr 1 (.t 37))⟩, [20, 11]), (⟨(some 39), (some (28, false)), .q (.load false 1 (.t 38))⟩, [21, 11]), (⟨(some 40), (some (28, false)), .c (.c (.clo 69 [])) [(.t 39)]⟩, [22, 17, 11]), (⟨(some 41), (some (28, false)), .q (.bin .neq (.t 34) (.t 40))⟩, [17, 23, 11]), (⟨(some 42), none, .q (.pick (.t 28) (.c (.sc (.bool true))) (.t 41))⟩, [11, 24])])
  (.cond (.t 42) (.seq (.ops [⟨(some 4), none, .q (.mov (.c (.sc (.bool false))))⟩])
  .ret)
  .skip)))
  (.ops [⟨(some 15), none, .q (.mov (.t 5))⟩, ⟨(some 16), none, .q (.bin .add (.t 15) (.c (.sc (.int .i64 1))))⟩, ⟨(some 5), none, .q (.mov (.t 16))⟩]))))))
  (.seq (.ops [⟨(some 4), none, .q (.mov (.c (.sc (.bool true))))⟩])
  .ret))))
theorem K17 : Try.f17.body.bind (comp Try.prog) = some A17 ∧ Try.f17.ntmps = 43 ∧ Try.f17.results.toList.mapM (resB Try.prog) = some [.mov (.t 4)] := ⟨by kernel_rfl, by kernel_rfl, by kernel_rfl⟩
theorem R17 (xs ys : List Mark) (hb : xs.length < 4611686018427387904) : Ret Try.prog 17 [.ro (rows Mark.ty.cs xs) xs.length, .ro (rows Mark.ty.cs ys) ys.length] (.sc (.bool (eqBy markEq xs ys))) [.un, .un] := by
  refine Ret.run Try.func17 K17 (by simp) rfl rfl 500 ?_
  by_cases hl : xs.length = ys.length
  case neg =>
    have : ¬ ((xs.length : Int) = ys.length) := by omega
    simp [A17, iniρ, this, eqBy_len hl]
  simp [A17, iniρ, ← hl]
  refine T.rounds (μ := fun i : List Mark × List Mark × List Mark × List Mark => i.2.1.length)
    (fun i s => i.1 ++ i.2.1 = xs ∧ i.2.2.1 ++ i.2.2.2 = ys ∧ i.1.length = i.2.2.1.length ∧ eqBy markEq i.2.1 i.2.2.2 = eqBy markEq xs ys ∧ s.ρ 0 = .ro (rows Mark.ty.cs xs) xs.length ∧ s.ρ 1 = .ro (rows Mark.ty.cs ys) xs.length ∧ s.ρ 5 = .sc (.int .i64 i.1.length) ∧ s.h = h0 ∧ s.n = 43) ([], xs, [], ys) (by simp [upd_app]) ?_
  rintro ⟨pre, rest, pre', rest'⟩ ⟨ρ, hh, n⟩ ⟨hx, hy, hp, hE, h0', h1', h5', rfl, rfl⟩
  simp only at hx hy hp hE h0' h1' h5'
  refine run_ok (n := 400) ?_
  have hlr : rest.length = rest'.length := by have := congrArg List.length hx; have := congrArg List.length hy; simp only [List.length_append] at *; omega
  cases rest with
  | nil =>
    cases rest' with
    | cons y r => simp at hlr
    | nil =>
    simp at hx
    subst hx
    simp [h0', h5']
    refine T.on 400 ?_
    simp [← hE, eqBy]
  | cons x rest =>
    cases rest' with
    | nil => simp at hlr
    | cons y rest' =>
    have hlt : (pre.length : Int) < xs.length := by rw [← hx]; simp only [List.length_append, List.length_cons]; omega
    have hd := rows_drop Mark.ty.csn pre (x :: rest)
    rw [hx, rows_cons] at hd
    have hd : List.drop (pre.length * 2) (rows Mark.ty.cs xs) = Mark.ty.cs x ++ rows Mark.ty.cs rest := hd
    have hd' := rows_drop Mark.ty.csn pre' (y :: rest')
    rw [hy, rows_cons, ← hp] at hd'
    have hd' : List.drop (pre.length * 2) (rows Mark.ty.cs ys) = Mark.ty.cs y ++ rows Mark.ty.cs rest' := hd'
    have hw : IntKind.i64.wrap ((pre.length : Int) + 1) = pre.length + 1 := wrap_i64 (by omega) (by omega)
    simp [h0', h1', h5', hlt]
    have hdh : List.drop (pre.length * 2 + 1) (rows Mark.ty.cs xs) = [.sc (.int .i64 x.how)] ++ rows Mark.ty.cs rest := by rw [← List.drop_drop, hd]; rfl
    have hdh' : List.drop (pre.length * 2 + 1) (rows Mark.ty.cs ys) = [.sc (.int .i64 y.how)] ++ rows Mark.ty.cs rest' := by rw [← List.drop_drop, hd']; rfl
    refine T.text 400 mixed (by kernel_rfl) (by kernel_rfl) ?_
    by_cases hk : x.task.toList = y.task.toList
    case neg => simp [h0', h1', h5', hlt, hd, hd', Mark.cse, hk, ← hE, eqBy, markEq, strEq]
    simp (maxSteps := 1000000) [h0', h1', h5', hlt, hd, hd', hdh, hdh', Mark.cse, hk]
    refine callSK.by rfl (by kernel_rfl) rfl (R69 x.how) ?_
    simp [h0', h1', h5', hlt, hd, hd', hdh, hdh', Mark.cse, hk]
    refine callSK.by rfl (by kernel_rfl) rfl (R69 y.how) ?_
    by_cases hE1 : plainH x.how = plainH y.how
    case neg => simp [hk, hE1, ← hE, eqBy, markEq, strEq]
    simp [h5', hw, hk, hE1]
    refine ⟨pre ++ [x], rest, by simp, pre' ++ [y], rest', _, Le.refl _, ?_⟩
    simp [hx, hy, hp, h0', h1', ← hE, eqBy, hE1, hk, markEq, strEq, upd_app]
theorem R133 (xs ys : List File) (hb : xs.length < 4611686018427387904) : Ret Try.prog 133 [.ro (rows File.ty.cs xs) xs.length, .ro (rows File.ty.cs ys) ys.length] (.sc (.bool (eqBy fileEq xs ys))) [.un, .un] := Ret.same mixed File.ty (offs := [(0, 0), (1, 0)]) Try.func133 ⟨by kernel_rfl, by kernel_rfl, by kernel_rfl⟩ fileEq (fun x y => by simp [File.cse, eqOff, seq1, fileEq, strEq]) xs ys hb
/- 72: loop.example/g00464/laws.sameMade -/
def A72 : AC := (.seq (.ops [⟨(some 2), none, .w (.box (.t 0))⟩, ⟨(some 3), none, .w (.box (.t 1))⟩, ⟨(some 4), none, .q (.mov (.c (.sc (.bool false))))⟩])
  (.seq (.ops [⟨(some 5), none, .q (.fadr 0 (.t 2))⟩, ⟨(some 6), none, .q (.load false 1 (.t 5))⟩, ⟨(some 7), none, .q (.fadr 0 (.t 3))⟩, ⟨(some 8), none, .q (.load false 1 (.t 7))⟩, ⟨(some 9), none, .q (.bin .eql (.t 6) (.t 8))⟩, ⟨(some 10), none, .q (.mov (.t 9))⟩, ⟨(some 11), (some (10, true)), .q (.fadr 2 (.t 2))⟩, ⟨(some 12), (some (10, true)), .q (.load false 1 (.t 11))⟩, ⟨(some 13), (some (10, true)), .q (.fadr 2 (.t 3))⟩, ⟨(some 14), (some (10, true)), .q (.load false 1 (.t 13))⟩, ⟨(some 15), (some (10, true)), .q (.bin .eql (.t 12) (.t 14))⟩, ⟨(some 16), none, .q (.pick (.t 10) (.t 15) (.c (.sc (.bool false))))⟩, ⟨(some 17), none, .q (.mov (.t 16))⟩, ⟨(some 18), (some (17, true)), .q (.fadr 1 (.t 2))⟩, ⟨(some 19), (some (17, true)), .q (.load false 1 (.t 18))⟩, ⟨(some 20), (some (17, true)), .q (.fadr 1 (.t 3))⟩, ⟨(some 21), (some (17, true)), .q (.load false 1 (.t 20))⟩, ⟨(some 22), (some (17, true)), .c (.c (.clo 133 [])) [(.t 19), (.t 21)]⟩, ⟨(some 23), none, .q (.pick (.t 17) (.t 22) (.c (.sc (.bool false))))⟩, ⟨(some 4), none, .q (.mov (.t 23))⟩])
  .ret))
theorem K72 : Try.f72.body.bind (comp Try.prog) = some A72 ∧ Try.f72.ntmps = 24 ∧ Try.f72.results.toList.mapM (resB Try.prog) = some [.mov (.t 4)] := ⟨by kernel_rfl, by kernel_rfl, by kernel_rfl⟩
theorem R72 (a b : Made) (ha : Made.ty.ok a) : Ret Try.prog 72 [.agg (Made.ty.cs a), .agg (Made.ty.cs b)] (.sc (.bool (madeEq a b))) [.un, .un] := by
  have hb := File.ty.lenb (by decide) ha.2.1
  refine Ret.run Try.func72 K72 (by simp) rfl rfl 500 ?_
  by_cases h1 : a.task.toList = b.task.toList
  case neg =>
    have h1' : (a.task.toList == b.task.toList) = false := by simpa using h1
    simp [A72, iniρ, Made.cse, h1, h1', madeEq, strEq]
  by_cases h2 : a.log.toList = b.log.toList
  case neg =>
    have h2' : (a.log.toList == b.log.toList) = false := by simpa using h2
    simp [A72, iniρ, Made.cse, h1, h2, h2', madeEq, strEq]
  simp [A72, iniρ, Made.cse, h1, h2]
  refine callK.ro 0 rfl (by kernel_rfl) (by simp [roc_ro]) (R133 a.outs b.outs hb) rfl rfl rfl ?_
  simp [madeEq, strEq, h1, h2]
/- 19: loop.example/g00464/laws.sameMades -/
def A19 : AC := (.seq (.ops [⟨(some 4), none, .q (.mov (.c (.sc (.bool false))))⟩])
  (.seq (.seq (.ops [⟨(some 6), none, .q (.mov (.t 0))⟩, ⟨(some 7), none, .q (.llen (.t 6))⟩, ⟨(some 8), none, .q (.mov (.t 1))⟩, ⟨(some 9), none, .q (.llen (.t 8))⟩, ⟨(some 10), none, .q (.bin .neq (.t 7) (.t 9))⟩])
  (.cond (.t 10) (.seq (.ops [⟨(some 4), none, .q (.mov (.c (.sc (.bool false))))⟩])
  .ret)
  .skip))
  (.seq (.seq (.ops [⟨(some 5), none, .q (.mov (.c (.sc (.int .i64 0))))⟩])
  (.block 0 (.loop (.seq (.seq (.ops [⟨(some 11), none, .q (.mov (.t 5))⟩, ⟨(some 12), none, .q (.mov (.t 0))⟩, ⟨(some 13), none, .q (.llen (.t 12))⟩, ⟨(some 14), none, .q (.bin .lss (.t 11) (.t 13))⟩])
  (.cond (.t 14) .skip
  (.exit 0)))
  (.seq (.block 1 (.seq (.any [(⟨(some 17), none, .q (.mov (.t 0))⟩, []), (⟨(some 18), none, .q (.mov (.t 5))⟩, []), (⟨(some 19), none, .q (.iadr 3 (.t 17) (.t 18))⟩, [0, 1]), (⟨(some 20), none, .q (.load true 3 (.t 19))⟩, [2]), (⟨(some 21), none, .q (.mov (.t 1))⟩, []), (⟨(some 22), none, .q (.mov (.t 5))⟩, []), (⟨(some 23), none, .q (.iadr 3 (.t 21) (.t 22))⟩, [4, 5]), (⟨(some 24), none, .q (.load true 3 (.t 23))⟩, [6]), (⟨(some 25), none, .c (.c (.clo 72 [])) [(.t 20), (.t 24)]⟩, [3, 7]), (⟨(some 26), none, .q (.not (.t 25))⟩, [8])])
  (.cond (.t 26) (.seq (.ops [⟨(some 4), none, .q (.mov (.c (.sc (.bool false))))⟩])
  .ret)
  .skip)))
  (.ops [⟨(some 15), none, .q (.mov (.t 5))⟩, ⟨(some 16), none, .q (.bin .add (.t 15) (.c (.sc (.int .i64 1))))⟩, ⟨(some 5), none, .q (.mov (.t 16))⟩]))))))
  (.seq (.ops [⟨(some 4), none, .q (.mov (.c (.sc (.bool true))))⟩])
  .ret))))
theorem K19 : Try.f19.body.bind (comp Try.prog) = some A19 ∧ Try.f19.ntmps = 27 ∧ Try.f19.results.toList.mapM (resB Try.prog) = some [.mov (.t 4)] := ⟨by kernel_rfl, by kernel_rfl, by kernel_rfl⟩
theorem R19 (xs ys : List Made) (hok : Made.ty.slice.ok xs) : Ret Try.prog 19 [.ro (rows Made.ty.cs xs) xs.length, .ro (rows Made.ty.cs ys) ys.length] (.sc (.bool (eqBy madeEq xs ys))) [.un, .un] := by
  have hb := Made.ty.lenb (by decide) hok
  refine Ret.run Try.func19 K19 (by simp) rfl rfl 500 ?_
  by_cases hl : xs.length = ys.length
  case neg =>
    have : ¬ ((xs.length : Int) = ys.length) := by omega
    simp [A19, iniρ, this, eqBy_len hl]
  simp [A19, iniρ, ← hl]
  refine T.rounds (μ := fun i : List Made × List Made × List Made × List Made => i.2.1.length)
    (fun i s => i.1 ++ i.2.1 = xs ∧ i.2.2.1 ++ i.2.2.2 = ys ∧ i.1.length = i.2.2.1.length ∧ eqBy madeEq i.2.1 i.2.2.2 = eqBy madeEq xs ys ∧ s.ρ 0 = .ro (rows Made.ty.cs xs) xs.length ∧ s.ρ 1 = .ro (rows Made.ty.cs ys) xs.length ∧ s.ρ 5 = .sc (.int .i64 i.1.length) ∧ s.h = h0 ∧ s.n = 27) ([], xs, [], ys) (by simp [upd_app]) ?_
  rintro ⟨pre, rest, pre', rest'⟩ ⟨ρ, hh, n⟩ ⟨hx, hy, hp, hE, h0', h1', h5', rfl, rfl⟩
  simp only at hx hy hp hE h0' h1' h5'
  refine run_ok (n := 400) ?_
  have hlr : rest.length = rest'.length := by have := congrArg List.length hx; have := congrArg List.length hy; simp only [List.length_append] at *; omega
  cases rest with
  | nil =>
    cases rest' with
    | cons y r => simp at hlr
    | nil =>
    simp at hx
    subst hx
    simp [h0', h5']
    refine T.on 400 ?_
    simp [← hE, eqBy]
  | cons x rest =>
    cases rest' with
    | nil => simp at hlr
    | cons y rest' =>
    have hlt : (pre.length : Int) < xs.length := by rw [← hx]; simp only [List.length_append, List.length_cons]; omega
    have hd := rows_drop Made.ty.csn pre (x :: rest)
    rw [hx, rows_cons] at hd
    have hd : List.drop (pre.length * 3) (rows Made.ty.cs xs) = Made.ty.cs x ++ rows Made.ty.cs rest := hd
    have hd' := rows_drop Made.ty.csn pre' (y :: rest')
    rw [hy, rows_cons, ← hp] at hd'
    have hd' : List.drop (pre.length * 3) (rows Made.ty.cs ys) = Made.ty.cs y ++ rows Made.ty.cs rest' := hd'
    have hw : IntKind.i64.wrap ((pre.length : Int) + 1) = pre.length + 1 := wrap_i64 (by omega) (by omega)
    simp [h0', h1', h5', hlt]
    refine T.text 400 mixed (by kernel_rfl) (by kernel_rfl) ?_
    simp [h0', h1', h5', hlt, hd, hd', Made.cse]
    refine callSK.by rfl (by kernel_rfl) (by simp [roc_agg, Made.cse]) (R72 x y (hok.2 x (by rw [← hx]; simp))) ?_
    cases hE1 : madeEq x y
    · simp [← hE, eqBy, hE1]
    · simp [h5', hw]
      refine ⟨pre ++ [x], rest, by simp, pre' ++ [y], rest', _, Le.refl _, ?_⟩
      simp [hx, hy, hp, h0', h1', ← hE, eqBy, hE1, upd_app]
end Go.Proofs.Ytadoadomogceiaa.Am
