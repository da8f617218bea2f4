/- The functions of the program, each by its contract: Job; no condition. -/
import Derived.Test.YtadoadomogceiaaProg
import Derived.Test.YtadoadomogceiaaAmZ
import Derived.Test.YtadoadomogceiaaAmP
import Derived.Test.YtadoadomogceiaaPlumb
import Derived.KernelRfl
namespace Go.Proofs.Ytadoadomogceiaa.Am
open Go Go.Proofs
set_option linter.unusedSimpArgs false
set_option linter.unusedVariables false
attribute [local congr] T_congr callK_congr callWK_congr
attribute [local simp] run_nil run_op0 run_opg run_seq run_cond run_block run_ret run_skip run_skip_after run_skip_blk run_exit run_exit_after run_exit_blk run_loop run_any runS_nil runS_op0 runS_opg runW_nil runW_op0 runW_opg exec_q exec_w exec_c exec_n execW_q execW_w execW_c restW_app hideH_app merge_app wblk rest_app restS_app execS_q execS_c aval dOk upd_app ev_t ev_c setO_some setO_none put_mk pinsOf isIo hasIo sbin endR fin resL one outL out1 clo1 cloL coe coeL shut shut.shutL wantA weff cellsOf fillA deref natOf ρ0_app h0_app plain plain.plainL keep_app keepH_app andThen_normal andThen_ret andThen_exit pop_nil pop_after pop_after_ret pop_after_exit pop_blk pop_blk_ret pop_blk_exit nilA srcOf srcCells keepR_app keepHR_app renA rb
def fileEq (a b : File) : Bool := strEq a.path b.path && strEq a.text b.text
def envEq (a b : Env) : Bool := strEq a.name b.name && strEq a.val b.val
def madeEq (a b : Made) : Bool := strEq a.task b.task && (strEq a.log b.log && eqBy fileEq a.outs b.outs)
def jobEq (a b : Job) : Bool := strEq a.name b.name && eqBy strEq a.acts b.acts && eqBy fileEq a.ins b.ins && eqBy envEq a.envs b.envs && eqBy madeEq a.deps b.deps
theorem eqBy_true_len {α β : Type} {f : α → β → Bool} {xs : List α} {ys : List β} (h : eqBy f xs ys = true) : xs.length = ys.length := by
  by_cases e : xs.length = ys.length
  · exact e
  · rw [eqBy_len e] at h; cases h
theorem R77 (xs ys : List ByteArray) (hb : xs.length < 4611686018427387904) : Ret Try.prog 77 [.ro (rows Ty.str.cs xs) xs.length, .ro (rows Ty.str.cs ys) ys.length] (.sc (.bool (eqBy strEq xs ys))) [.un, .un] := Ret.sameStr mixed Try.func77 ⟨by kernel_rfl, by kernel_rfl, by kernel_rfl⟩ xs ys hb
theorem R84 (xs ys : List ByteArray) (hb : xs.length < 4611686018427387904) : Ret Try.prog 84 [.ro (rows Ty.str.cs xs) xs.length, .ro (rows Ty.str.cs ys) ys.length] (.sc (.bool (eqBy strEq xs ys))) [.un, .un] := Ret.equalStr mixed Try.func84 ⟨by kernel_rfl, by kernel_rfl, by kernel_rfl⟩ xs ys hb
theorem R78 (xs ys : List File) (hb : xs.length < 4611686018427387904) : Ret Try.prog 78 [.ro (rows File.ty.cs xs) xs.length, .ro (rows File.ty.cs ys) ys.length] (.sc (.bool (eqBy fileEq xs ys))) [.un, .un] := Ret.same mixed File.ty (offs := [(0, 0), (1, 0)]) Try.func78 ⟨by kernel_rfl, by kernel_rfl, by kernel_rfl⟩ fileEq (fun x y => by simp [File.cse, eqOff, seq1, fileEq, strEq]) xs ys hb
theorem R85 (xs ys : List File) (hb : xs.length < 4611686018427387904) : Ret Try.prog 85 [.ro (rows File.ty.cs xs) xs.length, .ro (rows File.ty.cs ys) ys.length] (.sc (.bool (eqBy fileEq xs ys))) [.un, .un] := Ret.equal mixed File.ty (offs := [(0, 0), (1, 0)]) Try.func85 ⟨by kernel_rfl, by kernel_rfl, by kernel_rfl⟩ fileEq (fun x y => by simp [File.cse, eqOff, seq1, fileEq, strEq]) xs ys hb
theorem R86 (xs ys : List Env) (hb : xs.length < 4611686018427387904) : Ret Try.prog 86 [.ro (rows Env.ty.cs xs) xs.length, .ro (rows Env.ty.cs ys) ys.length] (.sc (.bool (eqBy envEq xs ys))) [.un, .un] := Ret.equal mixed Env.ty (offs := [(0, 0), (1, 0)]) Try.func86 ⟨by kernel_rfl, by kernel_rfl, by kernel_rfl⟩ envEq (fun x y => by simp [Env.cse, eqOff, seq1, envEq, strEq]) xs ys hb
/- 79: loop.example/g00464/spec.SameMade -/
def A79 : AC := (.seq (.ops [⟨(some 2), none, .w (.box (.t 0))⟩, ⟨(some 3), none, .w (.box (.t 1))⟩, ⟨(some 4), none, .q (.mov (.c (.sc (.bool false))))⟩])
  (.seq (.ops [⟨(some 5), none, .q (.fadr 0 (.t 2))⟩, ⟨(some 6), none, .q (.load false 1 (.t 5))⟩, ⟨(some 7), none, .q (.fadr 0 (.t 3))⟩, ⟨(some 8), none, .q (.load false 1 (.t 7))⟩, ⟨(some 9), none, .q (.bin .eql (.t 6) (.t 8))⟩, ⟨(some 10), none, .q (.mov (.t 9))⟩, ⟨(some 11), (some (10, true)), .q (.fadr 2 (.t 2))⟩, ⟨(some 12), (some (10, true)), .q (.load false 1 (.t 11))⟩, ⟨(some 13), (some (10, true)), .q (.fadr 2 (.t 3))⟩, ⟨(some 14), (some (10, true)), .q (.load false 1 (.t 13))⟩, ⟨(some 15), (some (10, true)), .q (.bin .eql (.t 12) (.t 14))⟩, ⟨(some 16), none, .q (.pick (.t 10) (.t 15) (.c (.sc (.bool false))))⟩, ⟨(some 17), none, .q (.mov (.t 16))⟩, ⟨(some 18), (some (17, true)), .q (.fadr 1 (.t 2))⟩, ⟨(some 19), (some (17, true)), .q (.load false 1 (.t 18))⟩, ⟨(some 20), (some (17, true)), .q (.fadr 1 (.t 3))⟩, ⟨(some 21), (some (17, true)), .q (.load false 1 (.t 20))⟩, ⟨(some 22), (some (17, true)), .c (.c (.clo 78 [])) [(.t 19), (.t 21)]⟩, ⟨(some 23), none, .q (.pick (.t 17) (.t 22) (.c (.sc (.bool false))))⟩, ⟨(some 4), none, .q (.mov (.t 23))⟩])
  .ret))
theorem K79 : Try.f79.body.bind (comp Try.prog) = some A79 ∧ Try.f79.ntmps = 24 ∧ Try.f79.results.toList.mapM (resB Try.prog) = some [.mov (.t 4)] := ⟨by kernel_rfl, by kernel_rfl, by kernel_rfl⟩
theorem R79 (a b : Made) (ha : Made.ty.ok a) : Ret Try.prog 79 [.agg (Made.ty.cs a), .agg (Made.ty.cs b)] (.sc (.bool (madeEq a b))) [.un, .un] := by
  have hb := File.ty.lenb (by decide) ha.2.1
  refine Ret.run Try.func79 K79 (by simp) rfl rfl 500 ?_
  simp [A79, iniρ, Made.cse]
  by_cases h1 : a.task.toList = b.task.toList
  case neg => simp [h1, madeEq, strEq]
  by_cases h2 : a.log.toList = b.log.toList
  case neg => simp [h1, h2, madeEq, strEq]
  simp [h1, h2]
  refine callK.ro 0 rfl (by kernel_rfl) (by simp [roc_ro]) (R78 a.outs b.outs hb) rfl rfl rfl ?_
  simp [madeEq, strEq, h1, h2]
/- 71: loop.example/g00464/impl.SameMade -/
def A71 : AC := (.seq (.ops [⟨(some 2), none, .w (.box (.t 0))⟩, ⟨(some 3), none, .w (.box (.t 1))⟩, ⟨(some 4), none, .q (.mov (.c (.sc (.bool false))))⟩])
  (.seq (.ops [⟨(some 5), none, .q (.fadr 0 (.t 2))⟩, ⟨(some 6), none, .q (.load false 1 (.t 5))⟩, ⟨(some 7), none, .q (.fadr 0 (.t 3))⟩, ⟨(some 8), none, .q (.load false 1 (.t 7))⟩, ⟨(some 9), none, .q (.bin .eql (.t 6) (.t 8))⟩, ⟨(some 10), none, .q (.mov (.t 9))⟩, ⟨(some 11), (some (10, true)), .q (.fadr 2 (.t 2))⟩, ⟨(some 12), (some (10, true)), .q (.load false 1 (.t 11))⟩, ⟨(some 13), (some (10, true)), .q (.fadr 2 (.t 3))⟩, ⟨(some 14), (some (10, true)), .q (.load false 1 (.t 13))⟩, ⟨(some 15), (some (10, true)), .q (.bin .eql (.t 12) (.t 14))⟩, ⟨(some 16), none, .q (.pick (.t 10) (.t 15) (.c (.sc (.bool false))))⟩, ⟨(some 17), none, .q (.mov (.t 16))⟩, ⟨(some 18), (some (17, true)), .q (.fadr 1 (.t 2))⟩, ⟨(some 19), (some (17, true)), .q (.load false 1 (.t 18))⟩, ⟨(some 20), (some (17, true)), .q (.fadr 1 (.t 3))⟩, ⟨(some 21), (some (17, true)), .q (.load false 1 (.t 20))⟩, ⟨(some 22), (some (17, true)), .c (.c (.clo 85 [])) [(.t 19), (.t 21)]⟩, ⟨(some 23), none, .q (.pick (.t 17) (.t 22) (.c (.sc (.bool false))))⟩, ⟨(some 4), none, .q (.mov (.t 23))⟩])
  .ret))
theorem K71 : Try.f71.body.bind (comp Try.prog) = some A71 ∧ Try.f71.ntmps = 24 ∧ Try.f71.results.toList.mapM (resB Try.prog) = some [.mov (.t 4)] := ⟨by kernel_rfl, by kernel_rfl, by kernel_rfl⟩
theorem R71 (a b : Made) (ha : Made.ty.ok a) : Ret Try.prog 71 [.agg (Made.ty.cs a), .agg (Made.ty.cs b)] (.sc (.bool (madeEq a b))) [.un, .un] := by
  have hb := File.ty.lenb (by decide) ha.2.1
  refine Ret.run Try.func71 K71 (by simp) rfl rfl 500 ?_
  simp [A71, iniρ, Made.cse]
  by_cases h1 : a.task.toList = b.task.toList
  case neg => simp [h1, madeEq, strEq]
  by_cases h2 : a.log.toList = b.log.toList
  case neg => simp [h1, h2, madeEq, strEq]
  simp [h1, h2]
  refine callK.ro 0 rfl (by kernel_rfl) (by simp [roc_ro]) (R85 a.outs b.outs hb) rfl rfl rfl ?_
  simp [madeEq, strEq, h1, h2]
theorem R70 (xs ys : List Made) (hx : Made.ty.slice.ok xs) : Ret Try.prog 70 [.ro (rows Made.ty.cs xs) xs.length, .ro (rows Made.ty.cs ys) ys.length, .clo 71 []] (.sc (.bool (eqBy madeEq xs ys))) [.un, .un, .un] := Ret.equalFunc Made.ty (z := Made.ty.z) Try.func70 ⟨by kernel_rfl, by kernel_rfl, by kernel_rfl⟩ rfl 71 madeEq (by kernel_rfl) xs ys (fun x h y _ => R71 x y (hx.2 x h)) (Made.ty.lenb (by decide) hx)
/- 18: loop.example/g00464/impl.SameMades -/
def A18 : AC := (.seq (.ops [⟨(some 4), none, .q (.mov (.c (.sc (.bool false))))⟩])
  (.seq (.ops [⟨(some 5), none, .q (.mov (.t 0))⟩, ⟨(some 6), none, .q (.mov (.t 1))⟩, ⟨(some 7), none, .c (.c (.clo 70 [])) [(.t 5), (.t 6), (.c (.clo 71 []))]⟩, ⟨(some 4), none, .q (.mov (.t 7))⟩])
  .ret))
theorem K18 : Try.f18.body.bind (comp Try.prog) = some A18 ∧ Try.f18.ntmps = 8 ∧ Try.f18.results.toList.mapM (resB Try.prog) = some [.mov (.t 4)] := ⟨by kernel_rfl, by kernel_rfl, by kernel_rfl⟩
theorem R18 (xs ys : List Made) (hx : Made.ty.slice.ok xs) : Ret Try.prog 18 [.ro (rows Made.ty.cs xs) xs.length, .ro (rows Made.ty.cs ys) ys.length] (.sc (.bool (eqBy madeEq xs ys))) [.un, .un] := by
  refine Ret.run Try.func18 K18 (by simp) rfl rfl 500 ?_
  simp [A18, iniρ]
  refine callK.ro 0 rfl (by kernel_rfl) (by simp [roc_ro, roc_clo (cs := []) rfl]) (R70 xs ys hx) rfl rfl rfl ?_
  simp
/- 23: loop.example/g00464/impl.SameJob -/
def A23 : AC := (.seq (.ops [⟨(some 2), none, .w (.box (.t 0))⟩, ⟨(some 3), none, .w (.box (.t 1))⟩, ⟨(some 4), none, .q (.mov (.c (.sc (.bool false))))⟩])
  (.seq (.seq (.ops [⟨(some 5), none, .q (.fadr 0 (.t 2))⟩, ⟨(some 6), none, .q (.load false 1 (.t 5))⟩, ⟨(some 7), none, .q (.fadr 0 (.t 3))⟩, ⟨(some 8), none, .q (.load false 1 (.t 7))⟩, ⟨(some 9), none, .q (.bin .neq (.t 6) (.t 8))⟩, ⟨(some 10), none, .q (.mov (.t 9))⟩, ⟨(some 11), (some (10, false)), .q (.fadr 1 (.t 2))⟩, ⟨(some 12), (some (10, false)), .q (.load false 1 (.t 11))⟩, ⟨(some 13), (some (10, false)), .q (.fadr 1 (.t 3))⟩, ⟨(some 14), (some (10, false)), .q (.load false 1 (.t 13))⟩, ⟨(some 15), (some (10, false)), .c (.c (.clo 84 [])) [(.t 12), (.t 14)]⟩, ⟨(some 16), (some (10, false)), .q (.not (.t 15))⟩, ⟨(some 17), none, .q (.pick (.t 10) (.c (.sc (.bool true))) (.t 16))⟩, ⟨(some 18), none, .q (.mov (.t 17))⟩, ⟨(some 19), (some (18, false)), .q (.fadr 2 (.t 2))⟩, ⟨(some 20), (some (18, false)), .q (.load false 1 (.t 19))⟩, ⟨(some 21), (some (18, false)), .q (.fadr 2 (.t 3))⟩, ⟨(some 22), (some (18, false)), .q (.load false 1 (.t 21))⟩, ⟨(some 23), (some (18, false)), .c (.c (.clo 85 [])) [(.t 20), (.t 22)]⟩, ⟨(some 24), (some (18, false)), .q (.not (.t 23))⟩, ⟨(some 25), none, .q (.pick (.t 18) (.c (.sc (.bool true))) (.t 24))⟩, ⟨(some 26), none, .q (.mov (.t 25))⟩, ⟨(some 27), (some (26, false)), .q (.fadr 3 (.t 2))⟩, ⟨(some 28), (some (26, false)), .q (.load false 1 (.t 27))⟩, ⟨(some 29), (some (26, false)), .q (.fadr 3 (.t 3))⟩, ⟨(some 30), (some (26, false)), .q (.load false 1 (.t 29))⟩, ⟨(some 31), (some (26, false)), .c (.c (.clo 86 [])) [(.t 28), (.t 30)]⟩, ⟨(some 32), (some (26, false)), .q (.not (.t 31))⟩, ⟨(some 33), none, .q (.pick (.t 26) (.c (.sc (.bool true))) (.t 32))⟩])
  (.cond (.t 33) (.seq (.ops [⟨(some 4), none, .q (.mov (.c (.sc (.bool false))))⟩])
  .ret)
  .skip))
  (.seq (.ops [⟨(some 34), none, .q (.fadr 4 (.t 2))⟩, ⟨(some 35), none, .q (.load false 1 (.t 34))⟩, ⟨(some 36), none, .q (.fadr 4 (.t 3))⟩, ⟨(some 37), none, .q (.load false 1 (.t 36))⟩, ⟨(some 38), none, .c (.c (.clo 18 [])) [(.t 35), (.t 37)]⟩, ⟨(some 4), none, .q (.mov (.t 38))⟩])
  .ret)))
theorem K23 : Try.f23.body.bind (comp Try.prog) = some A23 ∧ Try.f23.ntmps = 39 ∧ Try.f23.results.toList.mapM (resB Try.prog) = some [.mov (.t 4)] := ⟨by kernel_rfl, by kernel_rfl, by kernel_rfl⟩
set_option maxHeartbeats 1000000 in
set_option maxRecDepth 100000 in
theorem R23 (a b : Job) (ha : Job.ty.ok a) : Ret Try.prog 23 [.agg (Job.ty.cs a), .agg (Job.ty.cs b)] (.sc (.bool (jobEq a b))) [.un, .un] := by
  obtain ⟨o0, o1, o2, o3, o4, _⟩ := ha
  have h1 := Ty.str.lenb (by decide) o1
  have h2 := File.ty.lenb (by decide) o2
  have h3 : a.envs.length < 4611686018427387904 := Env.ty.lenb (by decide) o3
  refine Ret.run Try.func23 K23 (by simp) rfl rfl 500 ?_
  by_cases k0 : a.name.toList = b.name.toList
  case neg =>
    have k0' : (a.name.toList == b.name.toList) = false := by simpa using k0
    simp [A23, iniρ, Job.cse, k0, k0', jobEq, strEq]
  simp [A23, iniρ, Job.cse, k0]
  refine callK.ro 0 rfl (by kernel_rfl) (by simp [roc_ro]) (R84 a.acts b.acts h1) rfl rfl rfl ?_
  cases k1 : eqBy strEq a.acts b.acts
  · simp [jobEq, k1]
  simp
  refine callK.ro 0 rfl (by kernel_rfl) (by simp [roc_ro]) (R85 a.ins b.ins h2) rfl rfl rfl ?_
  cases k2 : eqBy fileEq a.ins b.ins
  · simp [jobEq, k2]
  simp
  refine callK.ro 0 rfl (by kernel_rfl) (by simp [roc_ro]) (R86 a.envs b.envs h3) rfl rfl rfl ?_
  cases k3 : eqBy envEq a.envs b.envs
  · simp [jobEq, k3]
  simp
  refine callK.ro 0 rfl (by kernel_rfl) (by simp [roc_ro]) (R18 a.deps b.deps o4) rfl rfl rfl ?_
  simp [jobEq, strEq, k0, k1, k2, k3]
/- 21: loop.example/g00464/spec.SameJob -/
def A21 : AC := (.seq (.ops [⟨(some 2), none, .w (.box (.t 0))⟩, ⟨(some 3), none, .w (.box (.t 1))⟩, ⟨(some 4), none, .q (.mov (.c (.sc (.bool false))))⟩])
  (.seq (.seq (.ops [⟨(some 7), none, .q (.fadr 0 (.t 2))⟩, ⟨(some 8), none, .q (.load false 1 (.t 7))⟩, ⟨(some 9), none, .q (.fadr 0 (.t 3))⟩, ⟨(some 10), none, .q (.load false 1 (.t 9))⟩, ⟨(some 11), none, .q (.bin .neq (.t 8) (.t 10))⟩, ⟨(some 12), none, .q (.mov (.t 11))⟩, ⟨(some 13), (some (12, false)), .q (.fadr 1 (.t 2))⟩, ⟨(some 14), (some (12, false)), .q (.load false 1 (.t 13))⟩, ⟨(some 15), (some (12, false)), .q (.fadr 1 (.t 3))⟩, ⟨(some 16), (some (12, false)), .q (.load false 1 (.t 15))⟩, ⟨(some 17), (some (12, false)), .c (.c (.clo 77 [])) [(.t 14), (.t 16)]⟩, ⟨(some 18), (some (12, false)), .q (.not (.t 17))⟩, ⟨(some 19), none, .q (.pick (.t 12) (.c (.sc (.bool true))) (.t 18))⟩, ⟨(some 20), none, .q (.mov (.t 19))⟩, ⟨(some 21), (some (20, false)), .q (.fadr 2 (.t 2))⟩, ⟨(some 22), (some (20, false)), .q (.load false 1 (.t 21))⟩, ⟨(some 23), (some (20, false)), .q (.fadr 2 (.t 3))⟩, ⟨(some 24), (some (20, false)), .q (.load false 1 (.t 23))⟩, ⟨(some 25), (some (20, false)), .c (.c (.clo 78 [])) [(.t 22), (.t 24)]⟩, ⟨(some 26), (some (20, false)), .q (.not (.t 25))⟩, ⟨(some 27), none, .q (.pick (.t 20) (.c (.sc (.bool true))) (.t 26))⟩, ⟨(some 28), none, .q (.mov (.t 27))⟩, ⟨(some 29), (some (28, false)), .q (.fadr 3 (.t 2))⟩, ⟨(some 30), (some (28, false)), .q (.load false 1 (.t 29))⟩, ⟨(some 31), (some (28, false)), .q (.llen (.t 30))⟩, ⟨(some 32), (some (28, false)), .q (.fadr 3 (.t 3))⟩, ⟨(some 33), (some (28, false)), .q (.load false 1 (.t 32))⟩, ⟨(some 34), (some (28, false)), .q (.llen (.t 33))⟩, ⟨(some 35), (some (28, false)), .q (.bin .neq (.t 31) (.t 34))⟩, ⟨(some 36), none, .q (.pick (.t 28) (.c (.sc (.bool true))) (.t 35))⟩, ⟨(some 37), none, .q (.mov (.t 36))⟩, ⟨(some 38), (some (37, false)), .q (.fadr 4 (.t 2))⟩, ⟨(some 39), (some (37, false)), .q (.load false 1 (.t 38))⟩, ⟨(some 40), (some (37, false)), .q (.llen (.t 39))⟩, ⟨(some 41), (some (37, false)), .q (.fadr 4 (.t 3))⟩, ⟨(some 42), (some (37, false)), .q (.load false 1 (.t 41))⟩, ⟨(some 43), (some (37, false)), .q (.llen (.t 42))⟩, ⟨(some 44), (some (37, false)), .q (.bin .neq (.t 40) (.t 43))⟩, ⟨(some 45), none, .q (.pick (.t 37) (.c (.sc (.bool true))) (.t 44))⟩])
  (.cond (.t 45) (.seq (.ops [⟨(some 4), none, .q (.mov (.c (.sc (.bool false))))⟩])
  .ret)
  .skip))
  (.seq (.seq (.ops [⟨(some 5), none, .q (.mov (.c (.sc (.int .i64 0))))⟩])
  (.block 0 (.loop (.seq (.seq (.ops [⟨(some 46), none, .q (.mov (.t 5))⟩, ⟨(some 47), none, .q (.fadr 3 (.t 2))⟩, ⟨(some 48), none, .q (.load false 1 (.t 47))⟩, ⟨(some 49), none, .q (.llen (.t 48))⟩, ⟨(some 50), none, .q (.bin .lss (.t 46) (.t 49))⟩])
  (.cond (.t 50) .skip
  (.exit 0)))
  (.seq (.block 1 (.seq (.any [(⟨(some 53), none, .q (.fadr 3 (.t 2))⟩, []), (⟨(some 54), none, .q (.load false 1 (.t 53))⟩, [0]), (⟨(some 55), none, .q (.mov (.t 5))⟩, []), (⟨(some 56), none, .q (.iadr 2 (.t 54) (.t 55))⟩, [1, 2]), (⟨(some 57), none, .q (.load true 2 (.t 56))⟩, [3]), (⟨(some 58), none, .q (.fadr 3 (.t 3))⟩, []), (⟨(some 59), none, .q (.load false 1 (.t 58))⟩, [5]), (⟨(some 60), none, .q (.mov (.t 5))⟩, []), (⟨(some 61), none, .q (.iadr 2 (.t 59) (.t 60))⟩, [6, 7]), (⟨(some 62), none, .q (.load true 2 (.t 61))⟩, [8]), (⟨(some 63), none, .q (.aeq true [(0, 0), (1, 0)] (.t 57) (.t 62))⟩, [4, 9])])
  (.cond (.t 63) (.seq (.ops [⟨(some 4), none, .q (.mov (.c (.sc (.bool false))))⟩])
  .ret)
  .skip)))
  (.ops [⟨(some 51), none, .q (.mov (.t 5))⟩, ⟨(some 52), none, .q (.bin .add (.t 51) (.c (.sc (.int .i64 1))))⟩, ⟨(some 5), none, .q (.mov (.t 52))⟩]))))))
  (.seq (.seq (.ops [⟨(some 6), none, .q (.mov (.c (.sc (.int .i64 0))))⟩])
  (.block 2 (.loop (.seq (.seq (.ops [⟨(some 64), none, .q (.mov (.t 6))⟩, ⟨(some 65), none, .q (.fadr 4 (.t 2))⟩, ⟨(some 66), none, .q (.load false 1 (.t 65))⟩, ⟨(some 67), none, .q (.llen (.t 66))⟩, ⟨(some 68), none, .q (.bin .lss (.t 64) (.t 67))⟩])
  (.cond (.t 68) .skip
  (.exit 2)))
  (.seq (.block 3 (.seq (.any [(⟨(some 71), none, .q (.fadr 4 (.t 2))⟩, []), (⟨(some 72), none, .q (.load false 1 (.t 71))⟩, [0]), (⟨(some 73), none, .q (.mov (.t 6))⟩, []), (⟨(some 74), none, .q (.iadr 3 (.t 72) (.t 73))⟩, [1, 2]), (⟨(some 75), none, .q (.load true 3 (.t 74))⟩, [3]), (⟨(some 76), none, .q (.fadr 4 (.t 3))⟩, []), (⟨(some 77), none, .q (.load false 1 (.t 76))⟩, [5]), (⟨(some 78), none, .q (.mov (.t 6))⟩, []), (⟨(some 79), none, .q (.iadr 3 (.t 77) (.t 78))⟩, [6, 7]), (⟨(some 80), none, .q (.load true 3 (.t 79))⟩, [8]), (⟨(some 81), none, .c (.c (.clo 79 [])) [(.t 75), (.t 80)]⟩, [4, 9]), (⟨(some 82), none, .q (.not (.t 81))⟩, [10])])
  (.cond (.t 82) (.seq (.ops [⟨(some 4), none, .q (.mov (.c (.sc (.bool false))))⟩])
  .ret)
  .skip)))
  (.ops [⟨(some 69), none, .q (.mov (.t 6))⟩, ⟨(some 70), none, .q (.bin .add (.t 69) (.c (.sc (.int .i64 1))))⟩, ⟨(some 6), none, .q (.mov (.t 70))⟩]))))))
  (.seq (.ops [⟨(some 4), none, .q (.mov (.c (.sc (.bool true))))⟩])
  .ret)))))
theorem K21 : Try.f21.body.bind (comp Try.prog) = some A21 ∧ Try.f21.ntmps = 83 ∧ Try.f21.results.toList.mapM (resB Try.prog) = some [.mov (.t 4)] := ⟨by kernel_rfl, by kernel_rfl, by kernel_rfl⟩
set_option maxHeartbeats 1000000 in
set_option maxRecDepth 100000 in
theorem R21 (a b : Job) (ha : Job.ty.ok a) : Ret Try.prog 21 [.agg (Job.ty.cs a), .agg (Job.ty.cs b)] (.sc (.bool (jobEq a b))) [.un, .un] := by
  obtain ⟨o0, o1, o2, o3, o4, _⟩ := ha
  have h1 := Ty.str.lenb (by decide) o1
  have h2 := File.ty.lenb (by decide) o2
  have h3 : a.envs.length < 4611686018427387904 := Env.ty.lenb (by decide) o3
  have h4 : a.deps.length < 4611686018427387904 := Made.ty.lenb (by decide) o4
  have s4 : ∀ x ∈ a.deps, Made.ty.ok x := o4.2
  refine Ret.run Try.func21 K21 (by simp) rfl rfl 500 ?_
  by_cases k0 : a.name.toList = b.name.toList
  case neg =>
    have k0' : (a.name.toList == b.name.toList) = false := by simpa using k0
    simp [A21, iniρ, Job.cse, k0, k0', jobEq, strEq]
  simp [A21, iniρ, Job.cse, k0]
  refine callK.ro 0 rfl (by kernel_rfl) (by simp [roc_ro]) (R77 a.acts b.acts h1) rfl rfl rfl ?_
  cases k1 : eqBy strEq a.acts b.acts
  · simp [jobEq, k1]
  simp
  refine callK.ro 0 rfl (by kernel_rfl) (by simp [roc_ro]) (R78 a.ins b.ins h2) rfl rfl rfl ?_
  cases k2 : eqBy fileEq a.ins b.ins
  · simp [jobEq, k2]
  by_cases l3 : a.envs.length = b.envs.length
  case neg =>
    have l3' : ¬ (a.envs.length : Int) = b.envs.length := by omega
    simp [jobEq, l3, l3', eqBy_len l3]
  by_cases l4 : a.deps.length = b.deps.length
  case neg =>
    have l4' : ¬ (a.deps.length : Int) = b.deps.length := by omega
    simp [jobEq, l3, l4, l4', eqBy_len l4]
  simp [l3, l4]
  have e0 : jobEq a b = (eqBy envEq a.envs b.envs && eqBy madeEq a.deps b.deps) := by simp [jobEq, strEq, k0, k1, k2]
  rw [e0]
  have e3 := l3.symm
  have e4 := l4.symm
  obtain ⟨xs, hxs⟩ : ∃ xs, xs = a.envs := ⟨_, rfl⟩
  obtain ⟨ys, hys⟩ : ∃ ys, ys = b.envs := ⟨_, rfl⟩
  obtain ⟨us, hus⟩ : ∃ us, us = a.deps := ⟨_, rfl⟩
  obtain ⟨vs, hvs⟩ : ∃ vs, vs = b.deps := ⟨_, rfl⟩
  rw [← hxs] at h3 l3 ⊢
  rw [← hys] at l3 ⊢
  rw [← hus] at h4 s4 l4 ⊢
  rw [← hvs] at l4 ⊢
  refine T.rounds (μ := fun i : List Env × List Env × List Env × List Env => i.2.1.length)
    (fun i s => i.1 ++ i.2.1 = xs ∧ i.2.2.1 ++ i.2.2.2 = ys ∧ i.1.length = i.2.2.1.length ∧ eqBy envEq i.2.1 i.2.2.2 = eqBy envEq xs ys ∧ s.ρ 2 = .ref 2 0 ∧ s.ρ 3 = .ref 3 0 ∧ s.ρ 5 = .sc (.int .i64 i.1.length) ∧ s.h 2 = some (some (Job.ty.cs a)) ∧ s.h 3 = some (some (Job.ty.cs b)) ∧ s.n = 83) ([], xs, [], ys) (by simp [upd_app, Job.cse, hxs, hys, hus, hvs, e3, e4]) ?_
  rintro ⟨pre, rest, pre', rest'⟩ ⟨ρ, hh, n⟩ ⟨hx, hy, hp, hE, j2, j3, j5, jh2, jh3, rfl⟩
  simp only at hx hy hp hE j2 j3 j5 jh2 jh3
  refine run_ok (n := 400) ?_
  have hlr : rest.length = rest'.length := by have := congrArg List.length hx; have := congrArg List.length hy; simp only [List.length_append] at *; omega
  cases rest with
  | nil =>
    cases rest' with
    | cons y r => simp at hlr
    | nil =>
    simp at hx
    have hE2 : eqBy envEq xs ys = true := by rw [← hE]; rfl
    simp [j2, j5, jh2, Job.cse, ← hxs, hx]
    refine T.on 400 ?_
    rw [hE2, Bool.true_and]
    simp
    refine T.rounds (μ := fun i : List Made × List Made × List Made × List Made => i.2.1.length)
      (fun i s => i.1 ++ i.2.1 = us ∧ i.2.2.1 ++ i.2.2.2 = vs ∧ i.1.length = i.2.2.1.length ∧ eqBy madeEq i.2.1 i.2.2.2 = eqBy madeEq us vs ∧ s.ρ 2 = .ref 2 0 ∧ s.ρ 3 = .ref 3 0 ∧ s.ρ 6 = .sc (.int .i64 i.1.length) ∧ s.h 2 = some (some (Job.ty.cs a)) ∧ s.h 3 = some (some (Job.ty.cs b)) ∧ s.n = 83) ([], us, [], vs) (by simp [upd_app, j2, j3, jh2, jh3]) ?_
    rintro ⟨pre, rest, pre', rest'⟩ ⟨ρ, hh, n⟩ ⟨hx, hy, hp, hE, j2, j3, j6, jh2, jh3, rfl⟩
    simp only at hx hy hp hE j2 j3 j6 jh2 jh3
    refine run_ok (n := 400) ?_
    have hlr : rest.length = rest'.length := by have := congrArg List.length hx; have := congrArg List.length hy; simp only [List.length_append] at *; omega
    cases rest with
    | nil =>
      cases rest' with
      | cons y r => simp at hlr
      | nil =>
      simp at hx
      simp [j2, j6, jh2, Job.cse, ← hus, hx]
      refine T.on 400 ?_
      simp [← hE, eqBy]
    | cons x rest =>
      cases rest' with
      | nil => simp at hlr
      | cons y rest' =>
      have hlt : (pre.length : Int) < us.length := by rw [← hx]; simp only [List.length_append, List.length_cons]; omega
      have hd := rows_drop Made.ty.csn pre (x :: rest)
      rw [hx, rows_cons] at hd
      have hd : List.drop (pre.length * 3) (rows Made.ty.cs us) = Made.ty.cs x ++ rows Made.ty.cs rest := hd
      have hd' := rows_drop Made.ty.csn pre' (y :: rest')
      rw [hy, rows_cons, ← hp] at hd'
      have hd' : List.drop (pre.length * 3) (rows Made.ty.cs vs) = Made.ty.cs y ++ rows Made.ty.cs rest' := hd'
      have hw : IntKind.i64.wrap ((pre.length : Int) + 1) = pre.length + 1 := wrap_i64 (by omega) (by omega)
      have hlt' : (pre.length : Int) < vs.length := by omega
      simp [j2, j3, j6, jh2, jh3, Job.cse, ← hus, ← hvs, hlt]
      refine T.text 400 mixed (by kernel_rfl) (by kernel_rfl) ?_
      simp [j2, j3, j6, jh2, jh3, Job.cse, ← hus, ← hvs, hlt, hlt', hd, hd', Made.cse]
      refine callSK.by rfl (by kernel_rfl) (by simp [roc_agg, Made.cse]) (R79 x y (s4 x (by rw [← hx]; simp))) ?_
      cases hE1 : madeEq x y
      · simp [← hE, eqBy, hE1]
      · simp [j6, hw]
        refine ⟨pre ++ [x], rest, by simp, pre' ++ [y], rest', _, Le.refl _, ?_⟩
        simp [hx, hy, hp, j2, j3, jh2, jh3, ← hE, eqBy, hE1, Job.cse, ← hus, ← hvs, upd_app]
  | cons x rest =>
    cases rest' with
    | nil => simp at hlr
    | cons y rest' =>
    have hlt : (pre.length : Int) < xs.length := by rw [← hx]; simp only [List.length_append, List.length_cons]; omega
    have hd := rows_drop Env.ty.csn pre (x :: rest)
    rw [hx, rows_cons] at hd
    have hd : List.drop (pre.length * 2) (rows Env.ty.cs xs) = Env.ty.cs x ++ rows Env.ty.cs rest := hd
    have hd' := rows_drop Env.ty.csn pre' (y :: rest')
    rw [hy, rows_cons, ← hp] at hd'
    have hd' : List.drop (pre.length * 2) (rows Env.ty.cs ys) = Env.ty.cs y ++ rows Env.ty.cs rest' := hd'
    have hw : IntKind.i64.wrap ((pre.length : Int) + 1) = pre.length + 1 := wrap_i64 (by omega) (by omega)
    have hlt' : (pre.length : Int) < ys.length := by omega
    simp [j2, j3, j5, jh2, jh3, Job.cse, ← hxs, ← hys, hlt]
    refine T.text 400 mixed (by kernel_rfl) (by kernel_rfl) ?_
    have hq : eqOff [(0, 0), (1, 0)] (Env.ty.cs x) (Env.ty.cs y) = some (envEq x y) := by simp [Env.cse, eqOff, seq1, envEq, strEq]
    rw [Env.cse, Env.cse] at hq
    simp [j2, j3, j5, jh2, jh3, Job.cse, ← hxs, ← hys, hlt, hlt', hd, hd', Env.cse, hq]
    cases hE1 : envEq x y
    · simp [← hE, eqBy, hE1]
    · simp [j5, hw]
      refine ⟨pre ++ [x], rest, by simp, pre' ++ [y], rest', _, Le.refl _, ?_⟩
      simp [hx, hy, hp, j2, j3, jh2, jh3, ← hE, eqBy, hE1, Job.cse, ← hxs, ← hys, upd_app]
end Go.Proofs.Ytadoadomogceiaa.Am
