/- The functions of the program, each by its contract: LawOver; no condition. -/
import Derived.Test.YtaknfalbmblagaaProg
import Derived.Test.YtaknfalbmblagaaAmZ
import Derived.Test.YtaknfalbmblagaaAmP
import Derived.Test.YtaknfalbmblagaaReady3
import Derived.KernelRfl
namespace Go.Proofs.Ytaknfalbmblagaa.Am
open Go Go.Proofs
set_option linter.unusedSimpArgs false
set_option linter.unusedVariables false
attribute [local congr] T_congr callK_congr callWK_congr
attribute [local simp] run_nil run_op0 run_opg run_seq run_cond run_block run_ret run_skip run_skip_after run_skip_blk run_exit run_exit_after run_exit_blk run_loop run_any runS_nil runS_op0 runS_opg runW_nil runW_op0 runW_opg exec_q exec_w exec_c exec_n execW_q execW_w execW_c restW_app hideH_app merge_app wblk rest_app restS_app execS_q execS_c aval dOk upd_app ev_t ev_c setO_some setO_none put_mk pinsOf isIo hasIo sbin endR fin resL one outL out1 clo1 cloL coe coeL shut shut.shutL wantA weff cellsOf fillA deref natOf ρ0_app h0_app plain plain.plainL keep_app keepH_app andThen_normal andThen_ret andThen_exit pop_nil pop_after pop_after_ret pop_after_exit pop_blk pop_blk_ret pop_blk_exit nilA srcOf srcCells keepR_app keepHR_app renA rb
/- 3: loop.example/g00464/laws.FnExactOver -/
def A3 : AC := (.seq (.ops [⟨(some 1), none, .w (.box (.t 0))⟩, ⟨(some 2), none, .q (.mov (.c (.sc (.bool false))))⟩])
  (.seq (.ops [⟨(some 3), none, .q (.mov (.c (.sc (.int .i64 1048576))))⟩])
  (.seq (.ops [⟨(some 7), none, .q (.load true 12 (.t 1))⟩, ⟨(some 8), none, .q (.mov (.t 3))⟩, ⟨(some 9), none, .c (.c (.clo 4 [])) [(.t 7), (.t 8)]⟩, ⟨(some 3), none, .q (.mov (.t 9))⟩])
  (.seq (.seq (.ops [⟨(some 10), none, .q (.mov (.t 3))⟩, ⟨(some 11), none, .q (.bin .lss (.t 10) (.c (.sc (.int .i64 0))))⟩])
  (.cond (.t 11) (.seq (.ops [⟨(some 2), none, .q (.mov (.c (.sc (.bool true))))⟩])
  .ret)
  .skip))
  (.seq (.ops [⟨(some 12), none, .q (.load true 12 (.t 1))⟩, ⟨(some 13), none, .c (.c (.clo 6 [])) [(.t 12)]⟩, ⟨(some 14), none, .c (.c (.clo 5 [])) [(.t 13)]⟩, ⟨(some 4), none, .q (.mov (.t 14))⟩])
  (.seq (.ops [⟨(some 15), none, .q (.load true 12 (.t 1))⟩, ⟨(some 16), none, .c (.c (.clo 6 [])) [(.t 15)]⟩, ⟨(some 5), none, .w (.alloc [.em, .em, .em, .em, .em, .em, (.sc (.int .i64 0)), (.sc (.bool false)), .em, .em, .em, .em])⟩, ⟨none, none, .w (.store 12 (.t 5) (.t 16))⟩])
  (.seq (.ops [⟨(some 17), none, .q (.load true 12 (.t 5))⟩, ⟨(some 18), none, .c (.c (.clo 7 [])) [(.t 17)]⟩, ⟨(some 6), none, .q (.mov (.t 18))⟩])
  (.seq (.seq (.ops [⟨(some 19), none, .q (.mov (.t 6))⟩, ⟨(some 20), none, .q (.mov (.t 4))⟩, ⟨(some 21), none, .q (.beq true (.t 19) (.t 20))⟩])
  (.cond (.t 21) (.seq (.ops [⟨(some 2), none, .q (.mov (.c (.sc (.bool false))))⟩])
  .ret)
  .skip))
  (.seq (.seq (.any [(⟨(some 22), none, .q (.load true 12 (.t 5))⟩, []), (⟨(some 23), none, .q (.load true 12 (.t 1))⟩, []), (⟨(some 24), none, .c (.c (.clo 6 [])) [(.t 23)]⟩, [1]), (⟨(some 25), none, .c (.c (.clo 8 [])) [(.t 22), (.t 24)]⟩, [0, 2, 2]), (⟨(some 26), none, .q (.not (.t 25))⟩, [3])])
  (.cond (.t 26) (.seq (.ops [⟨(some 2), none, .q (.mov (.c (.sc (.bool false))))⟩])
  .ret)
  .skip))
  (.seq (.ops [⟨(some 2), none, .q (.mov (.c (.sc (.bool true))))⟩])
  .ret))))))))))
theorem K3 : Try.f3.body.bind (comp Try.prog) = some A3 ∧ Try.f3.ntmps = 27 ∧ Try.f3.results.toList.mapM (resB Try.prog) = some [.mov (.t 2)] := ⟨by kernel_rfl, by kernel_rfl, by kernel_rfl⟩
theorem R3 (aR : Run) (haR : Run.ty.ok aR) : Ret Try.prog 3 [.agg (Run.ty.cs aR)] (.sc (.bool true)) [.un] := by
  obtain ⟨m0, e0, q0⟩ := R4 aR haR 1048576 (by omega) (by omega)
  by_cases n0 : m0 < 0
  · refine Ret.run Try.func3 K3 (by simp) rfl rfl 900 ?_
    simp [A3, iniρ, over, Run.cse, World.cse, Plan.cse, Run.oce, World.oce, Plan.oce, n0]
    refine callK.ro 0 rfl (by kernel_rfl) (by simp [roc_sc, roc_ro, roc_em, roc_agg, Run.cse, World.cse, Plan.cse, Run.oce, World.oce, Plan.oce, n0]) q0 rfl rfl rfl ?_
    simp [over, Run.cse, World.cse, Plan.cse, Run.oce, World.oce, Plan.oce, n0]
  have e0 := e0.resolve_left n0
  refine Ret.run Try.func3 K3 (by simp) rfl rfl 900 ?_
  simp [A3, iniρ, over, Run.cse, World.cse, Plan.cse, Run.oce, World.oce, Plan.oce, n0]
  refine callK.ro 0 rfl (by kernel_rfl) (by simp [roc_sc, roc_ro, roc_em, roc_agg, Run.cse, World.cse, Plan.cse, Run.oce, World.oce, Plan.oce, n0]) q0 rfl rfl rfl ?_
  simp [over, merge_nil, hideH_nil, Run.cse, World.cse, Plan.cse, Run.oce, World.oce, Plan.oce, n0]
  refine callK.ro 602 rfl (by kernel_rfl) (by simp [roc_sc, roc_ro, roc_em, roc_agg, Run.cse, World.cse, Plan.cse, Run.oce, World.oce, Plan.oce, n0]) (R6 aR haR) (by simpa [flt] using Run.ty.flL aR) (by simp [inst, instL, Run.oce, upd_app]; exact ⟨rfl, rfl⟩) rfl ?_
  simp [over, merge_nil, hideH_nil, Run.cse, World.cse, Plan.cse, Run.oce, World.oce, Plan.oce, n0]
  refine callK.ro 0 rfl (by kernel_rfl) (by simp [roc_sc, roc_ro, roc_em, roc_agg, roc_agg8, List.mapM_cons, List.mapM_nil, Pack.roc7, Rule.roc7, File.roc7, Env.roc7, str_roc7, strs_roc7, Made.roc7, Mark.roc7, Slot.roc7, Run.cse, World.cse, Plan.cse, Run.oce, World.oce, Plan.oce, n0]) (R5 aR haR (runSz_of (by omega))) rfl rfl rfl ?_
  simp [over, merge_nil, hideH_nil, Run.cse, World.cse, Plan.cse, Run.oce, World.oce, Plan.oce, n0]
  refine callK.ro 604 rfl (by kernel_rfl) (by simp [roc_sc, roc_ro, roc_em, roc_agg, Run.cse, World.cse, Plan.cse, Run.oce, World.oce, Plan.oce, n0]) (R6 aR haR) (by simpa [flt] using Run.ty.flL aR) (by simp [inst, instL, Run.oce, upd_app]; exact ⟨rfl, rfl⟩) rfl ?_
  simp [over, merge_nil, hideH_nil, Run.cse, World.cse, Plan.cse, Run.oce, World.oce, Plan.oce, n0]
  refine callK.ro 0 rfl (by kernel_rfl) (by simp [roc_sc, roc_ro, roc_em, roc_agg, roc_agg8, List.mapM_cons, List.mapM_nil, Pack.roc7, Rule.roc7, File.roc7, Env.roc7, str_roc7, strs_roc7, Made.roc7, Mark.roc7, Slot.roc7, Run.cse, World.cse, Plan.cse, Run.oce, World.oce, Plan.oce, n0]) (R7 aR haR (runSz_of (by omega)).1 (runSz_of (by omega)).2.1 (runSz_of (by omega)).on2) rfl rfl rfl ?_
  simp [over, merge_nil, hideH_nil, Run.cse, World.cse, Plan.cse, Run.oce, World.oce, Plan.oce, n0]
  refine T.textW 400 [([], [607000, 607001, 607002, 607003, 607004, 607005, 607008, 607009, 607010, 607011]), ([], []), ([607000, 607001, 607002, 607003, 607004, 607005, 607008, 607009, 607010, 607011], []), ([], []), ([], [])] mixed (by kernel_rfl) (by kernel_rfl) ?_
  simp [over, merge_nil, hideH_nil, Run.cse, World.cse, Plan.cse, Run.oce, World.oce, Plan.oce, n0]
  refine callWK.ro 606 rfl (by kernel_rfl) (by simp [roc_sc, roc_ro, roc_em, roc_agg, Run.cse, World.cse, Plan.cse, Run.oce, World.oce, Plan.oce, n0]) (R6 aR haR) (by simpa [flt] using Run.ty.flL aR) (by simp [inst, instL, Run.oce, upd_app]; exact ⟨rfl, rfl⟩) (by rfl) ?_
  simp [over, merge_nil, hideH_nil, Run.cse, World.cse, Plan.cse, Run.oce, World.oce, Plan.oce, n0]
  refine callWK.ro 0 rfl (by kernel_rfl) (by simp [roc_sc, roc_ro, roc_em, roc_agg, roc_agg8, List.mapM_cons, List.mapM_nil, Pack.roc7, Rule.roc7, File.roc7, Env.roc7, str_roc7, strs_roc7, Made.roc7, Mark.roc7, Slot.roc7, Run.cse, World.cse, Plan.cse, Run.oce, World.oce, Plan.oce, n0]) (R8 aR haR) rfl rfl (by rfl) ?_
  simp [over, merge_nil, hideH_nil, Run.cse, World.cse, Plan.cse, Run.oce, World.oce, Plan.oce, n0]
end Go.Proofs.Ytaknfalbmblagaa.Am
