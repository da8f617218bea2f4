/- The functions of the program, each by its contract: LawSameJob; no condition. -/
import Derived.Test.YtadoadomogceiaaProg
import Derived.Test.YtadoadomogceiaaAmZ
import Derived.Test.YtadoadomogceiaaAmP
import Derived.Test.YtadoadomogceiaaJob
import Derived.KernelRfl
namespace Go.Proofs.Ytadoadomogceiaa.Am
open Go Go.Proofs
set_option linter.unusedSimpArgs false
set_option linter.unusedVariables false
attribute [local congr] T_congr callK_congr callWK_congr
attribute [local simp] run_nil run_op0 run_opg run_seq run_cond run_block run_ret run_skip run_skip_after run_skip_blk run_exit run_exit_after run_exit_blk run_loop run_any runS_nil runS_op0 runS_opg runW_nil runW_op0 runW_opg exec_q exec_w exec_c exec_n execW_q execW_w execW_c restW_app hideH_app merge_app wblk rest_app restS_app execS_q execS_c aval dOk upd_app ev_t ev_c setO_some setO_none put_mk pinsOf isIo hasIo sbin endR fin resL one outL out1 clo1 cloL coe coeL shut shut.shutL wantA weff cellsOf fillA deref natOf ρ0_app h0_app plain plain.plainL keep_app keepH_app andThen_normal andThen_ret andThen_exit pop_nil pop_after pop_after_ret pop_after_exit pop_blk pop_blk_ret pop_blk_exit nilA srcOf srcCells keepR_app keepHR_app renA rb
/- 4: loop.example/g00464/laws.FnExactSameJob -/
def A4 : AC := (.seq (.ops [⟨(some 2), none, .w (.box (.t 0))⟩, ⟨(some 3), none, .w (.box (.t 1))⟩, ⟨(some 4), none, .q (.mov (.c (.sc (.bool false))))⟩])
  (.seq (.ops [⟨(some 5), none, .q (.mov (.c (.sc (.int .i64 1048576))))⟩])
  (.seq (.ops [⟨(some 10), none, .q (.load true 5 (.t 2))⟩, ⟨(some 11), none, .q (.mov (.t 5))⟩, ⟨(some 12), none, .c (.c (.clo 20 [])) [(.t 10), (.t 11)]⟩, ⟨(some 5), none, .q (.mov (.t 12))⟩])
  (.seq (.seq (.ops [⟨(some 13), none, .q (.mov (.t 5))⟩, ⟨(some 14), none, .q (.bin .lss (.t 13) (.c (.sc (.int .i64 0))))⟩])
  (.cond (.t 14) (.seq (.ops [⟨(some 4), none, .q (.mov (.c (.sc (.bool true))))⟩])
  .ret)
  .skip))
  (.seq (.ops [⟨(some 15), none, .q (.load true 5 (.t 3))⟩, ⟨(some 16), none, .q (.mov (.t 5))⟩, ⟨(some 17), none, .c (.c (.clo 20 [])) [(.t 15), (.t 16)]⟩, ⟨(some 5), none, .q (.mov (.t 17))⟩])
  (.seq (.seq (.ops [⟨(some 18), none, .q (.mov (.t 5))⟩, ⟨(some 19), none, .q (.bin .lss (.t 18) (.c (.sc (.int .i64 0))))⟩])
  (.cond (.t 19) (.seq (.ops [⟨(some 4), none, .q (.mov (.c (.sc (.bool true))))⟩])
  .ret)
  .skip))
  (.seq (.any [(⟨(some 20), none, .q (.load true 5 (.t 2))⟩, []), (⟨(some 21), none, .c (.c (.clo 22 [])) [(.t 20)]⟩, [0]), (⟨(some 22), none, .q (.load true 5 (.t 3))⟩, []), (⟨(some 23), none, .c (.c (.clo 22 [])) [(.t 22)]⟩, [2, 1]), (⟨(some 24), none, .c (.c (.clo 21 [])) [(.t 21), (.t 23)]⟩, [1, 3, 3]), (⟨(some 6), none, .q (.mov (.t 24))⟩, [4, 4, 0, 1, 2, 3, 4])])
  (.seq (.ops [⟨(some 25), none, .q (.load true 5 (.t 2))⟩, ⟨(some 26), none, .c (.c (.clo 22 [])) [(.t 25)]⟩, ⟨(some 7), none, .w (.alloc [(.sc (.string ⟨#[]⟩)), .em, .em, .em, .em])⟩, ⟨none, none, .w (.store 5 (.t 7) (.t 26))⟩])
  (.seq (.ops [⟨(some 27), none, .q (.load true 5 (.t 3))⟩, ⟨(some 28), none, .c (.c (.clo 22 [])) [(.t 27)]⟩, ⟨(some 8), none, .w (.alloc [(.sc (.string ⟨#[]⟩)), .em, .em, .em, .em])⟩, ⟨none, none, .w (.store 5 (.t 8) (.t 28))⟩])
  (.seq (.ops [⟨(some 29), none, .q (.load true 5 (.t 7))⟩, ⟨(some 30), none, .q (.load true 5 (.t 8))⟩, ⟨(some 31), none, .c (.c (.clo 23 [])) [(.t 29), (.t 30)]⟩, ⟨(some 9), none, .q (.mov (.t 31))⟩])
  (.seq (.seq (.ops [⟨(some 32), none, .q (.mov (.t 9))⟩, ⟨(some 33), none, .q (.mov (.t 6))⟩, ⟨(some 34), none, .q (.beq true (.t 32) (.t 33))⟩])
  (.cond (.t 34) (.seq (.ops [⟨(some 4), none, .q (.mov (.c (.sc (.bool false))))⟩])
  .ret)
  .skip))
  (.seq (.seq (.any [(⟨(some 35), none, .q (.load true 5 (.t 7))⟩, []), (⟨(some 36), none, .q (.load true 5 (.t 2))⟩, []), (⟨(some 37), none, .c (.c (.clo 22 [])) [(.t 36)]⟩, [1]), (⟨(some 38), none, .c (.c (.clo 24 [])) [(.t 35), (.t 37)]⟩, [0, 2, 2]), (⟨(some 39), none, .q (.not (.t 38))⟩, [3])])
  (.cond (.t 39) (.seq (.ops [⟨(some 4), none, .q (.mov (.c (.sc (.bool false))))⟩])
  .ret)
  .skip))
  (.seq (.seq (.any [(⟨(some 40), none, .q (.load true 5 (.t 8))⟩, []), (⟨(some 41), none, .q (.load true 5 (.t 3))⟩, []), (⟨(some 42), none, .c (.c (.clo 22 [])) [(.t 41)]⟩, [1]), (⟨(some 43), none, .c (.c (.clo 24 [])) [(.t 40), (.t 42)]⟩, [0, 2, 2]), (⟨(some 44), none, .q (.not (.t 43))⟩, [3])])
  (.cond (.t 44) (.seq (.ops [⟨(some 4), none, .q (.mov (.c (.sc (.bool false))))⟩])
  .ret)
  .skip))
  (.seq (.ops [⟨(some 4), none, .q (.mov (.c (.sc (.bool true))))⟩])
  .ret))))))))))))))
theorem K4 : Try.f4.body.bind (comp Try.prog) = some A4 ∧ Try.f4.ntmps = 45 ∧ Try.f4.results.toList.mapM (resB Try.prog) = some [.mov (.t 4)] := ⟨by kernel_rfl, by kernel_rfl, by kernel_rfl⟩
theorem R4 (aA : Job) (haA : Job.ty.ok aA) (aB : Job) (haB : Job.ty.ok aB) : Ret Try.prog 4 [.agg (Job.ty.cs aA), .agg (Job.ty.cs aB)] (.sc (.bool true)) [.un, .un] := by
  obtain ⟨m0, e0, q0⟩ := R20 aA haA 1048576 (by omega) (by omega)
  by_cases n0 : m0 < 0
  · refine Ret.run Try.func4 K4 (by simp) rfl rfl 900 ?_
    simp [A4, iniρ, over, Job.cse, Job.oce, n0]
    refine callK.ro 0 rfl (by kernel_rfl) (by simp [roc_sc, roc_ro, roc_em, roc_agg, Job.cse, Job.oce, n0]) q0 rfl rfl rfl ?_
    simp [over, Job.cse, Job.oce, n0]
  have e0 := e0.resolve_left n0
  obtain ⟨m1, e1, q1⟩ := R20 aB haB m0 (by omega) (by omega)
  by_cases n1 : m1 < 0
  · refine Ret.run Try.func4 K4 (by simp) rfl rfl 900 ?_
    simp [A4, iniρ, over, Job.cse, Job.oce, n0, n1]
    refine callK.ro 0 rfl (by kernel_rfl) (by simp [roc_sc, roc_ro, roc_em, roc_agg, Job.cse, Job.oce, n0, n1]) q0 rfl rfl rfl ?_
    simp [over, Job.cse, Job.oce, n0, n1]
    refine callK.ro 0 rfl (by kernel_rfl) (by simp [roc_sc, roc_ro, roc_em, roc_agg, Job.cse, Job.oce, n0, n1]) q1 rfl rfl rfl ?_
    simp [over, Job.cse, Job.oce, n0, n1]
  have e1 := e1.resolve_left n1
  refine Ret.run Try.func4 K4 (by simp) rfl rfl 900 ?_
  simp [A4, iniρ, over, Job.cse, Job.oce, n0, n1]
  refine callK.ro 0 rfl (by kernel_rfl) (by simp [roc_sc, roc_ro, roc_em, roc_agg, Job.cse, Job.oce, n0, n1]) q0 rfl rfl rfl ?_
  simp [over, merge_nil, hideH_nil, Job.cse, Job.oce, n0, n1]
  refine callK.ro 0 rfl (by kernel_rfl) (by simp [roc_sc, roc_ro, roc_em, roc_agg, Job.cse, Job.oce, n0, n1]) q1 rfl rfl rfl ?_
  simp [over, merge_nil, hideH_nil, Job.cse, Job.oce, n0, n1]
  refine T.textW 400 [([], []), ([604001, 604002, 604003, 604004], []), ([], [604001, 604002, 604003, 604004]), ([605001, 605002, 605003, 605004], []), ([], []), ([], [])] mixed (by kernel_rfl) (by kernel_rfl) ?_
  simp [over, merge_nil, hideH_nil, Job.cse, Job.oce, n0, n1]
  refine callWK.ro 603 rfl (by kernel_rfl) (by simp [roc_sc, roc_ro, roc_em, roc_agg, Job.cse, Job.oce, n0, n1]) (R22 aA haA) (by simpa [flt] using Job.ty.flL aA) (by simp [inst, instL, Job.oce, upd_app]; exact ⟨rfl, rfl⟩) (by rfl) ?_
  simp [over, merge_nil, hideH_nil, Job.cse, Job.oce, n0, n1]
  refine callWK.ro 604 rfl (by kernel_rfl) (by simp [roc_sc, roc_ro, roc_em, roc_agg, Job.cse, Job.oce, n0, n1]) (R22 aB haB) (by simpa [flt] using Job.ty.flL aB) (by simp [inst, instL, Job.oce, upd_app]; exact ⟨rfl, rfl⟩) (by rfl) ?_
  simp [over, merge_nil, hideH_nil, Job.cse, Job.oce, n0, n1]
  refine callWK.ro 0 rfl (by kernel_rfl) (by simp [roc_sc, roc_ro, roc_em, roc_agg, roc_agg8, List.mapM_cons, List.mapM_nil, str_roc7, File.roc7, Env.roc7, Made.roc7, Job.cse, Job.oce, n0, n1]) (R21 aA aB haA) rfl rfl (by rfl) ?_
  simp [over, merge_nil, hideH_nil, Job.cse, Job.oce, n0, n1]
  refine callK.ro 606 rfl (by kernel_rfl) (by simp [roc_sc, roc_ro, roc_em, roc_agg, Job.cse, Job.oce, n0, n1]) (R22 aA haA) (by simpa [flt] using Job.ty.flL aA) (by simp [inst, instL, Job.oce, upd_app]; exact ⟨rfl, rfl⟩) rfl ?_
  simp [over, merge_nil, hideH_nil, Job.cse, Job.oce, n0, n1]
  refine callK.ro 607 rfl (by kernel_rfl) (by simp [roc_sc, roc_ro, roc_em, roc_agg, Job.cse, Job.oce, n0, n1]) (R22 aB haB) (by simpa [flt] using Job.ty.flL aB) (by simp [inst, instL, Job.oce, upd_app]; exact ⟨rfl, rfl⟩) rfl ?_
  simp [over, merge_nil, hideH_nil, Job.cse, Job.oce, n0, n1]
  refine callK.ro 0 rfl (by kernel_rfl) (by simp [roc_sc, roc_ro, roc_em, roc_agg, roc_agg8, List.mapM_cons, List.mapM_nil, str_roc7, File.roc7, Env.roc7, Made.roc7, Job.cse, Job.oce, n0, n1]) (R23 aA aB haA) rfl rfl rfl ?_
  simp [over, merge_nil, hideH_nil, Job.cse, Job.oce, n0, n1]
  refine T.textW 400 [([], [610001, 610002, 610003, 610004]), ([], []), ([610001, 610002, 610003, 610004], []), ([], []), ([], [])] mixed (by kernel_rfl) (by kernel_rfl) ?_
  simp [over, merge_nil, hideH_nil, Job.cse, Job.oce, n0, n1]
  refine callWK.ro 609 rfl (by kernel_rfl) (by simp [roc_sc, roc_ro, roc_em, roc_agg, Job.cse, Job.oce, n0, n1]) (R22 aA haA) (by simpa [flt] using Job.ty.flL aA) (by simp [inst, instL, Job.oce, upd_app]; exact ⟨rfl, rfl⟩) (by rfl) ?_
  simp [over, merge_nil, hideH_nil, Job.cse, Job.oce, n0, n1]
  refine callWK.ro 0 rfl (by kernel_rfl) (by simp [roc_sc, roc_ro, roc_em, roc_agg, roc_agg8, List.mapM_cons, List.mapM_nil, str_roc7, File.roc7, Env.roc7, Made.roc7, Job.cse, Job.oce, n0, n1]) (R24 aA haA) rfl rfl (by rfl) ?_
  simp [over, merge_nil, hideH_nil, Job.cse, Job.oce, n0, n1]
  refine T.textW 400 [([], [612001, 612002, 612003, 612004]), ([], []), ([612001, 612002, 612003, 612004], []), ([], []), ([], [])] mixed (by kernel_rfl) (by kernel_rfl) ?_
  simp [over, merge_nil, hideH_nil, Job.cse, Job.oce, n0, n1]
  refine callWK.ro 611 rfl (by kernel_rfl) (by simp [roc_sc, roc_ro, roc_em, roc_agg, Job.cse, Job.oce, n0, n1]) (R22 aB haB) (by simpa [flt] using Job.ty.flL aB) (by simp [inst, instL, Job.oce, upd_app]; exact ⟨rfl, rfl⟩) (by rfl) ?_
  simp [over, merge_nil, hideH_nil, Job.cse, Job.oce, n0, n1]
  refine callWK.ro 0 rfl (by kernel_rfl) (by simp [roc_sc, roc_ro, roc_em, roc_agg, roc_agg8, List.mapM_cons, List.mapM_nil, str_roc7, File.roc7, Env.roc7, Made.roc7, Job.cse, Job.oce, n0, n1]) (R24 aB haB) rfl rfl (by rfl) ?_
  simp [over, merge_nil, hideH_nil, Job.cse, Job.oce, n0, n1]
end Go.Proofs.Ytadoadomogceiaa.Am
