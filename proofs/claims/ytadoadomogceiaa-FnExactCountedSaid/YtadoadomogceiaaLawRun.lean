/- The functions of the program, each by its contract: LawRun; no condition. -/
import Derived.Test.YtadoadomogceiaaProg
import Derived.Test.YtadoadomogceiaaAmZ
import Derived.Test.YtadoadomogceiaaAmP
import Derived.Test.YtadoadomogceiaaRun
import Derived.KernelRfl
namespace Go.Proofs.Ytadoadomogceiaa.Am
open Go Go.Proofs
set_option linter.unusedSimpArgs false
set_option linter.unusedVariables false
attribute [local congr] T_congr callK_congr callWK_congr
attribute [local simp] run exec_q exec_w exec_c exec_n execW_q execW_w execW_c restW_app runW hideH_app merge_app wblk rest_app restS_app execS_q execS_c aval dOk upd_app ev_t ev_c setO_some setO_none put_mk pinsOf isIo hasIo sbin endR fin resL one outL out1 clo1 cloL coe coeL shut shut.shutL wantA weff cellsOf fillA deref natOf ρ0_app h0_app plain plain.plainL keep_app keepH_app andThen_normal andThen_ret andThen_exit pop_nil pop_after pop_after_ret pop_after_exit pop_blk pop_blk_ret pop_blk_exit runS nilA srcOf srcCells keepR_app keepHR_app renA rb
/- 12: loop.example/g00464/laws.FnExactHowOf -/
def A12 : AC := (.seq (.ops [⟨(some 2), none, .w (.box (.t 0))⟩, ⟨(some 4), none, .q (.mov (.c (.sc (.bool false))))⟩])
  (.seq (.seq (.ops [⟨(some 9), none, .q (.mov (.t 1))⟩, ⟨(some 10), none, .q (.slen (.t 9))⟩, ⟨(some 11), none, .q (.bin .gtr (.t 10) (.c (.sc (.int .i64 1048576))))⟩])
  (.cond (.t 11) (.seq (.ops [⟨(some 4), none, .q (.mov (.c (.sc (.bool true))))⟩])
  .ret)
  .skip))
  (.seq (.ops [⟨(some 5), none, .q (.mov (.c (.sc (.int .i64 1048576))))⟩])
  (.seq (.ops [⟨(some 12), none, .q (.load true 12 (.t 2))⟩, ⟨(some 13), none, .q (.mov (.t 5))⟩, ⟨(some 14), none, .c (.c (.clo 53 [])) [(.t 12), (.t 13)]⟩, ⟨(some 5), none, .q (.mov (.t 14))⟩])
  (.seq (.seq (.ops [⟨(some 15), none, .q (.mov (.t 5))⟩, ⟨(some 16), none, .q (.bin .lss (.t 15) (.c (.sc (.int .i64 0))))⟩])
  (.cond (.t 16) (.seq (.ops [⟨(some 4), none, .q (.mov (.c (.sc (.bool true))))⟩])
  .ret)
  .skip))
  (.seq (.ops [⟨(some 17), none, .q (.load true 12 (.t 2))⟩, ⟨(some 18), none, .c (.c (.clo 55 [])) [(.t 17)]⟩, ⟨(some 19), none, .q (.mov (.t 1))⟩, ⟨(some 20), none, .c (.c (.clo 58 [])) [(.t 18), (.t 19)]⟩, ⟨(some 6), none, .q (.mov (.t 20))⟩])
  (.seq (.ops [⟨(some 21), none, .q (.load true 12 (.t 2))⟩, ⟨(some 22), none, .c (.c (.clo 55 [])) [(.t 21)]⟩, ⟨(some 7), none, .w (.alloc [.em, .em, .em, .em, .em, .em, (.sc (.int .i64 0)), (.sc (.bool false)), .em, .em, .em, .em])⟩, ⟨none, none, .w (.store 12 (.t 7) (.t 22))⟩])
  (.seq (.ops [⟨(some 23), none, .q (.load true 12 (.t 7))⟩, ⟨(some 24), none, .q (.mov (.t 1))⟩, ⟨(some 25), none, .c (.c (.clo 59 [])) [(.t 23), (.t 24)]⟩, ⟨(some 8), none, .q (.mov (.t 25))⟩])
  (.seq (.seq (.ops [⟨(some 26), none, .q (.mov (.t 8))⟩, ⟨(some 27), none, .q (.mov (.t 6))⟩, ⟨(some 28), none, .q (.bin .neq (.t 26) (.t 27))⟩])
  (.cond (.t 28) (.seq (.ops [⟨(some 4), none, .q (.mov (.c (.sc (.bool false))))⟩])
  .ret)
  .skip))
  (.seq (.seq (.any [(⟨(some 29), none, .q (.load true 12 (.t 7))⟩, []), (⟨(some 30), none, .q (.load true 12 (.t 2))⟩, []), (⟨(some 31), none, .c (.c (.clo 55 [])) [(.t 30)]⟩, [1]), (⟨(some 32), none, .c (.c (.clo 57 [])) [(.t 29), (.t 31)]⟩, [0, 2, 2]), (⟨(some 33), none, .q (.not (.t 32))⟩, [3])])
  (.cond (.t 33) (.seq (.ops [⟨(some 4), none, .q (.mov (.c (.sc (.bool false))))⟩])
  .ret)
  .skip))
  (.seq (.ops [⟨(some 4), none, .q (.mov (.c (.sc (.bool true))))⟩])
  .ret)))))))))))
theorem K12 : Try.f12.body.bind (comp Try.prog) = some A12 ∧ Try.f12.ntmps = 34 ∧ Try.f12.results.toList.mapM (resB Try.prog) = some [.mov (.t 4)] := ⟨by kernel_rfl, by kernel_rfl, by kernel_rfl⟩
theorem R12 (aR : Run) (haR : Run.ty.ok aR) (aTask : ByteArray) (haTask : Ty.str.ok aTask) : Ret Try.prog 12 [.agg (Run.ty.cs aR), .sc (.string aTask)] (.sc (.bool true)) [.un, .un] := by
  by_cases gaTask : (1048576 : Int) < aTask.size
  · refine Ret.run Try.func12 K12 (by simp) rfl rfl 900 ?_
    simp [A12, iniρ, over, Run.cse, World.cse, Plan.cse, Run.oce, World.oce, Plan.oce, gaTask]
  obtain ⟨m0, e0, q0⟩ := R53 aR haR 1048576 (by omega) (by omega)
  by_cases n0 : m0 < 0
  · refine Ret.run Try.func12 K12 (by simp) rfl rfl 900 ?_
    simp [A12, iniρ, over, Run.cse, World.cse, Plan.cse, Run.oce, World.oce, Plan.oce, gaTask, n0]
    refine callK.ro 0 rfl (by kernel_rfl) (by simp [roc_sc, roc_ro, roc_em, roc_agg, Run.cse, World.cse, Plan.cse, Run.oce, World.oce, Plan.oce, gaTask, n0]) q0 rfl rfl rfl ?_
    simp [over, Run.cse, World.cse, Plan.cse, Run.oce, World.oce, Plan.oce, gaTask, n0]
  have e0 := e0.resolve_left n0
  refine Ret.run Try.func12 K12 (by simp) rfl rfl 900 ?_
  simp [A12, iniρ, over, Run.cse, World.cse, Plan.cse, Run.oce, World.oce, Plan.oce, gaTask, n0]
  refine callK.ro 0 rfl (by kernel_rfl) (by simp [roc_sc, roc_ro, roc_em, roc_agg, Run.cse, World.cse, Plan.cse, Run.oce, World.oce, Plan.oce, gaTask, n0]) q0 rfl rfl rfl ?_
  simp [over, merge_nil, hideH_nil, Run.cse, World.cse, Plan.cse, Run.oce, World.oce, Plan.oce, gaTask, n0]
  refine callK.ro 602 rfl (by kernel_rfl) (by simp [roc_sc, roc_ro, roc_em, roc_agg, Run.cse, World.cse, Plan.cse, Run.oce, World.oce, Plan.oce, gaTask, n0]) (R55 aR haR) (by simpa [flt] using Run.ty.flL aR) (by simp [inst, instL, Run.oce, upd_app]; exact ⟨rfl, rfl⟩) rfl ?_
  simp [over, merge_nil, hideH_nil, Run.cse, World.cse, Plan.cse, Run.oce, World.oce, Plan.oce, gaTask, n0]
  refine callK.ro 0 rfl (by kernel_rfl) (by simp [roc_sc, roc_ro, roc_em, roc_agg, roc_agg8, List.mapM_cons, List.mapM_nil, Pack.roc7, Rule.roc7, File.roc7, Env.roc7, str_roc7, strs_roc7, Made.roc7, Mark.roc7, Slot.roc7, Run.cse, World.cse, Plan.cse, Run.oce, World.oce, Plan.oce, gaTask, n0]) (R58 aR haR aTask) rfl rfl rfl ?_
  simp [over, merge_nil, hideH_nil, Run.cse, World.cse, Plan.cse, Run.oce, World.oce, Plan.oce, gaTask, n0]
  refine callK.ro 604 rfl (by kernel_rfl) (by simp [roc_sc, roc_ro, roc_em, roc_agg, Run.cse, World.cse, Plan.cse, Run.oce, World.oce, Plan.oce, gaTask, n0]) (R55 aR haR) (by simpa [flt] using Run.ty.flL aR) (by simp [inst, instL, Run.oce, upd_app]; exact ⟨rfl, rfl⟩) rfl ?_
  simp [over, merge_nil, hideH_nil, Run.cse, World.cse, Plan.cse, Run.oce, World.oce, Plan.oce, gaTask, n0]
  refine callK.ro 0 rfl (by kernel_rfl) (by simp [roc_sc, roc_ro, roc_em, roc_agg, roc_agg8, List.mapM_cons, List.mapM_nil, Pack.roc7, Rule.roc7, File.roc7, Env.roc7, str_roc7, strs_roc7, Made.roc7, Mark.roc7, Slot.roc7, Run.cse, World.cse, Plan.cse, Run.oce, World.oce, Plan.oce, gaTask, n0]) (R59 aR haR aTask) rfl rfl rfl ?_
  simp [over, merge_nil, hideH_nil, Run.cse, World.cse, Plan.cse, Run.oce, World.oce, Plan.oce, gaTask, n0]
  refine T.textW 400 [([], [607000, 607001, 607002, 607003, 607004, 607005, 607008, 607009, 607010, 607011]), ([], []), ([607000, 607001, 607002, 607003, 607004, 607005, 607008, 607009, 607010, 607011], []), ([], []), ([], [])] mixed (by kernel_rfl) (by kernel_rfl) ?_
  simp [over, merge_nil, hideH_nil, Run.cse, World.cse, Plan.cse, Run.oce, World.oce, Plan.oce, gaTask, n0]
  refine callWK.ro 606 rfl (by kernel_rfl) (by simp [roc_sc, roc_ro, roc_em, roc_agg, Run.cse, World.cse, Plan.cse, Run.oce, World.oce, Plan.oce, gaTask, n0]) (R55 aR haR) (by simpa [flt] using Run.ty.flL aR) (by simp [inst, instL, Run.oce, upd_app]; exact ⟨rfl, rfl⟩) (by rfl) ?_
  simp [over, merge_nil, hideH_nil, Run.cse, World.cse, Plan.cse, Run.oce, World.oce, Plan.oce, gaTask, n0]
  refine callWK.ro 0 rfl (by kernel_rfl) (by simp [roc_sc, roc_ro, roc_em, roc_agg, roc_agg8, List.mapM_cons, List.mapM_nil, Pack.roc7, Rule.roc7, File.roc7, Env.roc7, str_roc7, strs_roc7, Made.roc7, Mark.roc7, Slot.roc7, Run.cse, World.cse, Plan.cse, Run.oce, World.oce, Plan.oce, gaTask, n0]) (R57 aR haR) rfl rfl (by rfl) ?_
  simp [over, merge_nil, hideH_nil, Run.cse, World.cse, Plan.cse, Run.oce, World.oce, Plan.oce, gaTask, n0]
/- 11: loop.example/g00464/laws.FnExactCounted -/
def A11 : AC := (.seq (.ops [⟨(some 2), none, .w (.box (.t 0))⟩, ⟨(some 4), none, .q (.mov (.c (.sc (.bool false))))⟩])
  (.seq (.ops [⟨(some 5), none, .q (.mov (.c (.sc (.int .i64 1048576))))⟩])
  (.seq (.ops [⟨(some 9), none, .q (.load true 12 (.t 2))⟩, ⟨(some 10), none, .q (.mov (.t 5))⟩, ⟨(some 11), none, .c (.c (.clo 53 [])) [(.t 9), (.t 10)]⟩, ⟨(some 5), none, .q (.mov (.t 11))⟩])
  (.seq (.seq (.ops [⟨(some 12), none, .q (.mov (.t 5))⟩, ⟨(some 13), none, .q (.bin .lss (.t 12) (.c (.sc (.int .i64 0))))⟩])
  (.cond (.t 13) (.seq (.ops [⟨(some 4), none, .q (.mov (.c (.sc (.bool true))))⟩])
  .ret)
  .skip))
  (.seq (.ops [⟨(some 14), none, .q (.load true 12 (.t 2))⟩, ⟨(some 15), none, .c (.c (.clo 55 [])) [(.t 14)]⟩, ⟨(some 16), none, .q (.mov (.t 1))⟩, ⟨(some 17), none, .c (.c (.clo 54 [])) [(.t 15), (.t 16)]⟩, ⟨(some 6), none, .q (.mov (.t 17))⟩])
  (.seq (.ops [⟨(some 18), none, .q (.load true 12 (.t 2))⟩, ⟨(some 19), none, .c (.c (.clo 55 [])) [(.t 18)]⟩, ⟨(some 7), none, .w (.alloc [.em, .em, .em, .em, .em, .em, (.sc (.int .i64 0)), (.sc (.bool false)), .em, .em, .em, .em])⟩, ⟨none, none, .w (.store 12 (.t 7) (.t 19))⟩])
  (.seq (.ops [⟨(some 20), none, .q (.load true 12 (.t 7))⟩, ⟨(some 21), none, .q (.mov (.t 1))⟩, ⟨(some 22), none, .c (.c (.clo 56 [])) [(.t 20), (.t 21)]⟩, ⟨(some 8), none, .q (.mov (.t 22))⟩])
  (.seq (.seq (.ops [⟨(some 23), none, .q (.mov (.t 8))⟩, ⟨(some 24), none, .q (.mov (.t 6))⟩, ⟨(some 25), none, .q (.bin .neq (.t 23) (.t 24))⟩])
  (.cond (.t 25) (.seq (.ops [⟨(some 4), none, .q (.mov (.c (.sc (.bool false))))⟩])
  .ret)
  .skip))
  (.seq (.seq (.any [(⟨(some 26), none, .q (.load true 12 (.t 7))⟩, []), (⟨(some 27), none, .q (.load true 12 (.t 2))⟩, []), (⟨(some 28), none, .c (.c (.clo 55 [])) [(.t 27)]⟩, [1]), (⟨(some 29), none, .c (.c (.clo 57 [])) [(.t 26), (.t 28)]⟩, [0, 2, 2]), (⟨(some 30), none, .q (.not (.t 29))⟩, [3])])
  (.cond (.t 30) (.seq (.ops [⟨(some 4), none, .q (.mov (.c (.sc (.bool false))))⟩])
  .ret)
  .skip))
  (.seq (.ops [⟨(some 4), none, .q (.mov (.c (.sc (.bool true))))⟩])
  .ret))))))))))
theorem K11 : Try.f11.body.bind (comp Try.prog) = some A11 ∧ Try.f11.ntmps = 31 ∧ Try.f11.results.toList.mapM (resB Try.prog) = some [.mov (.t 4)] := ⟨by kernel_rfl, by kernel_rfl, by kernel_rfl⟩
theorem R11 (aR : Run) (haR : Run.ty.ok aR) (aHow : Int) (haHow : Ty.int.ok aHow) : Ret Try.prog 11 [.agg (Run.ty.cs aR), .sc (.int .i64 aHow)] (.sc (.bool true)) [.un, .un] := by
  obtain ⟨m0, e0, q0⟩ := R53 aR haR 1048576 (by omega) (by omega)
  by_cases n0 : m0 < 0
  · refine Ret.run Try.func11 K11 (by simp) rfl rfl 900 ?_
    simp [A11, iniρ, over, Run.cse, World.cse, Plan.cse, Run.oce, World.oce, Plan.oce, n0]
    refine callK.ro 0 rfl (by kernel_rfl) (by simp [roc_sc, roc_ro, roc_em, roc_agg, Run.cse, World.cse, Plan.cse, Run.oce, World.oce, Plan.oce, n0]) q0 rfl rfl rfl ?_
    simp [over, Run.cse, World.cse, Plan.cse, Run.oce, World.oce, Plan.oce, n0]
  have e0 := e0.resolve_left n0
  refine Ret.run Try.func11 K11 (by simp) rfl rfl 900 ?_
  simp [A11, iniρ, over, Run.cse, World.cse, Plan.cse, Run.oce, World.oce, Plan.oce, n0]
  refine callK.ro 0 rfl (by kernel_rfl) (by simp [roc_sc, roc_ro, roc_em, roc_agg, Run.cse, World.cse, Plan.cse, Run.oce, World.oce, Plan.oce, n0]) q0 rfl rfl rfl ?_
  simp [over, merge_nil, hideH_nil, Run.cse, World.cse, Plan.cse, Run.oce, World.oce, Plan.oce, n0]
  refine callK.ro 602 rfl (by kernel_rfl) (by simp [roc_sc, roc_ro, roc_em, roc_agg, Run.cse, World.cse, Plan.cse, Run.oce, World.oce, Plan.oce, n0]) (R55 aR haR) (by simpa [flt] using Run.ty.flL aR) (by simp [inst, instL, Run.oce, upd_app]; exact ⟨rfl, rfl⟩) rfl ?_
  simp [over, merge_nil, hideH_nil, Run.cse, World.cse, Plan.cse, Run.oce, World.oce, Plan.oce, n0]
  refine callK.ro 0 rfl (by kernel_rfl) (by simp [roc_sc, roc_ro, roc_em, roc_agg, roc_agg8, List.mapM_cons, List.mapM_nil, Pack.roc7, Rule.roc7, File.roc7, Env.roc7, str_roc7, strs_roc7, Made.roc7, Mark.roc7, Slot.roc7, Run.cse, World.cse, Plan.cse, Run.oce, World.oce, Plan.oce, n0]) (R54 aR haR aHow) rfl rfl rfl ?_
  simp [over, merge_nil, hideH_nil, Run.cse, World.cse, Plan.cse, Run.oce, World.oce, Plan.oce, n0]
  refine callK.ro 604 rfl (by kernel_rfl) (by simp [roc_sc, roc_ro, roc_em, roc_agg, Run.cse, World.cse, Plan.cse, Run.oce, World.oce, Plan.oce, n0]) (R55 aR haR) (by simpa [flt] using Run.ty.flL aR) (by simp [inst, instL, Run.oce, upd_app]; exact ⟨rfl, rfl⟩) rfl ?_
  simp [over, merge_nil, hideH_nil, Run.cse, World.cse, Plan.cse, Run.oce, World.oce, Plan.oce, n0]
  refine callK.ro 0 rfl (by kernel_rfl) (by simp [roc_sc, roc_ro, roc_em, roc_agg, roc_agg8, List.mapM_cons, List.mapM_nil, Pack.roc7, Rule.roc7, File.roc7, Env.roc7, str_roc7, strs_roc7, Made.roc7, Mark.roc7, Slot.roc7, Run.cse, World.cse, Plan.cse, Run.oce, World.oce, Plan.oce, n0]) (R56 aR haR aHow) rfl rfl rfl ?_
  simp [over, merge_nil, hideH_nil, Run.cse, World.cse, Plan.cse, Run.oce, World.oce, Plan.oce, n0]
  refine T.textW 400 [([], [607000, 607001, 607002, 607003, 607004, 607005, 607008, 607009, 607010, 607011]), ([], []), ([607000, 607001, 607002, 607003, 607004, 607005, 607008, 607009, 607010, 607011], []), ([], []), ([], [])] mixed (by kernel_rfl) (by kernel_rfl) ?_
  simp [over, merge_nil, hideH_nil, Run.cse, World.cse, Plan.cse, Run.oce, World.oce, Plan.oce, n0]
  refine callWK.ro 606 rfl (by kernel_rfl) (by simp [roc_sc, roc_ro, roc_em, roc_agg, Run.cse, World.cse, Plan.cse, Run.oce, World.oce, Plan.oce, n0]) (R55 aR haR) (by simpa [flt] using Run.ty.flL aR) (by simp [inst, instL, Run.oce, upd_app]; exact ⟨rfl, rfl⟩) (by rfl) ?_
  simp [over, merge_nil, hideH_nil, Run.cse, World.cse, Plan.cse, Run.oce, World.oce, Plan.oce, n0]
  refine callWK.ro 0 rfl (by kernel_rfl) (by simp [roc_sc, roc_ro, roc_em, roc_agg, roc_agg8, List.mapM_cons, List.mapM_nil, Pack.roc7, Rule.roc7, File.roc7, Env.roc7, str_roc7, strs_roc7, Made.roc7, Mark.roc7, Slot.roc7, Run.cse, World.cse, Plan.cse, Run.oce, World.oce, Plan.oce, n0]) (R57 aR haR) rfl rfl (by rfl) ?_
  simp [over, merge_nil, hideH_nil, Run.cse, World.cse, Plan.cse, Run.oce, World.oce, Plan.oce, n0]
end Go.Proofs.Ytadoadomogceiaa.Am
