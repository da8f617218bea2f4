/- The functions of the program, each by its contract: LawCrash; no condition. -/
import Derived.Test.YtadoadomogceiaaProg
import Derived.Test.YtadoadomogceiaaAmZ
import Derived.Test.YtadoadomogceiaaAmP
import Derived.Test.YtadoadomogceiaaDocs5
import Derived.Test.YtadoadomogceiaaLawSettle
import Derived.KernelRfl
namespace Go.Proofs.Ytadoadomogceiaa.Am
open Go Go.Proofs
set_option linter.unusedSimpArgs false
set_option linter.unusedVariables false
attribute [local congr] T_congr callK_congr callWK_congr
attribute [local simp] run_nil run_op0 run_opg run_seq run_cond run_block run_ret run_skip run_skip_after run_skip_blk run_exit run_exit_after run_exit_blk run_loop run_any runS_nil runS_op0 runS_opg runW_nil runW_op0 runW_opg exec_q exec_w exec_c exec_n execW_q execW_w execW_c restW_app hideH_app merge_app wblk rest_app restS_app execS_q execS_c aval dOk upd_app ev_t ev_c setO_some setO_none put_mk pinsOf isIo hasIo sbin endR fin resL one outL out1 clo1 cloL coe coeL shut shut.shutL wantA weff cellsOf fillA deref natOf ρ0_app h0_app plain plain.plainL keep_app keepH_app andThen_normal andThen_ret andThen_exit pop_nil pop_after pop_after_ret pop_after_exit pop_blk pop_blk_ret pop_blk_exit nilA srcOf srcCells keepR_app keepHR_app renA rb
/- 9: loop.example/g00464/laws.FnExactCrash -/
def A9 : AC := (.seq (.ops [⟨(some 2), none, .w (.box (.t 0))⟩, ⟨(some 4), none, .q (.mov (.c (.sc (.bool false))))⟩])
  (.seq (.ops [⟨(some 5), none, .q (.mov (.c (.sc (.int .i64 1048576))))⟩])
  (.seq (.ops [⟨(some 13), none, .q (.load true 2 (.t 2))⟩, ⟨(some 14), none, .q (.mov (.t 5))⟩, ⟨(some 15), none, .c (.c (.clo 25 [])) [(.t 13), (.t 14)]⟩, ⟨(some 5), none, .q (.mov (.t 15))⟩])
  (.seq (.seq (.ops [⟨(some 16), none, .q (.mov (.t 5))⟩, ⟨(some 17), none, .q (.bin .lss (.t 16) (.c (.sc (.int .i64 0))))⟩])
  (.cond (.t 17) (.seq (.ops [⟨(some 4), none, .q (.mov (.c (.sc (.bool true))))⟩])
  .ret)
  .skip))
  (.seq (.ops [⟨(some 18), none, .q (.load true 2 (.t 2))⟩, ⟨(some 19), none, .c (.c (.clo 27 [])) [(.t 18)]⟩, ⟨(some 20), none, .q (.mov (.t 1))⟩, ⟨(some 21), none, .c (.c (.clo 49 [])) [(.t 19), (.t 20)]⟩, ⟨(some 6), none, .w (.alloc [.em, .em])⟩, ⟨none, none, .w (.store 2 (.t 6) (.t 21))⟩])
  (.seq (.ops [⟨(some 22), none, .q (.load true 2 (.t 2))⟩, ⟨(some 23), none, .c (.c (.clo 27 [])) [(.t 22)]⟩, ⟨(some 7), none, .w (.alloc [.em, .em])⟩, ⟨none, none, .w (.store 2 (.t 7) (.t 23))⟩])
  (.seq (.ops [⟨(some 24), none, .q (.load true 2 (.t 7))⟩, ⟨(some 25), none, .q (.mov (.t 1))⟩, ⟨(some 26), none, .c (.c (.clo 48 [])) [(.t 24), (.t 25)]⟩, ⟨(some 8), none, .w (.alloc [.em, .em])⟩, ⟨none, none, .w (.store 2 (.t 8) (.t 26))⟩])
  (.seq (.seq (.ops [⟨(some 27), none, .q (.load true 2 (.t 8))⟩, ⟨(some 28), none, .q (.load true 2 (.t 6))⟩, ⟨(some 29), none, .c (.c (.clo 29 [])) [(.t 27), (.t 28)]⟩, ⟨(some 30), none, .q (.not (.t 29))⟩])
  (.cond (.t 30) (.seq (.ops [⟨(some 4), none, .q (.mov (.c (.sc (.bool false))))⟩])
  .ret)
  .skip))
  (.seq (.seq (.any [(⟨(some 31), none, .q (.load true 2 (.t 7))⟩, []), (⟨(some 32), none, .q (.load true 2 (.t 2))⟩, []), (⟨(some 33), none, .c (.c (.clo 27 [])) [(.t 32)]⟩, [1]), (⟨(some 34), none, .c (.c (.clo 29 [])) [(.t 31), (.t 33)]⟩, [0, 2, 2]), (⟨(some 35), none, .q (.not (.t 34))⟩, [3])])
  (.cond (.t 35) (.seq (.ops [⟨(some 4), none, .q (.mov (.c (.sc (.bool false))))⟩])
  .ret)
  .skip))
  (.seq (.ops [⟨(some 9), none, .q (.mov (.c (.sc (.int .i64 1))))⟩])
  (.seq (.ops [⟨(some 36), none, .q (.load true 2 (.t 7))⟩, ⟨(some 37), none, .q (.mov (.t 9))⟩, ⟨(some 38), none, .c (.c (.clo 33 [])) [(.t 36), (.t 37)]⟩, ⟨(some 9), none, .q (.mov (.t 38))⟩])
  (.seq (.seq (.ops [⟨(some 39), none, .q (.mov (.t 9))⟩, ⟨(some 40), none, .q (.bin .lss (.t 39) (.c (.sc (.int .i64 0))))⟩, ⟨(some 41), none, .q (.mov (.t 40))⟩, ⟨(some 42), (some (41, false)), .q (.load true 2 (.t 8))⟩, ⟨(some 43), (some (41, false)), .q (.load true 2 (.t 6))⟩, ⟨(some 44), (some (41, false)), .c (.c (.clo 29 [])) [(.t 42), (.t 43)]⟩, ⟨(some 45), (some (41, false)), .q (.not (.t 44))⟩, ⟨(some 46), none, .q (.pick (.t 41) (.c (.sc (.bool true))) (.t 45))⟩])
  (.cond (.t 46) (.seq (.ops [⟨(some 4), none, .q (.mov (.c (.sc (.bool false))))⟩])
  .ret)
  .skip))
  (.seq (.ops [⟨(some 10), none, .q (.mov (.c (.sc (.int .i64 1))))⟩])
  (.seq (.ops [⟨(some 47), none, .q (.load true 2 (.t 8))⟩, ⟨(some 48), none, .q (.mov (.t 10))⟩, ⟨(some 49), none, .c (.c (.clo 33 [])) [(.t 47), (.t 48)]⟩, ⟨(some 10), none, .q (.mov (.t 49))⟩])
  (.seq (.ops [⟨(some 11), none, .q (.mov (.c (.sc (.int .i64 1))))⟩])
  (.seq (.ops [⟨(some 50), none, .q (.load true 2 (.t 8))⟩, ⟨(some 51), none, .q (.mov (.t 11))⟩, ⟨(some 52), none, .c (.c (.clo 52 [])) [(.t 50), (.t 51)]⟩, ⟨(some 11), none, .q (.mov (.t 52))⟩])
  (.seq (.seq (.ops [⟨(some 53), none, .q (.mov (.t 11))⟩, ⟨(some 54), none, .q (.bin .lss (.t 53) (.c (.sc (.int .i64 0))))⟩])
  (.cond (.t 54) (.seq (.ops [⟨(some 4), none, .q (.mov (.c (.sc (.bool false))))⟩])
  .ret)
  .skip))
  (.seq (.seq (.ops [⟨(some 55), none, .q (.mov (.t 11))⟩, ⟨(some 56), none, .q (.mov (.t 10))⟩, ⟨(some 57), none, .q (.bin .neq (.t 55) (.t 56))⟩])
  (.cond (.t 57) (.seq (.ops [⟨(some 4), none, .q (.mov (.c (.sc (.bool false))))⟩])
  .ret)
  .skip))
  (.seq (.ops [⟨(some 58), none, .q (.load true 2 (.t 2))⟩, ⟨(some 59), none, .c (.c (.clo 27 [])) [(.t 58)]⟩, ⟨(some 60), none, .q (.mov (.t 1))⟩, ⟨(some 61), none, .c (.c (.clo 48 [])) [(.t 59), (.t 60)]⟩, ⟨(some 12), none, .w (.alloc [.em, .em])⟩, ⟨none, none, .w (.store 2 (.t 12) (.t 61))⟩])
  (.seq (.seq (.ops [⟨(some 62), none, .q (.load true 2 (.t 12))⟩, ⟨(some 63), none, .q (.load true 2 (.t 6))⟩, ⟨(some 64), none, .c (.c (.clo 29 [])) [(.t 62), (.t 63)]⟩, ⟨(some 65), none, .q (.not (.t 64))⟩])
  (.cond (.t 65) (.seq (.ops [⟨(some 4), none, .q (.mov (.c (.sc (.bool false))))⟩])
  .ret)
  .skip))
  (.seq (.ops [⟨(some 11), none, .q (.mov (.c (.sc (.int .i64 1))))⟩])
  (.seq (.ops [⟨(some 66), none, .q (.load true 2 (.t 8))⟩, ⟨(some 67), none, .q (.mov (.t 11))⟩, ⟨(some 68), none, .c (.c (.clo 52 [])) [(.t 66), (.t 67)]⟩, ⟨(some 11), none, .q (.mov (.t 68))⟩])
  (.seq (.seq (.ops [⟨(some 69), none, .q (.mov (.t 11))⟩, ⟨(some 70), none, .q (.bin .lss (.t 69) (.c (.sc (.int .i64 0))))⟩])
  (.cond (.t 70) (.seq (.ops [⟨(some 4), none, .q (.mov (.c (.sc (.bool false))))⟩])
  .ret)
  .skip))
  (.seq (.seq (.ops [⟨(some 71), none, .q (.mov (.t 11))⟩, ⟨(some 72), none, .q (.mov (.t 10))⟩, ⟨(some 73), none, .q (.bin .neq (.t 71) (.t 72))⟩])
  (.cond (.t 73) (.seq (.ops [⟨(some 4), none, .q (.mov (.c (.sc (.bool false))))⟩])
  .ret)
  .skip))
  (.seq (.ops [⟨(some 4), none, .q (.mov (.c (.sc (.bool true))))⟩])
  .ret)))))))))))))))))))))))))
theorem K9 : Try.f9.body.bind (comp Try.prog) = some A9 ∧ Try.f9.ntmps = 74 ∧ Try.f9.results.toList.mapM (resB Try.prog) = some [.mov (.t 4)] := ⟨by kernel_rfl, by kernel_rfl, by kernel_rfl⟩
set_option maxHeartbeats 2000000 in
set_option maxRecDepth 100000 in
theorem R9 (aD : Disk) (haD : Disk.ty.ok aD) (aKeep : Int) (haK : Ty.int.ok aKeep) : Ret Try.prog 9 [.agg (Disk.ty.cs aD), .sc (.int .i64 aKeep)] (.sc (.bool true)) [.un, .un] := by
  obtain ⟨m0, e0, q0⟩ := R25 aD haD 1048576 (by omega) (by omega)
  by_cases n0 : m0 < 0
  · refine Ret.run Try.func9 K9 (by simp) rfl rfl 900 ?_
    simp [A9, iniρ, over, Disk.cse, Disk.oce, n0]
    refine callK.ro 0 rfl (by kernel_rfl) (by simp [roc_sc, roc_ro, roc_em, roc_agg, Disk.cse, Disk.oce, n0]) q0 rfl rfl rfl ?_
    simp [over, Disk.cse, Disk.oce, n0]
  have e0 := e0.resolve_left n0
  rw [Disk.wte] at e0
  have hlen : aD.sure.length + aD.pend.length ≤ 1048576 := by omega
  have htt : aD.tot = 2 * aD.sure.length + 3 * aD.pend.length := rfl
  obtain ⟨Y, hY⟩ : ∃ Y, Y = crashF aD aKeep := ⟨_, rfl⟩
  have yo : Disk.ty.ok Y := by rw [hY]; exact crash_ok haD aKeep
  have yl : Y.sure.length ≤ 1048582 ∧ Y.pend.length ≤ 1048580 := by rw [hY]; exact crash_len aKeep hlen
  have ytt : Y.tot = 2 * Y.sure.length + 3 * Y.pend.length := rfl
  have rs := R49 aD aKeep haD
  have ri := R48 aD aKeep haD
  rw [← hY] at rs ri
  have fy : flt (.agg (Disk.ty.oc Y)) = true := by simpa [flt] using Disk.ty.flL Y
  have re := R29 Y yo
  have rm := R33 Y 1 (by omega) (by omega)
  have rh := R52 Y 1 (by omega) (by omega)
  have rd := R33 aD 1 (by omega) (by omega)
  obtain ⟨zm, hzm⟩ : ∃ z : Int, z = ((1 + Y.tot : Nat) : Int) := ⟨_, rfl⟩
  obtain ⟨zd, hzd⟩ : ∃ z : Int, z = ((1 + aD.tot : Nat) : Int) := ⟨_, rfl⟩
  rw [← hzm] at rm rh
  rw [← hzd] at rd
  have pm : ¬ (zm < 0) := by omega
  have pd : ¬ (zd < 0) := by omega
  have n1 : (Y.mk1 1).length = Y.sure.length := by rw [Disk.mk1, mkL_len]
  have n2 : (Y.mk2 1).length = Y.pend.length := by rw [Disk.mk2, mkL_len]
  simp only [Disk.cse, Disk.mkd, n1, n2] at rh
  simp only [Int.natCast_one] at rm rh rd
  have l1 : (rows Doc.ty.oc (aD.mk1 1)).length = (rows Doc.ty.oc aD.sure).length := by rw [Doc.ocl, Doc.ocl, Disk.mk1, mkL_len]
  have l2 : (rows Op.ty.oc (aD.mk2 1)).length = (rows Op.ty.oc aD.pend).length := by rw [Op.ocl, Op.ocl, Disk.mk2, mkL_len]
  have l3 : (rows Doc.ty.oc (Y.mk1 1)).length = (rows Doc.ty.oc Y.sure).length := by rw [Doc.ocl, Doc.ocl, n1]
  have l4 : (rows Op.ty.oc (Y.mk2 1)).length = (rows Op.ty.oc Y.pend).length := by rw [Op.ocl, Op.ocl, n2]
  have f1 : flt.fltL (rows Doc.ty.oc (aD.mk1 1)) = true := fltL_rows (fun x c hc => (Doc.ty.ow x c hc).fl) _
  have f2 : flt.fltL (rows Op.ty.oc (aD.mk2 1)) = true := fltL_rows (fun x c hc => (Op.ty.ow x c hc).fl) _
  have f3 : flt.fltL (rows Doc.ty.oc (Y.mk1 1)) = true := fltL_rows (fun x c hc => (Doc.ty.ow x c hc).fl) _
  have f4 : flt.fltL (rows Op.ty.oc (Y.mk2 1)) = true := fltL_rows (fun x c hc => (Op.ty.ow x c hc).fl) _
  have fo : flt (.agg (Disk.ty.oc aD)) = true := by simpa [flt] using Disk.ty.flL aD
  refine Ret.run Try.func9 K9 (by simp) rfl rfl 900 ?_
  simp [A9, iniρ, over, Disk.cse, Disk.oce]
  refine callK.ro 0 rfl (by kernel_rfl) (by simp [roc_sc, roc_ro, roc_em, roc_agg, Disk.cse]) q0 rfl rfl rfl ?_
  simp [n0]
  refine callK.ro 611 rfl (by kernel_rfl) (by simp [roc_sc, roc_ro, roc_em, roc_agg, Disk.cse]) (R27 aD haD) fo (by simp [inst, instL, Disk.oce, upd_app]; exact ⟨rfl, rfl⟩) rfl ?_
  simp
  refine callK.ro 620 rfl (by kernel_rfl) (by simp [roc_sc, roc_ro, roc_em, roc_agg, roc_agg8, List.mapM_cons, List.mapM_nil, Doc.roc7, Op.roc7, Disk.cse]) rs fy (by simp [inst, instL, Disk.oce, upd_app]; exact ⟨rfl, rfl⟩) rfl ?_
  simp [over]
  refine callK.ro 613 rfl (by kernel_rfl) (by simp [roc_sc, roc_ro, roc_em, roc_agg, Disk.cse]) (R27 aD haD) fo (by simp [inst, instL, Disk.oce, upd_app]; exact ⟨rfl, rfl⟩) rfl ?_
  simp [over]
  refine callK.ro 622 rfl (by kernel_rfl) (by simp [roc_sc, roc_ro, roc_em, roc_agg, roc_agg8, List.mapM_cons, List.mapM_nil, Doc.roc7, Op.roc7, Disk.cse]) ri fy (by simp [inst, instL, Disk.oce, upd_app]; exact ⟨rfl, rfl⟩) rfl ?_
  simp [over]
  refine callK.ro 0 rfl (by kernel_rfl) (by simp [roc_sc, roc_ro, roc_em, roc_agg, roc_agg8, List.mapM_cons, List.mapM_nil, Doc.roc7, Op.roc7, Disk.cse]) re rfl rfl rfl ?_
  simp
  refine T.textW 400 [([], [607000, 607001]), ([], []), ([607000, 607001], []), ([], []), ([], [])] mixed (by kernel_rfl) (by kernel_rfl) ?_
  simp [over, merge_nil, hideH_nil]
  refine callWK.ro 606 rfl (by kernel_rfl) (by simp [roc_sc, roc_ro, roc_em, roc_agg, Disk.cse]) (R27 aD haD) fo (by simp [inst, instL, Disk.oce, upd_app]; exact ⟨rfl, rfl⟩) (by rfl) ?_
  simp [over, merge_nil, hideH_nil]
  refine callWK.ro 0 rfl (by kernel_rfl) (by simp [roc_sc, roc_ro, roc_em, roc_agg, roc_agg8, List.mapM_cons, List.mapM_nil, Doc.roc7, Op.roc7, Disk.cse]) (R29 aD haD) rfl rfl (by rfl) ?_
  simp [over, merge_nil, hideH_nil]
  refine callK.io2 614000 614001 rfl (by kernel_rfl) (by simp [upd_app]) (by simp [upd_app]) (by simp [upd_app]) (Doc.ocl _) (Op.ocl _) (Doc.frL _) (Op.frL _) (by decide) (by simp [upd_app]) rfl rd l1 l2 f1 f2 rfl ?_
  simp [pd]
  refine callK.ro 0 rfl (by kernel_rfl) (by simp [roc_sc, roc_ro, roc_em, roc_agg, roc_agg8, List.mapM_cons, List.mapM_nil, Doc.roc7, Op.roc7, Disk.cse]) re rfl rfl rfl ?_
  simp
  refine callK.io2 623000 623001 rfl (by kernel_rfl) (by simp [upd_app]) (by simp [upd_app]) (by simp [upd_app]) (Doc.ocl _) (Op.ocl _) (Doc.frL _) (Op.frL _) (by decide) (by simp [upd_app]) rfl rm l3 l4 f3 f4 rfl ?_
  simp
  refine callK.ro 0 rfl (by kernel_rfl) (by simp [roc_sc, roc_ro, roc_em, roc_agg, roc_agg8, List.mapM_cons, List.mapM_nil, Doc.rocm7 (ms := Y.mk1 1), Op.rocm7 (ms := Y.mk2 1), n1, n2]) rh rfl rfl rfl ?_
  simp [pm]
  refine callK.ro 615 rfl (by kernel_rfl) (by simp [roc_sc, roc_ro, roc_em, roc_agg, Disk.cse]) (R27 aD haD) fo (by simp [inst, instL, Disk.oce, upd_app]; exact ⟨rfl, rfl⟩) rfl ?_
  simp
  refine callK.ro 624 rfl (by kernel_rfl) (by simp [roc_sc, roc_ro, roc_em, roc_agg, roc_agg8, List.mapM_cons, List.mapM_nil, Doc.roc7, Op.roc7, Disk.cse]) ri fy (by simp [inst, instL, Disk.oce, upd_app]; exact ⟨rfl, rfl⟩) rfl ?_
  simp [over]
  refine callK.ro 0 rfl (by kernel_rfl) (by simp [roc_sc, roc_ro, roc_em, roc_agg, roc_agg8, List.mapM_cons, List.mapM_nil, Doc.roc7, Op.roc7, Disk.cse]) re rfl rfl rfl ?_
  simp
  refine callK.ro 0 rfl (by kernel_rfl) (by simp [roc_sc, roc_ro, roc_em, roc_agg, roc_agg8, List.mapM_cons, List.mapM_nil, Doc.rocm7 (ms := Y.mk1 1), Op.rocm7 (ms := Y.mk2 1), n1, n2]) rh rfl rfl rfl ?_
  simp [pm]
end Go.Proofs.Ytadoadomogceiaa.Am
