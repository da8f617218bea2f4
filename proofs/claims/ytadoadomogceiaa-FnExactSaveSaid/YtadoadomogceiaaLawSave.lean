/- The functions of the program, each by its contract: LawSave; no condition. -/
import Derived.Test.YtadoadomogceiaaProg
import Derived.Test.YtadoadomogceiaaAmZ
import Derived.Test.YtadoadomogceiaaAmP
import Derived.Test.YtadoadomogceiaaDocs6
import Derived.Test.YtadoadomogceiaaLawSettle
import Derived.KernelRfl
namespace Go.Proofs.Ytadoadomogceiaa.Am
open Go Go.Proofs
set_option linter.unusedSimpArgs false
set_option linter.unusedVariables false
attribute [local congr] T_congr callK_congr callWK_congr
attribute [local simp] run_nil run_op0 run_opg run_seq run_cond run_block run_ret run_skip run_skip_after run_skip_blk run_exit run_exit_after run_exit_blk run_loop run_any runS_nil runS_op0 runS_opg runW_nil runW_op0 runW_opg exec_q exec_w exec_c exec_n execW_q execW_w execW_c restW_app hideH_app merge_app wblk rest_app restS_app execS_q execS_c aval dOk upd_app ev_t ev_c setO_some setO_none put_mk pinsOf isIo hasIo sbin endR fin resL one outL out1 clo1 cloL coe coeL shut shut.shutL wantA weff cellsOf fillA deref natOf ρ0_app h0_app plain plain.plainL keep_app keepH_app andThen_normal andThen_ret andThen_exit pop_nil pop_after pop_after_ret pop_after_exit pop_blk pop_blk_ret pop_blk_exit nilA srcOf srcCells keepR_app keepHR_app renA rb
theorem stepS_sure (t : ByteArray) (i : Nat) (x : Disk) : (stepS t i x).sure.length ≤ max x.sure.length 6 := by
  unfold stepS
  split
  · show x.sure.length ≤ _; omega
  · split
    · show x.sure.length ≤ _; omega
    · unfold settleF
      split
      · exact docsF_len _ _ _ _
      · omega
theorem saveGo_is {t : ByteArray} (ht : t.size ≤ 400) : ∀ (n i : Nat) (x : Disk), Disk.ty.ok x → x.pend.length ≤ 8 + i → i + n ≤ 4 → Disk.ty.ok (saveGo t n i x) ∧ (saveGo t n i x).pend.length ≤ 12 ∧ (saveGo t n i x).sure.length ≤ max x.sure.length 6
  | 0, i, x, hx, hl, hi => ⟨hx, by show x.pend.length ≤ 12; omega, by show x.sure.length ≤ _; omega⟩
  | n + 1, i, x, hx, hl, hi => by
    obtain ⟨q1, q2⟩ := stepS_is ht hx hl (show i < 4 by omega)
    obtain ⟨r1, r2, r3⟩ := saveGo_is ht n (i + 1) (stepS t i x) q1 q2 (by omega)
    have := stepS_sure t i x
    exact ⟨r1, r2, by simp only [saveGo]; omega⟩
theorem save_ok {d : Disk} (hd : Disk.ty.ok d) (t : ByteArray) (s : Int) : Disk.ty.ok (saveF d t s) := by
  unfold saveF
  split
  · rename_i h
    exact (saveGo_is h.2.2 (stepsN s) 0 d hd (by have := h.2.1; omega) (by have := stepsN_le s; omega)).1
  · exact hd
theorem save_len {d : Disk} (hd : Disk.ty.ok d) (t : ByteArray) (s : Int) (h : d.sure.length + d.pend.length ≤ 1048576) : (saveF d t s).sure.length ≤ 1048582 ∧ (saveF d t s).pend.length ≤ 1048580 := by
  unfold saveF
  split
  · rename_i h1
    obtain ⟨_, r2, r3⟩ := saveGo_is h1.2.2 (stepsN s) 0 d hd (by have := h1.2.1; omega) (by have := stepsN_le s; omega)
    omega
  · omega
/- 10: loop.example/g00464/laws.FnExactSave -/
def A10 : AC := (.seq (.ops [⟨(some 3), none, .w (.box (.t 0))⟩, ⟨(some 6), none, .q (.mov (.c (.sc (.bool false))))⟩])
  (.seq (.seq (.ops [⟨(some 15), none, .q (.mov (.t 1))⟩, ⟨(some 16), none, .q (.slen (.t 15))⟩, ⟨(some 17), none, .q (.bin .gtr (.t 16) (.c (.sc (.int .i64 1048576))))⟩])
  (.cond (.t 17) (.seq (.ops [⟨(some 6), none, .q (.mov (.c (.sc (.bool true))))⟩])
  .ret)
  .skip))
  (.seq (.ops [⟨(some 7), none, .q (.mov (.c (.sc (.int .i64 1048576))))⟩])
  (.seq (.ops [⟨(some 18), none, .q (.load true 2 (.t 3))⟩, ⟨(some 19), none, .q (.mov (.t 7))⟩, ⟨(some 20), none, .c (.c (.clo 25 [])) [(.t 18), (.t 19)]⟩, ⟨(some 7), none, .q (.mov (.t 20))⟩])
  (.seq (.seq (.ops [⟨(some 21), none, .q (.mov (.t 7))⟩, ⟨(some 22), none, .q (.bin .lss (.t 21) (.c (.sc (.int .i64 0))))⟩])
  (.cond (.t 22) (.seq (.ops [⟨(some 6), none, .q (.mov (.c (.sc (.bool true))))⟩])
  .ret)
  .skip))
  (.seq (.ops [⟨(some 23), none, .q (.load true 2 (.t 3))⟩, ⟨(some 24), none, .c (.c (.clo 27 [])) [(.t 23)]⟩, ⟨(some 25), none, .q (.mov (.t 1))⟩, ⟨(some 26), none, .q (.mov (.t 2))⟩, ⟨(some 27), none, .c (.c (.clo 51 [])) [(.t 24), (.t 25), (.t 26)]⟩, ⟨(some 8), none, .w (.alloc [.em, .em])⟩, ⟨none, none, .w (.store 2 (.t 8) (.t 27))⟩])
  (.seq (.ops [⟨(some 28), none, .q (.load true 2 (.t 3))⟩, ⟨(some 29), none, .c (.c (.clo 27 [])) [(.t 28)]⟩, ⟨(some 9), none, .w (.alloc [.em, .em])⟩, ⟨none, none, .w (.store 2 (.t 9) (.t 29))⟩])
  (.seq (.ops [⟨(some 30), none, .q (.load true 2 (.t 9))⟩, ⟨(some 31), none, .q (.mov (.t 1))⟩, ⟨(some 32), none, .q (.mov (.t 2))⟩, ⟨(some 33), none, .c (.c (.clo 50 [])) [(.t 30), (.t 31), (.t 32)]⟩, ⟨(some 10), none, .w (.alloc [.em, .em])⟩, ⟨none, none, .w (.store 2 (.t 10) (.t 33))⟩])
  (.seq (.seq (.ops [⟨(some 34), none, .q (.load true 2 (.t 10))⟩, ⟨(some 35), none, .q (.load true 2 (.t 8))⟩, ⟨(some 36), none, .c (.c (.clo 29 [])) [(.t 34), (.t 35)]⟩, ⟨(some 37), none, .q (.not (.t 36))⟩])
  (.cond (.t 37) (.seq (.ops [⟨(some 6), none, .q (.mov (.c (.sc (.bool false))))⟩])
  .ret)
  .skip))
  (.seq (.seq (.any [(⟨(some 38), none, .q (.load true 2 (.t 9))⟩, []), (⟨(some 39), none, .q (.load true 2 (.t 3))⟩, []), (⟨(some 40), none, .c (.c (.clo 27 [])) [(.t 39)]⟩, [1]), (⟨(some 41), none, .c (.c (.clo 29 [])) [(.t 38), (.t 40)]⟩, [0, 2, 2]), (⟨(some 42), none, .q (.not (.t 41))⟩, [3])])
  (.cond (.t 42) (.seq (.ops [⟨(some 6), none, .q (.mov (.c (.sc (.bool false))))⟩])
  .ret)
  .skip))
  (.seq (.ops [⟨(some 11), none, .q (.mov (.c (.sc (.int .i64 1))))⟩])
  (.seq (.ops [⟨(some 43), none, .q (.load true 2 (.t 9))⟩, ⟨(some 44), none, .q (.mov (.t 11))⟩, ⟨(some 45), none, .c (.c (.clo 33 [])) [(.t 43), (.t 44)]⟩, ⟨(some 11), none, .q (.mov (.t 45))⟩])
  (.seq (.seq (.ops [⟨(some 46), none, .q (.mov (.t 11))⟩, ⟨(some 47), none, .q (.bin .lss (.t 46) (.c (.sc (.int .i64 0))))⟩, ⟨(some 48), none, .q (.mov (.t 47))⟩, ⟨(some 49), (some (48, false)), .q (.load true 2 (.t 10))⟩, ⟨(some 50), (some (48, false)), .q (.load true 2 (.t 8))⟩, ⟨(some 51), (some (48, false)), .c (.c (.clo 29 [])) [(.t 49), (.t 50)]⟩, ⟨(some 52), (some (48, false)), .q (.not (.t 51))⟩, ⟨(some 53), none, .q (.pick (.t 48) (.c (.sc (.bool true))) (.t 52))⟩])
  (.cond (.t 53) (.seq (.ops [⟨(some 6), none, .q (.mov (.c (.sc (.bool false))))⟩])
  .ret)
  .skip))
  (.seq (.ops [⟨(some 12), none, .q (.mov (.c (.sc (.int .i64 1))))⟩])
  (.seq (.ops [⟨(some 54), none, .q (.load true 2 (.t 10))⟩, ⟨(some 55), none, .q (.mov (.t 12))⟩, ⟨(some 56), none, .c (.c (.clo 33 [])) [(.t 54), (.t 55)]⟩, ⟨(some 12), none, .q (.mov (.t 56))⟩])
  (.seq (.ops [⟨(some 13), none, .q (.mov (.c (.sc (.int .i64 1))))⟩])
  (.seq (.ops [⟨(some 57), none, .q (.load true 2 (.t 10))⟩, ⟨(some 58), none, .q (.mov (.t 13))⟩, ⟨(some 59), none, .c (.c (.clo 52 [])) [(.t 57), (.t 58)]⟩, ⟨(some 13), none, .q (.mov (.t 59))⟩])
  (.seq (.seq (.ops [⟨(some 60), none, .q (.mov (.t 13))⟩, ⟨(some 61), none, .q (.bin .lss (.t 60) (.c (.sc (.int .i64 0))))⟩])
  (.cond (.t 61) (.seq (.ops [⟨(some 6), none, .q (.mov (.c (.sc (.bool false))))⟩])
  .ret)
  .skip))
  (.seq (.seq (.ops [⟨(some 62), none, .q (.mov (.t 13))⟩, ⟨(some 63), none, .q (.mov (.t 12))⟩, ⟨(some 64), none, .q (.bin .neq (.t 62) (.t 63))⟩])
  (.cond (.t 64) (.seq (.ops [⟨(some 6), none, .q (.mov (.c (.sc (.bool false))))⟩])
  .ret)
  .skip))
  (.seq (.ops [⟨(some 65), none, .q (.load true 2 (.t 3))⟩, ⟨(some 66), none, .c (.c (.clo 27 [])) [(.t 65)]⟩, ⟨(some 67), none, .q (.mov (.t 1))⟩, ⟨(some 68), none, .q (.mov (.t 2))⟩, ⟨(some 69), none, .c (.c (.clo 50 [])) [(.t 66), (.t 67), (.t 68)]⟩, ⟨(some 14), none, .w (.alloc [.em, .em])⟩, ⟨none, none, .w (.store 2 (.t 14) (.t 69))⟩])
  (.seq (.seq (.ops [⟨(some 70), none, .q (.load true 2 (.t 14))⟩, ⟨(some 71), none, .q (.load true 2 (.t 8))⟩, ⟨(some 72), none, .c (.c (.clo 29 [])) [(.t 70), (.t 71)]⟩, ⟨(some 73), none, .q (.not (.t 72))⟩])
  (.cond (.t 73) (.seq (.ops [⟨(some 6), none, .q (.mov (.c (.sc (.bool false))))⟩])
  .ret)
  .skip))
  (.seq (.ops [⟨(some 13), none, .q (.mov (.c (.sc (.int .i64 1))))⟩])
  (.seq (.ops [⟨(some 74), none, .q (.load true 2 (.t 10))⟩, ⟨(some 75), none, .q (.mov (.t 13))⟩, ⟨(some 76), none, .c (.c (.clo 52 [])) [(.t 74), (.t 75)]⟩, ⟨(some 13), none, .q (.mov (.t 76))⟩])
  (.seq (.seq (.ops [⟨(some 77), none, .q (.mov (.t 13))⟩, ⟨(some 78), none, .q (.bin .lss (.t 77) (.c (.sc (.int .i64 0))))⟩])
  (.cond (.t 78) (.seq (.ops [⟨(some 6), none, .q (.mov (.c (.sc (.bool false))))⟩])
  .ret)
  .skip))
  (.seq (.seq (.ops [⟨(some 79), none, .q (.mov (.t 13))⟩, ⟨(some 80), none, .q (.mov (.t 12))⟩, ⟨(some 81), none, .q (.bin .neq (.t 79) (.t 80))⟩])
  (.cond (.t 81) (.seq (.ops [⟨(some 6), none, .q (.mov (.c (.sc (.bool false))))⟩])
  .ret)
  .skip))
  (.seq (.ops [⟨(some 6), none, .q (.mov (.c (.sc (.bool true))))⟩])
  .ret))))))))))))))))))))))))))
theorem K10 : Try.f10.body.bind (comp Try.prog) = some A10 ∧ Try.f10.ntmps = 82 ∧ Try.f10.results.toList.mapM (resB Try.prog) = some [.mov (.t 6)] := ⟨by kernel_rfl, by kernel_rfl, by kernel_rfl⟩
set_option maxHeartbeats 2000000 in
set_option maxRecDepth 100000 in
theorem R10 (aD : Disk) (haD : Disk.ty.ok aD) (aText : ByteArray) (haT : Ty.str.ok aText) (aSteps : Int) (haS : Ty.int.ok aSteps) : Ret Try.prog 10 [.agg (Disk.ty.cs aD), .sc (.string aText), .sc (.int .i64 aSteps)] (.sc (.bool true)) [.un, .un, .un] := by
  by_cases ht : (1048576 : Int) < aText.size
  · refine Ret.run Try.func10 K10 (by simp) rfl rfl 900 ?_
    simp [A10, iniρ, over, Disk.cse, Disk.oce, ht]
  obtain ⟨m0, e0, q0⟩ := R25 aD haD 1048576 (by omega) (by omega)
  by_cases n0 : m0 < 0
  · refine Ret.run Try.func10 K10 (by simp) rfl rfl 900 ?_
    simp [A10, iniρ, over, Disk.cse, Disk.oce, n0, ht]
    refine callK.ro 0 rfl (by kernel_rfl) (by simp [roc_sc, roc_ro, roc_em, roc_agg, Disk.cse, Disk.oce, n0]) q0 rfl rfl rfl ?_
    simp [over, Disk.cse, Disk.oce, n0]
  have e0 := e0.resolve_left n0
  rw [Disk.wte] at e0
  have hlen : aD.sure.length + aD.pend.length ≤ 1048576 := by omega
  have htt : aD.tot = 2 * aD.sure.length + 3 * aD.pend.length := rfl
  obtain ⟨Y, hY⟩ : ∃ Y, Y = saveF aD aText aSteps := ⟨_, rfl⟩
  have yo : Disk.ty.ok Y := by rw [hY]; exact save_ok haD aText aSteps
  have yl : Y.sure.length ≤ 1048582 ∧ Y.pend.length ≤ 1048580 := by rw [hY]; exact save_len haD aText aSteps hlen
  have ytt : Y.tot = 2 * Y.sure.length + 3 * Y.pend.length := rfl
  have rs := R51 aD aText aSteps haD
  have ri := R50 aD aText aSteps haD
  rw [← hY] at rs ri
  have fy : flt (.agg (Disk.ty.oc Y)) = true := by simpa [flt] using Disk.ty.flL Y
  have re := R29 Y yo
  have rm := R33 Y 1 (by omega) (by omega)
  have rh := R52 Y 1 (by omega) (by omega)
  have rd := R33 aD 1 (by omega) (by omega)
  obtain ⟨zm, hzm⟩ : ∃ z : Int, z = ((1 + Y.tot : Nat) : Int) := ⟨_, rfl⟩
  obtain ⟨zd, hzd⟩ : ∃ z : Int, z = ((1 + aD.tot : Nat) : Int) := ⟨_, rfl⟩
  rw [← hzm] at rm rh
  rw [← hzd] at rd
  have pm : ¬ (zm < 0) := by omega
  have pd : ¬ (zd < 0) := by omega
  have n1 : (Y.mk1 1).length = Y.sure.length := by rw [Disk.mk1, mkL_len]
  have n2 : (Y.mk2 1).length = Y.pend.length := by rw [Disk.mk2, mkL_len]
  simp only [Disk.cse, Disk.mkd, n1, n2] at rh
  simp only [Int.natCast_one] at rm rh rd
  have l1 : (rows Doc.ty.oc (aD.mk1 1)).length = (rows Doc.ty.oc aD.sure).length := by rw [Doc.ocl, Doc.ocl, Disk.mk1, mkL_len]
  have l2 : (rows Op.ty.oc (aD.mk2 1)).length = (rows Op.ty.oc aD.pend).length := by rw [Op.ocl, Op.ocl, Disk.mk2, mkL_len]
  have l3 : (rows Doc.ty.oc (Y.mk1 1)).length = (rows Doc.ty.oc Y.sure).length := by rw [Doc.ocl, Doc.ocl, n1]
  have l4 : (rows Op.ty.oc (Y.mk2 1)).length = (rows Op.ty.oc Y.pend).length := by rw [Op.ocl, Op.ocl, n2]
  have f1 : flt.fltL (rows Doc.ty.oc (aD.mk1 1)) = true := fltL_rows (fun x c hc => (Doc.ty.ow x c hc).fl) _
  have f2 : flt.fltL (rows Op.ty.oc (aD.mk2 1)) = true := fltL_rows (fun x c hc => (Op.ty.ow x c hc).fl) _
  have f3 : flt.fltL (rows Doc.ty.oc (Y.mk1 1)) = true := fltL_rows (fun x c hc => (Doc.ty.ow x c hc).fl) _
  have f4 : flt.fltL (rows Op.ty.oc (Y.mk2 1)) = true := fltL_rows (fun x c hc => (Op.ty.ow x c hc).fl) _
  have fo : flt (.agg (Disk.ty.oc aD)) = true := by simpa [flt] using Disk.ty.flL aD
  refine Ret.run Try.func10 K10 (by simp) rfl rfl 900 ?_
  simp [A10, iniρ, over, Disk.cse, Disk.oce, ht]
  refine callK.ro 0 rfl (by kernel_rfl) (by simp [roc_sc, roc_ro, roc_em, roc_agg, Disk.cse]) q0 rfl rfl rfl ?_
  simp [n0]
  refine callK.ro 611 rfl (by kernel_rfl) (by simp [roc_sc, roc_ro, roc_em, roc_agg, Disk.cse]) (R27 aD haD) fo (by simp [inst, instL, Disk.oce, upd_app]; exact ⟨rfl, rfl⟩) rfl ?_
  simp
  refine callK.ro 620 rfl (by kernel_rfl) (by simp [roc_sc, roc_ro, roc_em, roc_agg, roc_agg8, List.mapM_cons, List.mapM_nil, Doc.roc7, Op.roc7, Disk.cse]) rs fy (by simp [inst, instL, Disk.oce, upd_app]; exact ⟨rfl, rfl⟩) rfl ?_
  simp [over]
  refine callK.ro 613 rfl (by kernel_rfl) (by simp [roc_sc, roc_ro, roc_em, roc_agg, Disk.cse]) (R27 aD haD) fo (by simp [inst, instL, Disk.oce, upd_app]; exact ⟨rfl, rfl⟩) rfl ?_
  simp [over]
  refine callK.ro 622 rfl (by kernel_rfl) (by simp [roc_sc, roc_ro, roc_em, roc_agg, roc_agg8, List.mapM_cons, List.mapM_nil, Doc.roc7, Op.roc7, Disk.cse]) ri fy (by simp [inst, instL, Disk.oce, upd_app]; exact ⟨rfl, rfl⟩) rfl ?_
  simp [over]
  refine callK.ro 0 rfl (by kernel_rfl) (by simp [roc_sc, roc_ro, roc_em, roc_agg, roc_agg8, List.mapM_cons, List.mapM_nil, Doc.roc7, Op.roc7, Disk.cse]) re rfl rfl rfl ?_
  simp
  refine T.textW 400 [([], [607000, 607001]), ([], []), ([607000, 607001], []), ([], []), ([], [])] mixed (by kernel_rfl) (by kernel_rfl) ?_
  simp [over, merge_nil, hideH_nil]
  refine callWK.ro 606 rfl (by kernel_rfl) (by simp [roc_sc, roc_ro, roc_em, roc_agg, Disk.cse]) (R27 aD haD) fo (by simp [inst, instL, Disk.oce, upd_app]; exact ⟨rfl, rfl⟩) (by rfl) ?_
  simp [over, merge_nil, hideH_nil]
  refine callWK.ro 0 rfl (by kernel_rfl) (by simp [roc_sc, roc_ro, roc_em, roc_agg, roc_agg8, List.mapM_cons, List.mapM_nil, Doc.roc7, Op.roc7, Disk.cse]) (R29 aD haD) rfl rfl (by rfl) ?_
  simp [over, merge_nil, hideH_nil]
  refine callK.io2 614000 614001 rfl (by kernel_rfl) (by simp [upd_app]) (by simp [upd_app]) (by simp [upd_app]) (Doc.ocl _) (Op.ocl _) (Doc.frL _) (Op.frL _) (by decide) (by simp [upd_app]) rfl rd l1 l2 f1 f2 rfl ?_
  simp [pd]
  refine callK.ro 0 rfl (by kernel_rfl) (by simp [roc_sc, roc_ro, roc_em, roc_agg, roc_agg8, List.mapM_cons, List.mapM_nil, Doc.roc7, Op.roc7, Disk.cse]) re rfl rfl rfl ?_
  simp
  refine callK.io2 623000 623001 rfl (by kernel_rfl) (by simp [upd_app]) (by simp [upd_app]) (by simp [upd_app]) (Doc.ocl _) (Op.ocl _) (Doc.frL _) (Op.frL _) (by decide) (by simp [upd_app]) rfl rm l3 l4 f3 f4 rfl ?_
  simp
  refine callK.ro 0 rfl (by kernel_rfl) (by simp [roc_sc, roc_ro, roc_em, roc_agg, roc_agg8, List.mapM_cons, List.mapM_nil, Doc.rocm7 (ms := Y.mk1 1), Op.rocm7 (ms := Y.mk2 1), n1, n2]) rh rfl rfl rfl ?_
  simp [pm]
  refine callK.ro 615 rfl (by kernel_rfl) (by simp [roc_sc, roc_ro, roc_em, roc_agg, Disk.cse]) (R27 aD haD) fo (by simp [inst, instL, Disk.oce, upd_app]; exact ⟨rfl, rfl⟩) rfl ?_
  simp
  refine callK.ro 624 rfl (by kernel_rfl) (by simp [roc_sc, roc_ro, roc_em, roc_agg, roc_agg8, List.mapM_cons, List.mapM_nil, Doc.roc7, Op.roc7, Disk.cse]) ri fy (by simp [inst, instL, Disk.oce, upd_app]; exact ⟨rfl, rfl⟩) rfl ?_
  simp [over]
  refine callK.ro 0 rfl (by kernel_rfl) (by simp [roc_sc, roc_ro, roc_em, roc_agg, roc_agg8, List.mapM_cons, List.mapM_nil, Doc.roc7, Op.roc7, Disk.cse]) re rfl rfl rfl ?_
  simp
  refine callK.ro 0 rfl (by kernel_rfl) (by simp [roc_sc, roc_ro, roc_em, roc_agg, roc_agg8, List.mapM_cons, List.mapM_nil, Doc.rocm7 (ms := Y.mk1 1), Op.rocm7 (ms := Y.mk2 1), n1, n2]) rh rfl rfl rfl ?_
  simp [pm]
end Go.Proofs.Ytadoadomogceiaa.Am
