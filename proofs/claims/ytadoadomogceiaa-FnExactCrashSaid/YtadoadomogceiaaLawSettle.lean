/- The functions of the program, each by its contract: LawSettle; no condition. -/
import Derived.Test.YtadoadomogceiaaProg
import Derived.Test.YtadoadomogceiaaAmZ
import Derived.Test.YtadoadomogceiaaAmP
import Derived.Test.YtadoadomogceiaaDocs4
import Derived.Test.YtadoadomogceiaaMarks2
import Derived.KernelRfl
namespace Go.Proofs.Ytadoadomogceiaa.Am
open Go Go.Proofs
set_option linter.unusedSimpArgs false
set_option linter.unusedVariables false
attribute [local congr] T_congr callK_congr callWK_congr
attribute [local simp] run_nil run_op0 run_opg run_seq run_cond run_block run_ret run_skip run_skip_after run_skip_blk run_exit run_exit_after run_exit_blk run_loop run_any runS_nil runS_op0 runS_opg runW_nil runW_op0 runW_opg exec_q exec_w exec_c exec_n execW_q execW_w execW_c restW_app hideH_app merge_app wblk rest_app restS_app execS_q execS_c aval dOk upd_app ev_t ev_c setO_some setO_none put_mk pinsOf isIo hasIo sbin endR fin resL one outL out1 clo1 cloL coe coeL shut shut.shutL wantA weff cellsOf fillA deref natOf ρ0_app h0_app plain plain.plainL keep_app keepH_app andThen_normal andThen_ret andThen_exit pop_nil pop_after pop_after_ret pop_after_exit pop_blk pop_blk_ret pop_blk_exit nilA srcOf srcCells keepR_app keepHR_app renA rb
theorem Doc.rocm7 {h : Hp} {b n : Nat} {ms : List Doc} {lim : Bool} (hb : h b = some (some (rows Doc.ty.oc ms))) (hl : ms.length = n) : roc h 7 (.sl b 0 n 2 lim) = some (.ro (rows Doc.ty.cs ms) n) := by subst hl; exact Doc.roc7 hb
theorem Op.rocm7 {h : Hp} {b n : Nat} {ms : List Op} {lim : Bool} (hb : h b = some (some (rows Op.ty.oc ms))) (hl : ms.length = n) : roc h 7 (.sl b 0 n 3 lim) = some (.ro (rows Op.ty.cs ms) n) := by subst hl; exact Op.roc7 hb
theorem nil_ok : Op.ty.slice.ok [] := ⟨by simp, by simp⟩
theorem settle_ok {d : Disk} (hd : Disk.ty.ok d) : Disk.ty.ok (settleF d) := by
  unfold settleF
  split
  · exact ⟨docs_ok hd _, nil_ok, trivial⟩
  · exact hd
theorem settle_len {d : Disk} (h : d.sure.length + d.pend.length ≤ 1048576) : (settleF d).sure.length ≤ 1048582 ∧ (settleF d).pend.length ≤ 1048580 := by
  unfold settleF
  split
  · have : (docsNowF d).length ≤ max d.sure.length 6 := docsF_len _ _ _ _
    exact ⟨by show (docsNowF d).length ≤ _; omega, by show 0 ≤ _; omega⟩
  · omega
theorem crash_ok {d : Disk} (hd : Disk.ty.ok d) (k : Int) : Disk.ty.ok (crashF d k) := by
  unfold crashF
  split
  · exact ⟨docs_ok hd _, nil_ok, trivial⟩
  · exact hd
theorem crash_len {d : Disk} (k : Int) (h : d.sure.length + d.pend.length ≤ 1048576) : (crashF d k).sure.length ≤ 1048582 ∧ (crashF d k).pend.length ≤ 1048580 := by
  unfold crashF
  split
  · have : (docsF (bitK k) d.pend 0 d.sure).length ≤ max d.sure.length 6 := docsF_len _ _ _ _
    exact ⟨by show (docsF (bitK k) d.pend 0 d.sure).length ≤ _; omega, by show 0 ≤ _; omega⟩
  · omega
/- 8: loop.example/g00464/laws.FnExactSettle -/
def A8 : AC := (.seq (.ops [⟨(some 1), none, .w (.box (.t 0))⟩, ⟨(some 2), none, .q (.mov (.c (.sc (.bool false))))⟩])
  (.seq (.ops [⟨(some 3), none, .q (.mov (.c (.sc (.int .i64 1048576))))⟩])
  (.seq (.ops [⟨(some 11), none, .q (.load true 2 (.t 1))⟩, ⟨(some 12), none, .q (.mov (.t 3))⟩, ⟨(some 13), none, .c (.c (.clo 25 [])) [(.t 11), (.t 12)]⟩, ⟨(some 3), none, .q (.mov (.t 13))⟩])
  (.seq (.seq (.ops [⟨(some 14), none, .q (.mov (.t 3))⟩, ⟨(some 15), none, .q (.bin .lss (.t 14) (.c (.sc (.int .i64 0))))⟩])
  (.cond (.t 15) (.seq (.ops [⟨(some 2), none, .q (.mov (.c (.sc (.bool true))))⟩])
  .ret)
  .skip))
  (.seq (.ops [⟨(some 16), none, .q (.load true 2 (.t 1))⟩, ⟨(some 17), none, .c (.c (.clo 27 [])) [(.t 16)]⟩, ⟨(some 18), none, .c (.c (.clo 47 [])) [(.t 17)]⟩, ⟨(some 4), none, .w (.alloc [.em, .em])⟩, ⟨none, none, .w (.store 2 (.t 4) (.t 18))⟩])
  (.seq (.ops [⟨(some 19), none, .q (.load true 2 (.t 1))⟩, ⟨(some 20), none, .c (.c (.clo 27 [])) [(.t 19)]⟩, ⟨(some 5), none, .w (.alloc [.em, .em])⟩, ⟨none, none, .w (.store 2 (.t 5) (.t 20))⟩])
  (.seq (.ops [⟨(some 21), none, .q (.load true 2 (.t 5))⟩, ⟨(some 22), none, .c (.c (.clo 42 [])) [(.t 21)]⟩, ⟨(some 6), none, .w (.alloc [.em, .em])⟩, ⟨none, none, .w (.store 2 (.t 6) (.t 22))⟩])
  (.seq (.seq (.ops [⟨(some 23), none, .q (.load true 2 (.t 6))⟩, ⟨(some 24), none, .q (.load true 2 (.t 4))⟩, ⟨(some 25), none, .c (.c (.clo 29 [])) [(.t 23), (.t 24)]⟩, ⟨(some 26), none, .q (.not (.t 25))⟩])
  (.cond (.t 26) (.seq (.ops [⟨(some 2), none, .q (.mov (.c (.sc (.bool false))))⟩])
  .ret)
  .skip))
  (.seq (.seq (.any [(⟨(some 27), none, .q (.load true 2 (.t 5))⟩, []), (⟨(some 28), none, .q (.load true 2 (.t 1))⟩, []), (⟨(some 29), none, .c (.c (.clo 27 [])) [(.t 28)]⟩, [1]), (⟨(some 30), none, .c (.c (.clo 29 [])) [(.t 27), (.t 29)]⟩, [0, 2, 2]), (⟨(some 31), none, .q (.not (.t 30))⟩, [3])])
  (.cond (.t 31) (.seq (.ops [⟨(some 2), none, .q (.mov (.c (.sc (.bool false))))⟩])
  .ret)
  .skip))
  (.seq (.ops [⟨(some 7), none, .q (.mov (.c (.sc (.int .i64 1))))⟩])
  (.seq (.ops [⟨(some 32), none, .q (.load true 2 (.t 5))⟩, ⟨(some 33), none, .q (.mov (.t 7))⟩, ⟨(some 34), none, .c (.c (.clo 33 [])) [(.t 32), (.t 33)]⟩, ⟨(some 7), none, .q (.mov (.t 34))⟩])
  (.seq (.seq (.ops [⟨(some 35), none, .q (.mov (.t 7))⟩, ⟨(some 36), none, .q (.bin .lss (.t 35) (.c (.sc (.int .i64 0))))⟩, ⟨(some 37), none, .q (.mov (.t 36))⟩, ⟨(some 38), (some (37, false)), .q (.load true 2 (.t 6))⟩, ⟨(some 39), (some (37, false)), .q (.load true 2 (.t 4))⟩, ⟨(some 40), (some (37, false)), .c (.c (.clo 29 [])) [(.t 38), (.t 39)]⟩, ⟨(some 41), (some (37, false)), .q (.not (.t 40))⟩, ⟨(some 42), none, .q (.pick (.t 37) (.c (.sc (.bool true))) (.t 41))⟩])
  (.cond (.t 42) (.seq (.ops [⟨(some 2), none, .q (.mov (.c (.sc (.bool false))))⟩])
  .ret)
  .skip))
  (.seq (.ops [⟨(some 8), none, .q (.mov (.c (.sc (.int .i64 1))))⟩])
  (.seq (.ops [⟨(some 43), none, .q (.load true 2 (.t 6))⟩, ⟨(some 44), none, .q (.mov (.t 8))⟩, ⟨(some 45), none, .c (.c (.clo 33 [])) [(.t 43), (.t 44)]⟩, ⟨(some 8), none, .q (.mov (.t 45))⟩])
  (.seq (.ops [⟨(some 9), none, .q (.mov (.c (.sc (.int .i64 1))))⟩])
  (.seq (.ops [⟨(some 46), none, .q (.load true 2 (.t 6))⟩, ⟨(some 47), none, .q (.mov (.t 9))⟩, ⟨(some 48), none, .c (.c (.clo 52 [])) [(.t 46), (.t 47)]⟩, ⟨(some 9), none, .q (.mov (.t 48))⟩])
  (.seq (.seq (.ops [⟨(some 49), none, .q (.mov (.t 9))⟩, ⟨(some 50), none, .q (.bin .lss (.t 49) (.c (.sc (.int .i64 0))))⟩])
  (.cond (.t 50) (.seq (.ops [⟨(some 2), none, .q (.mov (.c (.sc (.bool false))))⟩])
  .ret)
  .skip))
  (.seq (.seq (.ops [⟨(some 51), none, .q (.mov (.t 9))⟩, ⟨(some 52), none, .q (.mov (.t 8))⟩, ⟨(some 53), none, .q (.bin .neq (.t 51) (.t 52))⟩])
  (.cond (.t 53) (.seq (.ops [⟨(some 2), none, .q (.mov (.c (.sc (.bool false))))⟩])
  .ret)
  .skip))
  (.seq (.ops [⟨(some 54), none, .q (.load true 2 (.t 1))⟩, ⟨(some 55), none, .c (.c (.clo 27 [])) [(.t 54)]⟩, ⟨(some 56), none, .c (.c (.clo 42 [])) [(.t 55)]⟩, ⟨(some 10), none, .w (.alloc [.em, .em])⟩, ⟨none, none, .w (.store 2 (.t 10) (.t 56))⟩])
  (.seq (.seq (.ops [⟨(some 57), none, .q (.load true 2 (.t 10))⟩, ⟨(some 58), none, .q (.load true 2 (.t 4))⟩, ⟨(some 59), none, .c (.c (.clo 29 [])) [(.t 57), (.t 58)]⟩, ⟨(some 60), none, .q (.not (.t 59))⟩])
  (.cond (.t 60) (.seq (.ops [⟨(some 2), none, .q (.mov (.c (.sc (.bool false))))⟩])
  .ret)
  .skip))
  (.seq (.ops [⟨(some 9), none, .q (.mov (.c (.sc (.int .i64 1))))⟩])
  (.seq (.ops [⟨(some 61), none, .q (.load true 2 (.t 6))⟩, ⟨(some 62), none, .q (.mov (.t 9))⟩, ⟨(some 63), none, .c (.c (.clo 52 [])) [(.t 61), (.t 62)]⟩, ⟨(some 9), none, .q (.mov (.t 63))⟩])
  (.seq (.seq (.ops [⟨(some 64), none, .q (.mov (.t 9))⟩, ⟨(some 65), none, .q (.bin .lss (.t 64) (.c (.sc (.int .i64 0))))⟩])
  (.cond (.t 65) (.seq (.ops [⟨(some 2), none, .q (.mov (.c (.sc (.bool false))))⟩])
  .ret)
  .skip))
  (.seq (.seq (.ops [⟨(some 66), none, .q (.mov (.t 9))⟩, ⟨(some 67), none, .q (.mov (.t 8))⟩, ⟨(some 68), none, .q (.bin .neq (.t 66) (.t 67))⟩])
  (.cond (.t 68) (.seq (.ops [⟨(some 2), none, .q (.mov (.c (.sc (.bool false))))⟩])
  .ret)
  .skip))
  (.seq (.ops [⟨(some 2), none, .q (.mov (.c (.sc (.bool true))))⟩])
  .ret)))))))))))))))))))))))))
theorem K8 : Try.f8.body.bind (comp Try.prog) = some A8 ∧ Try.f8.ntmps = 69 ∧ Try.f8.results.toList.mapM (resB Try.prog) = some [.mov (.t 2)] := ⟨by kernel_rfl, by kernel_rfl, by kernel_rfl⟩
set_option maxHeartbeats 2000000 in
set_option maxRecDepth 100000 in
theorem R8 (aD : Disk) (haD : Disk.ty.ok aD) : Ret Try.prog 8 [.agg (Disk.ty.cs aD)] (.sc (.bool true)) [.un] := by
  obtain ⟨m0, e0, q0⟩ := R25 aD haD 1048576 (by omega) (by omega)
  by_cases n0 : m0 < 0
  · refine Ret.run Try.func8 K8 (by simp) rfl rfl 900 ?_
    simp [A8, iniρ, over, Disk.cse, Disk.oce, n0]
    refine callK.ro 0 rfl (by kernel_rfl) (by simp [roc_sc, roc_ro, roc_em, roc_agg, Disk.cse, Disk.oce, n0]) q0 rfl rfl rfl ?_
    simp [over, Disk.cse, Disk.oce, n0]
  have e0 := e0.resolve_left n0
  rw [Disk.wte] at e0
  have hlen : aD.sure.length + aD.pend.length ≤ 1048576 := by omega
  have htt : aD.tot = 2 * aD.sure.length + 3 * aD.pend.length := rfl
  obtain ⟨Y, hY⟩ : ∃ Y, Y = settleF aD := ⟨_, rfl⟩
  have yo : Disk.ty.ok Y := by rw [hY]; exact settle_ok haD
  have yl : Y.sure.length ≤ 1048582 ∧ Y.pend.length ≤ 1048580 := by rw [hY]; exact settle_len hlen
  have ytt : Y.tot = 2 * Y.sure.length + 3 * Y.pend.length := rfl
  have rs := R47 aD haD
  have ri := R42 aD haD
  rw [← hY] at rs ri
  have fy : flt (.agg (Disk.ty.oc Y)) = true := by simpa [flt] using Disk.ty.flL Y
  have re := R29 Y yo
  have rm := R33 Y 1 (by omega) (by omega)
  have rh := R52 Y 1 (by omega) (by omega)
  have rd := R33 aD 1 (by omega) (by omega)
  obtain ⟨zm, hzm⟩ : ∃ z : Int, z = ((1 + Y.tot : Nat) : Int) := ⟨_, rfl⟩
  obtain ⟨zd, hzd⟩ : ∃ z : Int, z = ((1 + aD.tot : Nat) : Int) := ⟨_, rfl⟩
  rw [← hzm] at rm rh
  rw [← hzd] at rd
  have pm : ¬ (zm < 0) := by omega
  have pd : ¬ (zd < 0) := by omega
  have n1 : (Y.mk1 1).length = Y.sure.length := by rw [Disk.mk1, mkL_len]
  have n2 : (Y.mk2 1).length = Y.pend.length := by rw [Disk.mk2, mkL_len]
  simp only [Disk.cse, Disk.mkd, n1, n2] at rh
  simp only [Int.natCast_one] at rm rh rd
  have l1 : (rows Doc.ty.oc (aD.mk1 1)).length = (rows Doc.ty.oc aD.sure).length := by rw [Doc.ocl, Doc.ocl, Disk.mk1, mkL_len]
  have l2 : (rows Op.ty.oc (aD.mk2 1)).length = (rows Op.ty.oc aD.pend).length := by rw [Op.ocl, Op.ocl, Disk.mk2, mkL_len]
  have l3 : (rows Doc.ty.oc (Y.mk1 1)).length = (rows Doc.ty.oc Y.sure).length := by rw [Doc.ocl, Doc.ocl, n1]
  have l4 : (rows Op.ty.oc (Y.mk2 1)).length = (rows Op.ty.oc Y.pend).length := by rw [Op.ocl, Op.ocl, n2]
  have f1 : flt.fltL (rows Doc.ty.oc (aD.mk1 1)) = true := fltL_rows (fun x c hc => (Doc.ty.ow x c hc).fl) _
  have f2 : flt.fltL (rows Op.ty.oc (aD.mk2 1)) = true := fltL_rows (fun x c hc => (Op.ty.ow x c hc).fl) _
  have f3 : flt.fltL (rows Doc.ty.oc (Y.mk1 1)) = true := fltL_rows (fun x c hc => (Doc.ty.ow x c hc).fl) _
  have f4 : flt.fltL (rows Op.ty.oc (Y.mk2 1)) = true := fltL_rows (fun x c hc => (Op.ty.ow x c hc).fl) _
  have fo : flt (.agg (Disk.ty.oc aD)) = true := by simpa [flt] using Disk.ty.flL aD
  refine Ret.run Try.func8 K8 (by simp) rfl rfl 900 ?_
  simp [A8, iniρ, over, Disk.cse, Disk.oce]
  refine callK.ro 0 rfl (by kernel_rfl) (by simp [roc_sc, roc_ro, roc_em, roc_agg, Disk.cse]) q0 rfl rfl rfl ?_
  simp [n0]
  refine callK.ro 611 rfl (by kernel_rfl) (by simp [roc_sc, roc_ro, roc_em, roc_agg, Disk.cse]) (R27 aD haD) fo (by simp [inst, instL, Disk.oce, upd_app]; exact ⟨rfl, rfl⟩) rfl ?_
  simp
  refine callK.ro 620 rfl (by kernel_rfl) (by simp [roc_sc, roc_ro, roc_em, roc_agg, roc_agg8, List.mapM_cons, List.mapM_nil, Doc.roc7, Op.roc7, Disk.cse]) rs fy (by simp [inst, instL, Disk.oce, upd_app]; exact ⟨rfl, rfl⟩) rfl ?_
  simp [over]
  refine callK.ro 613 rfl (by kernel_rfl) (by simp [roc_sc, roc_ro, roc_em, roc_agg, Disk.cse]) (R27 aD haD) fo (by simp [inst, instL, Disk.oce, upd_app]; exact ⟨rfl, rfl⟩) rfl ?_
  simp [over]
  refine callK.ro 622 rfl (by kernel_rfl) (by simp [roc_sc, roc_ro, roc_em, roc_agg, roc_agg8, List.mapM_cons, List.mapM_nil, Doc.roc7, Op.roc7, Disk.cse]) ri fy (by simp [inst, instL, Disk.oce, upd_app]; exact ⟨rfl, rfl⟩) rfl ?_
  simp [over]
  refine callK.ro 0 rfl (by kernel_rfl) (by simp [roc_sc, roc_ro, roc_em, roc_agg, roc_agg8, List.mapM_cons, List.mapM_nil, Doc.roc7, Op.roc7, Disk.cse]) re rfl rfl rfl ?_
  simp
  refine T.textW 400 [([], [607000, 607001]), ([], []), ([607000, 607001], []), ([], []), ([], [])] mixed (by kernel_rfl) (by kernel_rfl) ?_
  simp [over, merge_nil, hideH_nil]
  refine callWK.ro 606 rfl (by kernel_rfl) (by simp [roc_sc, roc_ro, roc_em, roc_agg, Disk.cse]) (R27 aD haD) fo (by simp [inst, instL, Disk.oce, upd_app]; exact ⟨rfl, rfl⟩) (by rfl) ?_
  simp [over, merge_nil, hideH_nil]
  refine callWK.ro 0 rfl (by kernel_rfl) (by simp [roc_sc, roc_ro, roc_em, roc_agg, roc_agg8, List.mapM_cons, List.mapM_nil, Doc.roc7, Op.roc7, Disk.cse]) (R29 aD haD) rfl rfl (by rfl) ?_
  simp [over, merge_nil, hideH_nil]
  refine callK.io2 614000 614001 rfl (by kernel_rfl) (by simp [upd_app]) (by simp [upd_app]) (by simp [upd_app]) (Doc.ocl _) (Op.ocl _) (Doc.frL _) (Op.frL _) (by decide) (by simp [upd_app]) rfl rd l1 l2 f1 f2 rfl ?_
  simp [pd]
  refine callK.ro 0 rfl (by kernel_rfl) (by simp [roc_sc, roc_ro, roc_em, roc_agg, roc_agg8, List.mapM_cons, List.mapM_nil, Doc.roc7, Op.roc7, Disk.cse]) re rfl rfl rfl ?_
  simp
  refine callK.io2 623000 623001 rfl (by kernel_rfl) (by simp [upd_app]) (by simp [upd_app]) (by simp [upd_app]) (Doc.ocl _) (Op.ocl _) (Doc.frL _) (Op.frL _) (by decide) (by simp [upd_app]) rfl rm l3 l4 f3 f4 rfl ?_
  simp
  refine callK.ro 0 rfl (by kernel_rfl) (by simp [roc_sc, roc_ro, roc_em, roc_agg, roc_agg8, List.mapM_cons, List.mapM_nil, Doc.rocm7 (ms := Y.mk1 1), Op.rocm7 (ms := Y.mk2 1), n1, n2]) rh rfl rfl rfl ?_
  simp [pm]
  refine callK.ro 615 rfl (by kernel_rfl) (by simp [roc_sc, roc_ro, roc_em, roc_agg, Disk.cse]) (R27 aD haD) fo (by simp [inst, instL, Disk.oce, upd_app]; exact ⟨rfl, rfl⟩) rfl ?_
  simp
  refine callK.ro 624 rfl (by kernel_rfl) (by simp [roc_sc, roc_ro, roc_em, roc_agg, roc_agg8, List.mapM_cons, List.mapM_nil, Doc.roc7, Op.roc7, Disk.cse]) ri fy (by simp [inst, instL, Disk.oce, upd_app]; exact ⟨rfl, rfl⟩) rfl ?_
  simp [over]
  refine callK.ro 0 rfl (by kernel_rfl) (by simp [roc_sc, roc_ro, roc_em, roc_agg, roc_agg8, List.mapM_cons, List.mapM_nil, Doc.roc7, Op.roc7, Disk.cse]) re rfl rfl rfl ?_
  simp
  refine callK.ro 0 rfl (by kernel_rfl) (by simp [roc_sc, roc_ro, roc_em, roc_agg, roc_agg8, List.mapM_cons, List.mapM_nil, Doc.rocm7 (ms := Y.mk1 1), Op.rocm7 (ms := Y.mk2 1), n1, n2]) rh rfl rfl rfl ?_
  simp [pm]
end Go.Proofs.Ytadoadomogceiaa.Am
