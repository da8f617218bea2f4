/- The functions of the program, each by its contract: LawReady; no condition. -/
import Derived.Test.YtaknfalbmblagaaGreatProg
import Derived.Test.YtaknfalbmblagaaGreatAmZ
import Derived.Test.YtaknfalbmblagaaGreatAmP
import Derived.Test.YtaknfalbmblagaaGreatReady3
import Derived.Test.YtaknfalbmblagaaGreatMarks3
import Derived.Test.YtaknfalbmblagaaGreatPlumb
import Derived.KernelRfl
namespace Go.Proofs.YtaknfalbmblagaaGreat.Am
open Go Go.Proofs
set_option linter.unusedSimpArgs false
set_option linter.unusedVariables false
attribute [local congr] T_congr callK_congr callWK_congr
attribute [local simp] run_nil run_op0 run_opg run_seq run_cond run_block run_ret run_skip run_skip_after run_skip_blk run_exit run_exit_after run_exit_blk run_loop run_any runS_nil runS_op0 runS_opg runW_nil runW_op0 runW_opg exec_q exec_w exec_c exec_n execW_q execW_w execW_c restW_app hideH_app merge_app wblk rest_app restS_app execS_q execS_c aval dOk upd_app ev_t ev_c setO_some setO_none put_mk pinsOf isIo hasIo sbin endR fin resL one outL out1 clo1 cloL coe coeL shut shut.shutL wantA weff cellsOf fillA deref natOf ρ0_app h0_app plain plain.plainL keep_app keepH_app andThen_normal andThen_ret andThen_exit pop_nil pop_after pop_after_ret pop_after_exit pop_blk pop_blk_ret pop_blk_exit nilA srcOf srcCells keepR_app keepHR_app renA rb
theorem readyF_ok {r : Run} (hr : Run.ty.ok r) : Ty.str.slice.ok (readyF r) := by
  have h := hr.2.1.1
  unfold readyF
  split
  · exact ⟨by simp, fun x hx => by cases hx⟩
  · exact ⟨Nat.le_trans (Nat.mul_le_mul_right _ (List.length_filter_le _ _)) h.1, fun x hx => h.2 x ((List.mem_filter.1 hx).1)⟩
/- 3: loop.example/g00464/laws.FnExactReady -/
def A3 : AC := (.seq (.ops [⟨(some 1), none, .w (.box (.t 0))⟩, ⟨(some 2), none, .q (.mov (.c (.sc (.bool false))))⟩])
  (.seq (.ops [⟨(some 3), none, .q (.mov (.c (.sc (.int .i64 1048576))))⟩])
  (.seq (.ops [⟨(some 11), none, .q (.load true 12 (.t 1))⟩, ⟨(some 12), none, .q (.mov (.t 3))⟩, ⟨(some 13), none, .c (.c (.clo 4 [])) [(.t 11), (.t 12)]⟩, ⟨(some 3), none, .q (.mov (.t 13))⟩])
  (.seq (.seq (.ops [⟨(some 14), none, .q (.mov (.t 3))⟩, ⟨(some 15), none, .q (.bin .lss (.t 14) (.c (.sc (.int .i64 0))))⟩])
  (.cond (.t 15) (.seq (.ops [⟨(some 2), none, .q (.mov (.c (.sc (.bool true))))⟩])
  .ret)
  .skip))
  (.seq (.ops [⟨(some 16), none, .q (.load true 12 (.t 1))⟩, ⟨(some 17), none, .c (.c (.clo 6 [])) [(.t 16)]⟩, ⟨(some 18), none, .c (.c (.clo 5 [])) [(.t 17)]⟩, ⟨(some 4), none, .q (.mov (.t 18))⟩])
  (.seq (.ops [⟨(some 19), none, .q (.load true 12 (.t 1))⟩, ⟨(some 20), none, .c (.c (.clo 6 [])) [(.t 19)]⟩, ⟨(some 5), none, .w (.alloc [.em, .em, .em, .em, .em, .em, (.sc (.int .i64 0)), (.sc (.bool false)), .em, .em, .em, .em])⟩, ⟨none, none, .w (.store 12 (.t 5) (.t 20))⟩])
  (.seq (.ops [⟨(some 21), none, .q (.load true 12 (.t 5))⟩, ⟨(some 22), none, .c (.c (.clo 7 [])) [(.t 21)]⟩, ⟨(some 6), none, .q (.mov (.t 22))⟩])
  (.seq (.seq (.ops [⟨(some 23), none, .q (.mov (.t 6))⟩, ⟨(some 24), none, .q (.mov (.t 4))⟩, ⟨(some 25), none, .c (.c (.clo 8 [])) [(.t 23), (.t 24)]⟩, ⟨(some 26), none, .q (.not (.t 25))⟩])
  (.cond (.t 26) (.seq (.ops [⟨(some 2), none, .q (.mov (.c (.sc (.bool false))))⟩])
  .ret)
  .skip))
  (.seq (.seq (.any [(⟨(some 27), none, .q (.load true 12 (.t 5))⟩, []), (⟨(some 28), none, .q (.load true 12 (.t 1))⟩, []), (⟨(some 29), none, .c (.c (.clo 6 [])) [(.t 28)]⟩, [1]), (⟨(some 30), none, .c (.c (.clo 9 [])) [(.t 27), (.t 29)]⟩, [0, 2, 2]), (⟨(some 31), none, .q (.not (.t 30))⟩, [3])])
  (.cond (.t 31) (.seq (.ops [⟨(some 2), none, .q (.mov (.c (.sc (.bool false))))⟩])
  .ret)
  .skip))
  (.seq (.ops [⟨(some 7), none, .q (.mov (.c (.sc (.int .i64 1))))⟩])
  (.seq (.ops [⟨(some 32), none, .q (.load true 12 (.t 5))⟩, ⟨(some 33), none, .q (.mov (.t 7))⟩, ⟨(some 34), none, .c (.c (.clo 10 [])) [(.t 32), (.t 33)]⟩, ⟨(some 7), none, .q (.mov (.t 34))⟩])
  (.seq (.seq (.ops [⟨(some 35), none, .q (.mov (.t 7))⟩, ⟨(some 36), none, .q (.bin .lss (.t 35) (.c (.sc (.int .i64 0))))⟩, ⟨(some 37), none, .q (.mov (.t 36))⟩, ⟨(some 38), (some (37, false)), .q (.mov (.t 6))⟩, ⟨(some 39), (some (37, false)), .q (.mov (.t 4))⟩, ⟨(some 40), (some (37, false)), .c (.c (.clo 8 [])) [(.t 38), (.t 39)]⟩, ⟨(some 41), (some (37, false)), .q (.not (.t 40))⟩, ⟨(some 42), none, .q (.pick (.t 37) (.c (.sc (.bool true))) (.t 41))⟩])
  (.cond (.t 42) (.seq (.ops [⟨(some 2), none, .q (.mov (.c (.sc (.bool false))))⟩])
  .ret)
  .skip))
  (.seq (.ops [⟨(some 8), none, .q (.mov (.c (.sc (.int .i64 1))))⟩])
  (.seq (.ops [⟨(some 43), none, .q (.mov (.t 6))⟩, ⟨(some 44), none, .q (.mov (.t 8))⟩, ⟨(some 45), none, .c (.c (.clo 11 [])) [(.t 43), (.t 44)]⟩, ⟨(some 8), none, .q (.mov (.t 45))⟩])
  (.seq (.ops [⟨(some 9), none, .q (.mov (.c (.sc (.int .i64 1))))⟩])
  (.seq (.ops [⟨(some 46), none, .q (.mov (.t 6))⟩, ⟨(some 47), none, .q (.mov (.t 9))⟩, ⟨(some 48), none, .c (.c (.clo 12 [])) [(.t 46), (.t 47)]⟩, ⟨(some 9), none, .q (.mov (.t 48))⟩])
  (.seq (.seq (.ops [⟨(some 49), none, .q (.mov (.t 9))⟩, ⟨(some 50), none, .q (.bin .lss (.t 49) (.c (.sc (.int .i64 0))))⟩])
  (.cond (.t 50) (.seq (.ops [⟨(some 2), none, .q (.mov (.c (.sc (.bool false))))⟩])
  .ret)
  .skip))
  (.seq (.seq (.ops [⟨(some 51), none, .q (.mov (.t 9))⟩, ⟨(some 52), none, .q (.mov (.t 8))⟩, ⟨(some 53), none, .q (.bin .neq (.t 51) (.t 52))⟩])
  (.cond (.t 53) (.seq (.ops [⟨(some 2), none, .q (.mov (.c (.sc (.bool false))))⟩])
  .ret)
  .skip))
  (.seq (.ops [⟨(some 54), none, .q (.load true 12 (.t 1))⟩, ⟨(some 55), none, .c (.c (.clo 6 [])) [(.t 54)]⟩, ⟨(some 56), none, .c (.c (.clo 7 [])) [(.t 55)]⟩, ⟨(some 10), none, .q (.mov (.t 56))⟩])
  (.seq (.seq (.ops [⟨(some 57), none, .q (.mov (.t 10))⟩, ⟨(some 58), none, .q (.mov (.t 4))⟩, ⟨(some 59), none, .c (.c (.clo 8 [])) [(.t 57), (.t 58)]⟩, ⟨(some 60), none, .q (.not (.t 59))⟩])
  (.cond (.t 60) (.seq (.ops [⟨(some 2), none, .q (.mov (.c (.sc (.bool false))))⟩])
  .ret)
  .skip))
  (.seq (.ops [⟨(some 9), none, .q (.mov (.c (.sc (.int .i64 1))))⟩])
  (.seq (.ops [⟨(some 61), none, .q (.mov (.t 6))⟩, ⟨(some 62), none, .q (.mov (.t 9))⟩, ⟨(some 63), none, .c (.c (.clo 12 [])) [(.t 61), (.t 62)]⟩, ⟨(some 9), none, .q (.mov (.t 63))⟩])
  (.seq (.seq (.ops [⟨(some 64), none, .q (.mov (.t 9))⟩, ⟨(some 65), none, .q (.bin .lss (.t 64) (.c (.sc (.int .i64 0))))⟩])
  (.cond (.t 65) (.seq (.ops [⟨(some 2), none, .q (.mov (.c (.sc (.bool false))))⟩])
  .ret)
  .skip))
  (.seq (.seq (.ops [⟨(some 66), none, .q (.mov (.t 9))⟩, ⟨(some 67), none, .q (.mov (.t 8))⟩, ⟨(some 68), none, .q (.bin .neq (.t 66) (.t 67))⟩])
  (.cond (.t 68) (.seq (.ops [⟨(some 2), none, .q (.mov (.c (.sc (.bool false))))⟩])
  .ret)
  .skip))
  (.seq (.ops [⟨(some 2), none, .q (.mov (.c (.sc (.bool true))))⟩])
  .ret)))))))))))))))))))))))))
theorem K3 : Tryz.f3.body.bind (comp Tryz.prog) = some A3 ∧ Tryz.f3.ntmps = 69 ∧ Tryz.f3.results.toList.mapM (resB Tryz.prog) = some [.mov (.t 2)] := ⟨by kernel_rfl, by kernel_rfl, by kernel_rfl⟩
set_option maxHeartbeats 4000000 in
set_option maxRecDepth 100000 in
theorem R3 (aR : Run) (haR : Run.ty.ok aR) : Ret Tryz.prog 3 [.agg (Run.ty.cs aR)] (.sc (.bool true)) [.un] := by
  obtain ⟨m0, e0, q0⟩ := R4 aR haR 1048576 (by omega) (by omega)
  by_cases n0 : m0 < 0
  · refine Ret.run Tryz.func3 K3 (by simp) rfl rfl 900 ?_
    simp [A3, iniρ, over, Run.cse, World.cse, Plan.cse, Run.oce, World.oce, Plan.oce, n0]
    refine callK.ro 0 rfl (by kernel_rfl) (by simp [roc_sc, roc_ro, roc_em, roc_agg, Run.cse, World.cse, Plan.cse, Run.oce, World.oce, Plan.oce, n0]) q0 rfl rfl rfl ?_
    simp [over, Run.cse, World.cse, Plan.cse, Run.oce, World.oce, Plan.oce, n0]
  have e0 := e0.resolve_left n0
  have hz : RunSz aR := runSz_of (by omega)
  have hst := Run.stotw aR
  obtain ⟨ys, hys⟩ : ∃ ys, ys = readyF aR := ⟨_, rfl⟩
  have rs := R5 aR haR hz
  have ri := R7 aR haR hz.1 hz.2.1 hz.on2
  have yo := readyF_ok haR
  rw [← hys] at rs ri yo
  have re := R8 ys yo
  have hyl : ys.length ≤ 1048576 := by
    rw [hys]; unfold readyF
    split
    · simp
    · exact Nat.le_trans (List.length_filter_le _ _) hz.1
  have hyb : ys.length < 4611686018427387904 := Ty.str.lenb (by decide) yo
  have hto : (toL strTot ys : Nat) = ys.length := toL_one _
  have rm := R11 ys 1 (by omega) (by omega) hyb
  have rh := R12 ys 1 (by omega) (by omega) hyb
  have ml : (mkL strMk strTot ys 1).length = ys.length := mkL_len ..
  have rmr := R10 aR 1 (by omega) (by omega) (by have := hz.2.1; omega) (by have : aR.cache.length ≤ Run.ty.wt aR := (by rw [Run.wte]; omega); omega)
  rw [Run.oce] at rmr
  have pk : ¬ (1 + (aR.stot : Int) < 0) := by omega
  have pm : ¬ (1 + (toL strTot ys : Int) < 0) := by omega
  have fo := Ty.str.flo ys
  have hro : ∀ {h : Hp} {b : Nat} {lim : Bool}, h b = some (some (rows Ty.str.oc (mkL strMk strTot ys 1))) → roc h 8 (.sl b 0 ys.length 1 lim) = some (.ro (rows Ty.str.cs (mkL strMk strTot ys 1)) ys.length) := fun {h b lim} hb => by
    have e := str_roc8 (lim := lim) hb
    rwa [ml] at e
  refine Ret.run Tryz.func3 K3 (by simp) rfl rfl 900 ?_
  simp [A3, iniρ, over, Run.cse, World.cse, Plan.cse, Run.oce, World.oce, Plan.oce, n0]
  refine callK.ro 0 rfl (by kernel_rfl) (by simp [roc_sc, roc_ro, roc_em, roc_agg, Run.cse, World.cse, Plan.cse, Run.oce, World.oce, Plan.oce, n0]) q0 rfl rfl rfl ?_
  simp [over, merge_nil, hideH_nil, Run.cse, World.cse, Plan.cse, Run.oce, World.oce, Plan.oce, n0]
  refine callK.ro 602 rfl (by kernel_rfl) (by simp [roc_sc, roc_ro, roc_em, roc_agg, Run.cse, World.cse, Plan.cse, Run.oce, World.oce, Plan.oce, n0]) (R6 aR haR) (by simpa [flt] using Run.ty.flL aR) (by simp [inst, instL, Run.oce, upd_app]; exact ⟨rfl, rfl⟩) rfl ?_
  simp [over, merge_nil, hideH_nil, Run.cse, World.cse, Plan.cse, Run.oce, World.oce, Plan.oce, n0]
  refine callK.own 603 rfl (by kernel_rfl) (by simp [roc_sc, roc_ro, roc_em, roc_agg, roc_agg8, List.mapM_cons, List.mapM_nil, Pack.roc7, Rule.roc7, File.roc7, Env.roc7, str_roc7, strs_roc7, Made.roc7, Mark.roc7, Slot.roc7, Run.cse, World.cse, Plan.cse, Run.oce, World.oce, Plan.oce, n0]) rs fo (by simp [upd_app]) rfl ?_
  simp [over, merge_nil, hideH_nil, Run.cse, World.cse, Plan.cse, Run.oce, World.oce, Plan.oce, n0]
  refine callK.ro 604 rfl (by kernel_rfl) (by simp [roc_sc, roc_ro, roc_em, roc_agg, Run.cse, World.cse, Plan.cse, Run.oce, World.oce, Plan.oce, n0]) (R6 aR haR) (by simpa [flt] using Run.ty.flL aR) (by simp [inst, instL, Run.oce, upd_app]; exact ⟨rfl, rfl⟩) rfl ?_
  simp [over, merge_nil, hideH_nil, Run.cse, World.cse, Plan.cse, Run.oce, World.oce, Plan.oce, n0]
  refine callK.own 606 rfl (by kernel_rfl) (by simp [roc_sc, roc_ro, roc_em, roc_agg, roc_agg8, List.mapM_cons, List.mapM_nil, Pack.roc7, Rule.roc7, File.roc7, Env.roc7, str_roc7, strs_roc7, Made.roc7, Mark.roc7, Slot.roc7, Run.cse, World.cse, Plan.cse, Run.oce, World.oce, Plan.oce, n0]) ri fo (by simp [upd_app]) rfl ?_
  simp [over, merge_nil, hideH_nil, Run.cse, World.cse, Plan.cse, Run.oce, World.oce, Plan.oce, n0]
  refine callK.ro 0 rfl (by kernel_rfl) (by simp [roc_sc, roc_ro, str_roc8, upd_app]) re rfl rfl rfl ?_
  simp [over, merge_nil, hideH_nil, Run.cse, World.cse, Plan.cse, Run.oce, World.oce, Plan.oce, n0]
  refine T.textW 400 [([], [608000, 608001, 608002, 608003, 608004, 608005, 608008, 608009, 608010, 608011]), ([], []), ([608000, 608001, 608002, 608003, 608004, 608005, 608008, 608009, 608010, 608011], []), ([], []), ([], [])] mixed (by kernel_rfl) (by kernel_rfl) ?_
  simp [over, merge_nil, hideH_nil, Run.cse, World.cse, Plan.cse, Run.oce, World.oce, Plan.oce, n0]
  refine callWK.ro 607 rfl (by kernel_rfl) (by simp [roc_sc, roc_ro, roc_em, roc_agg, Run.cse, World.cse, Plan.cse, Run.oce, World.oce, Plan.oce, n0]) (R6 aR haR) (by simpa [flt] using Run.ty.flL aR) (by simp [inst, instL, Run.oce, upd_app]; exact ⟨rfl, rfl⟩) (by rfl) ?_
  simp [over, merge_nil, hideH_nil, Run.cse, World.cse, Plan.cse, Run.oce, World.oce, Plan.oce, n0]
  refine callWK.ro 0 rfl (by kernel_rfl) (by simp [roc_sc, roc_ro, roc_em, roc_agg, roc_agg8, List.mapM_cons, List.mapM_nil, Pack.roc7, Rule.roc7, File.roc7, Env.roc7, str_roc7, strs_roc7, Made.roc7, Mark.roc7, Slot.roc7, Run.cse, World.cse, Plan.cse, Run.oce, World.oce, Plan.oce, n0]) (R9 aR haR) rfl rfl (by rfl) ?_
  simp [over, merge_nil, hideH_nil, Run.cse, World.cse, Plan.cse, Run.oce, World.oce, Plan.oce, n0]
  refine callK.mvS [.bk 605000 aR.w.packs.length 4 (rows Pack.ty.oc aR.w.packs), .bk 605001 aR.w.rules.length 5 (rows Rule.ty.oc aR.w.rules), .bk 605002 aR.w.files.length 2 (rows File.ty.oc aR.w.files), .bk 605003 aR.w.envs.length 2 (rows Env.ty.oc aR.w.envs), .bk 605004 aR.p.tasks.length 1 (rows Ty.str.oc aR.p.tasks), .bk 605005 aR.p.deps.length 1 (rows Ty.str.slice.oc aR.p.deps), .sv (.int .i64 aR.slots), .sv (.bool aR.goOn), .bk 605008 aR.made.length 3 (rows Made.ty.oc aR.made), .bk 605009 aR.marks.length 2 (rows Mark.ty.oc aR.marks), .bk 605010 aR.going.length 1 (rows Ty.str.oc aR.going), .bk 605011 aR.cache.length 2 (rows Slot.ty.oc aR.cache)] rfl (by kernel_rfl) (by simp [upd_app, MvD.av]) (by simp [MvD.bl]) (by simp [MvD.ok, upd_app, Pack.ocl, Pack.frL, Rule.ocl, Rule.frL, File.ocl, File.frL, Env.ocl, Env.frL, Made.ocl, Made.frL, Mark.ocl, Mark.frL, Slot.ocl, Slot.frL, rows_length Ty.str.ocn, Ty.str.frL, rows_length Ty.str.slice.ocn, Ty.str.slice.frL, show Ty.str.n = 1 from rfl, show Ty.str.slice.n = 1 from rfl]) (by simp [upd_app]) rfl rmr rfl ?_
  simp [goneL, pk]
  refine callK.ro 0 rfl (by kernel_rfl) (by simp [roc_sc, roc_ro, str_roc8, upd_app]) re rfl rfl rfl ?_
  simp
  refine callK.io (b := 606) (len := ys.length) (sz := 1) (cs := rows Ty.str.oc ys) rfl (by kernel_rfl) (by simp [upd_app]) (by simp [upd_app]) (rows_length Ty.str.ocn _) (Ty.str.frL _) (by simp [upd_app]) rfl rm (mkrows_len Ty.str _ _ _ _) (flrows Ty.str _) rfl ?_
  simp
  refine callK.ro 0 rfl (by kernel_rfl) (by simp [roc_sc, roc_ro, hro, upd_app]) rh rfl rfl rfl ?_
  simp [pm, Run.cse, World.cse, Plan.cse, over]
  refine callK.ro 609 rfl (by kernel_rfl) (by simp [roc_sc, roc_ro, roc_em, roc_agg, Run.cse, World.cse, Plan.cse, Run.oce, World.oce, Plan.oce, n0]) (R6 aR haR) (by simpa [flt] using Run.ty.flL aR) (by simp [inst, instL, Run.oce, upd_app]; exact ⟨rfl, rfl⟩) rfl ?_
  simp [over, merge_nil, hideH_nil, Run.cse, World.cse, Plan.cse, Run.oce, World.oce, Plan.oce, n0]
  refine callK.own 611 rfl (by kernel_rfl) (by simp [roc_sc, roc_ro, roc_em, roc_agg, roc_agg8, List.mapM_cons, List.mapM_nil, Pack.roc7, Rule.roc7, File.roc7, Env.roc7, str_roc7, strs_roc7, Made.roc7, Mark.roc7, Slot.roc7, Run.cse, World.cse, Plan.cse, Run.oce, World.oce, Plan.oce, n0]) ri fo (by simp [upd_app]) rfl ?_
  simp [over, merge_nil, hideH_nil, Run.cse, World.cse, Plan.cse, Run.oce, World.oce, Plan.oce, n0]
  refine callK.ro 0 rfl (by kernel_rfl) (by simp [roc_sc, roc_ro, str_roc8, upd_app]) re rfl rfl rfl ?_
  simp
  refine callK.ro 0 rfl (by kernel_rfl) (by simp [roc_sc, roc_ro, hro, upd_app]) rh rfl rfl rfl ?_
  simp [pm]
end Go.Proofs.YtaknfalbmblagaaGreat.Am
