/- The functions of the program, each by its contract: LawCacheGet; no condition. -/
import Derived.Test.YtaknfalbmblagaaDoorProg
import Derived.Test.YtaknfalbmblagaaDoorAmZ
import Derived.Test.YtaknfalbmblagaaDoorAmP
import Derived.Test.YtaknfalbmblagaaDoorMarksM
import Derived.Test.YtaknfalbmblagaaDoorPlumb
import Derived.KernelRfl
namespace Go.Proofs.YtaknfalbmblagaaDoor.Am
open Go Go.Proofs
set_option linter.unusedSimpArgs false
set_option linter.unusedVariables false
attribute [local congr] T_congr callK_congr callWK_congr
attribute [local simp] run_nil run_op0 run_opg run_seq run_cond run_block run_ret run_skip run_skip_after run_skip_blk run_exit run_exit_after run_exit_blk run_loop run_any runS_nil runS_op0 runS_opg runW_nil runW_op0 runW_opg exec_q exec_w exec_c exec_n execW_q execW_w execW_c restW_app hideH_app merge_app wblk rest_app restS_app execS_q execS_c aval dOk upd_app ev_t ev_c setO_some setO_none put_mk pinsOf isIo hasIo sbin endR fin resL one outL out1 clo1 cloL coe coeL shut shut.shutL wantA weff cellsOf fillA deref natOf ρ0_app h0_app plain plain.plainL keep_app keepH_app andThen_normal andThen_ret andThen_exit pop_nil pop_after pop_after_ret pop_after_exit pop_blk pop_blk_ret pop_blk_exit nilA srcOf srcCells keepR_app keepHR_app renA rb
/- 3: loop.example/g00464/laws.FnExactCacheGet -/
def A3 : AC := (.seq (.ops [⟨(some 4), none, .q (.mov (.c (.sc (.bool false))))⟩])
  (.seq (.seq (.ops [⟨(some 17), none, .q (.mov (.t 1))⟩, ⟨(some 18), none, .q (.llen (.t 17))⟩, ⟨(some 19), none, .q (.bin .gtr (.t 18) (.c (.sc (.int .i64 1048576))))⟩])
  (.cond (.t 19) (.seq (.ops [⟨(some 4), none, .q (.mov (.c (.sc (.bool true))))⟩])
  .ret)
  .skip))
  (.seq (.ops [⟨(some 5), none, .q (.mov (.c (.sc (.int .i64 1048576))))⟩])
  (.seq (.ops [⟨(some 20), none, .q (.mov (.t 0))⟩, ⟨(some 21), none, .q (.mov (.t 5))⟩, ⟨(some 22), none, .c (.c (.clo 4 [])) [(.t 20), (.t 21)]⟩, ⟨(some 5), none, .q (.mov (.t 22))⟩])
  (.seq (.seq (.ops [⟨(some 23), none, .q (.mov (.t 5))⟩, ⟨(some 24), none, .q (.bin .lss (.t 23) (.c (.sc (.int .i64 0))))⟩])
  (.cond (.t 24) (.seq (.ops [⟨(some 4), none, .q (.mov (.c (.sc (.bool true))))⟩])
  .ret)
  .skip))
  (.seq (.ops [⟨(some 26), none, .q (.mov (.t 0))⟩, ⟨(some 27), none, .c (.c (.clo 6 [])) [(.t 26)]⟩, ⟨(some 28), none, .q (.mov (.t 1))⟩, ⟨(some 29), none, .c (.c (.clo 7 [])) [(.t 28)]⟩, ⟨(some 30), none, .c (.c (.clo 5 [])) [(.t 27), (.t 29)]⟩, ⟨(some 25), none, .q (.mov (.t 30))⟩, ⟨(some 31), none, .q (.ext (.t 25) 0)⟩, ⟨(some 32), none, .q (.ext (.t 25) 1)⟩, ⟨(some 6), none, .w (.alloc [(.sc (.string ⟨#[]⟩)), .em, (.sc (.string ⟨#[]⟩))])⟩, ⟨none, none, .w (.store 3 (.t 6) (.t 31))⟩, ⟨(some 7), none, .q (.mov (.t 32))⟩])
  (.seq (.ops [⟨(some 33), none, .q (.mov (.t 0))⟩, ⟨(some 34), none, .c (.c (.clo 6 [])) [(.t 33)]⟩, ⟨(some 8), none, .q (.mov (.t 34))⟩])
  (.seq (.ops [⟨(some 35), none, .q (.mov (.t 1))⟩, ⟨(some 36), none, .c (.c (.clo 7 [])) [(.t 35)]⟩, ⟨(some 9), none, .q (.mov (.t 36))⟩])
  (.seq (.ops [⟨(some 38), none, .q (.mov (.t 8))⟩, ⟨(some 39), none, .q (.mov (.t 9))⟩, ⟨(some 40), none, .c (.c (.clo 8 [])) [(.t 38), (.t 39)]⟩, ⟨(some 37), none, .q (.mov (.t 40))⟩, ⟨(some 41), none, .q (.ext (.t 37) 0)⟩, ⟨(some 42), none, .q (.ext (.t 37) 1)⟩, ⟨(some 10), none, .w (.alloc [(.sc (.string ⟨#[]⟩)), .em, (.sc (.string ⟨#[]⟩))])⟩, ⟨none, none, .w (.store 3 (.t 10) (.t 41))⟩, ⟨(some 11), none, .q (.mov (.t 42))⟩])
  (.seq (.seq (.ops [⟨(some 43), none, .q (.load true 3 (.t 10))⟩, ⟨(some 44), none, .q (.load true 3 (.t 6))⟩, ⟨(some 45), none, .c (.c (.clo 9 [])) [(.t 43), (.t 44)]⟩, ⟨(some 46), none, .q (.not (.t 45))⟩, ⟨(some 47), none, .q (.mov (.t 46))⟩, ⟨(some 48), (some (47, false)), .q (.mov (.t 11))⟩, ⟨(some 49), (some (47, false)), .q (.mov (.t 7))⟩, ⟨(some 50), (some (47, false)), .q (.beq true (.t 48) (.t 49))⟩, ⟨(some 51), none, .q (.pick (.t 47) (.c (.sc (.bool true))) (.t 50))⟩])
  (.cond (.t 51) (.seq (.ops [⟨(some 4), none, .q (.mov (.c (.sc (.bool false))))⟩])
  .ret)
  .skip))
  (.seq (.seq (.ops [⟨(some 52), none, .q (.mov (.t 8))⟩, ⟨(some 53), none, .q (.mov (.t 0))⟩, ⟨(some 54), none, .c (.c (.clo 6 [])) [(.t 53)]⟩, ⟨(some 55), none, .c (.c (.clo 10 [])) [(.t 52), (.t 54)]⟩, ⟨(some 56), none, .q (.not (.t 55))⟩])
  (.cond (.t 56) (.seq (.ops [⟨(some 4), none, .q (.mov (.c (.sc (.bool false))))⟩])
  .ret)
  .skip))
  (.seq (.seq (.ops [⟨(some 57), none, .q (.mov (.t 9))⟩, ⟨(some 58), none, .q (.mov (.t 1))⟩, ⟨(some 59), none, .c (.c (.clo 7 [])) [(.t 58)]⟩, ⟨(some 60), none, .c (.c (.clo 11 [])) [(.t 57), (.t 59)]⟩, ⟨(some 61), none, .q (.not (.t 60))⟩])
  (.cond (.t 61) (.seq (.ops [⟨(some 4), none, .q (.mov (.c (.sc (.bool false))))⟩])
  .ret)
  .skip))
  (.seq (.ops [⟨(some 12), none, .q (.mov (.c (.sc (.int .i64 1))))⟩])
  (.seq (.ops [⟨(some 62), none, .q (.mov (.t 8))⟩, ⟨(some 63), none, .q (.mov (.t 12))⟩, ⟨(some 64), none, .c (.c (.clo 12 [])) [(.t 62), (.t 63)]⟩, ⟨(some 12), none, .q (.mov (.t 64))⟩])
  (.seq (.ops [⟨(some 65), none, .q (.mov (.t 9))⟩, ⟨(some 66), none, .q (.mov (.t 12))⟩, ⟨(some 67), none, .c (.c (.clo 13 [])) [(.t 65), (.t 66)]⟩, ⟨(some 12), none, .q (.mov (.t 67))⟩])
  (.seq (.seq (.ops [⟨(some 68), none, .q (.mov (.t 12))⟩, ⟨(some 69), none, .q (.bin .lss (.t 68) (.c (.sc (.int .i64 0))))⟩, ⟨(some 70), none, .q (.mov (.t 69))⟩, ⟨(some 71), (some (70, false)), .q (.load true 3 (.t 10))⟩, ⟨(some 72), (some (70, false)), .q (.load true 3 (.t 6))⟩, ⟨(some 73), (some (70, false)), .c (.c (.clo 9 [])) [(.t 71), (.t 72)]⟩, ⟨(some 74), (some (70, false)), .q (.not (.t 73))⟩, ⟨(some 75), none, .q (.pick (.t 70) (.c (.sc (.bool true))) (.t 74))⟩, ⟨(some 76), none, .q (.mov (.t 75))⟩, ⟨(some 77), (some (76, false)), .q (.mov (.t 11))⟩, ⟨(some 78), (some (76, false)), .q (.mov (.t 7))⟩, ⟨(some 79), (some (76, false)), .q (.beq true (.t 77) (.t 78))⟩, ⟨(some 80), none, .q (.pick (.t 76) (.c (.sc (.bool true))) (.t 79))⟩])
  (.cond (.t 80) (.seq (.ops [⟨(some 4), none, .q (.mov (.c (.sc (.bool false))))⟩])
  .ret)
  .skip))
  (.seq (.ops [⟨(some 13), none, .q (.mov (.c (.sc (.int .i64 1))))⟩])
  (.seq (.ops [⟨(some 81), none, .q (.load true 3 (.t 10))⟩, ⟨(some 82), none, .q (.mov (.t 13))⟩, ⟨(some 83), none, .c (.c (.clo 14 [])) [(.t 81), (.t 82)]⟩, ⟨(some 13), none, .q (.mov (.t 83))⟩])
  (.seq (.ops [⟨(some 14), none, .q (.mov (.c (.sc (.int .i64 1))))⟩])
  (.seq (.ops [⟨(some 84), none, .q (.load true 3 (.t 10))⟩, ⟨(some 85), none, .q (.mov (.t 14))⟩, ⟨(some 86), none, .c (.c (.clo 15 [])) [(.t 84), (.t 85)]⟩, ⟨(some 14), none, .q (.mov (.t 86))⟩])
  (.seq (.seq (.ops [⟨(some 87), none, .q (.mov (.t 14))⟩, ⟨(some 88), none, .q (.bin .lss (.t 87) (.c (.sc (.int .i64 0))))⟩])
  (.cond (.t 88) (.seq (.ops [⟨(some 4), none, .q (.mov (.c (.sc (.bool false))))⟩])
  .ret)
  .skip))
  (.seq (.seq (.ops [⟨(some 89), none, .q (.mov (.t 14))⟩, ⟨(some 90), none, .q (.mov (.t 13))⟩, ⟨(some 91), none, .q (.bin .neq (.t 89) (.t 90))⟩])
  (.cond (.t 91) (.seq (.ops [⟨(some 4), none, .q (.mov (.c (.sc (.bool false))))⟩])
  .ret)
  .skip))
  (.seq (.ops [⟨(some 93), none, .q (.mov (.t 0))⟩, ⟨(some 94), none, .c (.c (.clo 6 [])) [(.t 93)]⟩, ⟨(some 95), none, .q (.mov (.t 1))⟩, ⟨(some 96), none, .c (.c (.clo 7 [])) [(.t 95)]⟩, ⟨(some 97), none, .c (.c (.clo 8 [])) [(.t 94), (.t 96)]⟩, ⟨(some 92), none, .q (.mov (.t 97))⟩, ⟨(some 98), none, .q (.ext (.t 92) 0)⟩, ⟨(some 99), none, .q (.ext (.t 92) 1)⟩, ⟨(some 15), none, .w (.alloc [(.sc (.string ⟨#[]⟩)), .em, (.sc (.string ⟨#[]⟩))])⟩, ⟨none, none, .w (.store 3 (.t 15) (.t 98))⟩, ⟨(some 16), none, .q (.mov (.t 99))⟩])
  (.seq (.seq (.ops [⟨(some 100), none, .q (.load true 3 (.t 15))⟩, ⟨(some 101), none, .q (.load true 3 (.t 6))⟩, ⟨(some 102), none, .c (.c (.clo 9 [])) [(.t 100), (.t 101)]⟩, ⟨(some 103), none, .q (.not (.t 102))⟩, ⟨(some 104), none, .q (.mov (.t 103))⟩, ⟨(some 105), (some (104, false)), .q (.mov (.t 16))⟩, ⟨(some 106), (some (104, false)), .q (.mov (.t 7))⟩, ⟨(some 107), (some (104, false)), .q (.beq true (.t 105) (.t 106))⟩, ⟨(some 108), none, .q (.pick (.t 104) (.c (.sc (.bool true))) (.t 107))⟩])
  (.cond (.t 108) (.seq (.ops [⟨(some 4), none, .q (.mov (.c (.sc (.bool false))))⟩])
  .ret)
  .skip))
  (.seq (.ops [⟨(some 14), none, .q (.mov (.c (.sc (.int .i64 1))))⟩])
  (.seq (.ops [⟨(some 109), none, .q (.load true 3 (.t 10))⟩, ⟨(some 110), none, .q (.mov (.t 14))⟩, ⟨(some 111), none, .c (.c (.clo 15 [])) [(.t 109), (.t 110)]⟩, ⟨(some 14), none, .q (.mov (.t 111))⟩])
  (.seq (.seq (.ops [⟨(some 112), none, .q (.mov (.t 14))⟩, ⟨(some 113), none, .q (.bin .lss (.t 112) (.c (.sc (.int .i64 0))))⟩])
  (.cond (.t 113) (.seq (.ops [⟨(some 4), none, .q (.mov (.c (.sc (.bool false))))⟩])
  .ret)
  .skip))
  (.seq (.seq (.ops [⟨(some 114), none, .q (.mov (.t 14))⟩, ⟨(some 115), none, .q (.mov (.t 13))⟩, ⟨(some 116), none, .q (.bin .neq (.t 114) (.t 115))⟩])
  (.cond (.t 116) (.seq (.ops [⟨(some 4), none, .q (.mov (.c (.sc (.bool false))))⟩])
  .ret)
  .skip))
  (.seq (.ops [⟨(some 4), none, .q (.mov (.c (.sc (.bool true))))⟩])
  .ret)))))))))))))))))))))))))))))
theorem K3 : Tryd.f3.body.bind (comp Tryd.prog) = some A3 ∧ Tryd.f3.ntmps = 117 ∧ Tryd.f3.results.toList.mapM (resB Tryd.prog) = some [.mov (.t 4)] := ⟨by kernel_rfl, by kernel_rfl, by kernel_rfl⟩
set_option maxHeartbeats 8000000 in
set_option maxRecDepth 100000 in
theorem R3 (aL : List Slot) (haL : Slot.ty.slice.ok aL) (aKey : List Int) (haKey : Ty.byte.slice.ok aKey) : Ret Tryd.prog 3 [.ro (rows Slot.ty.cs aL) aL.length, .ro (rows Ty.byte.cs aKey) aKey.length] (.sc (.bool true)) [.un, .un] := by
  by_cases gaKey : (1048576 : Int) < aKey.length
  · refine Ret.run Tryd.func3 K3 (by simp) rfl rfl 900 ?_
    simp [A3, iniρ, over, Made.cse, Made.oce, gaKey]
  obtain ⟨m0, e0, q0⟩ := R4 aL haL 1048576 (by omega) (by omega)
  by_cases n0 : m0 < 0
  · refine Ret.run Tryd.func3 K3 (by simp) rfl rfl 900 ?_
    simp [A3, iniρ, over, Made.cse, Made.oce, gaKey, n0]
    refine callK.ro 0 rfl (by kernel_rfl) (by simp [roc_sc, roc_ro, roc_em, roc_agg, Made.cse, Made.oce, gaKey, n0]) q0 rfl rfl rfl ?_
    simp [over, Made.cse, Made.oce, gaKey, n0]
  have e0 := e0.resolve_left n0
  have we_x0 : Slot.ty.slice.wt aL = aL.length + wtL Slot.ty.wt aL := rfl
  have tw_x0 := toL_wt Slot.totw aL
  have hn_x0 : aL.length < 4611686018427387904 := Slot.ty.lenb (by decide) haL
  have rk_x0 := R12 aL (1) (by omega) (by omega) hn_x0
  have pk_x0 : ¬ ((1 + (toL Slot.tot aL : Nat) : Int) < 0) := by omega
  have rk_x1 := R13 aKey (1 + (toL Slot.tot aL : Nat)) (by omega) (by omega)
  have pk_x1 : ¬ ((1 + (toL Slot.tot aL : Nat) + (aKey.length : Nat) : Int) < 0) := by omega
  obtain ⟨y, yb, hy, yf⟩ := madeA_is (o := cacheGet aL aKey) fun m h => cacheGet_fit haL h
  have yo := fit_ok yf
  have rs : Ret Tryd.prog 5 [.ro (rows Slot.ty.cs aL) aL.length, .ro (rows Ty.byte.cs aKey) aKey.length] (madeA (cacheGet aL aKey)) [.un, .un] := R5 aL aKey haL
  have ri : Ret Tryd.prog 8 [.ro (rows Slot.ty.cs aL) aL.length, .ro (rows Ty.byte.cs aKey) aKey.length] (madeA (cacheGet aL aKey)) [.un, .un] := R8 aL aKey haL
  rw [hy] at rs ri
  have fR : flt (.tup [.agg (Made.ty.oc y), .sc (.bool yb)]) = true := by
    have := Made.ty.flL y
    simp [flt, flt.fltL, this]
  have re0 := R9 y yo
  have hyn := yf.num
  have hyt := toL_wt File.totw y.outs
  have hyo : toL File.tot y.outs = 2 * y.outs.length := File.totL y.outs
  have rm0 := R14 y 1 (by omega) (by omega) (by omega)
  have rh0 := R15 y 1 (by omega) (by omega) (by omega)
  have pm : ¬ (1 + (toL File.tot y.outs : Int) < 0) := by omega
  have ml : (mkL File.mark File.tot y.outs 1).length = y.outs.length := mkL_len ..
  have hrm0 : ∀ {h : Hp} {b : Nat} {lim : Bool}, h b = some (some (rows File.ty.oc (mkL File.mark File.tot y.outs 1))) → roc h 7 (.sl b 0 y.outs.length 2 lim) = some (.ro (rows File.ty.cs (mkL File.mark File.tot y.outs 1)) y.outs.length) := fun {h b lim} hb => by
    have e := File.roc7 (lim := lim) hb
    rwa [ml] at e
  have hro0 : True := trivial
  refine Ret.run Tryd.func3 K3 (by simp) rfl rfl 900 ?_
  simp [A3, iniρ, over, Made.cse, Made.oce, gaKey, n0, pk_x0, pk_x1, pm]
  refine callK.ro 0 rfl (by kernel_rfl) (by simp [roc_sc, roc_ro, roc_em, roc_agg, Made.cse, Made.oce, gaKey, n0, pk_x0, pk_x1, pm]) q0 rfl rfl rfl ?_
  simp [over, merge_nil, hideH_nil, Made.cse, Made.oce, gaKey, n0, pk_x0, pk_x1, pm]
  refine callK.ro 602 rfl (by kernel_rfl) (by simp [roc_sc, roc_ro, roc_em, roc_agg, Made.cse, Made.oce, gaKey, n0, pk_x0, pk_x1, pm]) (R6 aL haL) (Slot.ty.flo aL) (by simp [inst, instL, upd_app]; exact ⟨rfl, rfl⟩) rfl ?_
  simp [over, merge_nil, hideH_nil, Made.cse, Made.oce, gaKey, n0, pk_x0, pk_x1, pm]
  refine callK.ro 603 rfl (by kernel_rfl) (by simp [roc_sc, roc_ro, roc_em, roc_agg, Made.cse, Made.oce, gaKey, n0, pk_x0, pk_x1, pm]) (R7 aKey haKey) (Ty.byte.flo aKey) (by simp [inst, instL, upd_app]; exact ⟨rfl, rfl⟩) rfl ?_
  simp [over, merge_nil, hideH_nil, Made.cse, Made.oce, gaKey, n0, pk_x0, pk_x1, pm]
  refine callK.ro 604 rfl (by kernel_rfl) (by simp [roc_sc, roc_ro, roc_em, roc_agg, Slot.roc8, byte_roc8, Made.cse, Made.oce, gaKey, n0, pk_x0, pk_x1, pm]) rs fR (by simp [inst, instL, shut, upd_app, Made.oce]; exact ⟨rfl, rfl⟩) rfl ?_
  simp [over, merge_nil, hideH_nil, Made.cse, Made.oce, gaKey, n0, pk_x0, pk_x1, pm]
  refine callK.ro 605 rfl (by kernel_rfl) (by simp [roc_sc, roc_ro, roc_em, roc_agg, Made.cse, Made.oce, gaKey, n0, pk_x0, pk_x1, pm]) (R6 aL haL) (Slot.ty.flo aL) (by simp [inst, instL, upd_app]; exact ⟨rfl, rfl⟩) rfl ?_
  simp [over, merge_nil, hideH_nil, Made.cse, Made.oce, gaKey, n0, pk_x0, pk_x1, pm]
  refine callK.ro 606 rfl (by kernel_rfl) (by simp [roc_sc, roc_ro, roc_em, roc_agg, Made.cse, Made.oce, gaKey, n0, pk_x0, pk_x1, pm]) (R7 aKey haKey) (Ty.byte.flo aKey) (by simp [inst, instL, upd_app]; exact ⟨rfl, rfl⟩) rfl ?_
  simp [over, merge_nil, hideH_nil, Made.cse, Made.oce, gaKey, n0, pk_x0, pk_x1, pm]
  refine callK.ro 607 rfl (by kernel_rfl) (by simp [roc_sc, roc_ro, roc_em, roc_agg, Slot.roc8, byte_roc8, Made.cse, Made.oce, gaKey, n0, pk_x0, pk_x1, pm]) ri fR (by simp [inst, instL, shut, upd_app, Made.oce]; exact ⟨rfl, rfl⟩) rfl ?_
  simp [over, merge_nil, hideH_nil, Made.cse, Made.oce, gaKey, n0, pk_x0, pk_x1, pm]
  refine callK.ro 0 rfl (by kernel_rfl) (by simp [roc_sc, roc_ro, roc_em, roc_agg, roc_agg8, List.mapM_cons, List.mapM_nil, File.roc7, hro0, Made.cse, Made.oce, gaKey, n0, pk_x0, pk_x1, pm]) re0 rfl rfl rfl ?_
  simp [over, merge_nil, hideH_nil, Made.cse, Made.oce, gaKey, n0, pk_x0, pk_x1, pm]
  refine callK.ro 609 rfl (by kernel_rfl) (by simp [roc_sc, roc_ro, roc_em, roc_agg, Made.cse, Made.oce, gaKey, n0, pk_x0, pk_x1, pm]) (R6 aL haL) (Slot.ty.flo aL) (by simp [inst, instL, upd_app]; exact ⟨rfl, rfl⟩) rfl ?_
  simp [over, merge_nil, hideH_nil, Made.cse, Made.oce, gaKey, n0, pk_x0, pk_x1, pm]
  refine callK.ro 0 rfl (by kernel_rfl) (by simp [roc_sc, roc_ro, roc_em, roc_agg, Slot.roc8, Made.cse, Made.oce, gaKey, n0, pk_x0, pk_x1, pm]) (R10 aL haL) rfl rfl rfl ?_
  simp [over, merge_nil, hideH_nil, Made.cse, Made.oce, gaKey, n0, pk_x0, pk_x1, pm]
  refine callK.ro 611 rfl (by kernel_rfl) (by simp [roc_sc, roc_ro, roc_em, roc_agg, Made.cse, Made.oce, gaKey, n0, pk_x0, pk_x1, pm]) (R7 aKey haKey) (Ty.byte.flo aKey) (by simp [inst, instL, upd_app]; exact ⟨rfl, rfl⟩) rfl ?_
  simp [over, merge_nil, hideH_nil, Made.cse, Made.oce, gaKey, n0, pk_x0, pk_x1, pm]
  refine callK.ro 0 rfl (by kernel_rfl) (by simp [roc_sc, roc_ro, roc_em, roc_agg, byte_roc8, Made.cse, Made.oce, gaKey, n0, pk_x0, pk_x1, pm]) (R11 aKey haKey) rfl rfl rfl ?_
  simp [over, merge_nil, hideH_nil, Made.cse, Made.oce, gaKey, n0, pk_x0, pk_x1, pm]
  refine callK.io (b := 605) (len := aL.length) (sz := 2) (cs := rows Slot.ty.oc aL) rfl (by kernel_rfl) (by simp [upd_app]) (by simp [upd_app]) (rows_length Slot.ty.ocn _) (Slot.ty.frL _) (by simp [upd_app]) rfl rk_x0 (mkrows_len Slot.ty _ _ _ _) (flrows Slot.ty _) rfl ?_
  simp [over, merge_nil, hideH_nil, Made.cse, Made.oce, gaKey, n0, pk_x0, pk_x1, pm]
  refine callK.io (b := 606) (len := aKey.length) (sz := 1) (cs := rows Ty.byte.oc aKey) rfl (by kernel_rfl) (by simp [upd_app]) (by simp [upd_app]) (rows_length Ty.byte.ocn _) (Ty.byte.frL _) (by simp [upd_app]) rfl rk_x1 (by show (rows B _).length = (rows B _).length; rw [B.count, B.count, mkB_len]) (fltL_rows B.fl _) rfl ?_
  simp [over, merge_nil, hideH_nil, Made.cse, Made.oce, gaKey, n0, pk_x0, pk_x1, pm]
  refine callK.ro 0 rfl (by kernel_rfl) (by simp [roc_sc, roc_ro, roc_em, roc_agg, roc_agg8, List.mapM_cons, List.mapM_nil, File.roc7, hro0, Made.cse, Made.oce, gaKey, n0, pk_x0, pk_x1, pm]) re0 rfl rfl rfl ?_
  simp [over, merge_nil, hideH_nil, Made.cse, Made.oce, gaKey, n0, pk_x0, pk_x1, pm]
  refine callK.ioM (u1 := .string y.task) (u2 := .string y.log) (b := 608001001) (len := y.outs.length) (sz := 2) (cs := rows File.ty.oc y.outs) rfl (by kernel_rfl) (by simp [upd_app]) (by simp [upd_app]) (rows_length File.ty.ocn _) (File.ty.frL _) (by simp [upd_app]) rfl rm0 (mkrows_len File.ty _ _ _ _) (flrows File.ty _) rfl ?_
  simp [over, merge_nil, hideH_nil, Made.cse, Made.oce, gaKey, n0, pk_x0, pk_x1, pm]
  refine callK.ro 0 rfl (by kernel_rfl) (by simp [roc_sc, roc_ro, roc_em, roc_agg, roc_agg8, List.mapM_cons, List.mapM_nil, hrm0, Made.cse, Made.oce, gaKey, n0, pk_x0, pk_x1, pm]) rh0 rfl rfl rfl ?_
  simp [over, merge_nil, hideH_nil, Made.cse, Made.oce, gaKey, n0, pk_x0, pk_x1, pm]
  refine callK.ro 618 rfl (by kernel_rfl) (by simp [roc_sc, roc_ro, roc_em, roc_agg, Made.cse, Made.oce, gaKey, n0, pk_x0, pk_x1, pm]) (R6 aL haL) (Slot.ty.flo aL) (by simp [inst, instL, upd_app]; exact ⟨rfl, rfl⟩) rfl ?_
  simp [over, merge_nil, hideH_nil, Made.cse, Made.oce, gaKey, n0, pk_x0, pk_x1, pm]
  refine callK.ro 619 rfl (by kernel_rfl) (by simp [roc_sc, roc_ro, roc_em, roc_agg, Made.cse, Made.oce, gaKey, n0, pk_x0, pk_x1, pm]) (R7 aKey haKey) (Ty.byte.flo aKey) (by simp [inst, instL, upd_app]; exact ⟨rfl, rfl⟩) rfl ?_
  simp [over, merge_nil, hideH_nil, Made.cse, Made.oce, gaKey, n0, pk_x0, pk_x1, pm]
  refine callK.ro 620 rfl (by kernel_rfl) (by simp [roc_sc, roc_ro, roc_em, roc_agg, Slot.roc8, byte_roc8, Made.cse, Made.oce, gaKey, n0, pk_x0, pk_x1, pm]) ri fR (by simp [inst, instL, shut, upd_app, Made.oce]; exact ⟨rfl, rfl⟩) rfl ?_
  simp [over, merge_nil, hideH_nil, Made.cse, Made.oce, gaKey, n0, pk_x0, pk_x1, pm]
  refine callK.ro 0 rfl (by kernel_rfl) (by simp [roc_sc, roc_ro, roc_em, roc_agg, roc_agg8, List.mapM_cons, List.mapM_nil, File.roc7, hro0, Made.cse, Made.oce, gaKey, n0, pk_x0, pk_x1, pm]) re0 rfl rfl rfl ?_
  simp [over, merge_nil, hideH_nil, Made.cse, Made.oce, gaKey, n0, pk_x0, pk_x1, pm]
  refine callK.ro 0 rfl (by kernel_rfl) (by simp [roc_sc, roc_ro, roc_em, roc_agg, roc_agg8, List.mapM_cons, List.mapM_nil, hrm0, Made.cse, Made.oce, gaKey, n0, pk_x0, pk_x1, pm]) rh0 rfl rfl rfl ?_
  simp [over, merge_nil, hideH_nil, Made.cse, Made.oce, gaKey, n0, pk_x0, pk_x1, pm]
end Go.Proofs.YtaknfalbmblagaaDoor.Am
