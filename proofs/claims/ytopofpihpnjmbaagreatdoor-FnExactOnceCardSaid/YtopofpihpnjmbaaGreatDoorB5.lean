/- The small machine and the contracts of the functions, part 5 (LawExactOnce); no condition. -/
import Derived.Test.YtopofpihpnjmbaaGreatDoorProg
import Derived.Test.YtopofpihpnjmbaaGreatDoorAmZ
import Derived.Test.YtopofpihpnjmbaaGreatDoorAmP
import Derived.Test.YtopofpihpnjmbaaGreatDoorB4
import Derived.KernelRfl
namespace Go.Proofs.YtopofpihpnjmbaaGreatDoor.Am
open Go Go.Proofs
set_option linter.unusedSimpArgs false
set_option linter.unusedVariables false
attribute [local congr] ZL yp Zm
attribute [local simp] YI yI ZI YH ZA Zv zI yz Yh zl zA Zi Zl Yz zJ zB YA yA yG ZG zG YX yX ZY zY ZS zS yS yB Za yc wblk ZB Yv yK YK aval dOk za ev_t ev_c Zt zv yT Yy isIo hasIo sbin endR fin resL one outL out1 clo1 cloL coe coeL shut shut.shutL wantA weff cellsOf fillA deref natOf ρ0_app ZX plain plain.plainL ye Ze zj Yp Ym ZJ zw zk yi yJ Zp Yl nilA srcOf Yn Zq Yo renA rb
def A5 : AC := (.seq (.ops [wO 4 (.box (.t 1)), qO 6 (.mov (.c (.sc (.bool false))))])
  (.seq (.ops [qO 7 (.mov (iC 1048576))])
  (.seq (.ops [qO 22 (.mov (.t 0)), qO 23 (.mov (.t 7)), cO 24 25 [.t 22, .t 23], qO 7 (.mov (.t 24))])
  (.seq (.seq (.ops [qO 25 (.mov (.t 7)), qO 26 (.bin .lss (.t 25) (iC 0))])
  (.cond (.t 26) (.seq (.ops [qO 6 (.mov (.c (.sc (.bool true))))])
  .ret)
  .skip))
  (.seq (.ops [qO 27 (.load true 5 (.t 4)), qO 28 (.mov (.t 7)), cO 29 26 [.t 27, .t 28], qO 7 (.mov (.t 29))])
  (.seq (.seq (.ops [qO 30 (.mov (.t 7)), qO 31 (.bin .lss (.t 30) (iC 0))])
  (.cond (.t 31) (.seq (.ops [qO 6 (.mov (.c (.sc (.bool true))))])
  .ret)
  .skip))
  (.seq (.any [(qO 33 (.mov (.t 0)), []), (cO 34 27 [.t 33], [0]), (qO 35 (.load true 5 (.t 4)), []), (cO 36 28 [.t 35], [2, 1]), (qO 37 (.mov (.t 2)), []), (cO 38 18 [.t 34, .t 36, .t 37], [1, 3, 4, 3]), (qO 32 (.mov (.t 38)), [5]), (qO 39 (.ext (.t 32) 0), [6]), (qO 40 (.ext (.t 32) 1), [6]), (qO 41 (.ext (.t 32) 2), [6]), (wO 9 (.alloc [(.sc (.string ⟨#[]⟩)), .em, (.sc (.string ⟨#[]⟩))]), []), (qO 8 (.mov (.t 39)), [7, 5, 0, 1, 2, 3, 4, 5, 6, 7, 10]), (nO (.store 3 (.t 9) (.t 40)), [10, 8, 11, 0, 1, 2, 3, 4, 5, 6, 7, 8, 10, 11]), (qO 10 (.mov (.t 41)), [9, 12, 0, 1, 2, 3, 4, 5, 6, 7, 8, 9, 10, 11, 12])])
  (.seq (.ops [qO 42 (.mov (.t 0)), cO 43 27 [.t 42], qO 11 (.mov (.t 43))])
  (.seq (.ops [qO 44 (.load true 5 (.t 4)), cO 45 28 [.t 44], wO 12 (.alloc [(.sc (.string ⟨#[]⟩)), .em, .em, .em, .em]), nO (.store 5 (.t 12) (.t 45))])
  (.seq (.ops [qO 47 (.mov (.t 11)), qO 48 (.load true 5 (.t 12)), qO 49 (.mov (.t 2)), cO 50 17 [.t 47, .t 48, .t 49], qO 46 (.mov (.t 50)), qO 51 (.ext (.t 46) 0), qO 52 (.ext (.t 46) 1), qO 53 (.ext (.t 46) 2), wO 14 (.alloc [(.sc (.string ⟨#[]⟩)), .em, (.sc (.string ⟨#[]⟩))]), qO 13 (.mov (.t 51)), nO (.store 3 (.t 14) (.t 52)), qO 15 (.mov (.t 53))])
  (.seq (.seq (.ops [qO 54 (.mov (.t 13)), qO 55 (.mov (.t 8)), cO 56 29 [.t 54, .t 55], qO 57 (.not (.t 56)), qO 58 (.mov (.t 57)), qG 59 58 false (.load true 3 (.t 14)), qG 60 58 false (.load true 3 (.t 9)), cG 61 58 false 30 [.t 59, .t 60], qG 62 58 false (.not (.t 61)), qO 63 (.pick (.t 58) (.c (.sc (.bool true))) (.t 62)), qO 64 (.mov (.t 63)), qG 65 64 false (.mov (.t 15)), qG 66 64 false (.mov (.t 10)), qG 67 64 false (.bin .neq (.t 65) (.t 66)), qO 68 (.pick (.t 64) (.c (.sc (.bool true))) (.t 67))])
  (.cond (.t 68) (.seq (.ops [qO 6 (.mov (.c (.sc (.bool false))))])
  .ret)
  .skip))
  (.seq (.seq (.ops [qO 69 (.mov (.t 11)), qO 70 (.mov (.t 0)), cO 71 27 [.t 70], cO 72 29 [.t 69, .t 71], qO 73 (.not (.t 72))])
  (.cond (.t 73) (.seq (.ops [qO 6 (.mov (.c (.sc (.bool false))))])
  .ret)
  .skip))
  (.seq (.seq (.any [(qO 74 (.load true 5 (.t 12)), []), (qO 75 (.load true 5 (.t 4)), []), (cO 76 28 [.t 75], [1]), (cO 77 31 [.t 74, .t 76], [0, 2, 2]), (qO 78 (.not (.t 77)), [3])])
  (.cond (.t 78) (.seq (.ops [qO 6 (.mov (.c (.sc (.bool false))))])
  .ret)
  .skip))
  (.seq (.ops [qO 16 (.mov (iC 1))])
  (.seq (.ops [qO 79 (.mov (.t 11)), qO 80 (.mov (.t 16)), cO 81 32 [.t 79, .t 80], qO 16 (.mov (.t 81))])
  (.seq (.ops [qO 82 (.load true 5 (.t 12)), qO 83 (.mov (.t 16)), cO 84 33 [.t 82, .t 83], qO 16 (.mov (.t 84))])
  (.seq (.seq (.ops [qO 85 (.mov (.t 16)), qO 86 (.bin .lss (.t 85) (iC 0)), qO 87 (.mov (.t 86)), qG 88 87 false (.mov (.t 13)), qG 89 87 false (.mov (.t 8)), cG 90 87 false 29 [.t 88, .t 89], qG 91 87 false (.not (.t 90)), qO 92 (.pick (.t 87) (.c (.sc (.bool true))) (.t 91)), qO 93 (.mov (.t 92)), qG 94 93 false (.load true 3 (.t 14)), qG 95 93 false (.load true 3 (.t 9)), cG 96 93 false 30 [.t 94, .t 95], qG 97 93 false (.not (.t 96)), qO 98 (.pick (.t 93) (.c (.sc (.bool true))) (.t 97)), qO 99 (.mov (.t 98)), qG 100 99 false (.mov (.t 15)), qG 101 99 false (.mov (.t 10)), qG 102 99 false (.bin .neq (.t 100) (.t 101)), qO 103 (.pick (.t 99) (.c (.sc (.bool true))) (.t 102))])
  (.cond (.t 103) (.seq (.ops [qO 6 (.mov (.c (.sc (.bool false))))])
  .ret)
  .skip))
  (.seq (.ops [qO 17 (.mov (iC 1))])
  (.seq (.ops [qO 104 (.mov (.t 13)), qO 105 (.mov (.t 17)), cO 106 32 [.t 104, .t 105], qO 17 (.mov (.t 106))])
  (.seq (.ops [qO 107 (.load true 3 (.t 14)), qO 108 (.mov (.t 17)), cO 109 34 [.t 107, .t 108], qO 17 (.mov (.t 109))])
  (.seq (.ops [qO 18 (.mov (iC 1))])
  (.seq (.ops [qO 110 (.mov (.t 13)), qO 111 (.mov (.t 18)), cO 112 35 [.t 110, .t 111], qO 18 (.mov (.t 112))])
  (.seq (.seq (.ops [qO 113 (.mov (.t 18)), qO 114 (.bin .lss (.t 113) (iC 0))])
  (.cond (.t 114) (.seq (.ops [qO 6 (.mov (.c (.sc (.bool false))))])
  .ret)
  .skip))
  (.seq (.ops [qO 115 (.load true 3 (.t 14)), qO 116 (.mov (.t 18)), cO 117 36 [.t 115, .t 116], qO 18 (.mov (.t 117))])
  (.seq (.seq (.ops [qO 118 (.mov (.t 18)), qO 119 (.bin .lss (.t 118) (iC 0))])
  (.cond (.t 119) (.seq (.ops [qO 6 (.mov (.c (.sc (.bool false))))])
  .ret)
  .skip))
  (.seq (.seq (.ops [qO 120 (.mov (.t 18)), qO 121 (.mov (.t 17)), qO 122 (.bin .neq (.t 120) (.t 121))])
  (.cond (.t 122) (.seq (.ops [qO 6 (.mov (.c (.sc (.bool false))))])
  .ret)
  .skip))
  (.seq (.any [(qO 124 (.mov (.t 0)), []), (cO 125 27 [.t 124], [0]), (qO 126 (.load true 5 (.t 4)), []), (cO 127 28 [.t 126], [2, 1]), (qO 128 (.mov (.t 2)), []), (cO 129 17 [.t 125, .t 127, .t 128], [1, 3, 4, 3]), (qO 123 (.mov (.t 129)), [5]), (qO 130 (.ext (.t 123) 0), [6]), (qO 131 (.ext (.t 123) 1), [6]), (qO 132 (.ext (.t 123) 2), [6]), (wO 20 (.alloc [(.sc (.string ⟨#[]⟩)), .em, (.sc (.string ⟨#[]⟩))]), []), (qO 19 (.mov (.t 130)), [7, 5, 0, 1, 2, 3, 4, 5, 6, 7, 10]), (nO (.store 3 (.t 20) (.t 131)), [10, 8, 11, 0, 1, 2, 3, 4, 5, 6, 7, 8, 10, 11]), (qO 21 (.mov (.t 132)), [9, 12, 0, 1, 2, 3, 4, 5, 6, 7, 8, 9, 10, 11, 12])])
  (.seq (.seq (.ops [qO 133 (.mov (.t 19)), qO 134 (.mov (.t 8)), cO 135 29 [.t 133, .t 134], qO 136 (.not (.t 135)), qO 137 (.mov (.t 136)), qG 138 137 false (.load true 3 (.t 20)), qG 139 137 false (.load true 3 (.t 9)), cG 140 137 false 30 [.t 138, .t 139], qG 141 137 false (.not (.t 140)), qO 142 (.pick (.t 137) (.c (.sc (.bool true))) (.t 141)), qO 143 (.mov (.t 142)), qG 144 143 false (.mov (.t 21)), qG 145 143 false (.mov (.t 10)), qG 146 143 false (.bin .neq (.t 144) (.t 145)), qO 147 (.pick (.t 143) (.c (.sc (.bool true))) (.t 146))])
  (.cond (.t 147) (.seq (.ops [qO 6 (.mov (.c (.sc (.bool false))))])
  .ret)
  .skip))
  (.seq (.ops [qO 18 (.mov (iC 1))])
  (.seq (.ops [qO 148 (.mov (.t 13)), qO 149 (.mov (.t 18)), cO 150 35 [.t 148, .t 149], qO 18 (.mov (.t 150))])
  (.seq (.seq (.ops [qO 151 (.mov (.t 18)), qO 152 (.bin .lss (.t 151) (iC 0))])
  (.cond (.t 152) (.seq (.ops [qO 6 (.mov (.c (.sc (.bool false))))])
  .ret)
  .skip))
  (.seq (.ops [qO 153 (.load true 3 (.t 14)), qO 154 (.mov (.t 18)), cO 155 36 [.t 153, .t 154], qO 18 (.mov (.t 155))])
  (.seq (.seq (.ops [qO 156 (.mov (.t 18)), qO 157 (.bin .lss (.t 156) (iC 0))])
  (.cond (.t 157) (.seq (.ops [qO 6 (.mov (.c (.sc (.bool false))))])
  .ret)
  .skip))
  (.seq (.seq (.ops [qO 158 (.mov (.t 18)), qO 159 (.mov (.t 17)), qO 160 (.bin .neq (.t 158) (.t 159))])
  (.cond (.t 160) (.seq (.ops [qO 6 (.mov (.c (.sc (.bool false))))])
  .ret)
  .skip))
  (.seq (.ops [qO 6 (.mov (.c (.sc (.bool true))))])
  .ret)))))))))))))))))))))))))))))))))))
theorem K5 : Kf Tryz.prog Tryz.f5 A5 161 [.mov (.t 6)] := ⟨by kernel_rfl, by kernel_rfl, by kernel_rfl⟩
set_option maxHeartbeats 8000000 in
set_option maxRecDepth 100000 in
theorem R5 (aL : List Slot) (haL : Slot.ty.slice.ok aL) (aJ : Job) (haJ : Job.ty.ok aJ) (aKeep : Bool) (haKeep : Ty.bool.ok aKeep) : Ret Tryz.prog 5 [.ro (rows Slot.ty.cs aL) aL.length, .agg (Job.ty.cs aJ), .sc (.bool aKeep)] (.sc (.bool true)) [.un, .un, .un] := by
  obtain ⟨m0, e0, q0⟩ := R25 aL haL 1048576 (by omega) (by omega)
  by_cases n0 : m0 < 0
  · refine Ret.run Tryz.func5 K5 (by simp) rfl rfl 900 ?_
    simp [A5, iniρ, over, Job.cse, Made.cse, Job.oce, Made.oce, n0]
    refine callK.ro 0 rfl (by kernel_rfl) (by simp [ya, zd, Zr, yd, Job.cse, Made.cse, Job.oce, Made.oce, n0]) q0 rfl rfl rfl ?_
    simp [over, Job.cse, Made.cse, Job.oce, Made.oce, n0]
  have e0 := e0.resolve_left n0
  obtain ⟨m1, e1, q1⟩ := R26 aJ haJ m0 (by omega) (by omega)
  by_cases n1 : m1 < 0
  · refine Ret.run Tryz.func5 K5 (by simp) rfl rfl 900 ?_
    simp [A5, iniρ, over, Job.cse, Made.cse, Job.oce, Made.oce, n0, n1]
    refine callK.ro 0 rfl (by kernel_rfl) (by simp [ya, zd, Zr, yd, Job.cse, Made.cse, Job.oce, Made.oce, n0, n1]) q0 rfl rfl rfl ?_
    simp [over, Job.cse, Made.cse, Job.oce, Made.oce, n0, n1]
    refine callK.ro 0 rfl (by kernel_rfl) (by simp [ya, zd, Zr, yd, Job.cse, Made.cse, Job.oce, Made.oce, n0, n1]) q1 rfl rfl rfl ?_
    simp [over, Job.cse, Made.cse, Job.oce, Made.oce, n0, n1]
  have e1 := e1.resolve_left n1
  have we_x0 : Slot.ty.slice.wt aL = aL.length + wtL Slot.ty.wt aL := rfl
  have tw_x0 := zt Slot.totw aL
  have hn_x0 : aL.length < 4611686018427387904 := Slot.ty.lenb (by decide) haL
  have rk_x0 := R32 aL (1) (by omega) (by omega) hn_x0
  have pk_x0 : ¬ ((1 + (toL Slot.tot aL : Nat) : Int) < 0) := by omega
  have tw_x1 := Job.stotw aJ
  have rk_x1 := R33 aJ (1 + (toL Slot.tot aL : Nat)) (by omega) (by omega)
  rw [Job.oce] at rk_x1
  have pk_x1 : ¬ ((1 + (toL Slot.tot aL : Nat) + (Job.stot aJ : Nat) : Int) < 0) := by omega
  have oj : OJ aJ := OJ.of (by omega)
  have hAx : aL.length ≤ 2000000 := by omega
  obtain ⟨yo, yl, yt⟩ := zdH (keep := aKeep) haL hAx oj
  obtain ⟨mo, mn⟩ := zeh (keep := aKeep) haL oj
  have hkk := oj.key
  have rs : Ret Tryz.prog 18 [.ro (rows Slot.ty.cs aL) aL.length, .agg (Job.ty.cs aJ), .sc (.bool aKeep)] (.tup [.own (rows Slot.ty.oc (onceV aL aJ aKeep).1) (onceV aL aJ aKeep).1.length 2, .agg (Made.ty.oc (onceV aL aJ aKeep).2.1), .sc (.int .i64 (onceV aL aJ aKeep).2.2)]) [.un, .un, .un] := R18 aL aJ aKeep haL oj
  have ri : Ret Tryz.prog 17 [.ro (rows Slot.ty.cs aL) aL.length, .agg (Job.ty.cs aJ), .sc (.bool aKeep)] (.tup [.own (rows Slot.ty.oc (onceV aL aJ aKeep).1) (onceV aL aJ aKeep).1.length 2, .agg (Made.ty.oc (onceV aL aJ aKeep).2.1), .sc (.int .i64 (onceV aL aJ aKeep).2.2)]) [.un, .un, .un] := R17 aL aJ aKeep haL oj
  obtain ⟨y, hy⟩ : ∃ y, y = (onceV aL aJ aKeep).1 := ⟨_, rfl⟩
  obtain ⟨ym, hym⟩ : ∃ y, y = (onceV aL aJ aKeep).2.1 := ⟨_, rfl⟩
  obtain ⟨yv, hyv⟩ : ∃ y, y = (onceV aL aJ aKeep).2.2 := ⟨_, rfl⟩
  rw [← hy] at rs ri yo yl yt
  rw [← hym] at rs ri mo mn
  rw [← hyv] at rs ri
  have fR : flt (.tup [.own (rows Slot.ty.oc y) y.length 2, .agg (Made.ty.oc ym), .sc (.int .i64 yv)]) = true := by
    have h1 := Slot.ty.flo y
    have h2 := Made.ty.flL ym
    simp only [flt, flt.fltL, Bool.and_eq_true] at h1 h2 ⊢
    exact ⟨h1, h2, trivial, trivial⟩
  have re0 := R29 y yo
  have re1 := R30 ym mo
  have hyo : toL File.tot ym.outs = 2 * ym.outs.length := File.totL ym.outs
  have rm0 := R32 y 1 (by omega) (by omega) (by omega)
  have rm1 := R34 ym (1 + (toL Slot.tot y : Nat)) (by omega) (by omega) (by omega)
  have rh0 := R35 y 1 (by omega) (by omega) (by omega)
  rw [Zu] at rh0
  have rh1 := R36 ym (1 + (toL Slot.tot y : Nat)) (by omega) (by omega) (by omega)
  have pm : ¬ (1 + (toL Slot.tot y : Int) < 0) := by omega
  have pm1 : ¬ (1 + (toL Slot.tot y : Int) + (toL File.tot ym.outs : Int) < 0) := by omega
  have hrm0 : ∀ {h : Hp} {b : Nat} {lim : Bool}, h b = some (some (rows Slot.ty.oc (mkL Slot.mark Slot.tot y 1))) → roc h 8 (.sl b 0 y.length 2 lim) = some (.ro (rows Slot.ty.cs (mkL Slot.mark Slot.tot y 1)) y.length) := fun {h b lim} hb => Slot.rocm hb (Zu ..)
  have ml : (mkL File.mark File.tot ym.outs (1 + (toL Slot.tot y : Nat))).length = ym.outs.length := Zu ..
  have hrm1 : ∀ {h : Hp} {b : Nat} {lim : Bool}, h b = some (some (rows File.ty.oc (mkL File.mark File.tot ym.outs (1 + (toL Slot.tot y : Nat))))) → roc h 7 (.sl b 0 ym.outs.length 2 lim) = some (.ro (rows File.ty.cs (mkL File.mark File.tot ym.outs (1 + (toL Slot.tot y : Nat)))) ym.outs.length) := fun {h b lim} hb => by
    have e := File.roc7 (lim := lim) hb
    rwa [ml] at e
  have hro0 : True := trivial
  have hro1 : True := trivial
  refine Ret.run Tryz.func5 K5 (by simp) rfl rfl 900 ?_
  simp [A5, iniρ, over, Job.cse, Made.cse, Job.oce, Made.oce, n0, n1, pk_x0, pk_x1, pm, pm1]
  refine callK.ro 0 rfl (by kernel_rfl) (by simp [ya, zd, Zr, yd, Job.cse, Made.cse, Job.oce, Made.oce, n0, n1, pk_x0, pk_x1, pm, pm1]) q0 rfl rfl rfl ?_
  simp [over, Zb, yb, Job.cse, Made.cse, Job.oce, Made.oce, n0, n1, pk_x0, pk_x1, pm, pm1]
  refine callK.ro 0 rfl (by kernel_rfl) (by simp [ya, zd, Zr, yd, Job.cse, Made.cse, Job.oce, Made.oce, n0, n1, pk_x0, pk_x1, pm, pm1]) q1 rfl rfl rfl ?_
  simp [over, Zb, yb, Job.cse, Made.cse, Job.oce, Made.oce, n0, n1, pk_x0, pk_x1, pm, pm1]
  refine T.textW 400 [([], [9]), ([603], [9]), ([], [9, 603]), ([605001, 605002, 605003, 605004], [9]), ([], [9, 603, 605001, 605002, 605003, 605004]), ([606000, 606002001], [9]), ([], [9]), ([], [9]), ([], [9]), ([], [9]), ([9], [603, 605001, 605002, 605003, 605004, 606000, 606002001]), ([], []), ([9], []), ([], [])] mixed (by kernel_rfl) (by kernel_rfl) ?_
  simp [over, Zb, yb, Job.cse, Made.cse, Job.oce, Made.oce, n0, n1, pk_x0, pk_x1, pm, pm1]
  refine Yf.ro 603 rfl (by kernel_rfl) (by simp [ya, zd, Zr, yd, Job.cse, Made.cse, Job.oce, Made.oce, n0, n1, pk_x0, pk_x1, pm, pm1]) (R27 aL haL) (Slot.ty.flo aL) (by simp [inst, instL, za]; exact ⟨rfl, rfl⟩) (by rfl) ?_
  simp [over, Zb, yb, Job.cse, Made.cse, Job.oce, Made.oce, n0, n1, pk_x0, pk_x1, pm, pm1]
  refine Yf.ro 604 rfl (by kernel_rfl) (by simp [ya, zd, Zr, yd, Job.cse, Made.cse, Job.oce, Made.oce, n0, n1, pk_x0, pk_x1, pm, pm1]) (R28 aJ haJ) (by simpa [flt] using Job.ty.flL aJ) (by simp [inst, instL, Job.oce, za]; exact ⟨rfl, rfl⟩) (by rfl) ?_
  simp [over, Zb, yb, Job.cse, Made.cse, Job.oce, Made.oce, n0, n1, pk_x0, pk_x1, pm, pm1]
  refine Yf.ro 605 rfl (by kernel_rfl) (by simp [ya, zd, Zr, yd, Slot.roc8, Zk, List.mapM_cons, List.mapM_nil, zaB, File.roc7, Env.roc7, Made.roc7, Job.cse, Made.cse, Job.oce, Made.oce, n0, n1, pk_x0, pk_x1, pm, pm1]) rs fR (by simp [inst, instL, shut, za, Made.oce]; exact ⟨rfl, rfl⟩) (by rfl) ?_
  simp [over, Zb, yb, Job.cse, Made.cse, Job.oce, Made.oce, n0, n1, pk_x0, pk_x1, pm, pm1]
  refine callK.ro 606 rfl (by kernel_rfl) (by simp [ya, zd, Zr, yd, Job.cse, Made.cse, Job.oce, Made.oce, n0, n1, pk_x0, pk_x1, pm, pm1]) (R27 aL haL) (Slot.ty.flo aL) (by simp [inst, instL, za]; exact ⟨rfl, rfl⟩) rfl ?_
  simp [over, Zb, yb, Job.cse, Made.cse, Job.oce, Made.oce, n0, n1, pk_x0, pk_x1, pm, pm1]
  refine callK.ro 607 rfl (by kernel_rfl) (by simp [ya, zd, Zr, yd, Job.cse, Made.cse, Job.oce, Made.oce, n0, n1, pk_x0, pk_x1, pm, pm1]) (R28 aJ haJ) (by simpa [flt] using Job.ty.flL aJ) (by simp [inst, instL, Job.oce, za]; exact ⟨rfl, rfl⟩) rfl ?_
  simp [over, Zb, yb, Job.cse, Made.cse, Job.oce, Made.oce, n0, n1, pk_x0, pk_x1, pm, pm1]
  refine callK.ro 608 rfl (by kernel_rfl) (by simp [ya, zd, Zr, yd, Slot.roc8, Zk, List.mapM_cons, List.mapM_nil, zaB, File.roc7, Env.roc7, Made.roc7, Job.cse, Made.cse, Job.oce, Made.oce, n0, n1, pk_x0, pk_x1, pm, pm1]) ri fR (by simp [inst, instL, shut, za, Made.oce]; exact ⟨rfl, rfl⟩) rfl ?_
  simp [over, Zb, yb, Job.cse, Made.cse, Job.oce, Made.oce, n0, n1, pk_x0, pk_x1, pm, pm1]
  refine callK.ro 0 rfl (by kernel_rfl) (by simp [ya, zd, Zr, yd, Slot.roc8, hro0, Job.cse, Made.cse, Job.oce, Made.oce, n0, n1, pk_x0, pk_x1, pm, pm1]) re0 rfl rfl rfl ?_
  simp [over, Zb, yb, Job.cse, Made.cse, Job.oce, Made.oce, n0, n1, pk_x0, pk_x1, pm, pm1]
  refine callK.ro 0 rfl (by kernel_rfl) (by simp [ya, zd, Zr, yd, Zk, List.mapM_cons, List.mapM_nil, File.roc7, hro1, Job.cse, Made.cse, Job.oce, Made.oce, n0, n1, pk_x0, pk_x1, pm, pm1]) re1 rfl rfl rfl ?_
  simp [over, Zb, yb, Job.cse, Made.cse, Job.oce, Made.oce, n0, n1, pk_x0, pk_x1, pm, pm1]
  refine callK.ro 611 rfl (by kernel_rfl) (by simp [ya, zd, Zr, yd, Job.cse, Made.cse, Job.oce, Made.oce, n0, n1, pk_x0, pk_x1, pm, pm1]) (R27 aL haL) (Slot.ty.flo aL) (by simp [inst, instL, za]; exact ⟨rfl, rfl⟩) rfl ?_
  simp [over, Zb, yb, Job.cse, Made.cse, Job.oce, Made.oce, n0, n1, pk_x0, pk_x1, pm, pm1]
  refine callK.ro 0 rfl (by kernel_rfl) (by simp [ya, zd, Zr, yd, Slot.roc8, Job.cse, Made.cse, Job.oce, Made.oce, n0, n1, pk_x0, pk_x1, pm, pm1]) (R29 aL haL) rfl rfl rfl ?_
  simp [over, Zb, yb, Job.cse, Made.cse, Job.oce, Made.oce, n0, n1, pk_x0, pk_x1, pm, pm1]
  refine T.textW 400 [([], [614001, 614002, 614003, 614004]), ([], []), ([614001, 614002, 614003, 614004], []), ([], []), ([], [])] mixed (by kernel_rfl) (by kernel_rfl) ?_
  simp [over, Zb, yb, Job.cse, Made.cse, Job.oce, Made.oce, n0, n1, pk_x0, pk_x1, pm, pm1]
  refine Yf.ro 613 rfl (by kernel_rfl) (by simp [ya, zd, Zr, yd, Job.cse, Made.cse, Job.oce, Made.oce, n0, n1, pk_x0, pk_x1, pm, pm1]) (R28 aJ haJ) (by simpa [flt] using Job.ty.flL aJ) (by simp [inst, instL, Job.oce, za]; exact ⟨rfl, rfl⟩) (by rfl) ?_
  simp [over, Zb, yb, Job.cse, Made.cse, Job.oce, Made.oce, n0, n1, pk_x0, pk_x1, pm, pm1]
  refine Yf.ro 0 rfl (by kernel_rfl) (by simp [ya, zd, Zr, yd, Zk, List.mapM_cons, List.mapM_nil, zaB, File.roc7, Env.roc7, Made.roc7, Job.cse, Made.cse, Job.oce, Made.oce, n0, n1, pk_x0, pk_x1, pm, pm1]) (R31 aJ haJ) rfl rfl (by rfl) ?_
  simp [over, Zb, yb, Job.cse, Made.cse, Job.oce, Made.oce, n0, n1, pk_x0, pk_x1, pm, pm1]
  refine callK.io (b := 606) (len := aL.length) (sz := 2) (cs := rows Slot.ty.oc aL) rfl (by kernel_rfl) (by simp [za]) (by simp [za]) (zb Slot.ty.ocn _) (Slot.ty.frL _) (by simp [za]) rfl rk_x0 (Zw Slot.ty _ _ _ _) (zac Slot.ty _) rfl ?_
  simp [over, Zb, yb, Job.cse, Made.cse, Job.oce, Made.oce, n0, n1, pk_x0, pk_x1, pm, pm1]
  refine callK.mvS [.sv (.string aJ.name), .bk 608001 aJ.acts.length 1 (rows Ty.str.oc aJ.acts), .bk 608002 aJ.ins.length 2 (rows File.ty.oc aJ.ins), .bk 608003 aJ.envs.length 2 (rows Env.ty.oc aJ.envs), .bk 608004 aJ.deps.length 3 (rows Made.ty.oc aJ.deps)] rfl (by kernel_rfl) (by simp [za, MvD.av]) (by simp [MvD.bl]) (by simp [MvD.ok, za, zb Ty.str.ocn, Ty.str.frL, show Ty.str.n = 1 from rfl, zb File.ty.ocn, File.ty.frL, show File.ty.n = 2 from rfl, zb Env.ty.ocn, Env.ty.frL, show Env.ty.n = 2 from rfl, zb Made.ty.ocn, Made.ty.frL, show Made.ty.n = 3 from rfl]) (by simp [za]) rfl rk_x1 rfl ?_
  simp [goneL, Job.cse, Made.cse, Job.oce, Made.oce, n0, n1, pk_x0, pk_x1, pm, pm1]
  refine callK.ro 0 rfl (by kernel_rfl) (by simp [ya, zd, Zr, yd, Slot.roc8, hro0, Job.cse, Made.cse, Job.oce, Made.oce, n0, n1, pk_x0, pk_x1, pm, pm1]) re0 rfl rfl rfl ?_
  simp [over, Zb, yb, Job.cse, Made.cse, Job.oce, Made.oce, n0, n1, pk_x0, pk_x1, pm, pm1]
  refine callK.ro 0 rfl (by kernel_rfl) (by simp [ya, zd, Zr, yd, Zk, List.mapM_cons, List.mapM_nil, File.roc7, hro1, Job.cse, Made.cse, Job.oce, Made.oce, n0, n1, pk_x0, pk_x1, pm, pm1]) re1 rfl rfl rfl ?_
  simp [over, Zb, yb, Job.cse, Made.cse, Job.oce, Made.oce, n0, n1, pk_x0, pk_x1, pm, pm1]
  refine callK.io (b := 609000) (len := y.length) (sz := 2) (cs := rows Slot.ty.oc y) rfl (by kernel_rfl) (by simp [za]) (by simp [za]) (zb Slot.ty.ocn _) (Slot.ty.frL _) (by simp [za]) rfl rm0 (Zw Slot.ty _ _ _ _) (zac Slot.ty _) rfl ?_
  simp [over, Zb, yb, Job.cse, Made.cse, Job.oce, Made.oce, n0, n1, pk_x0, pk_x1, pm, pm1]
  refine callK.ioM (u1 := .string ym.task) (u2 := .string ym.log) (b := 609002001) (len := ym.outs.length) (sz := 2) (cs := rows File.ty.oc ym.outs) rfl (by kernel_rfl) (by simp [za]) (by simp [za]) (zb File.ty.ocn _) (File.ty.frL _) (by simp [za]) rfl rm1 (Zw File.ty _ _ _ _) (zac File.ty _) rfl ?_
  simp [over, Zb, yb, Job.cse, Made.cse, Job.oce, Made.oce, n0, n1, pk_x0, pk_x1, pm, pm1]
  refine callK.ro 0 rfl (by kernel_rfl) (by simp [ya, zd, Zr, yd, Zk, List.mapM_cons, List.mapM_nil, hrm0, Job.cse, Made.cse, Job.oce, Made.oce, n0, n1, pk_x0, pk_x1, pm, pm1]) rh0 rfl rfl rfl ?_
  simp [over, Zb, yb, Job.cse, Made.cse, Job.oce, Made.oce, n0, n1, pk_x0, pk_x1, pm, pm1]
  refine callK.ro 0 rfl (by kernel_rfl) (by simp [ya, zd, Zr, yd, Zk, List.mapM_cons, List.mapM_nil, hrm1, Job.cse, Made.cse, Job.oce, Made.oce, n0, n1, pk_x0, pk_x1, pm, pm1]) rh1 rfl rfl rfl ?_
  simp [over, Zb, yb, Job.cse, Made.cse, Job.oce, Made.oce, n0, n1, pk_x0, pk_x1, pm, pm1]
  refine T.textW 400 [([], [20]), ([623], [20]), ([], [20, 623]), ([625001, 625002, 625003, 625004], [20]), ([], [20, 623, 625001, 625002, 625003, 625004]), ([626000, 626002001], [20]), ([], [20]), ([], [20]), ([], [20]), ([], [20]), ([20], [623, 625001, 625002, 625003, 625004, 626000, 626002001]), ([], []), ([20], []), ([], [])] mixed (by kernel_rfl) (by kernel_rfl) ?_
  simp [over, Zb, yb, Job.cse, Made.cse, Job.oce, Made.oce, n0, n1, pk_x0, pk_x1, pm, pm1]
  refine Yf.ro 623 rfl (by kernel_rfl) (by simp [ya, zd, Zr, yd, Job.cse, Made.cse, Job.oce, Made.oce, n0, n1, pk_x0, pk_x1, pm, pm1]) (R27 aL haL) (Slot.ty.flo aL) (by simp [inst, instL, za]; exact ⟨rfl, rfl⟩) (by rfl) ?_
  simp [over, Zb, yb, Job.cse, Made.cse, Job.oce, Made.oce, n0, n1, pk_x0, pk_x1, pm, pm1]
  refine Yf.ro 624 rfl (by kernel_rfl) (by simp [ya, zd, Zr, yd, Job.cse, Made.cse, Job.oce, Made.oce, n0, n1, pk_x0, pk_x1, pm, pm1]) (R28 aJ haJ) (by simpa [flt] using Job.ty.flL aJ) (by simp [inst, instL, Job.oce, za]; exact ⟨rfl, rfl⟩) (by rfl) ?_
  simp [over, Zb, yb, Job.cse, Made.cse, Job.oce, Made.oce, n0, n1, pk_x0, pk_x1, pm, pm1]
  refine Yf.ro 625 rfl (by kernel_rfl) (by simp [ya, zd, Zr, yd, Slot.roc8, Zk, List.mapM_cons, List.mapM_nil, zaB, File.roc7, Env.roc7, Made.roc7, Job.cse, Made.cse, Job.oce, Made.oce, n0, n1, pk_x0, pk_x1, pm, pm1]) ri fR (by simp [inst, instL, shut, za, Made.oce]; exact ⟨rfl, rfl⟩) (by rfl) ?_
  simp [over, Zb, yb, Job.cse, Made.cse, Job.oce, Made.oce, n0, n1, pk_x0, pk_x1, pm, pm1]
  refine callK.ro 0 rfl (by kernel_rfl) (by simp [ya, zd, Zr, yd, Slot.roc8, hro0, Job.cse, Made.cse, Job.oce, Made.oce, n0, n1, pk_x0, pk_x1, pm, pm1]) re0 rfl rfl rfl ?_
  simp [over, Zb, yb, Job.cse, Made.cse, Job.oce, Made.oce, n0, n1, pk_x0, pk_x1, pm, pm1]
  refine callK.ro 0 rfl (by kernel_rfl) (by simp [ya, zd, Zr, yd, Zk, List.mapM_cons, List.mapM_nil, File.roc7, hro1, Job.cse, Made.cse, Job.oce, Made.oce, n0, n1, pk_x0, pk_x1, pm, pm1]) re1 rfl rfl rfl ?_
  simp [over, Zb, yb, Job.cse, Made.cse, Job.oce, Made.oce, n0, n1, pk_x0, pk_x1, pm, pm1]
  refine callK.ro 0 rfl (by kernel_rfl) (by simp [ya, zd, Zr, yd, Zk, List.mapM_cons, List.mapM_nil, hrm0, Job.cse, Made.cse, Job.oce, Made.oce, n0, n1, pk_x0, pk_x1, pm, pm1]) rh0 rfl rfl rfl ?_
  simp [over, Zb, yb, Job.cse, Made.cse, Job.oce, Made.oce, n0, n1, pk_x0, pk_x1, pm, pm1]
  refine callK.ro 0 rfl (by kernel_rfl) (by simp [ya, zd, Zr, yd, Zk, List.mapM_cons, List.mapM_nil, hrm1, Job.cse, Made.cse, Job.oce, Made.oce, n0, n1, pk_x0, pk_x1, pm, pm1]) rh1 rfl rfl rfl ?_
  simp [over, Zb, yb, Job.cse, Made.cse, Job.oce, Made.oce, n0, n1, pk_x0, pk_x1, pm, pm1]
end Go.Proofs.YtopofpihpnjmbaaGreatDoor.Am
