/- The small machine and the contracts of the functions, part 5 (LawOnce); no condition. -/
import Derived.Test.YtopofpihpnjmbaaGreatDoorProg
import Derived.Test.YtopofpihpnjmbaaGreatDoorAmZ
import Derived.Test.YtopofpihpnjmbaaGreatDoorAmP
import Derived.Test.YtopofpihpnjmbaaGreatDoorB4
import Derived.KernelRfl
namespace Go.Proofs.YtopofpihpnjmbaaGreatDoor.Am
open Go Go.Proofs
set_option linter.unusedSimpArgs false
set_option linter.unusedVariables false
attribute [local congr] yP yt zq
attribute [local simp] yM ZM zM yL zC Zy YL ZB zk Zo YB Zk Yo yB YM YC yC ZC zJ YI yI y1 Z1 Z2 Y1 ZW zW yW ZD Za Ya wblk zD yy YO zP aval dOk za ev_t ev_c zw zy yZ yA isIo hasIo sbin endR fin resL one outL out1 clo1 cloL coe coeL shut shut.shutL wantA weff cellsOf fillA deref natOf ρ0_app Y0 plain plain.plainL Zf Ye Yk Yt Zq yH Zw Zn yk ZN zt Zp nilA srcOf Zr Yp yn renA rb
theorem zdZ {α : Type} {f : α → α → Bool} (h : ∀ x, f x x = true) : ∀ xs : List α, eqBy f xs xs = true
  | [] => rfl
  | x :: xs => by simp [eqBy, h x, zdZ h xs]
theorem zbz (a : ByteArray) : strEq a a = true := by simp [strEq]
theorem zdi (m : File) : zbN m m = true := by simp [zbN, zbz]
theorem zdd (m : Made) : zbJ m m = true := by simp [zbJ, zbz, zdZ zdi]
inductive Way (l : List Slot) (j : Job) (keep : Bool) : List Slot → Made → Int → List Slot → Made → Int → Made → Bool → Prop where
  | kept (m mk : Made) (ok : Bool) : Way l j keep l m 2 l m 2 mk ok
  | failed (mk : Made) : Way l j keep l Yr 3 l Yr 3 mk false
  | made (mk : Made) (h : keep = false) : Way l j keep l mk 1 l mk 1 mk true
  | again (mk : Made) (x : List Slot) (h : keep = true) : Way l j keep x mk 1 x mk 2 mk true
theorem zg5 {l : List Slot} {j : Job} {keep : Bool} (hk : (makeV j).2 = true → Kept (makeV j).1) :
    Way l j keep (onceV l j keep).1 (onceV l j keep).2.1 (onceV l j keep).2.2 (onceV (onceV l j keep).1 j keep).1 (onceV (onceV l j keep).1 j keep).2.1 (onceV (onceV l j keep).1 j keep).2.2 (makeV j).1 (makeV j).2 := by
  rcases zei l j keep hk with ⟨m, h⟩ | ⟨h, h2⟩ | ⟨h, h2, h3⟩ | ⟨x, h, h2, h3, h4⟩
  · simp only [h]; exact .kept ..
  · simp only [h, h2]; exact .failed ..
  · simp only [h, h2]; exact .made _ h3
  · simp only [h, h2, h4]; exact .again _ _ h3
theorem zhp {code : List Int} (hx : Ty.byte.slice.ok code) : Slot.ty.slice.ok (doP code).1 ∧ (doP code).1.length ≤ 200 ∧ OJ (doP code).2.1 ∧ ((makeV (doP code).2.1).2 = true → Kept (makeV (doP code).2.1).1) := by
  have hP : doP code = ((doA (jobC (doC code)) (doL code) (jobV (doC code))).1, jobV (doC code), !(zf (doA (jobC (doC code)) (doL code) (jobV (doC code))).2 4 == 0)) := rfl
  rw [hP]
  dsimp only
  obtain ⟨hc1, hl⟩ := zfL (zdb hx)
  change (doC code).ok at hc1
  change CacheSz (doL code) 23 30000 at hl
  have oj := (zdf hc1).oj
  have hn := hl.n
  have ho := hl.ok
  have hj := zfc hc1
  have hk := zek hc1
  generalize doL code = l at hn ho
  generalize jobV (doC code) = j at oj hk
  generalize jobC (doC code) = c at hj
  obtain ⟨_, h1, h2⟩ := zhq hj ho (by omega) oj
  exact ⟨h1, h2, oj, fun _ => hk⟩
def A6 : AC := (.seq (.ops [qO 2 (.mov (.c (.sc (.bool false))))])
  (.seq (.ops [qO 3 (.mov (.t 0)), qO 4 (.llen (.t 3)), qO 5 (.bin .gtr (.t 4) (iC 1048576)), qO 2 (.mov (.t 5))])
  .ret))
theorem K6 : Kf Tryz.prog Tryz.f6 A6 6 [.mov (.t 2)] := ⟨by kernel_rfl, by kernel_rfl, by kernel_rfl⟩
theorem R6 (code : List Int) : Ret Tryz.prog 6 [.ro (rows B code) code.length] (.sc (.bool (decide ((1048576 : Int) < code.length)))) [.un] := by
  refine Ret.run Tryz.func6 K6 (by simp) rfl rfl 500 ?_
  simp [A6, iniρ]
def A4 : AC := (.seq (.ops [qO 2 (.mov (.c (.sc (.bool false))))])
  (.seq (.seq (.ops [qO 18 (.mov (.t 0)), cO 19 6 [.t 18]])
  (.cond (.t 19) (.seq (.ops [qO 2 (.mov (.c (.sc (.bool true))))])
  .ret)
  .skip))
  (.seq (.ops [qO 21 (.mov (.t 0)), cO 22 16 [.t 21], qO 20 (.mov (.t 22)), qO 23 (.ext (.t 20) 0), qO 24 (.ext (.t 20) 1), qO 25 (.ext (.t 20) 2), wO 4 (.alloc [(.sc (.string ⟨#[]⟩)), .em, .em, .em, .em]), qO 3 (.mov (.t 23)), nO (.store 5 (.t 4) (.t 24)), qO 5 (.mov (.t 25))])
  (.seq (.ops [qO 27 (.mov (.t 3)), qO 28 (.load true 5 (.t 4)), qO 29 (.mov (.t 5)), cO 30 17 [.t 27, .t 28, .t 29], qO 26 (.mov (.t 30)), qO 31 (.ext (.t 26) 0), qO 32 (.ext (.t 26) 1), qO 33 (.ext (.t 26) 2), wO 7 (.alloc [(.sc (.string ⟨#[]⟩)), .em, (.sc (.string ⟨#[]⟩))]), qO 6 (.mov (.t 31)), nO (.store 3 (.t 7) (.t 32)), qO 8 (.mov (.t 33))])
  (.seq (.ops [qO 35 (.mov (.t 3)), qO 36 (.load true 5 (.t 4)), qO 37 (.mov (.t 5)), cO 38 18 [.t 35, .t 36, .t 37], qO 34 (.mov (.t 38)), qO 39 (.ext (.t 34) 0), qO 40 (.ext (.t 34) 1), qO 41 (.ext (.t 34) 2), wO 10 (.alloc [(.sc (.string ⟨#[]⟩)), .em, (.sc (.string ⟨#[]⟩))]), qO 9 (.mov (.t 39)), nO (.store 3 (.t 10) (.t 40)), qO 11 (.mov (.t 41))])
  (.seq (.ops [qO 42 (.mov (.t 0)), cO 43 19 [.t 42], qO 12 (.mov (.t 43))])
  (.seq (.seq (.ops [qO 44 (.mov (.t 8)), qO 45 (.mov (.t 11)), qO 46 (.bin .neq (.t 44) (.t 45)), qO 47 (.mov (.t 46)), qG 48 47 false (.load true 3 (.t 7)), qG 49 47 false (.load true 3 (.t 10)), cG 50 47 false 20 [.t 48, .t 49], qG 51 47 false (.not (.t 50)), qO 52 (.pick (.t 47) (.c (.sc (.bool true))) (.t 51)), qO 53 (.mov (.t 52)), qG 54 53 false (.mov (.t 6)), qG 55 53 false (.mov (.t 9)), cG 56 53 false 21 [.t 54, .t 55], qG 57 53 false (.not (.t 56)), qO 58 (.pick (.t 53) (.c (.sc (.bool true))) (.t 57)), qO 59 (.mov (.t 58)), qG 60 59 false (.mov (.t 12)), cG 61 59 false 22 [.t 60], qG 62 59 false (.mov (.t 12)), cG 63 59 false 23 [.t 62], qG 64 59 false (.bin .neq (.t 61) (.t 63)), qO 65 (.pick (.t 59) (.c (.sc (.bool true))) (.t 64))])
  (.cond (.t 65) (.seq (.ops [qO 2 (.mov (.c (.sc (.bool false))))])
  .ret)
  .skip))
  (.seq (.ops [qO 67 (.mov (.t 6)), qO 68 (.load true 5 (.t 4)), qO 69 (.mov (.t 5)), cO 70 17 [.t 67, .t 68, .t 69], qO 66 (.mov (.t 70)), qO 71 (.ext (.t 66) 0), qO 72 (.ext (.t 66) 1), qO 73 (.ext (.t 66) 2), wO 14 (.alloc [(.sc (.string ⟨#[]⟩)), .em, (.sc (.string ⟨#[]⟩))]), qO 13 (.mov (.t 71)), nO (.store 3 (.t 14) (.t 72)), qO 15 (.mov (.t 73))])
  (.seq (.ops [qO 75 (.load true 5 (.t 4)), cO 76 24 [.t 75], qO 74 (.mov (.t 76)), qO 77 (.ext (.t 74) 0), qO 78 (.ext (.t 74) 1), wO 16 (.alloc [(.sc (.string ⟨#[]⟩)), .em, (.sc (.string ⟨#[]⟩))]), nO (.store 3 (.t 16) (.t 77)), qO 17 (.mov (.t 78))])
  (.seq (.seq (.ops [qO 79 (.mov (.t 8))])
  (.block 0 (.seq (.ops [qO 81 (.bin .eql (.t 79) (iC 3)), qO 80 (.mov (.t 81))])
  (.cond (.t 80) (.seq (.ops [qO 82 (.mov (.t 17)), qO 83 (.not (.t 82)), qO 84 (.mov (.t 83)), qG 85 84 true (.mov (.t 6)), qG 86 84 true (.mov (.t 3)), cG 87 84 true 21 [.t 85, .t 86], qO 88 (.pick (.t 84) (.t 87) (.c (.sc (.bool false)))), qO 89 (.mov (.t 88)), qG 90 89 true (.mov (.t 15)), qG 91 89 true (.mov (.t 8)), qG 92 89 true (.bin .eql (.t 90) (.t 91)), qO 93 (.pick (.t 89) (.t 92) (.c (.sc (.bool false)))), qO 2 (.mov (.t 93))])
  .ret)
  (.seq (.ops [qO 95 (.bin .eql (.t 79) (iC 2)), qO 94 (.mov (.t 95))])
  (.cond (.t 94) (.seq (.ops [qO 96 (.mov (.t 15)), qO 97 (.mov (.t 8)), qO 98 (.bin .eql (.t 96) (.t 97)), qO 99 (.mov (.t 98)), qG 100 99 true (.mov (.t 13)), qG 101 99 true (.mov (.t 6)), cG 102 99 true 21 [.t 100, .t 101], qO 103 (.pick (.t 99) (.t 102) (.c (.sc (.bool false)))), qO 104 (.mov (.t 103)), qG 105 104 true (.load true 3 (.t 14)), qG 106 104 true (.load true 3 (.t 7)), cG 107 104 true 20 [.t 105, .t 106], qO 108 (.pick (.t 104) (.t 107) (.c (.sc (.bool false)))), qO 2 (.mov (.t 108))])
  .ret)
  .skip))))))
  (.seq (.ops [qO 109 (.mov (.t 8)), qO 110 (.bin .eql (.t 109) (iC 1)), qO 111 (.mov (.t 110)), qG 112 111 true (.mov (.t 17)), qO 113 (.pick (.t 111) (.t 112) (.c (.sc (.bool false)))), qO 114 (.mov (.t 113)), qG 115 114 true (.load true 3 (.t 7)), qG 116 114 true (.load true 3 (.t 16)), cG 117 114 true 20 [.t 115, .t 116], qO 118 (.pick (.t 114) (.t 117) (.c (.sc (.bool false)))), qO 119 (.mov (.t 118)), qG 120 119 true (.load true 3 (.t 14)), qG 121 119 true (.load true 3 (.t 7)), cG 122 119 true 20 [.t 120, .t 121], qO 123 (.pick (.t 119) (.t 122) (.c (.sc (.bool false)))), qO 124 (.mov (.t 123)), qG 125 124 true (.mov (.t 5)), qG 126 124 true (.not (.t 125)), qG 127 124 true (.mov (.t 126)), qG 128 127 false (.mov (.t 15)), qG 129 127 false (.bin .eql (.t 128) (iC 2)), qG 130 124 true (.pick (.t 127) (.c (.sc (.bool true))) (.t 129)), qO 131 (.pick (.t 124) (.t 130) (.c (.sc (.bool false)))), qO 132 (.mov (.t 131)), qG 133 132 true (.mov (.t 5)), qG 134 132 true (.mov (.t 133)), qG 135 134 false (.mov (.t 6)), qG 136 134 false (.mov (.t 3)), cG 137 134 false 21 [.t 135, .t 136], qG 138 132 true (.pick (.t 134) (.c (.sc (.bool true))) (.t 137)), qO 139 (.pick (.t 132) (.t 138) (.c (.sc (.bool false)))), qO 2 (.mov (.t 139))])
  .ret)))))))))))
theorem K4 : Kf Tryz.prog Tryz.f4 A4 140 [.mov (.t 2)] := ⟨by kernel_rfl, by kernel_rfl, by kernel_rfl⟩
set_option maxHeartbeats 8000000 in
set_option maxRecDepth 100000 in
theorem R4 (code : List Int) (hx : Ty.byte.slice.ok code) : Ret Tryz.prog 4 [.ro (rows Ty.byte.cs code) code.length] (.sc (.bool true)) [.un] := by
  change Ret Tryz.prog 4 [.ro (rows B code) code.length] (.sc (.bool true)) [.un]
  have r1 := R16 code hx
  have r2 := R19 code hx
  obtain ⟨hv, hhv⟩ : ∃ x, x = zf (newC code) 7 - 1 := ⟨_, rfl⟩
  rw [← hhv] at r2
  have rH : Ret Tryz.prog 23 [.sc (.int .i64 hv)] (.sc (.string (howB hv))) [.un] := R23 hv
  have rI : Ret Tryz.prog 22 [.sc (.int .i64 hv)] (.sc (.string (howB hv))) [.un] := R22 hv
  obtain ⟨hw, hhw⟩ : ∃ x, x = howB hv := ⟨_, rfl⟩
  rw [← hhw] at rH rI
  obtain ⟨lok, lln, oj, hk⟩ := zhp hx
  obtain ⟨l, hle⟩ : ∃ x, x = (doP code).1 := ⟨_, rfl⟩
  obtain ⟨j, hje⟩ : ∃ x, x = (doP code).2.1 := ⟨_, rfl⟩
  obtain ⟨keep, hke⟩ : ∃ x, x = (doP code).2.2 := ⟨_, rfl⟩
  rw [← hle] at r1 lok lln
  rw [← hje] at r1 oj hk
  rw [← hke] at r1
  have wy := zg5 (l := l) (keep := keep) hk
  obtain ⟨yo, yl, _⟩ := zbF (keep := keep) lok (by omega) oj
  obtain ⟨mo, _⟩ := zcE (keep := keep) lok oj
  have rs : Ret Tryz.prog 18 [.ro (rows Slot.ty.cs l) l.length, .agg (Job.ty.cs j), .sc (.bool keep)] (.tup [.own (rows Slot.ty.oc (onceV l j keep).1) (onceV l j keep).1.length 2, .agg (Made.ty.oc (onceV l j keep).2.1), .sc (.int .i64 (onceV l j keep).2.2)]) [.un, .un, .un] := R18 l j keep lok oj
  have ri : Ret Tryz.prog 17 [.ro (rows Slot.ty.cs l) l.length, .agg (Job.ty.cs j), .sc (.bool keep)] (.tup [.own (rows Slot.ty.oc (onceV l j keep).1) (onceV l j keep).1.length 2, .agg (Made.ty.oc (onceV l j keep).2.1), .sc (.int .i64 (onceV l j keep).2.2)]) [.un, .un, .un] := R17 l j keep lok oj
  have rM := R24 j oj.l oj.s
  obtain ⟨mk, hmk⟩ : ∃ p, p = (makeV j).1 := ⟨_, rfl⟩
  obtain ⟨ok, hok⟩ : ∃ p, p = (makeV j).2 := ⟨_, rfl⟩
  rw [← hmk, ← hok] at wy rM
  obtain ⟨y, hy⟩ : ∃ y, y = (onceV l j keep).1 := ⟨_, rfl⟩
  rw [← hy] at rs ri yo yl wy
  obtain ⟨zo, zl, _⟩ := zbF (keep := keep) yo (by omega) oj
  obtain ⟨zmo, _⟩ := zcE (keep := keep) yo oj
  have rz : Ret Tryz.prog 17 [.ro (rows Slot.ty.cs y) y.length, .agg (Job.ty.cs j), .sc (.bool keep)] (.tup [.own (rows Slot.ty.oc (onceV y j keep).1) (onceV y j keep).1.length 2, .agg (Made.ty.oc (onceV y j keep).2.1), .sc (.int .i64 (onceV y j keep).2.2)]) [.un, .un, .un] := R17 y j keep yo oj
  obtain ⟨ym, hym⟩ : ∃ y, y = (onceV l j keep).2.1 := ⟨_, rfl⟩
  obtain ⟨yv, hyv⟩ : ∃ y, y = (onceV l j keep).2.2 := ⟨_, rfl⟩
  rw [← hym] at rs ri mo wy
  rw [← hyv] at rs ri wy
  obtain ⟨z, hz⟩ : ∃ z, z = (onceV y j keep).1 := ⟨_, rfl⟩
  obtain ⟨zm, hzm⟩ : ∃ z, z = (onceV y j keep).2.1 := ⟨_, rfl⟩
  obtain ⟨zv, hzv⟩ : ∃ z, z = (onceV y j keep).2.2 := ⟨_, rfl⟩
  rw [← hz] at rz wy zo zl
  rw [← hzm] at rz wy zmo
  rw [← hzv] at rz wy
  clear hy hym hyv hz hzm hzv hmk hok
  have fR : flt (.tup [.own (rows Slot.ty.oc y) y.length 2, .agg (Made.ty.oc ym), .sc (.int .i64 yv)]) = true := by
    have h1 := Slot.ty.flo y
    have h2 := Made.ty.flL ym
    simp only [flt, flt.fltL, Bool.and_eq_true] at h1 h2 ⊢
    exact ⟨h1, h2, trivial, trivial⟩
  have fZ : flt (.tup [.own (rows Slot.ty.oc z) z.length 2, .agg (Made.ty.oc zm), .sc (.int .i64 zv)]) = true := by
    have h1 := Slot.ty.flo z
    have h2 := Made.ty.flL zm
    simp only [flt, flt.fltL, Bool.and_eq_true] at h1 h2 ⊢
    exact ⟨h1, h2, trivial, trivial⟩
  have rm1 := R20 ym ym mo
  have rs1 := R21 y (by omega)
  rw [zdd] at rm1
  refine Ret.run Tryz.func4 K4 (by simp) rfl rfl 900 ?_
  simp [A4, iniρ, over]
  refine callK.ro 0 rfl (by kernel_rfl) (by simp [ze]) (R6 code) rfl rfl rfl ?_
  by_cases hbig : (1048576 : Int) < code.length
  · simp [hbig]
  simp [hbig]
  refine callK.cut [.ro] 20 (r := [(none, none)]) rfl (by kernel_rfl) rfl (by rfl) (by rfl) (by simp [Zt, shut, za]) (by simp [Yg, ze, za]; rfl) (by rfl) r1 (by rfl) (by rfl) (by simp [inst, instL, shut, Job.oce, za]; exact ⟨rfl, rfl⟩) rfl ?_
  simp [over, Job.oce]
  refine callK.ro 26 rfl (by kernel_rfl) (by simp [Yc, ze, zI, Zg, Yh, Slot.roc8, rocC2, List.mapM_cons, List.mapM_nil, yq, File.roc7, Env.roc7, Made.roc7, Ys, Job.cse, Made.cse, Job.oce, Made.oce, za]) ri fR (by simp [inst, instL, shut, Made.oce, za]; exact ⟨rfl, rfl⟩) rfl ?_
  simp [over]
  refine callK.ro 34 rfl (by kernel_rfl) (by simp [Yc, ze, zI, Zg, Yh, Slot.roc8, rocC2, List.mapM_cons, List.mapM_nil, yq, File.roc7, Env.roc7, Made.roc7, Ys, Job.cse, Made.cse, Job.oce, Made.oce, za]) rs fR (by simp [inst, instL, shut, Made.oce, za]; exact ⟨rfl, rfl⟩) rfl ?_
  simp [over]
  refine callK.ro 0 rfl (by kernel_rfl) (by simp [ze, za]) r2 rfl rfl rfl ?_
  simp [over]
  refine callK.ro 0 rfl (by kernel_rfl) (by simp [Yc, ze, zI, Zg, Yh, Slot.roc8, rocC2, List.mapM_cons, List.mapM_nil, yq, File.roc7, Env.roc7, Made.roc7, Ys, Job.cse, Made.cse, Job.oce, Made.oce, za]) rm1 rfl rfl rfl ?_
  simp [over]
  refine callK.ro 0 rfl (by kernel_rfl) (by simp [Yc, ze, zI, Zg, Yh, Slot.roc8, rocC2, List.mapM_cons, List.mapM_nil, yq, File.roc7, Env.roc7, Made.roc7, Ys, Job.cse, Made.cse, Job.oce, Made.oce, za]) rs1 rfl rfl rfl ?_
  simp [over]
  refine callK.ro 0 rfl (by kernel_rfl) (by simp [Yc, ze, zI, Zg, Yh, Slot.roc8, rocC2, List.mapM_cons, List.mapM_nil, yq, File.roc7, Env.roc7, Made.roc7, Ys, Job.cse, Made.cse, Job.oce, Made.oce, za]) rI rfl rfl rfl ?_
  simp [over]
  refine callK.ro 0 rfl (by kernel_rfl) (by simp [Yc, ze, zI, Zg, Yh, Slot.roc8, rocC2, List.mapM_cons, List.mapM_nil, yq, File.roc7, Env.roc7, Made.roc7, Ys, Job.cse, Made.cse, Job.oce, Made.oce, za]) rH rfl rfl rfl ?_
  simp [over]
  refine callK.ro 66 rfl (by kernel_rfl) (by simp [Yc, ze, zI, Zg, Yh, Slot.roc8, rocC2, List.mapM_cons, List.mapM_nil, yq, File.roc7, Env.roc7, Made.roc7, Ys, Job.cse, Made.cse, Job.oce, Made.oce, za]) rz fZ (by simp [inst, instL, shut, Made.oce, za]; exact ⟨rfl, rfl⟩) rfl ?_
  simp [over]
  refine callK.ro 74 rfl (by kernel_rfl) (by simp [Yc, ze, zI, Zg, Yh, Slot.roc8, rocC2, List.mapM_cons, List.mapM_nil, yq, File.roc7, Env.roc7, Made.roc7, Ys, Job.cse, Made.cse, Job.oce, Made.oce, za]) rM (Yz _ _) (by simp [inst, instL, shut, Made.oce, za]; exact ⟨rfl, rfl⟩) rfl ?_
  cases wy with
  | kept m mk ok =>
    simp [over]
    refine callK.ro 0 rfl (by kernel_rfl) (by simp [Yc, ze, zI, Zg, Yh, Slot.roc8, rocC2, List.mapM_cons, List.mapM_nil, yq, File.roc7, Env.roc7, Made.roc7, Ys, Job.cse, Made.cse, Job.oce, Made.oce, za]) rs1 rfl rfl rfl ?_
    simp [over]
    refine callK.ro 0 rfl (by kernel_rfl) (by simp [Yc, ze, zI, Zg, Yh, Slot.roc8, rocC2, List.mapM_cons, List.mapM_nil, yq, File.roc7, Env.roc7, Made.roc7, Ys, Job.cse, Made.cse, Job.oce, Made.oce, za]) rm1 rfl rfl rfl ?_
    simp [over]
  | failed mk =>
    simp [over]
    refine callK.ro 0 rfl (by kernel_rfl) (by simp [Yc, ze, zI, Zg, Yh, Slot.roc8, rocC2, List.mapM_cons, List.mapM_nil, yq, File.roc7, Env.roc7, Made.roc7, Ys, Job.cse, Made.cse, Job.oce, Made.oce, za]) rs1 rfl rfl rfl ?_
    simp [over]
  | made mk h =>
    subst h
    simp [over]
    refine callK.ro 0 rfl (by kernel_rfl) (by simp [Yc, ze, zI, Zg, Yh, Slot.roc8, rocC2, List.mapM_cons, List.mapM_nil, yq, File.roc7, Env.roc7, Made.roc7, Ys, Job.cse, Made.cse, Job.oce, Made.oce, za]) rm1 rfl rfl rfl ?_
    simp [over]
    refine callK.ro 0 rfl (by kernel_rfl) (by simp [Yc, ze, zI, Zg, Yh, Slot.roc8, rocC2, List.mapM_cons, List.mapM_nil, yq, File.roc7, Env.roc7, Made.roc7, Ys, Job.cse, Made.cse, Job.oce, Made.oce, za]) rm1 rfl rfl rfl ?_
    simp [over]
    refine callK.ro 0 rfl (by kernel_rfl) (by simp [Yc, ze, zI, Zg, Yh, Slot.roc8, rocC2, List.mapM_cons, List.mapM_nil, yq, File.roc7, Env.roc7, Made.roc7, Ys, Job.cse, Made.cse, Job.oce, Made.oce, za]) rs1 rfl rfl rfl ?_
    simp [over]
  | again mk x h =>
    subst h
    simp [over]
    refine callK.ro 0 rfl (by kernel_rfl) (by simp [Yc, ze, zI, Zg, Yh, Slot.roc8, rocC2, List.mapM_cons, List.mapM_nil, yq, File.roc7, Env.roc7, Made.roc7, Ys, Job.cse, Made.cse, Job.oce, Made.oce, za]) rm1 rfl rfl rfl ?_
    simp [over]
    refine callK.ro 0 rfl (by kernel_rfl) (by simp [Yc, ze, zI, Zg, Yh, Slot.roc8, rocC2, List.mapM_cons, List.mapM_nil, yq, File.roc7, Env.roc7, Made.roc7, Ys, Job.cse, Made.cse, Job.oce, Made.oce, za]) rm1 rfl rfl rfl ?_
    simp [over]
end Go.Proofs.YtopofpihpnjmbaaGreatDoor.Am
