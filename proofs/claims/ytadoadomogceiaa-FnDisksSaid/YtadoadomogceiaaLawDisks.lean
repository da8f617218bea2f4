/- The functions of the program, each by its contract: LawDisks; no condition. -/
import Derived.Test.YtadoadomogceiaaProg
import Derived.Test.YtadoadomogceiaaAmZ
import Derived.Test.YtadoadomogceiaaAmP
import Derived.Test.YtadoadomogceiaaDrawDisks2
import Derived.KernelRfl
namespace Go.Proofs.Ytadoadomogceiaa.Am
open Go Go.Proofs
set_option linter.unusedSimpArgs false
set_option linter.unusedVariables false
attribute [local congr] T_congr callK_congr callWK_congr
attribute [local simp] run_nil run_op0 run_opg run_seq run_cond run_block run_ret run_skip run_skip_after run_skip_blk run_exit run_exit_after run_exit_blk run_loop run_any runS_nil runS_op0 runS_opg runW_nil runW_op0 runW_opg exec_q exec_w exec_c exec_n execW_q execW_w execW_c restW_app hideH_app merge_app wblk rest_app restS_app execS_q execS_c aval dOk upd_app ev_t ev_c setO_some setO_none put_mk pinsOf isIo hasIo sbin endR fin resL one outL out1 clo1 cloL coe coeL shut shut.shutL wantA weff cellsOf fillA deref natOf ρ0_app h0_app plain plain.plainL keep_app keepH_app andThen_normal andThen_ret andThen_exit pop_nil pop_after pop_after_ret pop_after_exit pop_blk pop_blk_ret pop_blk_exit nilA srcOf srcCells keepR_app keepHR_app renA rb
theorem settle_idem (d : Disk) : settleF (settleF d) = settleF d := by
  by_cases h : diskOk d = true
  · have e : settleF d = ⟨docsNowF d, []⟩ := by rw [settleF, if_pos h]
    rw [e, settleF]
    split <;> rfl
  · have e : settleF d = d := by rw [settleF, if_neg h]
    rw [e, e]
theorem docsNow_settle (d : Disk) : docsNowF (settleF d) = docsNowF d := by
  by_cases h : diskOk d = true
  · have e : settleF d = ⟨docsNowF d, []⟩ := by rw [settleF, if_pos h]
    rw [e]; rfl
  · have e : settleF d = d := by rw [settleF, if_neg h]
    rw [e]
theorem crashF_ok {d : Disk} (hd : Disk.ty.ok d) (keep : Int) : Disk.ty.ok (crashF d keep) := by
  unfold crashF
  split
  · exact ⟨docs_ok hd _, nilO_ok, trivial⟩
  · exact hd
theorem saveGo_ok {t : ByteArray} (ht : t.size ≤ 400) : ∀ (n i : Nat) (x : Disk), Disk.ty.ok x → x.pend.length ≤ 8 + i → n + i ≤ 4 → Disk.ty.ok (saveGo t n i x)
  | 0, _, _, h, _, _ => h
  | n + 1, i, x, h, hl, hn => by
    obtain ⟨h1, h2⟩ := stepS_is (i := i) ht h hl (by omega)
    exact saveGo_ok ht n (i + 1) _ h1 h2 (by omega)
theorem saveF_ok {d : Disk} (hd : Disk.ty.ok d) (t : ByteArray) (s : Int) : Disk.ty.ok (saveF d t s) := by
  unfold saveF
  split
  · rename_i h
    exact saveGo_ok h.2.2 _ _ _ hd (by omega) (by have := stepsN_le s; omega)
  · exact hd
/- 13: loop.example/g00464/laws.big -/
def A13 : AC := (.seq (.ops [⟨(some 2), none, .q (.mov (.c (.sc (.bool false))))⟩])
  (.seq (.ops [⟨(some 3), none, .q (.mov (.t 0))⟩, ⟨(some 4), none, .q (.llen (.t 3))⟩, ⟨(some 5), none, .q (.bin .gtr (.t 4) (.c (.sc (.int .i64 1048576))))⟩, ⟨(some 2), none, .q (.mov (.t 5))⟩])
  .ret))
theorem K13 : Try.f13.body.bind (comp Try.prog) = some A13 ∧ Try.f13.ntmps = 6 ∧ Try.f13.results.toList.mapM (resB Try.prog) = some [.mov (.t 2)] := ⟨by kernel_rfl, by kernel_rfl, by kernel_rfl⟩
theorem R13 (code : List Int) : Ret Try.prog 13 [.ro (rows B code) code.length] (.sc (.bool (decide ((1048576 : Int) < code.length)))) [.un] := by
  refine Ret.run Try.func13 K13 (by simp) rfl rfl 500 ?_
  simp [A13, iniρ]
/- 7: loop.example/g00464/laws.FnDisks -/
def A7 : AC := (.seq (.ops [⟨(some 2), none, .q (.mov (.c (.sc (.bool false))))⟩])
  (.seq (.seq (.ops [⟨(some 13), none, .q (.mov (.t 0))⟩, ⟨(some 14), none, .c (.c (.clo 13 [])) [(.t 13)]⟩])
  (.cond (.t 14) (.seq (.ops [⟨(some 2), none, .q (.mov (.c (.sc (.bool true))))⟩])
  .ret)
  .skip))
  (.seq (.ops [⟨(some 15), none, .q (.mov (.t 0))⟩, ⟨(some 16), none, .c (.c (.clo 36 [])) [(.t 15)]⟩, ⟨(some 3), none, .w (.alloc [.em, .em])⟩, ⟨none, none, .w (.store 2 (.t 3) (.t 16))⟩])
  (.seq (.ops [⟨(some 17), none, .q (.mov (.t 0))⟩, ⟨(some 18), none, .c (.c (.clo 37 [])) [(.t 17)]⟩, ⟨(some 4), none, .w (.alloc [.em, .em])⟩, ⟨none, none, .w (.store 2 (.t 4) (.t 18))⟩])
  (.seq (.ops [⟨(some 19), none, .q (.mov (.t 0))⟩, ⟨(some 20), none, .c (.c (.clo 38 [])) [(.t 19)]⟩, ⟨(some 5), none, .w (.alloc [.em, .em])⟩, ⟨none, none, .w (.store 2 (.t 5) (.t 20))⟩])
  (.seq (.ops [⟨(some 22), none, .q (.mov (.t 0))⟩, ⟨(some 23), none, .c (.c (.clo 39 [])) [(.t 22)]⟩, ⟨(some 21), none, .q (.mov (.t 23))⟩, ⟨(some 24), none, .q (.ext (.t 21) 0)⟩, ⟨(some 25), none, .q (.ext (.t 21) 1)⟩, ⟨(some 6), none, .w (.alloc [.em, .em])⟩, ⟨none, none, .w (.store 2 (.t 6) (.t 24))⟩, ⟨(some 7), none, .q (.mov (.t 25))⟩])
  (.seq (.ops [⟨(some 27), none, .q (.mov (.t 0))⟩, ⟨(some 28), none, .c (.c (.clo 40 [])) [(.t 27)]⟩, ⟨(some 26), none, .q (.mov (.t 28))⟩, ⟨(some 29), none, .q (.ext (.t 26) 0)⟩, ⟨(some 30), none, .q (.ext (.t 26) 1)⟩, ⟨(some 31), none, .q (.ext (.t 26) 2)⟩, ⟨(some 8), none, .w (.alloc [.em, .em])⟩, ⟨none, none, .w (.store 2 (.t 8) (.t 29))⟩, ⟨(some 9), none, .q (.mov (.t 30))⟩, ⟨(some 10), none, .q (.mov (.t 31))⟩])
  (.seq (.ops [⟨(some 32), none, .q (.mov (.t 0))⟩, ⟨(some 33), none, .c (.c (.clo 41 [])) [(.t 32)]⟩, ⟨(some 11), none, .w (.alloc [.em, .em])⟩, ⟨none, none, .w (.store 2 (.t 11) (.t 33))⟩])
  (.seq (.ops [⟨(some 34), none, .q (.load true 2 (.t 5))⟩, ⟨(some 35), none, .c (.c (.clo 42 [])) [(.t 34)]⟩, ⟨(some 12), none, .w (.alloc [.em, .em])⟩, ⟨none, none, .w (.store 2 (.t 12) (.t 35))⟩])
  (.seq (.any [(⟨(some 36), none, .q (.load true 2 (.t 3))⟩, []), (⟨(some 37), none, .c (.c (.clo 43 [])) [(.t 36)]⟩, [0]), (⟨(some 38), none, .q (.load true 2 (.t 3))⟩, []), (⟨(some 39), none, .c (.c (.clo 44 [])) [(.t 38)]⟩, [2, 1]), (⟨(some 40), none, .q (.beq false (.t 37) (.t 39))⟩, [1, 3]), (⟨(some 41), none, .q (.mov (.t 40))⟩, [4, 3]), (⟨(some 42), (some (41, true)), .q (.load true 2 (.t 4))⟩, [5]), (⟨(some 43), (some (41, true)), .c (.c (.clo 31 [])) [(.t 42)]⟩, [6, 5, 5]), (⟨(some 44), (some (41, true)), .q (.load true 2 (.t 4))⟩, [5]), (⟨(some 45), (some (41, true)), .c (.c (.clo 30 [])) [(.t 44)]⟩, [8, 7, 5]), (⟨(some 46), (some (41, true)), .c (.c (.clo 45 [])) [(.t 43), (.t 45)]⟩, [7, 9, 9, 5]), (⟨(some 47), none, .q (.pick (.t 41) (.t 46) (.c (.sc (.bool false))))⟩, [5, 10]), (⟨(some 48), none, .q (.mov (.t 47))⟩, [11, 10]), (⟨(some 49), (some (48, true)), .q (.load true 2 (.t 12))⟩, [12]), (⟨(some 50), (some (48, true)), .q (.load true 2 (.t 5))⟩, [12]), (⟨(some 51), (some (48, true)), .c (.c (.clo 47 [])) [(.t 50)]⟩, [14, 12, 12]), (⟨(some 52), (some (48, true)), .c (.c (.clo 46 [])) [(.t 49), (.t 51)]⟩, [13, 15, 15, 12]), (⟨(some 53), none, .q (.pick (.t 48) (.t 52) (.c (.sc (.bool false))))⟩, [12, 16]), (⟨(some 54), none, .q (.mov (.t 53))⟩, [17, 16]), (⟨(some 55), (some (54, true)), .q (.load true 2 (.t 12))⟩, [18]), (⟨(some 56), (some (54, true)), .c (.c (.clo 42 [])) [(.t 55)]⟩, [19, 18, 18]), (⟨(some 57), (some (54, true)), .q (.load true 2 (.t 12))⟩, [18]), (⟨(some 58), (some (54, true)), .c (.c (.clo 46 [])) [(.t 56), (.t 57)]⟩, [20, 21, 20, 18]), (⟨(some 59), none, .q (.pick (.t 54) (.t 58) (.c (.sc (.bool false))))⟩, [18, 22]), (⟨(some 60), none, .q (.mov (.t 59))⟩, [23, 22]), (⟨(some 61), (some (60, true)), .q (.load true 2 (.t 6))⟩, [24]), (⟨(some 62), (some (60, true)), .q (.mov (.t 7))⟩, [24]), (⟨(some 63), (some (60, true)), .c (.c (.clo 48 [])) [(.t 61), (.t 62)]⟩, [25, 26, 24, 24]), (⟨(some 64), (some (60, true)), .q (.load true 2 (.t 6))⟩, [24]), (⟨(some 65), (some (60, true)), .q (.mov (.t 7))⟩, [24]), (⟨(some 66), (some (60, true)), .c (.c (.clo 49 [])) [(.t 64), (.t 65)]⟩, [28, 29, 27, 24]), (⟨(some 67), (some (60, true)), .c (.c (.clo 46 [])) [(.t 63), (.t 66)]⟩, [27, 30, 30, 24]), (⟨(some 68), none, .q (.pick (.t 60) (.t 67) (.c (.sc (.bool false))))⟩, [24, 31]), (⟨(some 69), none, .q (.mov (.t 68))⟩, [32, 31]), (⟨(some 70), (some (69, true)), .q (.load true 2 (.t 8))⟩, [33]), (⟨(some 71), (some (69, true)), .q (.mov (.t 9))⟩, [33]), (⟨(some 72), (some (69, true)), .q (.mov (.t 10))⟩, [33]), (⟨(some 73), (some (69, true)), .c (.c (.clo 50 [])) [(.t 70), (.t 71), (.t 72)]⟩, [34, 35, 36, 33, 33]), (⟨(some 74), (some (69, true)), .q (.load true 2 (.t 8))⟩, [33]), (⟨(some 75), (some (69, true)), .q (.mov (.t 9))⟩, [33]), (⟨(some 76), (some (69, true)), .q (.mov (.t 10))⟩, [33]), (⟨(some 77), (some (69, true)), .c (.c (.clo 51 [])) [(.t 74), (.t 75), (.t 76)]⟩, [38, 39, 40, 37, 33]), (⟨(some 78), (some (69, true)), .c (.c (.clo 46 [])) [(.t 73), (.t 77)]⟩, [37, 41, 41, 33]), (⟨(some 79), none, .q (.pick (.t 69) (.t 78) (.c (.sc (.bool false))))⟩, [33, 42]), (⟨(some 80), none, .q (.mov (.t 79))⟩, [43, 42]), (⟨(some 81), (some (80, true)), .q (.load true 2 (.t 11))⟩, [44]), (⟨(some 82), (some (80, true)), .c (.c (.clo 28 [])) [(.t 81)]⟩, [45, 44, 44]), (⟨(some 83), (some (80, true)), .q (.load true 2 (.t 11))⟩, [44]), (⟨(some 84), (some (80, true)), .c (.c (.clo 26 [])) [(.t 83)]⟩, [47, 46, 44]), (⟨(some 85), (some (80, true)), .q (.bin .eql (.t 82) (.t 84))⟩, [46, 48, 44]), (⟨(some 86), none, .q (.pick (.t 80) (.t 85) (.c (.sc (.bool false))))⟩, [44, 49]), (⟨(some 87), none, .q (.mov (.t 86))⟩, [50, 48]), (⟨(some 88), (some (87, true)), .q (.load true 2 (.t 12))⟩, [51]), (⟨(some 89), (some (87, true)), .c (.c (.clo 31 [])) [(.t 88)]⟩, [52, 51, 51]), (⟨(some 90), (some (87, true)), .q (.load true 2 (.t 5))⟩, [51]), (⟨(some 91), (some (87, true)), .c (.c (.clo 31 [])) [(.t 90)]⟩, [54, 53, 51]), (⟨(some 92), (some (87, true)), .c (.c (.clo 45 [])) [(.t 89), (.t 91)]⟩, [53, 55, 55, 51]), (⟨(some 93), none, .q (.pick (.t 87) (.t 92) (.c (.sc (.bool false))))⟩, [51, 56]), (⟨(some 2), none, .q (.mov (.t 93))⟩, [57, 56, 0, 1, 2, 3, 4, 5, 6, 7, 8, 9, 10, 11, 12, 13, 14, 15, 16, 17, 18, 19, 20, 21, 22, 23, 24, 25, 26, 27, 28, 29, 30, 31, 32, 33, 34, 35, 36, 37, 38, 39, 40, 41, 42, 43, 44, 45, 46, 47, 48, 49, 50, 51, 52, 53, 54, 55, 56, 57])])
  .ret))))))))))
theorem K7 : Try.f7.body.bind (comp Try.prog) = some A7 ∧ Try.f7.ntmps = 94 ∧ Try.f7.results.toList.mapM (resB Try.prog) = some [.mov (.t 2)] := ⟨by kernel_rfl, by kernel_rfl, by kernel_rfl⟩
set_option maxHeartbeats 8000000 in
set_option maxRecDepth 100000 in
theorem R7 (code : List Int) (hx : Ty.byte.slice.ok code) : Ret Try.prog 7 [.ro (rows Ty.byte.cs code) code.length] (.sc (.bool true)) [.un] := by
  change Ret Try.prog 7 [.ro (rows B code) code.length] (.sc (.bool true)) [.un]
  have hd := (drawn_ok hx).2
  have r36 := R36 code hx
  have r37 := R37 code hx
  have r38 := R38 code hx
  have r39 := R39 code hx
  have r40 := R40 code hx
  have r41 := R41 code hx
  obtain ⟨d, hde⟩ : ∃ d, d = drawnD code := ⟨_, rfl⟩
  obtain ⟨kp, hke⟩ : ∃ kp, kp = keepV code := ⟨_, rfl⟩
  obtain ⟨tx, hte⟩ : ∃ tx, tx = textV code := ⟨_, rfl⟩
  obtain ⟨sv, hse⟩ : ∃ sv, sv = stepV code := ⟨_, rfl⟩
  rw [← hde] at hd r36 r37 r38 r39 r40 r41
  rw [← hke] at r39
  rw [← hte, ← hse] at r40
  have fo : ∀ x : Disk, flt (.agg (Disk.ty.oc x)) = true := fun x => by simpa [flt] using Disk.ty.flL x
  have ft1 : flt (.tup [.agg (Disk.ty.oc d), .sc (.int .i64 kp)]) = true := by
    have h := fo d
    simp only [flt, flt.fltL, Bool.and_eq_true] at h ⊢
    exact ⟨h, trivial, trivial⟩
  have ft2 : flt (.tup [.agg (Disk.ty.oc d), .sc (.string tx), .sc (.int .i64 sv)]) = true := by
    have h := fo d
    simp only [flt, flt.fltL, Bool.and_eq_true] at h ⊢
    exact ⟨h, trivial, trivial, trivial⟩
  have fd : ∀ xs : List Doc, flt (.own (rows Doc.ty.oc xs) xs.length 2) = true := Doc.ty.flo
  obtain ⟨x, hxe⟩ : ∃ x, x = settleF d := ⟨_, rfl⟩
  have hxo : Disk.ty.ok x := by rw [hxe]; exact settleF_ok hd
  have hxi : settleF x = x := by rw [hxe]; exact settle_idem d
  have hxn : docsNowF x = docsNowF d := by rw [hxe]; exact docsNow_settle d
  obtain ⟨cr, hcr⟩ : ∃ cr, cr = crashF d kp := ⟨_, rfl⟩
  have hcro : Disk.ty.ok cr := by rw [hcr]; exact crashF_ok hd kp
  obtain ⟨sa, hsa⟩ : ∃ sa, sa = saveF d tx sv := ⟨_, rfl⟩
  have hsao : Disk.ty.ok sa := by rw [hsa]; exact saveF_ok hd tx sv
  obtain ⟨ns, hns⟩ : ∃ ns, ns = docsNowF d := ⟨_, rfl⟩
  have hnl : ns.length < 4611686018427387904 := by
    have := docs_lim hd (fun _ => true)
    have e : ns.length * 32 ≤ 140737488351232 := by rw [hns]; exact this
    omega
  have rS := R42 d hd
  rw [← hxe] at rS
  have rS2 := R47 d hd
  rw [← hxe] at rS2
  have rX := R42 x hxo
  rw [hxi] at rX
  have rN := R31 d hd
  rw [← hns] at rN
  have rN2 := R30 d hd
  rw [← hns] at rN2
  have rNx := R31 x hxo
  rw [hxn, ← hns] at rNx
  have rC := R48 d kp hd
  rw [← hcr] at rC
  have rC2 := R49 d kp hd
  rw [← hcr] at rC2
  have rV := R50 d tx sv hd
  rw [← hsa] at rV
  have rV2 := R51 d tx sv hd
  rw [← hsa] at rV2
  clear hde hke hte hse hxe hxi hxn hcr hsa hns
  refine Ret.run Try.func7 K7 (by simp) rfl rfl 900 ?_
  simp [A7, iniρ]
  refine callK.ro 0 rfl (by kernel_rfl) (by simp [roc_ro]) (R13 code) rfl rfl rfl ?_
  by_cases hb : (1048576 : Int) < code.length
  · simp [hb]
  simp [hb]
  refine callK.ro 16 rfl (by kernel_rfl) (by simp [roc_ro]) r36 (fo d) (by simp [inst, instL, Disk.oce, upd_app]; exact ⟨rfl, rfl⟩) rfl ?_
  simp [over]
  refine callK.ro 18 rfl (by kernel_rfl) (by simp [roc_ro]) r37 (fo d) (by simp [inst, instL, Disk.oce, upd_app]; exact ⟨rfl, rfl⟩) rfl ?_
  simp [over]
  refine callK.ro 20 rfl (by kernel_rfl) (by simp [roc_ro]) r38 (fo d) (by simp [inst, instL, Disk.oce, upd_app]; exact ⟨rfl, rfl⟩) rfl ?_
  simp [over]
  refine callK.ro 23 rfl (by kernel_rfl) (by simp [roc_ro]) r39 ft1 (by simp [inst, instL, Disk.oce, upd_app]; exact ⟨rfl, rfl⟩) rfl ?_
  simp [over]
  refine callK.ro 28 rfl (by kernel_rfl) (by simp [roc_ro]) r40 ft2 (by simp [inst, instL, Disk.oce, upd_app]; exact ⟨rfl, rfl⟩) rfl ?_
  simp [over]
  refine callK.ro 33 rfl (by kernel_rfl) (by simp [roc_ro]) r41 (fo d) (by simp [inst, instL, Disk.oce, upd_app]; exact ⟨rfl, rfl⟩) rfl ?_
  simp [over]
  refine callK.ro 35 rfl (by kernel_rfl) (ys := [.agg (Disk.ty.cs d)]) (by simp [roc_agg8, List.mapM_cons, List.mapM_nil, Doc.roc7, Op.roc7, upd_app, Disk.cse]) rS (fo x) (by simp [inst, instL, Disk.oce, upd_app]; exact ⟨rfl, rfl⟩) rfl ?_
  simp [over]
  refine T.ex (I := fun s => s.ρ 3 = .ref 3 0 ∧ s.ρ 4 = .ref 4 0 ∧ s.ρ 5 = .ref 5 0 ∧ s.ρ 6 = .ref 6 0 ∧ s.ρ 8 = .ref 8 0 ∧ s.ρ 11 = .ref 11 0 ∧ s.ρ 12 = .ref 12 0 ∧ s.ρ 7 = .sc (.int .i64 kp) ∧ s.ρ 9 = .sc (.string tx) ∧ s.ρ 10 = .sc (.int .i64 sv) ∧ s.h 3 = some (some [.sl 17000 0 d.sure.length 2 false, .sl 17001 0 d.pend.length 3 false]) ∧ s.h 17000 = some (some (rows Doc.ty.oc d.sure)) ∧ s.h 17001 = some (some (rows Op.ty.oc d.pend)) ∧ s.h 4 = some (some [.sl 19000 0 d.sure.length 2 false, .sl 19001 0 d.pend.length 3 false]) ∧ s.h 19000 = some (some (rows Doc.ty.oc d.sure)) ∧ s.h 19001 = some (some (rows Op.ty.oc d.pend)) ∧ s.h 5 = some (some [.sl 21000 0 d.sure.length 2 false, .sl 21001 0 d.pend.length 3 false]) ∧ s.h 21000 = some (some (rows Doc.ty.oc d.sure)) ∧ s.h 21001 = some (some (rows Op.ty.oc d.pend)) ∧ s.h 6 = some (some [.sl 24001000 0 d.sure.length 2 false, .sl 24001001 0 d.pend.length 3 false]) ∧ s.h 24001000 = some (some (rows Doc.ty.oc d.sure)) ∧ s.h 24001001 = some (some (rows Op.ty.oc d.pend)) ∧ s.h 8 = some (some [.sl 29001000 0 d.sure.length 2 false, .sl 29001001 0 d.pend.length 3 false]) ∧ s.h 29001000 = some (some (rows Doc.ty.oc d.sure)) ∧ s.h 29001001 = some (some (rows Op.ty.oc d.pend)) ∧ s.h 11 = some (some [.sl 34000 0 d.sure.length 2 false, .sl 34001 0 d.pend.length 3 false]) ∧ s.h 34000 = some (some (rows Doc.ty.oc d.sure)) ∧ s.h 34001 = some (some (rows Op.ty.oc d.pend)) ∧ s.h 12 = some (some [.sl 36000 0 x.sure.length 2 false, .sl 36001 0 x.pend.length 3 false]) ∧ s.h 36000 = some (some (rows Doc.ty.oc x.sure)) ∧ s.h 36001 = some (some (rows Op.ty.oc x.pend)) ∧ s.h 43 = none ∧ s.h 45 = none ∧ s.h 89 = none ∧ s.h 91 = none ∧ s.h 52000 = none ∧ s.h 52001 = none ∧ s.h 57000 = none ∧ s.h 57001 = none ∧ s.h 64000 = none ∧ s.h 64001 = none ∧ s.h 67000 = none ∧ s.h 67001 = none ∧ s.h 74000 = none ∧ s.h 74001 = none ∧ s.h 78000 = none ∧ s.h 78001 = none ∧ s.n = 94) ⟨_, Le.refl _, by simp [upd_app]⟩ ?_
  rintro ⟨ρ, hh, n⟩ ⟨p3, p4, p5, p6, p8, p11, p12, p7, p9, p10, b3, u3, v3, b4, u4, v4, b5, u5, v5, b6, u6, v6, b8, u8, v8, b11, u11, v11, b12, u12, v12, z43, z45, z89, z91, z52000, z52001, z57000, z57001, z64000, z64001, z67000, z67001, z74000, z74001, z78000, z78001, rfl⟩
  simp only at p3 p4 p5 p6 p8 p11 p12 p7 p9 p10 b3 u3 v3 b4 u4 v4 b5 u5 v5 b6 u6 v6 b8 u8 v8 b11 u11 v11 b12 u12 v12 z43 z45 z89 z91 z52000 z52001 z57000 z57001 z64000 z64001 z67000 z67001 z74000 z74001 z78000 z78001
  refine T.textP 900 [[], [0], [], [1, 2], [1, 3], [3, 4], [5], [5, 6], [5], [5, 7, 8], [5, 7, 9], [5, 7, 9, 10], [7, 9, 10, 11], [7, 9, 12], [7, 9, 12], [7, 9, 12, 14], [7, 9, 12, 13, 15], [7, 9, 12, 15, 16], [7, 9, 15, 16, 17], [7, 9, 15, 18], [7, 9, 15, 18, 19], [7, 9, 15, 18], [7, 9, 15, 18, 20, 21], [7, 9, 15, 18, 20, 22], [7, 9, 15, 20, 22, 23], [7, 9, 15, 20, 24], [7, 9, 15, 20, 24], [7, 9, 15, 20, 24, 25, 26], [7, 9, 15, 20, 24], [7, 9, 15, 20, 24], [7, 9, 15, 20, 24, 27, 28, 29], [7, 9, 15, 20, 24, 27, 30], [7, 9, 15, 20, 24, 27, 30, 31], [7, 9, 15, 20, 27, 30, 31, 32], [7, 9, 15, 20, 27, 30, 33], [7, 9, 15, 20, 27, 30, 33], [7, 9, 15, 20, 27, 30, 33], [7, 9, 15, 20, 27, 30, 33, 34, 35, 36], [7, 9, 15, 20, 27, 30, 33], [7, 9, 15, 20, 27, 30, 33], [7, 9, 15, 20, 27, 30, 33], [7, 9, 15, 20, 27, 30, 33, 37, 38, 39, 40], [7, 9, 15, 20, 27, 30, 33, 37, 41], [7, 9, 15, 20, 27, 30, 33, 37, 41, 42], [7, 9, 15, 20, 27, 30, 37, 41, 42, 43], [7, 9, 15, 20, 27, 30, 37, 41, 44], [7, 9, 15, 20, 27, 30, 37, 41, 44, 45], [7, 9, 15, 20, 27, 30, 37, 41, 44], [7, 9, 15, 20, 27, 30, 37, 41, 44, 46, 47], [7, 9, 15, 20, 27, 30, 37, 41, 44, 46, 48], [7, 9, 15, 20, 27, 30, 37, 41, 44, 49], [7, 9, 15, 20, 27, 30, 37, 41, 48, 50], [7, 9, 15, 20, 27, 30, 37, 41, 51], [7, 9, 15, 20, 27, 30, 37, 41, 51, 52], [7, 9, 15, 20, 27, 30, 37, 41, 51], [7, 9, 15, 20, 27, 30, 37, 41, 51, 53, 54], [7, 9, 15, 20, 27, 30, 37, 41, 51, 53, 55], [7, 9, 15, 20, 27, 30, 37, 41, 51, 53, 55, 56], [0, 1, 2, 3, 4, 5, 6, 7, 8, 9, 10, 11, 12, 13, 14, 15, 16, 17, 18, 19, 20, 21, 22, 23, 24, 25, 26, 27, 28, 29, 30, 31, 32, 33, 34, 35, 36, 37, 38, 39, 40, 41, 42, 43, 44, 45, 46, 47, 48, 49, 50, 51, 52, 53, 54, 55, 56, 57]] [([], [43, 45, 89, 91, 52000, 52001, 57000, 57001, 64000, 64001, 67000, 67001, 74000, 74001, 78000, 78001]), ([], [43, 45, 89, 91, 52000, 52001, 57000, 57001, 64000, 64001, 67000, 67001, 74000, 74001, 78000, 78001]), ([], [43, 45, 89, 91, 52000, 52001, 57000, 57001, 64000, 64001, 67000, 67001, 74000, 74001, 78000, 78001]), ([], [43, 45, 89, 91, 52000, 52001, 57000, 57001, 64000, 64001, 67000, 67001, 74000, 74001, 78000, 78001]), ([], [43, 45, 89, 91, 52000, 52001, 57000, 57001, 64000, 64001, 67000, 67001, 74000, 74001, 78000, 78001]), ([], [89, 91, 52000, 52001, 57000, 57001, 64000, 64001, 67000, 67001, 74000, 74001, 78000, 78001]), ([], [45, 89, 91, 52000, 52001, 57000, 57001, 64000, 64001, 67000, 67001, 74000, 74001, 78000, 78001]), ([43], []), ([], [43, 89, 91, 52000, 52001, 57000, 57001, 64000, 64001, 67000, 67001, 74000, 74001, 78000, 78001]), ([45], []), ([], [89, 91, 52000, 52001, 57000, 57001, 64000, 64001, 67000, 67001, 74000, 74001, 78000, 78001]), ([], [89, 91, 52000, 52001, 57000, 57001, 64000, 64001, 67000, 67001, 74000, 74001, 78000, 78001]), ([], [89, 91, 57000, 57001, 64000, 64001, 67000, 67001, 74000, 74001, 78000, 78001]), ([], [89, 91, 52000, 52001, 57000, 57001, 64000, 64001, 67000, 67001, 74000, 74001, 78000, 78001]), ([], [89, 91, 57000, 57001, 64000, 64001, 67000, 67001, 74000, 74001, 78000, 78001]), ([52000, 52001], []), ([], [89, 91, 57000, 57001, 64000, 64001, 67000, 67001, 74000, 74001, 78000, 78001]), ([], [89, 91, 57000, 57001, 64000, 64001, 67000, 67001, 74000, 74001, 78000, 78001]), ([], [89, 91, 64000, 64001, 67000, 67001, 74000, 74001, 78000, 78001]), ([], [89, 91, 64000, 64001, 67000, 67001, 74000, 74001, 78000, 78001]), ([57000, 57001], []), ([], [89, 91, 57000, 57001, 64000, 64001, 67000, 67001, 74000, 74001, 78000, 78001]), ([], [89, 91, 64000, 64001, 67000, 67001, 74000, 74001, 78000, 78001]), ([], [89, 91, 64000, 64001, 67000, 67001, 74000, 74001, 78000, 78001]), ([], [89, 91, 74000, 74001, 78000, 78001]), ([], [89, 91, 67000, 67001, 74000, 74001, 78000, 78001]), ([], [89, 91, 67000, 67001, 74000, 74001, 78000, 78001]), ([64000, 64001], []), ([], [89, 91, 64000, 64001, 74000, 74001, 78000, 78001]), ([], [89, 91, 64000, 64001, 74000, 74001, 78000, 78001]), ([67000, 67001], []), ([], [89, 91, 74000, 74001, 78000, 78001]), ([], [89, 91, 74000, 74001, 78000, 78001]), ([], [89, 91]), ([], [89, 91, 78000, 78001]), ([], [89, 91, 78000, 78001]), ([], [89, 91, 78000, 78001]), ([74000, 74001], []), ([], [89, 91, 74000, 74001]), ([], [89, 91, 74000, 74001]), ([], [89, 91, 74000, 74001]), ([78000, 78001], []), ([], [89, 91]), ([], [89, 91]), ([], [89, 91]), ([], [89, 91]), ([], [89, 91]), ([], [89, 91]), ([], [89, 91]), ([], [89, 91]), ([], [89, 91]), ([], []), ([], [91]), ([89], []), ([], [89]), ([91], []), ([], []), ([], []), ([], [])] mixed (by kernel_rfl) (by kernel_rfl) ?_
  simp [p3, p4, p5, p6, p8, p11, p12, p7, p9, p10, b3, u3, v3, b4, u4, v4, b5, u5, v5, b6, u6, v6, b8, u8, v8, b11, u11, v11, b12, u12, v12, z43, z45, z89, z91, z52000, z52001, z57000, z57001, z64000, z64001, z67000, z67001, z74000, z74001, z78000, z78001, over, merge_nil, hideH_nil]
  refine callWK.ro 0 rfl (by kernel_rfl) (ys := [.agg (Disk.ty.cs d)]) (by simp [roc_agg8, List.mapM_cons, List.mapM_nil, Doc.roc7, Op.roc7, roc_sc, upd_app, hideH_app, merge_app, p3, p4, p5, p6, p8, p11, p12, p7, p9, p10, b3, u3, v3, b4, u4, v4, b5, u5, v5, b6, u6, v6, b8, u8, v8, b11, u11, v11, b12, u12, v12, z43, z45, z89, z91, z52000, z52001, z57000, z57001, z64000, z64001, z67000, z67001, z74000, z74001, z78000, z78001, Disk.cse]) (R43 d hd) rfl rfl (by rfl) ?_
  as_aux_lemma =>
    simp [p3, p4, p5, p6, p8, p11, p12, p7, p9, p10, b3, u3, v3, b4, u4, v4, b5, u5, v5, b6, u6, v6, b8, u8, v8, b11, u11, v11, b12, u12, v12, z43, z45, z89, z91, z52000, z52001, z57000, z57001, z64000, z64001, z67000, z67001, z74000, z74001, z78000, z78001, over, merge_nil, hideH_nil, docEq_all]
    refine callWK.ro 0 rfl (by kernel_rfl) (ys := [.agg (Disk.ty.cs d)]) (by simp [roc_agg8, List.mapM_cons, List.mapM_nil, Doc.roc7, Op.roc7, roc_sc, upd_app, hideH_app, merge_app, p3, p4, p5, p6, p8, p11, p12, p7, p9, p10, b3, u3, v3, b4, u4, v4, b5, u5, v5, b6, u6, v6, b8, u8, v8, b11, u11, v11, b12, u12, v12, z43, z45, z89, z91, z52000, z52001, z57000, z57001, z64000, z64001, z67000, z67001, z74000, z74001, z78000, z78001, Disk.cse]) (R44 d hd) rfl rfl (by rfl) ?_
    as_aux_lemma =>
      simp [p3, p4, p5, p6, p8, p11, p12, p7, p9, p10, b3, u3, v3, b4, u4, v4, b5, u5, v5, b6, u6, v6, b8, u8, v8, b11, u11, v11, b12, u12, v12, z43, z45, z89, z91, z52000, z52001, z57000, z57001, z64000, z64001, z67000, z67001, z74000, z74001, z78000, z78001, over, merge_nil, hideH_nil, docEq_all]
      refine callWK.ro 43 rfl (by kernel_rfl) (ys := [.agg (Disk.ty.cs d)]) (by simp [roc_agg8, List.mapM_cons, List.mapM_nil, Doc.roc7, Op.roc7, roc_sc, upd_app, hideH_app, merge_app, p3, p4, p5, p6, p8, p11, p12, p7, p9, p10, b3, u3, v3, b4, u4, v4, b5, u5, v5, b6, u6, v6, b8, u8, v8, b11, u11, v11, b12, u12, v12, z43, z45, z89, z91, z52000, z52001, z57000, z57001, z64000, z64001, z67000, z67001, z74000, z74001, z78000, z78001, Disk.cse]) rN (fd ns) (by simp [inst, instL, Disk.oce, upd_app, hideH_app, merge_app, p3, p4, p5, p6, p8, p11, p12, p7, p9, p10, b3, u3, v3, b4, u4, v4, b5, u5, v5, b6, u6, v6, b8, u8, v8, b11, u11, v11, b12, u12, v12, z43, z45, z89, z91, z52000, z52001, z57000, z57001, z64000, z64001, z67000, z67001, z74000, z74001, z78000, z78001]; exact ⟨rfl, rfl⟩) (by rfl) ?_
      as_aux_lemma =>
        simp [p3, p4, p5, p6, p8, p11, p12, p7, p9, p10, b3, u3, v3, b4, u4, v4, b5, u5, v5, b6, u6, v6, b8, u8, v8, b11, u11, v11, b12, u12, v12, z43, z45, z89, z91, z52000, z52001, z57000, z57001, z64000, z64001, z67000, z67001, z74000, z74001, z78000, z78001, over, merge_nil, hideH_nil, docEq_all]
        refine callWK.ro 45 rfl (by kernel_rfl) (ys := [.agg (Disk.ty.cs d)]) (by simp [roc_agg8, List.mapM_cons, List.mapM_nil, Doc.roc7, Op.roc7, roc_sc, upd_app, hideH_app, merge_app, p3, p4, p5, p6, p8, p11, p12, p7, p9, p10, b3, u3, v3, b4, u4, v4, b5, u5, v5, b6, u6, v6, b8, u8, v8, b11, u11, v11, b12, u12, v12, z43, z45, z89, z91, z52000, z52001, z57000, z57001, z64000, z64001, z67000, z67001, z74000, z74001, z78000, z78001, Disk.cse]) rN2 (fd ns) (by simp [inst, instL, Disk.oce, upd_app, hideH_app, merge_app, p3, p4, p5, p6, p8, p11, p12, p7, p9, p10, b3, u3, v3, b4, u4, v4, b5, u5, v5, b6, u6, v6, b8, u8, v8, b11, u11, v11, b12, u12, v12, z43, z45, z89, z91, z52000, z52001, z57000, z57001, z64000, z64001, z67000, z67001, z74000, z74001, z78000, z78001]; exact ⟨rfl, rfl⟩) (by rfl) ?_
        as_aux_lemma =>
          simp [p3, p4, p5, p6, p8, p11, p12, p7, p9, p10, b3, u3, v3, b4, u4, v4, b5, u5, v5, b6, u6, v6, b8, u8, v8, b11, u11, v11, b12, u12, v12, z43, z45, z89, z91, z52000, z52001, z57000, z57001, z64000, z64001, z67000, z67001, z74000, z74001, z78000, z78001, over, merge_nil, hideH_nil, docEq_all]
          refine callWK.ro 0 rfl (by kernel_rfl) (ys := [.ro (rows Doc.ty.cs ns) ns.length, .ro (rows Doc.ty.cs ns) ns.length]) (by simp [Doc.roc8, upd_app, hideH_app, merge_app, p3, p4, p5, p6, p8, p11, p12, p7, p9, p10, b3, u3, v3, b4, u4, v4, b5, u5, v5, b6, u6, v6, b8, u8, v8, b11, u11, v11, b12, u12, v12, z43, z45, z89, z91, z52000, z52001, z57000, z57001, z64000, z64001, z67000, z67001, z74000, z74001, z78000, z78001]) (R45 ns ns hnl) rfl rfl (by rfl) ?_
          as_aux_lemma =>
            simp [p3, p4, p5, p6, p8, p11, p12, p7, p9, p10, b3, u3, v3, b4, u4, v4, b5, u5, v5, b6, u6, v6, b8, u8, v8, b11, u11, v11, b12, u12, v12, z43, z45, z89, z91, z52000, z52001, z57000, z57001, z64000, z64001, z67000, z67001, z74000, z74001, z78000, z78001, over, merge_nil, hideH_nil, docEq_all]
            refine callWK.ro 51 rfl (by kernel_rfl) (ys := [.agg (Disk.ty.cs d)]) (by simp [roc_agg8, List.mapM_cons, List.mapM_nil, Doc.roc7, Op.roc7, roc_sc, upd_app, hideH_app, merge_app, p3, p4, p5, p6, p8, p11, p12, p7, p9, p10, b3, u3, v3, b4, u4, v4, b5, u5, v5, b6, u6, v6, b8, u8, v8, b11, u11, v11, b12, u12, v12, z43, z45, z89, z91, z52000, z52001, z57000, z57001, z64000, z64001, z67000, z67001, z74000, z74001, z78000, z78001, Disk.cse]) rS2 (fo x) (by simp [inst, instL, Disk.oce, upd_app, hideH_app, merge_app, p3, p4, p5, p6, p8, p11, p12, p7, p9, p10, b3, u3, v3, b4, u4, v4, b5, u5, v5, b6, u6, v6, b8, u8, v8, b11, u11, v11, b12, u12, v12, z43, z45, z89, z91, z52000, z52001, z57000, z57001, z64000, z64001, z67000, z67001, z74000, z74001, z78000, z78001]; exact ⟨rfl, rfl⟩) (by rfl) ?_
            as_aux_lemma =>
              simp [p3, p4, p5, p6, p8, p11, p12, p7, p9, p10, b3, u3, v3, b4, u4, v4, b5, u5, v5, b6, u6, v6, b8, u8, v8, b11, u11, v11, b12, u12, v12, z43, z45, z89, z91, z52000, z52001, z57000, z57001, z64000, z64001, z67000, z67001, z74000, z74001, z78000, z78001, over, merge_nil, hideH_nil, docEq_all]
              refine callWK.ro 0 rfl (by kernel_rfl) (ys := [.agg (Disk.ty.cs x), .agg (Disk.ty.cs x)]) (by simp [roc_agg8, List.mapM_cons, List.mapM_nil, Doc.roc7, Op.roc7, roc_sc, upd_app, hideH_app, merge_app, p3, p4, p5, p6, p8, p11, p12, p7, p9, p10, b3, u3, v3, b4, u4, v4, b5, u5, v5, b6, u6, v6, b8, u8, v8, b11, u11, v11, b12, u12, v12, z43, z45, z89, z91, z52000, z52001, z57000, z57001, z64000, z64001, z67000, z67001, z74000, z74001, z78000, z78001, Disk.cse]) (R46 x hxo) rfl rfl (by rfl) ?_
              as_aux_lemma =>
                simp [p3, p4, p5, p6, p8, p11, p12, p7, p9, p10, b3, u3, v3, b4, u4, v4, b5, u5, v5, b6, u6, v6, b8, u8, v8, b11, u11, v11, b12, u12, v12, z43, z45, z89, z91, z52000, z52001, z57000, z57001, z64000, z64001, z67000, z67001, z74000, z74001, z78000, z78001, over, merge_nil, hideH_nil, docEq_all]
                refine callWK.ro 56 rfl (by kernel_rfl) (ys := [.agg (Disk.ty.cs x)]) (by simp [roc_agg8, List.mapM_cons, List.mapM_nil, Doc.roc7, Op.roc7, roc_sc, upd_app, hideH_app, merge_app, p3, p4, p5, p6, p8, p11, p12, p7, p9, p10, b3, u3, v3, b4, u4, v4, b5, u5, v5, b6, u6, v6, b8, u8, v8, b11, u11, v11, b12, u12, v12, z43, z45, z89, z91, z52000, z52001, z57000, z57001, z64000, z64001, z67000, z67001, z74000, z74001, z78000, z78001, Disk.cse]) rX (fo x) (by simp [inst, instL, Disk.oce, upd_app, hideH_app, merge_app, p3, p4, p5, p6, p8, p11, p12, p7, p9, p10, b3, u3, v3, b4, u4, v4, b5, u5, v5, b6, u6, v6, b8, u8, v8, b11, u11, v11, b12, u12, v12, z43, z45, z89, z91, z52000, z52001, z57000, z57001, z64000, z64001, z67000, z67001, z74000, z74001, z78000, z78001]; exact ⟨rfl, rfl⟩) (by rfl) ?_
                as_aux_lemma =>
                  simp [p3, p4, p5, p6, p8, p11, p12, p7, p9, p10, b3, u3, v3, b4, u4, v4, b5, u5, v5, b6, u6, v6, b8, u8, v8, b11, u11, v11, b12, u12, v12, z43, z45, z89, z91, z52000, z52001, z57000, z57001, z64000, z64001, z67000, z67001, z74000, z74001, z78000, z78001, over, merge_nil, hideH_nil, docEq_all]
                  refine callWK.ro 0 rfl (by kernel_rfl) (ys := [.agg (Disk.ty.cs x), .agg (Disk.ty.cs x)]) (by simp [roc_agg8, List.mapM_cons, List.mapM_nil, Doc.roc7, Op.roc7, roc_sc, upd_app, hideH_app, merge_app, p3, p4, p5, p6, p8, p11, p12, p7, p9, p10, b3, u3, v3, b4, u4, v4, b5, u5, v5, b6, u6, v6, b8, u8, v8, b11, u11, v11, b12, u12, v12, z43, z45, z89, z91, z52000, z52001, z57000, z57001, z64000, z64001, z67000, z67001, z74000, z74001, z78000, z78001, Disk.cse]) (R46 x hxo) rfl rfl (by rfl) ?_
                  as_aux_lemma =>
                    simp [p3, p4, p5, p6, p8, p11, p12, p7, p9, p10, b3, u3, v3, b4, u4, v4, b5, u5, v5, b6, u6, v6, b8, u8, v8, b11, u11, v11, b12, u12, v12, z43, z45, z89, z91, z52000, z52001, z57000, z57001, z64000, z64001, z67000, z67001, z74000, z74001, z78000, z78001, over, merge_nil, hideH_nil, docEq_all]
                    refine callWK.ro 63 rfl (by kernel_rfl) (ys := [.agg (Disk.ty.cs d), .sc (.int .i64 kp)]) (by simp [roc_agg8, List.mapM_cons, List.mapM_nil, Doc.roc7, Op.roc7, roc_sc, upd_app, hideH_app, merge_app, p3, p4, p5, p6, p8, p11, p12, p7, p9, p10, b3, u3, v3, b4, u4, v4, b5, u5, v5, b6, u6, v6, b8, u8, v8, b11, u11, v11, b12, u12, v12, z43, z45, z89, z91, z52000, z52001, z57000, z57001, z64000, z64001, z67000, z67001, z74000, z74001, z78000, z78001, Disk.cse]) rC (fo cr) (by simp [inst, instL, Disk.oce, upd_app, hideH_app, merge_app, p3, p4, p5, p6, p8, p11, p12, p7, p9, p10, b3, u3, v3, b4, u4, v4, b5, u5, v5, b6, u6, v6, b8, u8, v8, b11, u11, v11, b12, u12, v12, z43, z45, z89, z91, z52000, z52001, z57000, z57001, z64000, z64001, z67000, z67001, z74000, z74001, z78000, z78001]; exact ⟨rfl, rfl⟩) (by rfl) ?_
                    as_aux_lemma =>
                      simp [p3, p4, p5, p6, p8, p11, p12, p7, p9, p10, b3, u3, v3, b4, u4, v4, b5, u5, v5, b6, u6, v6, b8, u8, v8, b11, u11, v11, b12, u12, v12, z43, z45, z89, z91, z52000, z52001, z57000, z57001, z64000, z64001, z67000, z67001, z74000, z74001, z78000, z78001, over, merge_nil, hideH_nil, docEq_all]
                      refine callWK.ro 66 rfl (by kernel_rfl) (ys := [.agg (Disk.ty.cs d), .sc (.int .i64 kp)]) (by simp [roc_agg8, List.mapM_cons, List.mapM_nil, Doc.roc7, Op.roc7, roc_sc, upd_app, hideH_app, merge_app, p3, p4, p5, p6, p8, p11, p12, p7, p9, p10, b3, u3, v3, b4, u4, v4, b5, u5, v5, b6, u6, v6, b8, u8, v8, b11, u11, v11, b12, u12, v12, z43, z45, z89, z91, z52000, z52001, z57000, z57001, z64000, z64001, z67000, z67001, z74000, z74001, z78000, z78001, Disk.cse]) rC2 (fo cr) (by simp [inst, instL, Disk.oce, upd_app, hideH_app, merge_app, p3, p4, p5, p6, p8, p11, p12, p7, p9, p10, b3, u3, v3, b4, u4, v4, b5, u5, v5, b6, u6, v6, b8, u8, v8, b11, u11, v11, b12, u12, v12, z43, z45, z89, z91, z52000, z52001, z57000, z57001, z64000, z64001, z67000, z67001, z74000, z74001, z78000, z78001]; exact ⟨rfl, rfl⟩) (by rfl) ?_
                      as_aux_lemma =>
                        simp [p3, p4, p5, p6, p8, p11, p12, p7, p9, p10, b3, u3, v3, b4, u4, v4, b5, u5, v5, b6, u6, v6, b8, u8, v8, b11, u11, v11, b12, u12, v12, z43, z45, z89, z91, z52000, z52001, z57000, z57001, z64000, z64001, z67000, z67001, z74000, z74001, z78000, z78001, over, merge_nil, hideH_nil, docEq_all]
                        refine callWK.ro 0 rfl (by kernel_rfl) (ys := [.agg (Disk.ty.cs cr), .agg (Disk.ty.cs cr)]) (by simp [roc_agg8, List.mapM_cons, List.mapM_nil, Doc.roc7, Op.roc7, roc_sc, upd_app, hideH_app, merge_app, p3, p4, p5, p6, p8, p11, p12, p7, p9, p10, b3, u3, v3, b4, u4, v4, b5, u5, v5, b6, u6, v6, b8, u8, v8, b11, u11, v11, b12, u12, v12, z43, z45, z89, z91, z52000, z52001, z57000, z57001, z64000, z64001, z67000, z67001, z74000, z74001, z78000, z78001, Disk.cse]) (R46 cr hcro) rfl rfl (by rfl) ?_
                        as_aux_lemma =>
                          simp [p3, p4, p5, p6, p8, p11, p12, p7, p9, p10, b3, u3, v3, b4, u4, v4, b5, u5, v5, b6, u6, v6, b8, u8, v8, b11, u11, v11, b12, u12, v12, z43, z45, z89, z91, z52000, z52001, z57000, z57001, z64000, z64001, z67000, z67001, z74000, z74001, z78000, z78001, over, merge_nil, hideH_nil, docEq_all]
                          refine callWK.ro 73 rfl (by kernel_rfl) (ys := [.agg (Disk.ty.cs d), .sc (.string tx), .sc (.int .i64 sv)]) (by simp [roc_agg8, List.mapM_cons, List.mapM_nil, Doc.roc7, Op.roc7, roc_sc, upd_app, hideH_app, merge_app, p3, p4, p5, p6, p8, p11, p12, p7, p9, p10, b3, u3, v3, b4, u4, v4, b5, u5, v5, b6, u6, v6, b8, u8, v8, b11, u11, v11, b12, u12, v12, z43, z45, z89, z91, z52000, z52001, z57000, z57001, z64000, z64001, z67000, z67001, z74000, z74001, z78000, z78001, Disk.cse]) rV (fo sa) (by simp [inst, instL, Disk.oce, upd_app, hideH_app, merge_app, p3, p4, p5, p6, p8, p11, p12, p7, p9, p10, b3, u3, v3, b4, u4, v4, b5, u5, v5, b6, u6, v6, b8, u8, v8, b11, u11, v11, b12, u12, v12, z43, z45, z89, z91, z52000, z52001, z57000, z57001, z64000, z64001, z67000, z67001, z74000, z74001, z78000, z78001]; exact ⟨rfl, rfl⟩) (by rfl) ?_
                          as_aux_lemma =>
                            simp [p3, p4, p5, p6, p8, p11, p12, p7, p9, p10, b3, u3, v3, b4, u4, v4, b5, u5, v5, b6, u6, v6, b8, u8, v8, b11, u11, v11, b12, u12, v12, z43, z45, z89, z91, z52000, z52001, z57000, z57001, z64000, z64001, z67000, z67001, z74000, z74001, z78000, z78001, over, merge_nil, hideH_nil, docEq_all]
                            refine callWK.ro 77 rfl (by kernel_rfl) (ys := [.agg (Disk.ty.cs d), .sc (.string tx), .sc (.int .i64 sv)]) (by simp [roc_agg8, List.mapM_cons, List.mapM_nil, Doc.roc7, Op.roc7, roc_sc, upd_app, hideH_app, merge_app, p3, p4, p5, p6, p8, p11, p12, p7, p9, p10, b3, u3, v3, b4, u4, v4, b5, u5, v5, b6, u6, v6, b8, u8, v8, b11, u11, v11, b12, u12, v12, z43, z45, z89, z91, z52000, z52001, z57000, z57001, z64000, z64001, z67000, z67001, z74000, z74001, z78000, z78001, Disk.cse]) rV2 (fo sa) (by simp [inst, instL, Disk.oce, upd_app, hideH_app, merge_app, p3, p4, p5, p6, p8, p11, p12, p7, p9, p10, b3, u3, v3, b4, u4, v4, b5, u5, v5, b6, u6, v6, b8, u8, v8, b11, u11, v11, b12, u12, v12, z43, z45, z89, z91, z52000, z52001, z57000, z57001, z64000, z64001, z67000, z67001, z74000, z74001, z78000, z78001]; exact ⟨rfl, rfl⟩) (by rfl) ?_
                            as_aux_lemma =>
                              simp [p3, p4, p5, p6, p8, p11, p12, p7, p9, p10, b3, u3, v3, b4, u4, v4, b5, u5, v5, b6, u6, v6, b8, u8, v8, b11, u11, v11, b12, u12, v12, z43, z45, z89, z91, z52000, z52001, z57000, z57001, z64000, z64001, z67000, z67001, z74000, z74001, z78000, z78001, over, merge_nil, hideH_nil, docEq_all]
                              refine callWK.ro 0 rfl (by kernel_rfl) (ys := [.agg (Disk.ty.cs sa), .agg (Disk.ty.cs sa)]) (by simp [roc_agg8, List.mapM_cons, List.mapM_nil, Doc.roc7, Op.roc7, roc_sc, upd_app, hideH_app, merge_app, p3, p4, p5, p6, p8, p11, p12, p7, p9, p10, b3, u3, v3, b4, u4, v4, b5, u5, v5, b6, u6, v6, b8, u8, v8, b11, u11, v11, b12, u12, v12, z43, z45, z89, z91, z52000, z52001, z57000, z57001, z64000, z64001, z67000, z67001, z74000, z74001, z78000, z78001, Disk.cse]) (R46 sa hsao) rfl rfl (by rfl) ?_
                              as_aux_lemma =>
                                simp [p3, p4, p5, p6, p8, p11, p12, p7, p9, p10, b3, u3, v3, b4, u4, v4, b5, u5, v5, b6, u6, v6, b8, u8, v8, b11, u11, v11, b12, u12, v12, z43, z45, z89, z91, z52000, z52001, z57000, z57001, z64000, z64001, z67000, z67001, z74000, z74001, z78000, z78001, over, merge_nil, hideH_nil, docEq_all]
                                refine callWK.ro 0 rfl (by kernel_rfl) (ys := [.agg (Disk.ty.cs d)]) (by simp [roc_agg8, List.mapM_cons, List.mapM_nil, Doc.roc7, Op.roc7, roc_sc, upd_app, hideH_app, merge_app, p3, p4, p5, p6, p8, p11, p12, p7, p9, p10, b3, u3, v3, b4, u4, v4, b5, u5, v5, b6, u6, v6, b8, u8, v8, b11, u11, v11, b12, u12, v12, z43, z45, z89, z91, z52000, z52001, z57000, z57001, z64000, z64001, z67000, z67001, z74000, z74001, z78000, z78001, Disk.cse]) (R28 d hd) rfl rfl (by rfl) ?_
                                as_aux_lemma =>
                                  simp [p3, p4, p5, p6, p8, p11, p12, p7, p9, p10, b3, u3, v3, b4, u4, v4, b5, u5, v5, b6, u6, v6, b8, u8, v8, b11, u11, v11, b12, u12, v12, z43, z45, z89, z91, z52000, z52001, z57000, z57001, z64000, z64001, z67000, z67001, z74000, z74001, z78000, z78001, over, merge_nil, hideH_nil, docEq_all]
                                  refine callWK.ro 0 rfl (by kernel_rfl) (ys := [.agg (Disk.ty.cs d)]) (by simp [roc_agg8, List.mapM_cons, List.mapM_nil, Doc.roc7, Op.roc7, roc_sc, upd_app, hideH_app, merge_app, p3, p4, p5, p6, p8, p11, p12, p7, p9, p10, b3, u3, v3, b4, u4, v4, b5, u5, v5, b6, u6, v6, b8, u8, v8, b11, u11, v11, b12, u12, v12, z43, z45, z89, z91, z52000, z52001, z57000, z57001, z64000, z64001, z67000, z67001, z74000, z74001, z78000, z78001, Disk.cse]) (R26 d hd) rfl rfl (by rfl) ?_
                                  as_aux_lemma =>
                                    simp [p3, p4, p5, p6, p8, p11, p12, p7, p9, p10, b3, u3, v3, b4, u4, v4, b5, u5, v5, b6, u6, v6, b8, u8, v8, b11, u11, v11, b12, u12, v12, z43, z45, z89, z91, z52000, z52001, z57000, z57001, z64000, z64001, z67000, z67001, z74000, z74001, z78000, z78001, over, merge_nil, hideH_nil, docEq_all]
                                    refine callWK.ro 89 rfl (by kernel_rfl) (ys := [.agg (Disk.ty.cs x)]) (by simp [roc_agg8, List.mapM_cons, List.mapM_nil, Doc.roc7, Op.roc7, roc_sc, upd_app, hideH_app, merge_app, p3, p4, p5, p6, p8, p11, p12, p7, p9, p10, b3, u3, v3, b4, u4, v4, b5, u5, v5, b6, u6, v6, b8, u8, v8, b11, u11, v11, b12, u12, v12, z43, z45, z89, z91, z52000, z52001, z57000, z57001, z64000, z64001, z67000, z67001, z74000, z74001, z78000, z78001, Disk.cse]) rNx (fd ns) (by simp [inst, instL, Disk.oce, upd_app, hideH_app, merge_app, p3, p4, p5, p6, p8, p11, p12, p7, p9, p10, b3, u3, v3, b4, u4, v4, b5, u5, v5, b6, u6, v6, b8, u8, v8, b11, u11, v11, b12, u12, v12, z43, z45, z89, z91, z52000, z52001, z57000, z57001, z64000, z64001, z67000, z67001, z74000, z74001, z78000, z78001]; exact ⟨rfl, rfl⟩) (by rfl) ?_
                                    as_aux_lemma =>
                                      simp [p3, p4, p5, p6, p8, p11, p12, p7, p9, p10, b3, u3, v3, b4, u4, v4, b5, u5, v5, b6, u6, v6, b8, u8, v8, b11, u11, v11, b12, u12, v12, z43, z45, z89, z91, z52000, z52001, z57000, z57001, z64000, z64001, z67000, z67001, z74000, z74001, z78000, z78001, over, merge_nil, hideH_nil, docEq_all]
                                      refine callWK.ro 91 rfl (by kernel_rfl) (ys := [.agg (Disk.ty.cs d)]) (by simp [roc_agg8, List.mapM_cons, List.mapM_nil, Doc.roc7, Op.roc7, roc_sc, upd_app, hideH_app, merge_app, p3, p4, p5, p6, p8, p11, p12, p7, p9, p10, b3, u3, v3, b4, u4, v4, b5, u5, v5, b6, u6, v6, b8, u8, v8, b11, u11, v11, b12, u12, v12, z43, z45, z89, z91, z52000, z52001, z57000, z57001, z64000, z64001, z67000, z67001, z74000, z74001, z78000, z78001, Disk.cse]) rN (fd ns) (by simp [inst, instL, Disk.oce, upd_app, hideH_app, merge_app, p3, p4, p5, p6, p8, p11, p12, p7, p9, p10, b3, u3, v3, b4, u4, v4, b5, u5, v5, b6, u6, v6, b8, u8, v8, b11, u11, v11, b12, u12, v12, z43, z45, z89, z91, z52000, z52001, z57000, z57001, z64000, z64001, z67000, z67001, z74000, z74001, z78000, z78001]; exact ⟨rfl, rfl⟩) (by rfl) ?_
                                      as_aux_lemma =>
                                        simp [p3, p4, p5, p6, p8, p11, p12, p7, p9, p10, b3, u3, v3, b4, u4, v4, b5, u5, v5, b6, u6, v6, b8, u8, v8, b11, u11, v11, b12, u12, v12, z43, z45, z89, z91, z52000, z52001, z57000, z57001, z64000, z64001, z67000, z67001, z74000, z74001, z78000, z78001, over, merge_nil, hideH_nil, docEq_all]
                                        refine callWK.ro 0 rfl (by kernel_rfl) (ys := [.ro (rows Doc.ty.cs ns) ns.length, .ro (rows Doc.ty.cs ns) ns.length]) (by simp [Doc.roc8, upd_app, hideH_app, merge_app, p3, p4, p5, p6, p8, p11, p12, p7, p9, p10, b3, u3, v3, b4, u4, v4, b5, u5, v5, b6, u6, v6, b8, u8, v8, b11, u11, v11, b12, u12, v12, z43, z45, z89, z91, z52000, z52001, z57000, z57001, z64000, z64001, z67000, z67001, z74000, z74001, z78000, z78001]) (R45 ns ns hnl) rfl rfl (by rfl) ?_
                                        as_aux_lemma =>
                                          simp [p3, p4, p5, p6, p8, p11, p12, p7, p9, p10, b3, u3, v3, b4, u4, v4, b5, u5, v5, b6, u6, v6, b8, u8, v8, b11, u11, v11, b12, u12, v12, z43, z45, z89, z91, z52000, z52001, z57000, z57001, z64000, z64001, z67000, z67001, z74000, z74001, z78000, z78001, over, merge_nil, hideH_nil, docEq_all]
end Go.Proofs.Ytadoadomogceiaa.Am
