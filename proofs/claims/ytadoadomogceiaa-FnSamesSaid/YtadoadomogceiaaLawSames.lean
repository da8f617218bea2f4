/- The functions of the program, each by its contract: LawSames; no condition. -/
import Derived.Test.YtadoadomogceiaaProg
import Derived.Test.YtadoadomogceiaaAmZ
import Derived.Test.YtadoadomogceiaaAmP
import Derived.Test.YtadoadomogceiaaDrawSames2
import Derived.Test.YtadoadomogceiaaSames
import Derived.KernelRfl
namespace Go.Proofs.Ytadoadomogceiaa.Am
open Go Go.Proofs
set_option linter.unusedSimpArgs false
set_option linter.unusedVariables false
attribute [local congr] T_congr callK_congr callWK_congr
attribute [local simp] run_nil run_op0 run_opg run_seq run_cond run_block run_ret run_skip run_skip_after run_skip_blk run_exit run_exit_after run_exit_blk run_loop run_any runS_nil runS_op0 runS_opg runW_nil runW_op0 runW_opg exec_q exec_w exec_c exec_n execW_q execW_w execW_c restW_app hideH_app merge_app wblk rest_app restS_app execS_q execS_c aval dOk upd_app ev_t ev_c setO_some setO_none put_mk pinsOf isIo hasIo sbin endR fin resL one outL out1 clo1 cloL coe coeL shut shut.shutL wantA weff cellsOf fillA deref natOf ρ0_app h0_app plain plain.plainL keep_app keepH_app andThen_normal andThen_ret andThen_exit pop_nil pop_after pop_after_ret pop_after_exit pop_blk pop_blk_ret pop_blk_exit nilA srcOf srcCells keepR_app keepHR_app renA rb
theorem eqBy_all {α : Type} {f : α → α → Bool} (h : ∀ x, f x x = true) : ∀ xs : List α, eqBy f xs xs = true
  | [] => rfl
  | x :: xs => by simp [eqBy, h x, eqBy_all h xs]
theorem strEq_refl (a : ByteArray) : strEq a a = true := by simp [strEq]
theorem markEq_refl (m : Mark) : markEq m m = true := by simp [markEq, strEq_refl]
theorem fileEq_refl (m : File) : fileEq m m = true := by simp [fileEq, strEq_refl]
theorem madeEq_refl (m : Made) : madeEq m m = true := by simp [madeEq, strEq_refl, eqBy_all fileEq_refl]
theorem dsm_le (code : List Int) : (dsm code).1.length ≤ 3 := by
  unfold dsm
  simp only
  split <;> exact marksV_le _
/- 13: loop.example/g00464/laws.big -/
def A13 : AC := (.seq (.ops [⟨(some 2), none, .q (.mov (.c (.sc (.bool false))))⟩])
  (.seq (.ops [⟨(some 3), none, .q (.mov (.t 0))⟩, ⟨(some 4), none, .q (.llen (.t 3))⟩, ⟨(some 5), none, .q (.bin .gtr (.t 4) (.c (.sc (.int .i64 1048576))))⟩, ⟨(some 2), none, .q (.mov (.t 5))⟩])
  .ret))
theorem K13 : Try.f13.body.bind (comp Try.prog) = some A13 ∧ Try.f13.ntmps = 6 ∧ Try.f13.results.toList.mapM (resB Try.prog) = some [.mov (.t 2)] := ⟨by kernel_rfl, by kernel_rfl, by kernel_rfl⟩
theorem R13 (code : List Int) : Ret Try.prog 13 [.ro (rows B code) code.length] (.sc (.bool (decide ((1048576 : Int) < code.length)))) [.un] := by
  refine Ret.run Try.func13 K13 (by simp) rfl rfl 500 ?_
  simp [A13, iniρ]
/- 3: loop.example/g00464/laws.FnSames -/
def A3 : AC := (.seq (.ops [⟨(some 2), none, .q (.mov (.c (.sc (.bool false))))⟩])
  (.seq (.seq (.ops [⟨(some 7), none, .q (.mov (.t 0))⟩, ⟨(some 8), none, .c (.c (.clo 13 [])) [(.t 7)]⟩])
  (.cond (.t 8) (.seq (.ops [⟨(some 2), none, .q (.mov (.c (.sc (.bool true))))⟩])
  .ret)
  .skip))
  (.seq (.ops [⟨(some 10), none, .q (.mov (.t 0))⟩, ⟨(some 11), none, .c (.c (.clo 14 [])) [(.t 10)]⟩, ⟨(some 9), none, .q (.mov (.t 11))⟩, ⟨(some 12), none, .q (.ext (.t 9) 0)⟩, ⟨(some 13), none, .q (.ext (.t 9) 1)⟩, ⟨(some 3), none, .q (.mov (.t 12))⟩, ⟨(some 4), none, .q (.mov (.t 13))⟩])
  (.seq (.ops [⟨(some 15), none, .q (.mov (.t 0))⟩, ⟨(some 16), none, .c (.c (.clo 15 [])) [(.t 15)]⟩, ⟨(some 14), none, .q (.mov (.t 16))⟩, ⟨(some 17), none, .q (.ext (.t 14) 0)⟩, ⟨(some 18), none, .q (.ext (.t 14) 1)⟩, ⟨(some 5), none, .q (.mov (.t 17))⟩, ⟨(some 6), none, .q (.mov (.t 18))⟩])
  (.seq (.ops [⟨(some 19), none, .q (.mov (.t 3))⟩, ⟨(some 20), none, .q (.mov (.t 4))⟩, ⟨(some 21), none, .c (.c (.clo 16 [])) [(.t 19), (.t 20)]⟩, ⟨(some 22), none, .q (.mov (.t 3))⟩, ⟨(some 23), none, .q (.mov (.t 4))⟩, ⟨(some 24), none, .c (.c (.clo 17 [])) [(.t 22), (.t 23)]⟩, ⟨(some 25), none, .q (.beq false (.t 21) (.t 24))⟩, ⟨(some 26), none, .q (.mov (.t 25))⟩, ⟨(some 27), (some (26, true)), .q (.mov (.t 3))⟩, ⟨(some 28), (some (26, true)), .q (.mov (.t 3))⟩, ⟨(some 29), (some (26, true)), .c (.c (.clo 16 [])) [(.t 27), (.t 28)]⟩, ⟨(some 30), none, .q (.pick (.t 26) (.t 29) (.c (.sc (.bool false))))⟩, ⟨(some 31), none, .q (.mov (.t 30))⟩, ⟨(some 32), (some (31, true)), .q (.mov (.t 5))⟩, ⟨(some 33), (some (31, true)), .q (.mov (.t 6))⟩, ⟨(some 34), (some (31, true)), .c (.c (.clo 18 [])) [(.t 32), (.t 33)]⟩, ⟨(some 35), (some (31, true)), .q (.mov (.t 5))⟩, ⟨(some 36), (some (31, true)), .q (.mov (.t 6))⟩, ⟨(some 37), (some (31, true)), .c (.c (.clo 19 [])) [(.t 35), (.t 36)]⟩, ⟨(some 38), (some (31, true)), .q (.beq false (.t 34) (.t 37))⟩, ⟨(some 39), none, .q (.pick (.t 31) (.t 38) (.c (.sc (.bool false))))⟩, ⟨(some 40), none, .q (.mov (.t 39))⟩, ⟨(some 41), (some (40, true)), .q (.mov (.t 5))⟩, ⟨(some 42), (some (40, true)), .q (.mov (.t 5))⟩, ⟨(some 43), (some (40, true)), .c (.c (.clo 18 [])) [(.t 41), (.t 42)]⟩, ⟨(some 44), none, .q (.pick (.t 40) (.t 43) (.c (.sc (.bool false))))⟩, ⟨(some 2), none, .q (.mov (.t 44))⟩])
  .ret)))))
theorem K3 : Try.f3.body.bind (comp Try.prog) = some A3 ∧ Try.f3.ntmps = 45 ∧ Try.f3.results.toList.mapM (resB Try.prog) = some [.mov (.t 2)] := ⟨by kernel_rfl, by kernel_rfl, by kernel_rfl⟩
set_option maxHeartbeats 2000000 in
set_option maxRecDepth 100000 in
theorem R3 (code : List Int) (hx : Ty.byte.slice.ok code) : Ret Try.prog 3 [.ro (rows Ty.byte.cs code) code.length] (.sc (.bool true)) [.un] := by
  change Ret Try.prog 3 [.ro (rows B code) code.length] (.sc (.bool true)) [.un]
  obtain ⟨o1, o2⟩ := dsmades_ok hx
  obtain ⟨xa, hxa⟩ : ∃ xa, xa = dsm code := ⟨_, rfl⟩
  obtain ⟨xc, hxc⟩ : ∃ xc, xc = dsmades code := ⟨_, rfl⟩
  have r1 := R14 code hx
  have r2 := R15 code hx
  rw [← hxa] at r1
  rw [← hxc] at r2 o1 o2
  have la : xa.1.length < 4611686018427387904 := by rw [hxa]; exact Nat.lt_of_le_of_lt (dsm_le code) (by decide)
  have f1 : flt (.tup [.own (rows Mark.ty.oc xa.1) xa.1.length 2, .own (rows Mark.ty.oc xa.2) xa.2.length 2]) = true := by
    have h1 := Mark.ty.flo xa.1
    have h2 := Mark.ty.flo xa.2
    simp only [flt, flt.fltL, Bool.and_eq_true] at h1 h2 ⊢
    exact ⟨h1, h2, trivial⟩
  have f2 : flt (.tup [.own (rows Made.ty.oc xc.1) xc.1.length 3, .own (rows Made.ty.oc xc.2) xc.2.length 3]) = true := by
    have h1 := Made.ty.flo xc.1
    have h2 := Made.ty.flo xc.2
    simp only [flt, flt.fltL, Bool.and_eq_true] at h1 h2 ⊢
    exact ⟨h1, h2, trivial⟩
  refine Ret.run Try.func3 K3 (by simp) rfl rfl 900 ?_
  simp [A3, iniρ]
  refine callK.ro 0 rfl (by kernel_rfl) (by simp [roc_ro]) (R13 code) rfl rfl rfl ?_
  by_cases hb : (1048576 : Int) < code.length
  · simp [hb]
  simp [hb]
  refine callK.ro 600 rfl (by kernel_rfl) (by simp [roc_ro]) r1 f1 (by simp [inst, instL, upd_app]; exact ⟨rfl, rfl⟩) rfl ?_
  simp
  refine callK.ro 602 rfl (by kernel_rfl) (by simp [roc_ro]) r2 f2 (by simp [inst, instL, upd_app]; exact ⟨rfl, rfl⟩) rfl ?_
  simp
  refine callK.ro 0 rfl (by kernel_rfl) (by simp [Mark.roc8]) (R16 xa.1 xa.2 la) rfl rfl rfl ?_
  simp
  refine callK.ro 0 rfl (by kernel_rfl) (by simp [Mark.roc8]) (R17 xa.1 xa.2 la) rfl rfl rfl ?_
  simp
  refine callK.ro 0 rfl (by kernel_rfl) (by simp [Mark.roc8]) (R16 xa.1 xa.1 la) rfl rfl rfl ?_
  simp [eqBy_all markEq_refl]
  refine callK.ro 0 rfl (by kernel_rfl) (by simp [Made.roc8]) (R18 xc.1 xc.2 o1) rfl rfl rfl ?_
  simp
  refine callK.ro 0 rfl (by kernel_rfl) (by simp [Made.roc8]) (R19 xc.1 xc.2 o1) rfl rfl rfl ?_
  simp
  refine callK.ro 0 rfl (by kernel_rfl) (by simp [Made.roc8]) (R18 xc.1 xc.1 o1) rfl rfl rfl ?_
  simp [eqBy_all madeEq_refl]
end Go.Proofs.Ytadoadomogceiaa.Am
