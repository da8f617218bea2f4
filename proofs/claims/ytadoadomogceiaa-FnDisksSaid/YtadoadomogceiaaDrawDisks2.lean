/- The functions of the program, each by its contract: DrawDisks2; no condition. -/
import Derived.Test.YtadoadomogceiaaProg
import Derived.Test.YtadoadomogceiaaAmZ
import Derived.Test.YtadoadomogceiaaAmP
import Derived.Test.YtadoadomogceiaaDrawDisks
import Derived.KernelRfl
namespace Go.Proofs.Ytadoadomogceiaa.Am
open Go Go.Proofs
set_option linter.unusedSimpArgs false
set_option linter.unusedVariables false
attribute [local congr] T_congr callK_congr callWK_congr
attribute [local simp] run_nil run_op0 run_opg run_seq run_cond run_block run_ret run_skip run_skip_after run_skip_blk run_exit run_exit_after run_exit_blk run_loop run_any runS_nil runS_op0 runS_opg runW_nil runW_op0 runW_opg exec_q exec_w exec_c exec_n execW_q execW_w execW_c restW_app hideH_app merge_app wblk rest_app restS_app execS_q execS_c aval dOk upd_app ev_t ev_c setO_some setO_none put_mk pinsOf isIo hasIo sbin endR fin resL one outL out1 clo1 cloL coe coeL shut shut.shutL wantA weff cellsOf fillA deref natOf ρ0_app h0_app plain plain.plainL keep_app keepH_app andThen_normal andThen_ret andThen_exit pop_nil pop_after pop_after_ret pop_after_exit pop_blk pop_blk_ret pop_blk_exit nilA srcOf srcCells keepR_app keepHR_app renA rb
def drawnD (code : List Int) : Disk := (anyD (newC code)).1
def drawnC (code : List Int) : Cur := (anyD (newC code)).2
theorem drawn_ok {code : List Int} (h : Ty.byte.slice.ok code) : (drawnC code).ok ∧ Disk.ty.ok (drawnD code) := anyD_ok (newC_ok h)
def keepsL : List Int := [0, 1, 2, 3, 5, 1023, -1]
def stepsL : List Int := [0, 1, 2, 3, 4, -1, 5]
def textsL : List ByteArray := [⟨#[]⟩, ⟨#[110, 101, 119, 32, 116, 101, 120, 116, 10]⟩, strOfNums (List.replicate 401 0)]
def keepV (code : List Int) : Int := keepsL[(belowV (drawnC code) 7).toNat]?.getD 0
def textV (code : List Int) : ByteArray := pickS textsL (drawnC code) 3
def stepV (code : List Int) : Int := stepsL[(belowV (belowC (drawnC code) 3) 7).toNat]?.getD 0
/- 36: loop.example/g00464/spec.DrawDiskOk -/
def A36 : AC := (.seq (.ops [⟨(some 2), none, .w (.alloc [.em, .em])⟩])
  (.seq (.ops [⟨(some 4), none, .q (.mov (.t 0))⟩, ⟨(some 5), none, .c (.c (.clo 60 [])) [(.t 4)]⟩, ⟨(some 3), none, .q (.mov (.t 5))⟩])
  (.seq (.ops [⟨(some 6), none, .q (.mov (.t 3))⟩, ⟨(some 7), none, .c (.c (.clo 103 [])) [(.t 6)]⟩, ⟨none, none, .w (.store 2 (.t 2) (.t 7))⟩])
  .ret)))
theorem K36 : Try.f36.body.bind (comp Try.prog) = some A36 ∧ Try.f36.ntmps = 8 ∧ Try.f36.results.toList.mapM (resB Try.prog) = some [.load true 2 (.t 2)] := ⟨by kernel_rfl, by kernel_rfl, by kernel_rfl⟩
theorem R36 (code : List Int) (hx : Ty.byte.slice.ok code) : Ret Try.prog 36 [.ro (rows B code) code.length] (.agg (Disk.ty.oc (drawnD code))) [.un] := by
  have fr : ∀ c : Cur, idfree.idfreeL c.cs = true := fun c => rfl
  have hc0 := newC_ok hx
  refine Ret.run Try.func36 K36 (by simp) rfl rfl 900 ?_
  simp [A36, iniρ, over]
  refine callK.cut [.ro] 50 (r := [(none, none)]) rfl (by kernel_rfl) rfl (by rfl) (by rfl) (by simp [closedB, shut, upd_app]) (by simp [shutArgs, roc_ro, upd_app]; rfl) (by rfl) (R60 code hx) (by rfl) (by rfl) (by simp [inst, upd_app]; exact ⟨rfl, rfl⟩) rfl ?_
  simp [over]
  refine callK.bx (b := 50) 7 rfl (by kernel_rfl) (by simp [upd_app]) (by simp [upd_app]) (fr _) (by simp [upd_app]) (by simp) (R103 _ hc0) rfl (by simp [inst, instL, Disk.oce, upd_app]; exact ⟨rfl, rfl⟩) rfl ?_
  simp [over, ex1, Doc.ocl, Doc.frL, Op.ocl, Op.frL, Disk.oce, drawnD]
/- 37: loop.example/g00464/spec.DrawDocsNow -/
def A37 : AC := (.seq (.ops [⟨(some 2), none, .w (.alloc [.em, .em])⟩])
  (.seq (.ops [⟨(some 4), none, .q (.mov (.t 0))⟩, ⟨(some 5), none, .c (.c (.clo 60 [])) [(.t 4)]⟩, ⟨(some 3), none, .q (.mov (.t 5))⟩])
  (.seq (.ops [⟨(some 6), none, .q (.mov (.t 3))⟩, ⟨(some 7), none, .c (.c (.clo 103 [])) [(.t 6)]⟩, ⟨none, none, .w (.store 2 (.t 2) (.t 7))⟩])
  .ret)))
theorem K37 : Try.f37.body.bind (comp Try.prog) = some A37 ∧ Try.f37.ntmps = 8 ∧ Try.f37.results.toList.mapM (resB Try.prog) = some [.load true 2 (.t 2)] := ⟨by kernel_rfl, by kernel_rfl, by kernel_rfl⟩
theorem R37 (code : List Int) (hx : Ty.byte.slice.ok code) : Ret Try.prog 37 [.ro (rows B code) code.length] (.agg (Disk.ty.oc (drawnD code))) [.un] := by
  have fr : ∀ c : Cur, idfree.idfreeL c.cs = true := fun c => rfl
  have hc0 := newC_ok hx
  refine Ret.run Try.func37 K37 (by simp) rfl rfl 900 ?_
  simp [A37, iniρ, over]
  refine callK.cut [.ro] 50 (r := [(none, none)]) rfl (by kernel_rfl) rfl (by rfl) (by rfl) (by simp [closedB, shut, upd_app]) (by simp [shutArgs, roc_ro, upd_app]; rfl) (by rfl) (R60 code hx) (by rfl) (by rfl) (by simp [inst, upd_app]; exact ⟨rfl, rfl⟩) rfl ?_
  simp [over]
  refine callK.bx (b := 50) 7 rfl (by kernel_rfl) (by simp [upd_app]) (by simp [upd_app]) (fr _) (by simp [upd_app]) (by simp) (R103 _ hc0) rfl (by simp [inst, instL, Disk.oce, upd_app]; exact ⟨rfl, rfl⟩) rfl ?_
  simp [over, ex1, Doc.ocl, Doc.frL, Op.ocl, Op.frL, Disk.oce, drawnD]
/- 38: loop.example/g00464/spec.DrawSettle -/
def A38 : AC := (.seq (.ops [⟨(some 2), none, .w (.alloc [.em, .em])⟩])
  (.seq (.ops [⟨(some 4), none, .q (.mov (.t 0))⟩, ⟨(some 5), none, .c (.c (.clo 60 [])) [(.t 4)]⟩, ⟨(some 3), none, .q (.mov (.t 5))⟩])
  (.seq (.ops [⟨(some 6), none, .q (.mov (.t 3))⟩, ⟨(some 7), none, .c (.c (.clo 103 [])) [(.t 6)]⟩, ⟨none, none, .w (.store 2 (.t 2) (.t 7))⟩])
  .ret)))
theorem K38 : Try.f38.body.bind (comp Try.prog) = some A38 ∧ Try.f38.ntmps = 8 ∧ Try.f38.results.toList.mapM (resB Try.prog) = some [.load true 2 (.t 2)] := ⟨by kernel_rfl, by kernel_rfl, by kernel_rfl⟩
theorem R38 (code : List Int) (hx : Ty.byte.slice.ok code) : Ret Try.prog 38 [.ro (rows B code) code.length] (.agg (Disk.ty.oc (drawnD code))) [.un] := by
  have fr : ∀ c : Cur, idfree.idfreeL c.cs = true := fun c => rfl
  have hc0 := newC_ok hx
  refine Ret.run Try.func38 K38 (by simp) rfl rfl 900 ?_
  simp [A38, iniρ, over]
  refine callK.cut [.ro] 50 (r := [(none, none)]) rfl (by kernel_rfl) rfl (by rfl) (by rfl) (by simp [closedB, shut, upd_app]) (by simp [shutArgs, roc_ro, upd_app]; rfl) (by rfl) (R60 code hx) (by rfl) (by rfl) (by simp [inst, upd_app]; exact ⟨rfl, rfl⟩) rfl ?_
  simp [over]
  refine callK.bx (b := 50) 7 rfl (by kernel_rfl) (by simp [upd_app]) (by simp [upd_app]) (fr _) (by simp [upd_app]) (by simp) (R103 _ hc0) rfl (by simp [inst, instL, Disk.oce, upd_app]; exact ⟨rfl, rfl⟩) rfl ?_
  simp [over, ex1, Doc.ocl, Doc.frL, Op.ocl, Op.frL, Disk.oce, drawnD]
/- 41: loop.example/g00464/spec.DrawLoad -/
def A41 : AC := (.seq (.ops [⟨(some 2), none, .w (.alloc [.em, .em])⟩])
  (.seq (.ops [⟨(some 4), none, .q (.mov (.t 0))⟩, ⟨(some 5), none, .c (.c (.clo 60 [])) [(.t 4)]⟩, ⟨(some 3), none, .q (.mov (.t 5))⟩])
  (.seq (.ops [⟨(some 6), none, .q (.mov (.t 3))⟩, ⟨(some 7), none, .c (.c (.clo 103 [])) [(.t 6)]⟩, ⟨none, none, .w (.store 2 (.t 2) (.t 7))⟩])
  .ret)))
theorem K41 : Try.f41.body.bind (comp Try.prog) = some A41 ∧ Try.f41.ntmps = 8 ∧ Try.f41.results.toList.mapM (resB Try.prog) = some [.load true 2 (.t 2)] := ⟨by kernel_rfl, by kernel_rfl, by kernel_rfl⟩
theorem R41 (code : List Int) (hx : Ty.byte.slice.ok code) : Ret Try.prog 41 [.ro (rows B code) code.length] (.agg (Disk.ty.oc (drawnD code))) [.un] := by
  have fr : ∀ c : Cur, idfree.idfreeL c.cs = true := fun c => rfl
  have hc0 := newC_ok hx
  refine Ret.run Try.func41 K41 (by simp) rfl rfl 900 ?_
  simp [A41, iniρ, over]
  refine callK.cut [.ro] 50 (r := [(none, none)]) rfl (by kernel_rfl) rfl (by rfl) (by rfl) (by simp [closedB, shut, upd_app]) (by simp [shutArgs, roc_ro, upd_app]; rfl) (by rfl) (R60 code hx) (by rfl) (by rfl) (by simp [inst, upd_app]; exact ⟨rfl, rfl⟩) rfl ?_
  simp [over]
  refine callK.bx (b := 50) 7 rfl (by kernel_rfl) (by simp [upd_app]) (by simp [upd_app]) (fr _) (by simp [upd_app]) (by simp) (R103 _ hc0) rfl (by simp [inst, instL, Disk.oce, upd_app]; exact ⟨rfl, rfl⟩) rfl ?_
  simp [over, ex1, Doc.ocl, Doc.frL, Op.ocl, Op.frL, Disk.oce, drawnD]
/- 39: loop.example/g00464/spec.DrawCrash -/
def A39 : AC := (.seq (.ops [⟨(some 2), none, .w (.alloc [.em, .em])⟩, ⟨(some 3), none, .q (.mov (.c (.sc (.int .i64 0))))⟩])
  (.seq (.ops [⟨(some 5), none, .q (.mov (.t 0))⟩, ⟨(some 6), none, .c (.c (.clo 60 [])) [(.t 5)]⟩, ⟨(some 4), none, .q (.mov (.t 6))⟩])
  (.seq (.ops [⟨(some 7), none, .q (.mov (.t 4))⟩, ⟨(some 8), none, .c (.c (.clo 103 [])) [(.t 7)]⟩, ⟨(some 9), none, .q (.mov (.t 4))⟩, ⟨(some 10), none, .w (.bsl 1 7 [(.sc (.int .i64 0)), (.sc (.int .i64 0)), (.sc (.int .i64 0)), (.sc (.int .i64 0)), (.sc (.int .i64 0)), (.sc (.int .i64 0)), (.sc (.int .i64 0))] [(0, 1, (.c (.sc (.int .i64 0)))), (1, 1, (.c (.sc (.int .i64 1)))), (2, 1, (.c (.sc (.int .i64 2)))), (3, 1, (.c (.sc (.int .i64 3)))), (4, 1, (.c (.sc (.int .i64 5)))), (5, 1, (.c (.sc (.int .i64 1023)))), (6, 1, (.c (.sc (.int .i64 (-1)))))])⟩, ⟨(some 11), none, .c (.c (.clo 104 [])) [(.t 9), (.t 10)]⟩, ⟨none, none, .w (.store 2 (.t 2) (.t 8))⟩, ⟨(some 3), none, .q (.mov (.t 11))⟩])
  .ret)))
theorem K39 : Try.f39.body.bind (comp Try.prog) = some A39 ∧ Try.f39.ntmps = 12 ∧ Try.f39.results.toList.mapM (resB Try.prog) = some [.load true 2 (.t 2), .mov (.t 3)] := ⟨by kernel_rfl, by kernel_rfl, by kernel_rfl⟩
theorem R39 (code : List Int) (hx : Ty.byte.slice.ok code) : Ret Try.prog 39 [.ro (rows B code) code.length] (.tup [.agg (Disk.ty.oc (drawnD code)), .sc (.int .i64 (keepV code))]) [.un] := by
  have fr : ∀ c : Cur, idfree.idfreeL c.cs = true := fun c => rfl
  have hc0 := newC_ok hx
  have hc1 := (drawn_ok hx).1
  have r1 : Ret Try.prog 104 [.bx (drawnC code).cs, .own (rows Ty.int.oc keepsL) 7 1] (.sc (.int .i64 (keepV code))) [.bx (belowC (drawnC code) 7).cs, .un] := R104 _ hc1 keepsL (by decide)
  refine Ret.run Try.func39 K39 (by simp) rfl rfl 900 ?_
  simp [A39, iniρ, over]
  refine callK.cut [.ro] 50 (r := [(none, none)]) rfl (by kernel_rfl) rfl (by rfl) (by rfl) (by simp [closedB, shut, upd_app]) (by simp [shutArgs, roc_ro, upd_app]; rfl) (by rfl) (R60 code hx) (by rfl) (by rfl) (by simp [inst, upd_app]; exact ⟨rfl, rfl⟩) rfl ?_
  simp [over]
  refine callK.bx (b := 50) 8 rfl (by kernel_rfl) (by simp [upd_app]) (by simp [upd_app]) (fr _) (by simp [upd_app]) (by simp) (R103 _ hc0) rfl (by simp [inst, instL, Disk.oce, upd_app]; exact ⟨rfl, rfl⟩) rfl ?_
  simp [over]
  refine callK.bm 50 10 (len := 7) (sz := 1) rfl (by kernel_rfl) (by simp [upd_app]) (by simp [upd_app]; rfl) (fr _) (by simp [upd_app]) (by simp [upd_app]; rfl) (by rfl) (by rfl) (by decide) r1 rfl rfl ?_
  simp [over, ex1, Doc.ocl, Doc.frL, Op.ocl, Op.frL, Disk.oce, drawnD]
/- 40: loop.example/g00464/spec.DrawSave -/
def A40 : AC := (.seq (.ops [⟨(some 2), none, .w (.alloc [.em, .em])⟩, ⟨(some 3), none, .q (.mov (.c (.sc (.string ⟨#[]⟩))))⟩, ⟨(some 4), none, .q (.mov (.c (.sc (.int .i64 0))))⟩])
  (.seq (.ops [⟨(some 6), none, .q (.mov (.t 0))⟩, ⟨(some 7), none, .c (.c (.clo 60 [])) [(.t 6)]⟩, ⟨(some 5), none, .q (.mov (.t 7))⟩])
  (.seq (.any [(⟨(some 8), none, .q (.mov (.t 5))⟩, []), (⟨(some 9), none, .c (.c (.clo 103 [])) [(.t 8)]⟩, [0]), (⟨(some 10), none, .q (.mov (.t 5))⟩, []), (⟨(some 11), none, .w (.mk 1 1 [(.sc (.int .u8 0))] (.c (.sc (.int .i64 401))) (.c (.sc (.int .i64 401))))⟩, []), (⟨(some 12), none, .q (.bstr (.t 11))⟩, [3]), (⟨(some 13), none, .w (.bsl 1 3 [(.sc (.string ⟨#[]⟩)), (.sc (.string ⟨#[]⟩)), (.sc (.string ⟨#[]⟩))] [(0, 1, (.c (.sc (.string ⟨#[]⟩)))), (1, 1, (.c (.sc (.string ⟨#[110, 101, 119, 32, 116, 101, 120, 116, 10]⟩)))), (2, 1, (.t 12))])⟩, [4]), (⟨(some 14), none, .c (.c (.clo 105 [])) [(.t 10), (.t 13)]⟩, [2, 5, 1]), (⟨(some 15), none, .q (.mov (.t 5))⟩, []), (⟨(some 16), none, .w (.bsl 1 7 [(.sc (.int .i64 0)), (.sc (.int .i64 0)), (.sc (.int .i64 0)), (.sc (.int .i64 0)), (.sc (.int .i64 0)), (.sc (.int .i64 0)), (.sc (.int .i64 0))] [(0, 1, (.c (.sc (.int .i64 0)))), (1, 1, (.c (.sc (.int .i64 1)))), (2, 1, (.c (.sc (.int .i64 2)))), (3, 1, (.c (.sc (.int .i64 3)))), (4, 1, (.c (.sc (.int .i64 4)))), (5, 1, (.c (.sc (.int .i64 (-1))))), (6, 1, (.c (.sc (.int .i64 5))))])⟩, []), (⟨(some 17), none, .c (.c (.clo 104 [])) [(.t 15), (.t 16)]⟩, [7, 8, 6]), (⟨none, none, .w (.store 2 (.t 2) (.t 9))⟩, [1, 9, 0, 1]), (⟨(some 3), none, .q (.mov (.t 14))⟩, [6, 10, 0, 1, 2, 3, 4, 5, 6, 10]), (⟨(some 4), none, .q (.mov (.t 17))⟩, [9, 11, 0, 1, 2, 3, 4, 5, 6, 7, 8, 9, 10, 11])])
  .ret)))
theorem K40 : Try.f40.body.bind (comp Try.prog) = some A40 ∧ Try.f40.ntmps = 18 ∧ Try.f40.results.toList.mapM (resB Try.prog) = some [.load true 2 (.t 2), .mov (.t 3), .mov (.t 4)] := ⟨by kernel_rfl, by kernel_rfl, by kernel_rfl⟩
set_option maxHeartbeats 2000000 in
set_option maxRecDepth 100000 in
theorem R40 (code : List Int) (hx : Ty.byte.slice.ok code) : Ret Try.prog 40 [.ro (rows B code) code.length] (.tup [.agg (Disk.ty.oc (drawnD code)), .sc (.string (textV code)), .sc (.int .i64 (stepV code))]) [.un] := by
  have fr : ∀ c : Cur, idfree.idfreeL c.cs = true := fun c => rfl
  have hc0 := newC_ok hx
  have hc1 := (drawn_ok hx).1
  have r1 : Ret Try.prog 105 [.bx (drawnC code).cs, .own (rows Ty.str.oc textsL) 3 1] (.sc (.string (textV code))) [.bx (belowC (drawnC code) 3).cs, .un] := R105 _ hc1 textsL (by decide)
  have r2 : Ret Try.prog 104 [.bx (belowC (drawnC code) 3).cs, .own (rows Ty.int.oc stepsL) 7 1] (.sc (.int .i64 (stepV code))) [.bx (belowC (belowC (drawnC code) 3) 7).cs, .un] := R104 _ (belowC_ok hc1 3) stepsL (by decide)
  refine Ret.run Try.func40 K40 (by simp) rfl rfl 900 ?_
  simp [A40, iniρ, over]
  refine callK.cut [.ro] 50 (r := [(none, none)]) rfl (by kernel_rfl) rfl (by rfl) (by rfl) (by simp [closedB, shut, upd_app]) (by simp [shutArgs, roc_ro, upd_app]; rfl) (by rfl) (R60 code hx) (by rfl) (by rfl) (by simp [inst, upd_app]; exact ⟨rfl, rfl⟩) rfl ?_
  simp [over]
  refine T.textW 400 [([], [11, 13, 16]), ([50, 10000, 10001], [11, 13, 16]), ([], [50, 10000, 10001, 11, 13, 16]), ([11], [50, 10000, 10001, 16]), ([], [50, 10000, 10001, 16]), ([13], [50, 10000, 10001, 16]), ([50, 13], [16]), ([], [50, 10000, 10001, 11, 13, 16]), ([16], [50, 10000, 10001, 11, 13]), ([50, 16], []), ([2], []), ([], []), ([], [])] mixed (by kernel_rfl) (by kernel_rfl) ?_
  simp [over, merge_nil, hideH_nil]
  refine callWK.bx (b := 50) 9 rfl (by kernel_rfl) (by simp [upd_app]) (by simp [upd_app, hideH_app]) (fr _) (by simp) (by simp) (R103 _ hc0) rfl (by simp [inst, instL, Disk.oce, upd_app, hideH_app]; exact ⟨rfl, rfl⟩) (by rfl) ?_
  simp [over, merge_nil, hideH_nil]
  rw [bytesRep (n := 401) (by simp [upd_app, hideH_app, merge_app])]
  simp [over, merge_nil, hideH_nil]
  refine callWK.bm 50 13 (len := 3) (sz := 1) rfl (by kernel_rfl) (by simp [upd_app]) (by simp [upd_app, hideH_app, merge_app]; rfl) (fr _) (by simp [upd_app]) (by simp [upd_app, hideH_app, merge_app]; rfl) (by rfl) (by rfl) (by decide) r1 rfl (by decide) ?_
  simp [over, merge_nil, hideH_nil]
  refine callWK.bm 50 16 (len := 7) (sz := 1) rfl (by kernel_rfl) (by simp [upd_app]) (by simp [upd_app, hideH_app, merge_app]) (fr _) (by simp [upd_app]) (by simp [upd_app, hideH_app, merge_app]; rfl) (by rfl) (by rfl) (by decide) r2 rfl (by decide) ?_
  simp [over, merge_nil, hideH_nil]
  simp [over, ex1, Doc.ocl, Doc.frL, Op.ocl, Op.frL, Disk.oce, drawnD]
def docEq (x y : Doc) : Bool := strEq x.name y.name && strEq x.text y.text
theorem strEq_rfl (a : ByteArray) : strEq a a = true := by simp [strEq]
theorem docEq_all : ∀ xs : List Doc, eqBy docEq xs xs = true
  | [] => rfl
  | x :: xs => by simp [eqBy, docEq, strEq_rfl, docEq_all xs]
theorem R45 (xs ys : List Doc) (hb : xs.length < 4611686018427387904) : Ret Try.prog 45 [.ro (rows Doc.ty.cs xs) xs.length, .ro (rows Doc.ty.cs ys) ys.length] (.sc (.bool (eqBy docEq xs ys))) [.un, .un] := Ret.same mixed Doc.ty (offs := [(0, 0), (1, 0)]) Try.func45 ⟨by kernel_rfl, by kernel_rfl, by kernel_rfl⟩ docEq (fun x y => by simp [Doc.cse, eqOff, seq1, docEq, strEq]) xs ys hb
/- 46: loop.example/g00464/laws.sameDisk -/
def A46 : AC := (.seq (.ops [⟨(some 2), none, .w (.box (.t 0))⟩, ⟨(some 3), none, .w (.box (.t 1))⟩, ⟨(some 4), none, .q (.mov (.c (.sc (.bool false))))⟩])
  (.seq (.seq (.ops [⟨(some 6), none, .q (.fadr 0 (.t 2))⟩, ⟨(some 7), none, .q (.load false 1 (.t 6))⟩, ⟨(some 8), none, .q (.fadr 0 (.t 3))⟩, ⟨(some 9), none, .q (.load false 1 (.t 8))⟩, ⟨(some 10), none, .c (.c (.clo 45 [])) [(.t 7), (.t 9)]⟩, ⟨(some 11), none, .q (.not (.t 10))⟩, ⟨(some 12), none, .q (.mov (.t 11))⟩, ⟨(some 13), (some (12, false)), .q (.fadr 1 (.t 2))⟩, ⟨(some 14), (some (12, false)), .q (.load false 1 (.t 13))⟩, ⟨(some 15), (some (12, false)), .q (.llen (.t 14))⟩, ⟨(some 16), (some (12, false)), .q (.fadr 1 (.t 3))⟩, ⟨(some 17), (some (12, false)), .q (.load false 1 (.t 16))⟩, ⟨(some 18), (some (12, false)), .q (.llen (.t 17))⟩, ⟨(some 19), (some (12, false)), .q (.bin .neq (.t 15) (.t 18))⟩, ⟨(some 20), none, .q (.pick (.t 12) (.c (.sc (.bool true))) (.t 19))⟩])
  (.cond (.t 20) (.seq (.ops [⟨(some 4), none, .q (.mov (.c (.sc (.bool false))))⟩])
  .ret)
  .skip))
  (.seq (.seq (.ops [⟨(some 5), none, .q (.mov (.c (.sc (.int .i64 0))))⟩])
  (.block 0 (.loop (.seq (.seq (.ops [⟨(some 21), none, .q (.mov (.t 5))⟩, ⟨(some 22), none, .q (.fadr 1 (.t 2))⟩, ⟨(some 23), none, .q (.load false 1 (.t 22))⟩, ⟨(some 24), none, .q (.llen (.t 23))⟩, ⟨(some 25), none, .q (.bin .lss (.t 21) (.t 24))⟩])
  (.cond (.t 25) .skip
  (.exit 0)))
  (.seq (.block 1 (.seq (.any [(⟨(some 28), none, .q (.fadr 1 (.t 2))⟩, []), (⟨(some 29), none, .q (.load false 1 (.t 28))⟩, [0]), (⟨(some 30), none, .q (.mov (.t 5))⟩, []), (⟨(some 31), none, .q (.iadr 3 (.t 29) (.t 30))⟩, [1, 2]), (⟨(some 32), none, .q (.load true 3 (.t 31))⟩, [3]), (⟨(some 33), none, .q (.fadr 1 (.t 3))⟩, []), (⟨(some 34), none, .q (.load false 1 (.t 33))⟩, [5]), (⟨(some 35), none, .q (.mov (.t 5))⟩, []), (⟨(some 36), none, .q (.iadr 3 (.t 34) (.t 35))⟩, [6, 7]), (⟨(some 37), none, .q (.load true 3 (.t 36))⟩, [8]), (⟨(some 38), none, .q (.aeq true [(0, 2), (1, 0), (2, 0)] (.t 32) (.t 37))⟩, [4, 9])])
  (.cond (.t 38) (.seq (.ops [⟨(some 4), none, .q (.mov (.c (.sc (.bool false))))⟩])
  .ret)
  .skip)))
  (.ops [⟨(some 26), none, .q (.mov (.t 5))⟩, ⟨(some 27), none, .q (.bin .add (.t 26) (.c (.sc (.int .i64 1))))⟩, ⟨(some 5), none, .q (.mov (.t 27))⟩]))))))
  (.seq (.ops [⟨(some 4), none, .q (.mov (.c (.sc (.bool true))))⟩])
  .ret))))
theorem K46 : Try.f46.body.bind (comp Try.prog) = some A46 ∧ Try.f46.ntmps = 39 ∧ Try.f46.results.toList.mapM (resB Try.prog) = some [.mov (.t 4)] := ⟨by kernel_rfl, by kernel_rfl, by kernel_rfl⟩
theorem R46 (d : Disk) (hd : Disk.ty.ok d) : Ret Try.prog 46 [.agg (Disk.ty.cs d), .agg (Disk.ty.cs d)] (.sc (.bool true)) [.un, .un] := by
  have hb1 : d.sure.length * 32 ≤ 140737488351232 := hd.1.1
  have hb2 : d.pend.length * 40 ≤ 140737488351232 := hd.2.1.1
  have hpl : plain.plainL (Disk.ty.cs d) = true := Disk.ty.plL d
  refine Ret.run Try.func46 K46 (by simp) rfl rfl 900 ?_
  simp [A46, iniρ, Disk.cse, hpl, over]
  refine callK.ro 0 rfl (by kernel_rfl) (by simp [roc_ro, upd_app]) (R45 d.sure d.sure (by omega)) rfl rfl rfl ?_
  simp [docEq_all, over]
  refine T.rounds (μ := fun i : List Op × List Op => i.2.length)
    (fun i s => i.1 ++ i.2 = d.pend ∧ s.ρ 2 = .ref 2 0 ∧ s.ρ 3 = .ref 3 0 ∧ s.ρ 5 = .sc (.int .i64 i.1.length) ∧ s.h 2 = some (some (Disk.ty.cs d)) ∧ s.h 3 = some (some (Disk.ty.cs d)) ∧ s.n = 39) ([], d.pend) (by simp [upd_app, Disk.cse]) ?_
  rintro ⟨pre, rest⟩ ⟨ρ, hh, n⟩ ⟨hx, k2, k3, k5, b2, b3, rfl⟩
  simp only at hx k2 k3 k5 b2 b3
  rw [Disk.cse] at b2 b3
  refine run_ok (n := 400) ?_
  cases rest with
  | nil =>
    simp at hx
    subst hx
    simp [k2, k5, b2]
    refine T.on 400 ?_
    simp
  | cons o rest =>
    have hlt : (pre.length : Int) < d.pend.length := by rw [← hx]; simp only [List.length_append, List.length_cons]; omega
    have hdr := rows_drop Op.ty.csn pre (o :: rest)
    rw [hx, rows_cons] at hdr
    have hdr : List.drop (pre.length * 3) (rows Op.ty.cs d.pend) = Op.ty.cs o ++ rows Op.ty.cs rest := hdr
    have hw1 : IntKind.i64.wrap ((pre.length : Int) + 1) = pre.length + 1 := wrap_i64 (by omega) (by omega)
    simp [k2, k3, k5, b2, b3, hlt]
    refine T.text 400 mixed (by kernel_rfl) (by kernel_rfl) ?_
    simp [k2, k3, k5, b2, b3, hlt, hdr, Op.cse, eqOff, seq1, hw1]
    refine ⟨pre ++ [o], rest, by simp, _, Le.refl _, ?_⟩
    simp [upd_app, hx, k2, k3, b2, b3, Disk.cse]
end Go.Proofs.Ytadoadomogceiaa.Am
