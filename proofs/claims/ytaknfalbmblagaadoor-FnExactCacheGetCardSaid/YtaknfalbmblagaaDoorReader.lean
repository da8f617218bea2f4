/- The functions of the program, each by its contract: Reader; no condition. -/
import Derived.Test.YtaknfalbmblagaaDoorProg
import Derived.Test.YtaknfalbmblagaaDoorAmZ
import Derived.Test.YtaknfalbmblagaaDoorAmP
import Derived.Test.YtaknfalbmblagaaDoorPuts
import Derived.Test.YtaknfalbmblagaaDoorCache
import Derived.KernelRfl
namespace Go.Proofs.YtaknfalbmblagaaDoor.Am
open Go Go.Proofs
set_option linter.unusedSimpArgs false
set_option linter.unusedVariables false
attribute [local congr] T_congr callK_congr callWK_congr
attribute [local simp] run_nil run_op0 run_opg run_seq run_cond run_block run_ret run_skip run_skip_after run_skip_blk run_exit run_exit_after run_exit_blk run_loop run_any runS_nil runS_op0 runS_opg runW_nil runW_op0 runW_opg exec_q exec_w exec_c exec_n execW_q execW_w execW_c restW_app hideH_app merge_app wblk rest_app restS_app execS_q execS_c aval dOk upd_app ev_t ev_c setO_some setO_none put_mk pinsOf isIo hasIo sbin endR fin resL one outL out1 clo1 cloL coe coeL shut shut.shutL wantA weff cellsOf fillA deref natOf ρ0_app h0_app plain plain.plainL keep_app keepH_app andThen_normal andThen_ret andThen_exit pop_nil pop_after pop_after_ret pop_after_exit pop_blk pop_blk_ret pop_blk_exit nilA srcOf srcCells keepR_app keepHR_app renA rb
def nextT (b : List Int) (a : Int) (bad : Bool) : ByteArray × Int × Bool :=
  match getT b a with | some (s, n) => if bad = true then (⟨#[]⟩, a, true) else (s, n, false) | none => (⟨#[]⟩, a, true)
/- 38: (*loop.example/g00464/impl.textReader).next -/
def A38 : AC := (.seq (.ops [⟨(some 2), none, .q (.mov (.c (.sc (.string ⟨#[]⟩))))⟩])
  (.seq (.any [(⟨(some 7), none, .q (.mov (.t 0))⟩, []), (⟨(some 8), none, .q (.nilc (.t 7))⟩, [0]), (⟨(some 9), none, .q (.fadr 0 (.t 8))⟩, [1]), (⟨(some 10), none, .q (.load false 1 (.t 9))⟩, [2]), (⟨(some 11), none, .q (.mov (.t 0))⟩, []), (⟨(some 12), none, .q (.nilc (.t 11))⟩, [4]), (⟨(some 13), none, .q (.fadr 1 (.t 12))⟩, [5]), (⟨(some 14), none, .q (.load false 1 (.t 13))⟩, [6]), (⟨(some 15), none, .c (.c (.clo 52 [])) [(.t 10), (.t 14)]⟩, [3, 7]), (⟨(some 6), none, .q (.mov (.t 15))⟩, [8]), (⟨(some 16), none, .q (.ext (.t 6) 0)⟩, [9]), (⟨(some 17), none, .q (.ext (.t 6) 1)⟩, [9]), (⟨(some 18), none, .q (.ext (.t 6) 2)⟩, [9]), (⟨(some 3), none, .q (.mov (.t 16))⟩, [10, 8, 0, 1, 2, 3, 4, 5, 6, 7, 8, 9, 10]), (⟨(some 4), none, .q (.mov (.t 17))⟩, [11, 13, 0, 1, 2, 3, 4, 5, 6, 7, 8, 9, 10, 11, 13]), (⟨(some 5), none, .q (.mov (.t 18))⟩, [12, 14, 0, 1, 2, 3, 4, 5, 6, 7, 8, 9, 10, 11, 12, 13, 14])])
  (.seq (.seq (.ops [⟨(some 19), none, .q (.mov (.t 0))⟩, ⟨(some 20), none, .q (.nilc (.t 19))⟩, ⟨(some 21), none, .q (.fadr 2 (.t 20))⟩, ⟨(some 22), none, .q (.load false 1 (.t 21))⟩, ⟨(some 23), none, .q (.mov (.t 22))⟩, ⟨(some 24), (some (23, false)), .q (.mov (.t 5))⟩, ⟨(some 25), (some (23, false)), .q (.not (.t 24))⟩, ⟨(some 26), none, .q (.pick (.t 23) (.c (.sc (.bool true))) (.t 25))⟩])
  (.cond (.t 26) (.seq (.ops [⟨(some 27), none, .q (.mov (.t 0))⟩, ⟨(some 28), none, .q (.nilc (.t 27))⟩, ⟨(some 29), none, .q (.fadr 2 (.t 28))⟩, ⟨none, none, .w (.store 1 (.t 29) (.c (.sc (.bool true))))⟩])
  (.seq (.ops [⟨(some 2), none, .q (.mov (.c (.sc (.string ⟨#[]⟩))))⟩])
  .ret))
  .skip))
  (.seq (.ops [⟨(some 30), none, .q (.mov (.t 0))⟩, ⟨(some 31), none, .q (.mov (.t 4))⟩, ⟨(some 32), none, .q (.nilc (.t 30))⟩, ⟨(some 33), none, .q (.fadr 1 (.t 32))⟩, ⟨none, none, .w (.store 1 (.t 33) (.t 31))⟩])
  (.seq (.ops [⟨(some 34), none, .q (.mov (.t 3))⟩, ⟨(some 2), none, .q (.mov (.t 34))⟩])
  .ret)))))
theorem K38 : Tryd.f38.body.bind (comp Tryd.prog) = some A38 ∧ Tryd.f38.ntmps = 35 ∧ Tryd.f38.results.toList.mapM (resB Tryd.prog) = some [.mov (.t 2)] := ⟨by kernel_rfl, by kernel_rfl, by kernel_rfl⟩
set_option maxHeartbeats 2000000 in
theorem R38 (b : List Int) (a : Int) (bad : Bool) (ha : Ty.int.ok a) (hb : byteL b) (hl : b.length ≤ 140737488355328) : Ret Tryd.prog 38 [.bx [.ro (rows B b) b.length, .sc (.int .i64 a), .sc (.bool bad)]] (.sc (.string (nextT b a bad).1)) [.bx [.ro (rows B b) b.length, .sc (.int .i64 (nextT b a bad).2.1), .sc (.bool (nextT b a bad).2.2)]] := by
  have rg := R52 b a ha hb hl
  have hn : nextT b a bad = match getT b a with | some (s, n) => if bad = true then (⟨#[]⟩, a, true) else (s, n, false) | none => (⟨#[]⟩, a, true) := rfl
  obtain ⟨g, hg⟩ : ∃ g, g = getT b a := ⟨_, rfl⟩
  rw [← hg] at rg hn
  rw [hn]
  cases g with
  | none =>
    cases bad with
    | true =>
      refine Ret.run Tryd.func38 K38 (by simp) rfl rfl 900 ?_
      simp [A38, iniρ]
      refine T.textW 400 [([], []), ([], []), ([], []), ([], []), ([], []), ([], []), ([], []), ([], []), ([], []), ([], []), ([], []), ([], []), ([], []), ([], []), ([], []), ([], [])] mixed (by kernel_rfl) (by kernel_rfl) ?_
      simp [merge_nil, hideH_nil]
      refine callWK.ro 0 rfl (by kernel_rfl) (by simp [upd_app, roc_sc, roc_ro, hideH_app]) rg rfl (by simp [gotA, inst, instL, shut]; exact ⟨rfl, rfl⟩) (by rfl) ?_
      simp [merge_nil, hideH_nil, over, ex1, idfree.idfreeL, idfree, ioPos1, outC]
    | false =>
      refine Ret.run Tryd.func38 K38 (by simp) rfl rfl 900 ?_
      simp [A38, iniρ]
      refine T.textW 400 [([], []), ([], []), ([], []), ([], []), ([], []), ([], []), ([], []), ([], []), ([], []), ([], []), ([], []), ([], []), ([], []), ([], []), ([], []), ([], [])] mixed (by kernel_rfl) (by kernel_rfl) ?_
      simp [merge_nil, hideH_nil]
      refine callWK.ro 0 rfl (by kernel_rfl) (by simp [upd_app, roc_sc, roc_ro, hideH_app]) rg rfl (by simp [gotA, inst, instL, shut]; exact ⟨rfl, rfl⟩) (by rfl) ?_
      simp [merge_nil, hideH_nil, over, ex1, idfree.idfreeL, idfree, ioPos1, outC]
  | some p =>
    obtain ⟨s, n⟩ := p
    cases bad with
    | true =>
      refine Ret.run Tryd.func38 K38 (by simp) rfl rfl 900 ?_
      simp [A38, iniρ]
      refine T.textW 400 [([], []), ([], []), ([], []), ([], []), ([], []), ([], []), ([], []), ([], []), ([], []), ([], []), ([], []), ([], []), ([], []), ([], []), ([], []), ([], [])] mixed (by kernel_rfl) (by kernel_rfl) ?_
      simp [merge_nil, hideH_nil]
      refine callWK.ro 0 rfl (by kernel_rfl) (by simp [upd_app, roc_sc, roc_ro, hideH_app]) rg rfl (by simp [gotA, inst, instL, shut]; exact ⟨rfl, rfl⟩) (by rfl) ?_
      simp [merge_nil, hideH_nil, over, ex1, idfree.idfreeL, idfree, ioPos1, outC]
    | false =>
      refine Ret.run Tryd.func38 K38 (by simp) rfl rfl 900 ?_
      simp [A38, iniρ]
      refine T.textW 400 [([], []), ([], []), ([], []), ([], []), ([], []), ([], []), ([], []), ([], []), ([], []), ([], []), ([], []), ([], []), ([], []), ([], []), ([], []), ([], [])] mixed (by kernel_rfl) (by kernel_rfl) ?_
      simp [merge_nil, hideH_nil]
      refine callWK.ro 0 rfl (by kernel_rfl) (by simp [upd_app, roc_sc, roc_ro, hideH_app]) rg rfl (by simp [gotA, inst, instL, shut]; exact ⟨rfl, rfl⟩) (by rfl) ?_
      simp [merge_nil, hideH_nil, over, ex1, idfree.idfreeL, idfree, ioPos1, outC]
/- 30: loop.example/g00464/spec.l17Text -/
def A30 : AC := (.seq (.ops [⟨(some 2), none, .q (.mov (.c (.sc (.string ⟨#[]⟩))))⟩])
  (.seq (.any [(⟨(some 7), none, .q (.mov (.t 0))⟩, []), (⟨(some 8), none, .q (.nilc (.t 7))⟩, [0]), (⟨(some 9), none, .q (.fadr 0 (.t 8))⟩, [1]), (⟨(some 10), none, .q (.load false 1 (.t 9))⟩, [2]), (⟨(some 11), none, .q (.mov (.t 0))⟩, []), (⟨(some 12), none, .q (.nilc (.t 11))⟩, [4]), (⟨(some 13), none, .q (.fadr 1 (.t 12))⟩, [5]), (⟨(some 14), none, .q (.load false 1 (.t 13))⟩, [6]), (⟨(some 15), none, .c (.c (.clo 45 [])) [(.t 10), (.t 14)]⟩, [3, 7]), (⟨(some 6), none, .q (.mov (.t 15))⟩, [8]), (⟨(some 16), none, .q (.ext (.t 6) 0)⟩, [9]), (⟨(some 17), none, .q (.ext (.t 6) 1)⟩, [9]), (⟨(some 18), none, .q (.ext (.t 6) 2)⟩, [9]), (⟨(some 3), none, .q (.mov (.t 16))⟩, [10, 8, 0, 1, 2, 3, 4, 5, 6, 7, 8, 9, 10]), (⟨(some 4), none, .q (.mov (.t 17))⟩, [11, 13, 0, 1, 2, 3, 4, 5, 6, 7, 8, 9, 10, 11, 13]), (⟨(some 5), none, .q (.mov (.t 18))⟩, [12, 14, 0, 1, 2, 3, 4, 5, 6, 7, 8, 9, 10, 11, 12, 13, 14])])
  (.seq (.seq (.ops [⟨(some 19), none, .q (.mov (.t 0))⟩, ⟨(some 20), none, .q (.nilc (.t 19))⟩, ⟨(some 21), none, .q (.fadr 2 (.t 20))⟩, ⟨(some 22), none, .q (.load false 1 (.t 21))⟩, ⟨(some 23), none, .q (.mov (.t 22))⟩, ⟨(some 24), (some (23, false)), .q (.mov (.t 5))⟩, ⟨(some 25), (some (23, false)), .q (.not (.t 24))⟩, ⟨(some 26), none, .q (.pick (.t 23) (.c (.sc (.bool true))) (.t 25))⟩])
  (.cond (.t 26) (.seq (.ops [⟨(some 27), none, .q (.mov (.t 0))⟩, ⟨(some 28), none, .q (.nilc (.t 27))⟩, ⟨(some 29), none, .q (.fadr 2 (.t 28))⟩, ⟨none, none, .w (.store 1 (.t 29) (.c (.sc (.bool true))))⟩])
  (.seq (.ops [⟨(some 2), none, .q (.mov (.c (.sc (.string ⟨#[]⟩))))⟩])
  .ret))
  .skip))
  (.seq (.ops [⟨(some 30), none, .q (.mov (.t 0))⟩, ⟨(some 31), none, .q (.mov (.t 4))⟩, ⟨(some 32), none, .q (.nilc (.t 30))⟩, ⟨(some 33), none, .q (.fadr 1 (.t 32))⟩, ⟨none, none, .w (.store 1 (.t 33) (.t 31))⟩])
  (.seq (.ops [⟨(some 34), none, .q (.mov (.t 3))⟩, ⟨(some 2), none, .q (.mov (.t 34))⟩])
  .ret)))))
theorem K30 : Tryd.f30.body.bind (comp Tryd.prog) = some A30 ∧ Tryd.f30.ntmps = 35 ∧ Tryd.f30.results.toList.mapM (resB Tryd.prog) = some [.mov (.t 2)] := ⟨by kernel_rfl, by kernel_rfl, by kernel_rfl⟩
set_option maxHeartbeats 2000000 in
theorem R30 (b : List Int) (a : Int) (bad : Bool) (ha : Ty.int.ok a) (hb : byteL b) (hl : b.length ≤ 140737488355328) : Ret Tryd.prog 30 [.bx [.ro (rows B b) b.length, .sc (.int .i64 a), .sc (.bool bad)]] (.sc (.string (nextT b a bad).1)) [.bx [.ro (rows B b) b.length, .sc (.int .i64 (nextT b a bad).2.1), .sc (.bool (nextT b a bad).2.2)]] := by
  have rg := R45 b a ha hb hl
  have hn : nextT b a bad = match getT b a with | some (s, n) => if bad = true then (⟨#[]⟩, a, true) else (s, n, false) | none => (⟨#[]⟩, a, true) := rfl
  obtain ⟨g, hg⟩ : ∃ g, g = getT b a := ⟨_, rfl⟩
  rw [← hg] at rg hn
  rw [hn]
  cases g with
  | none =>
    cases bad with
    | true =>
      refine Ret.run Tryd.func30 K30 (by simp) rfl rfl 900 ?_
      simp [A30, iniρ]
      refine T.textW 400 [([], []), ([], []), ([], []), ([], []), ([], []), ([], []), ([], []), ([], []), ([], []), ([], []), ([], []), ([], []), ([], []), ([], []), ([], []), ([], [])] mixed (by kernel_rfl) (by kernel_rfl) ?_
      simp [merge_nil, hideH_nil]
      refine callWK.ro 0 rfl (by kernel_rfl) (by simp [upd_app, roc_sc, roc_ro, hideH_app]) rg rfl (by simp [gotA, inst, instL, shut]; exact ⟨rfl, rfl⟩) (by rfl) ?_
      simp [merge_nil, hideH_nil, over, ex1, idfree.idfreeL, idfree, ioPos1, outC]
    | false =>
      refine Ret.run Tryd.func30 K30 (by simp) rfl rfl 900 ?_
      simp [A30, iniρ]
      refine T.textW 400 [([], []), ([], []), ([], []), ([], []), ([], []), ([], []), ([], []), ([], []), ([], []), ([], []), ([], []), ([], []), ([], []), ([], []), ([], []), ([], [])] mixed (by kernel_rfl) (by kernel_rfl) ?_
      simp [merge_nil, hideH_nil]
      refine callWK.ro 0 rfl (by kernel_rfl) (by simp [upd_app, roc_sc, roc_ro, hideH_app]) rg rfl (by simp [gotA, inst, instL, shut]; exact ⟨rfl, rfl⟩) (by rfl) ?_
      simp [merge_nil, hideH_nil, over, ex1, idfree.idfreeL, idfree, ioPos1, outC]
  | some p =>
    obtain ⟨s, n⟩ := p
    cases bad with
    | true =>
      refine Ret.run Tryd.func30 K30 (by simp) rfl rfl 900 ?_
      simp [A30, iniρ]
      refine T.textW 400 [([], []), ([], []), ([], []), ([], []), ([], []), ([], []), ([], []), ([], []), ([], []), ([], []), ([], []), ([], []), ([], []), ([], []), ([], []), ([], [])] mixed (by kernel_rfl) (by kernel_rfl) ?_
      simp [merge_nil, hideH_nil]
      refine callWK.ro 0 rfl (by kernel_rfl) (by simp [upd_app, roc_sc, roc_ro, hideH_app]) rg rfl (by simp [gotA, inst, instL, shut]; exact ⟨rfl, rfl⟩) (by rfl) ?_
      simp [merge_nil, hideH_nil, over, ex1, idfree.idfreeL, idfree, ioPos1, outC]
    | false =>
      refine Ret.run Tryd.func30 K30 (by simp) rfl rfl 900 ?_
      simp [A30, iniρ]
      refine T.textW 400 [([], []), ([], []), ([], []), ([], []), ([], []), ([], []), ([], []), ([], []), ([], []), ([], []), ([], []), ([], []), ([], []), ([], []), ([], []), ([], [])] mixed (by kernel_rfl) (by kernel_rfl) ?_
      simp [merge_nil, hideH_nil]
      refine callWK.ro 0 rfl (by kernel_rfl) (by simp [upd_app, roc_sc, roc_ro, hideH_app]) rg rfl (by simp [gotA, inst, instL, shut]; exact ⟨rfl, rfl⟩) (by rfl) ?_
      simp [merge_nil, hideH_nil, over, ex1, idfree.idfreeL, idfree, ioPos1, outC]
end Go.Proofs.YtaknfalbmblagaaDoor.Am
