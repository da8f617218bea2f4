/- The functions of the program, each by its contract: Copies; no condition. -/
import Derived.Test.YtlajojcobadieaaProg
import Derived.Test.YtlajojcobadieaaAmZ
import Derived.Test.YtlajojcobadieaaAmP
import Derived.Test.YtlajojcobadieaaSlots
import Derived.KernelRfl
namespace Go.Proofs.Ytlajojcobadieaa.Am
open Go Go.Proofs
set_option linter.unusedSimpArgs false
set_option linter.unusedVariables false
attribute [local congr] T_congr callK_congr callWK_congr
attribute [local simp] run_nil run_op0 run_opg run_seq run_cond run_block run_ret run_skip run_skip_after run_skip_blk run_exit run_exit_after run_exit_blk run_loop run_any runS_nil runS_op0 runS_opg runW_nil runW_op0 runW_opg exec_q exec_w exec_c exec_n execW_q execW_w execW_c restW_app hideH_app merge_app wblk rest_app restS_app execS_q execS_c aval dOk upd_app ev_t ev_c setO_some setO_none put_mk pinsOf isIo hasIo sbin endR fin resL one outL out1 clo1 cloL coe coeL shut shut.shutL wantA weff cellsOf fillA deref natOf ρ0_app h0_app plain plain.plainL keep_app keepH_app andThen_normal andThen_ret andThen_exit pop_nil pop_after pop_after_ret pop_after_exit pop_blk pop_blk_ret pop_blk_exit nilA srcOf srcCells keepR_app keepHR_app renA rb
/- 49: loop.example/g00464/spec.l18Copy -/
def A49 : AC := (.seq (.ops [⟨(some 2), none, .q (.mov (.c .em))⟩])
  (.seq (.ops [⟨(some 5), none, .w (.bsl 2 0 [] [])⟩, ⟨(some 3), none, .q (.mov (.t 5))⟩])
  (.seq (.seq (.ops [⟨(some 4), none, .q (.mov (.c (.sc (.int .i64 0))))⟩])
  (.block 0 (.loop (.seq (.seq (.ops [⟨(some 6), none, .q (.mov (.t 4))⟩, ⟨(some 7), none, .q (.mov (.t 0))⟩, ⟨(some 8), none, .q (.llen (.t 7))⟩, ⟨(some 9), none, .q (.bin .lss (.t 6) (.t 8))⟩])
  (.cond (.t 9) .skip
  (.exit 0)))
  (.seq (.block 1 (.any [(⟨(some 12), none, .q (.mov (.t 3))⟩, []), (⟨(some 13), none, .w (.bsl 1 0 [] [])⟩, []), (⟨(some 14), none, .q (.mov (.t 0))⟩, []), (⟨(some 15), none, .q (.mov (.t 4))⟩, []), (⟨(some 16), none, .q (.iadr 2 (.t 14) (.t 15))⟩, [2, 3]), (⟨(some 17), none, .q (.fadr 0 (.t 16))⟩, [4]), (⟨(some 18), none, .q (.load false 1 (.t 17))⟩, [5]), (⟨(some 19), none, .w (.app 1 1 false (.t 13) (.t 18))⟩, [1, 6]), (⟨(some 20), none, .w (.bsl 1 0 [] [])⟩, []), (⟨(some 21), none, .q (.mov (.t 0))⟩, []), (⟨(some 22), none, .q (.mov (.t 4))⟩, []), (⟨(some 23), none, .q (.iadr 2 (.t 21) (.t 22))⟩, [9, 10]), (⟨(some 24), none, .q (.fadr 1 (.t 23))⟩, [11]), (⟨(some 25), none, .q (.load false 1 (.t 24))⟩, [12]), (⟨(some 26), none, .w (.app 1 1 false (.t 20) (.t 25))⟩, [8, 13, 7]), (⟨(some 27), none, .w (.build [.em, .em] [(0, 1, (.t 19)), (1, 1, (.t 26))])⟩, [7, 14]), (⟨(some 28), none, .w (.bsl 2 1 [.em, .em] [(0, 2, (.t 27))])⟩, [15]), (⟨(some 29), none, .w (.app 2 48 false (.t 12) (.t 28))⟩, [0, 16, 14]), (⟨(some 3), none, .q (.mov (.t 29))⟩, [17, 17, 0, 1, 2, 3, 4, 5, 6, 7, 8, 9, 10, 11, 12, 13, 14, 15, 16, 17])]))
  (.ops [⟨(some 10), none, .q (.mov (.t 4))⟩, ⟨(some 11), none, .q (.bin .add (.t 10) (.c (.sc (.int .i64 1))))⟩, ⟨(some 4), none, .q (.mov (.t 11))⟩]))))))
  (.seq (.ops [⟨(some 30), none, .q (.mov (.t 3))⟩, ⟨(some 2), none, .q (.mov (.t 30))⟩])
  .ret))))
theorem K49 : Try.f49.body.bind (comp Try.prog) = some A49 ∧ Try.f49.ntmps = 31 ∧ Try.f49.results.toList.mapM (resB Try.prog) = some [.mov (.t 2)] := ⟨by kernel_rfl, by kernel_rfl, by kernel_rfl⟩
theorem R49 (xs : List Slot) (hx : Slot.ty.slice.ok xs) : Ret Try.prog 49 [.ro (rows Slot.ty.cs xs) xs.length] (.own (rows Slot.ty.oc xs) xs.length 2) [.un] := by
  have hb : xs.length * 48 ≤ 140737488351232 := hx.1
  have hs : ∀ x ∈ xs, Slot.ty.ok x := hx.2
  refine Ret.run Try.func49 K49 (by simp) rfl rfl 500 ?_
  simp [A49, iniρ]
  refine T.rounds (μ := fun i : List Slot × List Slot => i.2.length)
    (fun i s => i.1 ++ i.2 = xs ∧ s.ρ 0 = .ro (rows Slot.ty.cs xs) xs.length ∧ s.ρ 3 = .sl 5 0 i.1.length 2 false ∧ s.ρ 4 = .sc (.int .i64 i.1.length) ∧ s.h 5 = some (some (rows Slot.ty.oc i.1)) ∧ s.h 13 = none ∧ s.h 19 = none ∧ s.h 20 = none ∧ s.h 26 = none ∧ s.h 28 = none ∧ s.h 29 = none ∧ s.n = 31) ([], xs) (by simp [upd_app, rows_nil]) ?_
  rintro ⟨pre, rest⟩ ⟨ρ, hh, n⟩ ⟨hx, h0', h3', h4', h7', f1, f2, f3, f4, f5, f6, rfl⟩
  simp only at hx h0' h3' h4' h7' f1 f2 f3 f4 f5 f6
  refine run_ok (n := 400) ?_
  cases rest with
  | nil =>
    simp at hx
    subst hx
    simp [h0', h3', h4']
    refine T.on 400 ?_
    simp [h3', h7', ex1, Slot.ocl, Slot.frL]
  | cons x rest =>
    have hle : pre.length + (rest.length + 1) = xs.length := by rw [← hx]; simp
    have hlt : (pre.length : Int) < xs.length := by omega
    have hlt2 : pre.length < xs.length := by omega
    have hxs : Slot.ty.ok x := hs x (by rw [← hx]; simp)
    have hkb : x.key.length ≤ 140737488355328 := by have : x.key.length * 1 ≤ 140737488351232 := hxs.1.1; omega
    have hbb : x.b.length ≤ 140737488355328 := by have : x.b.length * 1 ≤ 140737488351232 := hxs.2.1.1; omega
    have hd := rows_drop Slot.ty.csn pre (x :: rest)
    rw [hx, rows_cons] at hd
    have hd : List.drop (pre.length * 2) (rows Slot.ty.cs xs) = AV.ro (rows B x.key) x.key.length :: AV.ro (rows B x.b) x.b.length :: rows Slot.ty.cs rest := hd
    have hd1 : List.drop (pre.length * 2 + 1) (rows Slot.ty.cs xs) = AV.ro (rows B x.b) x.b.length :: rows Slot.ty.cs rest := by rw [← List.drop_drop, hd]; rfl
    have hw : IntKind.i64.wrap ((pre.length : Int) + 1) = pre.length + 1 := wrap_i64 (by omega) (by omega)
    have hb1 : (pre.length + 1) * 48 ≤ 140737488355328 := by omega
    simp [h0', h3', h4', hlt]
    refine T.textW 400 [([], [13, 19, 20, 26, 28]), ([13], [20]), ([], [13, 20]), ([], [13, 20]), ([], [13, 20]), ([], [13, 20]), ([], [13, 20]), ([13, 19], [20]), ([20], [13, 19]), ([], [13, 19, 20]), ([], [13, 19, 20]), ([], [13, 19, 20]), ([], [13, 19, 20]), ([], [13, 19, 20]), ([20, 26], []), ([], []), ([28], []), ([5, 28, 29], []), ([], [])] mixed (by kernel_rfl) (by kernel_rfl) ?_
    simp [h0', h3', h4', h7', f1, f2, f3, f4, f5, f6, hlt, hlt2, hd, hd1, merge_nil, hideH_nil, B.count, Slot.ocl, over, hkb, hbb, hb1]
    refine ⟨pre ++ [x], rest, by simp, ?_⟩
    refine Le.grow [0, 3, 4] 29 5 [19, 26] (rows Slot.ty.oc pre) (Slot.ty.oc x) rfl (by simp [upd_app, Slot.oce, ysOn]) (Slot.ty.ow x) (rows_all (fun x c hc => (Slot.ty.ow x c hc).fr) _) ?_ (by decide) (by decide) (by simp [upd_app, menB, idfree, h0']) ?_
    · intro i e cs len sz hi hc
      rcases Slot.ow2 _ hc with ⟨rfl, rfl, rfl, rfl⟩ | ⟨rfl, rfl, rfl, rfl⟩ <;> (simp at hi; subst hi; simp [upd_app])
    · simp [hx, upd_app, h0', oneH_app, hw, rows_append, rows_cons, rows_nil]
theorem R77 (xs : List Int) (hb : xs.length ≤ 140737488355328) : Ret Try.prog 77 [.ro (rows B xs) xs.length] (.own (rows B xs) xs.length 1) [.un] := Ret.clone Ty.byte rfl (bytes := 1) Try.func77 ⟨by kernel_rfl, by kernel_rfl, by kernel_rfl⟩ xs (by omega)
/- 51: loop.example/g00464/impl.copyCache -/
def A51 : AC := (.seq (.ops [⟨(some 2), none, .q (.mov (.c .em))⟩])
  (.seq (.ops [⟨(some 3), none, .q (.mov (.c .em))⟩])
  (.seq (.seq (.ops [⟨(some 6), none, .q (.mov (.t 0))⟩, ⟨(some 7), none, .q (.llen (.t 6))⟩, ⟨(some 8), none, .q (.mov (.c (.sc (.int .i64 0))))⟩])
  (.block 0 (.loop (.seq (.ops [⟨(some 9), none, .q (.bin .lss (.t 8) (.t 7))⟩])
  (.seq (.cond (.t 9) .skip
  (.exit 0))
  (.seq (.block 1 (.seq (.ops [⟨(some 10), none, .q (.iadr 2 (.t 6) (.t 8))⟩, ⟨(some 11), none, .q (.load true 2 (.t 10))⟩, ⟨(some 5), none, .w (.alloc [.em, .em])⟩, ⟨none, none, .w (.store 2 (.t 5) (.t 11))⟩])
  (.any [(⟨(some 12), none, .q (.mov (.t 3))⟩, []), (⟨(some 13), none, .q (.fadr 0 (.t 5))⟩, []), (⟨(some 14), none, .q (.load false 1 (.t 13))⟩, [1]), (⟨(some 15), none, .c (.c (.clo 77 [])) [(.t 14)]⟩, [2]), (⟨(some 16), none, .q (.fadr 1 (.t 5))⟩, []), (⟨(some 17), none, .q (.load false 1 (.t 16))⟩, [4]), (⟨(some 18), none, .c (.c (.clo 77 [])) [(.t 17)]⟩, [5, 3]), (⟨(some 19), none, .w (.build [.em, .em] [(0, 1, (.t 15)), (1, 1, (.t 18))])⟩, [3, 6]), (⟨(some 20), none, .w (.bsl 2 1 [.em, .em] [(0, 2, (.t 19))])⟩, [7]), (⟨(some 21), none, .w (.app 2 48 false (.t 12) (.t 20))⟩, [0, 8, 6]), (⟨(some 3), none, .q (.mov (.t 21))⟩, [9, 9, 0, 1, 2, 3, 4, 5, 6, 7, 8, 9])])))
  (.ops [⟨(some 22), none, .q (.bin .add (.t 8) (.c (.sc (.int .i64 1))))⟩, ⟨(some 8), none, .q (.mov (.t 22))⟩])))))))
  (.seq (.ops [⟨(some 23), none, .q (.mov (.t 3))⟩, ⟨(some 2), none, .q (.mov (.t 23))⟩])
  .ret))))
theorem K51 : Try.f51.body.bind (comp Try.prog) = some A51 ∧ Try.f51.ntmps = 24 ∧ Try.f51.results.toList.mapM (resB Try.prog) = some [.mov (.t 2)] := ⟨by kernel_rfl, by kernel_rfl, by kernel_rfl⟩
theorem R51 (xs : List Slot) (hx : Slot.ty.slice.ok xs) : Ret Try.prog 51 [.ro (rows Slot.ty.cs xs) xs.length] (.own (rows Slot.ty.oc xs) xs.length 2) [.un] := by
  have hb : xs.length * 48 ≤ 140737488351232 := hx.1
  have hs : ∀ x ∈ xs, Slot.ty.ok x := hx.2
  refine Ret.run Try.func51 K51 (by simp) rfl rfl 500 ?_
  simp [A51, iniρ]
  refine T.le (Le.lay 3 40 2 (by simp [upd_app]) (by simp)) ?_
  refine T.rounds (μ := fun i : List Slot × List Slot => i.2.length)
    (fun i s => i.1 ++ i.2 = xs ∧ s.ρ 3 = .sl 40 0 i.1.length 2 false ∧ s.ρ 6 = .ro (rows Slot.ty.cs xs) xs.length ∧ s.ρ 7 = .sc (.int .i64 xs.length) ∧ s.ρ 8 = .sc (.int .i64 i.1.length) ∧ s.h 40 = some (some (rows Slot.ty.oc i.1)) ∧ s.h 5 = none ∧ s.h 15 = none ∧ s.h 18 = none ∧ s.h 20 = none ∧ s.h 21 = none ∧ s.n = 24) ([], xs) (by simp [upd_app, rows_nil]) ?_
  rintro ⟨pre, rest⟩ ⟨ρ, hh, n⟩ ⟨hx, h3', h6', h7', h8', h40, f1, f2, f3, f4, f5, rfl⟩
  simp only at hx h3' h6' h7' h8' h40 f1 f2 f3 f4 f5
  refine run_ok (n := 400) ?_
  cases rest with
  | nil =>
    simp at hx
    subst hx
    simp [h7', h8']
    refine T.on 400 ?_
    simp [h3', h40, ex1, Slot.ocl, Slot.frL]
  | cons x rest =>
    have hle : pre.length + (rest.length + 1) = xs.length := by rw [← hx]; simp
    have hlt : (pre.length : Int) < xs.length := by omega
    have hlt2 : pre.length < xs.length := by omega
    have hxs : Slot.ty.ok x := hs x (by rw [← hx]; simp)
    have hkb : x.key.length ≤ 140737488355328 := by have : x.key.length * 1 ≤ 140737488351232 := hxs.1.1; omega
    have hbb : x.b.length ≤ 140737488355328 := by have : x.b.length * 1 ≤ 140737488351232 := hxs.2.1.1; omega
    have hd := rows_drop Slot.ty.csn pre (x :: rest)
    rw [hx, rows_cons] at hd
    have hd : List.drop (pre.length * 2) (rows Slot.ty.cs xs) = AV.ro (rows B x.key) x.key.length :: AV.ro (rows B x.b) x.b.length :: rows Slot.ty.cs rest := hd
    have hw : IntKind.i64.wrap ((pre.length : Int) + 1) = pre.length + 1 := wrap_i64 (by omega) (by omega)
    have hb1 : (pre.length + 1) * 48 ≤ 140737488355328 := by omega
    simp [h3', h6', h7', h8', hlt, hlt2, hd, f1, over]
    refine T.textW 400 [([], [15, 18, 20]), ([], []), ([], []), ([15], []), ([], [15]), ([], [15]), ([18], []), ([], []), ([20], []), ([40, 20, 21], []), ([], [])] mixed (by kernel_rfl) (by kernel_rfl) ?_
    simp [h3', h6', h7', h8', merge_nil, hideH_nil]
    refine callWK.ro 15 rfl (by kernel_rfl) (by simp [roc_ro]) (R77 x.key hkb) (B.flo _) (by simp [inst, upd_app, f2]; exact ⟨rfl, rfl⟩) (by rfl) ?_
    simp [merge_nil, hideH_nil]
    refine callWK.ro 18 rfl (by kernel_rfl) (by simp [roc_ro]) (R77 x.b hbb) (B.flo _) (by simp [inst, upd_app, f3]; exact ⟨rfl, rfl⟩) (by rfl) ?_
    simp [h3', h6', h7', h8', h40, f1, f2, f3, f4, f5, merge_nil, hideH_nil, B.count, Slot.ocl, over, hb1]
    refine ⟨pre ++ [x], rest, by simp, ?_⟩
    refine Le.grow [3, 6, 7, 8] 21 40 [15, 18] (rows Slot.ty.oc pre) (Slot.ty.oc x) rfl (by simp [upd_app, Slot.oce, ysOn]) (Slot.ty.ow x) (rows_all (fun x c hc => (Slot.ty.ow x c hc).fr) _) ?_ (by decide) (by decide) (by simp [upd_app, menB, idfree, h6', h7']) ?_
    · intro i e cs len sz hi hc
      rcases Slot.ow2 _ hc with ⟨rfl, rfl, rfl, rfl⟩ | ⟨rfl, rfl, rfl, rfl⟩ <;> (simp at hi; subst hi; simp [upd_app])
    · simp [hx, upd_app, h6', h7', oneH_app, hw, rows_append, rows_cons, rows_nil]
end Go.Proofs.Ytlajojcobadieaa.Am
