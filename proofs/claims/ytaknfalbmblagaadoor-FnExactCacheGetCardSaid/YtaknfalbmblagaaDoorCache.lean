/- The functions of the program, each by its contract: Cache; no condition. -/
import Derived.Test.YtaknfalbmblagaaDoorProg
import Derived.Test.YtaknfalbmblagaaDoorAmZ
import Derived.Test.YtaknfalbmblagaaDoorAmP
import Derived.Test.YtaknfalbmblagaaDoorBase
import Derived.Test.YtaknfalbmblagaaDoorTypes
import Derived.Test.YtaknfalbmblagaaDoorPlumb
import Derived.KernelRfl
namespace Go.Proofs.YtaknfalbmblagaaDoor.Am
open Go Go.Proofs
set_option linter.unusedSimpArgs false
set_option linter.unusedVariables false
attribute [local congr] T_congr callK_congr callWK_congr
attribute [local simp] run_nil run_op0 run_opg run_seq run_cond run_block run_ret run_skip run_skip_after run_skip_blk run_exit run_exit_after run_exit_blk run_loop run_any runS_nil runS_op0 runS_opg runW_nil runW_op0 runW_opg exec_q exec_w exec_c exec_n execW_q execW_w execW_c restW_app hideH_app merge_app wblk rest_app restS_app execS_q execS_c aval dOk upd_app ev_t ev_c setO_some setO_none put_mk pinsOf isIo hasIo sbin endR fin resL one outL out1 clo1 cloL coe coeL shut shut.shutL wantA weff cellsOf fillA deref natOf ρ0_app h0_app plain plain.plainL keep_app keepH_app andThen_normal andThen_ret andThen_exit pop_nil pop_after pop_after_ret pop_after_exit pop_blk pop_blk_ret pop_blk_exit nilA srcOf srcCells keepR_app keepHR_app renA rb
theorem Slot.cseB (x : Slot) : Slot.ty.cs x = [.ro (rows B x.key) x.key.length, .ro (rows B x.b) x.b.length] := rfl
/- 37: bytes.Equal -/
def A37 : AC := (.seq (.ops [⟨(some 4), none, .q (.mov (.c (.sc (.bool false))))⟩])
  (.seq (.ops [⟨(some 5), none, .q (.mov (.t 0))⟩, ⟨(some 6), none, .q (.bstr (.t 5))⟩, ⟨(some 7), none, .q (.mov (.t 1))⟩, ⟨(some 8), none, .q (.bstr (.t 7))⟩, ⟨(some 9), none, .q (.bin .eql (.t 6) (.t 8))⟩, ⟨(some 4), none, .q (.mov (.t 9))⟩])
  .ret))
theorem K37 : Tryd.f37.body.bind (comp Tryd.prog) = some A37 ∧ Tryd.f37.ntmps = 10 ∧ Tryd.f37.results.toList.mapM (resB Tryd.prog) = some [.mov (.t 4)] := ⟨by kernel_rfl, by kernel_rfl, by kernel_rfl⟩
theorem R37 (xs ys : List Int) : Ret Tryd.prog 37 [.ro (rows B xs) xs.length, .ro (rows B ys) ys.length] (.sc (.bool (bEq xs ys))) [.un, .un] := by
  refine Ret.run Tryd.func37 K37 (by simp) rfl rfl 500 ?_
  simp [A37, iniρ, bytesA, B.count, B.num, bEq]
/- 17: loop.example/g00464/spec.l18At -/
def A17 : AC := (.seq (.ops [⟨(some 4), none, .q (.mov (.c (.sc (.int .i64 0))))⟩])
  (.seq (.seq (.ops [⟨(some 5), none, .q (.mov (.c (.sc (.int .i64 0))))⟩])
  (.block 0 (.loop (.seq (.seq (.ops [⟨(some 6), none, .q (.mov (.t 5))⟩, ⟨(some 7), none, .q (.mov (.t 0))⟩, ⟨(some 8), none, .q (.llen (.t 7))⟩, ⟨(some 9), none, .q (.bin .lss (.t 6) (.t 8))⟩])
  (.cond (.t 9) .skip
  (.exit 0)))
  (.seq (.block 1 (.seq (.any [(⟨(some 12), none, .q (.mov (.t 0))⟩, []), (⟨(some 13), none, .q (.mov (.t 5))⟩, []), (⟨(some 14), none, .q (.iadr 2 (.t 12) (.t 13))⟩, [0, 1]), (⟨(some 15), none, .q (.fadr 0 (.t 14))⟩, [2]), (⟨(some 16), none, .q (.load false 1 (.t 15))⟩, [3]), (⟨(some 17), none, .q (.bstr (.t 16))⟩, [4]), (⟨(some 18), none, .q (.mov (.t 1))⟩, []), (⟨(some 19), none, .q (.bstr (.t 18))⟩, [6]), (⟨(some 20), none, .q (.bin .eql (.t 17) (.t 19))⟩, [5, 7])])
  (.cond (.t 20) (.seq (.ops [⟨(some 21), none, .q (.mov (.t 5))⟩, ⟨(some 4), none, .q (.mov (.t 21))⟩])
  .ret)
  .skip)))
  (.ops [⟨(some 10), none, .q (.mov (.t 5))⟩, ⟨(some 11), none, .q (.bin .add (.t 10) (.c (.sc (.int .i64 1))))⟩, ⟨(some 5), none, .q (.mov (.t 11))⟩]))))))
  (.seq (.ops [⟨(some 4), none, .q (.mov (.c (.sc (.int .i64 (-1)))))⟩])
  .ret)))
theorem K17 : Tryd.f17.body.bind (comp Tryd.prog) = some A17 ∧ Tryd.f17.ntmps = 22 ∧ Tryd.f17.results.toList.mapM (resB Tryd.prog) = some [.mov (.t 4)] := ⟨by kernel_rfl, by kernel_rfl, by kernel_rfl⟩
theorem R17 (xs : List Slot) (k : List Int) (hb : xs.length < 4611686018427387904) : Ret Tryd.prog 17 [.ro (rows Slot.ty.cs xs) xs.length, .ro (rows B k) k.length] (.sc (.int .i64 (idx (fun s => bEq s.key k) xs 0))) [.un, .un] := by
  refine Ret.run Tryd.func17 K17 (by simp) rfl rfl 500 ?_
  simp [A17, iniρ]
  refine T.rounds (μ := fun i : List Slot × List Slot => i.2.length)
    (fun i s => i.1 ++ i.2 = xs ∧ idx (fun s => bEq s.key k) i.2 i.1.length = idx (fun s => bEq s.key k) xs 0 ∧ s.ρ 0 = .ro (rows Slot.ty.cs xs) xs.length ∧ s.ρ 1 = .ro (rows B k) k.length ∧ s.ρ 5 = .sc (.int .i64 i.1.length) ∧ s.h = h0 ∧ s.n = 22) ([], xs) (by simp [upd_app]) ?_
  rintro ⟨pre, rest⟩ ⟨ρ, hh, n⟩ ⟨hx, hE, h0', h1', h5', rfl, rfl⟩
  simp only at hx hE h0' h1' h5'
  refine run_ok (n := 400) ?_
  cases rest with
  | nil =>
    simp at hx
    subst hx
    simp [h0', h5']
    refine T.on 400 ?_
    simp [← hE, idx]
  | cons x rest =>
    have hlt : (pre.length : Int) < xs.length := by rw [← hx]; simp only [List.length_append, List.length_cons]; omega
    have hd := rows_drop Slot.ty.csn pre (x :: rest)
    rw [hx, rows_cons] at hd
    have hd : List.drop (pre.length * 2) (rows Slot.ty.cs xs) = Slot.ty.cs x ++ rows Slot.ty.cs rest := hd
    have hw : IntKind.i64.wrap ((pre.length : Int) + 1) = pre.length + 1 := wrap_i64 (by omega) (by omega)
    simp [h0', h1', h5', hlt]
    refine T.text 400 mixed (by kernel_rfl) (by kernel_rfl) ?_
    by_cases hk : (strOfNums x.key).toList = (strOfNums k).toList
    · have hk' : bEq x.key k = true := by simp [bEq, hk]
      simp [h0', h1', h5', hlt, hd, Slot.cseB, bytesA, B.count, B.num, hk, ← hE, idx, hk']
    · have hk' : bEq x.key k = false := by simp [bEq, hk]
      simp [h0', h1', h5', hlt, hd, Slot.cseB, bytesA, B.count, B.num, hk, hw]
      refine ⟨pre ++ [x], rest, by simp, _, Le.refl _, ?_⟩
      simp [hx, h0', h1', ← hE, idx, hk', upd_app]
def sumB : List Slot → Int → Int
  | [], a => a
  | x :: xs, a => sumB xs (IntKind.i64.wrap (a + x.b.length))
def allAt (g : Slot → Int) : List Slot → Int → Bool
  | [], _ => true
  | x :: xs, i => g x == i && allAt g xs (i + 1)
def cacheOk (xs : List Slot) : Bool := allAt (fun x => idx (fun s => bEq s.key x.key) xs 0) xs 0 && (decide (xs.length ≤ 20) && decide (sumB xs 0 ≤ 3000))
/- 36: loop.example/g00464/impl.slotAt$1 -/
def A36 : AC := (.seq (.ops [⟨(some 2), none, .w (.box (.t 0))⟩, ⟨(some 3), none, .q (.mov (.c (.sc (.bool false))))⟩])
  (.seq (.ops [⟨(some 4), none, .q (.fadr 0 (.t 2))⟩, ⟨(some 5), none, .q (.load false 1 (.t 4))⟩, ⟨(some 6), none, .q (.load false 1 (.t 1))⟩, ⟨(some 7), none, .c (.c (.clo 37 [])) [(.t 5), (.t 6)]⟩, ⟨(some 3), none, .q (.mov (.t 7))⟩])
  .ret))
theorem K36 : Tryd.f36.body.bind (comp Tryd.prog) = some A36 ∧ Tryd.f36.ntmps = 8 ∧ Tryd.f36.results.toList.mapM (resB Tryd.prog) = some [.mov (.t 3)] := ⟨by kernel_rfl, by kernel_rfl, by kernel_rfl⟩
theorem R36 (s : Slot) (k : List Int) : Ret Tryd.prog 36 [.agg (Slot.ty.cs s), .rp [.ro (rows B k) k.length] 0] (.sc (.bool (bEq s.key k))) [.un, .un] := by
  refine Ret.run Tryd.func36 K36 (by simp) rfl rfl 500 ?_
  simp [A36, iniρ, Slot.cseB]
  refine callK.ro 7 rfl (by kernel_rfl) (by simp [roc_ro, roc_sc, roc_agg, upd_app]; rfl) (R37 s.key k) rfl rfl rfl ?_
  simp
theorem R35 (g : FuncId) (caps : List AV) (f : Slot → Bool) (hg : callB Tryd.prog g = true) (hsh : shut.shutL caps = true) (xs : List Slot) (hR : ∀ x ∈ xs, Ret Tryd.prog g (el true (Slot.ty.cs x) :: caps) (.sc (.bool (f x))) (.un :: caps.map fun _ => .un)) (hb : xs.length < 4611686018427387904) :
    Ret Tryd.prog 35 [.ro (rows Slot.ty.cs xs) xs.length, .clo g caps] (.sc (.int .i64 (idx f xs 0))) [.un, .un] :=
  Ret.indexFunc Slot.ty (agg := true) Tryd.func35 ⟨by kernel_rfl, by kernel_rfl, by kernel_rfl⟩ (fun h => by cases h) g caps f hg hsh xs hR hb
/- 21: loop.example/g00464/impl.slotAt -/
def A21 : AC := (.seq (.ops [⟨(some 3), none, .w (.box (.t 1))⟩, ⟨(some 4), none, .q (.mov (.c (.sc (.int .i64 0))))⟩])
  (.seq (.ops [⟨(some 5), none, .q (.mov (.t 0))⟩, ⟨(some 6), none, .q (.mkf 36 [(.t 3)])⟩, ⟨(some 7), none, .c (.c (.clo 35 [])) [(.t 5), (.t 6)]⟩, ⟨(some 4), none, .q (.mov (.t 7))⟩])
  .ret))
theorem K21 : Tryd.f21.body.bind (comp Tryd.prog) = some A21 ∧ Tryd.f21.ntmps = 8 ∧ Tryd.f21.results.toList.mapM (resB Tryd.prog) = some [.mov (.t 4)] := ⟨by kernel_rfl, by kernel_rfl, by kernel_rfl⟩
theorem R21 (xs : List Slot) (k : List Int) (hb : xs.length < 4611686018427387904) : Ret Tryd.prog 21 [.ro (rows Slot.ty.cs xs) xs.length, .ro (rows B k) k.length] (.sc (.int .i64 (idx (fun s => bEq s.key k) xs 0))) [.un, .un] := by
  refine Ret.run Tryd.func21 K21 (by simp) rfl rfl 500 ?_
  simp [A21, iniρ]
  refine callK.ro 0 rfl (by kernel_rfl) (ys := [.ro (rows Slot.ty.cs xs) xs.length, .clo 36 [.rp [.ro (rows B k) k.length] 0]]) (by simp [roc_ro, upd_app, roc]) (R35 36 [.rp [.ro (rows B k) k.length] 0] (fun s => bEq s.key k) (by kernel_rfl) rfl xs (fun x _ => R36 x k) hb) rfl rfl rfl ?_
  simp
end Go.Proofs.YtaknfalbmblagaaDoor.Am
