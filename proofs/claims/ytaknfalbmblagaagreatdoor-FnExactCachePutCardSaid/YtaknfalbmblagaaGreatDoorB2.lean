/- The small machine and the contracts of the functions, part 2 (Cache, Reader, GetMade, GetMadeS, MadeLaw, Marks, Mark, Slots, Marks3, CacheGet, Copies, CachePut, MarksM, PutLaw, LawCachePut); no condition. -/
import Derived.Test.YtaknfalbmblagaaGreatDoorProg
import Derived.Test.YtaknfalbmblagaaGreatDoorAmZ
import Derived.Test.YtaknfalbmblagaaGreatDoorAmP
import Derived.Test.YtaknfalbmblagaaGreatDoorB1
import Derived.KernelRfl
import Derived.Test.YtaknfalbmblagaaGreatDoorAmK
import Derived.Test.YtaknfalbmblagaaGreatDoorAmM
import Derived.Test.YtaknfalbmblagaaGreatDoorAmN
namespace Go.Proofs.YtaknfalbmblagaaGreatDoor.Am
open Go Go.Proofs
set_option linter.unusedSimpArgs false
set_option linter.unusedVariables false
attribute [local congr] T_congr callK_congr callWK_congr
attribute [local simp] run_nil run_op0 run_opg run_seq run_cond run_block run_ret run_skip run_skip_after run_skip_blk run_exit run_exit_after run_exit_blk run_loop run_any runS_nil runS_op0 runS_opg runW_nil runW_op0 runW_opg exec_q exec_w exec_c exec_n execW_q execW_w execW_c restW_app hideH_app merge_app wblk rest_app restS_app execS_q execS_c aval dOk upd_app ev_t ev_c setO_some setO_none put_mk pinsOf isIo hasIo sbin endR fin resL one outL out1 clo1 cloL coe coeL shut shut.shutL wantA weff cellsOf fillA deref natOf ρ0_app h0_app plain plain.plainL keep_app keepH_app andThen_normal andThen_ret andThen_exit pop_nil pop_after pop_after_ret pop_after_exit pop_blk pop_blk_ret pop_blk_exit nilA srcOf srcCells keepR_app keepHR_app renA rb
theorem Slot.cseB (x : Slot) : Slot.ty.cs x = [.ro (rows B x.key) x.key.length, .ro (rows B x.b) x.b.length] := rfl
/- 57: bytes.Equal -/
def A57 : AC := (.seq (.ops [⟨(some 4), none, .q (.mov (.c (.sc (.bool false))))⟩])
  (.seq (.ops [⟨(some 5), none, .q (.mov (.t 0))⟩, ⟨(some 6), none, .q (.bstr (.t 5))⟩, ⟨(some 7), none, .q (.mov (.t 1))⟩, ⟨(some 8), none, .q (.bstr (.t 7))⟩, ⟨(some 9), none, .q (.bin .eql (.t 6) (.t 8))⟩, ⟨(some 4), none, .q (.mov (.t 9))⟩])
  .ret))
theorem K57 : Tryz.f57.body.bind (comp Tryz.prog) = some A57 ∧ Tryz.f57.ntmps = 10 ∧ Tryz.f57.results.toList.mapM (resB Tryz.prog) = some [.mov (.t 4)] := ⟨by kernel_rfl, by kernel_rfl, by kernel_rfl⟩
theorem R57 (xs ys : List Int) : Ret Tryz.prog 57 [.ro (rows B xs) xs.length, .ro (rows B ys) ys.length] (.sc (.bool (bEq xs ys))) [.un, .un] := by
  refine Ret.run Tryz.func57 K57 (by simp) rfl rfl 500 ?_
  simp [A57, iniρ, bytesA, B.count, B.num, bEq]
/- 46: loop.example/g00464/spec.l18At -/
def A46 : AC := (.seq (.ops [⟨(some 4), none, .q (.mov (.c (.sc (.int .i64 0))))⟩])
  (.seq (.seq (.ops [⟨(some 5), none, .q (.mov (.c (.sc (.int .i64 0))))⟩])
  (.block 0 (.loop (.seq (.seq (.ops [⟨(some 6), none, .q (.mov (.t 5))⟩, ⟨(some 7), none, .q (.mov (.t 0))⟩, ⟨(some 8), none, .q (.llen (.t 7))⟩, ⟨(some 9), none, .q (.bin .lss (.t 6) (.t 8))⟩])
  (.cond (.t 9) .skip
  (.exit 0)))
  (.seq (.block 1 (.seq (.any [(⟨(some 12), none, .q (.mov (.t 0))⟩, []), (⟨(some 13), none, .q (.mov (.t 5))⟩, []), (⟨(some 14), none, .q (.iadr 2 (.t 12) (.t 13))⟩, [0, 1]), (⟨(some 15), none, .q (.fadr 0 (.t 14))⟩, [2]), (⟨(some 16), none, .q (.load false 1 (.t 15))⟩, [3]), (⟨(some 17), none, .q (.bstr (.t 16))⟩, [4]), (⟨(some 18), none, .q (.mov (.t 1))⟩, []), (⟨(some 19), none, .q (.bstr (.t 18))⟩, [6]), (⟨(some 20), none, .q (.bin .eql (.t 17) (.t 19))⟩, [5, 7])])
  (.cond (.t 20) (.seq (.ops [⟨(some 21), none, .q (.mov (.t 5))⟩, ⟨(some 4), none, .q (.mov (.t 21))⟩])
  .ret)
  .skip)))
  (.ops [⟨(some 10), none, .q (.mov (.t 5))⟩, ⟨(some 11), none, .q (.bin .add (.t 10) (.c (.sc (.int .i64 1))))⟩, ⟨(some 5), none, .q (.mov (.t 11))⟩]))))))
  (.seq (.ops [⟨(some 4), none, .q (.mov (.c (.sc (.int .i64 (-1)))))⟩])
  .ret)))
theorem K46 : Tryz.f46.body.bind (comp Tryz.prog) = some A46 ∧ Tryz.f46.ntmps = 22 ∧ Tryz.f46.results.toList.mapM (resB Tryz.prog) = some [.mov (.t 4)] := ⟨by kernel_rfl, by kernel_rfl, by kernel_rfl⟩
theorem R46 (xs : List Slot) (k : List Int) (hb : xs.length < 4611686018427387904) : Ret Tryz.prog 46 [.ro (rows Slot.ty.cs xs) xs.length, .ro (rows B k) k.length] (.sc (.int .i64 (idx (fun s => bEq s.key k) xs 0))) [.un, .un] := by
  refine Ret.run Tryz.func46 K46 (by simp) rfl rfl 500 ?_
  simp [A46, iniρ]
  refine T.rounds (μ := fun i : List Slot × List Slot => i.2.length)
    (fun i s => i.1 ++ i.2 = xs ∧ idx (fun s => bEq s.key k) i.2 i.1.length = idx (fun s => bEq s.key k) xs 0 ∧ s.ρ 0 = .ro (rows Slot.ty.cs xs) xs.length ∧ s.ρ 1 = .ro (rows B k) k.length ∧ s.ρ 5 = .sc (.int .i64 i.1.length) ∧ s.h = h0 ∧ s.n = 22) ([], xs) (by simp [upd_app]) ?_
  rintro ⟨pre, rest⟩ ⟨ρ, hh, n⟩ ⟨hx, hE, h0', h1', h5', rfl, rfl⟩
  simp only at hx hE h0' h1' h5'
  refine run_ok (n := 400) ?_
  cases rest with
  | nil =>
    simp at hx
    subst hx
    simp [h0', h5']
    refine T.on 400 ?_
    simp [← hE, idx]
  | cons x rest =>
    have hlt : (pre.length : Int) < xs.length := by rw [← hx]; simp only [List.length_append, List.length_cons]; omega
    have hd := rows_drop Slot.ty.csn pre (x :: rest)
    rw [hx, rows_cons] at hd
    have hd : List.drop (pre.length * 2) (rows Slot.ty.cs xs) = Slot.ty.cs x ++ rows Slot.ty.cs rest := hd
    have hw : IntKind.i64.wrap ((pre.length : Int) + 1) = pre.length + 1 := wrap_i64 (by omega) (by omega)
    simp [h0', h1', h5', hlt]
    refine T.text 400 mixed (by kernel_rfl) (by kernel_rfl) ?_
    by_cases hk : (strOfNums x.key).toList = (strOfNums k).toList
    · have hk' : bEq x.key k = true := by simp [bEq, hk]
      simp [h0', h1', h5', hlt, hd, Slot.cseB, bytesA, B.count, B.num, hk, ← hE, idx, hk']
    · have hk' : bEq x.key k = false := by simp [bEq, hk]
      simp [h0', h1', h5', hlt, hd, Slot.cseB, bytesA, B.count, B.num, hk, hw]
      refine ⟨pre ++ [x], rest, by simp, _, Le.refl _, ?_⟩
      simp [hx, h0', h1', ← hE, idx, hk', upd_app]
def sumB : List Slot → Int → Int
  | [], a => a
  | x :: xs, a => sumB xs (IntKind.i64.wrap (a + x.b.length))
/- 18: loop.example/g00464/spec.CacheSize -/
def A18 : AC := (.seq (.ops [⟨(some 2), none, .q (.mov (.c (.sc (.int .i64 0))))⟩])
  (.seq (.ops [⟨(some 3), none, .q (.mov (.c (.sc (.int .i64 0))))⟩])
  (.seq (.seq (.ops [⟨(some 4), none, .q (.mov (.c (.sc (.int .i64 0))))⟩])
  (.block 0 (.loop (.seq (.seq (.ops [⟨(some 5), none, .q (.mov (.t 4))⟩, ⟨(some 6), none, .q (.mov (.t 0))⟩, ⟨(some 7), none, .q (.llen (.t 6))⟩, ⟨(some 8), none, .q (.bin .lss (.t 5) (.t 7))⟩])
  (.cond (.t 8) .skip
  (.exit 0)))
  (.seq (.block 1 (.ops [⟨(some 11), none, .q (.mov (.t 3))⟩, ⟨(some 12), none, .q (.mov (.t 0))⟩, ⟨(some 13), none, .q (.mov (.t 4))⟩, ⟨(some 14), none, .q (.iadr 2 (.t 12) (.t 13))⟩, ⟨(some 15), none, .q (.fadr 1 (.t 14))⟩, ⟨(some 16), none, .q (.load false 1 (.t 15))⟩, ⟨(some 17), none, .q (.llen (.t 16))⟩, ⟨(some 18), none, .q (.bin .add (.t 11) (.t 17))⟩, ⟨(some 3), none, .q (.mov (.t 18))⟩]))
  (.ops [⟨(some 9), none, .q (.mov (.t 4))⟩, ⟨(some 10), none, .q (.bin .add (.t 9) (.c (.sc (.int .i64 1))))⟩, ⟨(some 4), none, .q (.mov (.t 10))⟩]))))))
  (.seq (.ops [⟨(some 19), none, .q (.mov (.t 3))⟩, ⟨(some 2), none, .q (.mov (.t 19))⟩])
  .ret))))
theorem K18 : Tryz.f18.body.bind (comp Tryz.prog) = some A18 ∧ Tryz.f18.ntmps = 20 ∧ Tryz.f18.results.toList.mapM (resB Tryz.prog) = some [.mov (.t 2)] := ⟨by kernel_rfl, by kernel_rfl, by kernel_rfl⟩
theorem R18 (xs : List Slot) (hb : xs.length < 4611686018427387904) : Ret Tryz.prog 18 [.ro (rows Slot.ty.cs xs) xs.length] (.sc (.int .i64 (sumB xs 0))) [.un] := by
  refine Ret.run Tryz.func18 K18 (by simp) rfl rfl 500 ?_
  simp [A18, iniρ]
  refine T.rounds (μ := fun i : List Slot × List Slot × Int => i.2.1.length)
    (fun i s => i.1 ++ i.2.1 = xs ∧ sumB i.2.1 i.2.2 = sumB xs 0 ∧ s.ρ 0 = .ro (rows Slot.ty.cs xs) xs.length ∧ s.ρ 3 = .sc (.int .i64 i.2.2) ∧ s.ρ 4 = .sc (.int .i64 i.1.length) ∧ s.h = h0 ∧ s.n = 20) ([], xs, 0) (by simp [upd_app]) ?_
  rintro ⟨pre, rest, acc⟩ ⟨ρ, hh, n⟩ ⟨hx, hE, h0', h1', h5', rfl, rfl⟩
  simp only at hx hE h0' h1' h5'
  refine run_ok (n := 400) ?_
  cases rest with
  | nil =>
    simp at hx
    subst hx
    simp [h0', h5']
    refine T.on 400 ?_
    simp [h1', ← hE, sumB]
  | cons x rest =>
    have hlt : (pre.length : Int) < xs.length := by rw [← hx]; simp only [List.length_append, List.length_cons]; omega
    have hd := rows_drop Slot.ty.csn pre (x :: rest)
    rw [hx, rows_cons] at hd
    have hd : List.drop (pre.length * 2) (rows Slot.ty.cs xs) = Slot.ty.cs x ++ rows Slot.ty.cs rest := hd
    have hd1 : List.drop (pre.length * 2 + 1) (rows Slot.ty.cs xs) = [.ro (rows B x.b) x.b.length] ++ rows Slot.ty.cs rest := by rw [← List.drop_drop, hd]; rfl
    have hw : IntKind.i64.wrap ((pre.length : Int) + 1) = pre.length + 1 := wrap_i64 (by omega) (by omega)
    simp [h0', h1', h5', hlt, hd1, hw]
    refine ⟨pre ++ [x], rest, by simp, IntKind.i64.wrap (acc + x.b.length), _, Le.refl _, ?_⟩
    simp [hx, h0', ← hE, sumB, upd_app]
/- 17: loop.example/g00464/impl.CacheSize -/
def A17 : AC := (.seq (.ops [⟨(some 2), none, .q (.mov (.c (.sc (.int .i64 0))))⟩])
  (.seq (.ops [⟨(some 3), none, .q (.mov (.c (.sc (.int .i64 0))))⟩])
  (.seq (.seq (.ops [⟨(some 6), none, .q (.mov (.t 0))⟩, ⟨(some 7), none, .q (.llen (.t 6))⟩, ⟨(some 8), none, .q (.mov (.c (.sc (.int .i64 0))))⟩])
  (.block 0 (.loop (.seq (.ops [⟨(some 9), none, .q (.bin .lss (.t 8) (.t 7))⟩])
  (.seq (.cond (.t 9) .skip
  (.exit 0))
  (.seq (.block 1 (.seq (.ops [⟨(some 10), none, .q (.iadr 2 (.t 6) (.t 8))⟩, ⟨(some 11), none, .q (.load true 2 (.t 10))⟩, ⟨(some 5), none, .w (.alloc [.em, .em])⟩, ⟨none, none, .w (.store 2 (.t 5) (.t 11))⟩])
  (.ops [⟨(some 12), none, .q (.mov (.t 3))⟩, ⟨(some 13), none, .q (.fadr 1 (.t 5))⟩, ⟨(some 14), none, .q (.load false 1 (.t 13))⟩, ⟨(some 15), none, .q (.llen (.t 14))⟩, ⟨(some 16), none, .q (.bin .add (.t 12) (.t 15))⟩, ⟨(some 3), none, .q (.mov (.t 16))⟩])))
  (.ops [⟨(some 17), none, .q (.bin .add (.t 8) (.c (.sc (.int .i64 1))))⟩, ⟨(some 8), none, .q (.mov (.t 17))⟩])))))))
  (.seq (.ops [⟨(some 18), none, .q (.mov (.t 3))⟩, ⟨(some 2), none, .q (.mov (.t 18))⟩])
  .ret))))
theorem K17 : Tryz.f17.body.bind (comp Tryz.prog) = some A17 ∧ Tryz.f17.ntmps = 19 ∧ Tryz.f17.results.toList.mapM (resB Tryz.prog) = some [.mov (.t 2)] := ⟨by kernel_rfl, by kernel_rfl, by kernel_rfl⟩
theorem R17 (xs : List Slot) (hb : xs.length < 4611686018427387904) : Ret Tryz.prog 17 [.ro (rows Slot.ty.cs xs) xs.length] (.sc (.int .i64 (sumB xs 0))) [.un] := by
  refine Ret.run Tryz.func17 K17 (by simp) rfl rfl 500 ?_
  simp [A17, iniρ]
  refine T.rounds (μ := fun i : List Slot × List Slot × Int => i.2.1.length)
    (fun i s => i.1 ++ i.2.1 = xs ∧ sumB i.2.1 i.2.2 = sumB xs 0 ∧ s.ρ 6 = .ro (rows Slot.ty.cs xs) xs.length ∧ s.ρ 7 = .sc (.int .i64 xs.length) ∧ s.ρ 3 = .sc (.int .i64 i.2.2) ∧ s.ρ 8 = .sc (.int .i64 i.1.length) ∧ s.h 5 = none ∧ s.n = 19) ([], xs, 0) (by simp [upd_app]) ?_
  rintro ⟨pre, rest, acc⟩ ⟨ρ, hh, n⟩ ⟨hx, hE, h0', h7', h1', h5', hf, rfl⟩
  simp only at hx hE h0' h7' h1' h5' hf
  refine run_ok (n := 400) ?_
  cases rest with
  | nil =>
    simp at hx
    subst hx
    simp [h0', h7', h5']
    refine T.on 400 ?_
    simp [h1', ← hE, sumB]
  | cons x rest =>
    have hlt : (pre.length : Int) < xs.length := by rw [← hx]; simp only [List.length_append, List.length_cons]; omega
    have hd := rows_drop Slot.ty.csn pre (x :: rest)
    rw [hx, rows_cons] at hd
    have hd : List.drop (pre.length * 2) (rows Slot.ty.cs xs) = Slot.ty.cs x ++ rows Slot.ty.cs rest := hd
    have hw : IntKind.i64.wrap ((pre.length : Int) + 1) = pre.length + 1 := wrap_i64 (by omega) (by omega)
    simp [h0', h7', h1', h5', hf, hlt, hd, hw, Slot.cseB, over]
    refine ⟨pre ++ [x], rest, by simp, IntKind.i64.wrap (acc + x.b.length), _, Le.reset [6, 7, 3, 8] [] ?_ (by simp), ?_⟩
    · simp [upd_app, menB, idfree, h0', h7']
    · simp [hx, h0', h7', ← hE, sumB, upd_app]
def allAt (g : Slot → Int) : List Slot → Int → Bool
  | [], _ => true
  | x :: xs, i => g x == i && allAt g xs (i + 1)
def cacheOk (xs : List Slot) : Bool := allAt (fun x => idx (fun s => bEq s.key x.key) xs 0) xs 0 && (decide (xs.length ≤ 20) && decide (sumB xs 0 ≤ 3000))
/- 14: loop.example/g00464/spec.CacheOk -/
def A14 : AC := (.seq (.ops [⟨(some 2), none, .q (.mov (.c (.sc (.bool false))))⟩])
  (.seq (.seq (.ops [⟨(some 3), none, .q (.mov (.c (.sc (.int .i64 0))))⟩])
  (.block 0 (.loop (.seq (.seq (.ops [⟨(some 4), none, .q (.mov (.t 3))⟩, ⟨(some 5), none, .q (.mov (.t 0))⟩, ⟨(some 6), none, .q (.llen (.t 5))⟩, ⟨(some 7), none, .q (.bin .lss (.t 4) (.t 6))⟩])
  (.cond (.t 7) .skip
  (.exit 0)))
  (.seq (.block 1 (.seq (.ops [⟨(some 10), none, .q (.mov (.t 0))⟩, ⟨(some 11), none, .q (.mov (.t 0))⟩, ⟨(some 12), none, .q (.mov (.t 3))⟩, ⟨(some 13), none, .q (.iadr 2 (.t 11) (.t 12))⟩, ⟨(some 14), none, .q (.fadr 0 (.t 13))⟩, ⟨(some 15), none, .q (.load false 1 (.t 14))⟩, ⟨(some 16), none, .c (.c (.clo 46 [])) [(.t 10), (.t 15)]⟩, ⟨(some 17), none, .q (.mov (.t 3))⟩, ⟨(some 18), none, .q (.bin .neq (.t 16) (.t 17))⟩])
  (.cond (.t 18) (.seq (.ops [⟨(some 2), none, .q (.mov (.c (.sc (.bool false))))⟩])
  .ret)
  .skip)))
  (.ops [⟨(some 8), none, .q (.mov (.t 3))⟩, ⟨(some 9), none, .q (.bin .add (.t 8) (.c (.sc (.int .i64 1))))⟩, ⟨(some 3), none, .q (.mov (.t 9))⟩]))))))
  (.seq (.ops [⟨(some 19), none, .q (.mov (.t 0))⟩, ⟨(some 20), none, .q (.llen (.t 19))⟩, ⟨(some 21), none, .q (.bin .leq (.t 20) (.c (.sc (.int .i64 20))))⟩, ⟨(some 22), none, .q (.mov (.t 21))⟩, ⟨(some 23), (some (22, true)), .q (.mov (.t 0))⟩, ⟨(some 24), (some (22, true)), .c (.c (.clo 18 [])) [(.t 23)]⟩, ⟨(some 25), (some (22, true)), .q (.bin .leq (.t 24) (.c (.sc (.int .i64 3000))))⟩, ⟨(some 26), none, .q (.pick (.t 22) (.t 25) (.c (.sc (.bool false))))⟩, ⟨(some 2), none, .q (.mov (.t 26))⟩])
  .ret)))
theorem K14 : Tryz.f14.body.bind (comp Tryz.prog) = some A14 ∧ Tryz.f14.ntmps = 27 ∧ Tryz.f14.results.toList.mapM (resB Tryz.prog) = some [.mov (.t 2)] := ⟨by kernel_rfl, by kernel_rfl, by kernel_rfl⟩
theorem R14 (xs : List Slot) (hb : xs.length < 4611686018427387904) : Ret Tryz.prog 14 [.ro (rows Slot.ty.cs xs) xs.length] (.sc (.bool (cacheOk xs))) [.un] := by
  refine Ret.run Tryz.func14 K14 (by simp) rfl rfl 500 ?_
  simp [A14, iniρ]
  let G : Slot → Int := fun x => idx (fun s => bEq s.key x.key) xs 0
  refine T.rounds (μ := fun i : List Slot × List Slot => i.2.length)
    (fun i s => i.1 ++ i.2 = xs ∧ allAt G i.2 i.1.length = allAt G xs 0 ∧ s.ρ 0 = .ro (rows Slot.ty.cs xs) xs.length ∧ s.ρ 3 = .sc (.int .i64 i.1.length) ∧ s.h = h0 ∧ s.n = 27) ([], xs) (by simp [upd_app]) ?_
  rintro ⟨pre, rest⟩ ⟨ρ, hh, n⟩ ⟨hx, hE, h0', h5', rfl, rfl⟩
  simp only at hx hE h0' h5'
  refine run_ok (n := 400) ?_
  cases rest with
  | nil =>
    simp at hx
    subst hx
    have hE : true = allAt (fun x => idx (fun s => bEq s.key x.key) pre 0) pre 0 := hE
    simp [h0', h5']
    refine T.on 400 ?_
    by_cases hz : pre.length ≤ 20
    · have hz' : (pre.length : Int) ≤ 20 := by omega
      simp [h0', hz']
      refine callK.ro 24 rfl (by kernel_rfl) (by simp [roc_ro, roc_sc, roc_agg, upd_app]) (R18 pre hb) rfl rfl rfl ?_
      simp [cacheOk, ← hE, hz]
    · have hz' : ¬ (pre.length : Int) ≤ 20 := by omega
      simp [h0', hz', cacheOk, hz]
  | cons x rest =>
    have hlt : (pre.length : Int) < xs.length := by rw [← hx]; simp only [List.length_append, List.length_cons]; omega
    have hd := rows_drop Slot.ty.csn pre (x :: rest)
    rw [hx, rows_cons] at hd
    have hd : List.drop (pre.length * 2) (rows Slot.ty.cs xs) = Slot.ty.cs x ++ rows Slot.ty.cs rest := hd
    have hw : IntKind.i64.wrap ((pre.length : Int) + 1) = pre.length + 1 := wrap_i64 (by omega) (by omega)
    simp [h0', h5', hlt, hd, Slot.cseB]
    refine callK.ro 16 rfl (by kernel_rfl) (by simp [roc_ro, roc_sc, roc_agg, upd_app, Slot.cseB]) (R46 xs x.key hb) rfl rfl rfl ?_
    by_cases hz : idx (fun s => bEq s.key x.key) xs 0 = (pre.length : Int)
    · simp [h5', hz, hw]
      refine ⟨pre ++ [x], rest, by simp, _, Le.refl _, ?_⟩
      have hE2 : allAt G rest (pre.length + 1) = allAt G xs 0 := by
        rw [← hE]; simp only [allAt]; rw [show G x = (pre.length : Int) from hz]; simp
      simp [hx, h0', hE2, upd_app]
    · have hE2 : allAt (fun x => idx (fun s => bEq s.key x.key) xs 0) xs 0 = false := by
        refine hE.symm.trans ?_
        simp only [allAt]
        rw [show G x = idx (fun s => bEq s.key x.key) xs 0 from rfl]; simp [hz]
      simp [h5', hz, cacheOk, hE2]
/- 79: loop.example/g00464/impl.slotAt$1 -/
def A79 : AC := (.seq (.ops [⟨(some 2), none, .w (.box (.t 0))⟩, ⟨(some 3), none, .q (.mov (.c (.sc (.bool false))))⟩])
  (.seq (.ops [⟨(some 4), none, .q (.fadr 0 (.t 2))⟩, ⟨(some 5), none, .q (.load false 1 (.t 4))⟩, ⟨(some 6), none, .q (.load false 1 (.t 1))⟩, ⟨(some 7), none, .c (.c (.clo 57 [])) [(.t 5), (.t 6)]⟩, ⟨(some 3), none, .q (.mov (.t 7))⟩])
  .ret))
theorem K79 : Tryz.f79.body.bind (comp Tryz.prog) = some A79 ∧ Tryz.f79.ntmps = 8 ∧ Tryz.f79.results.toList.mapM (resB Tryz.prog) = some [.mov (.t 3)] := ⟨by kernel_rfl, by kernel_rfl, by kernel_rfl⟩
theorem R79 (s : Slot) (k : List Int) : Ret Tryz.prog 79 [.agg (Slot.ty.cs s), .rp [.ro (rows B k) k.length] 0] (.sc (.bool (bEq s.key k))) [.un, .un] := by
  refine Ret.run Tryz.func79 K79 (by simp) rfl rfl 500 ?_
  simp [A79, iniρ, Slot.cseB]
  refine callK.ro 7 rfl (by kernel_rfl) (by simp [roc_ro, roc_sc, roc_agg, upd_app]; rfl) (R57 s.key k) rfl rfl rfl ?_
  simp
theorem R78 (g : FuncId) (caps : List AV) (f : Slot → Bool) (hg : callB Tryz.prog g = true) (hsh : shut.shutL caps = true) (xs : List Slot) (hR : ∀ x ∈ xs, Ret Tryz.prog g (el true (Slot.ty.cs x) :: caps) (.sc (.bool (f x))) (.un :: caps.map fun _ => .un)) (hb : xs.length < 4611686018427387904) :
    Ret Tryz.prog 78 [.ro (rows Slot.ty.cs xs) xs.length, .clo g caps] (.sc (.int .i64 (idx f xs 0))) [.un, .un] :=
  Ret.indexFunc Slot.ty (agg := true) Tryz.func78 ⟨by kernel_rfl, by kernel_rfl, by kernel_rfl⟩ (fun h => by cases h) g caps f hg hsh xs hR hb
/- 44: loop.example/g00464/impl.slotAt -/
def A44 : AC := (.seq (.ops [⟨(some 3), none, .w (.box (.t 1))⟩, ⟨(some 4), none, .q (.mov (.c (.sc (.int .i64 0))))⟩])
  (.seq (.ops [⟨(some 5), none, .q (.mov (.t 0))⟩, ⟨(some 6), none, .q (.mkf 79 [(.t 3)])⟩, ⟨(some 7), none, .c (.c (.clo 78 [])) [(.t 5), (.t 6)]⟩, ⟨(some 4), none, .q (.mov (.t 7))⟩])
  .ret))
theorem K44 : Tryz.f44.body.bind (comp Tryz.prog) = some A44 ∧ Tryz.f44.ntmps = 8 ∧ Tryz.f44.results.toList.mapM (resB Tryz.prog) = some [.mov (.t 4)] := ⟨by kernel_rfl, by kernel_rfl, by kernel_rfl⟩
theorem R44 (xs : List Slot) (k : List Int) (hb : xs.length < 4611686018427387904) : Ret Tryz.prog 44 [.ro (rows Slot.ty.cs xs) xs.length, .ro (rows B k) k.length] (.sc (.int .i64 (idx (fun s => bEq s.key k) xs 0))) [.un, .un] := by
  refine Ret.run Tryz.func44 K44 (by simp) rfl rfl 500 ?_
  simp [A44, iniρ]
  refine callK.ro 0 rfl (by kernel_rfl) (ys := [.ro (rows Slot.ty.cs xs) xs.length, .clo 79 [.rp [.ro (rows B k) k.length] 0]]) (by simp [roc_ro, upd_app, roc]) (R78 79 [.rp [.ro (rows B k) k.length] 0] (fun s => bEq s.key k) (by kernel_rfl) rfl xs (fun x _ => R79 x k) hb) rfl rfl rfl ?_
  simp
/- 13: loop.example/g00464/impl.CacheOk -/
def A13 : AC := (.seq (.ops [⟨(some 2), none, .q (.mov (.c (.sc (.bool false))))⟩])
  (.seq (.seq (.ops [⟨(some 5), none, .q (.mov (.t 0))⟩, ⟨(some 6), none, .q (.llen (.t 5))⟩, ⟨(some 7), none, .q (.mov (.c (.sc (.int .i64 0))))⟩])
  (.block 0 (.loop (.seq (.ops [⟨(some 8), none, .q (.bin .lss (.t 7) (.t 6))⟩])
  (.seq (.cond (.t 8) .skip
  (.exit 0))
  (.seq (.block 1 (.seq (.ops [⟨(some 9), none, .q (.mov (.t 7))⟩, ⟨(some 10), none, .q (.iadr 2 (.t 5) (.t 7))⟩, ⟨(some 11), none, .q (.load true 2 (.t 10))⟩, ⟨(some 4), none, .w (.alloc [.em, .em])⟩, ⟨(some 3), none, .q (.mov (.t 9))⟩, ⟨none, none, .w (.store 2 (.t 4) (.t 11))⟩])
  (.seq (.ops [⟨(some 12), none, .q (.mov (.t 0))⟩, ⟨(some 13), none, .q (.fadr 0 (.t 4))⟩, ⟨(some 14), none, .q (.load false 1 (.t 13))⟩, ⟨(some 15), none, .c (.c (.clo 44 [])) [(.t 12), (.t 14)]⟩, ⟨(some 16), none, .q (.mov (.t 3))⟩, ⟨(some 17), none, .q (.bin .neq (.t 15) (.t 16))⟩])
  (.cond (.t 17) (.seq (.ops [⟨(some 2), none, .q (.mov (.c (.sc (.bool false))))⟩])
  .ret)
  .skip))))
  (.ops [⟨(some 18), none, .q (.bin .add (.t 7) (.c (.sc (.int .i64 1))))⟩, ⟨(some 7), none, .q (.mov (.t 18))⟩])))))))
  (.seq (.ops [⟨(some 19), none, .q (.mov (.t 0))⟩, ⟨(some 20), none, .q (.llen (.t 19))⟩, ⟨(some 21), none, .q (.bin .leq (.t 20) (.c (.sc (.int .i64 20))))⟩, ⟨(some 22), none, .q (.mov (.t 21))⟩, ⟨(some 23), (some (22, true)), .q (.mov (.t 0))⟩, ⟨(some 24), (some (22, true)), .c (.c (.clo 17 [])) [(.t 23)]⟩, ⟨(some 25), (some (22, true)), .q (.bin .leq (.t 24) (.c (.sc (.int .i64 3000))))⟩, ⟨(some 26), none, .q (.pick (.t 22) (.t 25) (.c (.sc (.bool false))))⟩, ⟨(some 2), none, .q (.mov (.t 26))⟩])
  .ret)))
theorem K13 : Tryz.f13.body.bind (comp Tryz.prog) = some A13 ∧ Tryz.f13.ntmps = 27 ∧ Tryz.f13.results.toList.mapM (resB Tryz.prog) = some [.mov (.t 2)] := ⟨by kernel_rfl, by kernel_rfl, by kernel_rfl⟩
theorem R13 (xs : List Slot) (hb : xs.length < 4611686018427387904) : Ret Tryz.prog 13 [.ro (rows Slot.ty.cs xs) xs.length] (.sc (.bool (cacheOk xs))) [.un] := by
  refine Ret.run Tryz.func13 K13 (by simp) rfl rfl 500 ?_
  simp [A13, iniρ]
  let G : Slot → Int := fun x => idx (fun s => bEq s.key x.key) xs 0
  refine T.rounds (μ := fun i : List Slot × List Slot => i.2.length)
    (fun i s => i.1 ++ i.2 = xs ∧ allAt G i.2 i.1.length = allAt G xs 0 ∧ s.ρ 0 = .ro (rows Slot.ty.cs xs) xs.length ∧ s.ρ 5 = .ro (rows Slot.ty.cs xs) xs.length ∧ s.ρ 6 = .sc (.int .i64 xs.length) ∧ s.ρ 7 = .sc (.int .i64 i.1.length) ∧ s.h 4 = none ∧ s.n = 27) ([], xs) (by simp [upd_app]) ?_
  rintro ⟨pre, rest⟩ ⟨ρ, hh, n⟩ ⟨hx, hE, h0', h5', h6', h7', hf, rfl⟩
  simp only at hx hE h0' h5' h6' h7' hf
  refine run_ok (n := 400) ?_
  cases rest with
  | nil =>
    simp at hx
    subst hx
    have hE : true = allAt (fun x => idx (fun s => bEq s.key x.key) pre 0) pre 0 := hE
    simp [h6', h7']
    refine T.on 400 ?_
    by_cases hz : pre.length ≤ 20
    · have hz' : (pre.length : Int) ≤ 20 := by omega
      simp [h0', hz']
      refine callK.ro 24 rfl (by kernel_rfl) (by simp [roc_ro, roc_sc, roc_agg, upd_app]) (R17 pre hb) rfl rfl rfl ?_
      simp [cacheOk, ← hE, hz]
    · have hz' : ¬ (pre.length : Int) ≤ 20 := by omega
      simp [h0', hz', cacheOk, hz]
  | cons x rest =>
    have hlt : (pre.length : Int) < xs.length := by rw [← hx]; simp only [List.length_append, List.length_cons]; omega
    have hd := rows_drop Slot.ty.csn pre (x :: rest)
    rw [hx, rows_cons] at hd
    have hd : List.drop (pre.length * 2) (rows Slot.ty.cs xs) = Slot.ty.cs x ++ rows Slot.ty.cs rest := hd
    have hw : IntKind.i64.wrap ((pre.length : Int) + 1) = pre.length + 1 := wrap_i64 (by omega) (by omega)
    simp [h0', h5', h6', h7', hf, hlt, hd, Slot.cseB, over]
    refine callK.ro 15 rfl (by kernel_rfl) (by simp [roc_ro, roc_sc, roc_agg, upd_app, Slot.cseB]) (R44 xs x.key hb) rfl rfl rfl ?_
    by_cases hz : idx (fun s => bEq s.key x.key) xs 0 = (pre.length : Int)
    · simp [h7', hz, hw]
      refine ⟨pre ++ [x], rest, by simp, _, Le.reset [0, 5, 6, 7] [] ?_ (by simp), ?_⟩
      · simp [upd_app, menB, idfree, h0', h5', h6']
      have hE2 : allAt G rest (pre.length + 1) = allAt G xs 0 := by
        rw [← hE]; simp only [allAt]; rw [show G x = (pre.length : Int) from hz]; simp
      simp [hx, h0', h5', h6', hE2, upd_app]
    · have hE2 : allAt (fun x => idx (fun s => bEq s.key x.key) xs 0) xs 0 = false := by
        refine hE.symm.trans ?_
        simp only [allAt]
        rw [show G x = idx (fun s => bEq s.key x.key) xs 0 from rfl]; simp [hz]
      simp [h7', hz, cacheOk, hE2]
end Go.Proofs.YtaknfalbmblagaaGreatDoor.Am
namespace Go.Proofs.YtaknfalbmblagaaGreatDoor.Am
open Go Go.Proofs
set_option linter.unusedSimpArgs false
set_option linter.unusedVariables false
attribute [local congr] T_congr callK_congr callWK_congr
attribute [local simp] run_nil run_op0 run_opg run_seq run_cond run_block run_ret run_skip run_skip_after run_skip_blk run_exit run_exit_after run_exit_blk run_loop run_any runS_nil runS_op0 runS_opg runW_nil runW_op0 runW_opg exec_q exec_w exec_c exec_n execW_q execW_w execW_c restW_app hideH_app merge_app wblk rest_app restS_app execS_q execS_c aval dOk upd_app ev_t ev_c setO_some setO_none put_mk pinsOf isIo hasIo sbin endR fin resL one outL out1 clo1 cloL coe coeL shut shut.shutL wantA weff cellsOf fillA deref natOf ρ0_app h0_app plain plain.plainL keep_app keepH_app andThen_normal andThen_ret andThen_exit pop_nil pop_after pop_after_ret pop_after_exit pop_blk pop_blk_ret pop_blk_exit nilA srcOf srcCells keepR_app keepHR_app renA rb
/- 80: (*loop.example/g00464/impl.textReader).next -/
/- 83: loop.example/g00464/spec.l17Text -/
end Go.Proofs.YtaknfalbmblagaaGreatDoor.Am
namespace Go.Proofs.YtaknfalbmblagaaGreatDoor.Am
open Go Go.Proofs
set_option linter.unusedSimpArgs false
set_option linter.unusedVariables false
attribute [local congr] T_congr callK_congr callWK_congr
attribute [local simp] run_nil run_op0 run_opg run_seq run_cond run_block run_ret run_skip run_skip_after run_skip_blk run_exit run_exit_after run_exit_blk run_loop run_any runS_nil runS_op0 runS_opg runW_nil runW_op0 runW_opg exec_q exec_w exec_c exec_n execW_q execW_w execW_c restW_app hideH_app merge_app wblk rest_app restS_app execS_q execS_c aval dOk upd_app ev_t ev_c setO_some setO_none put_mk pinsOf isIo hasIo sbin endR fin resL one outL out1 clo1 cloL coe coeL shut shut.shutL wantA weff cellsOf fillA deref natOf ρ0_app h0_app plain plain.plainL keep_app keepH_app andThen_normal andThen_ret andThen_exit pop_nil pop_after pop_after_ret pop_after_exit pop_blk pop_blk_ret pop_blk_exit nilA srcOf srcCells keepR_app keepHR_app renA rb
/- 45: loop.example/g00464/impl.GetMade -/
end Go.Proofs.YtaknfalbmblagaaGreatDoor.Am
namespace Go.Proofs.YtaknfalbmblagaaGreatDoor.Am
open Go Go.Proofs
set_option linter.unusedSimpArgs false
set_option linter.unusedVariables false
attribute [local congr] T_congr callK_congr callWK_congr
attribute [local simp] run_nil run_op0 run_opg run_seq run_cond run_block run_ret run_skip run_skip_after run_skip_blk run_exit run_exit_after run_exit_blk run_loop run_any runS_nil runS_op0 runS_opg runW_nil runW_op0 runW_opg exec_q exec_w exec_c exec_n execW_q execW_w execW_c restW_app hideH_app merge_app wblk rest_app restS_app execS_q execS_c aval dOk upd_app ev_t ev_c setO_some setO_none put_mk pinsOf isIo hasIo sbin endR fin resL one outL out1 clo1 cloL coe coeL shut shut.shutL wantA weff cellsOf fillA deref natOf ρ0_app h0_app plain plain.plainL keep_app keepH_app andThen_normal andThen_ret andThen_exit pop_nil pop_after pop_after_ret pop_after_exit pop_blk pop_blk_ret pop_blk_exit nilA srcOf srcCells keepR_app keepHR_app renA rb
/- 47: loop.example/g00464/spec.GetMade -/
end Go.Proofs.YtaknfalbmblagaaGreatDoor.Am
namespace Go.Proofs.YtaknfalbmblagaaGreatDoor.Am
open Go Go.Proofs
set_option linter.unusedSimpArgs false
set_option linter.unusedVariables false
attribute [local congr] T_congr callK_congr callWK_congr
attribute [local simp] run_nil run_op0 run_opg run_seq run_cond run_block run_ret run_skip run_skip_after run_skip_blk run_exit run_exit_after run_exit_blk run_loop run_any runS_nil runS_op0 runS_opg runW_nil runW_op0 runW_opg exec_q exec_w exec_c exec_n execW_q execW_w execW_c restW_app hideH_app merge_app wblk rest_app restS_app execS_q execS_c aval dOk upd_app ev_t ev_c setO_some setO_none put_mk pinsOf isIo hasIo sbin endR fin resL one outL out1 clo1 cloL coe coeL shut shut.shutL wantA weff cellsOf fillA deref natOf ρ0_app h0_app plain plain.plainL keep_app keepH_app andThen_normal andThen_ret andThen_exit pop_nil pop_after pop_after_ret pop_after_exit pop_blk pop_blk_ret pop_blk_exit nilA srcOf srcCells keepR_app keepHR_app renA rb
def filesFit (l : List File) : Prop := ∀ f ∈ l, f.path.size ≤ 60000 ∧ f.text.size ≤ 60000
structure Fit (m : Made) : Prop where
  task : m.task.size ≤ 60000
  log : m.log.size ≤ 60000
  outs : filesFit m.outs
  num : m.outs.length ≤ 1000
end Go.Proofs.YtaknfalbmblagaaGreatDoor.Am
namespace Go.Proofs.YtaknfalbmblagaaGreatDoor.Am
open Go Go.Proofs
set_option linter.unusedSimpArgs false
set_option linter.unusedVariables false
attribute [local congr] T_congr callK_congr callWK_congr
attribute [local simp] run_nil run_op0 run_opg run_seq run_cond run_block run_ret run_skip run_skip_after run_skip_blk run_exit run_exit_after run_exit_blk run_loop run_any runS_nil runS_op0 runS_opg runW_nil runW_op0 runW_opg exec_q exec_w exec_c exec_n execW_q execW_w execW_c restW_app hideH_app merge_app wblk rest_app restS_app execS_q execS_c aval dOk upd_app ev_t ev_c setO_some setO_none put_mk pinsOf isIo hasIo sbin endR fin resL one outL out1 clo1 cloL coe coeL shut shut.shutL wantA weff cellsOf fillA deref natOf ρ0_app h0_app plain plain.plainL keep_app keepH_app andThen_normal andThen_ret andThen_exit pop_nil pop_after pop_after_ret pop_after_exit pop_blk pop_blk_ret pop_blk_exit nilA srcOf srcCells keepR_app keepHR_app renA rb
/- 100: loop.example/g00464/laws.markText -/
def A100 : AC := (.seq (.ops [⟨(some 2), none, .q (.mov (.c (.sc (.string ⟨#[]⟩))))⟩])
  (.seq (.seq (.ops [⟨(some 4), none, .q (.mov (.t 0))⟩, ⟨(some 5), none, .q (.bin .leq (.t 4) (.c (.sc (.int .i64 0))))⟩])
  (.cond (.t 5) (.seq (.ops [⟨(some 2), none, .q (.mov (.c (.sc (.string ⟨#[109, 48]⟩))))⟩])
  .ret)
  .skip))
  (.seq (.ops [⟨(some 3), none, .q (.mov (.c (.sc (.string ⟨#[]⟩))))⟩])
  (.seq (.block 0 (.loop (.seq (.seq (.ops [⟨(some 6), none, .q (.mov (.t 0))⟩, ⟨(some 7), none, .q (.bin .gtr (.t 6) (.c (.sc (.int .i64 0))))⟩])
  (.cond (.t 7) .skip
  (.exit 0)))
  (.block 1 (.seq (.ops [⟨(some 8), none, .q (.mov (.t 0))⟩, ⟨(some 9), none, .q (.bin .rem (.t 8) (.c (.sc (.int .i64 10))))⟩, ⟨(some 10), none, .q (.bin .add (.c (.sc (.int .i64 48))) (.t 9))⟩, ⟨(some 11), none, .q (.cvi .u8 (.t 10))⟩, ⟨(some 12), none, .w (.bsl 1 1 [(.sc (.int .u8 0))] [(0, 1, (.t 11))])⟩, ⟨(some 13), none, .q (.bstr (.t 12))⟩, ⟨(some 14), none, .q (.mov (.t 3))⟩, ⟨(some 15), none, .q (.bin .add (.t 13) (.t 14))⟩, ⟨(some 3), none, .q (.mov (.t 15))⟩])
  (.ops [⟨(some 16), none, .q (.mov (.t 0))⟩, ⟨(some 17), none, .q (.bin .quo (.t 16) (.c (.sc (.int .i64 10))))⟩, ⟨(some 0), none, .q (.mov (.t 17))⟩]))))))
  (.seq (.ops [⟨(some 18), none, .q (.mov (.t 3))⟩, ⟨(some 19), none, .q (.bin .add (.c (.sc (.string ⟨#[109]⟩))) (.t 18))⟩, ⟨(some 2), none, .q (.mov (.t 19))⟩])
  .ret)))))
theorem K100 : Tryz.f100.body.bind (comp Tryz.prog) = some A100 ∧ Tryz.f100.ntmps = 20 ∧ Tryz.f100.results.toList.mapM (resB Tryz.prog) = some [.mov (.t 2)] := ⟨by kernel_rfl, by kernel_rfl, by kernel_rfl⟩
theorem R100 (n : Nat) (h0 : 0 < n) (hn : n < 4611686018427387904) : Ret Tryz.prog 100 [.sc (.int .i64 n)] (.sc (.string (mtext n))) [.un] := by
  have hnp : ¬ ((n : Int) ≤ 0) := by omega
  refine Ret.run Tryz.func100 K100 (by simp) rfl rfl 900 ?_
  simp only [A100, iniρ]
  have hn0 : ¬ n = 0 := by omega
  simp [hnp, hn0]
  have hz0 : (⟨#[]⟩ : ByteArray).size + n ≤ n := by show 0 + n ≤ n; omega
  refine T.rounds (μ := fun i : Nat × Nat × ByteArray => i.1)
    (fun i s => i.2.1 ≤ i.1 ∧ i.2.2.size + i.2.1 ≤ n ∧ mtF i.1 i.2.1 i.2.2 = mtF n n ⟨#[]⟩ ∧ s.ρ 0 = .sc (.int .i64 i.2.1) ∧ s.ρ 3 = .sc (.string i.2.2) ∧ s.h 12 = none ∧ s.n = 20) (n, n, ⟨#[]⟩) (by simp [upd_app, hz0]) ?_
  rintro ⟨k, m, a⟩ ⟨ρ, hh, n'⟩ ⟨hk, hs, hE, h0', h3', f1, rfl⟩
  simp only at hk hs hE h0' h3' f1
  refine run_ok (n := 400) ?_
  by_cases h9 : 0 < m
  case neg =>
    have h9' : ¬ ((0 : Int) < m) := by omega
    have hE2 : a = mtF n n ⟨#[]⟩ := by rw [← hE]; cases k <;> simp [mtF, h9]
    have hsz : (⟨#[109]⟩ : ByteArray).size + a.size ≤ 9223372036854775807 := by
      have e : (⟨#[109]⟩ : ByteArray).size = 1 := rfl
      rw [e]; omega
    simp [h0', h9, h9']
    refine T.on 400 ?_
    rw [hE2] at h3' hsz
    simp [h3', hsz, mtext]
  have h9' : (0 : Int) < m := by omega
  obtain ⟨k, rfl⟩ : ∃ k', k = k' + 1 := ⟨k - 1, by omega⟩
  rw [mtF, if_pos h9] at hE
  have hq1 : (m : Int).tdiv 10 = (m : Int) / 10 := rfl
  have hw1 : IntKind.i64.wrap ((m : Int) / 10) = (m : Int) / 10 := wrap_i64 (by omega) (by omega)
  have hr2 : (m : Int).tmod 10 = (m : Int) % 10 := rfl
  have hw2 : IntKind.i64.wrap (48 + (m : Int) % 10) = 48 + (m : Int) % 10 := wrap_i64 (by omega) (by omega)
  have hsz : (strOfNums [IntKind.u8.wrap (48 + (m : Int) % 10)]).size + a.size ≤ 9223372036854775807 := by
    have := digM_size ((m : Int) % 10)
    rw [digM] at this
    rw [this]; omega
  simp [h0', h3', h9, h9', f1, over, hq1, hw1, hr2, hw2, bytesA, num8, hsz]
  refine ⟨k, by omega, m / 10, digM ((m : Int) % 10) ++ a, _, Le.reset [0, 3] [] (by simp [upd_app, menB, idfree]) (by simp), ?_⟩
  simp [upd_app, hE, digM_size]
  exact ⟨by omega, by omega, rfl⟩
theorem RmarkTextI (k : Int) (h0 : 0 < k) (hn : k < 4611686018427387904) : Ret Tryz.prog 100 [.sc (.int .i64 k)] (.sc (.string (mtI k))) [.un] := by
  have r := R100 k.toNat (by omega) (by omega)
  have e : ((k.toNat : Nat) : Int) = k := by omega
  rw [e] at r
  exact r
def File.mark (x : File) (k : Int) : File := ⟨(mtI (k)), (mtI (k + 1))⟩
def File.tot (x : File) : Nat := 1 + 1
theorem File.tote (x : File) : File.tot x = 1 + 1 := rfl
theorem File.totw (x : File) : File.tot x ≤ 3 * (1 + File.ty.wt x) := by
  rw [File.tote, File.wte]; omega
def Need.mark (x : Need) (k : Int) : Need := ⟨(mtI (k)), (mtI (k + 1))⟩
def Need.tot (x : Need) : Nat := 1 + 1
theorem Need.tote (x : Need) : Need.tot x = 1 + 1 := rfl
theorem Need.totw (x : Need) : Need.tot x ≤ 3 * (1 + Need.ty.wt x) := by
  rw [Need.tote, Need.wte]; omega
def Cmd.mark (x : Cmd) (k : Int) : Cmd := ⟨(mtI (k)), (mkL strMk strTot x.acts (k + 1))⟩
def Cmd.tot (x : Cmd) : Nat := 1 + toL strTot x.acts
theorem Cmd.tote (x : Cmd) : Cmd.tot x = 1 + toL strTot x.acts := rfl
theorem Cmd.totw (x : Cmd) : Cmd.tot x ≤ 3 * (1 + Cmd.ty.wt x) := by
  have w1 := toL_wt strTotw x.acts
  rw [Cmd.tote, Cmd.wte]; omega
def Pack.mark (x : Pack) (k : Int) : Pack := ⟨(mtI (k)), (mkL strMk strTot x.uses (k + 1)), (mkL Need.mark Need.tot x.needs (k + 1 + (toL strTot x.uses : Nat))), (mkL Cmd.mark Cmd.tot x.cmds (k + 1 + (toL strTot x.uses : Nat) + (toL Need.tot x.needs : Nat)))⟩
def Pack.tot (x : Pack) : Nat := 1 + toL strTot x.uses + toL Need.tot x.needs + toL Cmd.tot x.cmds
theorem Pack.tote (x : Pack) : Pack.tot x = 1 + toL strTot x.uses + toL Need.tot x.needs + toL Cmd.tot x.cmds := rfl
theorem Pack.totw (x : Pack) : Pack.tot x ≤ 3 * (1 + Pack.ty.wt x) := by
  have w1 := toL_wt strTotw x.uses
  have w2 := toL_wt Need.totw x.needs
  have w3 := toL_wt Cmd.totw x.cmds
  rw [Pack.tote, Pack.wte]; omega
def Env.mark (x : Env) (k : Int) : Env := ⟨(mtI (k)), (mtI (k + 1))⟩
def Env.tot (x : Env) : Nat := 1 + 1
theorem Env.tote (x : Env) : Env.tot x = 1 + 1 := rfl
theorem Env.totw (x : Env) : Env.tot x ≤ 3 * (1 + Env.ty.wt x) := by
  rw [Env.tote, Env.wte]; omega
def Rule.mark (x : Rule) (k : Int) : Rule := ⟨(mtI (k)), (mkL strMk strTot x.on (k + 1)), (mkL strMk strTot x.ins (k + 1 + (toL strTot x.on : Nat))), (mkL strMk strTot x.envs (k + 1 + (toL strTot x.on : Nat) + (toL strTot x.ins : Nat))), ((k + 1 + (toL strTot x.on : Nat) + (toL strTot x.ins : Nat) + (toL strTot x.envs : Nat)).tmod 3 == 0)⟩
def Rule.tot (x : Rule) : Nat := 1 + toL strTot x.on + toL strTot x.ins + toL strTot x.envs + 1
theorem Rule.tote (x : Rule) : Rule.tot x = 1 + toL strTot x.on + toL strTot x.ins + toL strTot x.envs + 1 := rfl
theorem Rule.totw (x : Rule) : Rule.tot x ≤ 3 * (1 + Rule.ty.wt x) := by
  have w1 := toL_wt strTotw x.on
  have w2 := toL_wt strTotw x.ins
  have w3 := toL_wt strTotw x.envs
  rw [Rule.tote, Rule.wte]; omega
def Made.mark (x : Made) (k : Int) : Made := ⟨(mtI (k)), (mkL File.mark File.tot x.outs (k + 1)), (mtI (k + 1 + (toL File.tot x.outs : Nat)))⟩
def Made.tot (x : Made) : Nat := 1 + toL File.tot x.outs + 1
theorem Made.tote (x : Made) : Made.tot x = 1 + toL File.tot x.outs + 1 := rfl
theorem Made.totw (x : Made) : Made.tot x ≤ 3 * (1 + Made.ty.wt x) := by
  have w1 := toL_wt File.totw x.outs
  rw [Made.tote, Made.wte]; omega
def Mark.mark (x : Mark) (k : Int) : Mark := ⟨(mtI (k)), (k + 1)⟩
def Mark.tot (x : Mark) : Nat := 1 + 1
theorem Mark.tote (x : Mark) : Mark.tot x = 1 + 1 := rfl
theorem Mark.totw (x : Mark) : Mark.tot x ≤ 3 * (1 + Mark.ty.wt x) := by
  rw [Mark.tote, Mark.wte]; omega
/- 71: loop.example/g00464/laws.markFileS -/
def A71 : AC := (.seq (.ops [⟨(some 4), none, .q (.mov (.c (.sc (.int .i64 0))))⟩])
  (.seq (.seq (.ops [⟨(some 5), none, .q (.mov (.c (.sc (.int .i64 0))))⟩])
  (.block 0 (.loop (.seq (.seq (.ops [⟨(some 6), none, .q (.mov (.t 5))⟩, ⟨(some 7), none, .q (.mov (.t 0))⟩, ⟨(some 8), none, .q (.llen (.t 7))⟩, ⟨(some 9), none, .q (.bin .lss (.t 6) (.t 8))⟩])
  (.cond (.t 9) .skip
  (.exit 0)))
  (.seq (.block 1 (.seq (.ops [⟨(some 12), none, .q (.mov (.t 0))⟩, ⟨(some 13), none, .q (.mov (.t 5))⟩, ⟨(some 14), none, .q (.mov (.t 1))⟩, ⟨(some 15), none, .c (.c (.clo 100 [])) [(.t 14)]⟩, ⟨(some 16), none, .q (.iadr 2 (.t 12) (.t 13))⟩, ⟨(some 17), none, .q (.fadr 0 (.t 16))⟩, ⟨none, none, .w (.store 1 (.t 17) (.t 15))⟩])
  (.seq (.ops [⟨(some 18), none, .q (.mov (.t 1))⟩, ⟨(some 19), none, .q (.bin .add (.t 18) (.c (.sc (.int .i64 1))))⟩, ⟨(some 1), none, .q (.mov (.t 19))⟩])
  (.seq (.ops [⟨(some 20), none, .q (.mov (.t 0))⟩, ⟨(some 21), none, .q (.mov (.t 5))⟩, ⟨(some 22), none, .q (.mov (.t 1))⟩, ⟨(some 23), none, .c (.c (.clo 100 [])) [(.t 22)]⟩, ⟨(some 24), none, .q (.iadr 2 (.t 20) (.t 21))⟩, ⟨(some 25), none, .q (.fadr 1 (.t 24))⟩, ⟨none, none, .w (.store 1 (.t 25) (.t 23))⟩])
  (.ops [⟨(some 26), none, .q (.mov (.t 1))⟩, ⟨(some 27), none, .q (.bin .add (.t 26) (.c (.sc (.int .i64 1))))⟩, ⟨(some 1), none, .q (.mov (.t 27))⟩])))))
  (.ops [⟨(some 10), none, .q (.mov (.t 5))⟩, ⟨(some 11), none, .q (.bin .add (.t 10) (.c (.sc (.int .i64 1))))⟩, ⟨(some 5), none, .q (.mov (.t 11))⟩]))))))
  (.seq (.ops [⟨(some 28), none, .q (.mov (.t 1))⟩, ⟨(some 4), none, .q (.mov (.t 28))⟩])
  .ret)))
theorem K71 : Tryz.f71.body.bind (comp Tryz.prog) = some A71 ∧ Tryz.f71.ntmps = 29 ∧ Tryz.f71.results.toList.mapM (resB Tryz.prog) = some [.mov (.t 4)] := ⟨by kernel_rfl, by kernel_rfl, by kernel_rfl⟩
set_option maxHeartbeats 2000000 in
theorem R71 (xs : List (File)) (k : Int) (hk : 0 < k) (hb : k + (toL File.tot xs : Nat) < 4611686018427387904) (hn : xs.length < 4611686018427387904) : MRet Tryz.prog 71 (rows File.ty.oc xs) xs.length 2 (.sc (.int .i64 k)) (.sc (.int .i64 (k + toL File.tot xs))) (rows File.ty.oc (mkL File.mark File.tot xs k)) := by
  refine MRet.loop File.ty File.mark File.tot (by decide) Tryz.func71 K71 xs k hn ?_
  intro ρ h M R pre x rest q hx hq hM hlt h0' h1' h5' h7' hfr hM' hR'
  have htot : toL File.tot xs = toL File.tot pre + (File.tot x + toL File.tot rest) := by rw [← hx, toL_app]; rfl
  have ht := File.tote x
  have hM : M.length = pre.length * 2 := hM
  have h0' : ρ 0 = .sl 100000 0 xs.length 2 false := h0'
  have k2 : h 100000 = some (some (M ++ AV.sc (.string x.path) :: AV.sc (.string x.text) :: R)) := h7'
  have ho0 : over (M ++ AV.sc (.string x.path) :: AV.sc (.string x.text) :: R) (pre.length * 2) [AV.sc (.string (mtI q))] = M ++ AV.sc (.string (mtI q)) :: AV.sc (.string x.text) :: R := by
    have := over_at (M := M ++ []) (R := AV.sc (.string x.text) :: R) (a := AV.sc (.string x.path)) (x := AV.sc (.string (mtI q))) (k := pre.length * 2) (by simp [hM])
    simpa using this
  have hw0 : IntKind.i64.wrap (q + 1) = q + 1 := wrap_i64 (by omega) (by omega)
  have g0 : pre.length * 2 + 1 ≤ M.length + (R.length + 1 + 1) := by omega
  have ho1 : over (M ++ AV.sc (.string (mtI q)) :: AV.sc (.string x.text) :: R) (pre.length * 2 + 1) [AV.sc (.string (mtI (q + 1)))] = M ++ AV.sc (.string (mtI q)) :: AV.sc (.string (mtI (q + 1))) :: R := by
    have := over_at (M := M ++ [AV.sc (.string (mtI q))]) (R := R) (a := AV.sc (.string x.text)) (x := AV.sc (.string (mtI (q + 1)))) (k := pre.length * 2 + 1) (by simp [hM])
    simpa using this
  have hw1 : IntKind.i64.wrap (q + 1 + 1) = q + 1 + 1 := wrap_i64 (by omega) (by omega)
  have g1 : pre.length * 2 + 1 + 1 ≤ M.length + (R.length + 1 + 1) := by omega
  refine run_ok (n := 600) ?_
  simp [h0', h1', h5', k2, hlt, ho0, hw0, g0, ho1, hw1, g1]
  refine callK.ro 0 rfl (by kernel_rfl) (by simp [roc_sc, upd_app, h1']) (RmarkTextI (q) (by omega) (by omega)) rfl rfl rfl ?_
  simp [h0', h1', h5', k2, hlt, ho0, hw0, g0, ho1, hw1, g1]
  refine callK.ro 0 rfl (by kernel_rfl) (by simp [roc_sc, upd_app, h1']) (RmarkTextI (q + 1) (by omega) (by omega)) rfl rfl rfl ?_
  simp [h0', h1', h5', k2, hlt, ho0, hw0, g0, ho1, hw1, g1]
  refine ⟨rfl, MRound.pack File.ty (File.mark x q) M R (by simp [upd_app, h0']) ?_ (by simp [upd_app, h5']) (by decide) ?_ ?_⟩
  · simp [upd_app, h1', ht]; all_goals omega
  · show _ = some (some (M ++ AV.sc (.string (mtI q)) :: AV.sc (.string (mtI (q + 1))) :: R))
    simp [upd_app, k2, mkL_len, File.mark]
  · intro i cs len sz hi
    match i with
    | 0 => cases hi
    | 1 => cases hi
    | i + 2 => cases hi
end Go.Proofs.YtaknfalbmblagaaGreatDoor.Am
namespace Go.Proofs.YtaknfalbmblagaaGreatDoor.Am
open Go Go.Proofs
set_option linter.unusedSimpArgs false
set_option linter.unusedVariables false
attribute [local congr] T_congr callK_congr callWK_congr
attribute [local simp] run_nil run_op0 run_opg run_seq run_cond run_block run_ret run_skip run_skip_after run_skip_blk run_exit run_exit_after run_exit_blk run_loop run_any runS_nil runS_op0 runS_opg runW_nil runW_op0 runW_opg exec_q exec_w exec_c exec_n execW_q execW_w execW_c restW_app hideH_app merge_app wblk rest_app restS_app execS_q execS_c aval dOk upd_app ev_t ev_c setO_some setO_none put_mk pinsOf isIo hasIo sbin endR fin resL one outL out1 clo1 cloL coe coeL shut shut.shutL wantA weff cellsOf fillA deref natOf ρ0_app h0_app plain plain.plainL keep_app keepH_app andThen_normal andThen_ret andThen_exit pop_nil pop_after pop_after_ret pop_after_exit pop_blk pop_blk_ret pop_blk_exit nilA srcOf srcCells keepR_app keepHR_app renA rb
/- 36: loop.example/g00464/laws.markByteS -/
def A36 : AC := (.seq (.ops [⟨(some 4), none, .q (.mov (.c (.sc (.int .i64 0))))⟩])
  (.seq (.seq (.ops [⟨(some 5), none, .q (.mov (.c (.sc (.int .i64 0))))⟩])
  (.block 0 (.loop (.seq (.seq (.ops [⟨(some 6), none, .q (.mov (.t 5))⟩, ⟨(some 7), none, .q (.mov (.t 0))⟩, ⟨(some 8), none, .q (.llen (.t 7))⟩, ⟨(some 9), none, .q (.bin .lss (.t 6) (.t 8))⟩])
  (.cond (.t 9) .skip
  (.exit 0)))
  (.seq (.block 1 (.seq (.ops [⟨(some 12), none, .q (.mov (.t 0))⟩, ⟨(some 13), none, .q (.mov (.t 5))⟩, ⟨(some 14), none, .q (.mov (.t 1))⟩, ⟨(some 15), none, .q (.cvi .u8 (.t 14))⟩, ⟨(some 16), none, .q (.iadr 1 (.t 12) (.t 13))⟩, ⟨none, none, .w (.store 1 (.t 16) (.t 15))⟩])
  (.ops [⟨(some 17), none, .q (.mov (.t 1))⟩, ⟨(some 18), none, .q (.bin .add (.t 17) (.c (.sc (.int .i64 1))))⟩, ⟨(some 1), none, .q (.mov (.t 18))⟩])))
  (.ops [⟨(some 10), none, .q (.mov (.t 5))⟩, ⟨(some 11), none, .q (.bin .add (.t 10) (.c (.sc (.int .i64 1))))⟩, ⟨(some 5), none, .q (.mov (.t 11))⟩]))))))
  (.seq (.ops [⟨(some 19), none, .q (.mov (.t 1))⟩, ⟨(some 4), none, .q (.mov (.t 19))⟩])
  .ret)))
theorem K36 : Tryz.f36.body.bind (comp Tryz.prog) = some A36 ∧ Tryz.f36.ntmps = 20 ∧ Tryz.f36.results.toList.mapM (resB Tryz.prog) = some [.mov (.t 4)] := ⟨by kernel_rfl, by kernel_rfl, by kernel_rfl⟩
theorem R36 (xs : List Int) (k : Int) (hk : 0 ≤ k) (hb : k + xs.length < 4611686018427387904) : MRet Tryz.prog 36 (rows B xs) xs.length 1 (.sc (.int .i64 k)) (.sc (.int .i64 (k + xs.length))) (rows B (mkB xs.length k)) := by
  constructor
  · intro hpos
    refine Ret.run Tryz.func36 K36 (by simp) rfl rfl 500 ?_
    simp [A36, iniρ]
    refine T.rounds (μ := fun i : List Int × List Int => i.2.length)
      (fun i s => i.1 ++ i.2 = xs ∧ s.ρ 0 = .sl 100000 0 xs.length 1 false ∧ s.ρ 1 = .sc (.int .i64 (k + i.1.length)) ∧ s.ρ 5 = .sc (.int .i64 i.1.length) ∧ s.h 100000 = some (some (rows B (mkB i.1.length k) ++ rows B i.2)) ∧ s.n = 20) ([], xs) (by simp [upd_app, mkB, rows_nil]) ?_
    rintro ⟨pre, rest⟩ ⟨ρ, hh, n⟩ ⟨hx, h0', h1', h5', h7', rfl⟩
    simp only at hx h0' h1' h5' h7'
    refine run_ok (n := 400) ?_
    cases rest with
    | nil =>
      simp at hx
      subst hx
      simp [h0', h5']
      refine T.on 400 ?_
      simp [h0', h1', h7', ex1, rows_nil, B.count, idfreeL_rows B.fr, ioPos1, hpos, mkB_len]
    | cons x rest =>
      have hle : pre.length + (rest.length + 1) = xs.length := by rw [← hx]; simp
      have hlt : (pre.length : Int) < xs.length := by omega
      have hw : IntKind.i64.wrap ((pre.length : Int) + 1) = pre.length + 1 := wrap_i64 (by omega) (by omega)
      have hw1 : IntKind.i64.wrap (k + (pre.length : Int) + 1) = k + pre.length + 1 := wrap_i64 (by omega) (by omega)
      have hov : over _ _ [AV.sc (.int .u8 (IntKind.u8.wrap (k + pre.length)))] = _ := rows_over3 B.len B.len (mkB pre.length k) rest x [AV.sc (.int .u8 (IntKind.u8.wrap (k + pre.length)))] rfl
      rw [Nat.mul_one, mkB_len] at hov
      have hle2 : pre.length + 1 ≤ (rows B (mkB pre.length k)).length + (rows B (x :: rest)).length := by rw [rows_length B.len, rows_length B.len, mkB_len, List.length_cons]; omega
      simp [h0', h1', h5', h7', hlt, hw, hw1, hle2, hov]
      refine ⟨pre ++ [x], rest, by simp, _, Le.refl _, ?_⟩
      simp [hx, h0', upd_app, mkB_snoc, rows_append, rows_cons, rows_nil, B]
      omega
  · intro h
    have e : xs = [] := List.length_eq_zero_iff.1 h
    subst e
    refine Ret.run Tryz.func36 K36 (by simp) rfl rfl 500 ?_
    simp [A36, iniρ]
    refine T.rounds (μ := fun i : Nat => i) (fun i s => s.ρ 0 = .ro [] 0 ∧ s.ρ 1 = .sc (.int .i64 k) ∧ s.ρ 5 = .sc (.int .i64 0) ∧ s.n = 20) 0 (by simp [upd_app]) ?_
    rintro i ⟨ρ, hh, n⟩ ⟨h0', h1', h5', rfl⟩
    simp only at h0' h1' h5'
    refine run_ok (n := 400) ?_
    simp [h0', h5']
    refine T.on 400 ?_
    simp [h1']
/- 72: loop.example/g00464/laws.heldByteS -/
def A72 : AC := (.seq (.ops [⟨(some 4), none, .q (.mov (.c (.sc (.int .i64 0))))⟩])
  (.seq (.seq (.ops [⟨(some 5), none, .q (.mov (.c (.sc (.int .i64 0))))⟩])
  (.block 0 (.loop (.seq (.seq (.ops [⟨(some 6), none, .q (.mov (.t 5))⟩, ⟨(some 7), none, .q (.mov (.t 0))⟩, ⟨(some 8), none, .q (.llen (.t 7))⟩, ⟨(some 9), none, .q (.bin .lss (.t 6) (.t 8))⟩])
  (.cond (.t 9) .skip
  (.exit 0)))
  (.seq (.block 1 (.seq (.seq (.ops [⟨(some 12), none, .q (.mov (.t 0))⟩, ⟨(some 13), none, .q (.mov (.t 5))⟩, ⟨(some 14), none, .q (.iadr 1 (.t 12) (.t 13))⟩, ⟨(some 15), none, .q (.load false 1 (.t 14))⟩, ⟨(some 16), none, .q (.mov (.t 1))⟩, ⟨(some 17), none, .q (.cvi .u8 (.t 16))⟩, ⟨(some 18), none, .q (.bin .neq (.t 15) (.t 17))⟩])
  (.cond (.t 18) (.seq (.ops [⟨(some 4), none, .q (.mov (.c (.sc (.int .i64 (-1)))))⟩])
  .ret)
  .skip))
  (.ops [⟨(some 19), none, .q (.mov (.t 1))⟩, ⟨(some 20), none, .q (.bin .add (.t 19) (.c (.sc (.int .i64 1))))⟩, ⟨(some 1), none, .q (.mov (.t 20))⟩])))
  (.ops [⟨(some 10), none, .q (.mov (.t 5))⟩, ⟨(some 11), none, .q (.bin .add (.t 10) (.c (.sc (.int .i64 1))))⟩, ⟨(some 5), none, .q (.mov (.t 11))⟩]))))))
  (.seq (.ops [⟨(some 21), none, .q (.mov (.t 1))⟩, ⟨(some 4), none, .q (.mov (.t 21))⟩])
  .ret)))
theorem K72 : Tryz.f72.body.bind (comp Tryz.prog) = some A72 ∧ Tryz.f72.ntmps = 22 ∧ Tryz.f72.results.toList.mapM (resB Tryz.prog) = some [.mov (.t 4)] := ⟨by kernel_rfl, by kernel_rfl, by kernel_rfl⟩
theorem R72 (m : Nat) (k : Int) (hk : 0 ≤ k) (hb : k + m < 4611686018427387904) : Ret Tryz.prog 72 [.ro (rows B (mkB m k)) m, .sc (.int .i64 k)] (.sc (.int .i64 (k + m))) [.un, .un] := by
  refine Ret.run Tryz.func72 K72 (by simp) rfl rfl 500 ?_
  simp [A72, iniρ]
  refine T.rounds (μ := fun i : Nat × Nat => i.2)
    (fun i s => i.1 + i.2 = m ∧ s.ρ 0 = .ro (rows B (mkB m k)) m ∧ s.ρ 1 = .sc (.int .i64 (k + i.1)) ∧ s.ρ 5 = .sc (.int .i64 i.1) ∧ s.n = 22) (0, m) (by simp [upd_app]) ?_
  rintro ⟨pre, rest⟩ ⟨ρ, hh, n⟩ ⟨hx, h0', h1', h5', rfl⟩
  simp only at hx h0' h1' h5'
  refine run_ok (n := 400) ?_
  cases rest with
  | zero =>
    simp at hx
    subst hx
    simp [h0', h5']
    refine T.on 400 ?_
    simp [h1']
  | succ rest =>
    have hlt : (pre : Int) < m := by omega
    have hd : List.drop pre (rows B (mkB m k)) = AV.sc (.int .u8 (IntKind.u8.wrap (k + pre))) :: rows B (mkB rest (k + pre + 1)) := by
      have e := mkB_app pre (rest + 1) k
      rw [hx] at e
      have h := rows_drop B.len (mkB pre k) (mkB (rest + 1) (k + pre))
      rw [Nat.mul_one, mkB_len] at h
      rw [e, h]; rfl
    have hw : IntKind.i64.wrap ((pre : Int) + 1) = pre + 1 := wrap_i64 (by omega) (by omega)
    have hw1 : IntKind.i64.wrap (k + (pre : Int) + 1) = k + pre + 1 := wrap_i64 (by omega) (by omega)
    simp [h0', h1', h5', hlt, hd, hw, hw1]
    refine ⟨pre + 1, rest, by omega, _, Le.refl _, ?_⟩
    simp [h0', upd_app]
    omega
end Go.Proofs.YtaknfalbmblagaaGreatDoor.Am
namespace Go.Proofs.YtaknfalbmblagaaGreatDoor.Am
open Go Go.Proofs
set_option linter.unusedSimpArgs false
set_option linter.unusedVariables false
attribute [local congr] T_congr callK_congr callWK_congr
attribute [local simp] run_nil run_op0 run_opg run_seq run_cond run_block run_ret run_skip run_skip_after run_skip_blk run_exit run_exit_after run_exit_blk run_loop run_any runS_nil runS_op0 runS_opg runW_nil runW_op0 runW_opg exec_q exec_w exec_c exec_n execW_q execW_w execW_c restW_app hideH_app merge_app wblk rest_app restS_app execS_q execS_c aval dOk upd_app ev_t ev_c setO_some setO_none put_mk pinsOf isIo hasIo sbin endR fin resL one outL out1 clo1 cloL coe coeL shut shut.shutL wantA weff cellsOf fillA deref natOf ρ0_app h0_app plain plain.plainL keep_app keepH_app andThen_normal andThen_ret andThen_exit pop_nil pop_after pop_after_ret pop_after_exit pop_blk pop_blk_ret pop_blk_exit nilA srcOf srcCells keepR_app keepHR_app renA rb
def Slot.mark (x : Slot) (k : Int) : Slot := ⟨mkB x.key.length k, mkB x.b.length (k + x.key.length)⟩
def Slot.tot (x : Slot) : Nat := x.key.length + x.b.length
theorem Slot.ow2 (x : Slot) {i : Nat} {cs : List AV} {len sz : Nat} (h : (Slot.ty.oc x)[i]? = some (.own cs len sz)) : (i = 0 ∧ cs = rows B x.key ∧ len = x.key.length ∧ sz = 1) ∨ (i = 1 ∧ cs = rows B x.b ∧ len = x.b.length ∧ sz = 1) := by
  rw [Slot.oce] at h
  match i with
  | 0 => left; simp at h; exact ⟨rfl, h.1.symm, h.2.1.symm, h.2.2.symm⟩
  | 1 => right; simp at h; exact ⟨rfl, h.1.symm, h.2.1.symm, h.2.2.symm⟩
  | i + 2 => simp at h
/- 35: loop.example/g00464/laws.markSlotS -/
def A35 : AC := (.seq (.ops [⟨(some 4), none, .q (.mov (.c (.sc (.int .i64 0))))⟩])
  (.seq (.seq (.ops [⟨(some 5), none, .q (.mov (.c (.sc (.int .i64 0))))⟩])
  (.block 0 (.loop (.seq (.seq (.ops [⟨(some 6), none, .q (.mov (.t 5))⟩, ⟨(some 7), none, .q (.mov (.t 0))⟩, ⟨(some 8), none, .q (.llen (.t 7))⟩, ⟨(some 9), none, .q (.bin .lss (.t 6) (.t 8))⟩])
  (.cond (.t 9) .skip
  (.exit 0)))
  (.seq (.block 1 (.seq (.ops [⟨(some 12), none, .q (.mov (.t 0))⟩, ⟨(some 13), none, .q (.mov (.t 5))⟩, ⟨(some 14), none, .q (.iadr 2 (.t 12) (.t 13))⟩, ⟨(some 15), none, .q (.fadr 0 (.t 14))⟩, ⟨(some 16), none, .q (.load false 1 (.t 15))⟩, ⟨(some 17), none, .q (.mov (.t 1))⟩, ⟨(some 18), none, .c (.c (.clo 36 [])) [(.t 16), (.t 17)]⟩, ⟨(some 1), none, .q (.mov (.t 18))⟩])
  (.ops [⟨(some 19), none, .q (.mov (.t 0))⟩, ⟨(some 20), none, .q (.mov (.t 5))⟩, ⟨(some 21), none, .q (.iadr 2 (.t 19) (.t 20))⟩, ⟨(some 22), none, .q (.fadr 1 (.t 21))⟩, ⟨(some 23), none, .q (.load false 1 (.t 22))⟩, ⟨(some 24), none, .q (.mov (.t 1))⟩, ⟨(some 25), none, .c (.c (.clo 36 [])) [(.t 23), (.t 24)]⟩, ⟨(some 1), none, .q (.mov (.t 25))⟩])))
  (.ops [⟨(some 10), none, .q (.mov (.t 5))⟩, ⟨(some 11), none, .q (.bin .add (.t 10) (.c (.sc (.int .i64 1))))⟩, ⟨(some 5), none, .q (.mov (.t 11))⟩]))))))
  (.seq (.ops [⟨(some 26), none, .q (.mov (.t 1))⟩, ⟨(some 4), none, .q (.mov (.t 26))⟩])
  .ret)))
theorem K35 : Tryz.f35.body.bind (comp Tryz.prog) = some A35 ∧ Tryz.f35.ntmps = 27 ∧ Tryz.f35.results.toList.mapM (resB Tryz.prog) = some [.mov (.t 4)] := ⟨by kernel_rfl, by kernel_rfl, by kernel_rfl⟩
theorem R35 (xs : List Slot) (k : Int) (hk : 0 ≤ k) (hb : k + toL Slot.tot xs < 4611686018427387904) (hn : xs.length < 4611686018427387904) : MRet Tryz.prog 35 (rows Slot.ty.oc xs) xs.length 2 (.sc (.int .i64 k)) (.sc (.int .i64 (k + toL Slot.tot xs))) (rows Slot.ty.oc (mkL Slot.mark Slot.tot xs k)) := by
  constructor
  · intro hpos
    refine Ret.run Tryz.func35 K35 (by simp) rfl rfl 500 ?_
    simp [A35, iniρ]
    refine T.rounds (μ := fun i : List Slot × List Slot => i.2.length)
      (fun i s => i.1 ++ i.2 = xs ∧ s.ρ 0 = .sl 100000 0 xs.length 2 false ∧ s.ρ 1 = .sc (.int .i64 (k + toL Slot.tot i.1)) ∧ s.ρ 5 = .sc (.int .i64 i.1.length) ∧ s.h 100000 = some (some (rows Slot.ty.oc (mkL Slot.mark Slot.tot i.1 k) ++ rows Slot.ty.oc i.2)) ∧ s.h 31000 = none ∧ s.h 31001 = none ∧ s.n = 27) ([], xs) (by simp [upd_app, mkL, toL, rows_nil]) ?_
    rintro ⟨pre, rest⟩ ⟨ρ, hh, n⟩ ⟨hx, h0', h1', h5', h7', hf0, hf1, rfl⟩
    simp only at hx h0' h1' h5' h7' hf0 hf1
    cases rest with
    | nil =>
      refine run_ok (n := 400) ?_
      simp at hx
      subst hx
      simp [h0', h5']
      refine T.on 400 ?_
      simp [h0', h1', h7', ex1, rows_nil, Slot.ocl, Slot.frL, ioPos1, hpos, mkL_len]
    | cons x rest =>
      have hle : pre.length + (rest.length + 1) = xs.length := by rw [← hx]; simp
      have hlt : (pre.length : Int) < xs.length := by omega
      have hw : IntKind.i64.wrap ((pre.length : Int) + 1) = pre.length + 1 := wrap_i64 (by omega) (by omega)
      have htot : toL Slot.tot xs = toL Slot.tot pre + (x.key.length + x.b.length + toL Slot.tot rest) := by rw [← hx, toL_app]; rfl
      obtain ⟨h', k1, k2, k4, k3⟩ := Le.openRow (ρ := ρ) (n := 27) 100000 (rows Slot.ty.oc rest) (Slot.ty.oc x) 31000 (rows Slot.ty.oc (mkL Slot.mark Slot.tot pre k)) hh (by rw [h7', rows_cons]) (Slot.ty.ow x)
        (fun i hi => by
          rw [Slot.oce] at hi
          match i with
          | 0 => exact hf0
          | 1 => exact hf1
          | i + 2 => simp at hi; omega) (by right; rw [Slot.oce]; simp)
      have e0 := k4 0 _ _ _ (by rw [Slot.oce]; rfl)
      have e1 := k4 1 _ _ _ (by rw [Slot.oce]; rfl)
      simp only [Nat.add_zero] at e0
      have e0 : h' 31000 = some (some (rows B x.key)) := e0
      have e1 : h' 31001 = some (some (rows B x.b)) := e1
      have hl := Slot.ocl (mkL Slot.mark Slot.tot pre k)
      rw [mkL_len] at hl
      rw [Slot.oce] at k2
      have k2 : h' 100000 = some (some (rows Slot.ty.oc (mkL Slot.mark Slot.tot pre k) ++ AV.sl 31000 0 x.key.length 1 false :: AV.sl 31001 0 x.b.length 1 false :: rows Slot.ty.oc rest)) := k2
      have hd0 : List.drop (pre.length * 2) (rows Slot.ty.oc (mkL Slot.mark Slot.tot pre k) ++ AV.sl 31000 0 x.key.length 1 false :: AV.sl 31001 0 x.b.length 1 false :: rows Slot.ty.oc rest) = AV.sl 31000 0 x.key.length 1 false :: AV.sl 31001 0 x.b.length 1 false :: rows Slot.ty.oc rest := by
        rw [← hl, List.drop_left]
      have hd1 : List.drop (pre.length * 2 + 1) (rows Slot.ty.oc (mkL Slot.mark Slot.tot pre k) ++ AV.sl 31000 0 x.key.length 1 false :: AV.sl 31001 0 x.b.length 1 false :: rows Slot.ty.oc rest) = AV.sl 31001 0 x.b.length 1 false :: rows Slot.ty.oc rest := by
        rw [← List.drop_drop, hd0]; rfl
      refine T.le k1 ?_
      refine run_ok (n := 400) ?_
      simp [h0', h1', h5', k2, hlt, hd0, hd1]
      refine callK.io (b := 31000) (len := x.key.length) (sz := 1) (cs := rows B x.key) rfl (by kernel_rfl) (by simp [upd_app]) (by exact e0) (by simp [B.count]) (idfreeL_rows B.fr _) (by simp [upd_app, h1']) rfl (R36 x.key (k + toL Slot.tot pre) (by omega) (by omega)) (by simp [B.count, mkB_len]) (fltL_rows B.fl _) rfl ?_
      simp [h0', h5', k2, hd0, hd1, hlt]
      refine callK.io (b := 31001) (len := x.b.length) (sz := 1) (cs := rows B x.b) rfl (by kernel_rfl) (by simp [upd_app]) (by simpa [upd_app] using e1) (by simp [B.count]) (idfreeL_rows B.fr _) (by simp [upd_app]) rfl (R36 x.b (k + toL Slot.tot pre + x.key.length) (by omega) (by omega)) (by simp [B.count, mkB_len]) (fltL_rows B.fl _) rfl ?_
      simp [h0', h5', hw]
      refine ⟨pre ++ [x], rest, by simp, ?_⟩
      obtain ⟨h2, m1, m2, m3⟩ := Le.rowPack 100000 (rows Slot.ty.oc rest) (Slot.ty.oc (x.mark (k + toL Slot.tot pre))) 31000 (rows Slot.ty.oc (mkL Slot.mark Slot.tot pre k)) (upd (upd h' 31000 (some (some (rows B (mkB x.key.length (k + toL Slot.tot pre)))))) 31001 (some (some (rows B (mkB x.b.length (k + toL Slot.tot pre + x.key.length))))))
        (by simp [upd_app, k2, Slot.oce, ysOf, Slot.mark, mkB_len]) (Slot.ty.ow _) (fun i cs len sz hi => by
          rcases Slot.ow2 _ hi with ⟨rfl, rfl, rfl, rfl⟩ | ⟨rfl, rfl, rfl, rfl⟩
          · simp [upd_app, Slot.mark]
          · simp [upd_app, Slot.mark]) (by right; rw [Slot.oce]; simp)
      refine ⟨_, Le.trans (m1 _ _) (Le.reset [0, 1, 5] [100000] ?_ ?_), ?_⟩
      · simp [upd_app, menB, idfree, h0']
      · intro b hb cs hcs
        simp at hb
        subst hb
        simp [m2] at hcs
        subst hcs
        intro y hy
        rcases List.mem_append.1 hy with hy | hy
        · exact rows_all (fun x c hc => (Slot.ty.ow x c hc).fr) _ y hy
        · rcases List.mem_append.1 hy with hy | hy
          · exact (Slot.ty.ow _ y hy).fr
          · exact rows_all (fun x c hc => (Slot.ty.ow x c hc).fr) _ y hy
      · simp [hx, upd_app, h0', m2, mkL_app, toL_app, mkL, toL, rows_append, rows_cons, rows_nil, Slot.tot]
        omega
  · intro h
    have e : xs = [] := List.length_eq_zero_iff.1 h
    subst e
    refine Ret.run Tryz.func35 K35 (by simp) rfl rfl 500 ?_
    simp [A35, iniρ]
    refine T.rounds (μ := fun i : Nat => i) (fun i s => s.ρ 0 = .ro [] 0 ∧ s.ρ 1 = .sc (.int .i64 k) ∧ s.ρ 5 = .sc (.int .i64 0) ∧ s.n = 27) 0 (by simp [upd_app]) ?_
    rintro i ⟨ρ, hh, n⟩ ⟨h0', h1', h5', rfl⟩
    simp only at h0' h1' h5'
    refine run_ok (n := 400) ?_
    simp [h0', h5']
    refine T.on 400 ?_
    simp [h1', toL]
/- 38: loop.example/g00464/laws.heldSlotS -/
def A38 : AC := (.seq (.ops [⟨(some 4), none, .q (.mov (.c (.sc (.int .i64 0))))⟩])
  (.seq (.seq (.ops [⟨(some 5), none, .q (.mov (.c (.sc (.int .i64 0))))⟩])
  (.block 0 (.loop (.seq (.seq (.ops [⟨(some 6), none, .q (.mov (.t 5))⟩, ⟨(some 7), none, .q (.mov (.t 0))⟩, ⟨(some 8), none, .q (.llen (.t 7))⟩, ⟨(some 9), none, .q (.bin .lss (.t 6) (.t 8))⟩])
  (.cond (.t 9) .skip
  (.exit 0)))
  (.seq (.block 1 (.seq (.ops [⟨(some 12), none, .q (.mov (.t 0))⟩, ⟨(some 13), none, .q (.mov (.t 5))⟩, ⟨(some 14), none, .q (.iadr 2 (.t 12) (.t 13))⟩, ⟨(some 15), none, .q (.fadr 0 (.t 14))⟩, ⟨(some 16), none, .q (.load false 1 (.t 15))⟩, ⟨(some 17), none, .q (.mov (.t 1))⟩, ⟨(some 18), none, .c (.c (.clo 72 [])) [(.t 16), (.t 17)]⟩, ⟨(some 1), none, .q (.mov (.t 18))⟩])
  (.seq (.seq (.ops [⟨(some 19), none, .q (.mov (.t 1))⟩, ⟨(some 20), none, .q (.bin .lss (.t 19) (.c (.sc (.int .i64 0))))⟩])
  (.cond (.t 20) (.seq (.ops [⟨(some 4), none, .q (.mov (.c (.sc (.int .i64 (-1)))))⟩])
  .ret)
  .skip))
  (.seq (.ops [⟨(some 21), none, .q (.mov (.t 0))⟩, ⟨(some 22), none, .q (.mov (.t 5))⟩, ⟨(some 23), none, .q (.iadr 2 (.t 21) (.t 22))⟩, ⟨(some 24), none, .q (.fadr 1 (.t 23))⟩, ⟨(some 25), none, .q (.load false 1 (.t 24))⟩, ⟨(some 26), none, .q (.mov (.t 1))⟩, ⟨(some 27), none, .c (.c (.clo 72 [])) [(.t 25), (.t 26)]⟩, ⟨(some 1), none, .q (.mov (.t 27))⟩])
  (.seq (.ops [⟨(some 28), none, .q (.mov (.t 1))⟩, ⟨(some 29), none, .q (.bin .lss (.t 28) (.c (.sc (.int .i64 0))))⟩])
  (.cond (.t 29) (.seq (.ops [⟨(some 4), none, .q (.mov (.c (.sc (.int .i64 (-1)))))⟩])
  .ret)
  .skip))))))
  (.ops [⟨(some 10), none, .q (.mov (.t 5))⟩, ⟨(some 11), none, .q (.bin .add (.t 10) (.c (.sc (.int .i64 1))))⟩, ⟨(some 5), none, .q (.mov (.t 11))⟩]))))))
  (.seq (.ops [⟨(some 30), none, .q (.mov (.t 1))⟩, ⟨(some 4), none, .q (.mov (.t 30))⟩])
  .ret)))
theorem K38 : Tryz.f38.body.bind (comp Tryz.prog) = some A38 ∧ Tryz.f38.ntmps = 31 ∧ Tryz.f38.results.toList.mapM (resB Tryz.prog) = some [.mov (.t 4)] := ⟨by kernel_rfl, by kernel_rfl, by kernel_rfl⟩
theorem R38 (xs : List Slot) (k : Int) (hk : 0 ≤ k) (hb : k + toL Slot.tot xs < 4611686018427387904) (hn : xs.length < 4611686018427387904) : Ret Tryz.prog 38 [.ro (rows Slot.ty.cs (mkL Slot.mark Slot.tot xs k)) (mkL Slot.mark Slot.tot xs k).length, .sc (.int .i64 k)] (.sc (.int .i64 (k + toL Slot.tot xs))) [.un, .un] := by
  rw [mkL_len]
  refine Ret.run Tryz.func38 K38 (by simp) rfl rfl 500 ?_
  simp [A38, iniρ]
  obtain ⟨ms, hms⟩ : ∃ ms, ms = mkL Slot.mark Slot.tot xs k := ⟨_, rfl⟩
  rw [← hms]
  refine T.rounds (μ := fun i : List Slot × List Slot => i.2.length)
    (fun i s => i.1 ++ i.2 = xs ∧ s.ρ 0 = .ro (rows Slot.ty.cs ms) xs.length ∧ s.ρ 1 = .sc (.int .i64 (k + toL Slot.tot i.1)) ∧ s.ρ 5 = .sc (.int .i64 i.1.length) ∧ s.h = h0 ∧ s.n = 31) ([], xs) (by simp [upd_app, toL]) ?_
  rintro ⟨pre, rest⟩ ⟨ρ, hh, n⟩ ⟨hx, h0', h1', h5', rfl, rfl⟩
  simp only at hx h0' h1' h5'
  refine run_ok (n := 400) ?_
  cases rest with
  | nil =>
    simp at hx
    subst hx
    simp [h0', h5']
    refine T.on 400 ?_
    simp [h1']
  | cons x rest =>
    have hle : pre.length + (rest.length + 1) = xs.length := by rw [← hx]; simp
    have hlt : (pre.length : Int) < xs.length := by omega
    have hw : IntKind.i64.wrap ((pre.length : Int) + 1) = pre.length + 1 := wrap_i64 (by omega) (by omega)
    have htot : toL Slot.tot xs = toL Slot.tot pre + (x.key.length + x.b.length + toL Slot.tot rest) := by rw [← hx, toL_app]; rfl
    have hd0 : List.drop (pre.length * 2) (rows Slot.ty.cs ms) = AV.ro (rows B (mkB x.key.length (k + toL Slot.tot pre))) x.key.length :: AV.ro (rows B (mkB x.b.length (k + toL Slot.tot pre + x.key.length))) x.b.length :: rows Slot.ty.cs (mkL Slot.mark Slot.tot rest (k + toL Slot.tot pre + Slot.tot x)) := by
      have e := rows_drop Slot.ty.csn (mkL Slot.mark Slot.tot pre k) (mkL Slot.mark Slot.tot (x :: rest) (k + toL Slot.tot pre))
      rw [← mkL_app, hx, mkL_len, ← hms] at e
      have e : List.drop (pre.length * 2) (rows Slot.ty.cs ms) = _ := e
      rw [e, mkL, rows_cons, Slot.cse]
      simp only [Slot.mark, mkB_len]
      rfl
    have hd1 : List.drop (pre.length * 2 + 1) (rows Slot.ty.cs ms) = AV.ro (rows B (mkB x.b.length (k + toL Slot.tot pre + x.key.length))) x.b.length :: rows Slot.ty.cs (mkL Slot.mark Slot.tot rest (k + toL Slot.tot pre + Slot.tot x)) := by
      rw [← List.drop_drop, hd0]; rfl
    have p1 : ¬ (k + (toL Slot.tot pre : Int) + x.key.length < 0) := by omega
    have p2 : ¬ (k + (toL Slot.tot pre : Int) + x.key.length + x.b.length < 0) := by omega
    simp [h0', h1', h5', hlt, hd0]
    refine callK.ro 0 rfl (by kernel_rfl) (by simp [roc_ro, roc_sc, h1']) (R72 x.key.length (k + toL Slot.tot pre) (by omega) (by omega)) rfl rfl rfl ?_
    simp [h0', h5', hlt, hd1, p1]
    refine callK.ro 0 rfl (by kernel_rfl) (by simp [roc_ro, roc_sc]) (R72 x.b.length (k + toL Slot.tot pre + x.key.length) (by omega) (by omega)) rfl rfl rfl ?_
    simp [h0', h5', hw, p2]
    refine ⟨pre ++ [x], rest, by simp, _, Le.refl _, ?_⟩
    simp [hx, upd_app, h0', toL_app, toL, Slot.tot]
    omega
end Go.Proofs.YtaknfalbmblagaaGreatDoor.Am
namespace Go.Proofs.YtaknfalbmblagaaGreatDoor.Am
open Go Go.Proofs
set_option linter.unusedSimpArgs false
set_option linter.unusedVariables false
attribute [local congr] T_congr callK_congr callWK_congr
attribute [local simp] run_nil run_op0 run_opg run_seq run_cond run_block run_ret run_skip run_skip_after run_skip_blk run_exit run_exit_after run_exit_blk run_loop run_any runS_nil runS_op0 runS_opg runW_nil runW_op0 runW_opg exec_q exec_w exec_c exec_n execW_q execW_w execW_c restW_app hideH_app merge_app wblk rest_app restS_app execS_q execS_c aval dOk upd_app ev_t ev_c setO_some setO_none put_mk pinsOf isIo hasIo sbin endR fin resL one outL out1 clo1 cloL coe coeL shut shut.shutL wantA weff cellsOf fillA deref natOf ρ0_app h0_app plain plain.plainL keep_app keepH_app andThen_normal andThen_ret andThen_exit pop_nil pop_after pop_after_ret pop_after_exit pop_blk pop_blk_ret pop_blk_exit nilA srcOf srcCells keepR_app keepHR_app renA rb
theorem Slot.totw (x : Slot) : Slot.tot x ≤ 3 * (1 + Slot.ty.wt x) := by
  rw [Slot.wte]; unfold Slot.tot; omega
end Go.Proofs.YtaknfalbmblagaaGreatDoor.Am
namespace Go.Proofs.YtaknfalbmblagaaGreatDoor.Am
open Go Go.Proofs
set_option linter.unusedSimpArgs false
set_option linter.unusedVariables false
attribute [local congr] T_congr callK_congr callWK_congr
attribute [local simp] run_nil run_op0 run_opg run_seq run_cond run_block run_ret run_skip run_skip_after run_skip_blk run_exit run_exit_after run_exit_blk run_loop run_any runS_nil runS_op0 runS_opg runW_nil runW_op0 runW_opg exec_q exec_w exec_c exec_n execW_q execW_w execW_c restW_app hideH_app merge_app wblk rest_app restS_app execS_q execS_c aval dOk upd_app ev_t ev_c setO_some setO_none put_mk pinsOf isIo hasIo sbin endR fin resL one outL out1 clo1 cloL coe coeL shut shut.shutL wantA weff cellsOf fillA deref natOf ρ0_app h0_app plain plain.plainL keep_app keepH_app andThen_normal andThen_ret andThen_exit pop_nil pop_after pop_after_ret pop_after_exit pop_blk pop_blk_ret pop_blk_exit nilA srcOf srcCells keepR_app keepHR_app renA rb
/- 10: loop.example/g00464/impl.CacheGet -/
/- 11: loop.example/g00464/spec.CacheGet -/
end Go.Proofs.YtaknfalbmblagaaGreatDoor.Am
namespace Go.Proofs.YtaknfalbmblagaaGreatDoor.Am
open Go Go.Proofs
set_option linter.unusedSimpArgs false
set_option linter.unusedVariables false
attribute [local congr] T_congr callK_congr callWK_congr
attribute [local simp] run_nil run_op0 run_opg run_seq run_cond run_block run_ret run_skip run_skip_after run_skip_blk run_exit run_exit_after run_exit_blk run_loop run_any runS_nil runS_op0 runS_opg runW_nil runW_op0 runW_opg exec_q exec_w exec_c exec_n execW_q execW_w execW_c restW_app hideH_app merge_app wblk rest_app restS_app execS_q execS_c aval dOk upd_app ev_t ev_c setO_some setO_none put_mk pinsOf isIo hasIo sbin endR fin resL one outL out1 clo1 cloL coe coeL shut shut.shutL wantA weff cellsOf fillA deref natOf ρ0_app h0_app plain plain.plainL keep_app keepH_app andThen_normal andThen_ret andThen_exit pop_nil pop_after pop_after_ret pop_after_exit pop_blk pop_blk_ret pop_blk_exit nilA srcOf srcCells keepR_app keepHR_app renA rb
/- 60: loop.example/g00464/spec.l18Copy -/
def A60 : AC := (.seq (.ops [⟨(some 2), none, .q (.mov (.c .em))⟩])
  (.seq (.ops [⟨(some 5), none, .w (.bsl 2 0 [] [])⟩, ⟨(some 3), none, .q (.mov (.t 5))⟩])
  (.seq (.seq (.ops [⟨(some 4), none, .q (.mov (.c (.sc (.int .i64 0))))⟩])
  (.block 0 (.loop (.seq (.seq (.ops [⟨(some 6), none, .q (.mov (.t 4))⟩, ⟨(some 7), none, .q (.mov (.t 0))⟩, ⟨(some 8), none, .q (.llen (.t 7))⟩, ⟨(some 9), none, .q (.bin .lss (.t 6) (.t 8))⟩])
  (.cond (.t 9) .skip
  (.exit 0)))
  (.seq (.block 1 (.any [(⟨(some 12), none, .q (.mov (.t 3))⟩, []), (⟨(some 13), none, .w (.bsl 1 0 [] [])⟩, []), (⟨(some 14), none, .q (.mov (.t 0))⟩, []), (⟨(some 15), none, .q (.mov (.t 4))⟩, []), (⟨(some 16), none, .q (.iadr 2 (.t 14) (.t 15))⟩, [2, 3]), (⟨(some 17), none, .q (.fadr 0 (.t 16))⟩, [4]), (⟨(some 18), none, .q (.load false 1 (.t 17))⟩, [5]), (⟨(some 19), none, .w (.app 1 1 false (.t 13) (.t 18))⟩, [1, 6]), (⟨(some 20), none, .w (.bsl 1 0 [] [])⟩, []), (⟨(some 21), none, .q (.mov (.t 0))⟩, []), (⟨(some 22), none, .q (.mov (.t 4))⟩, []), (⟨(some 23), none, .q (.iadr 2 (.t 21) (.t 22))⟩, [9, 10]), (⟨(some 24), none, .q (.fadr 1 (.t 23))⟩, [11]), (⟨(some 25), none, .q (.load false 1 (.t 24))⟩, [12]), (⟨(some 26), none, .w (.app 1 1 false (.t 20) (.t 25))⟩, [8, 13, 7]), (⟨(some 27), none, .w (.build [.em, .em] [(0, 1, (.t 19)), (1, 1, (.t 26))])⟩, [7, 14]), (⟨(some 28), none, .w (.bsl 2 1 [.em, .em] [(0, 2, (.t 27))])⟩, [15]), (⟨(some 29), none, .w (.app 2 48 false (.t 12) (.t 28))⟩, [0, 16, 14]), (⟨(some 3), none, .q (.mov (.t 29))⟩, [17, 17, 0, 1, 2, 3, 4, 5, 6, 7, 8, 9, 10, 11, 12, 13, 14, 15, 16, 17])]))
  (.ops [⟨(some 10), none, .q (.mov (.t 4))⟩, ⟨(some 11), none, .q (.bin .add (.t 10) (.c (.sc (.int .i64 1))))⟩, ⟨(some 4), none, .q (.mov (.t 11))⟩]))))))
  (.seq (.ops [⟨(some 30), none, .q (.mov (.t 3))⟩, ⟨(some 2), none, .q (.mov (.t 30))⟩])
  .ret))))
theorem K60 : Tryz.f60.body.bind (comp Tryz.prog) = some A60 ∧ Tryz.f60.ntmps = 31 ∧ Tryz.f60.results.toList.mapM (resB Tryz.prog) = some [.mov (.t 2)] := ⟨by kernel_rfl, by kernel_rfl, by kernel_rfl⟩
theorem R60 (xs : List Slot) (hx : Slot.ty.slice.ok xs) : Ret Tryz.prog 60 [.ro (rows Slot.ty.cs xs) xs.length] (.own (rows Slot.ty.oc xs) xs.length 2) [.un] := by
  have hb : xs.length * 48 ≤ 140737488351232 := hx.1
  have hs : ∀ x ∈ xs, Slot.ty.ok x := hx.2
  refine Ret.run Tryz.func60 K60 (by simp) rfl rfl 500 ?_
  simp [A60, iniρ]
  refine T.rounds (μ := fun i : List Slot × List Slot => i.2.length)
    (fun i s => i.1 ++ i.2 = xs ∧ s.ρ 0 = .ro (rows Slot.ty.cs xs) xs.length ∧ s.ρ 3 = .sl 5 0 i.1.length 2 false ∧ s.ρ 4 = .sc (.int .i64 i.1.length) ∧ s.h 5 = some (some (rows Slot.ty.oc i.1)) ∧ s.h 13 = none ∧ s.h 19 = none ∧ s.h 20 = none ∧ s.h 26 = none ∧ s.h 28 = none ∧ s.h 29 = none ∧ s.n = 31) ([], xs) (by simp [upd_app, rows_nil]) ?_
  rintro ⟨pre, rest⟩ ⟨ρ, hh, n⟩ ⟨hx, h0', h3', h4', h7', f1, f2, f3, f4, f5, f6, rfl⟩
  simp only at hx h0' h3' h4' h7' f1 f2 f3 f4 f5 f6
  refine run_ok (n := 400) ?_
  cases rest with
  | nil =>
    simp at hx
    subst hx
    simp [h0', h3', h4']
    refine T.on 400 ?_
    simp [h3', h7', ex1, Slot.ocl, Slot.frL]
  | cons x rest =>
    have hle : pre.length + (rest.length + 1) = xs.length := by rw [← hx]; simp
    have hlt : (pre.length : Int) < xs.length := by omega
    have hlt2 : pre.length < xs.length := by omega
    have hxs : Slot.ty.ok x := hs x (by rw [← hx]; simp)
    have hkb : x.key.length ≤ 140737488355328 := by have : x.key.length * 1 ≤ 140737488351232 := hxs.1.1; omega
    have hbb : x.b.length ≤ 140737488355328 := by have : x.b.length * 1 ≤ 140737488351232 := hxs.2.1.1; omega
    have hd := rows_drop Slot.ty.csn pre (x :: rest)
    rw [hx, rows_cons] at hd
    have hd : List.drop (pre.length * 2) (rows Slot.ty.cs xs) = AV.ro (rows B x.key) x.key.length :: AV.ro (rows B x.b) x.b.length :: rows Slot.ty.cs rest := hd
    have hd1 : List.drop (pre.length * 2 + 1) (rows Slot.ty.cs xs) = AV.ro (rows B x.b) x.b.length :: rows Slot.ty.cs rest := by rw [← List.drop_drop, hd]; rfl
    have hw : IntKind.i64.wrap ((pre.length : Int) + 1) = pre.length + 1 := wrap_i64 (by omega) (by omega)
    have hb1 : (pre.length + 1) * 48 ≤ 140737488355328 := by omega
    simp [h0', h3', h4', hlt]
    refine T.textW 400 [([], [13, 19, 20, 26, 28]), ([13], [20]), ([], [13, 20]), ([], [13, 20]), ([], [13, 20]), ([], [13, 20]), ([], [13, 20]), ([13, 19], [20]), ([20], [13, 19]), ([], [13, 19, 20]), ([], [13, 19, 20]), ([], [13, 19, 20]), ([], [13, 19, 20]), ([], [13, 19, 20]), ([20, 26], []), ([], []), ([28], []), ([5, 28, 29], []), ([], [])] mixed (by kernel_rfl) (by kernel_rfl) ?_
    simp [h0', h3', h4', h7', f1, f2, f3, f4, f5, f6, hlt, hlt2, hd, hd1, merge_nil, hideH_nil, B.count, Slot.ocl, over, hkb, hbb, hb1]
    refine ⟨pre ++ [x], rest, by simp, ?_⟩
    refine Le.grow [0, 3, 4] 29 5 [19, 26] (rows Slot.ty.oc pre) (Slot.ty.oc x) rfl (by simp [upd_app, Slot.oce, ysOn]) (Slot.ty.ow x) (rows_all (fun x c hc => (Slot.ty.ow x c hc).fr) _) ?_ (by decide) (by decide) (by simp [upd_app, menB, idfree, h0']) ?_
    · intro i e cs len sz hi hc
      rcases Slot.ow2 _ hc with ⟨rfl, rfl, rfl, rfl⟩ | ⟨rfl, rfl, rfl, rfl⟩ <;> (simp at hi; subst hi; simp [upd_app])
    · simp [hx, upd_app, h0', oneH_app, hw, rows_append, rows_cons, rows_nil]
theorem R58 (xs : List Int) (hb : xs.length ≤ 140737488355328) : Ret Tryz.prog 58 [.ro (rows B xs) xs.length] (.own (rows B xs) xs.length 1) [.un] := Ret.clone Ty.byte rfl (bytes := 1) Tryz.func58 ⟨by kernel_rfl, by kernel_rfl, by kernel_rfl⟩ xs (by omega)
/- 53: loop.example/g00464/impl.copyCache -/
def A53 : AC := (.seq (.ops [⟨(some 2), none, .q (.mov (.c .em))⟩])
  (.seq (.ops [⟨(some 3), none, .q (.mov (.c .em))⟩])
  (.seq (.seq (.ops [⟨(some 6), none, .q (.mov (.t 0))⟩, ⟨(some 7), none, .q (.llen (.t 6))⟩, ⟨(some 8), none, .q (.mov (.c (.sc (.int .i64 0))))⟩])
  (.block 0 (.loop (.seq (.ops [⟨(some 9), none, .q (.bin .lss (.t 8) (.t 7))⟩])
  (.seq (.cond (.t 9) .skip
  (.exit 0))
  (.seq (.block 1 (.seq (.ops [⟨(some 10), none, .q (.iadr 2 (.t 6) (.t 8))⟩, ⟨(some 11), none, .q (.load true 2 (.t 10))⟩, ⟨(some 5), none, .w (.alloc [.em, .em])⟩, ⟨none, none, .w (.store 2 (.t 5) (.t 11))⟩])
  (.any [(⟨(some 12), none, .q (.mov (.t 3))⟩, []), (⟨(some 13), none, .q (.fadr 0 (.t 5))⟩, []), (⟨(some 14), none, .q (.load false 1 (.t 13))⟩, [1]), (⟨(some 15), none, .c (.c (.clo 58 [])) [(.t 14)]⟩, [2]), (⟨(some 16), none, .q (.fadr 1 (.t 5))⟩, []), (⟨(some 17), none, .q (.load false 1 (.t 16))⟩, [4]), (⟨(some 18), none, .c (.c (.clo 58 [])) [(.t 17)]⟩, [5, 3]), (⟨(some 19), none, .w (.build [.em, .em] [(0, 1, (.t 15)), (1, 1, (.t 18))])⟩, [3, 6]), (⟨(some 20), none, .w (.bsl 2 1 [.em, .em] [(0, 2, (.t 19))])⟩, [7]), (⟨(some 21), none, .w (.app 2 48 false (.t 12) (.t 20))⟩, [0, 8, 6]), (⟨(some 3), none, .q (.mov (.t 21))⟩, [9, 9, 0, 1, 2, 3, 4, 5, 6, 7, 8, 9])])))
  (.ops [⟨(some 22), none, .q (.bin .add (.t 8) (.c (.sc (.int .i64 1))))⟩, ⟨(some 8), none, .q (.mov (.t 22))⟩])))))))
  (.seq (.ops [⟨(some 23), none, .q (.mov (.t 3))⟩, ⟨(some 2), none, .q (.mov (.t 23))⟩])
  .ret))))
theorem K53 : Tryz.f53.body.bind (comp Tryz.prog) = some A53 ∧ Tryz.f53.ntmps = 24 ∧ Tryz.f53.results.toList.mapM (resB Tryz.prog) = some [.mov (.t 2)] := ⟨by kernel_rfl, by kernel_rfl, by kernel_rfl⟩
theorem R53 (xs : List Slot) (hx : Slot.ty.slice.ok xs) : Ret Tryz.prog 53 [.ro (rows Slot.ty.cs xs) xs.length] (.own (rows Slot.ty.oc xs) xs.length 2) [.un] := by
  have hb : xs.length * 48 ≤ 140737488351232 := hx.1
  have hs : ∀ x ∈ xs, Slot.ty.ok x := hx.2
  refine Ret.run Tryz.func53 K53 (by simp) rfl rfl 500 ?_
  simp [A53, iniρ]
  refine T.le (Le.lay 3 40 2 (by simp [upd_app]) (by simp)) ?_
  refine T.rounds (μ := fun i : List Slot × List Slot => i.2.length)
    (fun i s => i.1 ++ i.2 = xs ∧ s.ρ 3 = .sl 40 0 i.1.length 2 false ∧ s.ρ 6 = .ro (rows Slot.ty.cs xs) xs.length ∧ s.ρ 7 = .sc (.int .i64 xs.length) ∧ s.ρ 8 = .sc (.int .i64 i.1.length) ∧ s.h 40 = some (some (rows Slot.ty.oc i.1)) ∧ s.h 5 = none ∧ s.h 15 = none ∧ s.h 18 = none ∧ s.h 20 = none ∧ s.h 21 = none ∧ s.n = 24) ([], xs) (by simp [upd_app, rows_nil]) ?_
  rintro ⟨pre, rest⟩ ⟨ρ, hh, n⟩ ⟨hx, h3', h6', h7', h8', h40, f1, f2, f3, f4, f5, rfl⟩
  simp only at hx h3' h6' h7' h8' h40 f1 f2 f3 f4 f5
  refine run_ok (n := 400) ?_
  cases rest with
  | nil =>
    simp at hx
    subst hx
    simp [h7', h8']
    refine T.on 400 ?_
    simp [h3', h40, ex1, Slot.ocl, Slot.frL]
  | cons x rest =>
    have hle : pre.length + (rest.length + 1) = xs.length := by rw [← hx]; simp
    have hlt : (pre.length : Int) < xs.length := by omega
    have hlt2 : pre.length < xs.length := by omega
    have hxs : Slot.ty.ok x := hs x (by rw [← hx]; simp)
    have hkb : x.key.length ≤ 140737488355328 := by have : x.key.length * 1 ≤ 140737488351232 := hxs.1.1; omega
    have hbb : x.b.length ≤ 140737488355328 := by have : x.b.length * 1 ≤ 140737488351232 := hxs.2.1.1; omega
    have hd := rows_drop Slot.ty.csn pre (x :: rest)
    rw [hx, rows_cons] at hd
    have hd : List.drop (pre.length * 2) (rows Slot.ty.cs xs) = AV.ro (rows B x.key) x.key.length :: AV.ro (rows B x.b) x.b.length :: rows Slot.ty.cs rest := hd
    have hw : IntKind.i64.wrap ((pre.length : Int) + 1) = pre.length + 1 := wrap_i64 (by omega) (by omega)
    have hb1 : (pre.length + 1) * 48 ≤ 140737488355328 := by omega
    simp [h3', h6', h7', h8', hlt, hlt2, hd, f1, over]
    refine T.textW 400 [([], [15, 18, 20]), ([], []), ([], []), ([15], []), ([], [15]), ([], [15]), ([18], []), ([], []), ([20], []), ([40, 20, 21], []), ([], [])] mixed (by kernel_rfl) (by kernel_rfl) ?_
    simp [h3', h6', h7', h8', merge_nil, hideH_nil]
    refine callWK.ro 15 rfl (by kernel_rfl) (by simp [roc_ro]) (R58 x.key hkb) (B.flo _) (by simp [inst, upd_app, f2]; exact ⟨rfl, rfl⟩) (by rfl) ?_
    simp [merge_nil, hideH_nil]
    refine callWK.ro 18 rfl (by kernel_rfl) (by simp [roc_ro]) (R58 x.b hbb) (B.flo _) (by simp [inst, upd_app, f3]; exact ⟨rfl, rfl⟩) (by rfl) ?_
    simp [h3', h6', h7', h8', h40, f1, f2, f3, f4, f5, merge_nil, hideH_nil, B.count, Slot.ocl, over, hb1]
    refine ⟨pre ++ [x], rest, by simp, ?_⟩
    refine Le.grow [3, 6, 7, 8] 21 40 [15, 18] (rows Slot.ty.oc pre) (Slot.ty.oc x) rfl (by simp [upd_app, Slot.oce, ysOn]) (Slot.ty.ow x) (rows_all (fun x c hc => (Slot.ty.ow x c hc).fr) _) ?_ (by decide) (by decide) (by simp [upd_app, menB, idfree, h6', h7']) ?_
    · intro i e cs len sz hi hc
      rcases Slot.ow2 _ hc with ⟨rfl, rfl, rfl, rfl⟩ | ⟨rfl, rfl, rfl, rfl⟩ <;> (simp at hi; subst hi; simp [upd_app])
    · simp [hx, upd_app, h6', h7', oneH_app, hw, rows_append, rows_cons, rows_nil]
end Go.Proofs.YtaknfalbmblagaaGreatDoor.Am
namespace Go.Proofs.YtaknfalbmblagaaGreatDoor.Am
open Go Go.Proofs
set_option linter.unusedSimpArgs false
set_option linter.unusedVariables false
attribute [local congr] T_congr callK_congr callWK_congr
attribute [local simp] run_nil run_op0 run_opg run_seq run_cond run_block run_ret run_skip run_skip_after run_skip_blk run_exit run_exit_after run_exit_blk run_loop run_any runS_nil runS_op0 runS_opg runW_nil runW_op0 runW_opg exec_q exec_w exec_c exec_n execW_q execW_w execW_c restW_app hideH_app merge_app wblk rest_app restS_app execS_q execS_c aval dOk upd_app ev_t ev_c setO_some setO_none put_mk pinsOf isIo hasIo sbin endR fin resL one outL out1 clo1 cloL coe coeL shut shut.shutL wantA weff cellsOf fillA deref natOf ρ0_app h0_app plain plain.plainL keep_app keepH_app andThen_normal andThen_ret andThen_exit pop_nil pop_after pop_after_ret pop_after_exit pop_blk pop_blk_ret pop_blk_exit nilA srcOf srcCells keepR_app keepHR_app renA rb
def dropOk : List Slot → List Slot
  | [] => []
  | x :: l => if l.length = 0 ∨ cacheOk (x :: l) = true then x :: l else dropOk l
def slotPut (xs : List Slot) (k : List Int) (m : Made) : List Slot :=
  if madeOk m = true ∧ (putM m).length ≤ 3000 then dropOk ((xs.filter fun s => !bEq s.key k) ++ [⟨k, putM m⟩]) else xs
theorem dropOk_sub : ∀ (l : List Slot), ∃ a, a ++ dropOk l = l
  | [] => ⟨[], rfl⟩
  | x :: l => by
    by_cases h : l.length = 0 ∨ cacheOk (x :: l) = true
    · exact ⟨[], by rw [dropOk, if_pos h]; rfl⟩
    · obtain ⟨a, e⟩ := dropOk_sub l
      exact ⟨x :: a, by rw [dropOk, if_neg h, List.cons_append, e]⟩
theorem rows_all2 {α : Type} {f : α → List AV} {q : AV → Prop} (h : ∀ x, ∀ c ∈ f x, q c) (xs : List α) : ∀ c ∈ rows f xs, q c := by
  intro c hc
  simp only [rows, List.mem_flatten, List.mem_map] at hc
  obtain ⟨_, ⟨x, _, rfl⟩, hc⟩ := hc
  exact h x c hc

/- 56: loop.example/g00464/impl.CachePut$1 -/
def A56 : AC := (.seq (.ops [⟨(some 2), none, .w (.box (.t 0))⟩, ⟨(some 3), none, .q (.mov (.c (.sc (.bool false))))⟩])
  (.seq (.ops [⟨(some 4), none, .q (.fadr 0 (.t 2))⟩, ⟨(some 5), none, .q (.load false 1 (.t 4))⟩, ⟨(some 6), none, .q (.load false 1 (.t 1))⟩, ⟨(some 7), none, .c (.c (.clo 57 [])) [(.t 5), (.t 6)]⟩, ⟨(some 3), none, .q (.mov (.t 7))⟩])
  .ret))
theorem K56 : Tryz.f56.body.bind (comp Tryz.prog) = some A56 ∧ Tryz.f56.ntmps = 8 ∧ Tryz.f56.results.toList.mapM (resB Tryz.prog) = some [.mov (.t 3)] := ⟨by kernel_rfl, by kernel_rfl, by kernel_rfl⟩
theorem R56 (s : Slot) (k : List Int) : Ret Tryz.prog 56 [.agg (Slot.ty.cs s), .rp [.ro (rows B k) k.length] 0] (.sc (.bool (bEq s.key k))) [.un, .un] := by
  refine Ret.run Tryz.func56 K56 (by simp) rfl rfl 500 ?_
  simp [A56, iniρ, Slot.cseB]
  refine callK.ro 7 rfl (by kernel_rfl) (by simp [roc_ro, roc_sc, roc_agg, upd_app]; rfl) (R57 s.key k) rfl rfl rfl ?_
  simp
theorem R55 (g : FuncId) (caps : List AV) (f : Slot → Bool) (hg : callB Tryz.prog g = true) (hsh : shut.shutL caps = true) (xs : List Slot) (hR : ∀ x ∈ xs, Ret Tryz.prog g (.agg (Slot.ty.cs x) :: caps) (.sc (.bool (f x))) (.un :: caps.map fun _ => .un)) (hb : xs.length < 4611686018427387904) :
    Ret Tryz.prog 55 [.own (rows Slot.ty.oc xs) xs.length 2, .clo g caps] (.own (rows Slot.ty.oc (xs.filter fun x => !f x)) (xs.filter fun x => !f x).length 2) [.un, .un] :=
  Ret.deleteFuncO Slot.ty (by decide) (ix := 78) Tryz.func55 ⟨by kernel_rfl, by kernel_rfl, by kernel_rfl⟩ g caps f hg (by kernel_rfl) hsh xs hR (R78 g caps f hg hsh xs hR hb) hb
theorem R59 (xs : List Slot) : Ret Tryz.prog 59 [.own (rows Slot.ty.oc xs) xs.length 2] (.own (rows Slot.ty.oc xs) xs.length 2) [.un] := Ret.clip Slot.ty Tryz.func59 ⟨by kernel_rfl, by kernel_rfl, by kernel_rfl⟩ xs
/- 20: loop.example/g00464/impl.CachePut -/
def A20 : AC := (.seq (.ops [⟨(some 4), none, .w (.box (.t 1))⟩, ⟨(some 5), none, .w (.box (.t 2))⟩, ⟨(some 6), none, .q (.mov (.c .em))⟩])
  (.seq (.ops [⟨(some 9), none, .q (.mov (.t 0))⟩, ⟨(some 10), none, .c (.c (.clo 53 [])) [(.t 9)]⟩, ⟨(some 7), none, .q (.mov (.t 10))⟩])
  (.seq (.ops [⟨(some 11), none, .q (.load true 3 (.t 5))⟩, ⟨(some 12), none, .c (.c (.clo 54 [])) [(.t 11)]⟩, ⟨(some 8), none, .q (.mov (.t 12))⟩])
  (.seq (.seq (.ops [⟨(some 13), none, .q (.load true 3 (.t 5))⟩, ⟨(some 14), none, .c (.c (.clo 16 [])) [(.t 13)]⟩, ⟨(some 15), none, .q (.not (.t 14))⟩, ⟨(some 16), none, .q (.mov (.t 15))⟩, ⟨(some 17), (some (16, false)), .q (.mov (.t 8))⟩, ⟨(some 18), (some (16, false)), .q (.llen (.t 17))⟩, ⟨(some 19), (some (16, false)), .q (.bin .gtr (.t 18) (.c (.sc (.int .i64 3000))))⟩, ⟨(some 20), none, .q (.pick (.t 16) (.c (.sc (.bool true))) (.t 19))⟩])
  (.cond (.t 20) (.seq (.ops [⟨(some 21), none, .q (.mov (.t 7))⟩, ⟨(some 6), none, .q (.mov (.t 21))⟩])
  .ret)
  .skip))
  (.seq (.ops [⟨(some 22), none, .q (.mov (.t 7))⟩, ⟨(some 23), none, .q (.mkf 56 [(.t 4)])⟩, ⟨(some 24), none, .c (.c (.clo 55 [])) [(.t 22), (.t 23)]⟩, ⟨(some 7), none, .q (.mov (.t 24))⟩])
  (.seq (.ops [⟨(some 25), none, .q (.mov (.t 7))⟩, ⟨(some 26), none, .q (.load false 1 (.t 4))⟩, ⟨(some 27), none, .c (.c (.clo 58 [])) [(.t 26)]⟩, ⟨(some 28), none, .q (.mov (.t 8))⟩, ⟨(some 29), none, .w (.build [.em, .em] [(0, 1, (.t 27)), (1, 1, (.t 28))])⟩, ⟨(some 30), none, .w (.bsl 2 1 [.em, .em] [(0, 2, (.t 29))])⟩, ⟨(some 31), none, .w (.app 2 48 false (.t 25) (.t 30))⟩, ⟨(some 7), none, .q (.mov (.t 31))⟩])
  (.seq (.block 0 (.loop (.seq (.seq (.ops [⟨(some 32), none, .q (.mov (.t 7))⟩, ⟨(some 33), none, .q (.llen (.t 32))⟩, ⟨(some 34), none, .q (.bin .gtr (.t 33) (.c (.sc (.int .i64 1))))⟩, ⟨(some 35), none, .q (.mov (.t 34))⟩, ⟨(some 36), (some (35, true)), .q (.mov (.t 7))⟩, ⟨(some 37), (some (35, true)), .c (.c (.clo 13 [])) [(.t 36)]⟩, ⟨(some 38), (some (35, true)), .q (.not (.t 37))⟩, ⟨(some 39), none, .q (.pick (.t 35) (.t 38) (.c (.sc (.bool false))))⟩])
  (.cond (.t 39) .skip
  (.exit 0)))
  (.block 1 (.ops [⟨(some 40), none, .q (.mov (.t 7))⟩, ⟨(some 41), none, .q (.subl 2 (.t 40) (some (.c (.sc (.int .i64 1)))) none)⟩, ⟨(some 7), none, .q (.mov (.t 41))⟩])))))
  (.seq (.ops [⟨(some 42), none, .q (.mov (.t 7))⟩, ⟨(some 43), none, .c (.c (.clo 59 [])) [(.t 42)]⟩, ⟨(some 6), none, .q (.mov (.t 43))⟩])
  .ret))))))))
theorem K20 : Tryz.f20.body.bind (comp Tryz.prog) = some A20 ∧ Tryz.f20.ntmps = 44 ∧ Tryz.f20.results.toList.mapM (resB Tryz.prog) = some [.mov (.t 6)] := ⟨by kernel_rfl, by kernel_rfl, by kernel_rfl⟩
set_option maxHeartbeats 4000000 in
theorem R20 (xs : List Slot) (k : List Int) (m : Made) (hx : Slot.ty.slice.ok xs) (hk : k.length ≤ 140737488355328) (h1 : m.task.size ≤ 1048576) (hn : m.outs.length < 4611686018427387904) (hp : ∀ x ∈ m.outs, x.path.size ≤ 1048576) (hm : mw m ≤ 140737488350000) :
    Ret Tryz.prog 20 [.ro (rows Slot.ty.cs xs) xs.length, .ro (rows B k) k.length, .agg (Made.ty.cs m)] (.own (rows Slot.ty.oc (slotPut xs k m)) (slotPut xs k m).length 2) [.un, .un, .un] := by
  have hb : xs.length * 48 ≤ 140737488351232 := hx.1
  have hb2 : xs.length < 4611686018427387904 := by omega
  have r1 := R53 xs hx
  have r2 := R54 m hn hm
  have r3 := R16 m h1 hn hp
  obtain ⟨pb, hpb⟩ : ∃ pb, pb = putM m := ⟨_, rfl⟩
  rw [← hpb] at r2
  obtain ⟨mo, hmo⟩ : ∃ mo, mo = madeOk m := ⟨_, rfl⟩
  rw [← hmo] at r3
  have hS : slotPut xs k m = if mo = true ∧ pb.length ≤ 3000 then dropOk ((xs.filter fun s => !bEq s.key k) ++ [⟨k, pb⟩]) else xs := by rw [slotPut, hmo, hpb]
  rw [hS]
  refine Ret.run Tryz.func20 K20 (by simp) rfl rfl 500 ?_
  simp [A20, iniρ, Made.cse]
  refine callK.ro 10 rfl (by kernel_rfl) (by simp [roc_ro]) r1 (Slot.ty.flo xs) (by simp [inst, upd_app]; exact ⟨rfl, rfl⟩) rfl ?_
  simp
  refine callK.ro 12 rfl (by kernel_rfl) (by simp [roc_ro, roc_sc, roc_agg, upd_app]; rfl) r2 (B_fl _) (by simp [inst, upd_app]; exact ⟨rfl, rfl⟩) rfl ?_
  simp
  refine callK.ro 14 rfl (by kernel_rfl) (by simp [roc_ro, roc_sc, roc_agg, upd_app]; rfl) r3 rfl rfl rfl ?_
  cases hc : mo
  case false =>
    simp [ex1, Slot.ocl, Slot.frL]
  by_cases hl : pb.length ≤ 3000
  case neg =>
    have hl' : (3000 : Int) < pb.length := by omega
    simp [hl, hl', ex1, Slot.ocl, Slot.frL]
  have hl' : ¬ (3000 : Int) < pb.length := by omega
  have rd := R55 56 [.rp [.ro (rows B k) k.length] 0] (fun s => bEq s.key k) (by kernel_rfl) rfl xs (fun x _ => R56 x k) hb2
  obtain ⟨ys, hys⟩ : ∃ ys, ys = xs.filter fun s => !bEq s.key k := ⟨_, rfl⟩
  have hyl : ys.length ≤ xs.length := by rw [hys]; exact List.length_filter_le _ _
  rw [← hys] at rd
  simp [hl, hl', ← hys]
  refine callK.mv1 24 10 rfl (by kernel_rfl) (by simp [upd_app]) (by simp [upd_app]) (Slot.ocl xs) (Slot.frL xs) (vs := [.clo 56 [.rp [.ro (rows B k) k.length] 0]]) (by simp [roc, upd_app]) rd (Slot.ty.flo _) (by simp [inst, upd_app]; exact ⟨rfl, rfl⟩) rfl ?_
  have hb1 : (ys.length + 1) * 48 ≤ 140737488355328 := by omega
  simp
  refine callK.ro 27 rfl (by kernel_rfl) (by simp [roc_ro, upd_app]) (R58 k hk) (B.flo _) (by simp [inst, upd_app]; exact ⟨rfl, rfl⟩) (by rfl) ?_
  simp [B.count, Slot.ocl, over, hb1]
  have hall : rows Slot.ty.oc (ys ++ [⟨k, pb⟩]) = rows Slot.ty.oc ys ++ Slot.ty.oc ⟨k, pb⟩ := by rw [rows_append, rows_cons, rows_nil, List.append_nil]
  obtain ⟨zs, hzs⟩ : ∃ zs, zs = ys ++ [(⟨k, pb⟩ : Slot)] := ⟨_, rfl⟩
  have hzn : zs.length ≤ xs.length + 1 := by rw [hzs]; simp; omega
  rw [← hzs]
  refine T.roundsL (μ := fun i : List Slot × List Slot => i.2.length)
    (fun i s => i.1 ++ i.2 = zs ∧ 0 < i.2.length ∧ dropOk i.2 = dropOk zs ∧ s.ρ 7 = .sl 31 (i.1.length * 2) i.2.length 2 false ∧ s.h = oneH 31 (rows Slot.ty.oc zs) ∧ s.n = 44) ([], zs) ?_ ?_
  · refine Le.grow [7] 31 31 [27, 12] (rows Slot.ty.oc ys) (Slot.ty.oc ⟨k, pb⟩) rfl (by simp [upd_app, Slot.oce, ysOn]) (Slot.ty.ow _) (rows_all (fun x c hc => (Slot.ty.ow x c hc).fr) _) ?_ (by decide) (by decide) (by simp [upd_app, menB]) ?_
    · intro i e cs len sz hi hc
      rcases Slot.ow2 _ hc with ⟨rfl, rfl, rfl, rfl⟩ | ⟨rfl, rfl, rfl, rfl⟩ <;> (simp at hi; subst hi; simp [upd_app])
    · refine ⟨by simp, by simp [hzs], rfl, ?_, ?_, rfl⟩
      · simp [upd_app, keepR_app, renA, rb, hzs]
      · rw [hzs, hall]
  rintro ⟨pre, rest⟩ ⟨ρ, hh, n⟩ ⟨hx2, hpos, hD, h7', rfl, rfl⟩
  simp only at hx2 hpos hD h7'
  refine run_ok (n := 400) ?_
  cases rest with
  | nil => simp at hpos
  | cons x rest =>
    have hle : pre.length + (rest.length + 1) = zs.length := by rw [← hx2]; simp
    have hroc : roc (oneH 31 (rows Slot.ty.oc zs)) 8 (.sl 31 (pre.length * 2) (rest.length + 1) 2 false) = some (.ro (rows Slot.ty.cs (x :: rest)) (x :: rest).length) := Ty.rocO Slot.ty (xs := x :: rest) (by decide) (pre := rows Slot.ty.oc pre) (by rw [← hx2, rows_append]; simp [oneH_app]) (Slot.ocl pre)
    have hdr : (rows Slot.ty.oc zs).drop (pre.length * 2) = rows Slot.ty.oc (x :: rest) := by rw [← hx2]; exact rows_drop Slot.ty.ocn pre (x :: rest)
    have hof : pre.length * 2 ≤ (rows Slot.ty.oc zs).length := by rw [Slot.ocl]; omega
    have hfr : ∀ c ∈ rows Slot.ty.oc zs, idfree c = true := rows_all (fun x c hc => (Slot.ty.ow x c hc).fr) _
    have rok := R13 (x :: rest) (by simp only [List.length_cons]; omega)
    have rcl := R59 (x :: rest)
    simp only [List.length_cons] at h7' rok hroc rcl
    by_cases hz : rest.length = 0
    · have hz0 : ¬ (1 : Int) < rest.length + 1 := by omega
      have e : dropOk zs = x :: rest := by rw [← hD, dropOk, if_pos (.inl hz)]
      rw [e]
      simp [h7', hz0]
      refine T.le (Le.front (off := pre.length * 2) (len := rest.length + 1) (sz := 2) (lim := false) [] 7 31 (by simp [upd_app, h7']) (by simp [oneH_app]) hof (by simp) hfr) ?_
      rw [hdr]
      refine T.on 400 ?_
      simp [upd_app]
      refine callK.mv1 43 31 rfl (by kernel_rfl) (by simp [upd_app]) (by simp [oneH_app]) (Slot.ocl (x :: rest)) (Slot.frL _) (vs := []) (by simp) rcl (Slot.ty.flo (x :: rest)) (by simp [inst, upd_app, oneH_app]; exact ⟨rfl, rfl⟩) rfl ?_
      simp [ex1, Slot.ocl, Slot.frL]
    · have hz0 : (1 : Int) < rest.length + 1 := by omega
      simp [h7', hz0]
      refine callK.ro 37 rfl (by kernel_rfl) (by simp [hroc]) rok rfl rfl rfl ?_
      cases hco : cacheOk (x :: rest) with
      | true =>
        have e : dropOk zs = x :: rest := by rw [← hD, dropOk, if_pos (.inr hco)]
        rw [e]
        simp [h7']
        refine T.le (Le.front (off := pre.length * 2) (len := rest.length + 1) (sz := 2) (lim := false) [] 7 31 (by simp [upd_app, h7']) (by simp [oneH_app]) hof (by simp) hfr) ?_
        rw [hdr]
        refine T.on 400 ?_
        simp [upd_app]
        refine callK.mv1 43 31 rfl (by kernel_rfl) (by simp [upd_app]) (by simp [oneH_app]) (Slot.ocl (x :: rest)) (Slot.frL _) (vs := []) (by simp) rcl (Slot.ty.flo (x :: rest)) (by simp [inst, upd_app, oneH_app]; exact ⟨rfl, rfl⟩) rfl ?_
        simp [ex1, Slot.ocl, Slot.frL]
      | false =>
        have hno : ¬ (rest.length = 0 ∨ cacheOk (x :: rest) = true) := by rw [hco]; simp [hz]
        have hD2 : dropOk rest = dropOk zs := by rw [← hD, dropOk, if_neg hno]
        simp [h7']
        refine ⟨pre ++ [x], rest, by simp, _, Le.refl _, ?_⟩
        simp [hx2, hD2, upd_app]
        omega
/- 22: loop.example/g00464/spec.CachePut -/
def A22 : AC := (.seq (.ops [⟨(some 5), none, .w (.box (.t 2))⟩, ⟨(some 6), none, .q (.mov (.c .em))⟩])
  (.seq (.ops [⟨(some 11), none, .q (.mov (.t 0))⟩, ⟨(some 12), none, .c (.c (.clo 60 [])) [(.t 11)]⟩, ⟨(some 7), none, .q (.mov (.t 12))⟩])
  (.seq (.ops [⟨(some 13), none, .q (.load true 3 (.t 5))⟩, ⟨(some 14), none, .c (.c (.clo 61 [])) [(.t 13)]⟩, ⟨(some 8), none, .q (.mov (.t 14))⟩])
  (.seq (.seq (.ops [⟨(some 15), none, .q (.load true 3 (.t 5))⟩, ⟨(some 16), none, .c (.c (.clo 48 [])) [(.t 15)]⟩, ⟨(some 17), none, .q (.not (.t 16))⟩, ⟨(some 18), none, .q (.mov (.t 17))⟩, ⟨(some 19), (some (18, false)), .q (.mov (.t 8))⟩, ⟨(some 20), (some (18, false)), .q (.llen (.t 19))⟩, ⟨(some 21), (some (18, false)), .q (.bin .gtr (.t 20) (.c (.sc (.int .i64 3000))))⟩, ⟨(some 22), none, .q (.pick (.t 18) (.c (.sc (.bool true))) (.t 21))⟩])
  (.cond (.t 22) (.seq (.ops [⟨(some 23), none, .q (.mov (.t 7))⟩, ⟨(some 6), none, .q (.mov (.t 23))⟩])
  .ret)
  .skip))
  (.seq (.ops [⟨(some 24), none, .w (.bsl 2 0 [] [])⟩, ⟨(some 9), none, .q (.mov (.t 24))⟩])
  (.seq (.seq (.ops [⟨(some 10), none, .q (.mov (.c (.sc (.int .i64 0))))⟩])
  (.block 0 (.loop (.seq (.seq (.ops [⟨(some 25), none, .q (.mov (.t 10))⟩, ⟨(some 26), none, .q (.mov (.t 7))⟩, ⟨(some 27), none, .q (.llen (.t 26))⟩, ⟨(some 28), none, .q (.bin .lss (.t 25) (.t 27))⟩])
  (.cond (.t 28) .skip
  (.exit 0)))
  (.seq (.block 1 (.seq (.any [(⟨(some 31), none, .q (.mov (.t 7))⟩, []), (⟨(some 32), none, .q (.mov (.t 10))⟩, []), (⟨(some 33), none, .q (.iadr 2 (.t 31) (.t 32))⟩, [0, 1]), (⟨(some 34), none, .q (.fadr 0 (.t 33))⟩, [2]), (⟨(some 35), none, .q (.load false 1 (.t 34))⟩, [3]), (⟨(some 36), none, .q (.bstr (.t 35))⟩, [4]), (⟨(some 37), none, .q (.mov (.t 1))⟩, []), (⟨(some 38), none, .q (.bstr (.t 37))⟩, [6]), (⟨(some 39), none, .q (.bin .neq (.t 36) (.t 38))⟩, [5, 7])])
  (.cond (.t 39) (.ops [⟨(some 40), none, .q (.mov (.t 9))⟩, ⟨(some 41), none, .q (.mov (.t 7))⟩, ⟨(some 42), none, .q (.mov (.t 10))⟩, ⟨(some 43), none, .q (.iadr 2 (.t 41) (.t 42))⟩, ⟨(some 44), none, .q (.load true 2 (.t 43))⟩, ⟨(some 45), none, .w (.bsl 2 1 [.em, .em] [(0, 2, (.t 44))])⟩, ⟨(some 46), none, .w (.app 2 48 false (.t 40) (.t 45))⟩, ⟨(some 9), none, .q (.mov (.t 46))⟩])
  .skip)))
  (.ops [⟨(some 29), none, .q (.mov (.t 10))⟩, ⟨(some 30), none, .q (.bin .add (.t 29) (.c (.sc (.int .i64 1))))⟩, ⟨(some 10), none, .q (.mov (.t 30))⟩]))))))
  (.seq (.ops [⟨(some 47), none, .q (.mov (.t 9))⟩, ⟨(some 48), none, .w (.bsl 1 0 [] [])⟩, ⟨(some 49), none, .q (.mov (.t 1))⟩, ⟨(some 50), none, .w (.app 1 1 false (.t 48) (.t 49))⟩, ⟨(some 51), none, .q (.mov (.t 8))⟩, ⟨(some 52), none, .w (.build [.em, .em] [(0, 1, (.t 50)), (1, 1, (.t 51))])⟩, ⟨(some 53), none, .w (.bsl 2 1 [.em, .em] [(0, 2, (.t 52))])⟩, ⟨(some 54), none, .w (.app 2 48 false (.t 47) (.t 53))⟩, ⟨(some 9), none, .q (.mov (.t 54))⟩])
  (.seq (.block 2 (.loop (.seq (.seq (.ops [⟨(some 55), none, .q (.mov (.t 9))⟩, ⟨(some 56), none, .q (.llen (.t 55))⟩, ⟨(some 57), none, .q (.bin .gtr (.t 56) (.c (.sc (.int .i64 1))))⟩, ⟨(some 58), none, .q (.mov (.t 57))⟩, ⟨(some 59), (some (58, true)), .q (.mov (.t 9))⟩, ⟨(some 60), (some (58, true)), .c (.c (.clo 14 [])) [(.t 59)]⟩, ⟨(some 61), (some (58, true)), .q (.not (.t 60))⟩, ⟨(some 62), none, .q (.pick (.t 58) (.t 61) (.c (.sc (.bool false))))⟩])
  (.cond (.t 62) .skip
  (.exit 2)))
  (.block 3 (.ops [⟨(some 63), none, .w (.bsl 2 0 [] [])⟩, ⟨(some 64), none, .q (.mov (.t 9))⟩, ⟨(some 65), none, .q (.subl 2 (.t 64) (some (.c (.sc (.int .i64 1)))) none)⟩, ⟨(some 66), none, .w (.app 2 48 false (.t 63) (.t 65))⟩, ⟨(some 9), none, .q (.mov (.t 66))⟩])))))
  (.seq (.ops [⟨(some 67), none, .q (.mov (.t 9))⟩, ⟨(some 6), none, .q (.mov (.t 67))⟩])
  .ret)))))))))
theorem K22 : Tryz.f22.body.bind (comp Tryz.prog) = some A22 ∧ Tryz.f22.ntmps = 68 ∧ Tryz.f22.results.toList.mapM (resB Tryz.prog) = some [.mov (.t 6)] := ⟨by kernel_rfl, by kernel_rfl, by kernel_rfl⟩
set_option maxHeartbeats 4000000 in
theorem R22 (xs : List Slot) (k : List Int) (m : Made) (hx : Slot.ty.slice.ok xs) (hk : k.length ≤ 140737488355328) (h1 : m.task.size ≤ 1048576) (hn : m.outs.length < 4611686018427387904) (hp : ∀ x ∈ m.outs, x.path.size ≤ 1048576) (hm : mw m ≤ 140737488350000) :
    Ret Tryz.prog 22 [.ro (rows Slot.ty.cs xs) xs.length, .ro (rows B k) k.length, .agg (Made.ty.cs m)] (.own (rows Slot.ty.oc (slotPut xs k m)) (slotPut xs k m).length 2) [.un, .un, .un] := by
  have hb : xs.length * 48 ≤ 140737488351232 := hx.1
  have hb2 : xs.length < 4611686018427387904 := by omega
  have r1 := R60 xs hx
  have r2 := R61 m hn hm
  have r3 := R48 m h1 hn hp
  obtain ⟨pb, hpb⟩ : ∃ pb, pb = putM m := ⟨_, rfl⟩
  rw [← hpb] at r2
  obtain ⟨mo, hmo⟩ : ∃ mo, mo = madeOk m := ⟨_, rfl⟩
  rw [← hmo] at r3
  have hS : slotPut xs k m = if mo = true ∧ pb.length ≤ 3000 then dropOk ((xs.filter fun s => !bEq s.key k) ++ [⟨k, pb⟩]) else xs := by rw [slotPut, hmo, hpb]
  rw [hS]
  refine Ret.runT Tryz.func22 K22 (by simp) rfl rfl ?_
  refine run_ok (n := 500) ?_
  simp [A22, iniρ, Made.cse, leR_app]
  refine callK.ro 12 rfl (by kernel_rfl) (by simp [roc_ro]) r1 (Slot.ty.flo xs) (by simp [inst, upd_app]; exact ⟨rfl, rfl⟩) rfl ?_
  simp
  refine callK.ro 14 rfl (by kernel_rfl) (by simp [roc_ro, roc_sc, roc_agg, upd_app]; rfl) r2 (B_fl _) (by simp [inst, upd_app]; exact ⟨rfl, rfl⟩) rfl ?_
  simp
  refine callK.ro 16 rfl (by kernel_rfl) (by simp [roc_ro, roc_sc, roc_agg, upd_app]; rfl) r3 rfl rfl rfl ?_
  cases hc : mo
  case false =>
    simp
    refine ⟨_, Le.refl _, ?_⟩
    simp [ex1, Slot.ocl, Slot.frL]
  by_cases hl : pb.length ≤ 3000
  case neg =>
    have hl' : (3000 : Int) < pb.length := by omega
    simp [hl, hl']
    refine ⟨_, Le.refl _, ?_⟩
    simp [ex1, Slot.ocl, Slot.frL]
  have hl' : ¬ (3000 : Int) < pb.length := by omega
  obtain ⟨zs, hzs⟩ : ∃ zs, zs = (xs.filter fun s => !bEq s.key k) ++ [(⟨k, pb⟩ : Slot)] := ⟨_, rfl⟩
  rw [if_pos ⟨rfl, hl⟩, ← hzs]
  simp [hl']
  refine T.rounds (μ := fun i : List Slot × List Slot × List Slot => i.2.1.length)
    (fun i s => i.1 ++ i.2.1 = xs ∧ i.2.2 ++ i.2.1.filter (fun s => !bEq s.key k) = xs.filter (fun s => !bEq s.key k) ∧ i.2.2.length ≤ i.1.length ∧ s.ρ 1 = .ro (rows B k) k.length ∧ s.ρ 7 = .sl 12 0 xs.length 2 false ∧ s.ρ 8 = .sl 14 0 pb.length 1 false ∧ s.ρ 9 = .sl 24 0 i.2.2.length 2 false ∧ s.ρ 10 = .sc (.int .i64 i.1.length) ∧ s.h 12 = some (some (List.replicate (i.1.length * 2) .un ++ rows Slot.ty.oc i.2.1)) ∧ s.h 14 = some (some (rows B pb)) ∧ s.h 24 = some (some (rows Slot.ty.oc i.2.2)) ∧
      s.h 45 = none ∧ s.h 46 = none ∧ s.h 48 = none ∧ s.h 50 = none ∧ s.h 52 = none ∧ s.h 53 = none ∧ s.h 54 = none ∧ s.h 31000 = none ∧ s.h 31001 = none ∧ s.n = 68) ([], xs, []) (by simp [upd_app, rows_nil]) ?_
  rintro ⟨pre, rest, out⟩ ⟨ρ, hh, n⟩ ⟨hx2, hF, hol, k1, k7, k8, k9, k10, b12, b14, b24, f45, f46, f48, f50, f52, f53, f54, f310, f311, rfl⟩
  simp only at hx2 hF hol k1 k7 k8 k9 k10 b12 b14 b24 f45 f46 f48 f50 f52 f53 f54 f310 f311
  have hon : out.length ≤ xs.length := by
    have := congrArg List.length hx2
    simp at this; omega
  cases rest with
  | nil =>
    refine run_ok (n := 400) ?_
    simp at hx2
    subst hx2
    rw [List.filter_nil, List.append_nil] at hF
    rw [← hF] at hzs
    have hb1 : (out.length + 1) * 48 ≤ 140737488355328 := by omega
    simp [k7, k10]
    refine T.on 400 ?_
    simp [k1, k8, k9, b14, b24, f45, f46, f48, f50, f52, f53, f54, B.count, Slot.ocl, over, hb1, hk]
    have hzn : zs.length ≤ pre.length + 1 := by rw [hzs]; simp; omega
    refine T.roundsL (μ := fun i : List Slot => i.length)
      (fun i s => 0 < i.length ∧ i.length ≤ zs.length ∧ dropOk i = dropOk zs ∧ s.ρ 9 = .sl 24 0 i.length 2 false ∧ s.h = oneH 24 (rows Slot.ty.oc i) ∧ s.n = 68) zs ?_ ?_
    · refine Le.grow [9] 54 24 [50, 14] (rows Slot.ty.oc out) (Slot.ty.oc ⟨k, pb⟩) rfl (by simp [upd_app, Slot.oce, ysOn]) (Slot.ty.ow _) (idfreeL_mem (Slot.frL out)) ?_ (by decide) (by decide) (by simp [upd_app, menB]) ?_
      · intro i e cs len sz hi hc
        rcases Slot.ow2 _ hc with ⟨rfl, rfl, rfl, rfl⟩ | ⟨rfl, rfl, rfl, rfl⟩ <;> (simp at hi; subst hi; simp [upd_app, b14])
      · refine ⟨?_, Nat.le_refl _, rfl, ?_, ?_, rfl⟩
        · simp [hzs]
        · simp [upd_app, keepR_app, renA, rb, hzs]
        · rw [hzs, rows_append, rows_cons, rows_nil, List.append_nil]
    rintro rest ⟨ρ, hh, n⟩ ⟨hpos, hrz, hD, h9', rfl, rfl⟩
    simp only at h9'
    cases rest with
    | nil => simp at hpos
    | cons x rest =>
      have hroc : roc (oneH 24 (rows Slot.ty.oc (x :: rest))) 8 (.sl 24 0 (rest.length + 1) 2 false) = some (.ro (rows Slot.ty.cs (x :: rest)) (rest.length + 1)) := Slot.roc8 (xs := x :: rest) (by simp [oneH_app])
      have hl2 : (rows Slot.ty.oc (x :: rest)).length = (rest.length + 1) * 2 := Slot.ocl (x :: rest)
      have hb2 : rest.length * 48 ≤ 140737488355328 := by simp only [List.length_cons] at hrz; omega
      have rok := R14 (x :: rest) (by simp only [List.length_cons] at hrz ⊢; omega)
      simp only [List.length_cons] at h9' rok
      by_cases hz : rest.length = 0
      · have hz0 : ¬ (1 : Int) < rest.length + 1 := by omega
        have e : dropOk zs = x :: rest := by rw [← hD, dropOk, if_pos (.inl hz)]
        rw [e]
        refine run_ok (n := 400) ?_
        simp [h9', hz0]
        refine T.on 400 ?_
        simp [h9', leR_app]
        refine ⟨_, Le.refl _, ?_⟩
        simp [ex1, oneH_app, hl2, Slot.frL]
      · have hz0 : (1 : Int) < rest.length + 1 := by omega
        cases hco : cacheOk (x :: rest) with
        | true =>
          have e : dropOk zs = x :: rest := by rw [← hD, dropOk, if_pos (.inr hco)]
          rw [e]
          refine run_ok (n := 400) ?_
          simp [h9', hz0]
          refine callK.ro 60 rfl (by kernel_rfl) (by simp [hroc]) rok rfl rfl rfl ?_
          simp [h9', hco]
          refine T.on 400 ?_
          simp [h9', leR_app]
          refine ⟨_, Le.refl _, ?_⟩
          simp [ex1, oneH_app, hl2, Slot.frL]
        | false =>
          have hno : ¬ (rest.length = 0 ∨ cacheOk (x :: rest) = true) := by rw [hco]; simp [hz]
          have hD2 : dropOk rest = dropOk zs := by rw [← hD, dropOk, if_neg hno]
          obtain ⟨h', l1, l2, l3, l4, l5⟩ := Le.openAll 24 [] (rows Slot.ty.oc rest) 200000 (Slot.ty.oc x) (oneH 24 (rows Slot.ty.oc (x :: rest))) (by rw [oneH_app, if_pos rfl, rows_cons, List.append_nil]) (rows_all2 Slot.ty.ow rest) (fun i _ => by rw [oneH_app, if_neg (by omega)]) (by omega)
          rw [nm_rows, List.append_nil] at l2
          obtain ⟨ps, hps⟩ : ∃ ps, ps = numb Slot.ty.n 200000 rest := ⟨_, rfl⟩
          rw [← hps] at l2
          have hNB : ∀ p ∈ ps, NB Slot.ty h' p := by rw [hps]; exact NB.of Slot.ty rest 200000 l3
          have hpx : ps.map (·.2) = rest := by rw [hps]; exact numb_map _ _ _
          have hplen : ps.length = rest.length := by rw [← hpx, List.length_map]
          have hf : ∀ b, b ≠ 24 → b < 200000 → h' b = none := fun b h1 h2 => by rw [l4 b h1 (by omega), oneH_app, if_neg h1]
          have f63 := hf 63 (by decide) (by decide)
          have f66 := hf 66 (by decide) (by decide)
          have hroc2 : roc h' 8 (.sl 24 0 (rest.length + 1) 2 false) = some (.ro (rows Slot.ty.cs (x :: rest)) (rest.length + 1)) := by
            refine roc_slM l2 ?_ ?_
            · rw [List.length_append, Slot.ty.ocn, rows_length (nm_len Slot.ty), hplen]
              show 2 + rest.length * 2 = _
              omega
            · rw [List.mapM_append, Slot.ty.rc h' 7 x (by decide), nm_rocs Slot.ty (by decide) ps hNB, hpx]
              rfl
          have hd2 : (Slot.ty.oc x ++ rows (nm Slot.ty) ps).drop 2 = rows (nm Slot.ty) ps := rfl
          have hnl : (rows (nm Slot.ty) ps).length = rest.length * 2 := by rw [rows_length (nm_len Slot.ty), hplen]; rfl
          have htk : (rows (nm Slot.ty) ps).take (rest.length * 2) = rows (nm Slot.ty) ps := by rw [← hnl, List.take_length]
          have hplc : plain.plainL (rows (nm Slot.ty) ps) = true := nm_plains Slot.ty ps
          have hxl2 : (Slot.ty.oc x).length = 2 := rfl
          have hin : 2 + rest.length * 2 ≤ (Slot.ty.oc x ++ rows (nm Slot.ty) ps).length := by rw [List.length_append, hnl, Slot.ty.ocn]; exact Nat.le_refl _
          have hidn : (ids Slot.ty.n ps).Nodup ∧ ∀ b ∈ ids Slot.ty.n ps, 200000 ≤ b := by
            rw [hps, ids_numb]
            exact ⟨List.nodup_range', fun b hb => by rw [List.mem_range'_1] at hb; omega⟩
          refine T.le (l1 _ _) ?_
          refine run_ok (n := 400) ?_
          simp [h9', hz0]
          refine callK.ro 60 rfl (by kernel_rfl) (by simp [hroc2]) rok rfl rfl rfl ?_
          simp [h9', hco, l2, f63, f66, hd2, htk, over, hb2, hplc, hin, hnl, hxl2]
          refine ⟨rest, by simp, ?_⟩
          refine Le.ex ?_
          refine Le.trimPack Slot.ty 66 (rest.length * 2) ps (by simp [upd_app]) htk (fun p hp i cs len sz hi => ?_) hidn.1 (fun h => by have := hidn.2 _ h; omega) (fun h2 e2 => ?_)
          · have hin : i < Slot.ty.n := by have := (List.getElem?_eq_some_iff.1 hi).1; rwa [Slot.ty.ocn] at this
            have hge := hidn.2 _ (ids_mem hin ps hp)
            have e := hNB p hp i cs len sz hi
            simp only [setO_some, St.set, upd_app]
            rw [if_neg (by omega), if_neg (by omega), if_neg (by omega)]
            exact e
          · rw [hpx] at e2
            refine ⟨_, Le.reseat [9] [(66, 24)] (by simp) (by simp [upd_app, menB]) ?_, ?_⟩
            · intro b hb2 cs hcs
              simp at hb2
              subst hb2
              have hcs : h2 66 = some (some cs) := hcs
              rw [e2] at hcs
              obtain rfl : rows Slot.ty.oc rest = cs := by simpa using hcs
              exact idfreeL_mem (Slot.frL rest)
            · simp only [List.length_cons] at hrz
              refine ⟨by omega, by omega, hD2, by simp [upd_app, keepR_app, renA, rb], ?_, rfl⟩
              funext c
              by_cases hc24 : c = 24
              · subst hc24; simp [keepHR_app, e2, oneH_app]
              · have h24' : ¬ 24 = c := fun e => hc24 e.symm
                simp [keepHR_app, oneH_app, hc24, h24']
  | cons x rest =>
    have hle : pre.length + (rest.length + 1) = xs.length := by rw [← hx2]; simp
    have hlt : (pre.length : Int) < xs.length := by omega
    have hlt2 : pre.length < xs.length := by omega
    have hw : IntKind.i64.wrap ((pre.length : Int) + 1) = pre.length + 1 := wrap_i64 (by omega) (by omega)
    have hb1 : (out.length + 1) * 48 ≤ 140737488355328 := by omega
    obtain ⟨h', l1, l2, l3, l4⟩ := Le.openRow (ρ := ρ) (n := 68) 12 (rows Slot.ty.oc rest) (Slot.ty.oc x) 31000 (List.replicate (pre.length * 2) .un) hh (by rw [b12, rows_cons]) (Slot.ty.ow x) (fun i hi => by
      rw [Slot.oce] at hi
      match i with
      | 0 => exact f310
      | 1 => exact f311
      | i + 2 => simp at hi; omega) (by left; decide)
    have e0 := l3 0 _ _ _ (by rw [Slot.oce]; rfl)
    have e1 := l3 1 _ _ _ (by rw [Slot.oce]; rfl)
    simp only [Nat.add_zero] at e0
    have e0 : h' 31000 = some (some (rows B x.key)) := e0
    have e1 : h' 31001 = some (some (rows B x.b)) := e1
    have hxl : (Slot.ty.oc x).length = 2 := rfl
    have q : ∀ b, b ≠ 12 → b < 31000 → h' b = hh b := fun b h1 h2 => l4 b h1 (.inl h2)
    have b14' := (q 14 (by decide) (by decide)).trans b14
    have b24' := (q 24 (by decide) (by decide)).trans b24
    have g45 := (q 45 (by decide) (by decide)).trans f45
    have g46 := (q 46 (by decide) (by decide)).trans f46
    have g48 := (q 48 (by decide) (by decide)).trans f48
    have g50 := (q 50 (by decide) (by decide)).trans f50
    have g52 := (q 52 (by decide) (by decide)).trans f52
    have g53 := (q 53 (by decide) (by decide)).trans f53
    have g54 := (q 54 (by decide) (by decide)).trans f54
    rw [Slot.oce] at l2
    have l2 : h' 12 = some (some (List.replicate (pre.length * 2) .un ++ AV.sl 31000 0 x.key.length 1 false :: AV.sl 31001 0 x.b.length 1 false :: rows Slot.ty.oc rest)) := l2
    have hd0 : List.drop (pre.length * 2) (List.replicate (pre.length * 2) AV.un ++ AV.sl 31000 0 x.key.length 1 false :: AV.sl 31001 0 x.b.length 1 false :: rows Slot.ty.oc rest) = AV.sl 31000 0 x.key.length 1 false :: AV.sl 31001 0 x.b.length 1 false :: rows Slot.ty.oc rest := by
      rw [List.drop_left']
      simp
    have hbt : List.take x.key.length (rows B x.key) = rows B x.key := by rw [← B.count, List.take_length]
    have hrep : List.replicate (pre.length * 2) AV.un ++ (List.replicate 2 AV.un ++ rows Slot.ty.oc rest) = List.replicate ((pre.length + 1) * 2) .un ++ rows Slot.ty.oc rest := by
      rw [← List.append_assoc, List.replicate_append_replicate, Nat.succ_mul]
    have hidu : ∀ y ∈ List.replicate ((pre.length + 1) * 2) AV.un ++ rows Slot.ty.oc rest, idfree y = true := fun y hy => by
      rcases List.mem_append.1 hy with hy | hy
      · rw [(List.mem_replicate.1 hy).2]; rfl
      · exact idfreeL_mem (Slot.frL rest) y hy
    refine T.le l1 ?_
    refine run_ok (n := 400) ?_
    simp [k7, k10, hlt]
    refine T.text 400 mixed (by kernel_rfl) (by kernel_rfl) ?_
    by_cases hq : (strOfNums x.key).toList = (strOfNums k).toList
    · have hq' : bEq x.key k = true := by simp [bEq, hq]
      simp [k1, k7, k10, l2, e0, e1, hlt, hlt2, hd0, bytesA, B.count, B.num, hq, hw, hbt]
      refine ⟨pre ++ [x], rest, by simp, out, ?_⟩
      refine Le.ex ⟨_, Le.blur 12 (List.replicate (pre.length * 2) .un) [AV.sl 31000 0 x.key.length 1 false, AV.sl 31001 0 x.b.length 1 false] (rows Slot.ty.oc rest) (by simp [upd_app, l2]) rfl, ?_⟩
      rw [show ([AV.sl 31000 0 x.key.length 1 false, AV.sl 31001 0 x.b.length 1 false] : List AV).length = 2 from rfl, hrep]
      refine ⟨_, Le.reseat [1, 7, 8, 9, 10] [(12, 12), (14, 14), (24, 24)] (by simp) (by simp [upd_app, menB, idfree, k1, k7, k8, k9]) ?_, ?_⟩
      · intro b hb2 cs hcs
        simp at hb2
        rcases hb2 with rfl | rfl | rfl
        · simp [upd_app] at hcs
          subst hcs
          exact hidu
        · simp [upd_app, b14'] at hcs
          subst hcs
          exact fun x hx => idfreeL_mem (idfreeL_rows B.fr _) x hx
        · simp [upd_app, b24'] at hcs
          subst hcs
          exact idfreeL_mem (Slot.frL out)
      · simp [hx2, upd_app, keepR_app, keepHR_app, renA, rb, k1, k7, k8, k9, b14', b24', ← hF, hq', hw]
        omega
    · have hq' : bEq x.key k = false := by simp [bEq, hq]
      simp [k1, k7, k9, k10, l2, e0, e1, b24', g45, g46, hlt, hlt2, hd0, bytesA, B.count, B.num, hq, hw, Slot.ocl, over, hb1, hbt]
      refine ⟨pre ++ [x], rest, by simp, out ++ [x], ?_⟩
      refine Le.packOnX 46 (Slot.ty.oc x) [31000, 31001] (rows Slot.ty.oc out) rfl (by simp [upd_app, Slot.oce, ysOn]) (Slot.ty.ow _) ?_ (by decide) (by decide) (fun h2 p1 p2 => ?_)
      · intro i d cs len sz hi hc
        rcases Slot.ow2 _ hc with ⟨rfl, rfl, rfl, rfl⟩ | ⟨rfl, rfl, rfl, rfl⟩ <;> (simp at hi; subst hi; simp [upd_app, e0, e1])
      have p12 := p2 12 (by decide) (by decide)
      have p14 := p2 14 (by decide) (by decide)
      simp [upd_app, l2] at p12
      simp [upd_app, b14'] at p14
      refine Le.ex ⟨_, Le.blur 12 (List.replicate (pre.length * 2) .un) [AV.sl 31000 0 x.key.length 1 false, AV.sl 31001 0 x.b.length 1 false] (rows Slot.ty.oc rest) p12 rfl, ?_⟩
      rw [show ([AV.sl 31000 0 x.key.length 1 false, AV.sl 31001 0 x.b.length 1 false] : List AV).length = 2 from rfl, hrep]
      have hox : rows Slot.ty.oc (out ++ [x]) = rows Slot.ty.oc out ++ Slot.ty.oc x := by rw [rows_append, rows_cons, rows_nil, List.append_nil]
      rw [← hox] at p1
      refine ⟨_, Le.reseat [1, 7, 8, 9, 10] [(46, 24), (12, 12), (14, 14)] (by simp) (by simp [upd_app, menB, idfree, k1, k7, k8]) ?_, ?_⟩
      · intro b hb2 cs hcs
        simp at hb2
        rcases hb2 with rfl | rfl | rfl
        · simp [upd_app, p1] at hcs
          subst hcs
          exact idfreeL_mem (Slot.frL (out ++ [x]))
        · simp [upd_app] at hcs
          subst hcs
          exact hidu
        · simp [upd_app, p14] at hcs
          subst hcs
          exact fun x hx => idfreeL_mem (idfreeL_rows B.fr _) x hx
      · simp [hx2, upd_app, keepR_app, keepHR_app, renA, rb, k1, k7, k8, p14, p1, ← hF, hq', hw]
        omega
end Go.Proofs.YtaknfalbmblagaaGreatDoor.Am
namespace Go.Proofs.YtaknfalbmblagaaGreatDoor.Am
open Go Go.Proofs
set_option linter.unusedSimpArgs false
set_option linter.unusedVariables false
attribute [local congr] T_congr callK_congr callWK_congr
attribute [local simp] run_nil run_op0 run_opg run_seq run_cond run_block run_ret run_skip run_skip_after run_skip_blk run_exit run_exit_after run_exit_blk run_loop run_any runS_nil runS_op0 runS_opg runW_nil runW_op0 runW_opg exec_q exec_w exec_c exec_n execW_q execW_w execW_c restW_app hideH_app merge_app wblk rest_app restS_app execS_q execS_c aval dOk upd_app ev_t ev_c setO_some setO_none put_mk pinsOf isIo hasIo sbin endR fin resL one outL out1 clo1 cloL coe coeL shut shut.shutL wantA weff cellsOf fillA deref natOf ρ0_app h0_app plain plain.plainL keep_app keepH_app andThen_normal andThen_ret andThen_exit pop_nil pop_after pop_after_ret pop_after_exit pop_blk pop_blk_ret pop_blk_exit nilA srcOf srcCells keepR_app keepHR_app renA rb
/- 37: loop.example/g00464/laws.markMade -/
def A37 : AC := (.seq (.ops [⟨(some 2), none, .w (.box (.t 0))⟩, ⟨(some 4), none, .q (.mov (.c (.sc (.int .i64 0))))⟩])
  (.seq (.ops [⟨(some 5), none, .q (.fadr 1 (.t 2))⟩, ⟨(some 6), none, .q (.load false 1 (.t 5))⟩, ⟨(some 7), none, .q (.mov (.t 1))⟩, ⟨(some 8), none, .c (.c (.clo 71 [])) [(.t 6), (.t 7)]⟩, ⟨(some 1), none, .q (.mov (.t 8))⟩])
  (.seq (.ops [⟨(some 9), none, .q (.mov (.t 1))⟩, ⟨(some 4), none, .q (.mov (.t 9))⟩])
  .ret)))
theorem K37 : Tryz.f37.body.bind (comp Tryz.prog) = some A37 ∧ Tryz.f37.ntmps = 10 ∧ Tryz.f37.results.toList.mapM (resB Tryz.prog) = some [.mov (.t 4)] := ⟨by kernel_rfl, by kernel_rfl, by kernel_rfl⟩
theorem R37 (m : Made) (k : Int) (hk : 0 < k) (hb : k + (toL File.tot m.outs : Nat) < 4611686018427387904) (hn : m.outs.length < 4611686018427387904) : MRetM Tryz.prog 37 (.string m.task) (.string m.log) (rows File.ty.oc m.outs) m.outs.length 2 (.sc (.int .i64 k)) (.sc (.int .i64 (k + toL File.tot m.outs))) (rows File.ty.oc (mkL File.mark File.tot m.outs k)) := by
  have r := R71 m.outs k hk hb hn
  constructor
  · intro hpos
    refine Ret.run Tryz.func37 K37 (by simp) rfl rfl 500 ?_
    simp [A37, iniρ]
    refine callK.io (b := 100001001) (len := m.outs.length) (sz := 2) (cs := rows File.ty.oc m.outs) rfl (by kernel_rfl) (by simp [upd_app]) (by simp [upd_app]) (rows_length File.ty.ocn _) (File.ty.frL _) (by simp [upd_app]) rfl r (mkrows_len File.ty _ _ _ _) (flrows File.ty _) rfl ?_
    simp [ex1, File.ocl, mkL_len, File.frL, ioPos1, hpos, outC]
  · intro h0
    have r2 := r.2 h0
    refine Ret.run Tryz.func37 K37 (by simp) rfl rfl 500 ?_
    simp [A37, iniρ]
    refine callK.ro 0 rfl (by kernel_rfl) (by simp [roc_ro, roc_sc]) r2 rfl rfl rfl ?_
    simp
end Go.Proofs.YtaknfalbmblagaaGreatDoor.Am
namespace Go.Proofs.YtaknfalbmblagaaGreatDoor.Am
open Go Go.Proofs
set_option linter.unusedSimpArgs false
set_option linter.unusedVariables false
attribute [local congr] T_congr callK_congr callWK_congr
attribute [local simp] run_nil run_op0 run_opg run_seq run_cond run_block run_ret run_skip run_skip_after run_skip_blk run_exit run_exit_after run_exit_blk run_loop run_any runS_nil runS_op0 runS_opg runW_nil runW_op0 runW_opg exec_q exec_w exec_c exec_n execW_q execW_w execW_c restW_app hideH_app merge_app wblk rest_app restS_app execS_q execS_c aval dOk upd_app ev_t ev_c setO_some setO_none put_mk pinsOf isIo hasIo sbin endR fin resL one outL out1 clo1 cloL coe coeL shut shut.shutL wantA weff cellsOf fillA deref natOf ρ0_app h0_app plain plain.plainL keep_app keepH_app andThen_normal andThen_ret andThen_exit pop_nil pop_after pop_after_ret pop_after_exit pop_blk pop_blk_ret pop_blk_exit nilA srcOf srcCells keepR_app keepHR_app renA rb
theorem Slot.rocm {h : Hp} {b n : Nat} {ms : List Slot} {lim : Bool} (hb : h b = some (some (rows Slot.ty.oc ms))) (hl : ms.length = n) : roc h 8 (.sl b 0 n 2 lim) = some (.ro (rows Slot.ty.cs ms) n) := by subst hl; exact Slot.roc8 hb
theorem slotPut_mem {xs : List Slot} {k : List Int} {m : Made} {x : Slot} (h : x ∈ slotPut xs k m) : x ∈ xs ∨ (x = ⟨k, putM m⟩ ∧ (putM m).length ≤ 3000) := by
  unfold slotPut at h
  split at h
  case isFalse => exact .inl h
  case isTrue hc =>
    obtain ⟨a, e⟩ := dropOk_sub ((xs.filter fun s => !bEq s.key k) ++ [⟨k, putM m⟩])
    have h2 : x ∈ (xs.filter fun s => !bEq s.key k) ++ [(⟨k, putM m⟩ : Slot)] := by rw [← e]; exact List.mem_append_right _ h
    rcases List.mem_append.1 h2 with h2 | h2
    · exact .inl (List.mem_filter.1 h2).1
    · exact .inr ⟨by simpa using h2, hc.2⟩
theorem toL_filter (f : Slot → Bool) : ∀ xs : List Slot, toL Slot.tot (xs.filter f) ≤ toL Slot.tot xs
  | [] => Nat.le_refl _
  | x :: xs => by
    have ih := toL_filter f xs
    rw [List.filter_cons]
    split <;> simp only [toL] <;> omega
theorem slotPut_is (xs : List Slot) (k : List Int) (m : Made) (hx : Slot.ty.slice.ok xs) (hxl : xs.length ≤ 2000000) (hk : Ty.byte.slice.ok k) : Slot.ty.slice.ok (slotPut xs k m) ∧ (slotPut xs k m).length ≤ xs.length + 1 ∧ toL Slot.tot (slotPut xs k m) ≤ toL Slot.tot xs + k.length + 3000 := by
  have hlen : (slotPut xs k m).length ≤ xs.length + 1 ∧ toL Slot.tot (slotPut xs k m) ≤ toL Slot.tot xs + k.length + 3000 := by
    unfold slotPut
    split
    case isFalse => exact ⟨by omega, by omega⟩
    case isTrue hc =>
      obtain ⟨a, e⟩ := dropOk_sub ((xs.filter fun s => !bEq s.key k) ++ [⟨k, putM m⟩])
      have h1 := congrArg List.length e
      have h2 := congrArg (toL Slot.tot) e
      have h3 := List.length_filter_le (fun s : Slot => !bEq s.key k) xs
      have h4 := toL_filter (fun s : Slot => !bEq s.key k) xs
      have h5 := hc.2
      rw [toL_app, toL_app] at h2
      simp only [toL, Slot.tot] at h2 h4 ⊢
      simp only [List.length_append, List.length_singleton] at h1
      exact ⟨by omega, by omega⟩
  refine ⟨⟨?_, fun x hm => ?_⟩, hlen.1, hlen.2⟩
  · show (slotPut xs k m).length * 48 ≤ 140737488351232
    have := hlen.1
    omega
  · rcases slotPut_mem hm with hm | ⟨rfl, hl⟩
    · exact hx.2 x hm
    · refine ⟨hk, ⟨?_, putM_byte m⟩, trivial⟩
      show (putM m).length * 1 ≤ 140737488351232
      omega
theorem wtL_memS {α : Type} {wt : α → Nat} : ∀ {l : List α} {x : α}, x ∈ l → wt x ≤ wtL wt l
  | y :: l, x, h => by
    simp only [wtL]
    rcases List.mem_cons.1 h with rfl | h
    · omega
    · have := wtL_memS (wt := wt) h; omega
theorem fw_wt : ∀ l : List File, fw l ≤ wtL File.ty.wt l + 20 * l.length
  | [] => Nat.zero_le _
  | x :: l => by
    have ih := fw_wt l
    have e := File.wte x
    simp only [fw, wtL, List.length_cons]
    omega
end Go.Proofs.YtaknfalbmblagaaGreatDoor.Am
namespace Go.Proofs.YtaknfalbmblagaaGreatDoor.Am
open Go Go.Proofs
set_option linter.unusedSimpArgs false
set_option linter.unusedVariables false
attribute [local congr] T_congr callK_congr callWK_congr
attribute [local simp] run_nil run_op0 run_opg run_seq run_cond run_block run_ret run_skip run_skip_after run_skip_blk run_exit run_exit_after run_exit_blk run_loop run_any runS_nil runS_op0 runS_opg runW_nil runW_op0 runW_opg exec_q exec_w exec_c exec_n execW_q execW_w execW_c restW_app hideH_app merge_app wblk rest_app restS_app execS_q execS_c aval dOk upd_app ev_t ev_c setO_some setO_none put_mk pinsOf isIo hasIo sbin endR fin resL one outL out1 clo1 cloL coe coeL shut shut.shutL wantA weff cellsOf fillA deref natOf ρ0_app h0_app plain plain.plainL keep_app keepH_app andThen_normal andThen_ret andThen_exit pop_nil pop_after pop_after_ret pop_after_exit pop_blk pop_blk_ret pop_blk_exit nilA srcOf srcCells keepR_app keepHR_app renA rb
/- 6: loop.example/g00464/laws.FnExactCachePut -/
def A6 : AC := (.seq (.ops [⟨(some 5), none, .w (.box (.t 2))⟩, ⟨(some 6), none, .q (.mov (.c (.sc (.bool false))))⟩])
  (.seq (.seq (.ops [⟨(some 17), none, .q (.mov (.t 1))⟩, ⟨(some 18), none, .q (.llen (.t 17))⟩, ⟨(some 19), none, .q (.bin .gtr (.t 18) (.c (.sc (.int .i64 1048576))))⟩])
  (.cond (.t 19) (.seq (.ops [⟨(some 6), none, .q (.mov (.c (.sc (.bool true))))⟩])
  .ret)
  .skip))
  (.seq (.ops [⟨(some 7), none, .q (.mov (.c (.sc (.int .i64 1048576))))⟩])
  (.seq (.ops [⟨(some 20), none, .q (.mov (.t 0))⟩, ⟨(some 21), none, .q (.mov (.t 7))⟩, ⟨(some 22), none, .c (.c (.clo 27 [])) [(.t 20), (.t 21)]⟩, ⟨(some 7), none, .q (.mov (.t 22))⟩])
  (.seq (.seq (.ops [⟨(some 23), none, .q (.mov (.t 7))⟩, ⟨(some 24), none, .q (.bin .lss (.t 23) (.c (.sc (.int .i64 0))))⟩])
  (.cond (.t 24) (.seq (.ops [⟨(some 6), none, .q (.mov (.c (.sc (.bool true))))⟩])
  .ret)
  .skip))
  (.seq (.ops [⟨(some 25), none, .q (.load true 3 (.t 5))⟩, ⟨(some 26), none, .q (.mov (.t 7))⟩, ⟨(some 27), none, .c (.c (.clo 28 [])) [(.t 25), (.t 26)]⟩, ⟨(some 7), none, .q (.mov (.t 27))⟩])
  (.seq (.seq (.ops [⟨(some 28), none, .q (.mov (.t 7))⟩, ⟨(some 29), none, .q (.bin .lss (.t 28) (.c (.sc (.int .i64 0))))⟩])
  (.cond (.t 29) (.seq (.ops [⟨(some 6), none, .q (.mov (.c (.sc (.bool true))))⟩])
  .ret)
  .skip))
  (.seq (.any [(⟨(some 30), none, .q (.mov (.t 0))⟩, []), (⟨(some 31), none, .c (.c (.clo 29 [])) [(.t 30)]⟩, [0]), (⟨(some 32), none, .q (.mov (.t 1))⟩, []), (⟨(some 33), none, .c (.c (.clo 30 [])) [(.t 32)]⟩, [2, 1]), (⟨(some 34), none, .q (.load true 3 (.t 5))⟩, []), (⟨(some 35), none, .c (.c (.clo 31 [])) [(.t 34)]⟩, [4, 3]), (⟨(some 36), none, .c (.c (.clo 22 [])) [(.t 31), (.t 33), (.t 35)]⟩, [1, 3, 5, 5]), (⟨(some 8), none, .q (.mov (.t 36))⟩, [6, 6, 0, 1, 2, 3, 4, 5, 6])])
  (.seq (.ops [⟨(some 37), none, .q (.mov (.t 0))⟩, ⟨(some 38), none, .c (.c (.clo 29 [])) [(.t 37)]⟩, ⟨(some 9), none, .q (.mov (.t 38))⟩])
  (.seq (.ops [⟨(some 39), none, .q (.mov (.t 1))⟩, ⟨(some 40), none, .c (.c (.clo 30 [])) [(.t 39)]⟩, ⟨(some 10), none, .q (.mov (.t 40))⟩])
  (.seq (.ops [⟨(some 41), none, .q (.load true 3 (.t 5))⟩, ⟨(some 42), none, .c (.c (.clo 31 [])) [(.t 41)]⟩, ⟨(some 11), none, .w (.alloc [(.sc (.string ⟨#[]⟩)), .em, (.sc (.string ⟨#[]⟩))])⟩, ⟨none, none, .w (.store 3 (.t 11) (.t 42))⟩])
  (.seq (.ops [⟨(some 43), none, .q (.mov (.t 9))⟩, ⟨(some 44), none, .q (.mov (.t 10))⟩, ⟨(some 45), none, .q (.load true 3 (.t 11))⟩, ⟨(some 46), none, .c (.c (.clo 20 [])) [(.t 43), (.t 44), (.t 45)]⟩, ⟨(some 12), none, .q (.mov (.t 46))⟩])
  (.seq (.seq (.ops [⟨(some 47), none, .q (.mov (.t 12))⟩, ⟨(some 48), none, .q (.mov (.t 8))⟩, ⟨(some 49), none, .c (.c (.clo 32 [])) [(.t 47), (.t 48)]⟩, ⟨(some 50), none, .q (.not (.t 49))⟩])
  (.cond (.t 50) (.seq (.ops [⟨(some 6), none, .q (.mov (.c (.sc (.bool false))))⟩])
  .ret)
  .skip))
  (.seq (.seq (.ops [⟨(some 51), none, .q (.mov (.t 9))⟩, ⟨(some 52), none, .q (.mov (.t 0))⟩, ⟨(some 53), none, .c (.c (.clo 29 [])) [(.t 52)]⟩, ⟨(some 54), none, .c (.c (.clo 32 [])) [(.t 51), (.t 53)]⟩, ⟨(some 55), none, .q (.not (.t 54))⟩])
  (.cond (.t 55) (.seq (.ops [⟨(some 6), none, .q (.mov (.c (.sc (.bool false))))⟩])
  .ret)
  .skip))
  (.seq (.seq (.ops [⟨(some 56), none, .q (.mov (.t 10))⟩, ⟨(some 57), none, .q (.mov (.t 1))⟩, ⟨(some 58), none, .c (.c (.clo 30 [])) [(.t 57)]⟩, ⟨(some 59), none, .c (.c (.clo 33 [])) [(.t 56), (.t 58)]⟩, ⟨(some 60), none, .q (.not (.t 59))⟩])
  (.cond (.t 60) (.seq (.ops [⟨(some 6), none, .q (.mov (.c (.sc (.bool false))))⟩])
  .ret)
  .skip))
  (.seq (.seq (.any [(⟨(some 61), none, .q (.load true 3 (.t 11))⟩, []), (⟨(some 62), none, .q (.load true 3 (.t 5))⟩, []), (⟨(some 63), none, .c (.c (.clo 31 [])) [(.t 62)]⟩, [1]), (⟨(some 64), none, .c (.c (.clo 34 [])) [(.t 61), (.t 63)]⟩, [0, 2, 2]), (⟨(some 65), none, .q (.not (.t 64))⟩, [3])])
  (.cond (.t 65) (.seq (.ops [⟨(some 6), none, .q (.mov (.c (.sc (.bool false))))⟩])
  .ret)
  .skip))
  (.seq (.ops [⟨(some 13), none, .q (.mov (.c (.sc (.int .i64 1))))⟩])
  (.seq (.ops [⟨(some 66), none, .q (.mov (.t 9))⟩, ⟨(some 67), none, .q (.mov (.t 13))⟩, ⟨(some 68), none, .c (.c (.clo 35 [])) [(.t 66), (.t 67)]⟩, ⟨(some 13), none, .q (.mov (.t 68))⟩])
  (.seq (.ops [⟨(some 69), none, .q (.mov (.t 10))⟩, ⟨(some 70), none, .q (.mov (.t 13))⟩, ⟨(some 71), none, .c (.c (.clo 36 [])) [(.t 69), (.t 70)]⟩, ⟨(some 13), none, .q (.mov (.t 71))⟩])
  (.seq (.ops [⟨(some 72), none, .q (.load true 3 (.t 11))⟩, ⟨(some 73), none, .q (.mov (.t 13))⟩, ⟨(some 74), none, .c (.c (.clo 37 [])) [(.t 72), (.t 73)]⟩, ⟨(some 13), none, .q (.mov (.t 74))⟩])
  (.seq (.seq (.ops [⟨(some 75), none, .q (.mov (.t 13))⟩, ⟨(some 76), none, .q (.bin .lss (.t 75) (.c (.sc (.int .i64 0))))⟩, ⟨(some 77), none, .q (.mov (.t 76))⟩, ⟨(some 78), (some (77, false)), .q (.mov (.t 12))⟩, ⟨(some 79), (some (77, false)), .q (.mov (.t 8))⟩, ⟨(some 80), (some (77, false)), .c (.c (.clo 32 [])) [(.t 78), (.t 79)]⟩, ⟨(some 81), (some (77, false)), .q (.not (.t 80))⟩, ⟨(some 82), none, .q (.pick (.t 77) (.c (.sc (.bool true))) (.t 81))⟩])
  (.cond (.t 82) (.seq (.ops [⟨(some 6), none, .q (.mov (.c (.sc (.bool false))))⟩])
  .ret)
  .skip))
  (.seq (.ops [⟨(some 14), none, .q (.mov (.c (.sc (.int .i64 1))))⟩])
  (.seq (.ops [⟨(some 83), none, .q (.mov (.t 12))⟩, ⟨(some 84), none, .q (.mov (.t 14))⟩, ⟨(some 85), none, .c (.c (.clo 35 [])) [(.t 83), (.t 84)]⟩, ⟨(some 14), none, .q (.mov (.t 85))⟩])
  (.seq (.ops [⟨(some 15), none, .q (.mov (.c (.sc (.int .i64 1))))⟩])
  (.seq (.ops [⟨(some 86), none, .q (.mov (.t 12))⟩, ⟨(some 87), none, .q (.mov (.t 15))⟩, ⟨(some 88), none, .c (.c (.clo 38 [])) [(.t 86), (.t 87)]⟩, ⟨(some 15), none, .q (.mov (.t 88))⟩])
  (.seq (.seq (.ops [⟨(some 89), none, .q (.mov (.t 15))⟩, ⟨(some 90), none, .q (.bin .lss (.t 89) (.c (.sc (.int .i64 0))))⟩])
  (.cond (.t 90) (.seq (.ops [⟨(some 6), none, .q (.mov (.c (.sc (.bool false))))⟩])
  .ret)
  .skip))
  (.seq (.seq (.ops [⟨(some 91), none, .q (.mov (.t 15))⟩, ⟨(some 92), none, .q (.mov (.t 14))⟩, ⟨(some 93), none, .q (.bin .neq (.t 91) (.t 92))⟩])
  (.cond (.t 93) (.seq (.ops [⟨(some 6), none, .q (.mov (.c (.sc (.bool false))))⟩])
  .ret)
  .skip))
  (.seq (.any [(⟨(some 94), none, .q (.mov (.t 0))⟩, []), (⟨(some 95), none, .c (.c (.clo 29 [])) [(.t 94)]⟩, [0]), (⟨(some 96), none, .q (.mov (.t 1))⟩, []), (⟨(some 97), none, .c (.c (.clo 30 [])) [(.t 96)]⟩, [2, 1]), (⟨(some 98), none, .q (.load true 3 (.t 5))⟩, []), (⟨(some 99), none, .c (.c (.clo 31 [])) [(.t 98)]⟩, [4, 3]), (⟨(some 100), none, .c (.c (.clo 20 [])) [(.t 95), (.t 97), (.t 99)]⟩, [1, 3, 5, 5]), (⟨(some 16), none, .q (.mov (.t 100))⟩, [6, 6, 0, 1, 2, 3, 4, 5, 6])])
  (.seq (.seq (.ops [⟨(some 101), none, .q (.mov (.t 16))⟩, ⟨(some 102), none, .q (.mov (.t 8))⟩, ⟨(some 103), none, .c (.c (.clo 32 [])) [(.t 101), (.t 102)]⟩, ⟨(some 104), none, .q (.not (.t 103))⟩])
  (.cond (.t 104) (.seq (.ops [⟨(some 6), none, .q (.mov (.c (.sc (.bool false))))⟩])
  .ret)
  .skip))
  (.seq (.ops [⟨(some 15), none, .q (.mov (.c (.sc (.int .i64 1))))⟩])
  (.seq (.ops [⟨(some 105), none, .q (.mov (.t 12))⟩, ⟨(some 106), none, .q (.mov (.t 15))⟩, ⟨(some 107), none, .c (.c (.clo 38 [])) [(.t 105), (.t 106)]⟩, ⟨(some 15), none, .q (.mov (.t 107))⟩])
  (.seq (.seq (.ops [⟨(some 108), none, .q (.mov (.t 15))⟩, ⟨(some 109), none, .q (.bin .lss (.t 108) (.c (.sc (.int .i64 0))))⟩])
  (.cond (.t 109) (.seq (.ops [⟨(some 6), none, .q (.mov (.c (.sc (.bool false))))⟩])
  .ret)
  .skip))
  (.seq (.seq (.ops [⟨(some 110), none, .q (.mov (.t 15))⟩, ⟨(some 111), none, .q (.mov (.t 14))⟩, ⟨(some 112), none, .q (.bin .neq (.t 110) (.t 111))⟩])
  (.cond (.t 112) (.seq (.ops [⟨(some 6), none, .q (.mov (.c (.sc (.bool false))))⟩])
  .ret)
  .skip))
  (.seq (.ops [⟨(some 6), none, .q (.mov (.c (.sc (.bool true))))⟩])
  .ret))))))))))))))))))))))))))))))))))
theorem K6 : Tryz.f6.body.bind (comp Tryz.prog) = some A6 ∧ Tryz.f6.ntmps = 113 ∧ Tryz.f6.results.toList.mapM (resB Tryz.prog) = some [.mov (.t 6)] := ⟨by kernel_rfl, by kernel_rfl, by kernel_rfl⟩
set_option maxHeartbeats 8000000 in
set_option maxRecDepth 100000 in
theorem R6 (aL : List Slot) (haL : Slot.ty.slice.ok aL) (aKey : List Int) (haKey : Ty.byte.slice.ok aKey) (aM : Made) (haM : Made.ty.ok aM) : Ret Tryz.prog 6 [.ro (rows Slot.ty.cs aL) aL.length, .ro (rows Ty.byte.cs aKey) aKey.length, .agg (Made.ty.cs aM)] (.sc (.bool true)) [.un, .un, .un] := by
  by_cases gaKey : (1048576 : Int) < aKey.length
  · refine Ret.run Tryz.func6 K6 (by simp) rfl rfl 900 ?_
    simp [A6, iniρ, over, Made.cse, Made.oce, gaKey]
  obtain ⟨m0, e0, q0⟩ := R27 aL haL 1048576 (by omega) (by omega)
  by_cases n0 : m0 < 0
  · refine Ret.run Tryz.func6 K6 (by simp) rfl rfl 900 ?_
    simp [A6, iniρ, over, Made.cse, Made.oce, gaKey, n0]
    refine callK.ro 0 rfl (by kernel_rfl) (by simp [roc_sc, roc_ro, roc_em, roc_agg, Made.cse, Made.oce, gaKey, n0]) q0 rfl rfl rfl ?_
    simp [over, Made.cse, Made.oce, gaKey, n0]
  have e0 := e0.resolve_left n0
  obtain ⟨m1, e1, q1⟩ := R28 aM haM m0 (by omega) (by omega)
  by_cases n1 : m1 < 0
  · refine Ret.run Tryz.func6 K6 (by simp) rfl rfl 900 ?_
    simp [A6, iniρ, over, Made.cse, Made.oce, gaKey, n0, n1]
    refine callK.ro 0 rfl (by kernel_rfl) (by simp [roc_sc, roc_ro, roc_em, roc_agg, Made.cse, Made.oce, gaKey, n0, n1]) q0 rfl rfl rfl ?_
    simp [over, Made.cse, Made.oce, gaKey, n0, n1]
    refine callK.ro 0 rfl (by kernel_rfl) (by simp [roc_sc, roc_ro, roc_em, roc_agg, Made.cse, Made.oce, gaKey, n0, n1]) q1 rfl rfl rfl ?_
    simp [over, Made.cse, Made.oce, gaKey, n0, n1]
  have e1 := e1.resolve_left n1
  have we_x0 : Slot.ty.slice.wt aL = aL.length + wtL Slot.ty.wt aL := rfl
  have tw_x0 := toL_wt Slot.totw aL
  have hn_x0 : aL.length < 4611686018427387904 := Slot.ty.lenb (by decide) haL
  have rk_x0 := R35 aL (1) (by omega) (by omega) hn_x0
  have pk_x0 : ¬ ((1 + (toL Slot.tot aL : Nat) : Int) < 0) := by omega
  have rk_x1 := R36 aKey (1 + (toL Slot.tot aL : Nat)) (by omega) (by omega)
  have pk_x1 : ¬ ((1 + (toL Slot.tot aL : Nat) + (aKey.length : Nat) : Int) < 0) := by omega
  have we_x2 := Made.wte aM
  have tw_x2 := toL_wt File.totw aM.outs
  have hn_x2 : aM.outs.length < 4611686018427387904 := File.ty.lenb (by decide) haM.2.1
  have rk_x2 := R37 aM (1 + (toL Slot.tot aL : Nat) + (aKey.length : Nat)) (by omega) (by omega) (by omega)
  have pk_x2 : ¬ ((1 + (toL Slot.tot aL : Nat) + (aKey.length : Nat) + (toL File.tot aM.outs : Nat) : Int) < 0) := by omega
  have hAx : aL.length ≤ 2000000 := by have := Slot.wte; omega
  have hMt : aM.task.size ≤ 1048576 := by rw [Made.wte] at e1; omega
  have hMl : aM.log.size ≤ 1048576 := by rw [Made.wte] at e1; omega
  have hMf := fw_wt aM.outs
  have hMo : aM.outs.length ≤ 1048576 := by rw [Made.wte] at e1; omega
  have hMp : ∀ x ∈ aM.outs, x.path.size ≤ 1048576 := fun x hx => by
    have := wtL_memS (wt := File.ty.wt) hx
    rw [Made.wte] at e1; rw [File.wte] at this; omega
  have hMw : mw aM ≤ 140737488350000 := by unfold mw; rw [Made.wte] at e1; omega
  obtain ⟨yo, yl, yt⟩ := slotPut_is aL aKey aM haL hAx haKey
  obtain ⟨y, hy⟩ : ∃ y, y = slotPut aL aKey aM := ⟨_, rfl⟩
  have rs : Ret Tryz.prog 22 [.ro (rows Slot.ty.cs aL) aL.length, .ro (rows Ty.byte.cs aKey) aKey.length, .agg (Made.ty.cs aM)] (.own (rows Slot.ty.oc (slotPut aL aKey aM)) (slotPut aL aKey aM).length 2) [.un, .un, .un] := R22 aL aKey aM haL (by omega) hMt (by omega) hMp hMw
  have ri : Ret Tryz.prog 20 [.ro (rows Slot.ty.cs aL) aL.length, .ro (rows Ty.byte.cs aKey) aKey.length, .agg (Made.ty.cs aM)] (.own (rows Slot.ty.oc (slotPut aL aKey aM)) (slotPut aL aKey aM).length 2) [.un, .un, .un] := R20 aL aKey aM haL (by omega) hMt (by omega) hMp hMw
  rw [← hy] at rs ri yo yl yt
  have fR := Slot.ty.flo y
  have re0 := R32 y yo
  have rm0 := R35 y 1 (by omega) (by omega) (by omega)
  have rh0 := R38 y 1 (by omega) (by omega) (by omega)
  rw [mkL_len] at rh0
  have pm : ¬ (1 + (toL Slot.tot y : Int) < 0) := by omega
  have hrm0 : ∀ {h : Hp} {b : Nat} {lim : Bool}, h b = some (some (rows Slot.ty.oc (mkL Slot.mark Slot.tot y 1))) → roc h 8 (.sl b 0 y.length 2 lim) = some (.ro (rows Slot.ty.cs (mkL Slot.mark Slot.tot y 1)) y.length) := fun {h b lim} hb => Slot.rocm hb (mkL_len ..)
  have hro0 : True := trivial
  refine Ret.run Tryz.func6 K6 (by simp) rfl rfl 900 ?_
  simp [A6, iniρ, over, Made.cse, Made.oce, gaKey, n0, n1, pk_x0, pk_x1, pk_x2, pm]
  refine callK.ro 0 rfl (by kernel_rfl) (by simp [roc_sc, roc_ro, roc_em, roc_agg, Made.cse, Made.oce, gaKey, n0, n1, pk_x0, pk_x1, pk_x2, pm]) q0 rfl rfl rfl ?_
  simp [over, merge_nil, hideH_nil, Made.cse, Made.oce, gaKey, n0, n1, pk_x0, pk_x1, pk_x2, pm]
  refine callK.ro 0 rfl (by kernel_rfl) (by simp [roc_sc, roc_ro, roc_em, roc_agg, Made.cse, Made.oce, gaKey, n0, n1, pk_x0, pk_x1, pk_x2, pm]) q1 rfl rfl rfl ?_
  simp [over, merge_nil, hideH_nil, Made.cse, Made.oce, gaKey, n0, n1, pk_x0, pk_x1, pk_x2, pm]
  refine T.textW 400 [([], []), ([603], []), ([], [603]), ([604], []), ([], [603, 604]), ([606001], []), ([606], []), ([], [])] mixed (by kernel_rfl) (by kernel_rfl) ?_
  simp [over, merge_nil, hideH_nil, Made.cse, Made.oce, gaKey, n0, n1, pk_x0, pk_x1, pk_x2, pm]
  refine callWK.ro 603 rfl (by kernel_rfl) (by simp [roc_sc, roc_ro, roc_em, roc_agg, Made.cse, Made.oce, gaKey, n0, n1, pk_x0, pk_x1, pk_x2, pm]) (R29 aL haL) (Slot.ty.flo aL) (by simp [inst, instL, upd_app]; exact ⟨rfl, rfl⟩) (by rfl) ?_
  simp [over, merge_nil, hideH_nil, Made.cse, Made.oce, gaKey, n0, n1, pk_x0, pk_x1, pk_x2, pm]
  refine callWK.ro 604 rfl (by kernel_rfl) (by simp [roc_sc, roc_ro, roc_em, roc_agg, Made.cse, Made.oce, gaKey, n0, n1, pk_x0, pk_x1, pk_x2, pm]) (R30 aKey haKey) (Ty.byte.flo aKey) (by simp [inst, instL, upd_app]; exact ⟨rfl, rfl⟩) (by rfl) ?_
  simp [over, merge_nil, hideH_nil, Made.cse, Made.oce, gaKey, n0, n1, pk_x0, pk_x1, pk_x2, pm]
  refine callWK.ro 605 rfl (by kernel_rfl) (by simp [roc_sc, roc_ro, roc_em, roc_agg, Made.cse, Made.oce, gaKey, n0, n1, pk_x0, pk_x1, pk_x2, pm]) (R31 aM haM) (by simpa [flt] using Made.ty.flL aM) (by simp [inst, instL, Made.oce, upd_app]; exact ⟨rfl, rfl⟩) (by rfl) ?_
  simp [over, merge_nil, hideH_nil, Made.cse, Made.oce, gaKey, n0, n1, pk_x0, pk_x1, pk_x2, pm]
  refine callWK.ro 606 rfl (by kernel_rfl) (by simp [roc_sc, roc_ro, roc_em, roc_agg, Slot.roc8, byte_roc8, roc_agg8, List.mapM_cons, List.mapM_nil, File.roc7, Made.cse, Made.oce, gaKey, n0, n1, pk_x0, pk_x1, pk_x2, pm]) rs fR (by simp [inst, instL, shut, upd_app]; exact ⟨rfl, rfl⟩) (by rfl) ?_
  simp [over, merge_nil, hideH_nil, Made.cse, Made.oce, gaKey, n0, n1, pk_x0, pk_x1, pk_x2, pm]
  refine callK.ro 607 rfl (by kernel_rfl) (by simp [roc_sc, roc_ro, roc_em, roc_agg, Made.cse, Made.oce, gaKey, n0, n1, pk_x0, pk_x1, pk_x2, pm]) (R29 aL haL) (Slot.ty.flo aL) (by simp [inst, instL, upd_app]; exact ⟨rfl, rfl⟩) rfl ?_
  simp [over, merge_nil, hideH_nil, Made.cse, Made.oce, gaKey, n0, n1, pk_x0, pk_x1, pk_x2, pm]
  refine callK.ro 608 rfl (by kernel_rfl) (by simp [roc_sc, roc_ro, roc_em, roc_agg, Made.cse, Made.oce, gaKey, n0, n1, pk_x0, pk_x1, pk_x2, pm]) (R30 aKey haKey) (Ty.byte.flo aKey) (by simp [inst, instL, upd_app]; exact ⟨rfl, rfl⟩) rfl ?_
  simp [over, merge_nil, hideH_nil, Made.cse, Made.oce, gaKey, n0, n1, pk_x0, pk_x1, pk_x2, pm]
  refine callK.ro 609 rfl (by kernel_rfl) (by simp [roc_sc, roc_ro, roc_em, roc_agg, Made.cse, Made.oce, gaKey, n0, n1, pk_x0, pk_x1, pk_x2, pm]) (R31 aM haM) (by simpa [flt] using Made.ty.flL aM) (by simp [inst, instL, Made.oce, upd_app]; exact ⟨rfl, rfl⟩) rfl ?_
  simp [over, merge_nil, hideH_nil, Made.cse, Made.oce, gaKey, n0, n1, pk_x0, pk_x1, pk_x2, pm]
  refine callK.ro 610 rfl (by kernel_rfl) (by simp [roc_sc, roc_ro, roc_em, roc_agg, Slot.roc8, byte_roc8, roc_agg8, List.mapM_cons, List.mapM_nil, File.roc7, Made.cse, Made.oce, gaKey, n0, n1, pk_x0, pk_x1, pk_x2, pm]) ri fR (by simp [inst, instL, shut, upd_app]; exact ⟨rfl, rfl⟩) rfl ?_
  simp [over, merge_nil, hideH_nil, Made.cse, Made.oce, gaKey, n0, n1, pk_x0, pk_x1, pk_x2, pm]
  refine callK.ro 0 rfl (by kernel_rfl) (by simp [roc_sc, roc_ro, roc_em, roc_agg, Slot.roc8, hro0, Made.cse, Made.oce, gaKey, n0, n1, pk_x0, pk_x1, pk_x2, pm]) re0 rfl rfl rfl ?_
  simp [over, merge_nil, hideH_nil, Made.cse, Made.oce, gaKey, n0, n1, pk_x0, pk_x1, pk_x2, pm]
  refine callK.ro 612 rfl (by kernel_rfl) (by simp [roc_sc, roc_ro, roc_em, roc_agg, Made.cse, Made.oce, gaKey, n0, n1, pk_x0, pk_x1, pk_x2, pm]) (R29 aL haL) (Slot.ty.flo aL) (by simp [inst, instL, upd_app]; exact ⟨rfl, rfl⟩) rfl ?_
  simp [over, merge_nil, hideH_nil, Made.cse, Made.oce, gaKey, n0, n1, pk_x0, pk_x1, pk_x2, pm]
  refine callK.ro 0 rfl (by kernel_rfl) (by simp [roc_sc, roc_ro, roc_em, roc_agg, Slot.roc8, Made.cse, Made.oce, gaKey, n0, n1, pk_x0, pk_x1, pk_x2, pm]) (R32 aL haL) rfl rfl rfl ?_
  simp [over, merge_nil, hideH_nil, Made.cse, Made.oce, gaKey, n0, n1, pk_x0, pk_x1, pk_x2, pm]
  refine callK.ro 614 rfl (by kernel_rfl) (by simp [roc_sc, roc_ro, roc_em, roc_agg, Made.cse, Made.oce, gaKey, n0, n1, pk_x0, pk_x1, pk_x2, pm]) (R30 aKey haKey) (Ty.byte.flo aKey) (by simp [inst, instL, upd_app]; exact ⟨rfl, rfl⟩) rfl ?_
  simp [over, merge_nil, hideH_nil, Made.cse, Made.oce, gaKey, n0, n1, pk_x0, pk_x1, pk_x2, pm]
  refine callK.ro 0 rfl (by kernel_rfl) (by simp [roc_sc, roc_ro, roc_em, roc_agg, byte_roc8, Made.cse, Made.oce, gaKey, n0, n1, pk_x0, pk_x1, pk_x2, pm]) (R33 aKey haKey) rfl rfl rfl ?_
  simp [over, merge_nil, hideH_nil, Made.cse, Made.oce, gaKey, n0, n1, pk_x0, pk_x1, pk_x2, pm]
  refine T.textW 400 [([], [617001]), ([], []), ([617001], []), ([], []), ([], [])] mixed (by kernel_rfl) (by kernel_rfl) ?_
  simp [over, merge_nil, hideH_nil, Made.cse, Made.oce, gaKey, n0, n1, pk_x0, pk_x1, pk_x2, pm]
  refine callWK.ro 616 rfl (by kernel_rfl) (by simp [roc_sc, roc_ro, roc_em, roc_agg, Made.cse, Made.oce, gaKey, n0, n1, pk_x0, pk_x1, pk_x2, pm]) (R31 aM haM) (by simpa [flt] using Made.ty.flL aM) (by simp [inst, instL, Made.oce, upd_app]; exact ⟨rfl, rfl⟩) (by rfl) ?_
  simp [over, merge_nil, hideH_nil, Made.cse, Made.oce, gaKey, n0, n1, pk_x0, pk_x1, pk_x2, pm]
  refine callWK.ro 0 rfl (by kernel_rfl) (by simp [roc_sc, roc_ro, roc_em, roc_agg, roc_agg8, List.mapM_cons, List.mapM_nil, File.roc7, Made.cse, Made.oce, gaKey, n0, n1, pk_x0, pk_x1, pk_x2, pm]) (R34 aM haM) rfl rfl (by rfl) ?_
  simp [over, merge_nil, hideH_nil, Made.cse, Made.oce, gaKey, n0, n1, pk_x0, pk_x1, pk_x2, pm]
  refine callK.io (b := 607) (len := aL.length) (sz := 2) (cs := rows Slot.ty.oc aL) rfl (by kernel_rfl) (by simp [upd_app]) (by simp [upd_app]) (rows_length Slot.ty.ocn _) (Slot.ty.frL _) (by simp [upd_app]) rfl rk_x0 (mkrows_len Slot.ty _ _ _ _) (flrows Slot.ty _) rfl ?_
  simp [over, merge_nil, hideH_nil, Made.cse, Made.oce, gaKey, n0, n1, pk_x0, pk_x1, pk_x2, pm]
  refine callK.io (b := 608) (len := aKey.length) (sz := 1) (cs := rows Ty.byte.oc aKey) rfl (by kernel_rfl) (by simp [upd_app]) (by simp [upd_app]) (rows_length Ty.byte.ocn _) (Ty.byte.frL _) (by simp [upd_app]) rfl rk_x1 (by show (rows B _).length = (rows B _).length; rw [B.count, B.count, mkB_len]) (fltL_rows B.fl _) rfl ?_
  simp [over, merge_nil, hideH_nil, Made.cse, Made.oce, gaKey, n0, n1, pk_x0, pk_x1, pk_x2, pm]
  refine callK.ioM (u1 := .string aM.task) (u2 := .string aM.log) (b := 610001) (len := aM.outs.length) (sz := 2) (cs := rows File.ty.oc aM.outs) rfl (by kernel_rfl) (by simp [upd_app]) (by simp [upd_app]) (rows_length File.ty.ocn _) (File.ty.frL _) (by simp [upd_app]) rfl rk_x2 (mkrows_len File.ty _ _ _ _) (flrows File.ty _) rfl ?_
  simp [over, merge_nil, hideH_nil, Made.cse, Made.oce, gaKey, n0, n1, pk_x0, pk_x1, pk_x2, pm]
  refine callK.ro 0 rfl (by kernel_rfl) (by simp [roc_sc, roc_ro, roc_em, roc_agg, Slot.roc8, hro0, Made.cse, Made.oce, gaKey, n0, n1, pk_x0, pk_x1, pk_x2, pm]) re0 rfl rfl rfl ?_
  simp [over, merge_nil, hideH_nil, Made.cse, Made.oce, gaKey, n0, n1, pk_x0, pk_x1, pk_x2, pm]
  refine callK.io (b := 610) (len := y.length) (sz := 2) (cs := rows Slot.ty.oc y) rfl (by kernel_rfl) (by simp [upd_app]) (by simp [upd_app]) (rows_length Slot.ty.ocn _) (Slot.ty.frL _) (by simp [upd_app]) rfl rm0 (mkrows_len Slot.ty _ _ _ _) (flrows Slot.ty _) rfl ?_
  simp [over, merge_nil, hideH_nil, Made.cse, Made.oce, gaKey, n0, n1, pk_x0, pk_x1, pk_x2, pm]
  refine callK.ro 0 rfl (by kernel_rfl) (by simp [roc_sc, roc_ro, roc_em, roc_agg, roc_agg8, List.mapM_cons, List.mapM_nil, hrm0, Made.cse, Made.oce, gaKey, n0, n1, pk_x0, pk_x1, pk_x2, pm]) rh0 rfl rfl rfl ?_
  simp [over, merge_nil, hideH_nil, Made.cse, Made.oce, gaKey, n0, n1, pk_x0, pk_x1, pk_x2, pm]
  refine T.textW 400 [([], []), ([624], []), ([], [624]), ([625], []), ([], [624, 625]), ([627001], []), ([627], []), ([], [])] mixed (by kernel_rfl) (by kernel_rfl) ?_
  simp [over, merge_nil, hideH_nil, Made.cse, Made.oce, gaKey, n0, n1, pk_x0, pk_x1, pk_x2, pm]
  refine callWK.ro 624 rfl (by kernel_rfl) (by simp [roc_sc, roc_ro, roc_em, roc_agg, Made.cse, Made.oce, gaKey, n0, n1, pk_x0, pk_x1, pk_x2, pm]) (R29 aL haL) (Slot.ty.flo aL) (by simp [inst, instL, upd_app]; exact ⟨rfl, rfl⟩) (by rfl) ?_
  simp [over, merge_nil, hideH_nil, Made.cse, Made.oce, gaKey, n0, n1, pk_x0, pk_x1, pk_x2, pm]
  refine callWK.ro 625 rfl (by kernel_rfl) (by simp [roc_sc, roc_ro, roc_em, roc_agg, Made.cse, Made.oce, gaKey, n0, n1, pk_x0, pk_x1, pk_x2, pm]) (R30 aKey haKey) (Ty.byte.flo aKey) (by simp [inst, instL, upd_app]; exact ⟨rfl, rfl⟩) (by rfl) ?_
  simp [over, merge_nil, hideH_nil, Made.cse, Made.oce, gaKey, n0, n1, pk_x0, pk_x1, pk_x2, pm]
  refine callWK.ro 626 rfl (by kernel_rfl) (by simp [roc_sc, roc_ro, roc_em, roc_agg, Made.cse, Made.oce, gaKey, n0, n1, pk_x0, pk_x1, pk_x2, pm]) (R31 aM haM) (by simpa [flt] using Made.ty.flL aM) (by simp [inst, instL, Made.oce, upd_app]; exact ⟨rfl, rfl⟩) (by rfl) ?_
  simp [over, merge_nil, hideH_nil, Made.cse, Made.oce, gaKey, n0, n1, pk_x0, pk_x1, pk_x2, pm]
  refine callWK.ro 627 rfl (by kernel_rfl) (by simp [roc_sc, roc_ro, roc_em, roc_agg, Slot.roc8, byte_roc8, roc_agg8, List.mapM_cons, List.mapM_nil, File.roc7, Made.cse, Made.oce, gaKey, n0, n1, pk_x0, pk_x1, pk_x2, pm]) ri fR (by simp [inst, instL, shut, upd_app]; exact ⟨rfl, rfl⟩) (by rfl) ?_
  simp [over, merge_nil, hideH_nil, Made.cse, Made.oce, gaKey, n0, n1, pk_x0, pk_x1, pk_x2, pm]
  refine callK.ro 0 rfl (by kernel_rfl) (by simp [roc_sc, roc_ro, roc_em, roc_agg, Slot.roc8, hro0, Made.cse, Made.oce, gaKey, n0, n1, pk_x0, pk_x1, pk_x2, pm]) re0 rfl rfl rfl ?_
  simp [over, merge_nil, hideH_nil, Made.cse, Made.oce, gaKey, n0, n1, pk_x0, pk_x1, pk_x2, pm]
  refine callK.ro 0 rfl (by kernel_rfl) (by simp [roc_sc, roc_ro, roc_em, roc_agg, roc_agg8, List.mapM_cons, List.mapM_nil, hrm0, Made.cse, Made.oce, gaKey, n0, n1, pk_x0, pk_x1, pk_x2, pm]) rh0 rfl rfl rfl ?_
  simp [over, merge_nil, hideH_nil, Made.cse, Made.oce, gaKey, n0, n1, pk_x0, pk_x1, pk_x2, pm]
end Go.Proofs.YtaknfalbmblagaaGreatDoor.Am
