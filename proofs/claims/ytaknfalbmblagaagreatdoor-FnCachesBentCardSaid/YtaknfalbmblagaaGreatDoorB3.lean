/- The small machine and the contracts of the functions, part 3 (DrawMades, DrawCache, DrawCache2, LawCachesBent); no condition. -/
import Derived.Test.YtaknfalbmblagaaGreatDoorProg
import Derived.Test.YtaknfalbmblagaaGreatDoorAmZ
import Derived.Test.YtaknfalbmblagaaGreatDoorAmP
import Derived.Test.YtaknfalbmblagaaGreatDoorB1
import Derived.Test.YtaknfalbmblagaaGreatDoorB2
import Derived.KernelRfl
namespace Go.Proofs.YtaknfalbmblagaaGreatDoor.Am
open Go Go.Proofs
set_option linter.unusedSimpArgs false
set_option linter.unusedVariables false
attribute [local congr] T_congr callK_congr callWK_congr
attribute [local simp] run_nil run_op0 run_opg run_seq run_cond run_block run_ret run_skip run_skip_after run_skip_blk run_exit run_exit_after run_exit_blk run_loop run_any runS_nil runS_op0 runS_opg runW_nil runW_op0 runW_opg exec_q exec_w exec_c exec_n execW_q execW_w execW_c restW_app hideH_app merge_app wblk rest_app restS_app execS_q execS_c aval dOk upd_app ev_t ev_c setO_some setO_none put_mk pinsOf isIo hasIo sbin endR fin resL one outL out1 clo1 cloL coe coeL shut shut.shutL wantA weff cellsOf fillA deref natOf ρ0_app h0_app plain plain.plainL keep_app keepH_app andThen_normal andThen_ret andThen_exit pop_nil pop_after pop_after_ret pop_after_exit pop_blk pop_blk_ret pop_blk_exit nilA srcOf srcCells keepR_app keepHR_app renA rb
def doneL : List ByteArray := [⟨#[]⟩, ⟨#[100, 111, 110, 101, 10]⟩, ⟨#[120, 32, 121, 10]⟩]
def opqL : List ByteArray := [⟨#[111]⟩, ⟨#[112]⟩, ⟨#[113]⟩]
def hiTL : List ByteArray := [⟨#[]⟩, ⟨#[104, 105]⟩, ⟨#[104, 101, 108, 108, 111]⟩]
def oneOut (c : Cur) : File := ⟨pickS opqL c 3, pickS hiTL (belowC c 3) 3⟩
def puts : Nat → Cur → List File → List File × Cur
  | 0, c, l => (l, c)
  | n + 1, c, l => puts n (belowC (belowC c 3) 3) (putFile l (oneOut c)).1
def madeP (c : Cur) : List File × Cur := puts (belowV (belowC c 3) 3).toNat (belowC (belowC c 3) 3) []
def madeV (c : Cur) (t : ByteArray) : Made := ⟨t, (madeP c).1, pickS doneL c 3⟩
def madeC (c : Cur) : Cur := (madeP c).2

theorem putFile_len (xs : List File) (f : File) : (putFile xs f).1.length ≤ xs.length + 1 := by
  unfold putFile
  split
  · exact putF_len f xs false
  · exact Nat.le_succ _
theorem putFile_mem (xs : List File) (f : File) : ∀ x ∈ (putFile xs f).1, x = f ∨ x ∈ xs := by
  unfold putFile
  split
  · exact putF_mem f xs false
  · exact fun x h => .inr h
theorem oneOut_size (c : Cur) : (oneOut c).path.size ≤ 5 ∧ (oneOut c).text.size ≤ 5 := ⟨pick_size (by decide) _ _, pick_size (by decide) _ _⟩
/- 91: loop.example/g00464/spec.l15Made -/
def A91 : AC := (.seq (.ops [⟨(some 4), none, .w (.alloc [(.sc (.string ⟨#[]⟩)), .em, (.sc (.string ⟨#[]⟩))])⟩])
  (.seq (.ops [⟨(some 7), none, .q (.mov (.t 1))⟩, ⟨(some 8), none, .q (.mov (.t 0))⟩, ⟨(some 9), none, .w (.bsl 1 3 [(.sc (.string ⟨#[]⟩)), (.sc (.string ⟨#[]⟩)), (.sc (.string ⟨#[]⟩))] [(0, 1, (.c (.sc (.string ⟨#[]⟩)))), (1, 1, (.c (.sc (.string ⟨#[100, 111, 110, 101, 10]⟩)))), (2, 1, (.c (.sc (.string ⟨#[120, 32, 121, 10]⟩))))])⟩, ⟨(some 10), none, .c (.c (.clo 77 [])) [(.t 8), (.t 9)]⟩, ⟨(some 11), none, .w (.build [(.sc (.string ⟨#[]⟩)), .em, (.sc (.string ⟨#[]⟩))] [(0, 1, (.t 7)), (2, 1, (.t 10))])⟩, ⟨(some 5), none, .w (.alloc [(.sc (.string ⟨#[]⟩)), .em, (.sc (.string ⟨#[]⟩))])⟩, ⟨none, none, .w (.store 3 (.t 5) (.t 11))⟩])
  (.seq (.seq (.ops [⟨(some 12), none, .q (.mov (.t 0))⟩, ⟨(some 13), none, .c (.c (.clo 42 [])) [(.t 12), (.c (.sc (.int .i64 3)))]⟩, ⟨(some 6), none, .q (.mov (.t 13))⟩])
  (.block 0 (.loop (.seq (.seq (.ops [⟨(some 14), none, .q (.mov (.t 6))⟩, ⟨(some 15), none, .q (.bin .gtr (.t 14) (.c (.sc (.int .i64 0))))⟩])
  (.cond (.t 15) .skip
  (.exit 0)))
  (.seq (.block 1 (.any [(⟨(some 19), none, .q (.fadr 1 (.t 5))⟩, []), (⟨(some 20), none, .q (.load false 1 (.t 19))⟩, [0]), (⟨(some 21), none, .q (.mov (.t 0))⟩, []), (⟨(some 22), none, .w (.bsl 1 3 [(.sc (.string ⟨#[]⟩)), (.sc (.string ⟨#[]⟩)), (.sc (.string ⟨#[]⟩))] [(0, 1, (.c (.sc (.string ⟨#[111]⟩)))), (1, 1, (.c (.sc (.string ⟨#[112]⟩)))), (2, 1, (.c (.sc (.string ⟨#[113]⟩))))])⟩, []), (⟨(some 23), none, .c (.c (.clo 77 [])) [(.t 21), (.t 22)]⟩, [2, 3]), (⟨(some 24), none, .q (.mov (.t 0))⟩, []), (⟨(some 25), none, .w (.bsl 1 3 [(.sc (.string ⟨#[]⟩)), (.sc (.string ⟨#[]⟩)), (.sc (.string ⟨#[]⟩))] [(0, 1, (.c (.sc (.string ⟨#[]⟩)))), (1, 1, (.c (.sc (.string ⟨#[104, 105]⟩)))), (2, 1, (.c (.sc (.string ⟨#[104, 101, 108, 108, 111]⟩))))])⟩, []), (⟨(some 26), none, .c (.c (.clo 77 [])) [(.t 24), (.t 25)]⟩, [5, 6, 4]), (⟨(some 27), none, .w (.build [(.sc (.string ⟨#[]⟩)), (.sc (.string ⟨#[]⟩))] [(0, 1, (.t 23)), (1, 1, (.t 26))])⟩, [4, 7]), (⟨(some 28), none, .c (.c (.clo 114 [])) [(.t 20), (.t 27)]⟩, [1, 8, 7]), (⟨(some 18), none, .q (.mov (.t 28))⟩, [9]), (⟨(some 29), none, .q (.ext (.t 18) 0)⟩, [10]), (⟨(some 30), none, .q (.ext (.t 18) 1)⟩, [10]), (⟨(some 31), none, .q (.fadr 1 (.t 5))⟩, [0, 1, 2, 3, 4, 5, 6, 7, 8, 9, 10, 11]), (⟨none, none, .w (.store 1 (.t 31) (.t 29))⟩, [13, 11, 9, 0, 1, 2, 3, 4, 5, 6, 7, 8, 9, 10, 11])]))
  (.ops [⟨(some 16), none, .q (.mov (.t 6))⟩, ⟨(some 17), none, .q (.bin .sub (.t 16) (.c (.sc (.int .i64 1))))⟩, ⟨(some 6), none, .q (.mov (.t 17))⟩]))))))
  (.seq (.ops [⟨(some 32), none, .q (.load true 3 (.t 5))⟩, ⟨none, none, .w (.store 3 (.t 4) (.t 32))⟩])
  .ret))))
theorem K91 : Tryz.f91.body.bind (comp Tryz.prog) = some A91 ∧ Tryz.f91.ntmps = 33 ∧ Tryz.f91.results.toList.mapM (resB Tryz.prog) = some [.load true 3 (.t 4)] := ⟨by kernel_rfl, by kernel_rfl, by kernel_rfl⟩
set_option maxHeartbeats 2000000 in
theorem R91 (c : Cur) (hc : c.ok) (t : ByteArray) : Ret Tryz.prog 91 [.bx c.cs, .sc (.string t)] (.agg (Made.ty.oc (madeV c t))) [.bx (madeC c).cs, .un] := by
  have fr : ∀ c : Cur, idfree.idfreeL c.cs = true := fun c => rfl
  have r1 : Ret Tryz.prog 77 [.bx c.cs, .own (rows Ty.str.oc doneL) 3 1] (.sc (.string (pickS doneL c 3))) [.bx (belowC c 3).cs, .un] := R77 c hc doneL (by decide)
  refine Ret.run Tryz.func91 K91 (by simp) rfl rfl 900 ?_
  simp [A91, iniρ, over]
  refine callK.bm 100000 9 (len := 3) (sz := 1) rfl (by kernel_rfl) (by simp [upd_app]) (by simp [upd_app]) (fr c) (by simp [upd_app]) (by simp [upd_app]; rfl) (by rfl) (by rfl) (by decide) r1 rfl rfl ?_
  simp [over]
  refine callK.bx (b := 100000) 0 rfl (by kernel_rfl) (by simp [upd_app]) (by simp [upd_app]) (fr _) (by simp [upd_app]) (by simp) (R42 _ (belowC_ok hc 3) 3) rfl (by rfl) rfl ?_
  obtain ⟨q1, q2⟩ := belowV_rng (belowC c 3) (n := 3) (by omega)
  obtain ⟨m, hm⟩ : ∃ m : Nat, belowV (belowC c 3) 3 = m := ⟨(belowV (belowC c 3) 3).toNat, by omega⟩
  have hP : puts m (belowC (belowC c 3) 3) [] = ((madeV c t).outs, madeC c) := by simp [madeV, madeC, madeP, hm]
  rw [hm] at q2 ⊢
  simp
  refine T.le (Le.layC 5 1 2 (by simp [upd_app]; rfl) rfl) ?_
  refine T.rounds (μ := fun i : Nat × Cur × List File => i.1)
    (fun i s => i.2.1.ok ∧ i.2.2.length + i.1 ≤ 3 ∧ (∀ x ∈ i.2.2, x.path.size ≤ 5 ∧ x.text.size ≤ 5) ∧ puts i.1 i.2.1 i.2.2 = ((madeV c t).outs, madeC c) ∧ s.ρ 0 = .ref 100000 0 ∧ s.ρ 4 = .ref 4 0 ∧ s.ρ 5 = .ref 5 0 ∧ s.ρ 6 = .sc (.int .i64 i.1) ∧ s.h 100000 = some (some i.2.1.cs) ∧
      s.h 4 = some (some [.sc (.string ⟨#[]⟩), .em, .sc (.string ⟨#[]⟩)]) ∧ s.h 5 = some (some [.sc (.string t), .own (rows File.ty.oc i.2.2) i.2.2.length 2, .sc (.string (pickS doneL c 3))]) ∧ s.h 60 = none ∧ s.h 22 = none ∧ s.h 25 = none ∧ s.h 29000 = none ∧ s.n = 33) (m, belowC (belowC c 3) 3, []) (by simp [upd_app, rows_nil, hP, belowC_ok, hc]; omega) ?_
  rintro ⟨j, d, out⟩ ⟨ρ, hh, n⟩ ⟨hd, hj, hs, hE, h0', h4', h5', h6', kc, k4, k5, f1, f2, f3, f4, rfl⟩
  simp only at hd hj hs hE h0' h4' h5' h6' kc k4 k5 f1 f2 f3 f4
  refine T.le (Le.open 5 1 60 k5 rfl f1 (File.frL _)) ?_
  refine run_ok (n := 400) ?_
  cases j with
  | zero =>
    simp only [puts] at hE
    have hE1 : out = (madeV c t).outs := by rw [← (Prod.mk.inj hE).1]
    have hE2 : d = madeC c := (Prod.mk.inj hE).2
    simp [h6']
    refine T.on 400 ?_
    simp [h0', h4', h5', k4, kc, over, ex1, File.ocl, File.frL, fr, ioPos1, Made.oce, hE1, hE2]
    exact ⟨rfl, rfl⟩
  | succ j =>
    have hw : IntKind.i64.wrap (j : Int) = j := wrap_i64 (by omega) (by omega)
    have hpos : (0 : Int) < (j : Int) + 1 := by omega
    have ra : Ret Tryz.prog 77 [.bx d.cs, .own (rows Ty.str.oc opqL) 3 1] (.sc (.string (oneOut d).path)) [.bx (belowC d 3).cs, .un] := R77 d hd opqL (by decide)
    have rb : Ret Tryz.prog 77 [.bx (belowC d 3).cs, .own (rows Ty.str.oc hiTL) 3 1] (.sc (.string (oneOut d).text)) [.bx (belowC (belowC d 3) 3).cs, .un] := R77 _ (belowC_ok hd 3) hiTL (by decide)
    have hok : File.ty.slice.ok out := ⟨show out.length * 32 ≤ 140737488351232 by omega, fun x hx => ⟨show x.path.size ≤ 140737488351232 by have := hs x hx; omega, show x.text.size ≤ 140737488351232 by have := hs x hx; omega, trivial⟩⟩
    have rp := R114 out (oneOut d) hok (fun x hx => by have := hs x hx; omega) (by have := oneOut_size d; omega)
    simp [h6', hpos]
    refine T.textW 400 [([], [22, 25, 100000]), ([], [22, 25, 100000]), ([], [22, 25]), ([22], [25]), ([100000, 22], [25]), ([], [22, 25, 100000]), ([25], [22, 100000]), ([100000, 25], []), ([], []), ([29000], []), ([], []), ([], []), ([], [5]), ([], []), ([5], [])] mixed (by kernel_rfl) (by kernel_rfl) ?_
    simp [h0', h5', f2, f3, over]
    refine callWK.bm 100000 22 (len := 3) (sz := 1) rfl (by kernel_rfl) (by simp [upd_app, h0']) (by simp [upd_app, kc]) (fr d) (by simp [upd_app]) (by simp [upd_app]; rfl) (by rfl) (by rfl) (by decide) ra rfl (by decide) ?_
    simp [h0', h5', f2, f3, over, merge_nil, hideH_nil]
    refine callWK.bm 100000 25 (len := 3) (sz := 1) rfl (by kernel_rfl) (by simp [upd_app, h0']) (by simp [upd_app, kc]) (fr _) (by simp [upd_app]) (by simp [upd_app]; rfl) (by rfl) (by rfl) (by decide) rb rfl (by decide) ?_
    simp [h0', h5', f2, f3, over, merge_nil, hideH_nil]
    refine callWK.ro 28 rfl (by kernel_rfl) (by simp [roc_agg, File.roc8, File.cse, upd_app]) rp (by simpa [flt, flt.fltL] using fltL_of (rows_all (q := flt) (fun x c hc => (File.ty.ow x c hc).fl) _)) (by simp [inst, instL, upd_app, f4]; exact ⟨rfl, rfl⟩) (by rfl) ?_
    simp [h0', h5', h6', f2, f3, f4, over, merge_nil, hideH_nil, hw]
    refine ⟨j, by omega, belowC (belowC d 3) 3, (putFile out (oneOut d)).1, _, Le.trans (Le.pack 5 1 (i := 29000) (len := (putFile out (oneOut d)).1.length) (sz := 2) (cs' := rows File.ty.oc (putFile out (oneOut d)).1) (by simp [upd_app, merge_app]; rfl) (by rfl) (by simp [upd_app, merge_app]) (by decide) (by simp [File.ocl]) (File.frL _)) (Le.reseat [0, 4, 5, 6] [(100000, 100000), (4, 4), (5, 5)] (by simp) (by simp [upd_app, menB, idfree, h0', h4', h5']) ?_), ?_⟩
    · intro b hb cs hcs
      simp at hb
      rcases hb with rfl | rfl | rfl
      · simp [upd_app, merge_app] at hcs
        subst hcs
        intro y hy
        simp [Cur.cs] at hy
        rcases hy with rfl | rfl | rfl <;> rfl
      · simp [upd_app, merge_app, hideH_app, k4] at hcs
        subst hcs
        simp [idfree]
      · simp [upd_app, merge_app] at hcs
        subst hcs
        have hf := File.frL (putFile out (oneOut d)).1
        simp [idfree, hf]
    · have hl := putFile_len out (oneOut d)
      have hz := oneOut_size d
      simp [upd_app, merge_app, hideH_app, h0', h4', h5', k4, belowC_ok, hd]
      refine ⟨by omega, fun x hx => (putFile_mem out (oneOut d) x hx).elim (fun e => e ▸ hz) (hs x), hE⟩
theorem puts_ok : ∀ (n : Nat) (c : Cur) (l : List File), c.ok → (∀ x ∈ l, x.path.size ≤ 5 ∧ x.text.size ≤ 5) → (puts n c l).2.ok ∧ (puts n c l).1.length ≤ l.length + n ∧ ∀ x ∈ (puts n c l).1, x.path.size ≤ 5 ∧ x.text.size ≤ 5
  | 0, c, l, hc, h => ⟨hc, Nat.le_refl _, h⟩
  | n + 1, c, l, hc, h => by
    have hl := putFile_len l (oneOut c)
    obtain ⟨h1, h2, h3⟩ := puts_ok n (belowC (belowC c 3) 3) (putFile l (oneOut c)).1 (belowC_ok (belowC_ok hc 3) 3) (fun x hx => (putFile_mem l (oneOut c) x hx).elim (fun e => e ▸ oneOut_size c) (h x))
    exact ⟨h1, Nat.le_trans h2 (by omega), h3⟩
theorem madeP_ok {c : Cur} (hc : c.ok) : (madeC c).ok ∧ (madeP c).1.length ≤ 2 ∧ ∀ x ∈ (madeP c).1, x.path.size ≤ 5 ∧ x.text.size ≤ 5 := by
  obtain ⟨q1, q2⟩ := belowV_rng (belowC c 3) (n := 3) (by omega)
  obtain ⟨h1, h2, h3⟩ := puts_ok (belowV (belowC c 3) 3).toNat (belowC (belowC c 3) 3) [] (belowC_ok (belowC_ok hc 3) 3) (by simp)
  refine ⟨h1, Nat.le_trans h2 ?_, h3⟩
  simp only [List.length_nil]
  omega
def abxL : List ByteArray := [⟨#[97, 35, 98, 117, 105, 108, 100]⟩, ⟨#[98, 35, 116, 101, 115, 116]⟩, ⟨#[120]⟩, ⟨#[]⟩]
def abzL : List ByteArray := [⟨#[97, 47, 98]⟩, ⟨#[]⟩, ⟨#[97]⟩, ⟨#[122, 122]⟩]
def zF (i : Nat) : File := ⟨⟨#[122]⟩ ++ numT i, ⟨#[]⟩⟩
def zFs : Nat → List File
  | 0 => []
  | n + 1 => zFs n ++ [zF n]
def anyP (c : Cur) : Made × Cur :=
  let t := pickS abxL c 4
  let m := madeV (belowC c 4) t
  let c2 := madeC (belowC c 4)
  let c3 := belowC c2 8
  if belowV c2 8 = 0 then (⟨m.task, m.outs ++ [⟨pickS abzL c3 4, ⟨#[]⟩⟩], m.log⟩, belowC c3 4)
  else if belowV c2 8 = 1 then (⟨m.task, m.outs, strOfNums (List.replicate (200 + belowV c3 2).toNat 0)⟩, belowC c3 2)
  else if belowV c2 8 = 2 then (⟨m.task, m.outs ++ zFs 6, m.log⟩, c3)
  else (m, c3)
/- 52: loop.example/g00464/spec.l17Any -/
end Go.Proofs.YtaknfalbmblagaaGreatDoor.Am
namespace Go.Proofs.YtaknfalbmblagaaGreatDoor.Am
open Go Go.Proofs
set_option linter.unusedSimpArgs false
set_option linter.unusedVariables false
attribute [local congr] T_congr callK_congr callWK_congr
attribute [local simp] run_nil run_op0 run_opg run_seq run_cond run_block run_ret run_skip run_skip_after run_skip_blk run_exit run_exit_after run_exit_blk run_loop run_any runS_nil runS_op0 runS_opg runW_nil runW_op0 runW_opg exec_q exec_w exec_c exec_n execW_q execW_w execW_c restW_app hideH_app merge_app wblk rest_app restS_app execS_q execS_c aval dOk upd_app ev_t ev_c setO_some setO_none put_mk pinsOf isIo hasIo sbin endR fin resL one outL out1 clo1 cloL coe coeL shut shut.shutL wantA weff cellsOf fillA deref natOf ρ0_app h0_app plain plain.plainL keep_app keepH_app andThen_normal andThen_ret andThen_exit pop_nil pop_after pop_after_ret pop_after_exit pop_blk pop_blk_ret pop_blk_exit nilA srcOf srcCells keepR_app keepHR_app renA rb
def keyL : List ByteArray := [⟨#[]⟩, ⟨#[107]⟩, ⟨#[107, 49]⟩, ⟨#[107, 50]⟩, ⟨#[107, 51]⟩, ⟨#[107, 52]⟩]
def keyV (c : Cur) : List Int := sB (pickS keyL c 6)
theorem keyV_len (c : Cur) : (keyV c).length ≤ 2 := by rw [keyV, sB_len]; exact pick_size (by decide) c 6
theorem keyV_ok (c : Cur) : Ty.byte.slice.ok (keyV c) := ⟨by show (keyV c).length * 1 ≤ 140737488351232; have := keyV_len c; omega, sB_byte _⟩
/- 43: loop.example/g00464/spec.l18Key -/
def A43 : AC := (.seq (.ops [⟨(some 2), none, .q (.mov (.c .em))⟩])
  (.seq (.ops [⟨(some 3), none, .q (.mov (.t 0))⟩, ⟨(some 4), none, .w (.bsl 1 6 [(.sc (.string ⟨#[]⟩)), (.sc (.string ⟨#[]⟩)), (.sc (.string ⟨#[]⟩)), (.sc (.string ⟨#[]⟩)), (.sc (.string ⟨#[]⟩)), (.sc (.string ⟨#[]⟩))] [(0, 1, (.c (.sc (.string ⟨#[]⟩)))), (1, 1, (.c (.sc (.string ⟨#[107]⟩)))), (2, 1, (.c (.sc (.string ⟨#[107, 49]⟩)))), (3, 1, (.c (.sc (.string ⟨#[107, 50]⟩)))), (4, 1, (.c (.sc (.string ⟨#[107, 51]⟩)))), (5, 1, (.c (.sc (.string ⟨#[107, 52]⟩))))])⟩, ⟨(some 5), none, .c (.c (.clo 77 [])) [(.t 3), (.t 4)]⟩, ⟨(some 6), none, .w (.byt (.t 5))⟩, ⟨(some 2), none, .q (.mov (.t 6))⟩])
  .ret))
theorem K43 : Tryz.f43.body.bind (comp Tryz.prog) = some A43 ∧ Tryz.f43.ntmps = 7 ∧ Tryz.f43.results.toList.mapM (resB Tryz.prog) = some [.mov (.t 2)] := ⟨by kernel_rfl, by kernel_rfl, by kernel_rfl⟩
theorem R43 (c : Cur) (hc : c.ok) : Ret Tryz.prog 43 [.bx c.cs] (.ro (rows B (keyV c)) (keyV c).length) [.bx (belowC c 6).cs] := by
  have fr : ∀ c : Cur, idfree.idfreeL c.cs = true := fun c => rfl
  have r1 : Ret Tryz.prog 77 [.bx c.cs, .own (rows Ty.str.oc keyL) 6 1] (.sc (.string (pickS keyL c 6))) [.bx (belowC c 6).cs, .un] := R77 c hc keyL (by decide)
  have hl : (pickS keyL c 6).size = (keyV c).length := (sB_len _).symm
  refine Ret.run Tryz.func43 K43 (by simp) rfl rfl 500 ?_
  simp [A43, iniρ, over]
  refine callK.bm 100000 4 (len := 6) (sz := 1) rfl (by kernel_rfl) (by simp [upd_app]) (by simp [upd_app]) (fr c) (by simp [upd_app]) (by simp [upd_app]; rfl) (by rfl) (by rfl) (by decide) r1 rfl rfl ?_
  simp [ex1, fr, ioPos1, strCells_rows, hl]
  rfl
def bytesC : Nat → Cur → Cur
  | 0, c => c
  | n + 1, c => bytesC n (byteC c)
def bytesV : Nat → Cur → List Int
  | 0, _ => []
  | n + 1, c => byteV c :: bytesV n (byteC c)
theorem bytesC_ok : ∀ (n : Nat) {c : Cur}, c.ok → (bytesC n c).ok
  | 0, _, h => h
  | n + 1, _, h => bytesC_ok n (byteC_ok h)
theorem bytesV_len : ∀ (n : Nat) (c : Cur), (bytesV n c).length = n
  | 0, _ => rfl
  | n + 1, c => by simp [bytesV, bytesV_len n]
theorem bytesV_byte : ∀ (n : Nat) (c : Cur), byteL (bytesV n c)
  | 0, _ => fun x hx => by cases hx
  | n + 1, c => fun x hx => by
    rcases List.mem_cons.1 hx with rfl | hx
    · exact byteV_rng c
    · exact bytesV_byte n _ x hx
/- 74: loop.example/g00464/spec.l1Bytes -/
def A74 : AC := (.seq (.ops [⟨(some 4), none, .q (.mov (.c .em))⟩])
  (.seq (.ops [⟨(some 7), none, .w (.bsl 1 0 [] [])⟩, ⟨(some 5), none, .q (.mov (.t 7))⟩])
  (.seq (.seq (.ops [⟨(some 6), none, .q (.mov (.c (.sc (.int .i64 0))))⟩])
  (.block 0 (.loop (.seq (.seq (.ops [⟨(some 8), none, .q (.mov (.t 6))⟩, ⟨(some 9), none, .q (.mov (.t 1))⟩, ⟨(some 10), none, .q (.bin .lss (.t 8) (.t 9))⟩])
  (.cond (.t 10) .skip
  (.exit 0)))
  (.seq (.block 1 (.ops [⟨(some 13), none, .q (.mov (.t 5))⟩, ⟨(some 14), none, .q (.mov (.t 0))⟩, ⟨(some 15), none, .c (.c (.clo 76 [])) [(.t 14)]⟩, ⟨(some 16), none, .q (.cvi .u8 (.t 15))⟩, ⟨(some 17), none, .w (.bsl 1 1 [(.sc (.int .u8 0))] [(0, 1, (.t 16))])⟩, ⟨(some 18), none, .w (.app 1 1 false (.t 13) (.t 17))⟩, ⟨(some 5), none, .q (.mov (.t 18))⟩]))
  (.ops [⟨(some 11), none, .q (.mov (.t 6))⟩, ⟨(some 12), none, .q (.bin .add (.t 11) (.c (.sc (.int .i64 1))))⟩, ⟨(some 6), none, .q (.mov (.t 12))⟩]))))))
  (.seq (.ops [⟨(some 19), none, .q (.mov (.t 5))⟩, ⟨(some 4), none, .q (.mov (.t 19))⟩])
  .ret))))
theorem K74 : Tryz.f74.body.bind (comp Tryz.prog) = some A74 ∧ Tryz.f74.ntmps = 20 ∧ Tryz.f74.results.toList.mapM (resB Tryz.prog) = some [.mov (.t 4)] := ⟨by kernel_rfl, by kernel_rfl, by kernel_rfl⟩
theorem R74 (c : Cur) (hc : c.ok) (k : Nat) (hk : k ≤ 1000000) : Ret Tryz.prog 74 [.bx c.cs, .sc (.int .i64 k)] (.own (rows B (bytesV k c)) (bytesV k c).length 1) [.bx (bytesC k c).cs, .un] := by
  have fr : ∀ c : Cur, idfree.idfreeL c.cs = true := fun c => rfl
  refine Ret.run Tryz.func74 K74 (by simp) rfl rfl 500 ?_
  simp [A74, iniρ, over]
  refine T.rounds (μ := fun i : List Int × Cur × Nat => i.2.2)
    (fun i s => i.1.length + i.2.2 = k ∧ i.2.1.ok ∧ i.1 ++ bytesV i.2.2 i.2.1 = bytesV k c ∧ bytesC i.2.2 i.2.1 = bytesC k c ∧ s.ρ 0 = .ref 100000 0 ∧ s.ρ 1 = .sc (.int .i64 k) ∧ s.ρ 5 = .sl 7 0 i.1.length 1 false ∧ s.ρ 6 = .sc (.int .i64 i.1.length) ∧ s.h 100000 = some (some i.2.1.cs) ∧ s.h 7 = some (some (rows B i.1)) ∧ s.h 17 = none ∧ s.h 18 = none ∧ s.n = 20) ([], c, k) (by simp [upd_app, hc, rows_nil]) ?_
  rintro ⟨pre, d, j⟩ ⟨ρ, hh, n⟩ ⟨hl, hd, hE, hC, k0, k1, k5, k6, bc, b7, f17, f18, rfl⟩
  simp only at hl hd hE hC k0 k1 k5 k6 bc b7 f17 f18
  refine run_ok (n := 400) ?_
  cases j with
  | zero =>
    have e : pre = bytesV k c := by rw [← hE]; simp [bytesV]
    have e2 : d = bytesC k c := hC
    have hn : ¬ ((pre.length : Int) < k) := by omega
    simp [k1, k6, hn]
    refine T.on 400 ?_
    rw [← e, ← e2]
    simp [k0, k5, bc, b7, ex1, B.count, fr, ioPos1, idfreeL_rows B.fr pre]
  | succ j =>
    have hlt : (pre.length : Int) < k := by omega
    have hw : IntKind.i64.wrap ((pre.length : Int) + 1) = pre.length + 1 := wrap_i64 (by omega) (by omega)
    have hr := byteV_rng d
    have hw8 : IntKind.u8.wrap (byteV d) = byteV d := by simp [IntKind.wrap, IntKind.bits, IntKind.signed]; omega
    have hb1 : pre.length + 1 ≤ 140737488355328 := by omega
    simp [k0, k1, k5, k6, hlt]
    refine callK.bx (b := 100000) 0 rfl (by kernel_rfl) (by simp [upd_app, k0]) (by simp [upd_app, bc]) (fr d) rfl (by simp) (R76 d hd) rfl (by rfl) rfl ?_
    simp [k0, k5, k6, bc, b7, f17, f18, hw, hw8, over, B.count, hb1]
    refine ⟨pre ++ [byteV d], byteC d, j, by omega, _, Le.reseat [0, 1, 5, 6] [(18, 7), (100000, 100000)] (by simp) (by simp [upd_app, menB, idfree, k0, k1]) ?_, ?_⟩
    · intro b hb cs hcs
      simp at hb
      rcases hb with rfl | rfl
      · simp [upd_app] at hcs
        subst hcs
        have := idfreeL_mem (idfreeL_rows B.fr (pre ++ [byteV d]))
        rwa [rows_append] at this
      · simp [upd_app] at hcs
        subst hcs
        exact idfreeL_mem (fr _)
    · simp [upd_app, keepR_app, keepHR_app, renA, rb, k0, k1, f17, rows_append, rows_cons, rows_nil, byteC_ok hd]
      refine ⟨by omega, ?_, hC, rfl⟩
      rw [← hE]; rfl
def abuild : ByteArray := ⟨#[97, 35, 98, 117, 105, 108, 100]⟩
def draws : Nat → Cur → List Slot → List Slot × Cur
  | 0, c, l => (l, c)
  | n + 1, c, l => draws n (madeC (belowC c 6)) (slotPut l (keyV c) (madeV (belowC c 6) abuild))
def drawP (c : Cur) : List Slot × Cur := draws (belowV c 6).toNat (belowC c 6) []
theorem fw_le {n k : Nat} : ∀ {l : List File}, l.length ≤ k → (∀ x ∈ l, x.path.size ≤ n ∧ x.text.size ≤ n) → fw l ≤ k * (2 * n + 4)
  | [], _, _ => Nat.zero_le _
  | x :: l, hk, h => by
    cases k with
    | zero => simp at hk
    | succ k =>
      have ih := fw_le (n := n) (k := k) (l := l) (by simpa using hk) fun y hy => h y (by simp [hy])
      have hx := h x (by simp)
      rw [Nat.succ_mul]
      simp only [fw]; omega
/-- what is drawn is small -/
structure MadeSz (m : Made) : Prop where
  t : m.task.size ≤ 1000
  n : m.outs.length ≤ 20
  p : ∀ x ∈ m.outs, x.path.size ≤ 1000
  w : mw m ≤ 100000
theorem madeV_sz {c : Cur} (hc : c.ok) {t : ByteArray} (ht : t.size ≤ 1000) : MadeSz (madeV c t) := by
  obtain ⟨_, h2, h3⟩ := madeP_ok hc
  have hd : (pickS doneL c 3).size ≤ 5 := pick_size (by decide) _ _
  have hf := fw_le (n := 5) (k := 2) h2 h3
  have hf : fw (madeV c t).outs ≤ 2 * (2 * 5 + 4) := hf
  have h2 : (madeV c t).outs.length ≤ 2 := h2
  have hlog : (madeV c t).log.size ≤ 5 := hd
  have htk : (madeV c t).task.size = t.size := rfl
  refine ⟨by rw [htk]; exact ht, by omega, fun x hx => by have := (h3 x hx).1; omega, ?_⟩
  unfold mw; omega
/-- a cache that is small -/
structure CacheSz (l : List Slot) (n w : Nat) : Prop where
  ok : Slot.ty.slice.ok l
  n : l.length ≤ n
  w : toL Slot.tot l ≤ w
theorem CacheSz.nil : CacheSz [] 0 0 := ⟨⟨by decide, fun x hx => by cases hx⟩, Nat.le_refl _, Nat.le_refl _⟩
theorem CacheSz.put {l : List Slot} {n w : Nat} (h : CacheSz l n w) (hn : n ≤ 1000000) (c : Cur) (m : Made) : CacheSz (slotPut l (keyV c) m) (n + 1) (w + 3002) := by
  obtain ⟨h1, h2, h3⟩ := slotPut_is l (keyV c) m h.ok (by have := h.n; omega) (keyV_ok c)
  have := h.n; have := h.w; have := keyV_len c
  exact ⟨h1, by omega, by omega⟩
theorem draws_is : ∀ (j : Nat) (c : Cur) (l : List Slot) (n w : Nat), c.ok → CacheSz l n w → n + j ≤ 1000 → (draws j c l).2.ok ∧ CacheSz (draws j c l).1 (n + j) (w + 3002 * j)
  | 0, c, l, n, w, hc, h, _ => ⟨hc, h⟩
  | j + 1, c, l, n, w, hc, h, hn => by
    obtain ⟨h1, h2⟩ := draws_is j (madeC (belowC c 6)) (slotPut l (keyV c) (madeV (belowC c 6) abuild)) (n + 1) (w + 3002) (madeP_ok (belowC_ok hc 6)).1 (h.put (by omega) c _) (by omega)
    refine ⟨h1, ?_⟩
    have e1 : n + 1 + j = n + (j + 1) := by omega
    have e2 : w + 3002 + 3002 * j = w + 3002 * (j + 1) := by omega
    rw [e1, e2] at h2
    exact h2
theorem drawP_is {c : Cur} (hc : c.ok) : (drawP c).2.ok ∧ CacheSz (drawP c).1 5 15010 := by
  obtain ⟨q1, q2⟩ := belowV_rng c (n := 6) (by omega)
  obtain ⟨h1, h2⟩ := draws_is (belowV c 6).toNat (belowC c 6) [] 0 0 (belowC_ok hc 6) CacheSz.nil (by omega)
  have h2 : CacheSz (drawP c).1 _ _ := h2
  exact ⟨h1, h2.ok, by have := h2.n; omega, by have := h2.w; omega⟩
/- 73: loop.example/g00464/spec.l18Draw -/
def A73 : AC := (.seq (.ops [⟨(some 2), none, .q (.mov (.c .em))⟩])
  (.seq (.ops [⟨(some 5), none, .w (.bsl 2 0 [] [])⟩, ⟨(some 3), none, .q (.mov (.t 5))⟩])
  (.seq (.seq (.ops [⟨(some 6), none, .q (.mov (.t 0))⟩, ⟨(some 7), none, .c (.c (.clo 42 [])) [(.t 6), (.c (.sc (.int .i64 6)))]⟩, ⟨(some 4), none, .q (.mov (.t 7))⟩])
  (.block 0 (.loop (.seq (.seq (.ops [⟨(some 8), none, .q (.mov (.t 4))⟩, ⟨(some 9), none, .q (.bin .gtr (.t 8) (.c (.sc (.int .i64 0))))⟩])
  (.cond (.t 9) .skip
  (.exit 0)))
  (.seq (.block 1 (.ops [⟨(some 12), none, .q (.mov (.t 3))⟩, ⟨(some 13), none, .q (.mov (.t 0))⟩, ⟨(some 14), none, .c (.c (.clo 43 [])) [(.t 13)]⟩, ⟨(some 15), none, .q (.mov (.t 0))⟩, ⟨(some 16), none, .c (.c (.clo 91 [])) [(.t 15), (.c (.sc (.string ⟨#[97, 35, 98, 117, 105, 108, 100]⟩)))]⟩, ⟨(some 17), none, .c (.c (.clo 22 [])) [(.t 12), (.t 14), (.t 16)]⟩, ⟨(some 3), none, .q (.mov (.t 17))⟩]))
  (.ops [⟨(some 10), none, .q (.mov (.t 4))⟩, ⟨(some 11), none, .q (.bin .sub (.t 10) (.c (.sc (.int .i64 1))))⟩, ⟨(some 4), none, .q (.mov (.t 11))⟩]))))))
  (.seq (.ops [⟨(some 18), none, .q (.mov (.t 3))⟩, ⟨(some 2), none, .q (.mov (.t 18))⟩])
  .ret))))
theorem K73 : Tryz.f73.body.bind (comp Tryz.prog) = some A73 ∧ Tryz.f73.ntmps = 19 ∧ Tryz.f73.results.toList.mapM (resB Tryz.prog) = some [.mov (.t 2)] := ⟨by kernel_rfl, by kernel_rfl, by kernel_rfl⟩
set_option maxHeartbeats 2000000 in
theorem R73 (c : Cur) (hc : c.ok) : Ret Tryz.prog 73 [.bx c.cs] (.own (rows Slot.ty.oc (drawP c).1) (drawP c).1.length 2) [.bx (drawP c).2.cs] := by
  have fr : ∀ c : Cur, idfree.idfreeL c.cs = true := fun c => rfl
  refine Ret.run Tryz.func73 K73 (by simp) rfl rfl 500 ?_
  simp [A73, iniρ, over]
  refine callK.bx (b := 100000) 0 rfl (by kernel_rfl) (by simp [upd_app]) (by simp [upd_app]) (fr _) (by simp [upd_app]) (by simp) (R42 c hc 6) rfl (by rfl) rfl ?_
  obtain ⟨q1, q2⟩ := belowV_rng c (n := 6) (by omega)
  obtain ⟨m, hm⟩ : ∃ m : Nat, belowV c 6 = m := ⟨(belowV c 6).toNat, by omega⟩
  have hP : draws m (belowC c 6) [] = drawP c := by simp [drawP, hm]
  rw [hm] at q2 ⊢
  simp
  refine T.rounds (μ := fun i : Nat × Cur × List Slot => i.1)
    (fun i s => i.2.1.ok ∧ CacheSz i.2.2 (6 - i.1) 100000 ∧ i.1 ≤ 5 ∧ toL Slot.tot i.2.2 + 3002 * i.1 ≤ 30000 ∧ draws i.1 i.2.1 i.2.2 = drawP c ∧ s.ρ 0 = .ref 100000 0 ∧ s.ρ 3 = .sl 5 0 i.2.2.length 2 false ∧ s.ρ 4 = .sc (.int .i64 i.1) ∧ s.h 100000 = some (some i.2.1.cs) ∧ s.h 5 = some (some (rows Slot.ty.oc i.2.2)) ∧ s.h 17001 = none ∧ s.h 17 = none ∧ s.n = 19) (m, belowC c 6, []) ?_ ?_
  · simp [upd_app, belowC_ok hc, rows_nil, hP, toL]
    exact ⟨⟨CacheSz.nil.ok, Nat.zero_le _, Nat.zero_le _⟩, by omega, by omega⟩
  rintro ⟨j, d, l⟩ ⟨ρ, hh, n⟩ ⟨hd, hl, hj, hw, hE, k0, k3, k4, bc, b5, f1, f2, rfl⟩
  simp only at hd hl hj hw hE k0 k3 k4 bc b5 f1 f2
  refine run_ok (n := 400) ?_
  cases j with
  | zero =>
    have hE : (l, d) = drawP c := hE
    simp [k4]
    refine T.on 400 ?_
    rw [← hE]
    simp [k0, k3, bc, b5, ex1, Slot.ocl, Slot.frL, fr, ioPos1]
  | succ j =>
    have hd6 := belowC_ok hd 6
    obtain ⟨hdm, _⟩ := madeP_ok hd6
    have hpos : (0 : Int) < (j : Int) + 1 := by omega
    have hw1 : IntKind.i64.wrap (j : Int) = j := wrap_i64 (by omega) (by omega)
    have hms := madeV_sz (c := belowC d 6) hd6 (t := abuild) (by decide)
    have hkl := keyV_len d
    have rk := R43 d hd
    have rm := R91 (belowC d 6) hd6 abuild
    have hmn := hms.n
    have hmt := hms.t
    have hmw := hms.w
    have rp := R22 l (keyV d) (madeV (belowC d 6) abuild) hl.ok (by omega) (by omega) (by omega) (fun x hx => by have := hms.p x hx; omega) (by omega)
    obtain ⟨mk, hmk⟩ : ∃ mk, mk = madeV (belowC d 6) abuild := ⟨_, rfl⟩
    have hE2 : draws j (madeC (belowC d 6)) (slotPut l (keyV d) mk) = drawP c := by rw [← hE, hmk]; rfl
    rw [← hmk] at rm rp
    have hput := hl.put (by omega) d mk
    rw [Made.oce] at rm
    rw [Made.cse] at rp
    simp [k0, k3, k4, hpos]
    refine callK.bx (b := 100000) 14 rfl (by kernel_rfl) (by simp [upd_app, k0]) (by simp [upd_app, bc]) (fr _) (by simp [upd_app]) (by simp) rk rfl (by simp [inst, shut, upd_app]; exact ⟨rfl, rfl⟩) rfl ?_
    simp [k0]
    refine callK.bx (b := 100000) 16 rfl (by kernel_rfl) (by simp [upd_app, k0]) (by simp [upd_app]) (fr _) (by simp [upd_app]; rfl) (by simp [shut]) rm rfl (by simp [inst, instL, shut, upd_app, f1]; exact ⟨rfl, rfl⟩) rfl ?_
    simp [k3]
    refine callK.ro 17 rfl (by kernel_rfl) (by simp [roc_agg8, List.mapM_cons, List.mapM_nil, roc_sc, roc_ro, Slot.roc8, File.roc7, upd_app, b5, k3]) rp (Slot.ty.flo _) (by simp [inst, upd_app, f2]; exact ⟨rfl, rfl⟩) rfl ?_
    simp [k4, hw1]
    obtain ⟨z1, z2, z3⟩ := slotPut_is l (keyV d) mk hl.ok (by have := hl.n; omega) (keyV_ok d)
    refine ⟨j, by omega, madeC (belowC d 6), slotPut l (keyV d) mk, _, Le.reseat [0, 3, 4] [(17, 5), (100000, 100000)] (by simp) (by simp [upd_app, menB, idfree, k0]) ?_, ?_⟩
    · intro b hb cs hcs
      simp at hb
      rcases hb with rfl | rfl
      · simp [upd_app] at hcs
        subst hcs
        exact idfreeL_mem (Slot.frL _)
      · simp [upd_app] at hcs
        subst hcs
        exact idfreeL_mem (fr _)
    · have hn := hl.n
      refine ⟨hdm, ⟨z1, by omega, by omega⟩, by omega, by omega, hE2, ?_⟩
      simp [upd_app, keepR_app, keepHR_app, renA, rb, k0]
def zzB : List Int := [122, 122]
def zK (i : Nat) : Slot := ⟨sB (⟨#[122]⟩ ++ numT i), []⟩
def zKs : Nat → List Slot
  | 0 => []
  | n + 1 => zKs n ++ [zK n]
def anyL (c : Cur) : List Slot × Cur :=
  let l := (drawP c).1
  let c1 := (drawP c).2
  let c2 := belowC c1 10
  if belowV c1 10 = 0 then (l ++ [⟨keyV c2, bytesV 3 (belowC c2 6)⟩], bytesC 3 (belowC c2 6))
  else if belowV c1 10 = 1 then (l ++ [⟨zzB, List.replicate (2900 + belowV c2 102).toNat 0⟩], belowC c2 102)
  else if belowV c1 10 = 2 then (l ++ zKs 18, c2)
  else if belowV c1 10 = 3 then (dmg l (belowV c2 3) (belowV (belowC c2 3) 40) (1 + belowV (belowC (belowC c2 3) 40) 255), belowC (belowC (belowC c2 3) 40) 255)
  else (l, c2)
theorem roc_ownS {h : Hp} {k : Nat} {cs : List AV} {len sz : Nat} (hs : shut.shutL cs = true) : roc h (k + 1) (.own cs len sz) = some (.ro cs len) := by
  rw [roc, if_neg (by simp [shut])]
  simp only [mapM_shut hs, Option.map_some]
theorem B_shut (xs : List Int) : shut.shutL (rows B xs) = true := shutL_of (rows_all (q := shut) (fun x c hc => by simp [B] at hc; subst hc; rfl) xs)
/-- A list that grew by a slot: its key is read only, what it keeps is the call's own. -/
theorem Le.growC {st : St} {I : St → Prop} (b i : Nat) (l : List Slot) (k v : List Int) (hne : i ≠ b) (hb : st.h b = some (some (rows Slot.ty.oc l ++ [.ro (rows B k) k.length, .sl i 0 v.length 1 false]))) (hi : st.h i = some (some (rows B v)))
    (hI : ∀ h', h' b = some (some (rows Slot.ty.cs (l ++ [⟨k, v⟩]))) → (∀ c, c ≠ b → c ≠ i → h' c = st.h c) → I ⟨st.ρ, h', st.n⟩) : ∃ s, Le st s ∧ I s := by
  have hset : (rows Slot.ty.oc l ++ [AV.ro (rows B k) k.length, .sl i 0 v.length 1 false]).set (l.length * 2 + 1) (.own (rows B v) v.length 1) = rows Slot.ty.oc l ++ [.ro (rows B k) k.length, .own (rows B v) v.length 1] := by
    rw [← Slot.ocl, List.set_append_right _ _ (by omega)]
    simp
  have hget : (rows Slot.ty.oc l ++ [AV.ro (rows B k) k.length, .sl i 0 v.length 1 false])[l.length * 2 + 1]? = some (.sl i 0 v.length 1 false) := by
    rw [← Slot.ocl, List.getElem?_append_right (by omega)]
    simp
  have l1 := Le.pack b (l.length * 2 + 1) hb hget hi hne (by rw [B.count, Nat.mul_one]) (idfreeL_rows B.fr v)
  rw [hset] at l1
  have l2 := Le.mute (st := ⟨st.ρ, upd (upd (upd st.h i (some none)) b (some none)) b (some (some (rows Slot.ty.oc l ++ [.ro (rows B k) k.length, .own (rows B v) v.length 1]))), st.n⟩) b (ys := rows Slot.ty.cs (l ++ [⟨k, v⟩])) (upd_same _ _ _) (by
    rw [List.mapM_append, Slot.ty.rcs _ (by decide) l, rows_append, rows_cons, rows_nil, List.append_nil]
    simp only [List.mapM_cons, List.mapM_nil, roc_ro, roc_ownS (B_shut v)]
    rfl)
  refine ⟨_, Le.trans l1 l2, hI _ (upd_same _ _ _) fun c h1 h2 => ?_⟩
  simp only [upd_app]
  rw [if_neg h1, if_neg h1, if_neg h1, if_neg h2]

/-- A list that grew by a slot that keeps nothing. -/
theorem Le.growE {st : St} {I : St → Prop} (b : Nat) (l : List Slot) (k : List Int) (hb : st.h b = some (some (rows Slot.ty.cs l ++ [.ro (rows B k) k.length, .em])))
    (hI : ∀ h', h' b = some (some (rows Slot.ty.cs (l ++ [⟨k, []⟩]))) → (∀ c, c ≠ b → h' c = st.h c) → I ⟨st.ρ, h', st.n⟩) : ∃ s, Le st s ∧ I s := by
  have hset : (rows Slot.ty.cs l ++ [AV.ro (rows B k) k.length, .em]).set (l.length * 2 + 1) (.own [] 0 1) = rows Slot.ty.cs l ++ [.ro (rows B k) k.length, .own [] 0 1] := by
    rw [← Slot.csl, List.set_append_right _ _ (by omega)]
    simp
  have hget : (rows Slot.ty.cs l ++ [AV.ro (rows B k) k.length, .em])[l.length * 2 + 1]? = some .em := by
    rw [← Slot.csl, List.getElem?_append_right (by omega)]
    simp
  have l1 := Le.layC b (l.length * 2 + 1) 1 hb hget
  rw [hset] at l1
  have l2 := Le.mute (st := ⟨st.ρ, upd (upd st.h b (some none)) b (some (some (rows Slot.ty.cs l ++ [.ro (rows B k) k.length, .own [] 0 1]))), st.n⟩) b (ys := rows Slot.ty.cs (l ++ [⟨k, []⟩])) (upd_same _ _ _) (by
    rw [List.mapM_append, mapM_shut (shutL_of (rows_all Slot.ty.sh l)), rows_append, rows_cons, rows_nil, List.append_nil]
    simp only [List.mapM_cons, List.mapM_nil, roc_ro, roc_ownS (show shut.shutL [] = true from rfl)]
    rfl)
  refine ⟨_, Le.trans l1 l2, hI _ (upd_same _ _ _) fun c h1 => ?_⟩
  simp only [upd_app]
  rw [if_neg h1, if_neg h1, if_neg h1]
theorem zKs_len : ∀ n, (zKs n).length = n
  | 0 => rfl
  | n + 1 => by simp [zKs, zKs_len n]
/- 40: loop.example/g00464/spec.l18Any -/
def A40 : AC := (.seq (.ops [⟨(some 2), none, .q (.mov (.c .em))⟩])
  (.seq (.ops [⟨(some 5), none, .q (.mov (.t 0))⟩, ⟨(some 6), none, .c (.c (.clo 73 [])) [(.t 5)]⟩, ⟨(some 3), none, .q (.mov (.t 6))⟩])
  (.seq (.seq (.ops [⟨(some 7), none, .q (.mov (.t 0))⟩, ⟨(some 8), none, .c (.c (.clo 42 [])) [(.t 7), (.c (.sc (.int .i64 10)))]⟩])
  (.block 0 (.seq (.ops [⟨(some 10), none, .q (.bin .eql (.t 8) (.c (.sc (.int .i64 0))))⟩, ⟨(some 9), none, .q (.mov (.t 10))⟩])
  (.cond (.t 9) (.ops [⟨(some 11), none, .q (.mov (.t 3))⟩, ⟨(some 12), none, .q (.mov (.t 0))⟩, ⟨(some 13), none, .c (.c (.clo 43 [])) [(.t 12)]⟩, ⟨(some 14), none, .q (.mov (.t 0))⟩, ⟨(some 15), none, .c (.c (.clo 74 [])) [(.t 14), (.c (.sc (.int .i64 3)))]⟩, ⟨(some 16), none, .w (.build [.em, .em] [(0, 1, (.t 13)), (1, 1, (.t 15))])⟩, ⟨(some 17), none, .w (.bsl 2 1 [.em, .em] [(0, 2, (.t 16))])⟩, ⟨(some 18), none, .w (.app 2 48 false (.t 11) (.t 17))⟩, ⟨(some 3), none, .q (.mov (.t 18))⟩])
  (.seq (.ops [⟨(some 20), none, .q (.bin .eql (.t 8) (.c (.sc (.int .i64 1))))⟩, ⟨(some 19), none, .q (.mov (.t 20))⟩])
  (.cond (.t 19) (.ops [⟨(some 21), none, .q (.mov (.t 3))⟩, ⟨(some 22), none, .w (.bsl 1 2 [(.sc (.int .u8 0)), (.sc (.int .u8 0))] [(0, 1, (.c (.sc (.int .u8 122)))), (1, 1, (.c (.sc (.int .u8 122))))])⟩, ⟨(some 23), none, .w (.fz (.t 22))⟩, ⟨(some 24), none, .q (.mov (.t 0))⟩, ⟨(some 25), none, .c (.c (.clo 42 [])) [(.t 24), (.c (.sc (.int .i64 102)))]⟩, ⟨(some 26), none, .q (.bin .add (.c (.sc (.int .i64 2900))) (.t 25))⟩, ⟨(some 27), none, .w (.mk 1 1 [(.sc (.int .u8 0))] (.t 26) (.t 26))⟩, ⟨(some 28), none, .w (.build [.em, .em] [(0, 1, (.t 23)), (1, 1, (.t 27))])⟩, ⟨(some 29), none, .w (.bsl 2 1 [.em, .em] [(0, 2, (.t 28))])⟩, ⟨(some 30), none, .w (.app 2 48 false (.t 21) (.t 29))⟩, ⟨(some 3), none, .q (.mov (.t 30))⟩])
  (.seq (.ops [⟨(some 32), none, .q (.bin .eql (.t 8) (.c (.sc (.int .i64 2))))⟩, ⟨(some 31), none, .q (.mov (.t 32))⟩])
  (.cond (.t 31) (.seq (.ops [⟨(some 4), none, .q (.mov (.c (.sc (.int .i64 0))))⟩])
  (.block 1 (.loop (.seq (.seq (.ops [⟨(some 33), none, .q (.mov (.t 4))⟩, ⟨(some 34), none, .q (.bin .lss (.t 33) (.c (.sc (.int .i64 18))))⟩])
  (.cond (.t 34) .skip
  (.exit 1)))
  (.seq (.block 2 (.ops [⟨(some 37), none, .q (.mov (.t 3))⟩, ⟨(some 38), none, .q (.mov (.t 4))⟩, ⟨(some 39), none, .c (.c (.clo 75 [])) [(.t 38)]⟩, ⟨(some 40), none, .q (.bin .add (.c (.sc (.string ⟨#[122]⟩))) (.t 39))⟩, ⟨(some 41), none, .w (.byt (.t 40))⟩, ⟨(some 42), none, .w (.build [.em, .em] [(0, 1, (.t 41))])⟩, ⟨(some 43), none, .w (.bsl 2 1 [.em, .em] [(0, 2, (.t 42))])⟩, ⟨(some 44), none, .w (.app 2 48 false (.t 37) (.t 43))⟩, ⟨(some 3), none, .q (.mov (.t 44))⟩]))
  (.ops [⟨(some 35), none, .q (.mov (.t 4))⟩, ⟨(some 36), none, .q (.bin .add (.t 35) (.c (.sc (.int .i64 1))))⟩, ⟨(some 4), none, .q (.mov (.t 36))⟩]))))))
  (.seq (.ops [⟨(some 46), none, .q (.bin .eql (.t 8) (.c (.sc (.int .i64 3))))⟩, ⟨(some 45), none, .q (.mov (.t 46))⟩])
  (.cond (.t 45) (.ops [⟨(some 47), none, .q (.mov (.t 3))⟩, ⟨(some 48), none, .q (.mov (.t 0))⟩, ⟨(some 49), none, .c (.c (.clo 42 [])) [(.t 48), (.c (.sc (.int .i64 3)))]⟩, ⟨(some 50), none, .q (.mov (.t 0))⟩, ⟨(some 51), none, .c (.c (.clo 42 [])) [(.t 50), (.c (.sc (.int .i64 40)))]⟩, ⟨(some 52), none, .q (.mov (.t 0))⟩, ⟨(some 53), none, .c (.c (.clo 42 [])) [(.t 52), (.c (.sc (.int .i64 255)))]⟩, ⟨(some 54), none, .q (.bin .add (.c (.sc (.int .i64 1))) (.t 53))⟩, ⟨(some 55), none, .c (.c (.clo 26 [])) [(.t 47), (.t 49), (.t 51), (.t 54)]⟩, ⟨(some 3), none, .q (.mov (.t 55))⟩])
  .skip))))))))))
  (.seq (.ops [⟨(some 56), none, .q (.mov (.t 3))⟩, ⟨(some 2), none, .q (.mov (.t 56))⟩])
  .ret))))
theorem K40 : Tryz.f40.body.bind (comp Tryz.prog) = some A40 ∧ Tryz.f40.ntmps = 57 ∧ Tryz.f40.results.toList.mapM (resB Tryz.prog) = some [.mov (.t 2)] := ⟨by kernel_rfl, by kernel_rfl, by kernel_rfl⟩
set_option maxHeartbeats 4000000 in
theorem R40 (c : Cur) (hc : c.ok) : Ret Tryz.prog 40 [.bx c.cs] (.own (rows Slot.ty.cs (anyL c).1) (anyL c).1.length 2) [.bx (anyL c).2.cs] := by
  have fr : ∀ c : Cur, idfree.idfreeL c.cs = true := fun c => rfl
  obtain ⟨hc1, hl⟩ := drawP_is hc
  have hc2 := belowC_ok hc1 10
  have rd := R73 c hc
  obtain ⟨l, hle⟩ : ∃ l, l = (drawP c).1 := ⟨_, rfl⟩
  obtain ⟨c1, hce⟩ : ∃ c1, c1 = (drawP c).2 := ⟨_, rfl⟩
  obtain ⟨c2, hce2⟩ : ∃ c2, c2 = belowC c1 10 := ⟨_, rfl⟩
  have hA : anyL c = if belowV c1 10 = 0 then (l ++ [⟨keyV c2, bytesV 3 (belowC c2 6)⟩], bytesC 3 (belowC c2 6))
    else if belowV c1 10 = 1 then (l ++ [⟨zzB, List.replicate (2900 + belowV c2 102).toNat 0⟩], belowC c2 102)
    else if belowV c1 10 = 2 then (l ++ zKs 18, c2)
    else if belowV c1 10 = 3 then (dmg l (belowV c2 3) (belowV (belowC c2 3) 40) (1 + belowV (belowC (belowC c2 3) 40) 255), belowC (belowC (belowC c2 3) 40) 255)
    else (l, c2) := by subst hle hce hce2; rfl
  rw [← hle, ← hce] at rd
  rw [← hle] at hl
  rw [← hce] at hc1 hc2
  have hn := hl.n
  have hb1 : (l.length + 1) * 48 ≤ 140737488355328 := by omega
  have rb := R42 c1 hc1 10
  rw [← hce2] at hc2 rb
  obtain ⟨s, hs⟩ : ∃ s, s = belowV c1 10 := ⟨_, rfl⟩
  rw [hA, ← hs]
  rw [← hs] at rb
  refine Ret.runT Tryz.func40 K40 (by simp) rfl rfl ?_
  refine run_ok (n := 500) ?_
  simp [A40, iniρ, leR_app]
  refine callK.bx (b := 100000) 6 rfl (by kernel_rfl) (by simp [upd_app]) (by simp [upd_app]) (fr _) (by simp [upd_app]) (by simp) rd rfl (by simp [inst, upd_app]; exact ⟨rfl, rfl⟩) rfl ?_
  simp
  refine callK.bx (b := 100000) 0 rfl (by kernel_rfl) (by simp [upd_app]) (by simp [upd_app]) (fr _) (by simp [upd_app]) (by simp) rb rfl (by rfl) rfl ?_
  by_cases k0 : s = 0
  case pos =>
    simp [k0]
    refine callK.bx (b := 100000) 13 rfl (by kernel_rfl) (by simp [upd_app]) (by simp [upd_app]) (fr _) (by simp [upd_app]) (by simp) (R43 c2 hc2) rfl (by simp [inst, shut, upd_app]; exact ⟨rfl, rfl⟩) rfl ?_
    simp
    refine callK.bx (b := 100000) 15 rfl (by kernel_rfl) (by simp [upd_app]) (by simp [upd_app]) (fr _) (by simp [upd_app]) (by simp) (R74 (belowC c2 6) (belowC_ok hc2 6) 3 (by decide)) rfl (by simp [inst, upd_app]; exact ⟨rfl, rfl⟩) rfl ?_
    simp [Slot.ocl, over, hb1]
    rw [leR_app]
    refine Le.growC 18 15 l (keyV c2) (bytesV 3 (belowC c2 6)) (by decide) (by simp [upd_app]) (by simp [upd_app]) (fun h2 e1 e2 => ?_)
    have e3 := e2 100000 (by decide) (by decide)
    simp [upd_app] at e3
    simp [ex1, e1, e3, upd_app, Slot.csl, Slot.frC, fr, ioPos1]
  by_cases k1 : s = 1
  case pos =>
    obtain ⟨q1, q2⟩ := belowV_rng c2 (n := 102) (by omega)
    obtain ⟨v, hv⟩ : ∃ v : Nat, belowV c2 102 = v := ⟨(belowV c2 102).toNat, by omega⟩
    have rz := R42 c2 hc2 102
    rw [hv] at q2 rz
    obtain ⟨w, hvw⟩ : ∃ w : Nat, (2900 : Int) + (v : Int) = w := ⟨2900 + v, rfl⟩
    have hw : IntKind.i64.wrap (w : Int) = w := wrap_i64 (by omega) (by omega)
    have hz1 : (w : Int) ≤ 281474976710656 := by omega
    have hz2 : (w : Int) ≤ 9223372036854775807 := by omega
    simp [k1, hv, hvw, over, scB]
    refine callK.bx (b := 100000) 0 rfl (by kernel_rfl) (by simp [upd_app]) (by simp [upd_app]) (fr _) (by simp [upd_app]) (by simp) rz rfl (by rfl) rfl ?_
    simp [hvw, hw, hz1, hz2, Slot.ocl, over, hb1]
    rw [leR_app]
    refine Le.growC 30 27 l zzB (List.replicate w 0) (by decide) (by simp [upd_app]; exact ⟨rfl, rfl⟩) (by simp [upd_app, rowsRep]) (fun h2 e1 e2 => ?_)
    have e3 := e2 100000 (by decide) (by decide)
    simp [upd_app] at e3
    simp [ex1, e1, e3, upd_app, Slot.csl, Slot.frC, fr, ioPos1]
  by_cases k3 : s = 3
  case pos =>
    have hc3 := belowC_ok hc2 3
    have hc4 := belowC_ok hc3 40
    obtain ⟨q1, q2⟩ := belowV_rng c2 (n := 3) (by omega)
    obtain ⟨q3, q4⟩ := belowV_rng (belowC c2 3) (n := 40) (by omega)
    obtain ⟨q5, q6⟩ := belowV_rng (belowC (belowC c2 3) 40) (n := 255) (by omega)
    have hw : IntKind.i64.wrap (1 + belowV (belowC (belowC c2 3) 40) 255) = 1 + belowV (belowC (belowC c2 3) 40) 255 := wrap_i64 (by omega) (by omega)
    have rg := R26 l (belowV c2 3) (belowV (belowC c2 3) 40) (1 + belowV (belowC (belowC c2 3) 40) 255) hl.ok ⟨by omega, by omega⟩
    simp [k3]
    refine callK.bx (b := 100000) 0 rfl (by kernel_rfl) (by simp [upd_app]) (by simp [upd_app]) (fr _) (by simp [upd_app]) (by simp) (R42 c2 hc2 3) rfl (by rfl) rfl ?_
    simp
    refine callK.bx (b := 100000) 0 rfl (by kernel_rfl) (by simp [upd_app]) (by simp [upd_app]) (fr _) (by simp [upd_app]) (by simp) (R42 _ hc3 40) rfl (by rfl) rfl ?_
    simp
    refine callK.bx (b := 100000) 0 rfl (by kernel_rfl) (by simp [upd_app]) (by simp [upd_app]) (fr _) (by simp [upd_app]) (by simp) (R42 _ hc4 255) rfl (by rfl) rfl ?_
    simp [hw]
    refine callK.ro 55 rfl (by kernel_rfl) (by simp [roc_sc, Slot.roc8, upd_app]) rg (Slot.ty.flo _) (by simp [inst, upd_app]; exact ⟨rfl, rfl⟩) rfl ?_
    simp
    rw [leR_app]
    refine ⟨_, Le.muteT Slot.ty (by decide) 55 (xs := dmg l (belowV c2 3) (belowV (belowC c2 3) 40) (1 + belowV (belowC (belowC c2 3) 40) 255)) (by simp [upd_app]), ?_⟩
    simp [ex1, upd_app, Slot.csl, Slot.frC, fr, ioPos1]
  by_cases k2 : s = 2
  case neg =>
    simp [k0, k1, k2, k3]
    rw [leR_app]
    refine ⟨_, Le.muteT Slot.ty (by decide) 6 (xs := l) (by simp [upd_app]), ?_⟩
    simp [ex1, upd_app, Slot.csl, Slot.frC, fr, ioPos1]
  simp [k2]
  refine T.le (Le.muteT Slot.ty (by decide) 6 (xs := l) (by simp [upd_app])) ?_
  refine T.rounds (μ := fun j : Nat => 18 - j)
    (fun j s => j ≤ 18 ∧ s.ρ 0 = .ref 100000 0 ∧ s.ρ 3 = .sl 6 0 (l.length + j) 2 false ∧ s.ρ 4 = .sc (.int .i64 j) ∧ s.h 100000 = some (some c2.cs) ∧ s.h 6 = some (some (rows Slot.ty.cs (l ++ zKs j))) ∧ s.h 43 = none ∧ s.h 44 = none ∧ s.n = 57) 0 (by simp [upd_app, zKs]) ?_
  rintro j ⟨ρ, hh, n⟩ ⟨hj, r0, r3, r4, bc, b6, f43, f44, rfl⟩
  simp only at hj r0 r3 r4 bc b6 f43 f44
  refine run_ok (n := 400) ?_
  have hlen : (l ++ zKs j).length = l.length + j := by rw [List.length_append, zKs_len]
  have hcl : (rows Slot.ty.cs (l ++ zKs j)).length = (l.length + j) * 2 := by rw [Slot.csl, hlen]
  by_cases hj2 : j = 18
  · subst hj2
    simp [r4]
    refine T.on 400 ?_
    simp [r3]
    rw [leR_app]
    refine ⟨_, Le.refl _, ?_⟩
    have := Slot.frC (l ++ zKs 18)
    simp [ex1, r0, b6, bc, hcl, this, hlen, zKs_len, fr, ioPos1]
  · have hlt : (j : Int) < 18 := by omega
    have hw : IntKind.i64.wrap ((j : Int) + 1) = j + 1 := wrap_i64 (by omega) (by omega)
    have hb2 : (l.length + j + 1) * 48 ≤ 140737488355328 := Nat.le_trans (Nat.mul_le_mul_right 48 (show l.length + j + 1 ≤ 24 by omega)) (by decide)
    have hz := numT_size j
    have hcat : (⟨#[122]⟩ : ByteArray).size + (numT j).size ≤ 9223372036854775807 := by
      show 1 + _ ≤ _
      omega
    have hkl : (⟨#[122]⟩ ++ numT j : ByteArray).size = (sB (⟨#[122]⟩ ++ numT j)).length := (sB_len _).symm
    simp [r3, r4, hlt]
    refine callK.ro 0 rfl (by kernel_rfl) (by simp [roc_sc]) (R75 j (by omega)) rfl rfl rfl ?_
    simp [r3, r4, b6, f43, f44, hw, hcl, over, hb2, strCells_rows, hkl, hcat]
    refine ⟨j + 1, by omega, ?_⟩
    refine Le.ex ?_
    refine Le.growE 44 (l ++ zKs j) (sB (⟨#[122]⟩ ++ numT j)) (by simp [upd_app]) (fun h2 e1 e2 => ?_)
    have e3 := e2 100000 (by decide)
    simp [upd_app, bc] at e3
    have e4 : l ++ zKs j ++ [⟨sB (⟨#[122]⟩ ++ numT j), []⟩] = l ++ zKs (j + 1) := by simp [zKs, zK]
    rw [e4] at e1
    refine ⟨_, Le.reseat (st := ⟨_, h2, _⟩) [0, 3, 4] [(44, 6), (100000, 100000)] (by simp) (by simp [upd_app, menB, idfree, r0]) ?_, ?_⟩
    · intro b hb cs hcs
      simp at hb
      rcases hb with rfl | rfl
      · simp [e1] at hcs
        subst hcs
        exact idfreeL_mem (Slot.frC _)
      · simp [e3] at hcs
        subst hcs
        exact idfreeL_mem (fr _)
    · simp [upd_app, keepR_app, keepHR_app, renA, rb, r0, e1, e3]
      omega
theorem u8_rng (z : Int) : 0 ≤ IntKind.u8.wrap z ∧ IntKind.u8.wrap z ≤ 255 := by
  unfold IntKind.wrap
  simp [IntKind.signed, IntKind.bits]
  omega
theorem dmg_is (xs : List Slot) (i a v : Int) (hx : Slot.ty.slice.ok xs) : (dmg xs i a v).length = xs.length ∧ Slot.ty.slice.ok (dmg xs i a v) ∧ toL Slot.tot (dmg xs i a v) = toL Slot.tot xs := by
  unfold dmg
  split
  case isFalse => exact ⟨rfl, hx, rfl⟩
  split
  case h_2 => exact ⟨rfl, hx, rfl⟩
  rename_i x hg
  split
  · exact ⟨rfl, hx, rfl⟩
  obtain ⟨hlt, hgx⟩ := List.getElem?_eq_some_iff.1 hg
  generalize hz : xr _ _ = z
  have hzr : 0 ≤ z ∧ z ≤ 255 := by rw [← hz]; exact u8_rng _
  have hxs : xs = xs.take i.toNat ++ x :: xs.drop (i.toNat + 1) := by rw [← hgx]; simp
  have hxo : Slot.ty.ok x := hx.2 x (List.mem_of_getElem? hg)
  refine ⟨by simp, ⟨?_, fun y hy => ?_⟩, ?_⟩
  · rw [List.length_set]; exact hx.1
  · rcases List.mem_or_eq_of_mem_set hy with hy | rfl
    · exact hx.2 y hy
    · obtain ⟨o1, ⟨o2, o3⟩, o4⟩ := hxo
      refine ⟨o1, ⟨?_, fun w hw => ?_⟩, o4⟩
      · show (x.b.set _ z).length * _ ≤ _
        rw [List.length_set]; exact o2
      · rcases List.mem_or_eq_of_mem_set hw with hw | rfl
        · exact o3 w hw
        · exact hzr
  · rw [List.set_eq_take_append_cons_drop, if_pos hlt]
    conv => rhs; rw [hxs]
    rw [toL_app, toL_app]
    simp [toL, Slot.tot]
theorem zKs_is : ∀ n : Nat, n ≤ 20 → CacheSz (zKs n) n (n * (n + 2))
  | 0, _ => CacheSz.nil
  | n + 1, hn => by
    have ih := zKs_is n (by omega)
    have hz := numT_size n
    have hk : (zK n).key.length ≤ n + 2 := by
      have e : (zK n).key.length = (⟨#[122]⟩ ++ numT n : ByteArray).size := sB_len _
      rw [e, ByteArray.size_append]
      have : (⟨#[122]⟩ : ByteArray).size = 1 := rfl
      omega
    have hb : (zK n).b.length = 0 := rfl
    refine ⟨⟨?_, fun x hx => ?_⟩, ?_, ?_⟩
    · show (zKs (n + 1)).length * 48 ≤ 140737488351232
      rw [zKs_len]; omega
    · rcases List.mem_append.1 hx with hx | hx
      · exact ih.ok.2 x hx
      · obtain rfl : x = zK n := by simpa using hx
        exact ⟨⟨show (zK n).key.length * 1 ≤ 140737488351232 by omega, sB_byte _⟩, ⟨show (zK n).b.length * 1 ≤ 140737488351232 by omega, fun x hx => by cases hx⟩, trivial⟩
    · rw [zKs_len]; omega
    · have := ih.w
      simp only [zKs, toL_app, toL, Slot.tot, hb]
      have e : (n + 1) * (n + 1 + 2) = n * (n + 2) + (2 * n + 3) := by
        rw [Nat.add_mul, Nat.one_mul, show n + 1 + 2 = (n + 2) + 1 from rfl, Nat.mul_add, Nat.mul_one]; omega
      rw [e]
      generalize n * (n + 2) = p at this ⊢
      omega
theorem CacheSz.app {a b : List Slot} {n w n2 w2 : Nat} (h : CacheSz a n w) (k : CacheSz b n2 w2) (hn : n + n2 ≤ 1000) : CacheSz (a ++ b) (n + n2) (w + w2) := by
  have h1 := h.n; have h2 := k.n; have h3 := h.w; have h4 := k.w
  refine ⟨⟨?_, fun x hx => (List.mem_append.1 hx).elim (h.ok.2 x) (k.ok.2 x)⟩, ?_, ?_⟩
  · show (a ++ b).length * 48 ≤ 140737488351232
    rw [List.length_append]; omega
  · rw [List.length_append]; omega
  · rw [toL_app]; omega
theorem CacheSz.one {k v : List Int} {w : Nat} (hk : byteL k) (hv : byteL v) (hw : k.length + v.length ≤ w) (hw2 : w ≤ 1000000) : CacheSz [⟨k, v⟩] 1 w := by
  refine ⟨⟨by show (1 : Nat) * 48 ≤ 140737488351232; decide, fun x hx => ?_⟩, Nat.le_refl _, ?_⟩
  · obtain rfl : x = ⟨k, v⟩ := by simpa using hx
    exact ⟨⟨show k.length * 1 ≤ 140737488351232 by omega, hk⟩, ⟨show v.length * 1 ≤ 140737488351232 by omega, hv⟩, trivial⟩
  · simp only [toL, Slot.tot]; omega
theorem anyL_is {c : Cur} (hc : c.ok) : (anyL c).2.ok ∧ CacheSz (anyL c).1 23 30000 := by
  obtain ⟨hc1, hl⟩ := drawP_is hc
  have hc2 := belowC_ok hc1 10
  have up : ∀ {l : List Slot} {n w : Nat}, CacheSz l n w → n ≤ 23 → w ≤ 30000 → CacheSz l 23 30000 := fun h h1 h2 => ⟨h.ok, Nat.le_trans h.n h1, Nat.le_trans h.w h2⟩
  unfold anyL
  simp only
  split
  · refine ⟨bytesC_ok 3 (belowC_ok hc2 6), up (hl.app (CacheSz.one (w := 5) (sB_byte _) (bytesV_byte 3 _) ?_ (by decide)) (by decide)) (by decide) (by decide)⟩
    have := keyV_len (belowC (drawP c).2 10)
    have e : (sB (pickS keyL (belowC (drawP c).2 10) 6)).length = (keyV (belowC (drawP c).2 10)).length := rfl
    rw [bytesV_len]; omega
  · split
    · obtain ⟨q1, q2⟩ := belowV_rng (belowC (drawP c).2 10) (n := 102) (by omega)
      refine ⟨belowC_ok hc2 102, up (hl.app (CacheSz.one (w := 4000) (fun x hx => by simp [zzB] at hx; omega) (fun x hx => by rw [(List.mem_replicate.1 hx).2]; decide) ?_ (by decide)) (by decide)) (by decide) (by decide)⟩
      rw [List.length_replicate]
      show 2 + _ ≤ _
      omega
    · split
      · exact ⟨hc2, up (hl.app (zKs_is 18 (by decide)) (by decide)) (by decide) (by decide)⟩
      · split
        · obtain ⟨d1, d2, d3⟩ := dmg_is (drawP c).1 (belowV (belowC (drawP c).2 10) 3) (belowV (belowC (belowC (drawP c).2 10) 3) 40) (1 + belowV (belowC (belowC (belowC (drawP c).2 10) 3) 40) 255) hl.ok
          exact ⟨belowC_ok (belowC_ok (belowC_ok hc2 3) 40) 255, d2, by rw [d1]; have := hl.n; omega, by rw [d3]; have := hl.w; omega⟩
        · exact ⟨hc2, up hl (by decide) (by decide)⟩
/- 8: loop.example/g00464/spec.DrawCacheOk -/
def A8 : AC := (.seq (.ops [⟨(some 2), none, .q (.mov (.c .em))⟩])
  (.seq (.ops [⟨(some 4), none, .q (.mov (.t 0))⟩, ⟨(some 5), none, .c (.c (.clo 39 [])) [(.t 4)]⟩, ⟨(some 3), none, .q (.mov (.t 5))⟩])
  (.seq (.ops [⟨(some 6), none, .q (.mov (.t 3))⟩, ⟨(some 7), none, .c (.c (.clo 40 [])) [(.t 6)]⟩, ⟨(some 2), none, .q (.mov (.t 7))⟩])
  .ret)))
theorem K8 : Tryz.f8.body.bind (comp Tryz.prog) = some A8 ∧ Tryz.f8.ntmps = 8 ∧ Tryz.f8.results.toList.mapM (resB Tryz.prog) = some [.mov (.t 2)] := ⟨by kernel_rfl, by kernel_rfl, by kernel_rfl⟩
theorem R8 (code : List Int) (hx : Ty.byte.slice.ok code) : Ret Tryz.prog 8 [.ro (rows B code) code.length] (.own (rows Slot.ty.cs (anyL (newC code)).1) (anyL (newC code)).1.length 2) [.un] := by
  have fr : ∀ c : Cur, idfree.idfreeL c.cs = true := fun c => rfl
  have hc0 := newC_ok hx
  refine Ret.run Tryz.func8 K8 (by simp) rfl rfl 900 ?_
  simp [A8, iniρ, over]
  refine callK.cut [.ro] 50 (r := [(none, none)]) rfl (by kernel_rfl) rfl (by rfl) (by rfl) (by simp [closedB, shut, upd_app]) (by simp [shutArgs, roc_ro, upd_app]; rfl) (by rfl) (R39 code hx) (by rfl) (by rfl) (by simp [inst, upd_app]; exact ⟨rfl, rfl⟩) rfl ?_
  simp [over]
  refine callK.bx (b := 50) 7 rfl (by kernel_rfl) (by simp [upd_app]) (by simp [upd_app]) (fr _) (by simp [upd_app]) (by simp) (R40 _ hc0) rfl (by simp [inst, upd_app]; exact ⟨rfl, rfl⟩) rfl ?_
  simp [ex1, Slot.csl, Slot.frC]
/- 12: loop.example/g00464/spec.DrawCacheSize -/
def A12 : AC := (.seq (.ops [⟨(some 2), none, .q (.mov (.c .em))⟩])
  (.seq (.ops [⟨(some 4), none, .q (.mov (.t 0))⟩, ⟨(some 5), none, .c (.c (.clo 39 [])) [(.t 4)]⟩, ⟨(some 3), none, .q (.mov (.t 5))⟩])
  (.seq (.ops [⟨(some 6), none, .q (.mov (.t 3))⟩, ⟨(some 7), none, .c (.c (.clo 40 [])) [(.t 6)]⟩, ⟨(some 2), none, .q (.mov (.t 7))⟩])
  .ret)))
theorem K12 : Tryz.f12.body.bind (comp Tryz.prog) = some A12 ∧ Tryz.f12.ntmps = 8 ∧ Tryz.f12.results.toList.mapM (resB Tryz.prog) = some [.mov (.t 2)] := ⟨by kernel_rfl, by kernel_rfl, by kernel_rfl⟩
theorem R12 (code : List Int) (hx : Ty.byte.slice.ok code) : Ret Tryz.prog 12 [.ro (rows B code) code.length] (.own (rows Slot.ty.cs (anyL (newC code)).1) (anyL (newC code)).1.length 2) [.un] := by
  have fr : ∀ c : Cur, idfree.idfreeL c.cs = true := fun c => rfl
  have hc0 := newC_ok hx
  refine Ret.run Tryz.func12 K12 (by simp) rfl rfl 900 ?_
  simp [A12, iniρ, over]
  refine callK.cut [.ro] 50 (r := [(none, none)]) rfl (by kernel_rfl) rfl (by rfl) (by rfl) (by simp [closedB, shut, upd_app]) (by simp [shutArgs, roc_ro, upd_app]; rfl) (by rfl) (R39 code hx) (by rfl) (by rfl) (by simp [inst, upd_app]; exact ⟨rfl, rfl⟩) rfl ?_
  simp [over]
  refine callK.bx (b := 50) 7 rfl (by kernel_rfl) (by simp [upd_app]) (by simp [upd_app]) (fr _) (by simp [upd_app]) (by simp) (R40 _ hc0) rfl (by simp [inst, upd_app]; exact ⟨rfl, rfl⟩) rfl ?_
  simp [ex1, Slot.csl, Slot.frC]
end Go.Proofs.YtaknfalbmblagaaGreatDoor.Am
namespace Go.Proofs.YtaknfalbmblagaaGreatDoor.Am
open Go Go.Proofs
set_option linter.unusedSimpArgs false
set_option linter.unusedVariables false
attribute [local congr] T_congr callK_congr callWK_congr
attribute [local simp] run_nil run_op0 run_opg run_seq run_cond run_block run_ret run_skip run_skip_after run_skip_blk run_exit run_exit_after run_exit_blk run_loop run_any runS_nil runS_op0 runS_opg runW_nil runW_op0 runW_opg exec_q exec_w exec_c exec_n execW_q execW_w execW_c restW_app hideH_app merge_app wblk rest_app restS_app execS_q execS_c aval dOk upd_app ev_t ev_c setO_some setO_none put_mk pinsOf isIo hasIo sbin endR fin resL one outL out1 clo1 cloL coe coeL shut shut.shutL wantA weff cellsOf fillA deref natOf ρ0_app h0_app plain plain.plainL keep_app keepH_app andThen_normal andThen_ret andThen_exit pop_nil pop_after pop_after_ret pop_after_exit pop_blk pop_blk_ret pop_blk_exit nilA srcOf srcCells keepR_app keepHR_app renA rb
def slotKey (l : List Slot) (i : Nat) : List Int := match l[i]? with | some s => s.key | none => []
def getP (code : List Int) : List Slot × List Int :=
  let l := (anyL (newC code)).1
  let c := (anyL (newC code)).2
  if 0 < l.length then
    if belowV c 3 = 0 then (l, keyV (belowC c 3)) else (l, slotKey l (belowV (belowC c 3) l.length).toNat)
  else (l, keyV c)
/- 9: loop.example/g00464/spec.DrawCacheGet -/
def A9 : AC := (.seq (.ops [⟨(some 2), none, .q (.mov (.c .em))⟩, ⟨(some 3), none, .q (.mov (.c .em))⟩])
  (.seq (.ops [⟨(some 6), none, .q (.mov (.t 0))⟩, ⟨(some 7), none, .c (.c (.clo 39 [])) [(.t 6)]⟩, ⟨(some 4), none, .q (.mov (.t 7))⟩])
  (.seq (.ops [⟨(some 8), none, .q (.mov (.t 4))⟩, ⟨(some 9), none, .c (.c (.clo 40 [])) [(.t 8)]⟩, ⟨(some 5), none, .q (.mov (.t 9))⟩])
  (.seq (.seq (.ops [⟨(some 10), none, .q (.mov (.t 5))⟩, ⟨(some 11), none, .q (.llen (.t 10))⟩, ⟨(some 12), none, .q (.bin .gtr (.t 11) (.c (.sc (.int .i64 0))))⟩, ⟨(some 13), none, .q (.mov (.t 12))⟩, ⟨(some 14), (some (13, true)), .q (.mov (.t 4))⟩, ⟨(some 15), (some (13, true)), .c (.c (.clo 41 [])) [(.t 14), (.c (.sc (.int .i64 3)))]⟩, ⟨(some 16), (some (13, true)), .q (.not (.t 15))⟩, ⟨(some 17), none, .q (.pick (.t 13) (.t 16) (.c (.sc (.bool false))))⟩])
  (.cond (.t 17) (.seq (.ops [⟨(some 18), none, .q (.mov (.t 5))⟩, ⟨(some 19), none, .w (.bsl 1 0 [] [])⟩, ⟨(some 20), none, .q (.mov (.t 5))⟩, ⟨(some 21), none, .q (.mov (.t 4))⟩, ⟨(some 22), none, .q (.mov (.t 5))⟩, ⟨(some 23), none, .q (.llen (.t 22))⟩, ⟨(some 24), none, .c (.c (.clo 42 [])) [(.t 21), (.t 23)]⟩, ⟨(some 25), none, .q (.iadr 2 (.t 20) (.t 24))⟩, ⟨(some 26), none, .q (.fadr 0 (.t 25))⟩, ⟨(some 27), none, .q (.load false 1 (.t 26))⟩, ⟨(some 28), none, .w (.app 1 1 false (.t 19) (.t 27))⟩, ⟨(some 2), none, .q (.mov (.t 18))⟩, ⟨(some 3), none, .q (.mov (.t 28))⟩])
  .ret)
  .skip))
  (.seq (.ops [⟨(some 29), none, .q (.mov (.t 5))⟩, ⟨(some 30), none, .q (.mov (.t 4))⟩, ⟨(some 31), none, .c (.c (.clo 43 [])) [(.t 30)]⟩, ⟨(some 2), none, .q (.mov (.t 29))⟩, ⟨(some 3), none, .q (.mov (.t 31))⟩])
  .ret)))))
theorem K9 : Tryz.f9.body.bind (comp Tryz.prog) = some A9 ∧ Tryz.f9.ntmps = 32 ∧ Tryz.f9.results.toList.mapM (resB Tryz.prog) = some [.mov (.t 2), .mov (.t 3)] := ⟨by kernel_rfl, by kernel_rfl, by kernel_rfl⟩
set_option maxHeartbeats 2000000 in
theorem R9 (code : List Int) (hx : Ty.byte.slice.ok code) : Ret Tryz.prog 9 [.ro (rows B code) code.length] (.tup [.own (rows Slot.ty.cs (getP code).1) (getP code).1.length 2, .ro (rows B (getP code).2) (getP code).2.length]) [.un] := by
  have fr : ∀ c : Cur, idfree.idfreeL c.cs = true := fun c => rfl
  have hc0 := newC_ok hx
  obtain ⟨hc1, hl⟩ := anyL_is hc0
  have ra := R40 _ hc0
  obtain ⟨l, hle⟩ : ∃ l, l = (anyL (newC code)).1 := ⟨_, rfl⟩
  obtain ⟨c, hce⟩ : ∃ c, c = (anyL (newC code)).2 := ⟨_, rfl⟩
  have hG : getP code = if 0 < l.length then (if belowV c 3 = 0 then (l, keyV (belowC c 3)) else (l, slotKey l (belowV (belowC c 3) l.length).toNat)) else (l, keyV c) := by subst hle hce; rfl
  rw [← hle, ← hce] at ra
  rw [← hle] at hl
  rw [← hce] at hc1
  have hn := hl.n
  rw [hG]
  refine Ret.runT Tryz.func9 K9 (by simp) rfl rfl ?_
  refine run_ok (n := 500) ?_
  simp [A9, iniρ, over, leR_app]
  refine callK.cut [.ro] 50 (r := [(none, none)]) rfl (by kernel_rfl) rfl (by rfl) (by rfl) (by simp [closedB, shut, upd_app]) (by simp [shutArgs, roc_ro, upd_app]; rfl) (by rfl) (R39 code hx) (by rfl) (by rfl) (by simp [inst, upd_app]; exact ⟨rfl, rfl⟩) rfl ?_
  simp [over]
  refine callK.bx (b := 50) 9 rfl (by kernel_rfl) (by simp [upd_app]) (by simp [upd_app]) (fr _) (by simp [upd_app]) (by simp) ra rfl (by simp [inst, upd_app]; exact ⟨rfl, rfl⟩) rfl ?_
  by_cases h0 : 0 < l.length
  case neg =>
    have h0i : ¬ (0 : Int) < l.length := by omega
    simp [h0, h0i]
    refine callK.bx (b := 50) 31 rfl (by kernel_rfl) (by simp [upd_app]) (by simp [upd_app]) (fr _) (by simp [upd_app]) (by simp) (R43 c hc1) rfl (by simp [inst, shut, upd_app]; exact ⟨rfl, rfl⟩) rfl ?_
    simp
    rw [leR_app]
    refine ⟨_, Le.refl _, ?_⟩
    simp [ex1, upd_app, Slot.csl, Slot.frC]
  have h0i : (0 : Int) < l.length := by omega
  have hc2 := belowC_ok hc1 3
  simp [h0, h0i]
  refine callK.bx (b := 50) 0 rfl (by kernel_rfl) (by simp [upd_app]) (by simp [upd_app]) (fr _) (by simp [upd_app]) (by simp) (R41 c hc1 3) rfl (by rfl) rfl ?_
  by_cases h1 : belowV c 3 = 0
  · simp [h1]
    refine callK.bx (b := 50) 31 rfl (by kernel_rfl) (by simp [upd_app]) (by simp [upd_app]) (fr _) (by simp [upd_app]) (by simp) (R43 _ hc2) rfl (by simp [inst, shut, upd_app]; exact ⟨rfl, rfl⟩) rfl ?_
    simp
    rw [leR_app]
    refine ⟨_, Le.refl _, ?_⟩
    simp [ex1, upd_app, Slot.csl, Slot.frC]
  obtain ⟨q1, q2⟩ := belowV_rng (belowC c 3) (n := l.length) (by omega)
  obtain ⟨i, hi⟩ : ∃ i : Nat, belowV (belowC c 3) l.length = i := ⟨(belowV (belowC c 3) l.length).toNat, by omega⟩
  have rb := R42 (belowC c 3) hc2 l.length
  rw [hi] at q1 q2 rb
  have hil : i < l.length := by omega
  obtain ⟨x, hxi⟩ : ∃ x, l[i]? = some x := ⟨_, List.getElem?_eq_getElem hil⟩
  have hsk : slotKey l i = x.key := by simp [slotKey, hxi]
  have hd : List.drop (i * 2) (rows Slot.ty.cs l) = .ro (rows B x.key) x.key.length :: .ro (rows B x.b) x.b.length :: rows Slot.ty.cs (l.drop (i + 1)) := by
    have h := rows_dropN Slot.ty.csn l i (by omega)
    have h : List.drop (i * 2) (rows Slot.ty.cs l) = rows Slot.ty.cs (l.drop i) := h
    rw [h, List.drop_eq_getElem_cons hil, rows_cons]
    have e : l[i] = x := by rw [List.getElem?_eq_getElem hil] at hxi; exact Option.some.inj hxi
    rw [e]; rfl
  have hxk : x.key.length ≤ 140737488355328 := by
    have : x.key.length * 1 ≤ 140737488351232 := (hl.ok.2 x (List.mem_of_getElem? hxi)).1.1
    omega
  simp [h1, hi, hsk, over]
  refine callK.bx (b := 50) 0 rfl (by kernel_rfl) (by simp [upd_app]) (by simp [upd_app]) (fr _) (by simp [upd_app]) (by simp) rb rfl (by rfl) rfl ?_
  simp [hil, hd, B.count, hxk, over]
  rw [leR_app]
  refine ⟨_, Le.freeze 8 [2] [9] [(3, .ro (rows B x.key) x.key.length)] (by simp [upd_app, menB]) (by simp [upd_app]; exact idfreeL_mem (Slot.frC l)) (by simp [upd_app]; exact roc_sl (cs := rows B x.key) (by simp [hideH_app, upd_app]) (by rw [B.count, Nat.mul_one]) (B_shut _)), ?_⟩
  simp [frz, keep_app, keepH_app, ex1, upd_app, Slot.csl, Slot.frC]
/- 19: loop.example/g00464/spec.DrawCachePut -/
/- 25: loop.example/g00464/spec.DrawDamage -/
/- 21: loop.example/g00464/laws.sameSlots -/
end Go.Proofs.YtaknfalbmblagaaGreatDoor.Am
namespace Go.Proofs.YtaknfalbmblagaaGreatDoor.Am
open Go Go.Proofs
set_option linter.unusedSimpArgs false
set_option linter.unusedVariables false
attribute [local congr] T_congr callK_congr callWK_congr
attribute [local simp] run_nil run_op0 run_opg run_seq run_cond run_block run_ret run_skip run_skip_after run_skip_blk run_exit run_exit_after run_exit_blk run_loop run_any runS_nil runS_op0 runS_opg runW_nil runW_op0 runW_opg exec_q exec_w exec_c exec_n execW_q execW_w execW_c restW_app hideH_app merge_app wblk rest_app restS_app execS_q execS_c aval dOk upd_app ev_t ev_c setO_some setO_none put_mk pinsOf isIo hasIo sbin endR fin resL one outL out1 clo1 cloL coe coeL shut shut.shutL wantA weff cellsOf fillA deref natOf ρ0_app h0_app plain plain.plainL keep_app keepH_app andThen_normal andThen_ret andThen_exit pop_nil pop_after pop_after_ret pop_after_exit pop_blk pop_blk_ret pop_blk_exit nilA srcOf srcCells keepR_app keepHR_app renA rb
theorem eqBy_all {α : Type} {f : α → α → Bool} (h : ∀ x, f x x = true) : ∀ xs : List α, eqBy f xs xs = true
  | [] => rfl
  | x :: xs => by simp [eqBy, h x, eqBy_all h xs]
theorem strEq_refl (a : ByteArray) : strEq a a = true := by simp [strEq]
theorem fileEq_refl (m : File) : fileEq m m = true := by simp [fileEq, strEq_refl]
theorem madeEq_refl (m : Made) : madeEq m m = true := by simp [madeEq, strEq_refl, eqBy_all fileEq_refl]
theorem Slot.rocC {h : Hp} {b : Nat} {xs : List Slot} {lim : Bool} (hb : h b = some (some (rows Slot.ty.cs xs))) : roc h 8 (.sl b 0 xs.length 2 lim) = some (.ro (rows Slot.ty.cs xs) xs.length) := roc_sl hb (Slot.csl xs) (shutL_of (rows_all Slot.ty.sh xs))
theorem madeA_ok (xs : List Slot) (k : List Int) (hx : Slot.ty.slice.ok xs) : ∃ (y : Made) (yb : Bool), madeA (cacheGet xs k) = .tup [.agg (Made.ty.oc y), .sc (.bool yb)] ∧ Fit y ∧ (yb = true → madeOk y = true) := by
  cases h : cacheGet xs k with
  | none => exact ⟨noMade, false, rfl, noMade_fit, fun h => by cases h⟩
  | some m =>
    refine ⟨m, true, rfl, cacheGet_fit hx h, fun _ => ?_⟩
    unfold cacheGet at h
    split at h
    case isFalse => cases h
    split at h
    · split at h
      · split at h
        · rename_i hm; cases h; exact hm
        · cases h
      · cases h
    · cases h
theorem getP_is {code : List Int} (hx : Ty.byte.slice.ok code) : (getP code).1 = (anyL (newC code)).1 := by
  unfold getP
  simp only
  split
  · split <;> rfl
  · rfl
/- 7: loop.example/g00464/laws.big -/
def A7 : AC := (.seq (.ops [⟨(some 2), none, .q (.mov (.c (.sc (.bool false))))⟩])
  (.seq (.ops [⟨(some 3), none, .q (.mov (.t 0))⟩, ⟨(some 4), none, .q (.llen (.t 3))⟩, ⟨(some 5), none, .q (.bin .gtr (.t 4) (.c (.sc (.int .i64 1048576))))⟩, ⟨(some 2), none, .q (.mov (.t 5))⟩])
  .ret))
theorem K7 : Tryz.f7.body.bind (comp Tryz.prog) = some A7 ∧ Tryz.f7.ntmps = 6 ∧ Tryz.f7.results.toList.mapM (resB Tryz.prog) = some [.mov (.t 2)] := ⟨by kernel_rfl, by kernel_rfl, by kernel_rfl⟩
theorem R7 (code : List Int) : Ret Tryz.prog 7 [.ro (rows B code) code.length] (.sc (.bool (decide ((1048576 : Int) < code.length)))) [.un] := by
  refine Ret.run Tryz.func7 K7 (by simp) rfl rfl 500 ?_
  simp [A7, iniρ]
/- 3: loop.example/g00464/laws.FnCachesBent -/
def A3 : AC := (.seq (.ops [⟨(some 2), none, .q (.mov (.c (.sc (.bool false))))⟩])
  (.seq (.seq (.ops [⟨(some 11), none, .q (.mov (.t 0))⟩, ⟨(some 12), none, .c (.c (.clo 7 [])) [(.t 11)]⟩])
  (.cond (.t 12) (.seq (.ops [⟨(some 2), none, .q (.mov (.c (.sc (.bool true))))⟩])
  .ret)
  .skip))
  (.seq (.ops [⟨(some 13), none, .q (.mov (.t 0))⟩, ⟨(some 14), none, .c (.c (.clo 8 [])) [(.t 13)]⟩, ⟨(some 3), none, .q (.mov (.t 14))⟩])
  (.seq (.ops [⟨(some 16), none, .q (.mov (.t 0))⟩, ⟨(some 17), none, .c (.c (.clo 9 [])) [(.t 16)]⟩, ⟨(some 15), none, .q (.mov (.t 17))⟩, ⟨(some 18), none, .q (.ext (.t 15) 0)⟩, ⟨(some 19), none, .q (.ext (.t 15) 1)⟩, ⟨(some 4), none, .q (.mov (.t 18))⟩, ⟨(some 5), none, .q (.mov (.t 19))⟩])
  (.seq (.ops [⟨(some 21), none, .q (.mov (.t 4))⟩, ⟨(some 22), none, .q (.mov (.t 5))⟩, ⟨(some 23), none, .c (.c (.clo 10 [])) [(.t 21), (.t 22)]⟩, ⟨(some 20), none, .q (.mov (.t 23))⟩, ⟨(some 24), none, .q (.ext (.t 20) 0)⟩, ⟨(some 25), none, .q (.ext (.t 20) 1)⟩, ⟨(some 6), none, .w (.alloc [(.sc (.string ⟨#[]⟩)), .em, (.sc (.string ⟨#[]⟩))])⟩, ⟨none, none, .w (.store 3 (.t 6) (.t 24))⟩, ⟨(some 7), none, .q (.mov (.t 25))⟩])
  (.seq (.ops [⟨(some 27), none, .q (.mov (.t 4))⟩, ⟨(some 28), none, .q (.mov (.t 5))⟩, ⟨(some 29), none, .c (.c (.clo 11 [])) [(.t 27), (.t 28)]⟩, ⟨(some 26), none, .q (.mov (.t 29))⟩, ⟨(some 30), none, .q (.ext (.t 26) 0)⟩, ⟨(some 31), none, .q (.ext (.t 26) 1)⟩, ⟨(some 8), none, .w (.alloc [(.sc (.string ⟨#[]⟩)), .em, (.sc (.string ⟨#[]⟩))])⟩, ⟨none, none, .w (.store 3 (.t 8) (.t 30))⟩, ⟨(some 9), none, .q (.mov (.t 31))⟩])
  (.seq (.ops [⟨(some 32), none, .q (.mov (.t 0))⟩, ⟨(some 33), none, .c (.c (.clo 12 [])) [(.t 32)]⟩, ⟨(some 10), none, .q (.mov (.t 33))⟩])
  (.seq (.ops [⟨(some 34), none, .q (.mov (.t 3))⟩, ⟨(some 35), none, .c (.c (.clo 13 [])) [(.t 34)]⟩, ⟨(some 36), none, .q (.mov (.t 3))⟩, ⟨(some 37), none, .c (.c (.clo 14 [])) [(.t 36)]⟩, ⟨(some 38), none, .q (.beq false (.t 35) (.t 37))⟩, ⟨(some 39), none, .q (.mov (.t 38))⟩, ⟨(some 40), (some (39, true)), .q (.mov (.t 7))⟩, ⟨(some 41), (some (39, true)), .q (.mov (.t 9))⟩, ⟨(some 42), (some (39, true)), .q (.beq false (.t 40) (.t 41))⟩, ⟨(some 43), none, .q (.pick (.t 39) (.t 42) (.c (.sc (.bool false))))⟩, ⟨(some 44), none, .q (.mov (.t 43))⟩, ⟨(some 45), (some (44, true)), .q (.load true 3 (.t 6))⟩, ⟨(some 46), (some (44, true)), .q (.load true 3 (.t 8))⟩, ⟨(some 47), (some (44, true)), .c (.c (.clo 15 [])) [(.t 45), (.t 46)]⟩, ⟨(some 48), none, .q (.pick (.t 44) (.t 47) (.c (.sc (.bool false))))⟩, ⟨(some 49), none, .q (.mov (.t 48))⟩, ⟨(some 50), (some (49, true)), .q (.mov (.t 7))⟩, ⟨(some 51), (some (49, true)), .q (.not (.t 50))⟩, ⟨(some 52), (some (49, true)), .q (.mov (.t 51))⟩, ⟨(some 53), (some (52, false)), .q (.load true 3 (.t 6))⟩, ⟨(some 54), (some (52, false)), .c (.c (.clo 16 [])) [(.t 53)]⟩, ⟨(some 55), (some (49, true)), .q (.pick (.t 52) (.c (.sc (.bool true))) (.t 54))⟩, ⟨(some 56), none, .q (.pick (.t 49) (.t 55) (.c (.sc (.bool false))))⟩, ⟨(some 57), none, .q (.mov (.t 56))⟩, ⟨(some 58), (some (57, true)), .q (.mov (.t 10))⟩, ⟨(some 59), (some (57, true)), .c (.c (.clo 17 [])) [(.t 58)]⟩, ⟨(some 60), (some (57, true)), .q (.mov (.t 10))⟩, ⟨(some 61), (some (57, true)), .c (.c (.clo 18 [])) [(.t 60)]⟩, ⟨(some 62), (some (57, true)), .q (.bin .eql (.t 59) (.t 61))⟩, ⟨(some 63), none, .q (.pick (.t 57) (.t 62) (.c (.sc (.bool false))))⟩, ⟨(some 2), none, .q (.mov (.t 63))⟩])
  .ret))))))))
theorem K3 : Tryz.f3.body.bind (comp Tryz.prog) = some A3 ∧ Tryz.f3.ntmps = 64 ∧ Tryz.f3.results.toList.mapM (resB Tryz.prog) = some [.mov (.t 2)] := ⟨by kernel_rfl, by kernel_rfl, by kernel_rfl⟩
set_option maxHeartbeats 4000000 in
set_option maxRecDepth 100000 in
theorem R3 (code : List Int) (hx : Ty.byte.slice.ok code) : Ret Tryz.prog 3 [.ro (rows Ty.byte.cs code) code.length] (.sc (.bool true)) [.un] := by
  change Ret Tryz.prog 3 [.ro (rows B code) code.length] (.sc (.bool true)) [.un]
  obtain ⟨_, hl⟩ := anyL_is (newC_ok hx)
  have r1 := R8 code hx
  have r2 := R9 code hx
  have r3 := R12 code hx
  have hg := getP_is hx
  obtain ⟨k, hk⟩ : ∃ k, k = (getP code).2 := ⟨_, rfl⟩
  rw [hg, ← hk] at r2
  obtain ⟨l, hle⟩ : ∃ l, l = (anyL (newC code)).1 := ⟨_, rfl⟩
  rw [← hle] at r1 r2 r3 hl
  have hb : l.length < 4611686018427387904 := by have := hl.n; omega
  obtain ⟨y, yb, hy, yf, yk⟩ := madeA_ok l k hl.ok
  have yo := fit_ok yf
  have rs : Ret Tryz.prog 11 [.ro (rows Slot.ty.cs l) l.length, .ro (rows B k) k.length] (madeA (cacheGet l k)) [.un, .un] := R11 l k hl.ok
  have ri : Ret Tryz.prog 10 [.ro (rows Slot.ty.cs l) l.length, .ro (rows B k) k.length] (madeA (cacheGet l k)) [.un, .un] := R10 l k hl.ok
  rw [hy] at rs ri
  have fR : flt (.tup [.agg (Made.ty.oc y), .sc (.bool yb)]) = true := by
    have := Made.ty.flL y
    simp [flt, flt.fltL, this]
  have yt := yf.task
  have yn := yf.num
  have rm := R16 y (by omega) (by omega) (fun x hx => by have := (yf.outs x hx).1; omega)
  have rsm := R15 y y yo
  rw [madeEq_refl] at rsm
  rw [Made.cse] at rsm rm
  rw [Made.oce] at rs ri fR
  refine Ret.run Tryz.func3 K3 (by simp) rfl rfl 900 ?_
  simp [A3, iniρ]
  refine callK.ro 0 rfl (by kernel_rfl) (by simp [roc_ro]) (R7 code) rfl rfl rfl ?_
  by_cases hbig : (1048576 : Int) < code.length
  · simp [hbig]
  simp [hbig]
  refine callK.cut [.ro] 14 (r := [(none, none)]) rfl (by kernel_rfl) rfl (by rfl) (by rfl) (by simp [closedB, shut, upd_app]) (by simp [shutArgs, roc_ro, upd_app]; rfl) (by rfl) r1 (by rfl) (by rfl) (by simp [inst, upd_app]; exact ⟨rfl, rfl⟩) rfl ?_
  simp
  refine callK.cut [.ro] 17 (r := [(none, none)]) rfl (by kernel_rfl) rfl (by rfl) (by rfl) (by simp [closedB, shut, upd_app]) (by simp [shutArgs, roc_ro, upd_app]; rfl) (by rfl) r2 (by rfl) (by rfl) (by simp [inst, instL, shut, upd_app]; exact ⟨rfl, rfl⟩) rfl ?_
  simp
  refine callK.ro 23 rfl (by kernel_rfl) (by simp [roc_ro, Slot.rocC, upd_app]) ri fR (by simp [inst, instL, shut, upd_app]; exact ⟨rfl, rfl⟩) rfl ?_
  simp [over]
  refine callK.ro 29 rfl (by kernel_rfl) (by simp [roc_ro, Slot.rocC, upd_app]) rs fR (by simp [inst, instL, shut, upd_app]; exact ⟨rfl, rfl⟩) rfl ?_
  simp [over]
  refine callK.cut [.ro] 33 (r := [(none, none)]) rfl (by kernel_rfl) rfl (by rfl) (by rfl) (by simp [closedB, shut, upd_app]) (by simp [shutArgs, roc_ro, upd_app]; rfl) (by rfl) r3 (by rfl) (by rfl) (by simp [inst, upd_app]; exact ⟨rfl, rfl⟩) rfl ?_
  simp
  refine callK.ro 0 rfl (by kernel_rfl) (by simp [roc_ro, Slot.rocC, upd_app]) (R13 l hb) rfl rfl rfl ?_
  simp
  refine callK.ro 0 rfl (by kernel_rfl) (by simp [roc_ro, Slot.rocC, upd_app]) (R14 l hb) rfl rfl rfl ?_
  simp [over]
  refine callK.ro 0 rfl (by kernel_rfl) (by simp [roc_agg8, List.mapM_cons, List.mapM_nil, roc_sc, File.roc7, upd_app]) rsm rfl rfl rfl ?_
  cases hyb : yb with
  | false =>
    simp [over]
    refine callK.ro 0 rfl (by kernel_rfl) (by simp [roc_ro, Slot.rocC, upd_app]) (R17 l hb) rfl rfl rfl ?_
    simp
    refine callK.ro 0 rfl (by kernel_rfl) (by simp [roc_ro, Slot.rocC, upd_app]) (R18 l hb) rfl rfl rfl ?_
    simp
  | true =>
    rw [yk hyb] at rm
    simp [over]
    refine callK.ro 0 rfl (by kernel_rfl) (by simp [roc_agg8, List.mapM_cons, List.mapM_nil, roc_sc, File.roc7, upd_app]) rm rfl rfl rfl ?_
    simp
    refine callK.ro 0 rfl (by kernel_rfl) (by simp [roc_ro, Slot.rocC, upd_app]) (R17 l hb) rfl rfl rfl ?_
    simp
    refine callK.ro 0 rfl (by kernel_rfl) (by simp [roc_ro, Slot.rocC, upd_app]) (R18 l hb) rfl rfl rfl ?_
    simp
end Go.Proofs.YtaknfalbmblagaaGreatDoor.Am
