/- The small machine and the contracts of the functions, part 3 (DrawMades, DrawCache, DrawCache2, LawCachesBent, CachesLaw, LawCaches, DamagedLaw, At, LawDamaged); no condition. -/
import Derived.Test.YtaknfalbmblagaaGreatDoorProg
import Derived.Test.YtaknfalbmblagaaGreatDoorAmZ
import Derived.Test.YtaknfalbmblagaaGreatDoorAmP
import Derived.Test.YtaknfalbmblagaaGreatDoorB1
import Derived.Test.YtaknfalbmblagaaGreatDoorB2
import Derived.KernelRfl
namespace Go.Proofs.YtaknfalbmblagaaGreatDoor.Am
open Go Go.Proofs
set_option linter.unusedSimpArgs false
set_option linter.unusedVariables false
attribute [local congr] T_congr callK_congr callWK_congr
attribute [local simp] run_nil run_op0 run_opg run_seq run_cond run_block run_ret run_skip run_skip_after run_skip_blk run_exit run_exit_after run_exit_blk run_loop run_any runS_nil runS_op0 runS_opg runW_nil runW_op0 runW_opg exec_q exec_w exec_c exec_n execW_q execW_w execW_c restW_app hideH_app merge_app wblk rest_app restS_app execS_q execS_c aval dOk upd_app ev_t ev_c setO_some setO_none put_mk pinsOf isIo hasIo sbin endR fin resL one outL out1 clo1 cloL coe coeL shut shut.shutL wantA weff cellsOf fillA deref natOf ρ0_app h0_app plain plain.plainL keep_app keepH_app andThen_normal andThen_ret andThen_exit pop_nil pop_after pop_after_ret pop_after_exit pop_blk pop_blk_ret pop_blk_exit nilA srcOf srcCells keepR_app keepHR_app renA rb
def doneL : List ByteArray := [⟨#[]⟩, ⟨#[100, 111, 110, 101, 10]⟩, ⟨#[120, 32, 121, 10]⟩]
def opqL : List ByteArray := [⟨#[111]⟩, ⟨#[112]⟩, ⟨#[113]⟩]
def hiTL : List ByteArray := [⟨#[]⟩, ⟨#[104, 105]⟩, ⟨#[104, 101, 108, 108, 111]⟩]
def oneOut (c : Cur) : File := ⟨pickS opqL c 3, pickS hiTL (belowC c 3) 3⟩
def puts : Nat → Cur → List File → List File × Cur
  | 0, c, l => (l, c)
  | n + 1, c, l => puts n (belowC (belowC c 3) 3) (putFile l (oneOut c)).1
def madeP (c : Cur) : List File × Cur := puts (belowV (belowC c 3) 3).toNat (belowC (belowC c 3) 3) []
def madeV (c : Cur) (t : ByteArray) : Made := ⟨t, (madeP c).1, pickS doneL c 3⟩
def madeC (c : Cur) : Cur := (madeP c).2

theorem putFile_len (xs : List File) (f : File) : (putFile xs f).1.length ≤ xs.length + 1 := by
  unfold putFile
  split
  · exact putF_len f xs false
  · exact Nat.le_succ _
theorem putFile_mem (xs : List File) (f : File) : ∀ x ∈ (putFile xs f).1, x = f ∨ x ∈ xs := by
  unfold putFile
  split
  · exact putF_mem f xs false
  · exact fun x h => .inr h
theorem oneOut_size (c : Cur) : (oneOut c).path.size ≤ 5 ∧ (oneOut c).text.size ≤ 5 := ⟨pick_size (by decide) _ _, pick_size (by decide) _ _⟩
/- 91: loop.example/g00464/spec.l15Made -/
def A91 : AC := (.seq (.ops [⟨(some 4), none, .w (.alloc [(.sc (.string ⟨#[]⟩)), .em, (.sc (.string ⟨#[]⟩))])⟩])
  (.seq (.ops [⟨(some 7), none, .q (.mov (.t 1))⟩, ⟨(some 8), none, .q (.mov (.t 0))⟩, ⟨(some 9), none, .w (.bsl 1 3 [(.sc (.string ⟨#[]⟩)), (.sc (.string ⟨#[]⟩)), (.sc (.string ⟨#[]⟩))] [(0, 1, (.c (.sc (.string ⟨#[]⟩)))), (1, 1, (.c (.sc (.string ⟨#[100, 111, 110, 101, 10]⟩)))), (2, 1, (.c (.sc (.string ⟨#[120, 32, 121, 10]⟩))))])⟩, ⟨(some 10), none, .c (.c (.clo 77 [])) [(.t 8), (.t 9)]⟩, ⟨(some 11), none, .w (.build [(.sc (.string ⟨#[]⟩)), .em, (.sc (.string ⟨#[]⟩))] [(0, 1, (.t 7)), (2, 1, (.t 10))])⟩, ⟨(some 5), none, .w (.alloc [(.sc (.string ⟨#[]⟩)), .em, (.sc (.string ⟨#[]⟩))])⟩, ⟨none, none, .w (.store 3 (.t 5) (.t 11))⟩])
  (.seq (.seq (.ops [⟨(some 12), none, .q (.mov (.t 0))⟩, ⟨(some 13), none, .c (.c (.clo 42 [])) [(.t 12), (.c (.sc (.int .i64 3)))]⟩, ⟨(some 6), none, .q (.mov (.t 13))⟩])
  (.block 0 (.loop (.seq (.seq (.ops [⟨(some 14), none, .q (.mov (.t 6))⟩, ⟨(some 15), none, .q (.bin .gtr (.t 14) (.c (.sc (.int .i64 0))))⟩])
  (.cond (.t 15) .skip
  (.exit 0)))
  (.seq (.block 1 (.any [(⟨(some 19), none, .q (.fadr 1 (.t 5))⟩, []), (⟨(some 20), none, .q (.load false 1 (.t 19))⟩, [0]), (⟨(some 21), none, .q (.mov (.t 0))⟩, []), (⟨(some 22), none, .w (.bsl 1 3 [(.sc (.string ⟨#[]⟩)), (.sc (.string ⟨#[]⟩)), (.sc (.string ⟨#[]⟩))] [(0, 1, (.c (.sc (.string ⟨#[111]⟩)))), (1, 1, (.c (.sc (.string ⟨#[112]⟩)))), (2, 1, (.c (.sc (.string ⟨#[113]⟩))))])⟩, []), (⟨(some 23), none, .c (.c (.clo 77 [])) [(.t 21), (.t 22)]⟩, [2, 3]), (⟨(some 24), none, .q (.mov (.t 0))⟩, []), (⟨(some 25), none, .w (.bsl 1 3 [(.sc (.string ⟨#[]⟩)), (.sc (.string ⟨#[]⟩)), (.sc (.string ⟨#[]⟩))] [(0, 1, (.c (.sc (.string ⟨#[]⟩)))), (1, 1, (.c (.sc (.string ⟨#[104, 105]⟩)))), (2, 1, (.c (.sc (.string ⟨#[104, 101, 108, 108, 111]⟩))))])⟩, []), (⟨(some 26), none, .c (.c (.clo 77 [])) [(.t 24), (.t 25)]⟩, [5, 6, 4]), (⟨(some 27), none, .w (.build [(.sc (.string ⟨#[]⟩)), (.sc (.string ⟨#[]⟩))] [(0, 1, (.t 23)), (1, 1, (.t 26))])⟩, [4, 7]), (⟨(some 28), none, .c (.c (.clo 114 [])) [(.t 20), (.t 27)]⟩, [1, 8, 7]), (⟨(some 18), none, .q (.mov (.t 28))⟩, [9]), (⟨(some 29), none, .q (.ext (.t 18) 0)⟩, [10]), (⟨(some 30), none, .q (.ext (.t 18) 1)⟩, [10]), (⟨(some 31), none, .q (.fadr 1 (.t 5))⟩, [0, 1, 2, 3, 4, 5, 6, 7, 8, 9, 10, 11]), (⟨none, none, .w (.store 1 (.t 31) (.t 29))⟩, [13, 11, 9, 0, 1, 2, 3, 4, 5, 6, 7, 8, 9, 10, 11])]))
  (.ops [⟨(some 16), none, .q (.mov (.t 6))⟩, ⟨(some 17), none, .q (.bin .sub (.t 16) (.c (.sc (.int .i64 1))))⟩, ⟨(some 6), none, .q (.mov (.t 17))⟩]))))))
  (.seq (.ops [⟨(some 32), none, .q (.load true 3 (.t 5))⟩, ⟨none, none, .w (.store 3 (.t 4) (.t 32))⟩])
  .ret))))
theorem K91 : Tryz.f91.body.bind (comp Tryz.prog) = some A91 ∧ Tryz.f91.ntmps = 33 ∧ Tryz.f91.results.toList.mapM (resB Tryz.prog) = some [.load true 3 (.t 4)] := ⟨by kernel_rfl, by kernel_rfl, by kernel_rfl⟩
set_option maxHeartbeats 2000000 in
theorem R91 (c : Cur) (hc : c.ok) (t : ByteArray) : Ret Tryz.prog 91 [.bx c.cs, .sc (.string t)] (.agg (Made.ty.oc (madeV c t))) [.bx (madeC c).cs, .un] := by
  have fr : ∀ c : Cur, idfree.idfreeL c.cs = true := fun c => rfl
  have r1 : Ret Tryz.prog 77 [.bx c.cs, .own (rows Ty.str.oc doneL) 3 1] (.sc (.string (pickS doneL c 3))) [.bx (belowC c 3).cs, .un] := R77 c hc doneL (by decide)
  refine Ret.run Tryz.func91 K91 (by simp) rfl rfl 900 ?_
  simp [A91, iniρ, over]
  refine callK.bm 100000 9 (len := 3) (sz := 1) rfl (by kernel_rfl) (by simp [upd_app]) (by simp [upd_app]) (fr c) (by simp [upd_app]) (by simp [upd_app]; rfl) (by rfl) (by rfl) (by decide) r1 rfl rfl ?_
  simp [over]
  refine callK.bx (b := 100000) 0 rfl (by kernel_rfl) (by simp [upd_app]) (by simp [upd_app]) (fr _) (by simp [upd_app]) (by simp) (R42 _ (belowC_ok hc 3) 3) rfl (by rfl) rfl ?_
  obtain ⟨q1, q2⟩ := belowV_rng (belowC c 3) (n := 3) (by omega)
  obtain ⟨m, hm⟩ : ∃ m : Nat, belowV (belowC c 3) 3 = m := ⟨(belowV (belowC c 3) 3).toNat, by omega⟩
  have hP : puts m (belowC (belowC c 3) 3) [] = ((madeV c t).outs, madeC c) := by simp [madeV, madeC, madeP, hm]
  rw [hm] at q2 ⊢
  simp
  refine T.le (Le.layC 5 1 2 (by simp [upd_app]; rfl) rfl) ?_
  refine T.rounds (μ := fun i : Nat × Cur × List File => i.1)
    (fun i s => i.2.1.ok ∧ i.2.2.length + i.1 ≤ 3 ∧ (∀ x ∈ i.2.2, x.path.size ≤ 5 ∧ x.text.size ≤ 5) ∧ puts i.1 i.2.1 i.2.2 = ((madeV c t).outs, madeC c) ∧ s.ρ 0 = .ref 100000 0 ∧ s.ρ 4 = .ref 4 0 ∧ s.ρ 5 = .ref 5 0 ∧ s.ρ 6 = .sc (.int .i64 i.1) ∧ s.h 100000 = some (some i.2.1.cs) ∧
      s.h 4 = some (some [.sc (.string ⟨#[]⟩), .em, .sc (.string ⟨#[]⟩)]) ∧ s.h 5 = some (some [.sc (.string t), .own (rows File.ty.oc i.2.2) i.2.2.length 2, .sc (.string (pickS doneL c 3))]) ∧ s.h 60 = none ∧ s.h 22 = none ∧ s.h 25 = none ∧ s.h 29000 = none ∧ s.n = 33) (m, belowC (belowC c 3) 3, []) (by simp [upd_app, rows_nil, hP, belowC_ok, hc]; omega) ?_
  rintro ⟨j, d, out⟩ ⟨ρ, hh, n⟩ ⟨hd, hj, hs, hE, h0', h4', h5', h6', kc, k4, k5, f1, f2, f3, f4, rfl⟩
  simp only at hd hj hs hE h0' h4' h5' h6' kc k4 k5 f1 f2 f3 f4
  refine T.le (Le.open 5 1 60 k5 rfl f1 (File.frL _)) ?_
  refine run_ok (n := 400) ?_
  cases j with
  | zero =>
    simp only [puts] at hE
    have hE1 : out = (madeV c t).outs := by rw [← (Prod.mk.inj hE).1]
    have hE2 : d = madeC c := (Prod.mk.inj hE).2
    simp [h6']
    refine T.on 400 ?_
    simp [h0', h4', h5', k4, kc, over, ex1, File.ocl, File.frL, fr, ioPos1, Made.oce, hE1, hE2]
    exact ⟨rfl, rfl⟩
  | succ j =>
    have hw : IntKind.i64.wrap (j : Int) = j := wrap_i64 (by omega) (by omega)
    have hpos : (0 : Int) < (j : Int) + 1 := by omega
    have ra : Ret Tryz.prog 77 [.bx d.cs, .own (rows Ty.str.oc opqL) 3 1] (.sc (.string (oneOut d).path)) [.bx (belowC d 3).cs, .un] := R77 d hd opqL (by decide)
    have rb : Ret Tryz.prog 77 [.bx (belowC d 3).cs, .own (rows Ty.str.oc hiTL) 3 1] (.sc (.string (oneOut d).text)) [.bx (belowC (belowC d 3) 3).cs, .un] := R77 _ (belowC_ok hd 3) hiTL (by decide)
    have hok : File.ty.slice.ok out := ⟨show out.length * 32 ≤ 140737488351232 by omega, fun x hx => ⟨show x.path.size ≤ 140737488351232 by have := hs x hx; omega, show x.text.size ≤ 140737488351232 by have := hs x hx; omega, trivial⟩⟩
    have rp := R114 out (oneOut d) hok (fun x hx => by have := hs x hx; omega) (by have := oneOut_size d; omega)
    simp [h6', hpos]
    refine T.textW 400 [([], [22, 25, 100000]), ([], [22, 25, 100000]), ([], [22, 25]), ([22], [25]), ([100000, 22], [25]), ([], [22, 25, 100000]), ([25], [22, 100000]), ([100000, 25], []), ([], []), ([29000], []), ([], []), ([], []), ([], [5]), ([], []), ([5], [])] mixed (by kernel_rfl) (by kernel_rfl) ?_
    simp [h0', h5', f2, f3, over]
    refine callWK.bm 100000 22 (len := 3) (sz := 1) rfl (by kernel_rfl) (by simp [upd_app, h0']) (by simp [upd_app, kc]) (fr d) (by simp [upd_app]) (by simp [upd_app]; rfl) (by rfl) (by rfl) (by decide) ra rfl (by decide) ?_
    simp [h0', h5', f2, f3, over, merge_nil, hideH_nil]
    refine callWK.bm 100000 25 (len := 3) (sz := 1) rfl (by kernel_rfl) (by simp [upd_app, h0']) (by simp [upd_app, kc]) (fr _) (by simp [upd_app]) (by simp [upd_app]; rfl) (by rfl) (by rfl) (by decide) rb rfl (by decide) ?_
    simp [h0', h5', f2, f3, over, merge_nil, hideH_nil]
    refine callWK.ro 28 rfl (by kernel_rfl) (by simp [roc_agg, File.roc8, File.cse, upd_app]) rp (by simpa [flt, flt.fltL] using fltL_of (rows_all (q := flt) (fun x c hc => (File.ty.ow x c hc).fl) _)) (by simp [inst, instL, upd_app, f4]; exact ⟨rfl, rfl⟩) (by rfl) ?_
    simp [h0', h5', h6', f2, f3, f4, over, merge_nil, hideH_nil, hw]
    refine ⟨j, by omega, belowC (belowC d 3) 3, (putFile out (oneOut d)).1, _, Le.trans (Le.pack 5 1 (i := 29000) (len := (putFile out (oneOut d)).1.length) (sz := 2) (cs' := rows File.ty.oc (putFile out (oneOut d)).1) (by simp [upd_app, merge_app]; rfl) (by rfl) (by simp [upd_app, merge_app]) (by decide) (by simp [File.ocl]) (File.frL _)) (Le.reseat [0, 4, 5, 6] [(100000, 100000), (4, 4), (5, 5)] (by simp) (by simp [upd_app, menB, idfree, h0', h4', h5']) ?_), ?_⟩
    · intro b hb cs hcs
      simp at hb
      rcases hb with rfl | rfl | rfl
      · simp [upd_app, merge_app] at hcs
        subst hcs
        intro y hy
        simp [Cur.cs] at hy
        rcases hy with rfl | rfl | rfl <;> rfl
      · simp [upd_app, merge_app, hideH_app, k4] at hcs
        subst hcs
        simp [idfree]
      · simp [upd_app, merge_app] at hcs
        subst hcs
        have hf := File.frL (putFile out (oneOut d)).1
        simp [idfree, hf]
    · have hl := putFile_len out (oneOut d)
      have hz := oneOut_size d
      simp [upd_app, merge_app, hideH_app, h0', h4', h5', k4, belowC_ok, hd]
      refine ⟨by omega, fun x hx => (putFile_mem out (oneOut d) x hx).elim (fun e => e ▸ hz) (hs x), hE⟩
theorem puts_ok : ∀ (n : Nat) (c : Cur) (l : List File), c.ok → (∀ x ∈ l, x.path.size ≤ 5 ∧ x.text.size ≤ 5) → (puts n c l).2.ok ∧ (puts n c l).1.length ≤ l.length + n ∧ ∀ x ∈ (puts n c l).1, x.path.size ≤ 5 ∧ x.text.size ≤ 5
  | 0, c, l, hc, h => ⟨hc, Nat.le_refl _, h⟩
  | n + 1, c, l, hc, h => by
    have hl := putFile_len l (oneOut c)
    obtain ⟨h1, h2, h3⟩ := puts_ok n (belowC (belowC c 3) 3) (putFile l (oneOut c)).1 (belowC_ok (belowC_ok hc 3) 3) (fun x hx => (putFile_mem l (oneOut c) x hx).elim (fun e => e ▸ oneOut_size c) (h x))
    exact ⟨h1, Nat.le_trans h2 (by omega), h3⟩
theorem madeP_ok {c : Cur} (hc : c.ok) : (madeC c).ok ∧ (madeP c).1.length ≤ 2 ∧ ∀ x ∈ (madeP c).1, x.path.size ≤ 5 ∧ x.text.size ≤ 5 := by
  obtain ⟨q1, q2⟩ := belowV_rng (belowC c 3) (n := 3) (by omega)
  obtain ⟨h1, h2, h3⟩ := puts_ok (belowV (belowC c 3) 3).toNat (belowC (belowC c 3) 3) [] (belowC_ok (belowC_ok hc 3) 3) (by simp)
  refine ⟨h1, Nat.le_trans h2 ?_, h3⟩
  simp only [List.length_nil]
  omega
def abxL : List ByteArray := [⟨#[97, 35, 98, 117, 105, 108, 100]⟩, ⟨#[98, 35, 116, 101, 115, 116]⟩, ⟨#[120]⟩, ⟨#[]⟩]
def abzL : List ByteArray := [⟨#[97, 47, 98]⟩, ⟨#[]⟩, ⟨#[97]⟩, ⟨#[122, 122]⟩]
def zF (i : Nat) : File := ⟨⟨#[122]⟩ ++ numT i, ⟨#[]⟩⟩
def zFs : Nat → List File
  | 0 => []
  | n + 1 => zFs n ++ [zF n]
def anyP (c : Cur) : Made × Cur :=
  let t := pickS abxL c 4
  let m := madeV (belowC c 4) t
  let c2 := madeC (belowC c 4)
  let c3 := belowC c2 8
  if belowV c2 8 = 0 then (⟨m.task, m.outs ++ [⟨pickS abzL c3 4, ⟨#[]⟩⟩], m.log⟩, belowC c3 4)
  else if belowV c2 8 = 1 then (⟨m.task, m.outs, strOfNums (List.replicate (200 + belowV c3 2).toNat 0)⟩, belowC c3 2)
  else if belowV c2 8 = 2 then (⟨m.task, m.outs ++ zFs 6, m.log⟩, c3)
  else (m, c3)
/- 52: loop.example/g00464/spec.l17Any -/
def A52 : AC := (.seq (.ops [⟨(some 2), none, .w (.alloc [(.sc (.string ⟨#[]⟩)), .em, (.sc (.string ⟨#[]⟩))])⟩])
  (.seq (.ops [⟨(some 5), none, .q (.mov (.t 0))⟩, ⟨(some 6), none, .q (.mov (.t 0))⟩, ⟨(some 7), none, .w (.bsl 1 4 [(.sc (.string ⟨#[]⟩)), (.sc (.string ⟨#[]⟩)), (.sc (.string ⟨#[]⟩)), (.sc (.string ⟨#[]⟩))] [(0, 1, (.c (.sc (.string ⟨#[97, 35, 98, 117, 105, 108, 100]⟩)))), (1, 1, (.c (.sc (.string ⟨#[98, 35, 116, 101, 115, 116]⟩)))), (2, 1, (.c (.sc (.string ⟨#[120]⟩)))), (3, 1, (.c (.sc (.string ⟨#[]⟩))))])⟩, ⟨(some 8), none, .c (.c (.clo 77 [])) [(.t 6), (.t 7)]⟩, ⟨(some 9), none, .c (.c (.clo 91 [])) [(.t 5), (.t 8)]⟩, ⟨(some 3), none, .w (.alloc [(.sc (.string ⟨#[]⟩)), .em, (.sc (.string ⟨#[]⟩))])⟩, ⟨none, none, .w (.store 3 (.t 3) (.t 9))⟩])
  (.seq (.seq (.ops [⟨(some 10), none, .q (.mov (.t 0))⟩, ⟨(some 11), none, .c (.c (.clo 42 [])) [(.t 10), (.c (.sc (.int .i64 8)))]⟩])
  (.block 0 (.seq (.ops [⟨(some 13), none, .q (.bin .eql (.t 11) (.c (.sc (.int .i64 0))))⟩, ⟨(some 12), none, .q (.mov (.t 13))⟩])
  (.cond (.t 12) (.any [(⟨(some 14), none, .q (.fadr 1 (.t 3))⟩, []), (⟨(some 15), none, .q (.load false 1 (.t 14))⟩, [0]), (⟨(some 16), none, .q (.mov (.t 0))⟩, []), (⟨(some 17), none, .w (.bsl 1 4 [(.sc (.string ⟨#[]⟩)), (.sc (.string ⟨#[]⟩)), (.sc (.string ⟨#[]⟩)), (.sc (.string ⟨#[]⟩))] [(0, 1, (.c (.sc (.string ⟨#[97, 47, 98]⟩)))), (1, 1, (.c (.sc (.string ⟨#[]⟩)))), (2, 1, (.c (.sc (.string ⟨#[97]⟩)))), (3, 1, (.c (.sc (.string ⟨#[122, 122]⟩))))])⟩, []), (⟨(some 18), none, .c (.c (.clo 77 [])) [(.t 16), (.t 17)]⟩, [2, 3]), (⟨(some 19), none, .w (.build [(.sc (.string ⟨#[]⟩)), (.sc (.string ⟨#[]⟩))] [(0, 1, (.t 18))])⟩, [4]), (⟨(some 20), none, .w (.bsl 2 1 [(.sc (.string ⟨#[]⟩)), (.sc (.string ⟨#[]⟩))] [(0, 2, (.t 19))])⟩, [5]), (⟨(some 21), none, .w (.app 2 32 false (.t 15) (.t 20))⟩, [1, 6, 4]), (⟨(some 22), none, .q (.fadr 1 (.t 3))⟩, [0, 1, 2, 3, 4, 5, 6, 7]), (⟨none, none, .w (.store 1 (.t 22) (.t 21))⟩, [8, 7, 7, 0, 1, 2, 3, 4, 5, 6, 7])])
  (.seq (.ops [⟨(some 24), none, .q (.bin .eql (.t 11) (.c (.sc (.int .i64 1))))⟩, ⟨(some 23), none, .q (.mov (.t 24))⟩])
  (.cond (.t 23) (.ops [⟨(some 25), none, .q (.mov (.t 0))⟩, ⟨(some 26), none, .c (.c (.clo 42 [])) [(.t 25), (.c (.sc (.int .i64 2)))]⟩, ⟨(some 27), none, .q (.bin .add (.c (.sc (.int .i64 200))) (.t 26))⟩, ⟨(some 28), none, .w (.mk 1 1 [(.sc (.int .u8 0))] (.t 27) (.t 27))⟩, ⟨(some 29), none, .q (.bstr (.t 28))⟩, ⟨(some 30), none, .q (.fadr 2 (.t 3))⟩, ⟨none, none, .w (.store 1 (.t 30) (.t 29))⟩])
  (.seq (.ops [⟨(some 32), none, .q (.bin .eql (.t 11) (.c (.sc (.int .i64 2))))⟩, ⟨(some 31), none, .q (.mov (.t 32))⟩])
  (.cond (.t 31) (.seq (.ops [⟨(some 4), none, .q (.mov (.c (.sc (.int .i64 0))))⟩])
  (.block 1 (.loop (.seq (.seq (.ops [⟨(some 33), none, .q (.mov (.t 4))⟩, ⟨(some 34), none, .q (.bin .lss (.t 33) (.c (.sc (.int .i64 6))))⟩])
  (.cond (.t 34) .skip
  (.exit 1)))
  (.seq (.block 2 (.any [(⟨(some 37), none, .q (.fadr 1 (.t 3))⟩, []), (⟨(some 38), none, .q (.load false 1 (.t 37))⟩, [0]), (⟨(some 39), none, .q (.mov (.t 4))⟩, []), (⟨(some 40), none, .c (.c (.clo 75 [])) [(.t 39)]⟩, [2]), (⟨(some 41), none, .q (.bin .add (.c (.sc (.string ⟨#[122]⟩))) (.t 40))⟩, [3]), (⟨(some 42), none, .w (.build [(.sc (.string ⟨#[]⟩)), (.sc (.string ⟨#[]⟩))] [(0, 1, (.t 41))])⟩, [4]), (⟨(some 43), none, .w (.bsl 2 1 [(.sc (.string ⟨#[]⟩)), (.sc (.string ⟨#[]⟩))] [(0, 2, (.t 42))])⟩, [5]), (⟨(some 44), none, .w (.app 2 32 false (.t 38) (.t 43))⟩, [1, 6, 3]), (⟨(some 45), none, .q (.fadr 1 (.t 3))⟩, [0, 1, 2, 3, 4, 5, 6, 7]), (⟨none, none, .w (.store 1 (.t 45) (.t 44))⟩, [8, 7, 7, 0, 1, 2, 3, 4, 5, 6, 7])]))
  (.ops [⟨(some 35), none, .q (.mov (.t 4))⟩, ⟨(some 36), none, .q (.bin .add (.t 35) (.c (.sc (.int .i64 1))))⟩, ⟨(some 4), none, .q (.mov (.t 36))⟩]))))))
  .skip))))))))
  (.seq (.ops [⟨(some 46), none, .q (.load true 3 (.t 3))⟩, ⟨none, none, .w (.store 3 (.t 2) (.t 46))⟩])
  .ret))))
theorem K52 : Tryz.f52.body.bind (comp Tryz.prog) = some A52 ∧ Tryz.f52.ntmps = 47 ∧ Tryz.f52.results.toList.mapM (resB Tryz.prog) = some [.load true 3 (.t 2)] := ⟨by kernel_rfl, by kernel_rfl, by kernel_rfl⟩
set_option maxHeartbeats 2000000 in
theorem R52 (c : Cur) (hc : c.ok) : Ret Tryz.prog 52 [.bx c.cs] (.agg (Made.ty.oc (anyP c).1)) [.bx (anyP c).2.cs] := by
  have fr : ∀ c : Cur, idfree.idfreeL c.cs = true := fun c => rfl
  have r1 : Ret Tryz.prog 77 [.bx c.cs, .own (rows Ty.str.oc abxL) 4 1] (.sc (.string (pickS abxL c 4))) [.bx (belowC c 4).cs, .un] := R77 c hc abxL (by decide)
  have hc1 := belowC_ok hc 4
  obtain ⟨hc2, hl, hs⟩ := madeP_ok hc1
  refine Ret.run Tryz.func52 K52 (by simp) rfl rfl 900 ?_
  simp [A52, iniρ, over]
  refine callK.bm 100000 7 (len := 4) (sz := 1) rfl (by kernel_rfl) (by simp [upd_app]) (by simp [upd_app]) (fr c) (by simp [upd_app]) (by simp [upd_app]; rfl) (by rfl) (by rfl) (by decide) r1 rfl rfl ?_
  simp [over]
  refine callK.bx (b := 100000) 9 rfl (by kernel_rfl) (by simp [upd_app]) (by simp [upd_app]) (fr _) (by simp [upd_app]) (by simp) (R91 _ hc1 (pickS abxL c 4)) rfl (by simp [inst, instL, Made.oce, upd_app]; exact ⟨rfl, rfl⟩) rfl ?_
  simp [over]
  refine callK.bx (b := 100000) 0 rfl (by kernel_rfl) (by simp [upd_app]) (by simp [upd_app]) (fr _) (by simp [upd_app]) (by simp) (R42 _ hc2 8) rfl (by rfl) rfl ?_
  by_cases k0 : belowV (madeC (belowC c 4)) 8 = 0
  case pos =>
    have hc3 := belowC_ok hc2 8
    have rz : Ret Tryz.prog 77 [.bx (belowC (madeC (belowC c 4)) 8).cs, .own (rows Ty.str.oc abzL) 4 1] (.sc (.string (pickS abzL (belowC (madeC (belowC c 4)) 8) 4))) [.bx (belowC (belowC (madeC (belowC c 4)) 8) 4).cs, .un] := R77 _ hc3 abzL (by decide)
    have hl2 : (madeV (belowC c 4) (pickS abxL c 4)).outs.length ≤ 2 := hl
    have hcap : ((madeV (belowC c 4) (pickS abxL c 4)).outs.length + 1) * 32 ≤ 140737488355328 := Nat.le_trans (Nat.mul_le_mul_right 32 (Nat.succ_le_succ hl2)) (by decide)
    have hap : ∀ (l : List File) (g : File), rows File.ty.oc l ++ [.sc (.string g.path), .sc (.string g.text)] = rows File.ty.oc (l ++ [g]) := fun l g => by rw [rows_append]; simp [rows_cons, rows_nil, File.oce]
    have hap2 := hap (madeV (belowC c 4) (pickS abxL c 4)).outs ⟨pickS abzL (belowC (madeC (belowC c 4)) 8) 4, ⟨#[]⟩⟩
    simp only at hap2
    have hid := File.frL ((madeV (belowC c 4) (pickS abxL c 4)).outs ++ [⟨pickS abzL (belowC (madeC (belowC c 4)) 8) 4, ⟨#[]⟩⟩])
    simp [k0]
    refine T.textW 400 [([], [17, 100000, 20]), ([], [17, 100000, 20]), ([], [17]), ([17], []), ([100000, 17], []), ([], []), ([20], []), ([10001, 20, 21], []), ([], []), ([3], [])] mixed (by kernel_rfl) (by kernel_rfl) ?_
    simp [over]
    refine callWK.bm 100000 17 (len := 4) (sz := 1) rfl (by kernel_rfl) (by simp [upd_app]) (by simp [upd_app, hideH_app]) (fr _) (by simp [upd_app]) (by simp [upd_app, hideH_app]; rfl) (by rfl) (by rfl) (by decide) rz rfl (by decide) ?_
    simp [over, merge_nil, hideH_nil, hcap, File.ocl, hap2]
    simp [k0, anyP, ex1, File.ocl, hid, fr, ioPos1, Made.oce]
  by_cases k1 : belowV (madeC (belowC c 4)) 8 = 1
  case pos =>
    have hc3 := belowC_ok hc2 8
    obtain ⟨q1, q2⟩ := belowV_rng (belowC (madeC (belowC c 4)) 8) (n := 2) (by omega)
    obtain ⟨v, hv⟩ : ∃ v : Nat, belowV (belowC (madeC (belowC c 4)) 8) 2 = v := ⟨(belowV (belowC (madeC (belowC c 4)) 8) 2).toNat, by omega⟩
    rw [hv] at q1 q2
    obtain ⟨w, hvw⟩ : ∃ w : Nat, (200 : Int) + (v : Int) = w := ⟨200 + v, rfl⟩
    have hw : IntKind.i64.wrap (w : Int) = w := wrap_i64 (by omega) (by omega)
    have hz1 : (w : Int) ≤ 281474976710656 := by omega
    have hz2 : (w : Int) ≤ 9223372036854775807 := by omega
    simp [k0, k1]
    refine callK.bx (b := 100000) 0 rfl (by kernel_rfl) (by simp [upd_app]) (by simp [upd_app]) (fr _) (by simp [upd_app]) (by simp) (R42 _ hc3 2) rfl (by rfl) rfl ?_
    simp [hv, hvw, hw, hz1, hz2, k0, k1, over]
    rw [bytesRep (by simp [upd_app])]
    simp [hv, hvw, hw, k0, k1, over, anyP, ex1, File.ocl, File.frL, fr, ioPos1, Made.oce]
  by_cases k2 : belowV (madeC (belowC c 4)) 8 = 2
  case pos =>
    obtain ⟨fs, hfs⟩ : ∃ fs, fs = (madeV (belowC c 4) (pickS abxL c 4)).outs := ⟨_, rfl⟩
    have hl2 : fs.length ≤ 2 := by rw [hfs]; exact hl
    simp [k0, k1, k2, ← hfs]
    refine T.le (Le.pack 3 1 (i := 10001) (len := fs.length) (sz := 2) (cs' := rows File.ty.oc fs) (by simp [upd_app]; rfl) (by rfl) (by simp [upd_app]) (by decide) (by simp [File.ocl]) (File.frL _)) ?_
    have hap : ∀ (l : List File) (g : File), rows File.ty.oc l ++ [.sc (.string g.path), .sc (.string g.text)] = rows File.ty.oc (l ++ [g]) := fun l g => by rw [rows_append]; simp [rows_cons, rows_nil, File.oce]
    refine T.rounds (μ := fun j : Nat => 6 - j)
      (fun j s => j ≤ 6 ∧ s.ρ 0 = .ref 100000 0 ∧ s.ρ 2 = .ref 2 0 ∧ s.ρ 3 = .ref 3 0 ∧ s.ρ 4 = .sc (.int .i64 j) ∧ s.h 100000 = some (some (belowC (madeC (belowC c 4)) 8).cs) ∧ s.h 2 = some (some [.sc (.string ⟨#[]⟩), .em, .sc (.string ⟨#[]⟩)]) ∧
        s.h 3 = some (some [.sc (.string (madeV (belowC c 4) (pickS abxL c 4)).task), .own (rows File.ty.oc (fs ++ zFs j)) (fs ++ zFs j).length 2, .sc (.string (madeV (belowC c 4) (pickS abxL c 4)).log)]) ∧ s.h 60 = none ∧ s.h 43 = none ∧ s.h 44 = none ∧ s.n = 47) 0 (by simp [upd_app, zFs]) ?_
    rintro j ⟨ρ, hh, n⟩ ⟨hj, h0', h2', h3', h4', kc, q2, q3, f1, f2, f3, rfl⟩
    simp only at hj h0' h2' h3' h4' kc q2 q3 f1 f2 f3
    refine T.le (Le.open 3 1 60 q3 rfl f1 (File.frL _)) ?_
    refine run_ok (n := 400) ?_
    by_cases h6 : j = 6
    · subst h6
      simp [h4']
      refine T.on 400 ?_
      have hid := File.frL (fs ++ zFs 6)
      simp [h0', h2', h3', q2, kc, k0, k1, k2, over, ex1, File.ocl, hid, fr, ioPos1, Made.oce, anyP, ← hfs]
    have hlt : (j : Int) < 6 := by omega
    have hw : IntKind.i64.wrap ((j : Int) + 1) = j + 1 := wrap_i64 (by omega) (by omega)
    have zl : ∀ k : Nat, (zFs k).length = k := fun k => by
      induction k with
      | zero => rfl
      | succ k ih => simp [zFs, ih]
    have hcap : (fs.length + j + 1) * 32 ≤ 140737488355328 := Nat.le_trans (Nat.mul_le_mul_right 32 (show fs.length + j + 1 ≤ 9 by omega)) (by decide)
    have hsz : (⟨#[122]⟩ : ByteArray).size + (numT j).size ≤ 9223372036854775807 := by
      have := numT_size j
      show 1 + _ ≤ _
      omega
    have hap2 := hap (fs ++ zFs j) (zF j)
    simp only [zF] at hap2
    simp [h4', hlt]
    refine T.textW 400 [([], [43]), ([], [43]), ([], []), ([], []), ([], []), ([], []), ([43], []), ([60, 43, 44], []), ([], []), ([3], [])] mixed (by kernel_rfl) (by kernel_rfl) ?_
    simp [h0', h3', h4', over, merge_nil, hideH_nil]
    refine callWK.ro 0 rfl (by kernel_rfl) (by simp [roc_sc, h4']) (R75 j (by omega)) rfl rfl (by rfl) ?_
    simp [h0', h3', h4', f2, f3, over, merge_nil, hideH_nil, zl, hcap, hsz, File.ocl, hw]
    have hap3 : rows File.ty.oc (fs ++ zFs j) ++ [.sc (.string (⟨#[122]⟩ ++ numT j)), .sc (.string ⟨#[]⟩)] = rows File.ty.oc (fs ++ zFs j ++ [zF j]) := hap2
    refine ⟨j + 1, by omega, _, Le.trans (Le.pack 3 1 (i := 44) (len := fs.length + j + 1) (sz := 2) (cs' := rows File.ty.oc (fs ++ zFs j ++ [zF j])) (by simp [upd_app]; rfl) (by rfl) (by simp [upd_app]; rw [hap3]; simp) (by decide) (by simp [File.ocl, zl]; omega) (File.frL _)) (Le.reseat [0, 2, 3, 4] [(100000, 100000), (2, 2), (3, 3)] (by simp) (by simp [upd_app, menB, idfree, h0', h2', h3']) ?_), ?_⟩
    · intro b hb cs hcs
      simp at hb
      rcases hb with rfl | rfl | rfl
      · simp [upd_app, kc] at hcs
        subst hcs
        intro y hy
        simp [Cur.cs] at hy
        rcases hy with rfl | rfl | rfl <;> rfl
      · simp [upd_app, q2] at hcs
        subst hcs
        simp [idfree]
      · simp [upd_app] at hcs
        subst hcs
        have hf := File.frL (fs ++ zFs j ++ [zF j])
        simp only [List.append_assoc] at hf
        simp [idfree, hf]
    · simp [upd_app, h0', h2', h3', kc, q2, zFs, zl]
      omega
  simp [k0, k1, k2, over, ex1, File.ocl, File.frL, fr, ioPos1, anyP, Made.oce]
end Go.Proofs.YtaknfalbmblagaaGreatDoor.Am
namespace Go.Proofs.YtaknfalbmblagaaGreatDoor.Am
open Go Go.Proofs
set_option linter.unusedSimpArgs false
set_option linter.unusedVariables false
attribute [local congr] T_congr callK_congr callWK_congr
attribute [local simp] run_nil run_op0 run_opg run_seq run_cond run_block run_ret run_skip run_skip_after run_skip_blk run_exit run_exit_after run_exit_blk run_loop run_any runS_nil runS_op0 runS_opg runW_nil runW_op0 runW_opg exec_q exec_w exec_c exec_n execW_q execW_w execW_c restW_app hideH_app merge_app wblk rest_app restS_app execS_q execS_c aval dOk upd_app ev_t ev_c setO_some setO_none put_mk pinsOf isIo hasIo sbin endR fin resL one outL out1 clo1 cloL coe coeL shut shut.shutL wantA weff cellsOf fillA deref natOf ρ0_app h0_app plain plain.plainL keep_app keepH_app andThen_normal andThen_ret andThen_exit pop_nil pop_after pop_after_ret pop_after_exit pop_blk pop_blk_ret pop_blk_exit nilA srcOf srcCells keepR_app keepHR_app renA rb
def keyL : List ByteArray := [⟨#[]⟩, ⟨#[107]⟩, ⟨#[107, 49]⟩, ⟨#[107, 50]⟩, ⟨#[107, 51]⟩, ⟨#[107, 52]⟩]
def keyV (c : Cur) : List Int := sB (pickS keyL c 6)
theorem keyV_len (c : Cur) : (keyV c).length ≤ 2 := by rw [keyV, sB_len]; exact pick_size (by decide) c 6
theorem keyV_ok (c : Cur) : Ty.byte.slice.ok (keyV c) := ⟨by show (keyV c).length * 1 ≤ 140737488351232; have := keyV_len c; omega, sB_byte _⟩
/- 43: loop.example/g00464/spec.l18Key -/
def A43 : AC := (.seq (.ops [⟨(some 2), none, .q (.mov (.c .em))⟩])
  (.seq (.ops [⟨(some 3), none, .q (.mov (.t 0))⟩, ⟨(some 4), none, .w (.bsl 1 6 [(.sc (.string ⟨#[]⟩)), (.sc (.string ⟨#[]⟩)), (.sc (.string ⟨#[]⟩)), (.sc (.string ⟨#[]⟩)), (.sc (.string ⟨#[]⟩)), (.sc (.string ⟨#[]⟩))] [(0, 1, (.c (.sc (.string ⟨#[]⟩)))), (1, 1, (.c (.sc (.string ⟨#[107]⟩)))), (2, 1, (.c (.sc (.string ⟨#[107, 49]⟩)))), (3, 1, (.c (.sc (.string ⟨#[107, 50]⟩)))), (4, 1, (.c (.sc (.string ⟨#[107, 51]⟩)))), (5, 1, (.c (.sc (.string ⟨#[107, 52]⟩))))])⟩, ⟨(some 5), none, .c (.c (.clo 77 [])) [(.t 3), (.t 4)]⟩, ⟨(some 6), none, .w (.byt (.t 5))⟩, ⟨(some 2), none, .q (.mov (.t 6))⟩])
  .ret))
theorem K43 : Tryz.f43.body.bind (comp Tryz.prog) = some A43 ∧ Tryz.f43.ntmps = 7 ∧ Tryz.f43.results.toList.mapM (resB Tryz.prog) = some [.mov (.t 2)] := ⟨by kernel_rfl, by kernel_rfl, by kernel_rfl⟩
theorem R43 (c : Cur) (hc : c.ok) : Ret Tryz.prog 43 [.bx c.cs] (.ro (rows B (keyV c)) (keyV c).length) [.bx (belowC c 6).cs] := by
  have fr : ∀ c : Cur, idfree.idfreeL c.cs = true := fun c => rfl
  have r1 : Ret Tryz.prog 77 [.bx c.cs, .own (rows Ty.str.oc keyL) 6 1] (.sc (.string (pickS keyL c 6))) [.bx (belowC c 6).cs, .un] := R77 c hc keyL (by decide)
  have hl : (pickS keyL c 6).size = (keyV c).length := (sB_len _).symm
  refine Ret.run Tryz.func43 K43 (by simp) rfl rfl 500 ?_
  simp [A43, iniρ, over]
  refine callK.bm 100000 4 (len := 6) (sz := 1) rfl (by kernel_rfl) (by simp [upd_app]) (by simp [upd_app]) (fr c) (by simp [upd_app]) (by simp [upd_app]; rfl) (by rfl) (by rfl) (by decide) r1 rfl rfl ?_
  simp [ex1, fr, ioPos1, strCells_rows, hl]
  rfl
def bytesC : Nat → Cur → Cur
  | 0, c => c
  | n + 1, c => bytesC n (byteC c)
def bytesV : Nat → Cur → List Int
  | 0, _ => []
  | n + 1, c => byteV c :: bytesV n (byteC c)
theorem bytesC_ok : ∀ (n : Nat) {c : Cur}, c.ok → (bytesC n c).ok
  | 0, _, h => h
  | n + 1, _, h => bytesC_ok n (byteC_ok h)
theorem bytesV_len : ∀ (n : Nat) (c : Cur), (bytesV n c).length = n
  | 0, _ => rfl
  | n + 1, c => by simp [bytesV, bytesV_len n]
theorem bytesV_byte : ∀ (n : Nat) (c : Cur), byteL (bytesV n c)
  | 0, _ => fun x hx => by cases hx
  | n + 1, c => fun x hx => by
    rcases List.mem_cons.1 hx with rfl | hx
    · exact byteV_rng c
    · exact bytesV_byte n _ x hx
/- 74: loop.example/g00464/spec.l1Bytes -/
def A74 : AC := (.seq (.ops [⟨(some 4), none, .q (.mov (.c .em))⟩])
  (.seq (.ops [⟨(some 7), none, .w (.bsl 1 0 [] [])⟩, ⟨(some 5), none, .q (.mov (.t 7))⟩])
  (.seq (.seq (.ops [⟨(some 6), none, .q (.mov (.c (.sc (.int .i64 0))))⟩])
  (.block 0 (.loop (.seq (.seq (.ops [⟨(some 8), none, .q (.mov (.t 6))⟩, ⟨(some 9), none, .q (.mov (.t 1))⟩, ⟨(some 10), none, .q (.bin .lss (.t 8) (.t 9))⟩])
  (.cond (.t 10) .skip
  (.exit 0)))
  (.seq (.block 1 (.ops [⟨(some 13), none, .q (.mov (.t 5))⟩, ⟨(some 14), none, .q (.mov (.t 0))⟩, ⟨(some 15), none, .c (.c (.clo 76 [])) [(.t 14)]⟩, ⟨(some 16), none, .q (.cvi .u8 (.t 15))⟩, ⟨(some 17), none, .w (.bsl 1 1 [(.sc (.int .u8 0))] [(0, 1, (.t 16))])⟩, ⟨(some 18), none, .w (.app 1 1 false (.t 13) (.t 17))⟩, ⟨(some 5), none, .q (.mov (.t 18))⟩]))
  (.ops [⟨(some 11), none, .q (.mov (.t 6))⟩, ⟨(some 12), none, .q (.bin .add (.t 11) (.c (.sc (.int .i64 1))))⟩, ⟨(some 6), none, .q (.mov (.t 12))⟩]))))))
  (.seq (.ops [⟨(some 19), none, .q (.mov (.t 5))⟩, ⟨(some 4), none, .q (.mov (.t 19))⟩])
  .ret))))
theorem K74 : Tryz.f74.body.bind (comp Tryz.prog) = some A74 ∧ Tryz.f74.ntmps = 20 ∧ Tryz.f74.results.toList.mapM (resB Tryz.prog) = some [.mov (.t 4)] := ⟨by kernel_rfl, by kernel_rfl, by kernel_rfl⟩
theorem R74 (c : Cur) (hc : c.ok) (k : Nat) (hk : k ≤ 1000000) : Ret Tryz.prog 74 [.bx c.cs, .sc (.int .i64 k)] (.own (rows B (bytesV k c)) (bytesV k c).length 1) [.bx (bytesC k c).cs, .un] := by
  have fr : ∀ c : Cur, idfree.idfreeL c.cs = true := fun c => rfl
  refine Ret.run Tryz.func74 K74 (by simp) rfl rfl 500 ?_
  simp [A74, iniρ, over]
  refine T.rounds (μ := fun i : List Int × Cur × Nat => i.2.2)
    (fun i s => i.1.length + i.2.2 = k ∧ i.2.1.ok ∧ i.1 ++ bytesV i.2.2 i.2.1 = bytesV k c ∧ bytesC i.2.2 i.2.1 = bytesC k c ∧ s.ρ 0 = .ref 100000 0 ∧ s.ρ 1 = .sc (.int .i64 k) ∧ s.ρ 5 = .sl 7 0 i.1.length 1 false ∧ s.ρ 6 = .sc (.int .i64 i.1.length) ∧ s.h 100000 = some (some i.2.1.cs) ∧ s.h 7 = some (some (rows B i.1)) ∧ s.h 17 = none ∧ s.h 18 = none ∧ s.n = 20) ([], c, k) (by simp [upd_app, hc, rows_nil]) ?_
  rintro ⟨pre, d, j⟩ ⟨ρ, hh, n⟩ ⟨hl, hd, hE, hC, k0, k1, k5, k6, bc, b7, f17, f18, rfl⟩
  simp only at hl hd hE hC k0 k1 k5 k6 bc b7 f17 f18
  refine run_ok (n := 400) ?_
  cases j with
  | zero =>
    have e : pre = bytesV k c := by rw [← hE]; simp [bytesV]
    have e2 : d = bytesC k c := hC
    have hn : ¬ ((pre.length : Int) < k) := by omega
    simp [k1, k6, hn]
    refine T.on 400 ?_
    rw [← e, ← e2]
    simp [k0, k5, bc, b7, ex1, B.count, fr, ioPos1, idfreeL_rows B.fr pre]
  | succ j =>
    have hlt : (pre.length : Int) < k := by omega
    have hw : IntKind.i64.wrap ((pre.length : Int) + 1) = pre.length + 1 := wrap_i64 (by omega) (by omega)
    have hr := byteV_rng d
    have hw8 : IntKind.u8.wrap (byteV d) = byteV d := by simp [IntKind.wrap, IntKind.bits, IntKind.signed]; omega
    have hb1 : pre.length + 1 ≤ 140737488355328 := by omega
    simp [k0, k1, k5, k6, hlt]
    refine callK.bx (b := 100000) 0 rfl (by kernel_rfl) (by simp [upd_app, k0]) (by simp [upd_app, bc]) (fr d) rfl (by simp) (R76 d hd) rfl (by rfl) rfl ?_
    simp [k0, k5, k6, bc, b7, f17, f18, hw, hw8, over, B.count, hb1]
    refine ⟨pre ++ [byteV d], byteC d, j, by omega, _, Le.reseat [0, 1, 5, 6] [(18, 7), (100000, 100000)] (by simp) (by simp [upd_app, menB, idfree, k0, k1]) ?_, ?_⟩
    · intro b hb cs hcs
      simp at hb
      rcases hb with rfl | rfl
      · simp [upd_app] at hcs
        subst hcs
        have := idfreeL_mem (idfreeL_rows B.fr (pre ++ [byteV d]))
        rwa [rows_append] at this
      · simp [upd_app] at hcs
        subst hcs
        exact idfreeL_mem (fr _)
    · simp [upd_app, keepR_app, keepHR_app, renA, rb, k0, k1, f17, rows_append, rows_cons, rows_nil, byteC_ok hd]
      refine ⟨by omega, ?_, hC, rfl⟩
      rw [← hE]; rfl
def abuild : ByteArray := ⟨#[97, 35, 98, 117, 105, 108, 100]⟩
def draws : Nat → Cur → List Slot → List Slot × Cur
  | 0, c, l => (l, c)
  | n + 1, c, l => draws n (madeC (belowC c 6)) (slotPut l (keyV c) (madeV (belowC c 6) abuild))
def drawP (c : Cur) : List Slot × Cur := draws (belowV c 6).toNat (belowC c 6) []
theorem fw_le {n k : Nat} : ∀ {l : List File}, l.length ≤ k → (∀ x ∈ l, x.path.size ≤ n ∧ x.text.size ≤ n) → fw l ≤ k * (2 * n + 4)
  | [], _, _ => Nat.zero_le _
  | x :: l, hk, h => by
    cases k with
    | zero => simp at hk
    | succ k =>
      have ih := fw_le (n := n) (k := k) (l := l) (by simpa using hk) fun y hy => h y (by simp [hy])
      have hx := h x (by simp)
      rw [Nat.succ_mul]
      simp only [fw]; omega
/-- what is drawn is small -/
structure MadeSz (m : Made) : Prop where
  t : m.task.size ≤ 1000
  n : m.outs.length ≤ 20
  p : ∀ x ∈ m.outs, x.path.size ≤ 1000
  w : mw m ≤ 100000
theorem madeV_sz {c : Cur} (hc : c.ok) {t : ByteArray} (ht : t.size ≤ 1000) : MadeSz (madeV c t) := by
  obtain ⟨_, h2, h3⟩ := madeP_ok hc
  have hd : (pickS doneL c 3).size ≤ 5 := pick_size (by decide) _ _
  have hf := fw_le (n := 5) (k := 2) h2 h3
  have hf : fw (madeV c t).outs ≤ 2 * (2 * 5 + 4) := hf
  have h2 : (madeV c t).outs.length ≤ 2 := h2
  have hlog : (madeV c t).log.size ≤ 5 := hd
  have htk : (madeV c t).task.size = t.size := rfl
  refine ⟨by rw [htk]; exact ht, by omega, fun x hx => by have := (h3 x hx).1; omega, ?_⟩
  unfold mw; omega
/-- a cache that is small -/
structure CacheSz (l : List Slot) (n w : Nat) : Prop where
  ok : Slot.ty.slice.ok l
  n : l.length ≤ n
  w : toL Slot.tot l ≤ w
theorem CacheSz.nil : CacheSz [] 0 0 := ⟨⟨by decide, fun x hx => by cases hx⟩, Nat.le_refl _, Nat.le_refl _⟩
theorem CacheSz.put {l : List Slot} {n w : Nat} (h : CacheSz l n w) (hn : n ≤ 1000000) (c : Cur) (m : Made) : CacheSz (slotPut l (keyV c) m) (n + 1) (w + 3002) := by
  obtain ⟨h1, h2, h3⟩ := slotPut_is l (keyV c) m h.ok (by have := h.n; omega) (keyV_ok c)
  have := h.n; have := h.w; have := keyV_len c
  exact ⟨h1, by omega, by omega⟩
theorem draws_is : ∀ (j : Nat) (c : Cur) (l : List Slot) (n w : Nat), c.ok → CacheSz l n w → n + j ≤ 1000 → (draws j c l).2.ok ∧ CacheSz (draws j c l).1 (n + j) (w + 3002 * j)
  | 0, c, l, n, w, hc, h, _ => ⟨hc, h⟩
  | j + 1, c, l, n, w, hc, h, hn => by
    obtain ⟨h1, h2⟩ := draws_is j (madeC (belowC c 6)) (slotPut l (keyV c) (madeV (belowC c 6) abuild)) (n + 1) (w + 3002) (madeP_ok (belowC_ok hc 6)).1 (h.put (by omega) c _) (by omega)
    refine ⟨h1, ?_⟩
    have e1 : n + 1 + j = n + (j + 1) := by omega
    have e2 : w + 3002 + 3002 * j = w + 3002 * (j + 1) := by omega
    rw [e1, e2] at h2
    exact h2
theorem drawP_is {c : Cur} (hc : c.ok) : (drawP c).2.ok ∧ CacheSz (drawP c).1 5 15010 := by
  obtain ⟨q1, q2⟩ := belowV_rng c (n := 6) (by omega)
  obtain ⟨h1, h2⟩ := draws_is (belowV c 6).toNat (belowC c 6) [] 0 0 (belowC_ok hc 6) CacheSz.nil (by omega)
  have h2 : CacheSz (drawP c).1 _ _ := h2
  exact ⟨h1, h2.ok, by have := h2.n; omega, by have := h2.w; omega⟩
/- 73: loop.example/g00464/spec.l18Draw -/
def A73 : AC := (.seq (.ops [⟨(some 2), none, .q (.mov (.c .em))⟩])
  (.seq (.ops [⟨(some 5), none, .w (.bsl 2 0 [] [])⟩, ⟨(some 3), none, .q (.mov (.t 5))⟩])
  (.seq (.seq (.ops [⟨(some 6), none, .q (.mov (.t 0))⟩, ⟨(some 7), none, .c (.c (.clo 42 [])) [(.t 6), (.c (.sc (.int .i64 6)))]⟩, ⟨(some 4), none, .q (.mov (.t 7))⟩])
  (.block 0 (.loop (.seq (.seq (.ops [⟨(some 8), none, .q (.mov (.t 4))⟩, ⟨(some 9), none, .q (.bin .gtr (.t 8) (.c (.sc (.int .i64 0))))⟩])
  (.cond (.t 9) .skip
  (.exit 0)))
  (.seq (.block 1 (.ops [⟨(some 12), none, .q (.mov (.t 3))⟩, ⟨(some 13), none, .q (.mov (.t 0))⟩, ⟨(some 14), none, .c (.c (.clo 43 [])) [(.t 13)]⟩, ⟨(some 15), none, .q (.mov (.t 0))⟩, ⟨(some 16), none, .c (.c (.clo 91 [])) [(.t 15), (.c (.sc (.string ⟨#[97, 35, 98, 117, 105, 108, 100]⟩)))]⟩, ⟨(some 17), none, .c (.c (.clo 22 [])) [(.t 12), (.t 14), (.t 16)]⟩, ⟨(some 3), none, .q (.mov (.t 17))⟩]))
  (.ops [⟨(some 10), none, .q (.mov (.t 4))⟩, ⟨(some 11), none, .q (.bin .sub (.t 10) (.c (.sc (.int .i64 1))))⟩, ⟨(some 4), none, .q (.mov (.t 11))⟩]))))))
  (.seq (.ops [⟨(some 18), none, .q (.mov (.t 3))⟩, ⟨(some 2), none, .q (.mov (.t 18))⟩])
  .ret))))
theorem K73 : Tryz.f73.body.bind (comp Tryz.prog) = some A73 ∧ Tryz.f73.ntmps = 19 ∧ Tryz.f73.results.toList.mapM (resB Tryz.prog) = some [.mov (.t 2)] := ⟨by kernel_rfl, by kernel_rfl, by kernel_rfl⟩
set_option maxHeartbeats 2000000 in
theorem R73 (c : Cur) (hc : c.ok) : Ret Tryz.prog 73 [.bx c.cs] (.own (rows Slot.ty.oc (drawP c).1) (drawP c).1.length 2) [.bx (drawP c).2.cs] := by
  have fr : ∀ c : Cur, idfree.idfreeL c.cs = true := fun c => rfl
  refine Ret.run Tryz.func73 K73 (by simp) rfl rfl 500 ?_
  simp [A73, iniρ, over]
  refine callK.bx (b := 100000) 0 rfl (by kernel_rfl) (by simp [upd_app]) (by simp [upd_app]) (fr _) (by simp [upd_app]) (by simp) (R42 c hc 6) rfl (by rfl) rfl ?_
  obtain ⟨q1, q2⟩ := belowV_rng c (n := 6) (by omega)
  obtain ⟨m, hm⟩ : ∃ m : Nat, belowV c 6 = m := ⟨(belowV c 6).toNat, by omega⟩
  have hP : draws m (belowC c 6) [] = drawP c := by simp [drawP, hm]
  rw [hm] at q2 ⊢
  simp
  refine T.rounds (μ := fun i : Nat × Cur × List Slot => i.1)
    (fun i s => i.2.1.ok ∧ CacheSz i.2.2 (6 - i.1) 100000 ∧ i.1 ≤ 5 ∧ toL Slot.tot i.2.2 + 3002 * i.1 ≤ 30000 ∧ draws i.1 i.2.1 i.2.2 = drawP c ∧ s.ρ 0 = .ref 100000 0 ∧ s.ρ 3 = .sl 5 0 i.2.2.length 2 false ∧ s.ρ 4 = .sc (.int .i64 i.1) ∧ s.h 100000 = some (some i.2.1.cs) ∧ s.h 5 = some (some (rows Slot.ty.oc i.2.2)) ∧ s.h 17001 = none ∧ s.h 17 = none ∧ s.n = 19) (m, belowC c 6, []) ?_ ?_
  · simp [upd_app, belowC_ok hc, rows_nil, hP, toL]
    exact ⟨⟨CacheSz.nil.ok, Nat.zero_le _, Nat.zero_le _⟩, by omega, by omega⟩
  rintro ⟨j, d, l⟩ ⟨ρ, hh, n⟩ ⟨hd, hl, hj, hw, hE, k0, k3, k4, bc, b5, f1, f2, rfl⟩
  simp only at hd hl hj hw hE k0 k3 k4 bc b5 f1 f2
  refine run_ok (n := 400) ?_
  cases j with
  | zero =>
    have hE : (l, d) = drawP c := hE
    simp [k4]
    refine T.on 400 ?_
    rw [← hE]
    simp [k0, k3, bc, b5, ex1, Slot.ocl, Slot.frL, fr, ioPos1]
  | succ j =>
    have hd6 := belowC_ok hd 6
    obtain ⟨hdm, _⟩ := madeP_ok hd6
    have hpos : (0 : Int) < (j : Int) + 1 := by omega
    have hw1 : IntKind.i64.wrap (j : Int) = j := wrap_i64 (by omega) (by omega)
    have hms := madeV_sz (c := belowC d 6) hd6 (t := abuild) (by decide)
    have hkl := keyV_len d
    have rk := R43 d hd
    have rm := R91 (belowC d 6) hd6 abuild
    have hmn := hms.n
    have hmt := hms.t
    have hmw := hms.w
    have rp := R22 l (keyV d) (madeV (belowC d 6) abuild) hl.ok (by omega) (by omega) (by omega) (fun x hx => by have := hms.p x hx; omega) (by omega)
    obtain ⟨mk, hmk⟩ : ∃ mk, mk = madeV (belowC d 6) abuild := ⟨_, rfl⟩
    have hE2 : draws j (madeC (belowC d 6)) (slotPut l (keyV d) mk) = drawP c := by rw [← hE, hmk]; rfl
    rw [← hmk] at rm rp
    have hput := hl.put (by omega) d mk
    rw [Made.oce] at rm
    rw [Made.cse] at rp
    simp [k0, k3, k4, hpos]
    refine callK.bx (b := 100000) 14 rfl (by kernel_rfl) (by simp [upd_app, k0]) (by simp [upd_app, bc]) (fr _) (by simp [upd_app]) (by simp) rk rfl (by simp [inst, shut, upd_app]; exact ⟨rfl, rfl⟩) rfl ?_
    simp [k0]
    refine callK.bx (b := 100000) 16 rfl (by kernel_rfl) (by simp [upd_app, k0]) (by simp [upd_app]) (fr _) (by simp [upd_app]; rfl) (by simp [shut]) rm rfl (by simp [inst, instL, shut, upd_app, f1]; exact ⟨rfl, rfl⟩) rfl ?_
    simp [k3]
    refine callK.ro 17 rfl (by kernel_rfl) (by simp [roc_agg8, List.mapM_cons, List.mapM_nil, roc_sc, roc_ro, Slot.roc8, File.roc7, upd_app, b5, k3]) rp (Slot.ty.flo _) (by simp [inst, upd_app, f2]; exact ⟨rfl, rfl⟩) rfl ?_
    simp [k4, hw1]
    obtain ⟨z1, z2, z3⟩ := slotPut_is l (keyV d) mk hl.ok (by have := hl.n; omega) (keyV_ok d)
    refine ⟨j, by omega, madeC (belowC d 6), slotPut l (keyV d) mk, _, Le.reseat [0, 3, 4] [(17, 5), (100000, 100000)] (by simp) (by simp [upd_app, menB, idfree, k0]) ?_, ?_⟩
    · intro b hb cs hcs
      simp at hb
      rcases hb with rfl | rfl
      · simp [upd_app] at hcs
        subst hcs
        exact idfreeL_mem (Slot.frL _)
      · simp [upd_app] at hcs
        subst hcs
        exact idfreeL_mem (fr _)
    · have hn := hl.n
      refine ⟨hdm, ⟨z1, by omega, by omega⟩, by omega, by omega, hE2, ?_⟩
      simp [upd_app, keepR_app, keepHR_app, renA, rb, k0]
def zzB : List Int := [122, 122]
def zK (i : Nat) : Slot := ⟨sB (⟨#[122]⟩ ++ numT i), []⟩
def zKs : Nat → List Slot
  | 0 => []
  | n + 1 => zKs n ++ [zK n]
def anyL (c : Cur) : List Slot × Cur :=
  let l := (drawP c).1
  let c1 := (drawP c).2
  let c2 := belowC c1 10
  if belowV c1 10 = 0 then (l ++ [⟨keyV c2, bytesV 3 (belowC c2 6)⟩], bytesC 3 (belowC c2 6))
  else if belowV c1 10 = 1 then (l ++ [⟨zzB, List.replicate (2900 + belowV c2 102).toNat 0⟩], belowC c2 102)
  else if belowV c1 10 = 2 then (l ++ zKs 18, c2)
  else if belowV c1 10 = 3 then (dmg l (belowV c2 3) (belowV (belowC c2 3) 40) (1 + belowV (belowC (belowC c2 3) 40) 255), belowC (belowC (belowC c2 3) 40) 255)
  else (l, c2)
theorem roc_ownS {h : Hp} {k : Nat} {cs : List AV} {len sz : Nat} (hs : shut.shutL cs = true) : roc h (k + 1) (.own cs len sz) = some (.ro cs len) := by
  rw [roc, if_neg (by simp [shut])]
  simp only [mapM_shut hs, Option.map_some]
theorem B_shut (xs : List Int) : shut.shutL (rows B xs) = true := shutL_of (rows_all (q := shut) (fun x c hc => by simp [B] at hc; subst hc; rfl) xs)
/-- A list that grew by a slot: its key is read only, what it keeps is the call's own. -/
theorem Le.growC {st : St} {I : St → Prop} (b i : Nat) (l : List Slot) (k v : List Int) (hne : i ≠ b) (hb : st.h b = some (some (rows Slot.ty.oc l ++ [.ro (rows B k) k.length, .sl i 0 v.length 1 false]))) (hi : st.h i = some (some (rows B v)))
    (hI : ∀ h', h' b = some (some (rows Slot.ty.cs (l ++ [⟨k, v⟩]))) → (∀ c, c ≠ b → c ≠ i → h' c = st.h c) → I ⟨st.ρ, h', st.n⟩) : ∃ s, Le st s ∧ I s := by
  have hset : (rows Slot.ty.oc l ++ [AV.ro (rows B k) k.length, .sl i 0 v.length 1 false]).set (l.length * 2 + 1) (.own (rows B v) v.length 1) = rows Slot.ty.oc l ++ [.ro (rows B k) k.length, .own (rows B v) v.length 1] := by
    rw [← Slot.ocl, List.set_append_right _ _ (by omega)]
    simp
  have hget : (rows Slot.ty.oc l ++ [AV.ro (rows B k) k.length, .sl i 0 v.length 1 false])[l.length * 2 + 1]? = some (.sl i 0 v.length 1 false) := by
    rw [← Slot.ocl, List.getElem?_append_right (by omega)]
    simp
  have l1 := Le.pack b (l.length * 2 + 1) hb hget hi hne (by rw [B.count, Nat.mul_one]) (idfreeL_rows B.fr v)
  rw [hset] at l1
  have l2 := Le.mute (st := ⟨st.ρ, upd (upd (upd st.h i (some none)) b (some none)) b (some (some (rows Slot.ty.oc l ++ [.ro (rows B k) k.length, .own (rows B v) v.length 1]))), st.n⟩) b (ys := rows Slot.ty.cs (l ++ [⟨k, v⟩])) (upd_same _ _ _) (by
    rw [List.mapM_append, Slot.ty.rcs _ (by decide) l, rows_append, rows_cons, rows_nil, List.append_nil]
    simp only [List.mapM_cons, List.mapM_nil, roc_ro, roc_ownS (B_shut v)]
    rfl)
  refine ⟨_, Le.trans l1 l2, hI _ (upd_same _ _ _) fun c h1 h2 => ?_⟩
  simp only [upd_app]
  rw [if_neg h1, if_neg h1, if_neg h1, if_neg h2]

/-- A list that grew by a slot that keeps nothing. -/
theorem Le.growE {st : St} {I : St → Prop} (b : Nat) (l : List Slot) (k : List Int) (hb : st.h b = some (some (rows Slot.ty.cs l ++ [.ro (rows B k) k.length, .em])))
    (hI : ∀ h', h' b = some (some (rows Slot.ty.cs (l ++ [⟨k, []⟩]))) → (∀ c, c ≠ b → h' c = st.h c) → I ⟨st.ρ, h', st.n⟩) : ∃ s, Le st s ∧ I s := by
  have hset : (rows Slot.ty.cs l ++ [AV.ro (rows B k) k.length, .em]).set (l.length * 2 + 1) (.own [] 0 1) = rows Slot.ty.cs l ++ [.ro (rows B k) k.length, .own [] 0 1] := by
    rw [← Slot.csl, List.set_append_right _ _ (by omega)]
    simp
  have hget : (rows Slot.ty.cs l ++ [AV.ro (rows B k) k.length, .em])[l.length * 2 + 1]? = some .em := by
    rw [← Slot.csl, List.getElem?_append_right (by omega)]
    simp
  have l1 := Le.layC b (l.length * 2 + 1) 1 hb hget
  rw [hset] at l1
  have l2 := Le.mute (st := ⟨st.ρ, upd (upd st.h b (some none)) b (some (some (rows Slot.ty.cs l ++ [.ro (rows B k) k.length, .own [] 0 1]))), st.n⟩) b (ys := rows Slot.ty.cs (l ++ [⟨k, []⟩])) (upd_same _ _ _) (by
    rw [List.mapM_append, mapM_shut (shutL_of (rows_all Slot.ty.sh l)), rows_append, rows_cons, rows_nil, List.append_nil]
    simp only [List.mapM_cons, List.mapM_nil, roc_ro, roc_ownS (show shut.shutL [] = true from rfl)]
    rfl)
  refine ⟨_, Le.trans l1 l2, hI _ (upd_same _ _ _) fun c h1 => ?_⟩
  simp only [upd_app]
  rw [if_neg h1, if_neg h1, if_neg h1]
theorem zKs_len : ∀ n, (zKs n).length = n
  | 0 => rfl
  | n + 1 => by simp [zKs, zKs_len n]
/- 40: loop.example/g00464/spec.l18Any -/
def A40 : AC := (.seq (.ops [⟨(some 2), none, .q (.mov (.c .em))⟩])
  (.seq (.ops [⟨(some 5), none, .q (.mov (.t 0))⟩, ⟨(some 6), none, .c (.c (.clo 73 [])) [(.t 5)]⟩, ⟨(some 3), none, .q (.mov (.t 6))⟩])
  (.seq (.seq (.ops [⟨(some 7), none, .q (.mov (.t 0))⟩, ⟨(some 8), none, .c (.c (.clo 42 [])) [(.t 7), (.c (.sc (.int .i64 10)))]⟩])
  (.block 0 (.seq (.ops [⟨(some 10), none, .q (.bin .eql (.t 8) (.c (.sc (.int .i64 0))))⟩, ⟨(some 9), none, .q (.mov (.t 10))⟩])
  (.cond (.t 9) (.ops [⟨(some 11), none, .q (.mov (.t 3))⟩, ⟨(some 12), none, .q (.mov (.t 0))⟩, ⟨(some 13), none, .c (.c (.clo 43 [])) [(.t 12)]⟩, ⟨(some 14), none, .q (.mov (.t 0))⟩, ⟨(some 15), none, .c (.c (.clo 74 [])) [(.t 14), (.c (.sc (.int .i64 3)))]⟩, ⟨(some 16), none, .w (.build [.em, .em] [(0, 1, (.t 13)), (1, 1, (.t 15))])⟩, ⟨(some 17), none, .w (.bsl 2 1 [.em, .em] [(0, 2, (.t 16))])⟩, ⟨(some 18), none, .w (.app 2 48 false (.t 11) (.t 17))⟩, ⟨(some 3), none, .q (.mov (.t 18))⟩])
  (.seq (.ops [⟨(some 20), none, .q (.bin .eql (.t 8) (.c (.sc (.int .i64 1))))⟩, ⟨(some 19), none, .q (.mov (.t 20))⟩])
  (.cond (.t 19) (.ops [⟨(some 21), none, .q (.mov (.t 3))⟩, ⟨(some 22), none, .w (.bsl 1 2 [(.sc (.int .u8 0)), (.sc (.int .u8 0))] [(0, 1, (.c (.sc (.int .u8 122)))), (1, 1, (.c (.sc (.int .u8 122))))])⟩, ⟨(some 23), none, .w (.fz (.t 22))⟩, ⟨(some 24), none, .q (.mov (.t 0))⟩, ⟨(some 25), none, .c (.c (.clo 42 [])) [(.t 24), (.c (.sc (.int .i64 102)))]⟩, ⟨(some 26), none, .q (.bin .add (.c (.sc (.int .i64 2900))) (.t 25))⟩, ⟨(some 27), none, .w (.mk 1 1 [(.sc (.int .u8 0))] (.t 26) (.t 26))⟩, ⟨(some 28), none, .w (.build [.em, .em] [(0, 1, (.t 23)), (1, 1, (.t 27))])⟩, ⟨(some 29), none, .w (.bsl 2 1 [.em, .em] [(0, 2, (.t 28))])⟩, ⟨(some 30), none, .w (.app 2 48 false (.t 21) (.t 29))⟩, ⟨(some 3), none, .q (.mov (.t 30))⟩])
  (.seq (.ops [⟨(some 32), none, .q (.bin .eql (.t 8) (.c (.sc (.int .i64 2))))⟩, ⟨(some 31), none, .q (.mov (.t 32))⟩])
  (.cond (.t 31) (.seq (.ops [⟨(some 4), none, .q (.mov (.c (.sc (.int .i64 0))))⟩])
  (.block 1 (.loop (.seq (.seq (.ops [⟨(some 33), none, .q (.mov (.t 4))⟩, ⟨(some 34), none, .q (.bin .lss (.t 33) (.c (.sc (.int .i64 18))))⟩])
  (.cond (.t 34) .skip
  (.exit 1)))
  (.seq (.block 2 (.ops [⟨(some 37), none, .q (.mov (.t 3))⟩, ⟨(some 38), none, .q (.mov (.t 4))⟩, ⟨(some 39), none, .c (.c (.clo 75 [])) [(.t 38)]⟩, ⟨(some 40), none, .q (.bin .add (.c (.sc (.string ⟨#[122]⟩))) (.t 39))⟩, ⟨(some 41), none, .w (.byt (.t 40))⟩, ⟨(some 42), none, .w (.build [.em, .em] [(0, 1, (.t 41))])⟩, ⟨(some 43), none, .w (.bsl 2 1 [.em, .em] [(0, 2, (.t 42))])⟩, ⟨(some 44), none, .w (.app 2 48 false (.t 37) (.t 43))⟩, ⟨(some 3), none, .q (.mov (.t 44))⟩]))
  (.ops [⟨(some 35), none, .q (.mov (.t 4))⟩, ⟨(some 36), none, .q (.bin .add (.t 35) (.c (.sc (.int .i64 1))))⟩, ⟨(some 4), none, .q (.mov (.t 36))⟩]))))))
  (.seq (.ops [⟨(some 46), none, .q (.bin .eql (.t 8) (.c (.sc (.int .i64 3))))⟩, ⟨(some 45), none, .q (.mov (.t 46))⟩])
  (.cond (.t 45) (.ops [⟨(some 47), none, .q (.mov (.t 3))⟩, ⟨(some 48), none, .q (.mov (.t 0))⟩, ⟨(some 49), none, .c (.c (.clo 42 [])) [(.t 48), (.c (.sc (.int .i64 3)))]⟩, ⟨(some 50), none, .q (.mov (.t 0))⟩, ⟨(some 51), none, .c (.c (.clo 42 [])) [(.t 50), (.c (.sc (.int .i64 40)))]⟩, ⟨(some 52), none, .q (.mov (.t 0))⟩, ⟨(some 53), none, .c (.c (.clo 42 [])) [(.t 52), (.c (.sc (.int .i64 255)))]⟩, ⟨(some 54), none, .q (.bin .add (.c (.sc (.int .i64 1))) (.t 53))⟩, ⟨(some 55), none, .c (.c (.clo 26 [])) [(.t 47), (.t 49), (.t 51), (.t 54)]⟩, ⟨(some 3), none, .q (.mov (.t 55))⟩])
  .skip))))))))))
  (.seq (.ops [⟨(some 56), none, .q (.mov (.t 3))⟩, ⟨(some 2), none, .q (.mov (.t 56))⟩])
  .ret))))
theorem K40 : Tryz.f40.body.bind (comp Tryz.prog) = some A40 ∧ Tryz.f40.ntmps = 57 ∧ Tryz.f40.results.toList.mapM (resB Tryz.prog) = some [.mov (.t 2)] := ⟨by kernel_rfl, by kernel_rfl, by kernel_rfl⟩
set_option maxHeartbeats 4000000 in
theorem R40 (c : Cur) (hc : c.ok) : Ret Tryz.prog 40 [.bx c.cs] (.own (rows Slot.ty.cs (anyL c).1) (anyL c).1.length 2) [.bx (anyL c).2.cs] := by
  have fr : ∀ c : Cur, idfree.idfreeL c.cs = true := fun c => rfl
  obtain ⟨hc1, hl⟩ := drawP_is hc
  have hc2 := belowC_ok hc1 10
  have rd := R73 c hc
  obtain ⟨l, hle⟩ : ∃ l, l = (drawP c).1 := ⟨_, rfl⟩
  obtain ⟨c1, hce⟩ : ∃ c1, c1 = (drawP c).2 := ⟨_, rfl⟩
  obtain ⟨c2, hce2⟩ : ∃ c2, c2 = belowC c1 10 := ⟨_, rfl⟩
  have hA : anyL c = if belowV c1 10 = 0 then (l ++ [⟨keyV c2, bytesV 3 (belowC c2 6)⟩], bytesC 3 (belowC c2 6))
    else if belowV c1 10 = 1 then (l ++ [⟨zzB, List.replicate (2900 + belowV c2 102).toNat 0⟩], belowC c2 102)
    else if belowV c1 10 = 2 then (l ++ zKs 18, c2)
    else if belowV c1 10 = 3 then (dmg l (belowV c2 3) (belowV (belowC c2 3) 40) (1 + belowV (belowC (belowC c2 3) 40) 255), belowC (belowC (belowC c2 3) 40) 255)
    else (l, c2) := by subst hle hce hce2; rfl
  rw [← hle, ← hce] at rd
  rw [← hle] at hl
  rw [← hce] at hc1 hc2
  have hn := hl.n
  have hb1 : (l.length + 1) * 48 ≤ 140737488355328 := by omega
  have rb := R42 c1 hc1 10
  rw [← hce2] at hc2 rb
  obtain ⟨s, hs⟩ : ∃ s, s = belowV c1 10 := ⟨_, rfl⟩
  rw [hA, ← hs]
  rw [← hs] at rb
  refine Ret.runT Tryz.func40 K40 (by simp) rfl rfl ?_
  refine run_ok (n := 500) ?_
  simp [A40, iniρ, leR_app]
  refine callK.bx (b := 100000) 6 rfl (by kernel_rfl) (by simp [upd_app]) (by simp [upd_app]) (fr _) (by simp [upd_app]) (by simp) rd rfl (by simp [inst, upd_app]; exact ⟨rfl, rfl⟩) rfl ?_
  simp
  refine callK.bx (b := 100000) 0 rfl (by kernel_rfl) (by simp [upd_app]) (by simp [upd_app]) (fr _) (by simp [upd_app]) (by simp) rb rfl (by rfl) rfl ?_
  by_cases k0 : s = 0
  case pos =>
    simp [k0]
    refine callK.bx (b := 100000) 13 rfl (by kernel_rfl) (by simp [upd_app]) (by simp [upd_app]) (fr _) (by simp [upd_app]) (by simp) (R43 c2 hc2) rfl (by simp [inst, shut, upd_app]; exact ⟨rfl, rfl⟩) rfl ?_
    simp
    refine callK.bx (b := 100000) 15 rfl (by kernel_rfl) (by simp [upd_app]) (by simp [upd_app]) (fr _) (by simp [upd_app]) (by simp) (R74 (belowC c2 6) (belowC_ok hc2 6) 3 (by decide)) rfl (by simp [inst, upd_app]; exact ⟨rfl, rfl⟩) rfl ?_
    simp [Slot.ocl, over, hb1]
    rw [leR_app]
    refine Le.growC 18 15 l (keyV c2) (bytesV 3 (belowC c2 6)) (by decide) (by simp [upd_app]) (by simp [upd_app]) (fun h2 e1 e2 => ?_)
    have e3 := e2 100000 (by decide) (by decide)
    simp [upd_app] at e3
    simp [ex1, e1, e3, upd_app, Slot.csl, Slot.frC, fr, ioPos1]
  by_cases k1 : s = 1
  case pos =>
    obtain ⟨q1, q2⟩ := belowV_rng c2 (n := 102) (by omega)
    obtain ⟨v, hv⟩ : ∃ v : Nat, belowV c2 102 = v := ⟨(belowV c2 102).toNat, by omega⟩
    have rz := R42 c2 hc2 102
    rw [hv] at q2 rz
    obtain ⟨w, hvw⟩ : ∃ w : Nat, (2900 : Int) + (v : Int) = w := ⟨2900 + v, rfl⟩
    have hw : IntKind.i64.wrap (w : Int) = w := wrap_i64 (by omega) (by omega)
    have hz1 : (w : Int) ≤ 281474976710656 := by omega
    have hz2 : (w : Int) ≤ 9223372036854775807 := by omega
    simp [k1, hv, hvw, over, scB]
    refine callK.bx (b := 100000) 0 rfl (by kernel_rfl) (by simp [upd_app]) (by simp [upd_app]) (fr _) (by simp [upd_app]) (by simp) rz rfl (by rfl) rfl ?_
    simp [hvw, hw, hz1, hz2, Slot.ocl, over, hb1]
    rw [leR_app]
    refine Le.growC 30 27 l zzB (List.replicate w 0) (by decide) (by simp [upd_app]; exact ⟨rfl, rfl⟩) (by simp [upd_app, rowsRep]) (fun h2 e1 e2 => ?_)
    have e3 := e2 100000 (by decide) (by decide)
    simp [upd_app] at e3
    simp [ex1, e1, e3, upd_app, Slot.csl, Slot.frC, fr, ioPos1]
  by_cases k3 : s = 3
  case pos =>
    have hc3 := belowC_ok hc2 3
    have hc4 := belowC_ok hc3 40
    obtain ⟨q1, q2⟩ := belowV_rng c2 (n := 3) (by omega)
    obtain ⟨q3, q4⟩ := belowV_rng (belowC c2 3) (n := 40) (by omega)
    obtain ⟨q5, q6⟩ := belowV_rng (belowC (belowC c2 3) 40) (n := 255) (by omega)
    have hw : IntKind.i64.wrap (1 + belowV (belowC (belowC c2 3) 40) 255) = 1 + belowV (belowC (belowC c2 3) 40) 255 := wrap_i64 (by omega) (by omega)
    have rg := R26 l (belowV c2 3) (belowV (belowC c2 3) 40) (1 + belowV (belowC (belowC c2 3) 40) 255) hl.ok ⟨by omega, by omega⟩
    simp [k3]
    refine callK.bx (b := 100000) 0 rfl (by kernel_rfl) (by simp [upd_app]) (by simp [upd_app]) (fr _) (by simp [upd_app]) (by simp) (R42 c2 hc2 3) rfl (by rfl) rfl ?_
    simp
    refine callK.bx (b := 100000) 0 rfl (by kernel_rfl) (by simp [upd_app]) (by simp [upd_app]) (fr _) (by simp [upd_app]) (by simp) (R42 _ hc3 40) rfl (by rfl) rfl ?_
    simp
    refine callK.bx (b := 100000) 0 rfl (by kernel_rfl) (by simp [upd_app]) (by simp [upd_app]) (fr _) (by simp [upd_app]) (by simp) (R42 _ hc4 255) rfl (by rfl) rfl ?_
    simp [hw]
    refine callK.ro 55 rfl (by kernel_rfl) (by simp [roc_sc, Slot.roc8, upd_app]) rg (Slot.ty.flo _) (by simp [inst, upd_app]; exact ⟨rfl, rfl⟩) rfl ?_
    simp
    rw [leR_app]
    refine ⟨_, Le.muteT Slot.ty (by decide) 55 (xs := dmg l (belowV c2 3) (belowV (belowC c2 3) 40) (1 + belowV (belowC (belowC c2 3) 40) 255)) (by simp [upd_app]), ?_⟩
    simp [ex1, upd_app, Slot.csl, Slot.frC, fr, ioPos1]
  by_cases k2 : s = 2
  case neg =>
    simp [k0, k1, k2, k3]
    rw [leR_app]
    refine ⟨_, Le.muteT Slot.ty (by decide) 6 (xs := l) (by simp [upd_app]), ?_⟩
    simp [ex1, upd_app, Slot.csl, Slot.frC, fr, ioPos1]
  simp [k2]
  refine T.le (Le.muteT Slot.ty (by decide) 6 (xs := l) (by simp [upd_app])) ?_
  refine T.rounds (μ := fun j : Nat => 18 - j)
    (fun j s => j ≤ 18 ∧ s.ρ 0 = .ref 100000 0 ∧ s.ρ 3 = .sl 6 0 (l.length + j) 2 false ∧ s.ρ 4 = .sc (.int .i64 j) ∧ s.h 100000 = some (some c2.cs) ∧ s.h 6 = some (some (rows Slot.ty.cs (l ++ zKs j))) ∧ s.h 43 = none ∧ s.h 44 = none ∧ s.n = 57) 0 (by simp [upd_app, zKs]) ?_
  rintro j ⟨ρ, hh, n⟩ ⟨hj, r0, r3, r4, bc, b6, f43, f44, rfl⟩
  simp only at hj r0 r3 r4 bc b6 f43 f44
  refine run_ok (n := 400) ?_
  have hlen : (l ++ zKs j).length = l.length + j := by rw [List.length_append, zKs_len]
  have hcl : (rows Slot.ty.cs (l ++ zKs j)).length = (l.length + j) * 2 := by rw [Slot.csl, hlen]
  by_cases hj2 : j = 18
  · subst hj2
    simp [r4]
    refine T.on 400 ?_
    simp [r3]
    rw [leR_app]
    refine ⟨_, Le.refl _, ?_⟩
    have := Slot.frC (l ++ zKs 18)
    simp [ex1, r0, b6, bc, hcl, this, hlen, zKs_len, fr, ioPos1]
  · have hlt : (j : Int) < 18 := by omega
    have hw : IntKind.i64.wrap ((j : Int) + 1) = j + 1 := wrap_i64 (by omega) (by omega)
    have hb2 : (l.length + j + 1) * 48 ≤ 140737488355328 := Nat.le_trans (Nat.mul_le_mul_right 48 (show l.length + j + 1 ≤ 24 by omega)) (by decide)
    have hz := numT_size j
    have hcat : (⟨#[122]⟩ : ByteArray).size + (numT j).size ≤ 9223372036854775807 := by
      show 1 + _ ≤ _
      omega
    have hkl : (⟨#[122]⟩ ++ numT j : ByteArray).size = (sB (⟨#[122]⟩ ++ numT j)).length := (sB_len _).symm
    simp [r3, r4, hlt]
    refine callK.ro 0 rfl (by kernel_rfl) (by simp [roc_sc]) (R75 j (by omega)) rfl rfl rfl ?_
    simp [r3, r4, b6, f43, f44, hw, hcl, over, hb2, strCells_rows, hkl, hcat]
    refine ⟨j + 1, by omega, ?_⟩
    refine Le.ex ?_
    refine Le.growE 44 (l ++ zKs j) (sB (⟨#[122]⟩ ++ numT j)) (by simp [upd_app]) (fun h2 e1 e2 => ?_)
    have e3 := e2 100000 (by decide)
    simp [upd_app, bc] at e3
    have e4 : l ++ zKs j ++ [⟨sB (⟨#[122]⟩ ++ numT j), []⟩] = l ++ zKs (j + 1) := by simp [zKs, zK]
    rw [e4] at e1
    refine ⟨_, Le.reseat (st := ⟨_, h2, _⟩) [0, 3, 4] [(44, 6), (100000, 100000)] (by simp) (by simp [upd_app, menB, idfree, r0]) ?_, ?_⟩
    · intro b hb cs hcs
      simp at hb
      rcases hb with rfl | rfl
      · simp [e1] at hcs
        subst hcs
        exact idfreeL_mem (Slot.frC _)
      · simp [e3] at hcs
        subst hcs
        exact idfreeL_mem (fr _)
    · simp [upd_app, keepR_app, keepHR_app, renA, rb, r0, e1, e3]
      omega
theorem u8_rng (z : Int) : 0 ≤ IntKind.u8.wrap z ∧ IntKind.u8.wrap z ≤ 255 := by
  unfold IntKind.wrap
  simp [IntKind.signed, IntKind.bits]
  omega
theorem dmg_is (xs : List Slot) (i a v : Int) (hx : Slot.ty.slice.ok xs) : (dmg xs i a v).length = xs.length ∧ Slot.ty.slice.ok (dmg xs i a v) ∧ toL Slot.tot (dmg xs i a v) = toL Slot.tot xs := by
  unfold dmg
  split
  case isFalse => exact ⟨rfl, hx, rfl⟩
  split
  case h_2 => exact ⟨rfl, hx, rfl⟩
  rename_i x hg
  split
  · exact ⟨rfl, hx, rfl⟩
  obtain ⟨hlt, hgx⟩ := List.getElem?_eq_some_iff.1 hg
  generalize hz : xr _ _ = z
  have hzr : 0 ≤ z ∧ z ≤ 255 := by rw [← hz]; exact u8_rng _
  have hxs : xs = xs.take i.toNat ++ x :: xs.drop (i.toNat + 1) := by rw [← hgx]; simp
  have hxo : Slot.ty.ok x := hx.2 x (List.mem_of_getElem? hg)
  refine ⟨by simp, ⟨?_, fun y hy => ?_⟩, ?_⟩
  · rw [List.length_set]; exact hx.1
  · rcases List.mem_or_eq_of_mem_set hy with hy | rfl
    · exact hx.2 y hy
    · obtain ⟨o1, ⟨o2, o3⟩, o4⟩ := hxo
      refine ⟨o1, ⟨?_, fun w hw => ?_⟩, o4⟩
      · show (x.b.set _ z).length * _ ≤ _
        rw [List.length_set]; exact o2
      · rcases List.mem_or_eq_of_mem_set hw with hw | rfl
        · exact o3 w hw
        · exact hzr
  · rw [List.set_eq_take_append_cons_drop, if_pos hlt]
    conv => rhs; rw [hxs]
    rw [toL_app, toL_app]
    simp [toL, Slot.tot]
theorem zKs_is : ∀ n : Nat, n ≤ 20 → CacheSz (zKs n) n (n * (n + 2))
  | 0, _ => CacheSz.nil
  | n + 1, hn => by
    have ih := zKs_is n (by omega)
    have hz := numT_size n
    have hk : (zK n).key.length ≤ n + 2 := by
      have e : (zK n).key.length = (⟨#[122]⟩ ++ numT n : ByteArray).size := sB_len _
      rw [e, ByteArray.size_append]
      have : (⟨#[122]⟩ : ByteArray).size = 1 := rfl
      omega
    have hb : (zK n).b.length = 0 := rfl
    refine ⟨⟨?_, fun x hx => ?_⟩, ?_, ?_⟩
    · show (zKs (n + 1)).length * 48 ≤ 140737488351232
      rw [zKs_len]; omega
    · rcases List.mem_append.1 hx with hx | hx
      · exact ih.ok.2 x hx
      · obtain rfl : x = zK n := by simpa using hx
        exact ⟨⟨show (zK n).key.length * 1 ≤ 140737488351232 by omega, sB_byte _⟩, ⟨show (zK n).b.length * 1 ≤ 140737488351232 by omega, fun x hx => by cases hx⟩, trivial⟩
    · rw [zKs_len]; omega
    · have := ih.w
      simp only [zKs, toL_app, toL, Slot.tot, hb]
      have e : (n + 1) * (n + 1 + 2) = n * (n + 2) + (2 * n + 3) := by
        rw [Nat.add_mul, Nat.one_mul, show n + 1 + 2 = (n + 2) + 1 from rfl, Nat.mul_add, Nat.mul_one]; omega
      rw [e]
      generalize n * (n + 2) = p at this ⊢
      omega
theorem CacheSz.app {a b : List Slot} {n w n2 w2 : Nat} (h : CacheSz a n w) (k : CacheSz b n2 w2) (hn : n + n2 ≤ 1000) : CacheSz (a ++ b) (n + n2) (w + w2) := by
  have h1 := h.n; have h2 := k.n; have h3 := h.w; have h4 := k.w
  refine ⟨⟨?_, fun x hx => (List.mem_append.1 hx).elim (h.ok.2 x) (k.ok.2 x)⟩, ?_, ?_⟩
  · show (a ++ b).length * 48 ≤ 140737488351232
    rw [List.length_append]; omega
  · rw [List.length_append]; omega
  · rw [toL_app]; omega
theorem CacheSz.one {k v : List Int} {w : Nat} (hk : byteL k) (hv : byteL v) (hw : k.length + v.length ≤ w) (hw2 : w ≤ 1000000) : CacheSz [⟨k, v⟩] 1 w := by
  refine ⟨⟨by show (1 : Nat) * 48 ≤ 140737488351232; decide, fun x hx => ?_⟩, Nat.le_refl _, ?_⟩
  · obtain rfl : x = ⟨k, v⟩ := by simpa using hx
    exact ⟨⟨show k.length * 1 ≤ 140737488351232 by omega, hk⟩, ⟨show v.length * 1 ≤ 140737488351232 by omega, hv⟩, trivial⟩
  · simp only [toL, Slot.tot]; omega
theorem anyL_is {c : Cur} (hc : c.ok) : (anyL c).2.ok ∧ CacheSz (anyL c).1 23 30000 := by
  obtain ⟨hc1, hl⟩ := drawP_is hc
  have hc2 := belowC_ok hc1 10
  have up : ∀ {l : List Slot} {n w : Nat}, CacheSz l n w → n ≤ 23 → w ≤ 30000 → CacheSz l 23 30000 := fun h h1 h2 => ⟨h.ok, Nat.le_trans h.n h1, Nat.le_trans h.w h2⟩
  unfold anyL
  simp only
  split
  · refine ⟨bytesC_ok 3 (belowC_ok hc2 6), up (hl.app (CacheSz.one (w := 5) (sB_byte _) (bytesV_byte 3 _) ?_ (by decide)) (by decide)) (by decide) (by decide)⟩
    have := keyV_len (belowC (drawP c).2 10)
    have e : (sB (pickS keyL (belowC (drawP c).2 10) 6)).length = (keyV (belowC (drawP c).2 10)).length := rfl
    rw [bytesV_len]; omega
  · split
    · obtain ⟨q1, q2⟩ := belowV_rng (belowC (drawP c).2 10) (n := 102) (by omega)
      refine ⟨belowC_ok hc2 102, up (hl.app (CacheSz.one (w := 4000) (fun x hx => by simp [zzB] at hx; omega) (fun x hx => by rw [(List.mem_replicate.1 hx).2]; decide) ?_ (by decide)) (by decide)) (by decide) (by decide)⟩
      rw [List.length_replicate]
      show 2 + _ ≤ _
      omega
    · split
      · exact ⟨hc2, up (hl.app (zKs_is 18 (by decide)) (by decide)) (by decide) (by decide)⟩
      · split
        · obtain ⟨d1, d2, d3⟩ := dmg_is (drawP c).1 (belowV (belowC (drawP c).2 10) 3) (belowV (belowC (belowC (drawP c).2 10) 3) 40) (1 + belowV (belowC (belowC (belowC (drawP c).2 10) 3) 40) 255) hl.ok
          exact ⟨belowC_ok (belowC_ok (belowC_ok hc2 3) 40) 255, d2, by rw [d1]; have := hl.n; omega, by rw [d3]; have := hl.w; omega⟩
        · exact ⟨hc2, up hl (by decide) (by decide)⟩
/- 8: loop.example/g00464/spec.DrawCacheOk -/
/- 12: loop.example/g00464/spec.DrawCacheSize -/
end Go.Proofs.YtaknfalbmblagaaGreatDoor.Am
namespace Go.Proofs.YtaknfalbmblagaaGreatDoor.Am
open Go Go.Proofs
set_option linter.unusedSimpArgs false
set_option linter.unusedVariables false
attribute [local congr] T_congr callK_congr callWK_congr
attribute [local simp] run_nil run_op0 run_opg run_seq run_cond run_block run_ret run_skip run_skip_after run_skip_blk run_exit run_exit_after run_exit_blk run_loop run_any runS_nil runS_op0 runS_opg runW_nil runW_op0 runW_opg exec_q exec_w exec_c exec_n execW_q execW_w execW_c restW_app hideH_app merge_app wblk rest_app restS_app execS_q execS_c aval dOk upd_app ev_t ev_c setO_some setO_none put_mk pinsOf isIo hasIo sbin endR fin resL one outL out1 clo1 cloL coe coeL shut shut.shutL wantA weff cellsOf fillA deref natOf ρ0_app h0_app plain plain.plainL keep_app keepH_app andThen_normal andThen_ret andThen_exit pop_nil pop_after pop_after_ret pop_after_exit pop_blk pop_blk_ret pop_blk_exit nilA srcOf srcCells keepR_app keepHR_app renA rb
/- 9: loop.example/g00464/spec.DrawCacheGet -/
def putL (code : List Int) : List Slot := (anyL (newC code)).1
def putC (code : List Int) : Cur := (anyL (newC code)).2
/- 19: loop.example/g00464/spec.DrawCachePut -/
def A19 : AC := (.seq (.ops [⟨(some 2), none, .q (.mov (.c .em))⟩, ⟨(some 3), none, .q (.mov (.c .em))⟩, ⟨(some 4), none, .w (.alloc [(.sc (.string ⟨#[]⟩)), .em, (.sc (.string ⟨#[]⟩))])⟩])
  (.seq (.ops [⟨(some 8), none, .q (.mov (.t 0))⟩, ⟨(some 9), none, .c (.c (.clo 39 [])) [(.t 8)]⟩, ⟨(some 5), none, .q (.mov (.t 9))⟩])
  (.seq (.ops [⟨(some 10), none, .q (.mov (.t 5))⟩, ⟨(some 11), none, .c (.c (.clo 40 [])) [(.t 10)]⟩, ⟨(some 6), none, .q (.mov (.t 11))⟩])
  (.seq (.ops [⟨(some 12), none, .q (.mov (.t 5))⟩, ⟨(some 13), none, .c (.c (.clo 43 [])) [(.t 12)]⟩, ⟨(some 7), none, .q (.mov (.t 13))⟩])
  (.seq (.ops [⟨(some 14), none, .q (.mov (.t 6))⟩, ⟨(some 15), none, .q (.mov (.t 7))⟩, ⟨(some 16), none, .q (.mov (.t 5))⟩, ⟨(some 17), none, .c (.c (.clo 52 [])) [(.t 16)]⟩, ⟨(some 2), none, .q (.mov (.t 14))⟩, ⟨(some 3), none, .q (.mov (.t 15))⟩, ⟨none, none, .w (.store 3 (.t 4) (.t 17))⟩])
  .ret)))))
theorem K19 : Tryz.f19.body.bind (comp Tryz.prog) = some A19 ∧ Tryz.f19.ntmps = 18 ∧ Tryz.f19.results.toList.mapM (resB Tryz.prog) = some [.mov (.t 2), .mov (.t 3), .load true 3 (.t 4)] := ⟨by kernel_rfl, by kernel_rfl, by kernel_rfl⟩
set_option maxHeartbeats 2000000 in
theorem R19 (code : List Int) (hx : Ty.byte.slice.ok code) : Ret Tryz.prog 19 [.ro (rows B code) code.length] (.tup [.own (rows Slot.ty.cs (putL code)) (putL code).length 2, .ro (rows B (keyV (putC code))) (keyV (putC code)).length, .agg (Made.ty.oc (anyP (belowC (putC code) 6)).1)]) [.un] := by
  have fr : ∀ c : Cur, idfree.idfreeL c.cs = true := fun c => rfl
  have hc0 := newC_ok hx
  obtain ⟨hc1, hl⟩ := anyL_is hc0
  have ra : Ret Tryz.prog 40 [.bx (newC code).cs] (.own (rows Slot.ty.cs (putL code)) (putL code).length 2) [.bx (putC code).cs] := R40 _ hc0
  have hc1 : (putC code).ok := hc1
  have rm := R52 _ (belowC_ok hc1 6)
  rw [Made.oce] at rm
  refine Ret.run Tryz.func19 K19 (by simp) rfl rfl 900 ?_
  simp [A19, iniρ, over]
  refine callK.cut [.ro] 50 (r := [(none, none)]) rfl (by kernel_rfl) rfl (by rfl) (by rfl) (by simp [closedB, shut, upd_app]) (by simp [shutArgs, roc_ro, upd_app]; rfl) (by rfl) (R39 code hx) (by rfl) (by rfl) (by simp [inst, upd_app]; exact ⟨rfl, rfl⟩) rfl ?_
  simp [over]
  refine callK.bx (b := 50) 11 rfl (by kernel_rfl) (by simp [upd_app]) (by simp [upd_app]) (fr _) (by simp [upd_app]) (by simp) ra rfl (by simp [inst, upd_app]; exact ⟨rfl, rfl⟩) rfl ?_
  simp [over]
  refine callK.bx (b := 50) 13 rfl (by kernel_rfl) (by simp [upd_app]) (by simp [upd_app]) (fr _) (by simp [upd_app]) (by simp) (R43 _ hc1) rfl (by simp [inst, shut, upd_app]; exact ⟨rfl, rfl⟩) rfl ?_
  simp [over]
  refine callK.bx (b := 50) 17 rfl (by kernel_rfl) (by simp [upd_app]) (by simp [upd_app]) (fr _) (by simp [upd_app]) (by simp) rm rfl (by simp [inst, instL, shut, upd_app]; exact ⟨rfl, rfl⟩) rfl ?_
  simp [over, ex1, Slot.csl, Slot.frC, File.ocl, File.frL, Made.oce]
def iL : List Int := [0, 0, 1, -1, 9]
def atL : List Int := [0, 5, 30, -1, 1000]
def xL : List Int := [1, 255, 256, 0, -1]
def pickI (l : List Int) (c : Cur) (n : Int) : Int := l[(belowV c n).toNat]?.getD 0
/- 25: loop.example/g00464/spec.DrawDamage -/
def A25 : AC := (.seq (.ops [⟨(some 2), none, .q (.mov (.c .em))⟩, ⟨(some 3), none, .q (.mov (.c (.sc (.int .i64 0))))⟩, ⟨(some 4), none, .q (.mov (.c (.sc (.int .i64 0))))⟩, ⟨(some 5), none, .q (.mov (.c (.sc (.int .i64 0))))⟩])
  (.seq (.ops [⟨(some 7), none, .q (.mov (.t 0))⟩, ⟨(some 8), none, .c (.c (.clo 39 [])) [(.t 7)]⟩, ⟨(some 6), none, .q (.mov (.t 8))⟩])
  (.seq (.ops [⟨(some 9), none, .q (.mov (.t 6))⟩, ⟨(some 10), none, .c (.c (.clo 40 [])) [(.t 9)]⟩, ⟨(some 11), none, .q (.mov (.t 6))⟩, ⟨(some 12), none, .w (.bsl 1 5 [(.sc (.int .i64 0)), (.sc (.int .i64 0)), (.sc (.int .i64 0)), (.sc (.int .i64 0)), (.sc (.int .i64 0))] [(0, 1, (.c (.sc (.int .i64 0)))), (1, 1, (.c (.sc (.int .i64 0)))), (2, 1, (.c (.sc (.int .i64 1)))), (3, 1, (.c (.sc (.int .i64 (-1))))), (4, 1, (.c (.sc (.int .i64 9))))])⟩, ⟨(some 13), none, .c (.c (.clo 63 [])) [(.t 11), (.t 12)]⟩, ⟨(some 14), none, .q (.mov (.t 6))⟩, ⟨(some 15), none, .w (.bsl 1 5 [(.sc (.int .i64 0)), (.sc (.int .i64 0)), (.sc (.int .i64 0)), (.sc (.int .i64 0)), (.sc (.int .i64 0))] [(0, 1, (.c (.sc (.int .i64 0)))), (1, 1, (.c (.sc (.int .i64 5)))), (2, 1, (.c (.sc (.int .i64 30)))), (3, 1, (.c (.sc (.int .i64 (-1))))), (4, 1, (.c (.sc (.int .i64 1000))))])⟩, ⟨(some 16), none, .c (.c (.clo 63 [])) [(.t 14), (.t 15)]⟩, ⟨(some 17), none, .q (.mov (.t 6))⟩, ⟨(some 18), none, .w (.bsl 1 5 [(.sc (.int .i64 0)), (.sc (.int .i64 0)), (.sc (.int .i64 0)), (.sc (.int .i64 0)), (.sc (.int .i64 0))] [(0, 1, (.c (.sc (.int .i64 1)))), (1, 1, (.c (.sc (.int .i64 255)))), (2, 1, (.c (.sc (.int .i64 256)))), (3, 1, (.c (.sc (.int .i64 0)))), (4, 1, (.c (.sc (.int .i64 (-1)))))])⟩, ⟨(some 19), none, .c (.c (.clo 63 [])) [(.t 17), (.t 18)]⟩, ⟨(some 2), none, .q (.mov (.t 10))⟩, ⟨(some 3), none, .q (.mov (.t 13))⟩, ⟨(some 4), none, .q (.mov (.t 16))⟩, ⟨(some 5), none, .q (.mov (.t 19))⟩])
  .ret)))
theorem K25 : Tryz.f25.body.bind (comp Tryz.prog) = some A25 ∧ Tryz.f25.ntmps = 20 ∧ Tryz.f25.results.toList.mapM (resB Tryz.prog) = some [.mov (.t 2), .mov (.t 3), .mov (.t 4), .mov (.t 5)] := ⟨by kernel_rfl, by kernel_rfl, by kernel_rfl⟩
set_option maxHeartbeats 2000000 in
theorem R25 (code : List Int) (hx : Ty.byte.slice.ok code) : Ret Tryz.prog 25 [.ro (rows B code) code.length] (.tup [.own (rows Slot.ty.cs (putL code)) (putL code).length 2, .sc (.int .i64 (pickI iL (putC code) 5)), .sc (.int .i64 (pickI atL (belowC (putC code) 5) 5)), .sc (.int .i64 (pickI xL (belowC (belowC (putC code) 5) 5) 5))]) [.un] := by
  have fr : ∀ c : Cur, idfree.idfreeL c.cs = true := fun c => rfl
  have hc0 := newC_ok hx
  obtain ⟨hc1, hl⟩ := anyL_is hc0
  have ra : Ret Tryz.prog 40 [.bx (newC code).cs] (.own (rows Slot.ty.cs (putL code)) (putL code).length 2) [.bx (putC code).cs] := R40 _ hc0
  have hc1 : (putC code).ok := hc1
  have r1 : Ret Tryz.prog 63 [.bx (putC code).cs, .own (rows Ty.int.oc iL) 5 1] (.sc (.int .i64 (pickI iL (putC code) 5))) [.bx (belowC (putC code) 5).cs, .un] := R63 _ hc1 iL (by decide)
  have r2 : Ret Tryz.prog 63 [.bx (belowC (putC code) 5).cs, .own (rows Ty.int.oc atL) 5 1] (.sc (.int .i64 (pickI atL (belowC (putC code) 5) 5))) [.bx (belowC (belowC (putC code) 5) 5).cs, .un] := R63 _ (belowC_ok hc1 5) atL (by decide)
  have r3 : Ret Tryz.prog 63 [.bx (belowC (belowC (putC code) 5) 5).cs, .own (rows Ty.int.oc xL) 5 1] (.sc (.int .i64 (pickI xL (belowC (belowC (putC code) 5) 5) 5))) [.bx (belowC (belowC (belowC (putC code) 5) 5) 5).cs, .un] := R63 _ (belowC_ok (belowC_ok hc1 5) 5) xL (by decide)
  refine Ret.run Tryz.func25 K25 (by simp) rfl rfl 900 ?_
  simp [A25, iniρ, over]
  refine callK.cut [.ro] 50 (r := [(none, none)]) rfl (by kernel_rfl) rfl (by rfl) (by rfl) (by simp [closedB, shut, upd_app]) (by simp [shutArgs, roc_ro, upd_app]; rfl) (by rfl) (R39 code hx) (by rfl) (by rfl) (by simp [inst, upd_app]; exact ⟨rfl, rfl⟩) rfl ?_
  simp [over]
  refine callK.bx (b := 50) 10 rfl (by kernel_rfl) (by simp [upd_app]) (by simp [upd_app]) (fr _) (by simp [upd_app]) (by simp) ra rfl (by simp [inst, upd_app]; exact ⟨rfl, rfl⟩) rfl ?_
  simp [over]
  refine callK.bm 50 12 (len := 5) (sz := 1) rfl (by kernel_rfl) (by simp [upd_app]) (by simp [upd_app]) (fr _) (by simp [upd_app]) (by simp [upd_app]; rfl) (by rfl) (by rfl) (by decide) r1 rfl rfl ?_
  simp [over]
  refine callK.bm 50 15 (len := 5) (sz := 1) rfl (by kernel_rfl) (by simp [upd_app]) (by simp [upd_app]) (fr _) (by simp [upd_app]) (by simp [upd_app]; rfl) (by rfl) (by rfl) (by decide) r2 rfl rfl ?_
  simp [over]
  refine callK.bm 50 18 (len := 5) (sz := 1) rfl (by kernel_rfl) (by simp [upd_app]) (by simp [upd_app]) (fr _) (by simp [upd_app]) (by simp [upd_app]; rfl) (by rfl) (by rfl) (by decide) r3 rfl rfl ?_
  simp [over, ex1, Slot.csl, Slot.frC]
/- 21: loop.example/g00464/laws.sameSlots -/
def A21 : AC := (.seq (.ops [⟨(some 4), none, .q (.mov (.c (.sc (.bool false))))⟩])
  (.seq (.seq (.ops [⟨(some 6), none, .q (.mov (.t 0))⟩, ⟨(some 7), none, .q (.llen (.t 6))⟩, ⟨(some 8), none, .q (.mov (.t 1))⟩, ⟨(some 9), none, .q (.llen (.t 8))⟩, ⟨(some 10), none, .q (.bin .neq (.t 7) (.t 9))⟩])
  (.cond (.t 10) (.seq (.ops [⟨(some 4), none, .q (.mov (.c (.sc (.bool false))))⟩])
  .ret)
  .skip))
  (.seq (.seq (.ops [⟨(some 5), none, .q (.mov (.c (.sc (.int .i64 0))))⟩])
  (.block 0 (.loop (.seq (.seq (.ops [⟨(some 11), none, .q (.mov (.t 5))⟩, ⟨(some 12), none, .q (.mov (.t 0))⟩, ⟨(some 13), none, .q (.llen (.t 12))⟩, ⟨(some 14), none, .q (.bin .lss (.t 11) (.t 13))⟩])
  (.cond (.t 14) .skip
  (.exit 0)))
  (.seq (.block 1 (.seq (.any [(⟨(some 17), none, .q (.mov (.t 0))⟩, []), (⟨(some 18), none, .q (.mov (.t 5))⟩, []), (⟨(some 19), none, .q (.iadr 2 (.t 17) (.t 18))⟩, [0, 1]), (⟨(some 20), none, .q (.fadr 0 (.t 19))⟩, [2]), (⟨(some 21), none, .q (.load false 1 (.t 20))⟩, [3]), (⟨(some 22), none, .q (.bstr (.t 21))⟩, [4]), (⟨(some 23), none, .q (.mov (.t 1))⟩, []), (⟨(some 24), none, .q (.mov (.t 5))⟩, []), (⟨(some 25), none, .q (.iadr 2 (.t 23) (.t 24))⟩, [6, 7]), (⟨(some 26), none, .q (.fadr 0 (.t 25))⟩, [8]), (⟨(some 27), none, .q (.load false 1 (.t 26))⟩, [9]), (⟨(some 28), none, .q (.bstr (.t 27))⟩, [10]), (⟨(some 29), none, .q (.bin .neq (.t 22) (.t 28))⟩, [5, 11]), (⟨(some 30), none, .q (.mov (.t 29))⟩, [12]), (⟨(some 31), (some (30, false)), .q (.mov (.t 0))⟩, [13]), (⟨(some 32), (some (30, false)), .q (.mov (.t 5))⟩, [13]), (⟨(some 33), (some (30, false)), .q (.iadr 2 (.t 31) (.t 32))⟩, [14, 15, 13]), (⟨(some 34), (some (30, false)), .q (.fadr 1 (.t 33))⟩, [16, 13]), (⟨(some 35), (some (30, false)), .q (.load false 1 (.t 34))⟩, [17, 13]), (⟨(some 36), (some (30, false)), .q (.bstr (.t 35))⟩, [18, 13]), (⟨(some 37), (some (30, false)), .q (.mov (.t 1))⟩, [13]), (⟨(some 38), (some (30, false)), .q (.mov (.t 5))⟩, [13]), (⟨(some 39), (some (30, false)), .q (.iadr 2 (.t 37) (.t 38))⟩, [20, 21, 13]), (⟨(some 40), (some (30, false)), .q (.fadr 1 (.t 39))⟩, [22, 13]), (⟨(some 41), (some (30, false)), .q (.load false 1 (.t 40))⟩, [23, 13]), (⟨(some 42), (some (30, false)), .q (.bstr (.t 41))⟩, [24, 13]), (⟨(some 43), (some (30, false)), .q (.bin .neq (.t 36) (.t 42))⟩, [19, 25, 13]), (⟨(some 44), none, .q (.pick (.t 30) (.c (.sc (.bool true))) (.t 43))⟩, [13, 26])])
  (.cond (.t 44) (.seq (.ops [⟨(some 4), none, .q (.mov (.c (.sc (.bool false))))⟩])
  .ret)
  .skip)))
  (.ops [⟨(some 15), none, .q (.mov (.t 5))⟩, ⟨(some 16), none, .q (.bin .add (.t 15) (.c (.sc (.int .i64 1))))⟩, ⟨(some 5), none, .q (.mov (.t 16))⟩]))))))
  (.seq (.ops [⟨(some 4), none, .q (.mov (.c (.sc (.bool true))))⟩])
  .ret))))
theorem K21 : Tryz.f21.body.bind (comp Tryz.prog) = some A21 ∧ Tryz.f21.ntmps = 45 ∧ Tryz.f21.results.toList.mapM (resB Tryz.prog) = some [.mov (.t 4)] := ⟨by kernel_rfl, by kernel_rfl, by kernel_rfl⟩
theorem R21 (xs : List Slot) (hb : xs.length < 4611686018427387904) : Ret Tryz.prog 21 [.ro (rows Slot.ty.cs xs) xs.length, .ro (rows Slot.ty.cs xs) xs.length] (.sc (.bool true)) [.un, .un] := by
  refine Ret.run Tryz.func21 K21 (by simp) rfl rfl 500 ?_
  simp [A21, iniρ]
  refine T.rounds (μ := fun i : List Slot × List Slot => i.2.length)
    (fun i s => i.1 ++ i.2 = xs ∧ s.ρ 0 = .ro (rows Slot.ty.cs xs) xs.length ∧ s.ρ 1 = .ro (rows Slot.ty.cs xs) xs.length ∧ s.ρ 5 = .sc (.int .i64 i.1.length) ∧ s.n = 45) ([], xs) (by simp [upd_app]) ?_
  rintro ⟨pre, rest⟩ ⟨ρ, hh, n⟩ ⟨hx, h0', h1', h5', rfl⟩
  simp only at hx h0' h1' h5'
  refine run_ok (n := 400) ?_
  cases rest with
  | nil =>
    simp at hx
    subst hx
    simp [h0', h5']
    refine T.on 400 ?_
    simp
  | cons x rest =>
    have hlt : (pre.length : Int) < xs.length := by rw [← hx]; simp only [List.length_append, List.length_cons]; omega
    have hd := rows_drop Slot.ty.csn pre (x :: rest)
    rw [hx, rows_cons] at hd
    have hd : List.drop (pre.length * 2) (rows Slot.ty.cs xs) = .ro (rows B x.key) x.key.length :: .ro (rows B x.b) x.b.length :: rows Slot.ty.cs rest := hd
    have hd1 : List.drop (pre.length * 2 + 1) (rows Slot.ty.cs xs) = .ro (rows B x.b) x.b.length :: rows Slot.ty.cs rest := by rw [← List.drop_drop, hd]; rfl
    have hw : IntKind.i64.wrap ((pre.length : Int) + 1) = pre.length + 1 := wrap_i64 (by omega) (by omega)
    simp [h0', h1', h5', hlt]
    refine T.text 400 mixed (by kernel_rfl) (by kernel_rfl) ?_
    simp [h0', h1', h5', hlt, hd, hd1, bytesA, B.count, B.num, hw]
    refine ⟨pre ++ [x], rest, by simp, _, Le.refl _, ?_⟩
    simp [hx, h0', h1', upd_app]
end Go.Proofs.YtaknfalbmblagaaGreatDoor.Am
namespace Go.Proofs.YtaknfalbmblagaaGreatDoor.Am
open Go Go.Proofs
set_option linter.unusedSimpArgs false
set_option linter.unusedVariables false
attribute [local congr] T_congr callK_congr callWK_congr
attribute [local simp] run_nil run_op0 run_opg run_seq run_cond run_block run_ret run_skip run_skip_after run_skip_blk run_exit run_exit_after run_exit_blk run_loop run_any runS_nil runS_op0 runS_opg runW_nil runW_op0 runW_opg exec_q exec_w exec_c exec_n execW_q execW_w execW_c restW_app hideH_app merge_app wblk rest_app restS_app execS_q execS_c aval dOk upd_app ev_t ev_c setO_some setO_none put_mk pinsOf isIo hasIo sbin endR fin resL one outL out1 clo1 cloL coe coeL shut shut.shutL wantA weff cellsOf fillA deref natOf ρ0_app h0_app plain plain.plainL keep_app keepH_app andThen_normal andThen_ret andThen_exit pop_nil pop_after pop_after_ret pop_after_exit pop_blk pop_blk_ret pop_blk_exit nilA srcOf srcCells keepR_app keepHR_app renA rb
theorem eqBy_all {α : Type} {f : α → α → Bool} (h : ∀ x, f x x = true) : ∀ xs : List α, eqBy f xs xs = true
  | [] => rfl
  | x :: xs => by simp [eqBy, h x, eqBy_all h xs]
theorem strEq_refl (a : ByteArray) : strEq a a = true := by simp [strEq]
theorem fileEq_refl (m : File) : fileEq m m = true := by simp [fileEq, strEq_refl]
theorem madeEq_refl (m : Made) : madeEq m m = true := by simp [madeEq, strEq_refl, eqBy_all fileEq_refl]
theorem Slot.rocC {h : Hp} {b : Nat} {xs : List Slot} {lim : Bool} (hb : h b = some (some (rows Slot.ty.cs xs))) : roc h 8 (.sl b 0 xs.length 2 lim) = some (.ro (rows Slot.ty.cs xs) xs.length) := roc_sl hb (Slot.csl xs) (shutL_of (rows_all Slot.ty.sh xs))
/- 7: loop.example/g00464/laws.big -/
def A7 : AC := (.seq (.ops [⟨(some 2), none, .q (.mov (.c (.sc (.bool false))))⟩])
  (.seq (.ops [⟨(some 3), none, .q (.mov (.t 0))⟩, ⟨(some 4), none, .q (.llen (.t 3))⟩, ⟨(some 5), none, .q (.bin .gtr (.t 4) (.c (.sc (.int .i64 1048576))))⟩, ⟨(some 2), none, .q (.mov (.t 5))⟩])
  .ret))
theorem K7 : Tryz.f7.body.bind (comp Tryz.prog) = some A7 ∧ Tryz.f7.ntmps = 6 ∧ Tryz.f7.results.toList.mapM (resB Tryz.prog) = some [.mov (.t 2)] := ⟨by kernel_rfl, by kernel_rfl, by kernel_rfl⟩
theorem R7 (code : List Int) : Ret Tryz.prog 7 [.ro (rows B code) code.length] (.sc (.bool (decide ((1048576 : Int) < code.length)))) [.un] := by
  refine Ret.run Tryz.func7 K7 (by simp) rfl rfl 500 ?_
  simp [A7, iniρ]
/- 3: loop.example/g00464/laws.FnCachesBent -/
end Go.Proofs.YtaknfalbmblagaaGreatDoor.Am
namespace Go.Proofs.YtaknfalbmblagaaGreatDoor.Am
open Go Go.Proofs
set_option linter.unusedSimpArgs false
set_option linter.unusedVariables false
attribute [local congr] T_congr callK_congr callWK_congr
attribute [local simp] run_nil run_op0 run_opg run_seq run_cond run_block run_ret run_skip run_skip_after run_skip_blk run_exit run_exit_after run_exit_blk run_loop run_any runS_nil runS_op0 runS_opg runW_nil runW_op0 runW_opg exec_q exec_w exec_c exec_n execW_q execW_w execW_c restW_app hideH_app merge_app wblk rest_app restS_app execS_q execS_c aval dOk upd_app ev_t ev_c setO_some setO_none put_mk pinsOf isIo hasIo sbin endR fin resL one outL out1 clo1 cloL coe coeL shut shut.shutL wantA weff cellsOf fillA deref natOf ρ0_app h0_app plain plain.plainL keep_app keepH_app andThen_normal andThen_ret andThen_exit pop_nil pop_after pop_after_ret pop_after_exit pop_blk pop_blk_ret pop_blk_exit nilA srcOf srcCells keepR_app keepHR_app renA rb
theorem bEq_self (a : List Int) : bEq a a = true := by simp [bEq]
/-- What is kept last stays. -/
theorem dropOk_last (s : Slot) : ∀ a : List Slot, ∃ a', dropOk (a ++ [s]) = a' ++ [s] ∧ (∀ x ∈ a', x ∈ a) ∧ (a' = [] ∨ cacheOk (a' ++ [s]) = true)
  | [] => ⟨[], by simp [dropOk], by simp, .inl rfl⟩
  | x :: a => by
    obtain ⟨a', h1, h2, h3⟩ := dropOk_last s a
    by_cases h : (a ++ [s]).length = 0 ∨ cacheOk (x :: (a ++ [s])) = true
    · have hc : cacheOk (x :: (a ++ [s])) = true := h.resolve_left (by simp)
      exact ⟨x :: a, by rw [List.cons_append, dropOk, if_pos h], fun y hy => hy, .inr hc⟩
    · refine ⟨a', ?_, fun y hy => List.mem_cons_of_mem _ (h2 y hy), h3⟩
      rw [List.cons_append, dropOk, if_neg h, h1]
theorem idx_last (f : Slot → Bool) (s : Slot) (hs : f s = true) : ∀ (a : List Slot) (i : Int), (∀ x ∈ a, f x = false) → idx f (a ++ [s]) i = i + a.length
  | [], i, _ => by simp [idx, hs]
  | x :: a, i, h => by
    have ih := idx_last f s hs a (i + 1) fun y hy => h y (by simp [hy])
    rw [List.cons_append, idx, if_neg (by rw [h x (by simp)]; decide), ih, List.length_cons]
    omega
/-- What is put is there, last; the rest was there. -/
theorem slotPut_at {xs : List Slot} {k : List Int} {m : Made} (hm : madeOk m = true) (hl : (putM m).length ≤ 3000) : ∃ a, slotPut xs k m = a ++ [⟨k, putM m⟩] ∧ (∀ x ∈ a, x ∈ xs ∧ bEq x.key k = false) ∧ (a = [] ∨ cacheOk (slotPut xs k m) = true) := by
  obtain ⟨a, h1, h2, h3⟩ := dropOk_last ⟨k, putM m⟩ (xs.filter fun s => !bEq s.key k)
  have e : slotPut xs k m = a ++ [⟨k, putM m⟩] := by rw [slotPut, if_pos ⟨hm, hl⟩, h1]
  refine ⟨a, e, fun x hx => ?_, ?_⟩
  · obtain ⟨q1, q2⟩ := List.mem_filter.1 (h2 x hx)
    exact ⟨q1, by simpa using q2⟩
  · rw [e]; exact h3
/-- what is drawn to be put is small -/
structure AnySz (m : Made) : Prop where
  t : m.task.size ≤ 10
  l : m.log.size ≤ 210
  n : m.outs.length ≤ 8
  f : ∀ x ∈ m.outs, x.path.size ≤ 30 ∧ x.text.size ≤ 30
theorem zFs_is : ∀ n : Nat, n ≤ 6 → (zFs n).length = n ∧ ∀ x ∈ zFs n, x.path.size ≤ 30 ∧ x.text.size ≤ 30
  | 0, _ => ⟨rfl, fun x hx => by cases hx⟩
  | n + 1, h => by
    obtain ⟨h1, h2⟩ := zFs_is n (by omega)
    refine ⟨by simp [zFs, h1], fun x hx => ?_⟩
    rcases List.mem_append.1 hx with hx | hx
    · exact h2 x hx
    · obtain rfl : x = zF n := by simpa using hx
      have hz := numT_size n
      refine ⟨?_, Nat.zero_le _⟩
      show (⟨#[122]⟩ ++ numT n : ByteArray).size ≤ 30
      rw [ByteArray.size_append]
      have : (⟨#[122]⟩ : ByteArray).size = 1 := rfl
      omega
theorem anyP_sz {c : Cur} (hc : c.ok) : AnySz (anyP c).1 := by
  have hc1 := belowC_ok hc 4
  obtain ⟨hc2, h2, h3⟩ := madeP_ok hc1
  have ht : (pickS abxL c 4).size ≤ 7 := pick_size (by decide) _ _
  have hlg : (pickS doneL (belowC c 4) 3).size ≤ 5 := pick_size (by decide) _ _
  have hm : AnySz (madeV (belowC c 4) (pickS abxL c 4)) := ⟨by show (pickS abxL c 4).size ≤ 10; omega, by show (pickS doneL (belowC c 4) 3).size ≤ 210; omega, by show (madeP (belowC c 4)).1.length ≤ 8; omega, fun x hx => by have := h3 x hx; omega⟩
  have hn2 : (madeV (belowC c 4) (pickS abxL c 4)).outs.length ≤ 2 := h2
  unfold anyP
  simp only
  split
  · refine ⟨hm.t, hm.l, by simp only [List.length_append, List.length_singleton]; omega, fun x hx => ?_⟩
    rcases List.mem_append.1 hx with hx | hx
    · exact hm.f x hx
    · obtain rfl := List.mem_singleton.1 hx
      exact ⟨Nat.le_trans (pick_size (n := 5) (by decide) _ _) (by decide), Nat.zero_le _⟩
  · split
    · refine ⟨hm.t, ?_, hm.n, hm.f⟩
      obtain ⟨q1, q2⟩ := belowV_rng (belowC (madeC (belowC c 4)) 8) (n := 2) (by omega)
      have e : ∀ l : List Int, (strOfNums l).size = l.length := fun l => by
        have := sB_len (strOfNums l)
        rw [← this]
        simp [sB, strOfNums]
      show (strOfNums _).size ≤ 210
      rw [e, List.length_replicate]
      omega
    · split
      · obtain ⟨z1, z2⟩ := zFs_is 6 (by decide)
        refine ⟨hm.t, hm.l, by simp only [List.length_append, z1]; omega, fun x hx => (List.mem_append.1 hx).elim (hm.f x) (z2 x)⟩
      · exact hm
theorem AnySz.fit {m : Made} (h : AnySz m) : Fit m := ⟨by have := h.t; omega, by have := h.l; omega, fun x hx => by have := h.f x hx; omega, by have := h.n; omega⟩
theorem AnySz.w {m : Made} (h : AnySz m) : mw m ≤ 800 := by
  have hf := fw_le (n := 30) (k := 8) h.n h.f
  have h1 := h.t; have h2 := h.l; have h3 := h.n
  unfold mw; omega
theorem AnySz.put {m : Made} (h : AnySz m) : (putM m).length ≤ 900 := by
  have h1 := bodyM_le m
  have h2 := h.w
  have e : (putM m).length = (bodyM m).length + 2 := by simp [putM, sumsL]
  omega
end Go.Proofs.YtaknfalbmblagaaGreatDoor.Am
namespace Go.Proofs.YtaknfalbmblagaaGreatDoor.Am
open Go Go.Proofs
set_option linter.unusedSimpArgs false
set_option linter.unusedVariables false
attribute [local congr] T_congr callK_congr callWK_congr
attribute [local simp] run_nil run_op0 run_opg run_seq run_cond run_block run_ret run_skip run_skip_after run_skip_blk run_exit run_exit_after run_exit_blk run_loop run_any runS_nil runS_op0 runS_opg runW_nil runW_op0 runW_opg exec_q exec_w exec_c exec_n execW_q execW_w execW_c restW_app hideH_app merge_app wblk rest_app restS_app execS_q execS_c aval dOk upd_app ev_t ev_c setO_some setO_none put_mk pinsOf isIo hasIo sbin endR fin resL one outL out1 clo1 cloL coe coeL shut shut.shutL wantA weff cellsOf fillA deref natOf ρ0_app h0_app plain plain.plainL keep_app keepH_app andThen_normal andThen_ret andThen_exit pop_nil pop_after pop_after_ret pop_after_exit pop_blk pop_blk_ret pop_blk_exit nilA srcOf srcCells keepR_app keepHR_app renA rb
/- 4: loop.example/g00464/laws.FnCaches -/
end Go.Proofs.YtaknfalbmblagaaGreatDoor.Am
namespace Go.Proofs.YtaknfalbmblagaaGreatDoor.Am
open Go Go.Proofs
set_option linter.unusedSimpArgs false
set_option linter.unusedVariables false
attribute [local congr] T_congr callK_congr callWK_congr
attribute [local simp] run_nil run_op0 run_opg run_seq run_cond run_block run_ret run_skip run_skip_after run_skip_blk run_exit run_exit_after run_exit_blk run_loop run_any runS_nil runS_op0 runS_opg runW_nil runW_op0 runW_opg exec_q exec_w exec_c exec_n execW_q execW_w execW_c restW_app hideH_app merge_app wblk rest_app restS_app execS_q execS_c aval dOk upd_app ev_t ev_c setO_some setO_none put_mk pinsOf isIo hasIo sbin endR fin resL one outL out1 clo1 cloL coe coeL shut shut.shutL wantA weff cellsOf fillA deref natOf ρ0_app h0_app plain plain.plainL keep_app keepH_app andThen_normal andThen_ret andThen_exit pop_nil pop_after pop_after_ret pop_after_exit pop_blk pop_blk_ret pop_blk_exit nilA srcOf srcCells keepR_app keepHR_app renA rb
theorem xr_ne {y v : Int} (hy : 0 ≤ y ∧ y ≤ 255) (hv : 1 ≤ v ∧ v ≤ 255) : xr y (IntKind.u8.wrap v) ≠ y ∧ 0 ≤ xr y (IntKind.u8.wrap v) ∧ xr y (IntKind.u8.wrap v) ≤ 255 := by
  obtain ⟨a, ha⟩ : ∃ a : Nat, y = a := ⟨y.toNat, by omega⟩
  obtain ⟨b, hb⟩ : ∃ b : Nat, v = b := ⟨v.toNat, by omega⟩
  subst ha hb
  have hw : IntKind.u8.wrap (b : Int) = b := by simp [IntKind.wrap, IntKind.bits, IntKind.signed]; omega
  have e1 : ((a : Int) % 2 ^ IntKind.u8.bits).toNat = a := by simp [IntKind.bits]; omega
  have e2 : ((b : Int) % 2 ^ IntKind.u8.bits).toNat = b := by simp [IntKind.bits]; omega
  have hx : a ^^^ b < 2 ^ 8 := Nat.xor_lt_two_pow (by omega) (by omega)
  have e3 : IntKind.u8.wrap ((a ^^^ b : Nat) : Int) = ((a ^^^ b : Nat) : Int) := by simp [IntKind.wrap, IntKind.bits, IntKind.signed]; omega
  unfold xr
  rw [hw, e1, e2, e3]
  refine ⟨fun h => ?_, by omega, by omega⟩
  have h : a ^^^ b = a := by omega
  have : b = 0 := by
    have h2 := congrArg (fun z => a ^^^ z) h
    simp only [← Nat.xor_assoc, Nat.xor_self, Nat.zero_xor] at h2
    exact h2
  omega
theorem sum_set : ∀ (b : List Int) (p : Nat) (z : Int), p < b.length → (b.set p z).sum = b.sum - b.getD p 0 + z
  | [], p, z, h => by simp at h
  | x :: b, 0, z, _ => by simp; omega
  | x :: b, p + 1, z, h => by
    have ih := sum_set b p z (by simpa using h)
    simp only [List.set_cons_succ, List.sum_cons, ih, List.getD_cons_succ]
    omega
/-- What was put and is turned in one byte is not got. -/
theorem turned {b : List Int} {m : Made} {p : Nat} {z : Int} (hb : byteL b) (h : getI b = some m) (hp : p < b.length) (hz : 0 ≤ z ∧ z ≤ 255) (hne : z ≠ b.getD p 0) : getI (b.set p z) = none := by
  have hb' : byteL (b.set p z) := fun x hx => by
    rcases List.mem_or_eq_of_mem_set hx with hx | rfl
    · exact hb x hx
    · exact hz
  cases hg : getI (b.set p z) with
  | none => rfl
  | some m' =>
    exfalso
    obtain ⟨_, e1⟩ := getI_fit hb h
    obtain ⟨_, e2⟩ := getI_fit hb' hg
    have l1 : (bodyM m).length + 2 = b.length := by rw [← e1]; simp [putM, sumsL]
    have l2 : (bodyM m').length + 2 = b.length := by
      have := congrArg List.length e2
      rw [List.length_set] at this
      rw [← this]; simp [putM, sumsL]
    have hy : 0 ≤ b.getD p 0 ∧ b.getD p 0 ≤ 255 := by
      rw [List.getD_eq_getElem?_getD, List.getElem?_eq_getElem hp]
      exact hb _ (List.getElem_mem hp)
    obtain ⟨B1, hB1⟩ : ∃ B1, B1 = bodyM m := ⟨_, rfl⟩
    obtain ⟨B2, hB2⟩ : ∃ B2, B2 = bodyM m' := ⟨_, rfl⟩
    have e1 : B1 ++ sumsL B1.sum = b := by rw [hB1]; exact e1
    have e2 : B2 ++ sumsL B2.sum = b.set p z := by rw [hB2]; exact e2
    rw [← hB1] at l1
    rw [← hB2] at l2
    by_cases hpb : p < B1.length
    · have e3 : b.set p z = B1.set p z ++ sumsL B1.sum := by rw [← e1, List.set_append_left _ _ hpb]
      rw [e3] at e2
      obtain ⟨q1, q2⟩ := List.append_inj e2 (by rw [List.length_set]; omega)
      have hs := sum_set B1 p z hpb
      have hyB : b.getD p 0 = B1.getD p 0 := by
        rw [← e1, List.getD_eq_getElem?_getD, List.getD_eq_getElem?_getD, List.getElem?_append_left hpb]
      rw [hyB] at hy hne
      rw [← q1] at hs
      simp only [sumsL, List.cons.injEq, and_true] at q2
      omega
    · have e3 : b.set p z = B1 ++ (sumsL B1.sum).set (p - B1.length) z := by rw [← e1, List.set_append_right _ _ (by omega)]
      rw [e3] at e2
      obtain ⟨q1, q2⟩ := List.append_inj e2 (by omega)
      subst q1
      have hyB : b.getD p 0 = (sumsL B2.sum).getD (p - B2.length) 0 := by
        rw [← e1, List.getD_eq_getElem?_getD, List.getD_eq_getElem?_getD, List.getElem?_append_right (by omega)]
      have hq : p - B2.length < 2 := by omega
      rw [hyB] at hne
      generalize p - B2.length = q at q2 hne hq
      match q, hq with
      | 0, _ =>
        simp only [sumsL, List.set_cons_zero, List.cons.injEq] at q2
        simp only [sumsL, List.getD_cons_zero] at hne
        omega
      | 1, _ =>
        simp only [sumsL, List.set_cons_succ, List.set_cons_zero, List.cons.injEq] at q2
        simp only [sumsL, List.getD_cons_succ, List.getD_cons_zero] at hne
        omega
theorem dmg_last (a : List Slot) (s : Slot) (A v : Int) (hA : 0 ≤ A) (hs : s.b.length ≠ 0) : dmg (a ++ [s]) a.length A v = a ++ [⟨s.key, s.b.set (A.toNat % s.b.length) (xr (s.b.getD (A.toNat % s.b.length) 0) (IntKind.u8.wrap v))⟩] := by
  have hin : inR (a.length : Int) 0 ((a ++ [s]).length - 1) = true := by simp [inR]
  unfold dmg
  rw [if_pos ⟨hin, hA⟩]
  have hg : (a ++ [s])[((a.length : Nat) : Int).toNat]? = some s := by simp
  rw [hg]
  simp only [if_neg hs]
  rw [List.set_append_right _ _ (by simp)]
  simp
theorem sumB_app (b : List Slot) : ∀ (a : List Slot) (n : Int), sumB (a ++ b) n = sumB b (sumB a n)
  | [], _ => rfl
  | x :: a, n => by simp only [List.cons_append, sumB]; exact sumB_app b a _
theorem damaged_at {xs : List Slot} {k : List Int} {m : Made} (hf : Fit m) (hk : byteL k) (hm : madeOk m = true) (hl : (putM m).length ≤ 3000) {A v : Int} (hA : 0 ≤ A) (hv : 1 ≤ v ∧ v ≤ 255) :
    ∃ a s', slotPut xs k m = a ++ [⟨k, putM m⟩] ∧ dmg (slotPut xs k m) ((slotPut xs k m).length - 1) A v = a ++ [s'] ∧ s'.b.length = (putM m).length ∧ cacheGet (a ++ [s']) k = none ∧ sumB (a ++ [s']) 0 = sumB (slotPut xs k m) 0 := by
  obtain ⟨a, e, h, _⟩ := slotPut_at (xs := xs) (k := k) hm hl
  have hpl : 2 ≤ (putM m).length := by simp [putM, sumsL]
  have hb := putM_byte m
  have hp : A.toNat % (putM m).length < (putM m).length := Nat.mod_lt _ (by omega)
  have hy : 0 ≤ (putM m).getD (A.toNat % (putM m).length) 0 ∧ (putM m).getD (A.toNat % (putM m).length) 0 ≤ 255 := by
    rw [List.getD_eq_getElem?_getD, List.getElem?_eq_getElem hp]
    exact hb _ (List.getElem_mem hp)
  obtain ⟨x1, x2, x3⟩ := xr_ne hy hv
  have ed : ((slotPut xs k m).length : Int) - 1 = a.length := by rw [e]; simp
  refine ⟨a, ⟨k, (putM m).set (A.toNat % (putM m).length) (xr ((putM m).getD (A.toNat % (putM m).length) 0) (IntKind.u8.wrap v))⟩, e, ?_, by simp, ?_, ?_⟩
  · rw [ed, e]
    exact dmg_last a ⟨k, putM m⟩ A v hA (by show (putM m).length ≠ 0; omega)
  · have ht := turned hb (getI_put hf) hp ⟨x2, x3⟩ x1
    have hi : idx (fun s : Slot => bEq s.key k) (a ++ [(⟨k, (putM m).set (A.toNat % (putM m).length) (xr ((putM m).getD (A.toNat % (putM m).length) 0) (IntKind.u8.wrap v))⟩ : Slot)]) 0 = a.length := by
      rw [idx_last (fun s : Slot => bEq s.key k) _ (bEq_self k) a 0 fun x hx => (h x hx).2]
      omega
    unfold cacheGet
    rw [hi, if_pos (by omega)]
    have hg : ∀ s : Slot, (a ++ [s])[((a.length : Nat) : Int).toNat]? = some s := fun s => by simp
    rw [hg]
    simp only [ht]
  · rw [e, sumB_app, sumB_app]
    simp [sumB]
end Go.Proofs.YtaknfalbmblagaaGreatDoor.Am
namespace Go.Proofs.YtaknfalbmblagaaGreatDoor.Am
open Go Go.Proofs
set_option linter.unusedSimpArgs false
set_option linter.unusedVariables false
attribute [local congr] T_congr callK_congr callWK_congr
attribute [local simp] run_nil run_op0 run_opg run_seq run_cond run_block run_ret run_skip run_skip_after run_skip_blk run_exit run_exit_after run_exit_blk run_loop run_any runS_nil runS_op0 runS_opg runW_nil runW_op0 runW_opg exec_q exec_w exec_c exec_n execW_q execW_w execW_c restW_app hideH_app merge_app wblk rest_app restS_app execS_q execS_c aval dOk upd_app ev_t ev_c setO_some setO_none put_mk pinsOf isIo hasIo sbin endR fin resL one outL out1 clo1 cloL coe coeL shut shut.shutL wantA weff cellsOf fillA deref natOf ρ0_app h0_app plain plain.plainL keep_app keepH_app andThen_normal andThen_ret andThen_exit pop_nil pop_after pop_after_ret pop_after_exit pop_blk pop_blk_ret pop_blk_exit nilA srcOf srcCells keepR_app keepHR_app renA rb
def atV (code : List Int) (i : Nat) : Int := if i < code.length then code[i]?.getD 0 else ((i : Int) * 31 + code.length * 7) % 256
theorem atV_rng {code : List Int} (hx : Ty.byte.slice.ok code) (i : Nat) : 0 ≤ atV code i ∧ atV code i ≤ 255 := by
  unfold atV
  split
  · rename_i h
    have := hx.2 (code[i]) (List.getElem_mem h)
    rw [List.getElem?_eq_getElem h, Option.getD_some]
    exact this
  · omega
/- 24: loop.example/g00464/laws.at -/
def A24 : AC := (.seq (.ops [⟨(some 4), none, .q (.mov (.c (.sc (.int .i64 0))))⟩])
  (.seq (.seq (.ops [⟨(some 5), none, .q (.mov (.t 1))⟩, ⟨(some 6), none, .q (.mov (.t 0))⟩, ⟨(some 7), none, .q (.llen (.t 6))⟩, ⟨(some 8), none, .q (.bin .lss (.t 5) (.t 7))⟩])
  (.cond (.t 8) (.seq (.ops [⟨(some 9), none, .q (.mov (.t 0))⟩, ⟨(some 10), none, .q (.mov (.t 1))⟩, ⟨(some 11), none, .q (.iadr 1 (.t 9) (.t 10))⟩, ⟨(some 12), none, .q (.load false 1 (.t 11))⟩, ⟨(some 13), none, .q (.cvi .i64 (.t 12))⟩, ⟨(some 4), none, .q (.mov (.t 13))⟩])
  .ret)
  .skip))
  (.seq (.ops [⟨(some 14), none, .q (.mov (.t 1))⟩, ⟨(some 15), none, .q (.bin .mul (.t 14) (.c (.sc (.int .i64 31))))⟩, ⟨(some 16), none, .q (.mov (.t 0))⟩, ⟨(some 17), none, .q (.llen (.t 16))⟩, ⟨(some 18), none, .q (.bin .mul (.t 17) (.c (.sc (.int .i64 7))))⟩, ⟨(some 19), none, .q (.bin .add (.t 15) (.t 18))⟩, ⟨(some 20), none, .q (.bin .rem (.t 19) (.c (.sc (.int .i64 256))))⟩, ⟨(some 4), none, .q (.mov (.t 20))⟩])
  .ret)))
theorem K24 : Tryz.f24.body.bind (comp Tryz.prog) = some A24 ∧ Tryz.f24.ntmps = 21 ∧ Tryz.f24.results.toList.mapM (resB Tryz.prog) = some [.mov (.t 4)] := ⟨by kernel_rfl, by kernel_rfl, by kernel_rfl⟩
theorem R24 (code : List Int) (hx : Ty.byte.slice.ok code) (i : Nat) (hi : i < 1000) : Ret Tryz.prog 24 [.ro (rows B code) code.length, .sc (.int .i64 i)] (.sc (.int .i64 (atV code i))) [.un, .un] := by
  have hb : code.length * 1 ≤ 140737488351232 := hx.1
  have hv := atV_rng hx i
  refine Ret.run Tryz.func24 K24 (by simp) rfl rfl 500 ?_
  by_cases h : i < code.length
  · have hlt : (i : Int) < code.length := by omega
    obtain ⟨br, hd⟩ := rowsB_get code i h
    have e : atV code i = code[i]?.getD 0 := by unfold atV; rw [if_pos h]
    rw [e] at hv ⊢
    have hw : IntKind.i64.wrap (code[i]?.getD 0) = code[i]?.getD 0 := wrap_i64 (by omega) (by omega)
    have hw2 : IntKind.i64.wrap code[i] = code[i] := by simpa [h] using hw
    simp [A24, iniρ, hlt, h, hd, hw, hw2]
  · have hlt : ¬ (i : Int) < code.length := by omega
    have e : atV code i = ((i : Int) * 31 + code.length * 7) % 256 := by unfold atV; rw [if_neg h]
    rw [e]
    have w1 : IntKind.i64.wrap ((i : Int) * 31) = (i : Int) * 31 := wrap_i64 (by omega) (by omega)
    have w2 : IntKind.i64.wrap ((code.length : Int) * 7) = (code.length : Int) * 7 := wrap_i64 (by omega) (by omega)
    have w3 : IntKind.i64.wrap ((i : Int) * 31 + (code.length : Int) * 7) = (i : Int) * 31 + (code.length : Int) * 7 := wrap_i64 (by omega) (by omega)
    have w4 : ((i : Int) * 31 + (code.length : Int) * 7).tmod 256 = ((i : Int) * 31 + (code.length : Int) * 7) % 256 := by rw [Int.tmod_eq_emod_of_nonneg (by omega)]
    have w5 : IntKind.i64.wrap (((i : Int) * 31 + (code.length : Int) * 7) % 256) = ((i : Int) * 31 + (code.length : Int) * 7) % 256 := wrap_i64 (by omega) (by omega)
    simp [A24, iniρ, hlt, w1, w2, w3, w4, w5]
end Go.Proofs.YtaknfalbmblagaaGreatDoor.Am
namespace Go.Proofs.YtaknfalbmblagaaGreatDoor.Am
open Go Go.Proofs
set_option linter.unusedSimpArgs false
set_option linter.unusedVariables false
attribute [local congr] T_congr callK_congr callWK_congr
attribute [local simp] run_nil run_op0 run_opg run_seq run_cond run_block run_ret run_skip run_skip_after run_skip_blk run_exit run_exit_after run_exit_blk run_loop run_any runS_nil runS_op0 runS_opg runW_nil runW_op0 runW_opg exec_q exec_w exec_c exec_n execW_q execW_w execW_c restW_app hideH_app merge_app wblk rest_app restS_app execS_q execS_c aval dOk upd_app ev_t ev_c setO_some setO_none put_mk pinsOf isIo hasIo sbin endR fin resL one outL out1 clo1 cloL coe coeL shut shut.shutL wantA weff cellsOf fillA deref natOf ρ0_app h0_app plain plain.plainL keep_app keepH_app andThen_normal andThen_ret andThen_exit pop_nil pop_after pop_after_ret pop_after_exit pop_blk pop_blk_ret pop_blk_exit nilA srcOf srcCells keepR_app keepHR_app renA rb
theorem pick_ok (l : List Int) (c : Cur) (n : Int) (h : ∀ x ∈ l, -1000000 ≤ x ∧ x ≤ 1000000 := by decide) : Ty.int.ok (pickI l c n) := by
  unfold pickI
  cases e : l[(belowV c n).toNat]? with
  | none => exact ⟨by decide, by decide⟩
  | some y =>
    have := h y (List.mem_of_getElem? e)
    exact ⟨by simp; omega, by simp; omega⟩
/- 5: loop.example/g00464/laws.FnDamaged -/
def A5 : AC := (.seq (.ops [⟨(some 2), none, .q (.mov (.c (.sc (.bool false))))⟩])
  (.seq (.seq (.ops [⟨(some 14), none, .q (.mov (.t 0))⟩, ⟨(some 15), none, .c (.c (.clo 7 [])) [(.t 14)]⟩])
  (.cond (.t 15) (.seq (.ops [⟨(some 2), none, .q (.mov (.c (.sc (.bool true))))⟩])
  .ret)
  .skip))
  (.seq (.ops [⟨(some 17), none, .q (.mov (.t 0))⟩, ⟨(some 18), none, .c (.c (.clo 19 [])) [(.t 17)]⟩, ⟨(some 16), none, .q (.mov (.t 18))⟩, ⟨(some 19), none, .q (.ext (.t 16) 0)⟩, ⟨(some 20), none, .q (.ext (.t 16) 1)⟩, ⟨(some 21), none, .q (.ext (.t 16) 2)⟩, ⟨(some 5), none, .w (.alloc [(.sc (.string ⟨#[]⟩)), .em, (.sc (.string ⟨#[]⟩))])⟩, ⟨(some 3), none, .q (.mov (.t 19))⟩, ⟨(some 4), none, .q (.mov (.t 20))⟩, ⟨none, none, .w (.store 3 (.t 5) (.t 21))⟩])
  (.seq (.ops [⟨(some 22), none, .q (.mov (.t 3))⟩, ⟨(some 23), none, .q (.mov (.t 4))⟩, ⟨(some 24), none, .q (.load true 3 (.t 5))⟩, ⟨(some 25), none, .c (.c (.clo 20 [])) [(.t 22), (.t 23), (.t 24)]⟩, ⟨(some 6), none, .q (.mov (.t 25))⟩])
  (.seq (.seq (.ops [⟨(some 26), none, .q (.load true 3 (.t 5))⟩, ⟨(some 27), none, .c (.c (.clo 16 [])) [(.t 26)]⟩, ⟨(some 28), none, .q (.not (.t 27))⟩])
  (.cond (.t 28) (.seq (.ops [⟨(some 29), none, .q (.mov (.t 6))⟩, ⟨(some 30), none, .q (.mov (.t 3))⟩, ⟨(some 31), none, .c (.c (.clo 21 [])) [(.t 29), (.t 30)]⟩, ⟨(some 2), none, .q (.mov (.t 31))⟩])
  .ret)
  .skip))
  (.seq (.ops [⟨(some 32), none, .q (.mov (.t 6))⟩, ⟨(some 33), none, .q (.mov (.t 6))⟩, ⟨(some 34), none, .q (.llen (.t 33))⟩, ⟨(some 35), none, .q (.bin .sub (.t 34) (.c (.sc (.int .i64 1))))⟩, ⟨(some 36), none, .q (.mov (.t 0))⟩, ⟨(some 37), none, .c (.c (.clo 24 [])) [(.t 36), (.c (.sc (.int .i64 2)))]⟩, ⟨(some 38), none, .q (.bin .mul (.t 37) (.c (.sc (.int .i64 256))))⟩, ⟨(some 39), none, .q (.mov (.t 0))⟩, ⟨(some 40), none, .c (.c (.clo 24 [])) [(.t 39), (.c (.sc (.int .i64 3)))]⟩, ⟨(some 41), none, .q (.bin .add (.t 38) (.t 40))⟩, ⟨(some 42), none, .q (.mov (.t 0))⟩, ⟨(some 43), none, .c (.c (.clo 24 [])) [(.t 42), (.c (.sc (.int .i64 4)))]⟩, ⟨(some 44), none, .q (.bin .rem (.t 43) (.c (.sc (.int .i64 255))))⟩, ⟨(some 45), none, .q (.bin .add (.c (.sc (.int .i64 1))) (.t 44))⟩, ⟨(some 46), none, .c (.c (.clo 23 [])) [(.t 32), (.t 35), (.t 41), (.t 45)]⟩, ⟨(some 7), none, .q (.mov (.t 46))⟩])
  (.seq (.ops [⟨(some 48), none, .q (.mov (.t 7))⟩, ⟨(some 49), none, .q (.mov (.t 4))⟩, ⟨(some 50), none, .c (.c (.clo 10 [])) [(.t 48), (.t 49)]⟩, ⟨(some 47), none, .q (.mov (.t 50))⟩, ⟨(some 51), none, .q (.ext (.t 47) 0)⟩, ⟨(some 52), none, .q (.ext (.t 47) 1)⟩, ⟨(some 8), none, .w (.alloc [(.sc (.string ⟨#[]⟩)), .em, (.sc (.string ⟨#[]⟩))])⟩, ⟨none, none, .w (.store 3 (.t 8) (.t 51))⟩, ⟨(some 9), none, .q (.mov (.t 52))⟩])
  (.seq (.ops [⟨(some 54), none, .q (.mov (.t 0))⟩, ⟨(some 55), none, .c (.c (.clo 25 [])) [(.t 54)]⟩, ⟨(some 53), none, .q (.mov (.t 55))⟩, ⟨(some 56), none, .q (.ext (.t 53) 0)⟩, ⟨(some 57), none, .q (.ext (.t 53) 1)⟩, ⟨(some 58), none, .q (.ext (.t 53) 2)⟩, ⟨(some 59), none, .q (.ext (.t 53) 3)⟩, ⟨(some 10), none, .q (.mov (.t 56))⟩, ⟨(some 11), none, .q (.mov (.t 57))⟩, ⟨(some 12), none, .q (.mov (.t 58))⟩, ⟨(some 13), none, .q (.mov (.t 59))⟩])
  (.seq (.any [(⟨(some 60), none, .q (.mov (.t 9))⟩, []), (⟨(some 61), none, .q (.not (.t 60))⟩, [0]), (⟨(some 62), none, .q (.mov (.t 61))⟩, [1]), (⟨(some 63), (some (62, true)), .q (.mov (.t 7))⟩, [2]), (⟨(some 64), (some (62, true)), .c (.c (.clo 17 [])) [(.t 63)]⟩, [3, 2, 2]), (⟨(some 65), (some (62, true)), .q (.mov (.t 6))⟩, [2]), (⟨(some 66), (some (62, true)), .c (.c (.clo 17 [])) [(.t 65)]⟩, [5, 4, 2]), (⟨(some 67), (some (62, true)), .q (.bin .eql (.t 64) (.t 66))⟩, [4, 6, 2]), (⟨(some 68), none, .q (.pick (.t 62) (.t 67) (.c (.sc (.bool false))))⟩, [2, 7]), (⟨(some 69), none, .q (.mov (.t 68))⟩, [8, 6]), (⟨(some 70), (some (69, true)), .q (.mov (.t 7))⟩, [9]), (⟨(some 71), (some (69, true)), .q (.llen (.t 70))⟩, [10, 9]), (⟨(some 72), (some (69, true)), .q (.mov (.t 6))⟩, [9]), (⟨(some 73), (some (69, true)), .q (.llen (.t 72))⟩, [12, 9]), (⟨(some 74), (some (69, true)), .q (.bin .eql (.t 71) (.t 73))⟩, [11, 13, 9]), (⟨(some 75), none, .q (.pick (.t 69) (.t 74) (.c (.sc (.bool false))))⟩, [9, 14]), (⟨(some 76), none, .q (.mov (.t 75))⟩, [15, 9]), (⟨(some 77), (some (76, true)), .q (.mov (.t 7))⟩, [16]), (⟨(some 78), (some (76, true)), .q (.mov (.t 7))⟩, [16]), (⟨(some 79), (some (76, true)), .q (.llen (.t 78))⟩, [18, 16]), (⟨(some 80), (some (76, true)), .q (.bin .sub (.t 79) (.c (.sc (.int .i64 1))))⟩, [19, 16]), (⟨(some 81), (some (76, true)), .q (.subl 2 (.t 77) none (some (.t 80)))⟩, [17, 20, 16]), (⟨(some 82), (some (76, true)), .q (.mov (.t 6))⟩, [16]), (⟨(some 83), (some (76, true)), .q (.mov (.t 6))⟩, [16]), (⟨(some 84), (some (76, true)), .q (.llen (.t 83))⟩, [23, 16]), (⟨(some 85), (some (76, true)), .q (.bin .sub (.t 84) (.c (.sc (.int .i64 1))))⟩, [24, 16]), (⟨(some 86), (some (76, true)), .q (.subl 2 (.t 82) none (some (.t 85)))⟩, [22, 25, 16]), (⟨(some 87), (some (76, true)), .c (.c (.clo 21 [])) [(.t 81), (.t 86)]⟩, [21, 26, 16, 16]), (⟨(some 88), none, .q (.pick (.t 76) (.t 87) (.c (.sc (.bool false))))⟩, [16, 27]), (⟨(some 89), none, .q (.mov (.t 88))⟩, [28, 27]), (⟨(some 90), (some (89, true)), .q (.mov (.t 10))⟩, [29]), (⟨(some 91), (some (89, true)), .q (.mov (.t 11))⟩, [29]), (⟨(some 92), (some (89, true)), .q (.mov (.t 12))⟩, [29]), (⟨(some 93), (some (89, true)), .q (.mov (.t 13))⟩, [29]), (⟨(some 94), (some (89, true)), .c (.c (.clo 23 [])) [(.t 90), (.t 91), (.t 92), (.t 93)]⟩, [30, 31, 32, 33, 29, 29]), (⟨(some 95), (some (89, true)), .q (.mov (.t 10))⟩, [29]), (⟨(some 96), (some (89, true)), .q (.mov (.t 11))⟩, [29]), (⟨(some 97), (some (89, true)), .q (.mov (.t 12))⟩, [29]), (⟨(some 98), (some (89, true)), .q (.mov (.t 13))⟩, [29]), (⟨(some 99), (some (89, true)), .c (.c (.clo 26 [])) [(.t 95), (.t 96), (.t 97), (.t 98)]⟩, [35, 36, 37, 38, 34, 29]), (⟨(some 100), (some (89, true)), .c (.c (.clo 21 [])) [(.t 94), (.t 99)]⟩, [34, 39, 39, 29]), (⟨(some 101), none, .q (.pick (.t 89) (.t 100) (.c (.sc (.bool false))))⟩, [29, 40]), (⟨(some 2), none, .q (.mov (.t 101))⟩, [41, 40, 0, 1, 2, 3, 4, 5, 6, 7, 8, 9, 10, 11, 12, 13, 14, 15, 16, 17, 18, 19, 20, 21, 22, 23, 24, 25, 26, 27, 28, 29, 30, 31, 32, 33, 34, 35, 36, 37, 38, 39, 40, 41])])
  .ret)))))))))
theorem K5 : Tryz.f5.body.bind (comp Tryz.prog) = some A5 ∧ Tryz.f5.ntmps = 102 ∧ Tryz.f5.results.toList.mapM (resB Tryz.prog) = some [.mov (.t 2)] := ⟨by kernel_rfl, by kernel_rfl, by kernel_rfl⟩
set_option maxHeartbeats 4000000 in
set_option maxRecDepth 100000 in
theorem R5 (code : List Int) (hx : Ty.byte.slice.ok code) : Ret Tryz.prog 5 [.ro (rows Ty.byte.cs code) code.length] (.sc (.bool true)) [.un] := by
  change Ret Tryz.prog 5 [.ro (rows B code) code.length] (.sc (.bool true)) [.un]
  obtain ⟨hc, hl⟩ := anyL_is (newC_ok hx)
  have hl : CacheSz (putL code) 23 30000 := hl
  have hc : (putC code).ok := hc
  have hz := anyP_sz (belowC_ok hc 6)
  have r1 := R19 code hx
  obtain ⟨l, hle⟩ : ∃ l, l = putL code := ⟨_, rfl⟩
  obtain ⟨m, hme⟩ : ∃ m, m = (anyP (belowC (putC code) 6)).1 := ⟨_, rfl⟩
  have hkl := keyV_len (putC code)
  have hko := keyV_ok (putC code)
  obtain ⟨k, hke⟩ : ∃ k, k = keyV (putC code) := ⟨_, rfl⟩
  rw [← hle, ← hme, ← hke] at r1
  rw [← hle] at hl
  rw [← hme] at hz
  rw [← hke] at hkl hko
  have hb : l.length < 4611686018427387904 := by have := hl.n; omega
  have mo := fit_ok hz.fit
  have zt := hz.t
  have zn := hz.n
  have zw := hz.w
  have zp := hz.put
  have zq : ∀ x ∈ m.outs, x.path.size ≤ 1048576 := fun x hx => by have := (hz.f x hx).1; omega
  have ri := R20 l k m hl.ok (by omega) (by omega) (by omega) zq (by omega)
  have rs := R22 l k m hl.ok (by omega) (by omega) (by omega) zq (by omega)
  obtain ⟨po, pl, pt⟩ := slotPut_is l k m hl.ok (by have := hl.n; omega) hko
  have rmo := R16 m (by omega) (by omega) zq
  have rsm := R15 m m mo
  rw [madeEq_refl] at rsm
  have ra2 := atV_rng hx 2
  have ra3 := atV_rng hx 3
  have ra4 := atV_rng hx 4
  obtain ⟨x, hxe⟩ : ∃ x, x = slotPut l k m := ⟨_, rfl⟩
  have hS := hxe
  rw [← hxe] at ri rs po pl pt
  have hxb : x.length < 4611686018427387904 := by have := hl.n; omega
  have rss := R21 x hxb
  have fx : flt (.own (rows Slot.ty.oc x) x.length 2) = true := Slot.ty.flo x
  rw [Made.oce] at r1
  rw [Made.cse] at ri rs rmo rsm
  refine Ret.run Tryz.func5 K5 (by simp) rfl rfl 900 ?_
  simp [A5, iniρ]
  refine callK.ro 0 rfl (by kernel_rfl) (by simp [roc_ro]) (R7 code) rfl rfl rfl ?_
  by_cases hbig : (1048576 : Int) < code.length
  · simp [hbig]
  simp [hbig]
  refine callK.cut [.ro] 16 (r := [(none, none)]) rfl (by kernel_rfl) rfl (by rfl) (by rfl) (by simp [closedB, shut, upd_app]) (by simp [shutArgs, roc_ro, upd_app]; rfl) (by rfl) r1 (by rfl) (by rfl) (by simp [inst, instL, shut, upd_app]; exact ⟨rfl, rfl⟩) rfl ?_
  simp [over]
  refine callK.ro 23 rfl (by kernel_rfl) (by simp [roc_agg8, List.mapM_cons, List.mapM_nil, roc_sc, roc_ro, File.roc7, Slot.rocC, upd_app]) ri fx (by simp [inst, upd_app]; exact ⟨rfl, rfl⟩) rfl ?_
  simp [over]
  refine callK.ro 0 rfl (by kernel_rfl) (by simp [roc_agg8, List.mapM_cons, List.mapM_nil, roc_sc, roc_ro, File.roc7, upd_app]) rmo rfl rfl rfl ?_
  cases hmo : madeOk m with
  | false =>
    have hxl : x = l := by rw [hS, slotPut, if_neg (by rw [hmo]; simp)]
    have rsl := R21 l hb
    simp [hxl]
    refine callK.ro 0 rfl (by kernel_rfl) (by simp [Slot.roc8, Slot.rocC, upd_app]) rsl rfl rfl rfl ?_
    simp
  | true =>
    have w1 : IntKind.i64.wrap (atV code 2 * 256) = atV code 2 * 256 := wrap_i64 (by omega) (by omega)
    have w2 : IntKind.i64.wrap (atV code 2 * 256 + atV code 3) = atV code 2 * 256 + atV code 3 := wrap_i64 (by omega) (by omega)
    have t1 : 0 ≤ (atV code 4).tmod 255 ∧ (atV code 4).tmod 255 < 255 := ⟨Int.tmod_nonneg _ (by omega), Int.tmod_lt_of_pos _ (by omega)⟩
    have w3 : IntKind.i64.wrap (1 + (atV code 4).tmod 255) = 1 + (atV code 4).tmod 255 := wrap_i64 (by omega) (by omega)
    have w4 : IntKind.i64.wrap ((x.length : Int) - 1) = x.length - 1 := wrap_i64 (by have := hl.n; omega) (by have := hl.n; omega)
    obtain ⟨a, s', ha, hd, hsl, hcg, hsb⟩ := damaged_at (xs := l) (k := k) hz.fit hko.2 hmo (by omega) (A := atV code 2 * 256 + atV code 3) (v := 1 + (atV code 4).tmod 255) (by omega) (by omega)
    rw [← hS] at ha hd hsb
    obtain ⟨d1, d2, d3⟩ := dmg_is x (x.length - 1) (atV code 2 * 256 + atV code 3) (1 + (atV code 4).tmod 255) po
    have rd := R23 x (x.length - 1) (atV code 2 * 256 + atV code 3) (1 + (atV code 4).tmod 255) po ⟨by omega, by omega⟩
    rw [hd] at rd d1 d2
    have ra1 := R24 code hx 2 (by decide)
    have rb1 := R24 code hx 3 (by decide)
    have rc1 := R24 code hx 4 (by decide)
    have hmod : ¬ ((255 : Int) = 0) := by decide
    simp [over, w4]
    refine callK.ro 0 rfl (by kernel_rfl) (by simp [roc_ro, roc_sc]) ra1 rfl rfl rfl ?_
    simp [w1]
    refine callK.ro 0 rfl (by kernel_rfl) (by simp [roc_ro, roc_sc]) rb1 rfl rfl rfl ?_
    simp [w1, w2]
    refine callK.ro 0 rfl (by kernel_rfl) (by simp [roc_ro, roc_sc]) rc1 rfl rfl rfl ?_
    simp [w1, w2, w3]
    refine callK.ro 46 rfl (by kernel_rfl) (by simp [roc_sc, Slot.roc8, upd_app]) rd (Slot.ty.flo _) (by simp [inst, upd_app]; exact ⟨rfl, rfl⟩) rfl ?_
    have rg := R10 (a ++ [s']) k d2
    rw [hcg] at rg
    have rg : Ret Tryz.prog 10 [.ro (rows Slot.ty.cs (a ++ [s'])) (a ++ [s']).length, .ro (rows B k) k.length] (.tup [.agg (Made.ty.oc noMade), .sc (.bool false)]) [.un, .un] := rg
    have fR : flt (.tup [.agg (Made.ty.oc noMade), .sc (.bool false)]) = true := by
      have := Made.ty.flL noMade
      simp [flt, flt.fltL, this]
    rw [Made.oce] at rg fR
    simp [over]
    have hyx : (a ++ [s']).length = x.length := by rw [ha]; simp
    refine callK.ro 50 rfl (by kernel_rfl) (by simp [roc_ro, Slot.rocm (ms := a ++ [s']), upd_app]) rg fR (by simp [inst, instL, shut, upd_app]; exact ⟨rfl, rfl⟩) rfl ?_
    simp [over]
    have rdd := R25 code hx
    rw [← hle] at rdd
    refine callK.cut [.ro] 55 (r := [(none, none)]) rfl (by kernel_rfl) rfl (by rfl) (by rfl) (by simp [closedB, shut, upd_app]) (by simp [shutArgs, roc_ro, upd_app]; rfl) (by rfl) rdd (by rfl) (by rfl) (by simp [inst, instL, shut, upd_app]; exact ⟨rfl, rfl⟩) rfl ?_
    simp [over]
    refine T.le (Le.freeze 8 [9, 11, 12, 13] [] [(6, .ro (rows Slot.ty.cs x) x.length), (7, .ro (rows Slot.ty.cs (a ++ [s'])) (a.length + 1)), (10, .ro (rows Slot.ty.cs l) l.length)] (by simp [upd_app, menB, idfree]) (by simp) (fun t y ht => by
      simp at ht
      rcases ht with ⟨rfl, rfl⟩ | ⟨rfl, rfl⟩ | ⟨rfl, rfl⟩
      · simp [upd_app, hideH_nil]; exact Slot.roc8 (by simp [upd_app])
      · simp [upd_app, hideH_nil]; exact Slot.rocm (ms := a ++ [s']) (by simp [upd_app]) (by simp)
      · simp [upd_app, hideH_nil]; exact Slot.rocC (by simp [upd_app]))) ?_
    refine T.textP 900 [[], [0], [1], [2], [2, 3], [2], [2, 4, 5], [2, 4, 6], [2, 7], [6, 8], [9], [9, 10], [9], [9, 12], [9, 11, 13], [9, 14], [9, 15], [16], [16], [16, 18], [16, 19], [16, 17, 20], [16], [16], [16, 23], [16, 24], [16, 22, 25], [16, 21, 26], [16, 27], [27, 28], [29], [29], [29], [29], [29, 30, 31, 32, 33], [29], [29], [29], [29], [29, 34, 35, 36, 37, 38], [29, 34, 39], [29, 34, 39, 40], [0, 1, 2, 3, 4, 5, 6, 7, 8, 9, 10, 11, 12, 13, 14, 15, 16, 17, 18, 19, 20, 21, 22, 23, 24, 25, 26, 27, 28, 29, 30, 31, 32, 33, 34, 35, 36, 37, 38, 39, 40, 41]] [([], [94, 99]), ([], [94, 99]), ([], [94, 99]), ([], [94, 99]), ([], [94, 99]), ([], [94, 99]), ([], [94, 99]), ([], [94, 99]), ([], [94, 99]), ([], [94, 99]), ([], [94, 99]), ([], [94, 99]), ([], [94, 99]), ([], [94, 99]), ([], [94, 99]), ([], [94, 99]), ([], [94, 99]), ([], [94, 99]), ([], [94, 99]), ([], [94, 99]), ([], [94, 99]), ([], [94, 99]), ([], [94, 99]), ([], [94, 99]), ([], [94, 99]), ([], [94, 99]), ([], [94, 99]), ([], [94, 99]), ([], [94, 99]), ([], []), ([], [99]), ([], [99]), ([], [99]), ([], [99]), ([94], []), ([], [94]), ([], [94]), ([], [94]), ([], [94]), ([99], []), ([], []), ([], []), ([], [])] mixed (by kernel_rfl) (by kernel_rfl) ?_
    have hal : x.length = a.length + 1 := by rw [ha]; simp
    have rcx := R17 x hxb
    have rcy := R17 (a ++ [s']) (by rw [hyx]; exact hxb)
    rw [hsb] at rcy
    rw [hyx] at rcy
    have wl : IntKind.i64.wrap ((a.length : Int) + 1 - 1) = a.length := by rw [Int.add_sub_cancel]; exact wrap_i64 (by omega) (by have := hl.n; omega)
    simp [frz, keep_app, keepH_app, merge_nil, hideH_nil]
    rw [hal] at rcy rcx
    refine callWK.ro 0 rfl (by kernel_rfl) (by simp [roc_ro]) rcy rfl rfl (by rfl) ?_
    have wl2 : IntKind.i64.wrap (a.length : Int) = a.length := wrap_i64 (by omega) (by have := hl.n; omega)
    have htk : ∀ w : Slot, (rows Slot.ty.cs (a ++ [w])).take (a.length * 2) = rows Slot.ty.cs a := fun w => by rw [rows_append, ← Slot.csl, List.take_left']; rfl
    have htx : (rows Slot.ty.cs x).take (a.length * 2) = rows Slot.ty.cs a := by rw [ha]; exact htk _
    have rsa := R21 a (by omega)
    simp [frz, keep_app, keepH_app, merge_nil, hideH_nil, hal]
    refine callWK.ro 0 rfl (by kernel_rfl) (by simp [roc_ro]) rcx rfl rfl (by rfl) ?_
    simp [frz, keep_app, keepH_app, merge_nil, hideH_nil, hal, wl, wl2, htx, htk]
    refine callWK.ro 0 rfl (by kernel_rfl) (by simp [roc_ro]) rsa rfl rfl (by rfl) ?_
    have rdi := R23 l (pickI iL (putC code) 5) (pickI atL (belowC (putC code) 5) 5) (pickI xL (belowC (belowC (putC code) 5) 5) 5) hl.ok (pick_ok _ _ _)
    have rds := R26 l (pickI iL (putC code) 5) (pickI atL (belowC (putC code) 5) 5) (pickI xL (belowC (belowC (putC code) 5) 5) 5) hl.ok (pick_ok _ _ _)
    simp [frz, keep_app, keepH_app, merge_nil, hideH_nil]
    refine callWK.ro 94 rfl (by kernel_rfl) (by simp [roc_ro, roc_sc]) rdi (Slot.ty.flo _) (by simp [inst, upd_app, hideH_app]; exact ⟨rfl, rfl⟩) (by rfl) ?_
    simp [frz, keep_app, keepH_app, merge_nil, hideH_nil]
    refine callWK.ro 99 rfl (by kernel_rfl) (by simp [roc_ro, roc_sc]) rds (Slot.ty.flo _) (by simp [inst, upd_app, hideH_app]; exact ⟨rfl, rfl⟩) (by rfl) ?_
    have rsd := R21 (dmg l (pickI iL (putC code) 5) (pickI atL (belowC (putC code) 5) 5) (pickI xL (belowC (belowC (putC code) 5) 5) 5)) (by have := (dmg_is l (pickI iL (putC code) 5) (pickI atL (belowC (putC code) 5) 5) (pickI xL (belowC (belowC (putC code) 5) 5) 5) hl.ok).1; omega)
    simp [frz, keep_app, keepH_app, merge_nil, hideH_nil]
    refine callWK.ro 0 rfl (by kernel_rfl) (by simp [Slot.roc8, upd_app, merge_app, hideH_app]) rsd rfl rfl (by rfl) ?_
    simp
end Go.Proofs.YtaknfalbmblagaaGreatDoor.Am
