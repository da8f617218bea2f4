/- The functions of the program, each by its contract: DrawMades; no condition. -/
import Derived.Test.YtadoadomogceiaaProg
import Derived.Test.YtadoadomogceiaaAmZ
import Derived.Test.YtadoadomogceiaaAmP
import Derived.Test.YtadoadomogceiaaFiles
import Derived.Test.YtadoadomogceiaaDrawMarks
import Derived.Test.YtadoadomogceiaaNum
import Derived.KernelRfl
namespace Go.Proofs.Ytadoadomogceiaa.Am
open Go Go.Proofs
set_option linter.unusedSimpArgs false
set_option linter.unusedVariables false
attribute [local congr] T_congr callK_congr callWK_congr
attribute [local simp] run_nil run_op0 run_opg run_seq run_cond run_block run_ret run_skip run_skip_after run_skip_blk run_exit run_exit_after run_exit_blk run_loop run_any runS_nil runS_op0 runS_opg runW_nil runW_op0 runW_opg exec_q exec_w exec_c exec_n execW_q execW_w execW_c restW_app hideH_app merge_app wblk rest_app restS_app execS_q execS_c aval dOk upd_app ev_t ev_c setO_some setO_none put_mk pinsOf isIo hasIo sbin endR fin resL one outL out1 clo1 cloL coe coeL shut shut.shutL wantA weff cellsOf fillA deref natOf ρ0_app h0_app plain plain.plainL keep_app keepH_app andThen_normal andThen_ret andThen_exit pop_nil pop_after pop_after_ret pop_after_exit pop_blk pop_blk_ret pop_blk_exit nilA srcOf srcCells keepR_app keepHR_app renA rb
/- 65: loop.example/g00464/spec.l15Copy -/
def A65 : AC := (.seq (.ops [⟨(some 1), none, .w (.box (.t 0))⟩, ⟨(some 2), none, .w (.alloc [(.sc (.string ⟨#[]⟩)), .em, (.sc (.string ⟨#[]⟩))])⟩])
  (.seq (.any [(⟨(some 3), none, .q (.fadr 0 (.t 1))⟩, []), (⟨(some 4), none, .q (.load false 1 (.t 3))⟩, [0]), (⟨(some 5), none, .w (.bsl 2 0 [] [])⟩, []), (⟨(some 6), none, .q (.fadr 1 (.t 1))⟩, []), (⟨(some 7), none, .q (.load false 1 (.t 6))⟩, [3]), (⟨(some 8), none, .w (.app 2 32 false (.t 5) (.t 7))⟩, [2, 4]), (⟨(some 9), none, .q (.fadr 2 (.t 1))⟩, []), (⟨(some 10), none, .q (.load false 1 (.t 9))⟩, [6]), (⟨(some 11), none, .w (.build [(.sc (.string ⟨#[]⟩)), .em, (.sc (.string ⟨#[]⟩))] [(0, 1, (.t 4)), (1, 1, (.t 8)), (2, 1, (.t 10))])⟩, [1, 5, 7]), (⟨none, none, .w (.store 3 (.t 2) (.t 11))⟩, [8, 5, 0, 1, 2, 3, 4, 5, 6, 7, 8])])
  .ret))
theorem K65 : Try.f65.body.bind (comp Try.prog) = some A65 ∧ Try.f65.ntmps = 12 ∧ Try.f65.results.toList.mapM (resB Try.prog) = some [.load true 3 (.t 2)] := ⟨by kernel_rfl, by kernel_rfl, by kernel_rfl⟩
theorem R65 (m : Made) (hm : Made.ty.ok m) : Ret Try.prog 65 [.agg (Made.ty.cs m)] (.agg (Made.ty.oc m)) [.un] := by
  have hb : m.outs.length * 32 ≤ 140737488351232 := hm.2.1.1
  have hcap : m.outs.length * 32 ≤ 140737488355328 := by omega
  have hsc := fileSc m.outs
  have hfe : rows File.ty.cs m.outs = rows File.ty.oc m.outs := rfl
  refine Ret.run Try.func65 K65 (by simp) rfl rfl 900 ?_
  simp [A65, iniρ, Made.cse, over]
  refine T.textW 400 [([], [5, 8]), ([], [5, 8]), ([5], []), ([], [5]), ([], [5]), ([5, 8], []), ([], [5, 8]), ([], [5, 8]), ([], []), ([2], [])] mixed (by kernel_rfl) (by kernel_rfl) ?_
  simp [over, hcap, hsc, hfe, File.ocl, merge_nil, hideH_nil, ex1, File.frL, Made.oce]
def doneL : List ByteArray := [⟨#[]⟩, ⟨#[100, 111, 110, 101, 10]⟩, ⟨#[120, 32, 121, 10]⟩]
def opqL : List ByteArray := [⟨#[111]⟩, ⟨#[112]⟩, ⟨#[113]⟩]
def hiL : List ByteArray := [⟨#[]⟩, ⟨#[104, 105]⟩, ⟨#[104, 101, 108, 108, 111]⟩]
def pickS (l : List ByteArray) (c : Cur) (n : Int) : ByteArray := l[(belowV c n).toNat]?.getD default
def oneOut (c : Cur) : File := ⟨pickS opqL c 3, pickS hiL (belowC c 3) 3⟩
def puts : Nat → Cur → List File → List File × Cur
  | 0, c, l => (l, c)
  | n + 1, c, l => puts n (belowC (belowC c 3) 3) (putFile l (oneOut c)).1
def madeP (c : Cur) : List File × Cur := puts (belowV (belowC c 3) 3).toNat (belowC (belowC c 3) 3) []
def madeV (c : Cur) (t : ByteArray) : Made := ⟨t, (madeP c).1, pickS doneL c 3⟩
def madeC (c : Cur) : Cur := (madeP c).2

theorem putFile_len (xs : List File) (f : File) : (putFile xs f).1.length ≤ xs.length + 1 := by
  unfold putFile
  split
  · exact putF_len f xs false
  · exact Nat.le_succ _
theorem putFile_mem (xs : List File) (f : File) : ∀ x ∈ (putFile xs f).1, x = f ∨ x ∈ xs := by
  unfold putFile
  split
  · exact putF_mem f xs false
  · exact fun x h => .inr h
theorem pick_size {l : List ByteArray} {n : Nat} (h : ∀ x ∈ l, x.size ≤ n) (c : Cur) (k : Int) : (pickS l c k).size ≤ n := by
  unfold pickS
  cases e : l[(belowV c k).toNat]? with
  | none => exact Nat.zero_le _
  | some y => exact h y (List.mem_of_getElem? e)
theorem oneOut_size (c : Cur) : (oneOut c).path.size ≤ 5 ∧ (oneOut c).text.size ≤ 5 := ⟨pick_size (by decide) _ _, pick_size (by decide) _ _⟩
/- 131: loop.example/g00464/spec.l15Made -/
def A131 : AC := (.seq (.ops [⟨(some 4), none, .w (.alloc [(.sc (.string ⟨#[]⟩)), .em, (.sc (.string ⟨#[]⟩))])⟩])
  (.seq (.ops [⟨(some 7), none, .q (.mov (.t 1))⟩, ⟨(some 8), none, .q (.mov (.t 0))⟩, ⟨(some 9), none, .w (.bsl 1 3 [(.sc (.string ⟨#[]⟩)), (.sc (.string ⟨#[]⟩)), (.sc (.string ⟨#[]⟩))] [(0, 1, (.c (.sc (.string ⟨#[]⟩)))), (1, 1, (.c (.sc (.string ⟨#[100, 111, 110, 101, 10]⟩)))), (2, 1, (.c (.sc (.string ⟨#[120, 32, 121, 10]⟩))))])⟩, ⟨(some 10), none, .c (.c (.clo 105 [])) [(.t 8), (.t 9)]⟩, ⟨(some 11), none, .w (.build [(.sc (.string ⟨#[]⟩)), .em, (.sc (.string ⟨#[]⟩))] [(0, 1, (.t 7)), (2, 1, (.t 10))])⟩, ⟨(some 5), none, .w (.alloc [(.sc (.string ⟨#[]⟩)), .em, (.sc (.string ⟨#[]⟩))])⟩, ⟨none, none, .w (.store 3 (.t 5) (.t 11))⟩])
  (.seq (.seq (.ops [⟨(some 12), none, .q (.mov (.t 0))⟩, ⟨(some 13), none, .c (.c (.clo 63 [])) [(.t 12), (.c (.sc (.int .i64 3)))]⟩, ⟨(some 6), none, .q (.mov (.t 13))⟩])
  (.block 0 (.loop (.seq (.seq (.ops [⟨(some 14), none, .q (.mov (.t 6))⟩, ⟨(some 15), none, .q (.bin .gtr (.t 14) (.c (.sc (.int .i64 0))))⟩])
  (.cond (.t 15) .skip
  (.exit 0)))
  (.seq (.block 1 (.any [(⟨(some 19), none, .q (.fadr 1 (.t 5))⟩, []), (⟨(some 20), none, .q (.load false 1 (.t 19))⟩, [0]), (⟨(some 21), none, .q (.mov (.t 0))⟩, []), (⟨(some 22), none, .w (.bsl 1 3 [(.sc (.string ⟨#[]⟩)), (.sc (.string ⟨#[]⟩)), (.sc (.string ⟨#[]⟩))] [(0, 1, (.c (.sc (.string ⟨#[111]⟩)))), (1, 1, (.c (.sc (.string ⟨#[112]⟩)))), (2, 1, (.c (.sc (.string ⟨#[113]⟩))))])⟩, []), (⟨(some 23), none, .c (.c (.clo 105 [])) [(.t 21), (.t 22)]⟩, [2, 3]), (⟨(some 24), none, .q (.mov (.t 0))⟩, []), (⟨(some 25), none, .w (.bsl 1 3 [(.sc (.string ⟨#[]⟩)), (.sc (.string ⟨#[]⟩)), (.sc (.string ⟨#[]⟩))] [(0, 1, (.c (.sc (.string ⟨#[]⟩)))), (1, 1, (.c (.sc (.string ⟨#[104, 105]⟩)))), (2, 1, (.c (.sc (.string ⟨#[104, 101, 108, 108, 111]⟩))))])⟩, []), (⟨(some 26), none, .c (.c (.clo 105 [])) [(.t 24), (.t 25)]⟩, [5, 6, 4]), (⟨(some 27), none, .w (.build [(.sc (.string ⟨#[]⟩)), (.sc (.string ⟨#[]⟩))] [(0, 1, (.t 23)), (1, 1, (.t 26))])⟩, [4, 7]), (⟨(some 28), none, .c (.c (.clo 176 [])) [(.t 20), (.t 27)]⟩, [1, 8, 7]), (⟨(some 18), none, .q (.mov (.t 28))⟩, [9]), (⟨(some 29), none, .q (.ext (.t 18) 0)⟩, [10]), (⟨(some 30), none, .q (.ext (.t 18) 1)⟩, [10]), (⟨(some 31), none, .q (.fadr 1 (.t 5))⟩, [0, 1, 2, 3, 4, 5, 6, 7, 8, 9, 10, 11]), (⟨none, none, .w (.store 1 (.t 31) (.t 29))⟩, [13, 11, 9, 0, 1, 2, 3, 4, 5, 6, 7, 8, 9, 10, 11])]))
  (.ops [⟨(some 16), none, .q (.mov (.t 6))⟩, ⟨(some 17), none, .q (.bin .sub (.t 16) (.c (.sc (.int .i64 1))))⟩, ⟨(some 6), none, .q (.mov (.t 17))⟩]))))))
  (.seq (.ops [⟨(some 32), none, .q (.load true 3 (.t 5))⟩, ⟨none, none, .w (.store 3 (.t 4) (.t 32))⟩])
  .ret))))
theorem K131 : Try.f131.body.bind (comp Try.prog) = some A131 ∧ Try.f131.ntmps = 33 ∧ Try.f131.results.toList.mapM (resB Try.prog) = some [.load true 3 (.t 4)] := ⟨by kernel_rfl, by kernel_rfl, by kernel_rfl⟩
set_option maxHeartbeats 2000000 in
theorem R131 (c : Cur) (hc : c.ok) (t : ByteArray) : Ret Try.prog 131 [.bx c.cs, .sc (.string t)] (.agg (Made.ty.oc (madeV c t))) [.bx (madeC c).cs, .un] := by
  have fr : ∀ c : Cur, idfree.idfreeL c.cs = true := fun c => rfl
  have r1 : Ret Try.prog 105 [.bx c.cs, .own (rows Ty.str.oc doneL) 3 1] (.sc (.string (pickS doneL c 3))) [.bx (belowC c 3).cs, .un] := R105 c hc doneL (by decide)
  refine Ret.run Try.func131 K131 (by simp) rfl rfl 900 ?_
  simp [A131, iniρ, over]
  refine callK.bm 100000 9 (len := 3) (sz := 1) rfl (by kernel_rfl) (by simp [upd_app]) (by simp [upd_app]) (fr c) (by simp [upd_app]) (by simp [upd_app]; rfl) (by rfl) (by rfl) (by decide) r1 rfl rfl ?_
  simp [over]
  refine callK.bx (b := 100000) 0 rfl (by kernel_rfl) (by simp [upd_app]) (by simp [upd_app]) (fr _) (by simp [upd_app]) (by simp) (R63 _ (belowC_ok hc 3) 3) rfl (by rfl) rfl ?_
  obtain ⟨q1, q2⟩ := belowV_rng (belowC c 3) (n := 3) (by omega)
  obtain ⟨m, hm⟩ : ∃ m : Nat, belowV (belowC c 3) 3 = m := ⟨(belowV (belowC c 3) 3).toNat, by omega⟩
  have hP : puts m (belowC (belowC c 3) 3) [] = ((madeV c t).outs, madeC c) := by simp [madeV, madeC, madeP, hm]
  rw [hm] at q2 ⊢
  simp
  refine T.le (Le.layC 5 1 2 (by simp [upd_app]; rfl) rfl) ?_
  refine T.rounds (μ := fun i : Nat × Cur × List File => i.1)
    (fun i s => i.2.1.ok ∧ i.2.2.length + i.1 ≤ 3 ∧ (∀ x ∈ i.2.2, x.path.size ≤ 5 ∧ x.text.size ≤ 5) ∧ puts i.1 i.2.1 i.2.2 = ((madeV c t).outs, madeC c) ∧ s.ρ 0 = .ref 100000 0 ∧ s.ρ 4 = .ref 4 0 ∧ s.ρ 5 = .ref 5 0 ∧ s.ρ 6 = .sc (.int .i64 i.1) ∧ s.h 100000 = some (some i.2.1.cs) ∧
      s.h 4 = some (some [.sc (.string ⟨#[]⟩), .em, .sc (.string ⟨#[]⟩)]) ∧ s.h 5 = some (some [.sc (.string t), .own (rows File.ty.oc i.2.2) i.2.2.length 2, .sc (.string (pickS doneL c 3))]) ∧ s.h 60 = none ∧ s.h 22 = none ∧ s.h 25 = none ∧ s.h 29000 = none ∧ s.n = 33) (m, belowC (belowC c 3) 3, []) (by simp [upd_app, rows_nil, hP, belowC_ok, hc]; omega) ?_
  rintro ⟨j, d, out⟩ ⟨ρ, hh, n⟩ ⟨hd, hj, hs, hE, h0', h4', h5', h6', kc, k4, k5, f1, f2, f3, f4, rfl⟩
  simp only at hd hj hs hE h0' h4' h5' h6' kc k4 k5 f1 f2 f3 f4
  refine T.le (Le.open 5 1 60 k5 rfl f1 (File.frL _)) ?_
  refine run_ok (n := 400) ?_
  cases j with
  | zero =>
    simp only [puts] at hE
    have hE1 : out = (madeV c t).outs := by rw [← (Prod.mk.inj hE).1]
    have hE2 : d = madeC c := (Prod.mk.inj hE).2
    simp [h6']
    refine T.on 400 ?_
    simp [h0', h4', h5', k4, kc, over, ex1, File.ocl, File.frL, fr, ioPos1, Made.oce, hE1, hE2]
    exact ⟨rfl, rfl⟩
  | succ j =>
    have hw : IntKind.i64.wrap (j : Int) = j := wrap_i64 (by omega) (by omega)
    have hpos : (0 : Int) < (j : Int) + 1 := by omega
    have ra : Ret Try.prog 105 [.bx d.cs, .own (rows Ty.str.oc opqL) 3 1] (.sc (.string (oneOut d).path)) [.bx (belowC d 3).cs, .un] := R105 d hd opqL (by decide)
    have rb : Ret Try.prog 105 [.bx (belowC d 3).cs, .own (rows Ty.str.oc hiL) 3 1] (.sc (.string (oneOut d).text)) [.bx (belowC (belowC d 3) 3).cs, .un] := R105 _ (belowC_ok hd 3) hiL (by decide)
    have hok : File.ty.slice.ok out := ⟨show out.length * 32 ≤ 140737488351232 by omega, fun x hx => ⟨show x.path.size ≤ 140737488351232 by have := hs x hx; omega, show x.text.size ≤ 140737488351232 by have := hs x hx; omega, trivial⟩⟩
    have rp := R176 out (oneOut d) hok (fun x hx => by have := hs x hx; omega) (by have := oneOut_size d; omega)
    simp [h6', hpos]
    refine T.textW 400 [([], [22, 25, 100000]), ([], [22, 25, 100000]), ([], [22, 25]), ([22], [25]), ([100000, 22], [25]), ([], [22, 25, 100000]), ([25], [22, 100000]), ([100000, 25], []), ([], []), ([29000], []), ([], []), ([], []), ([], [5]), ([], []), ([5], [])] mixed (by kernel_rfl) (by kernel_rfl) ?_
    simp [h0', h5', f2, f3, over]
    refine callWK.bm 100000 22 (len := 3) (sz := 1) rfl (by kernel_rfl) (by simp [upd_app, h0']) (by simp [upd_app, kc]) (fr d) (by simp [upd_app]) (by simp [upd_app]; rfl) (by rfl) (by rfl) (by decide) ra rfl (by decide) ?_
    simp [h0', h5', f2, f3, over, merge_nil, hideH_nil]
    refine callWK.bm 100000 25 (len := 3) (sz := 1) rfl (by kernel_rfl) (by simp [upd_app, h0']) (by simp [upd_app, kc]) (fr _) (by simp [upd_app]) (by simp [upd_app]; rfl) (by rfl) (by rfl) (by decide) rb rfl (by decide) ?_
    simp [h0', h5', f2, f3, over, merge_nil, hideH_nil]
    refine callWK.ro 28 rfl (by kernel_rfl) (by simp [roc_agg, File.roc8, File.cse, upd_app]) rp (by simpa [flt, flt.fltL] using fltL_of (rows_all (q := flt) (fun x c hc => (File.ty.ow x c hc).fl) _)) (by simp [inst, instL, upd_app, f4]; exact ⟨rfl, rfl⟩) (by rfl) ?_
    simp [h0', h5', h6', f2, f3, f4, over, merge_nil, hideH_nil, hw]
    refine ⟨j, by omega, belowC (belowC d 3) 3, (putFile out (oneOut d)).1, _, Le.trans (Le.pack 5 1 (i := 29000) (len := (putFile out (oneOut d)).1.length) (sz := 2) (cs' := rows File.ty.oc (putFile out (oneOut d)).1) (by simp [upd_app, merge_app]; rfl) (by rfl) (by simp [upd_app, merge_app]) (by decide) (by simp [File.ocl]) (File.frL _)) (Le.reseat [0, 4, 5, 6] [(100000, 100000), (4, 4), (5, 5)] (by simp) (by simp [upd_app, menB, idfree, h0', h4', h5']) ?_), ?_⟩
    · intro b hb cs hcs
      simp at hb
      rcases hb with rfl | rfl | rfl
      · simp [upd_app, merge_app] at hcs
        subst hcs
        intro y hy
        simp [Cur.cs] at hy
        rcases hy with rfl | rfl | rfl <;> rfl
      · simp [upd_app, merge_app, hideH_app, k4] at hcs
        subst hcs
        simp [idfree]
      · simp [upd_app, merge_app] at hcs
        subst hcs
        have hf := File.frL (putFile out (oneOut d)).1
        simp [idfree, hf]
    · have hl := putFile_len out (oneOut d)
      have hz := oneOut_size d
      simp [upd_app, merge_app, hideH_app, h0', h4', h5', k4, belowC_ok, hd]
      refine ⟨by omega, fun x hx => (putFile_mem out (oneOut d) x hx).elim (fun e => e ▸ hz) (hs x), hE⟩
theorem puts_ok : ∀ (n : Nat) (c : Cur) (l : List File), c.ok → (∀ x ∈ l, x.path.size ≤ 5 ∧ x.text.size ≤ 5) → (puts n c l).2.ok ∧ (puts n c l).1.length ≤ l.length + n ∧ ∀ x ∈ (puts n c l).1, x.path.size ≤ 5 ∧ x.text.size ≤ 5
  | 0, c, l, hc, h => ⟨hc, Nat.le_refl _, h⟩
  | n + 1, c, l, hc, h => by
    have hl := putFile_len l (oneOut c)
    obtain ⟨h1, h2, h3⟩ := puts_ok n (belowC (belowC c 3) 3) (putFile l (oneOut c)).1 (belowC_ok (belowC_ok hc 3) 3) (fun x hx => (putFile_mem l (oneOut c) x hx).elim (fun e => e ▸ oneOut_size c) (h x))
    exact ⟨h1, Nat.le_trans h2 (by omega), h3⟩
theorem madeP_ok {c : Cur} (hc : c.ok) : (madeC c).ok ∧ (madeP c).1.length ≤ 2 ∧ ∀ x ∈ (madeP c).1, x.path.size ≤ 5 ∧ x.text.size ≤ 5 := by
  obtain ⟨q1, q2⟩ := belowV_rng (belowC c 3) (n := 3) (by omega)
  obtain ⟨h1, h2, h3⟩ := puts_ok (belowV (belowC c 3) 3).toNat (belowC (belowC c 3) 3) [] (belowC_ok (belowC_ok hc 3) 3) (by simp)
  refine ⟨h1, Nat.le_trans h2 ?_, h3⟩
  simp only [List.length_nil]
  omega
theorem rowsRep : ∀ n : Nat, rows B (List.replicate n 0) = List.replicate n (AV.sc (.int .u8 0))
  | 0 => rfl
  | n + 1 => by rw [List.replicate_succ, rows_cons, rowsRep n, List.replicate_succ]; rfl
theorem bytesRep {h : Hp} {b n : Nat} (hb : h b = some (some (List.replicate n (AV.sc (.int .u8 0))))) : bytesA h (.sl b 0 n 1 false) = some (List.replicate n 0) := by
  have hn := B.num (List.replicate n 0)
  rw [rowsRep] at hn
  simp [bytesA, hb, hn]
def abxL : List ByteArray := [⟨#[97, 35, 98, 117, 105, 108, 100]⟩, ⟨#[98, 35, 116, 101, 115, 116]⟩, ⟨#[120]⟩, ⟨#[]⟩]
def abzL : List ByteArray := [⟨#[97, 47, 98]⟩, ⟨#[]⟩, ⟨#[97]⟩, ⟨#[122, 122]⟩]
def zF (i : Nat) : File := ⟨⟨#[122]⟩ ++ numT i, ⟨#[]⟩⟩
def zFs : Nat → List File
  | 0 => []
  | n + 1 => zFs n ++ [zF n]
def anyP (c : Cur) : Made × Cur :=
  let t := pickS abxL c 4
  let m := madeV (belowC c 4) t
  let c2 := madeC (belowC c 4)
  let c3 := belowC c2 8
  if belowV c2 8 = 0 then (⟨m.task, m.outs ++ [⟨pickS abzL c3 4, ⟨#[]⟩⟩], m.log⟩, belowC c3 4)
  else if belowV c2 8 = 1 then (⟨m.task, m.outs, strOfNums (List.replicate (200 + belowV c3 2).toNat 0)⟩, belowC c3 2)
  else if belowV c2 8 = 2 then (⟨m.task, m.outs ++ zFs 6, m.log⟩, c3)
  else (m, c3)
/- 64: loop.example/g00464/spec.l17Any -/
def A64 : AC := (.seq (.ops [⟨(some 2), none, .w (.alloc [(.sc (.string ⟨#[]⟩)), .em, (.sc (.string ⟨#[]⟩))])⟩])
  (.seq (.ops [⟨(some 5), none, .q (.mov (.t 0))⟩, ⟨(some 6), none, .q (.mov (.t 0))⟩, ⟨(some 7), none, .w (.bsl 1 4 [(.sc (.string ⟨#[]⟩)), (.sc (.string ⟨#[]⟩)), (.sc (.string ⟨#[]⟩)), (.sc (.string ⟨#[]⟩))] [(0, 1, (.c (.sc (.string ⟨#[97, 35, 98, 117, 105, 108, 100]⟩)))), (1, 1, (.c (.sc (.string ⟨#[98, 35, 116, 101, 115, 116]⟩)))), (2, 1, (.c (.sc (.string ⟨#[120]⟩)))), (3, 1, (.c (.sc (.string ⟨#[]⟩))))])⟩, ⟨(some 8), none, .c (.c (.clo 105 [])) [(.t 6), (.t 7)]⟩, ⟨(some 9), none, .c (.c (.clo 131 [])) [(.t 5), (.t 8)]⟩, ⟨(some 3), none, .w (.alloc [(.sc (.string ⟨#[]⟩)), .em, (.sc (.string ⟨#[]⟩))])⟩, ⟨none, none, .w (.store 3 (.t 3) (.t 9))⟩])
  (.seq (.seq (.ops [⟨(some 10), none, .q (.mov (.t 0))⟩, ⟨(some 11), none, .c (.c (.clo 63 [])) [(.t 10), (.c (.sc (.int .i64 8)))]⟩])
  (.block 0 (.seq (.ops [⟨(some 13), none, .q (.bin .eql (.t 11) (.c (.sc (.int .i64 0))))⟩, ⟨(some 12), none, .q (.mov (.t 13))⟩])
  (.cond (.t 12) (.any [(⟨(some 14), none, .q (.fadr 1 (.t 3))⟩, []), (⟨(some 15), none, .q (.load false 1 (.t 14))⟩, [0]), (⟨(some 16), none, .q (.mov (.t 0))⟩, []), (⟨(some 17), none, .w (.bsl 1 4 [(.sc (.string ⟨#[]⟩)), (.sc (.string ⟨#[]⟩)), (.sc (.string ⟨#[]⟩)), (.sc (.string ⟨#[]⟩))] [(0, 1, (.c (.sc (.string ⟨#[97, 47, 98]⟩)))), (1, 1, (.c (.sc (.string ⟨#[]⟩)))), (2, 1, (.c (.sc (.string ⟨#[97]⟩)))), (3, 1, (.c (.sc (.string ⟨#[122, 122]⟩))))])⟩, []), (⟨(some 18), none, .c (.c (.clo 105 [])) [(.t 16), (.t 17)]⟩, [2, 3]), (⟨(some 19), none, .w (.build [(.sc (.string ⟨#[]⟩)), (.sc (.string ⟨#[]⟩))] [(0, 1, (.t 18))])⟩, [4]), (⟨(some 20), none, .w (.bsl 2 1 [(.sc (.string ⟨#[]⟩)), (.sc (.string ⟨#[]⟩))] [(0, 2, (.t 19))])⟩, [5]), (⟨(some 21), none, .w (.app 2 32 false (.t 15) (.t 20))⟩, [1, 6, 4]), (⟨(some 22), none, .q (.fadr 1 (.t 3))⟩, [0, 1, 2, 3, 4, 5, 6, 7]), (⟨none, none, .w (.store 1 (.t 22) (.t 21))⟩, [8, 7, 7, 0, 1, 2, 3, 4, 5, 6, 7])])
  (.seq (.ops [⟨(some 24), none, .q (.bin .eql (.t 11) (.c (.sc (.int .i64 1))))⟩, ⟨(some 23), none, .q (.mov (.t 24))⟩])
  (.cond (.t 23) (.ops [⟨(some 25), none, .q (.mov (.t 0))⟩, ⟨(some 26), none, .c (.c (.clo 63 [])) [(.t 25), (.c (.sc (.int .i64 2)))]⟩, ⟨(some 27), none, .q (.bin .add (.c (.sc (.int .i64 200))) (.t 26))⟩, ⟨(some 28), none, .w (.mk 1 1 [(.sc (.int .u8 0))] (.t 27) (.t 27))⟩, ⟨(some 29), none, .q (.bstr (.t 28))⟩, ⟨(some 30), none, .q (.fadr 2 (.t 3))⟩, ⟨none, none, .w (.store 1 (.t 30) (.t 29))⟩])
  (.seq (.ops [⟨(some 32), none, .q (.bin .eql (.t 11) (.c (.sc (.int .i64 2))))⟩, ⟨(some 31), none, .q (.mov (.t 32))⟩])
  (.cond (.t 31) (.seq (.ops [⟨(some 4), none, .q (.mov (.c (.sc (.int .i64 0))))⟩])
  (.block 1 (.loop (.seq (.seq (.ops [⟨(some 33), none, .q (.mov (.t 4))⟩, ⟨(some 34), none, .q (.bin .lss (.t 33) (.c (.sc (.int .i64 6))))⟩])
  (.cond (.t 34) .skip
  (.exit 1)))
  (.seq (.block 2 (.any [(⟨(some 37), none, .q (.fadr 1 (.t 3))⟩, []), (⟨(some 38), none, .q (.load false 1 (.t 37))⟩, [0]), (⟨(some 39), none, .q (.mov (.t 4))⟩, []), (⟨(some 40), none, .c (.c (.clo 132 [])) [(.t 39)]⟩, [2]), (⟨(some 41), none, .q (.bin .add (.c (.sc (.string ⟨#[122]⟩))) (.t 40))⟩, [3]), (⟨(some 42), none, .w (.build [(.sc (.string ⟨#[]⟩)), (.sc (.string ⟨#[]⟩))] [(0, 1, (.t 41))])⟩, [4]), (⟨(some 43), none, .w (.bsl 2 1 [(.sc (.string ⟨#[]⟩)), (.sc (.string ⟨#[]⟩))] [(0, 2, (.t 42))])⟩, [5]), (⟨(some 44), none, .w (.app 2 32 false (.t 38) (.t 43))⟩, [1, 6, 3]), (⟨(some 45), none, .q (.fadr 1 (.t 3))⟩, [0, 1, 2, 3, 4, 5, 6, 7]), (⟨none, none, .w (.store 1 (.t 45) (.t 44))⟩, [8, 7, 7, 0, 1, 2, 3, 4, 5, 6, 7])]))
  (.ops [⟨(some 35), none, .q (.mov (.t 4))⟩, ⟨(some 36), none, .q (.bin .add (.t 35) (.c (.sc (.int .i64 1))))⟩, ⟨(some 4), none, .q (.mov (.t 36))⟩]))))))
  .skip))))))))
  (.seq (.ops [⟨(some 46), none, .q (.load true 3 (.t 3))⟩, ⟨none, none, .w (.store 3 (.t 2) (.t 46))⟩])
  .ret))))
theorem K64 : Try.f64.body.bind (comp Try.prog) = some A64 ∧ Try.f64.ntmps = 47 ∧ Try.f64.results.toList.mapM (resB Try.prog) = some [.load true 3 (.t 2)] := ⟨by kernel_rfl, by kernel_rfl, by kernel_rfl⟩
set_option maxHeartbeats 2000000 in
theorem R64 (c : Cur) (hc : c.ok) : Ret Try.prog 64 [.bx c.cs] (.agg (Made.ty.oc (anyP c).1)) [.bx (anyP c).2.cs] := by
  have fr : ∀ c : Cur, idfree.idfreeL c.cs = true := fun c => rfl
  have r1 : Ret Try.prog 105 [.bx c.cs, .own (rows Ty.str.oc abxL) 4 1] (.sc (.string (pickS abxL c 4))) [.bx (belowC c 4).cs, .un] := R105 c hc abxL (by decide)
  have hc1 := belowC_ok hc 4
  obtain ⟨hc2, hl, hs⟩ := madeP_ok hc1
  refine Ret.run Try.func64 K64 (by simp) rfl rfl 900 ?_
  simp [A64, iniρ, over]
  refine callK.bm 100000 7 (len := 4) (sz := 1) rfl (by kernel_rfl) (by simp [upd_app]) (by simp [upd_app]) (fr c) (by simp [upd_app]) (by simp [upd_app]; rfl) (by rfl) (by rfl) (by decide) r1 rfl rfl ?_
  simp [over]
  refine callK.bx (b := 100000) 9 rfl (by kernel_rfl) (by simp [upd_app]) (by simp [upd_app]) (fr _) (by simp [upd_app]) (by simp) (R131 _ hc1 (pickS abxL c 4)) rfl (by simp [inst, instL, Made.oce, upd_app]; exact ⟨rfl, rfl⟩) rfl ?_
  simp [over]
  refine callK.bx (b := 100000) 0 rfl (by kernel_rfl) (by simp [upd_app]) (by simp [upd_app]) (fr _) (by simp [upd_app]) (by simp) (R63 _ hc2 8) rfl (by rfl) rfl ?_
  by_cases k0 : belowV (madeC (belowC c 4)) 8 = 0
  case pos =>
    have hc3 := belowC_ok hc2 8
    have rz : Ret Try.prog 105 [.bx (belowC (madeC (belowC c 4)) 8).cs, .own (rows Ty.str.oc abzL) 4 1] (.sc (.string (pickS abzL (belowC (madeC (belowC c 4)) 8) 4))) [.bx (belowC (belowC (madeC (belowC c 4)) 8) 4).cs, .un] := R105 _ hc3 abzL (by decide)
    have hl2 : (madeV (belowC c 4) (pickS abxL c 4)).outs.length ≤ 2 := hl
    have hcap : ((madeV (belowC c 4) (pickS abxL c 4)).outs.length + 1) * 32 ≤ 140737488355328 := Nat.le_trans (Nat.mul_le_mul_right 32 (Nat.succ_le_succ hl2)) (by decide)
    have hap : ∀ (l : List File) (g : File), rows File.ty.oc l ++ [.sc (.string g.path), .sc (.string g.text)] = rows File.ty.oc (l ++ [g]) := fun l g => by rw [rows_append]; simp [rows_cons, rows_nil, File.oce]
    have hap2 := hap (madeV (belowC c 4) (pickS abxL c 4)).outs ⟨pickS abzL (belowC (madeC (belowC c 4)) 8) 4, ⟨#[]⟩⟩
    simp only at hap2
    have hid := File.frL ((madeV (belowC c 4) (pickS abxL c 4)).outs ++ [⟨pickS abzL (belowC (madeC (belowC c 4)) 8) 4, ⟨#[]⟩⟩])
    simp [k0]
    refine T.textW 400 [([], [17, 100000, 20]), ([], [17, 100000, 20]), ([], [17]), ([17], []), ([100000, 17], []), ([], []), ([20], []), ([10001, 20, 21], []), ([], []), ([3], [])] mixed (by kernel_rfl) (by kernel_rfl) ?_
    simp [over]
    refine callWK.bm 100000 17 (len := 4) (sz := 1) rfl (by kernel_rfl) (by simp [upd_app]) (by simp [upd_app, hideH_app]) (fr _) (by simp [upd_app]) (by simp [upd_app, hideH_app]; rfl) (by rfl) (by rfl) (by decide) rz rfl (by decide) ?_
    simp [over, merge_nil, hideH_nil, hcap, File.ocl, hap2]
    simp [k0, anyP, ex1, File.ocl, hid, fr, ioPos1, Made.oce]
  by_cases k1 : belowV (madeC (belowC c 4)) 8 = 1
  case pos =>
    have hc3 := belowC_ok hc2 8
    obtain ⟨q1, q2⟩ := belowV_rng (belowC (madeC (belowC c 4)) 8) (n := 2) (by omega)
    obtain ⟨v, hv⟩ : ∃ v : Nat, belowV (belowC (madeC (belowC c 4)) 8) 2 = v := ⟨(belowV (belowC (madeC (belowC c 4)) 8) 2).toNat, by omega⟩
    rw [hv] at q1 q2
    obtain ⟨w, hvw⟩ : ∃ w : Nat, (200 : Int) + (v : Int) = w := ⟨200 + v, rfl⟩
    have hw : IntKind.i64.wrap (w : Int) = w := wrap_i64 (by omega) (by omega)
    have hz1 : (w : Int) ≤ 281474976710656 := by omega
    have hz2 : (w : Int) ≤ 9223372036854775807 := by omega
    simp [k0, k1]
    refine callK.bx (b := 100000) 0 rfl (by kernel_rfl) (by simp [upd_app]) (by simp [upd_app]) (fr _) (by simp [upd_app]) (by simp) (R63 _ hc3 2) rfl (by rfl) rfl ?_
    simp [hv, hvw, hw, hz1, hz2, k0, k1, over]
    rw [bytesRep (by simp [upd_app])]
    simp [hv, hvw, hw, k0, k1, over, anyP, ex1, File.ocl, File.frL, fr, ioPos1, Made.oce]
  by_cases k2 : belowV (madeC (belowC c 4)) 8 = 2
  case pos =>
    obtain ⟨fs, hfs⟩ : ∃ fs, fs = (madeV (belowC c 4) (pickS abxL c 4)).outs := ⟨_, rfl⟩
    have hl2 : fs.length ≤ 2 := by rw [hfs]; exact hl
    simp [k0, k1, k2, ← hfs]
    refine T.le (Le.pack 3 1 (i := 10001) (len := fs.length) (sz := 2) (cs' := rows File.ty.oc fs) (by simp [upd_app]; rfl) (by rfl) (by simp [upd_app]) (by decide) (by simp [File.ocl]) (File.frL _)) ?_
    have hap : ∀ (l : List File) (g : File), rows File.ty.oc l ++ [.sc (.string g.path), .sc (.string g.text)] = rows File.ty.oc (l ++ [g]) := fun l g => by rw [rows_append]; simp [rows_cons, rows_nil, File.oce]
    refine T.rounds (μ := fun j : Nat => 6 - j)
      (fun j s => j ≤ 6 ∧ s.ρ 0 = .ref 100000 0 ∧ s.ρ 2 = .ref 2 0 ∧ s.ρ 3 = .ref 3 0 ∧ s.ρ 4 = .sc (.int .i64 j) ∧ s.h 100000 = some (some (belowC (madeC (belowC c 4)) 8).cs) ∧ s.h 2 = some (some [.sc (.string ⟨#[]⟩), .em, .sc (.string ⟨#[]⟩)]) ∧
        s.h 3 = some (some [.sc (.string (madeV (belowC c 4) (pickS abxL c 4)).task), .own (rows File.ty.oc (fs ++ zFs j)) (fs ++ zFs j).length 2, .sc (.string (madeV (belowC c 4) (pickS abxL c 4)).log)]) ∧ s.h 60 = none ∧ s.h 43 = none ∧ s.h 44 = none ∧ s.n = 47) 0 (by simp [upd_app, zFs]) ?_
    rintro j ⟨ρ, hh, n⟩ ⟨hj, h0', h2', h3', h4', kc, q2, q3, f1, f2, f3, rfl⟩
    simp only at hj h0' h2' h3' h4' kc q2 q3 f1 f2 f3
    refine T.le (Le.open 3 1 60 q3 rfl f1 (File.frL _)) ?_
    refine run_ok (n := 400) ?_
    by_cases h6 : j = 6
    · subst h6
      simp [h4']
      refine T.on 400 ?_
      have hid := File.frL (fs ++ zFs 6)
      simp [h0', h2', h3', q2, kc, k0, k1, k2, over, ex1, File.ocl, hid, fr, ioPos1, Made.oce, anyP, ← hfs]
    have hlt : (j : Int) < 6 := by omega
    have hw : IntKind.i64.wrap ((j : Int) + 1) = j + 1 := wrap_i64 (by omega) (by omega)
    have zl : ∀ k : Nat, (zFs k).length = k := fun k => by
      induction k with
      | zero => rfl
      | succ k ih => simp [zFs, ih]
    have hcap : (fs.length + j + 1) * 32 ≤ 140737488355328 := Nat.le_trans (Nat.mul_le_mul_right 32 (show fs.length + j + 1 ≤ 9 by omega)) (by decide)
    have hsz : (⟨#[122]⟩ : ByteArray).size + (numT j).size ≤ 9223372036854775807 := by
      have := numT_size j
      show 1 + _ ≤ _
      omega
    have hap2 := hap (fs ++ zFs j) (zF j)
    simp only [zF] at hap2
    simp [h4', hlt]
    refine T.textW 400 [([], [43]), ([], [43]), ([], []), ([], []), ([], []), ([], []), ([43], []), ([60, 43, 44], []), ([], []), ([3], [])] mixed (by kernel_rfl) (by kernel_rfl) ?_
    simp [h0', h3', h4', over, merge_nil, hideH_nil]
    refine callWK.ro 0 rfl (by kernel_rfl) (by simp [roc_sc, h4']) (R132 j (by omega)) rfl rfl (by rfl) ?_
    simp [h0', h3', h4', f2, f3, over, merge_nil, hideH_nil, zl, hcap, hsz, File.ocl, hw]
    have hap3 : rows File.ty.oc (fs ++ zFs j) ++ [.sc (.string (⟨#[122]⟩ ++ numT j)), .sc (.string ⟨#[]⟩)] = rows File.ty.oc (fs ++ zFs j ++ [zF j]) := hap2
    refine ⟨j + 1, by omega, _, Le.trans (Le.pack 3 1 (i := 44) (len := fs.length + j + 1) (sz := 2) (cs' := rows File.ty.oc (fs ++ zFs j ++ [zF j])) (by simp [upd_app]; rfl) (by rfl) (by simp [upd_app]; rw [hap3]; simp) (by decide) (by simp [File.ocl, zl]; omega) (File.frL _)) (Le.reseat [0, 2, 3, 4] [(100000, 100000), (2, 2), (3, 3)] (by simp) (by simp [upd_app, menB, idfree, h0', h2', h3']) ?_), ?_⟩
    · intro b hb cs hcs
      simp at hb
      rcases hb with rfl | rfl | rfl
      · simp [upd_app, kc] at hcs
        subst hcs
        intro y hy
        simp [Cur.cs] at hy
        rcases hy with rfl | rfl | rfl <;> rfl
      · simp [upd_app, q2] at hcs
        subst hcs
        simp [idfree]
      · simp [upd_app] at hcs
        subst hcs
        have hf := File.frL (fs ++ zFs j ++ [zF j])
        simp only [List.append_assoc] at hf
        simp [idfree, hf]
    · simp [upd_app, h0', h2', h3', kc, q2, zFs, zl]
      omega
  simp [k0, k1, k2, over, ex1, File.ocl, File.frL, fr, ioPos1, anyP, Made.oce]
end Go.Proofs.Ytadoadomogceiaa.Am
