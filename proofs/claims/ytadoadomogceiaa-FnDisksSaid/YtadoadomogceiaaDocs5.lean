/- The functions of the program, each by its contract: Docs5; no condition. -/
import Derived.Test.YtadoadomogceiaaProg
import Derived.Test.YtadoadomogceiaaAmZ
import Derived.Test.YtadoadomogceiaaAmP
import Derived.Test.YtadoadomogceiaaDocs4
import Derived.KernelRfl
namespace Go.Proofs.Ytadoadomogceiaa.Am
open Go Go.Proofs
set_option linter.unusedSimpArgs false
set_option linter.unusedVariables false
attribute [local congr] T_congr callK_congr callWK_congr
attribute [local simp] run_nil run_op0 run_opg run_seq run_cond run_block run_ret run_skip run_skip_after run_skip_blk run_exit run_exit_after run_exit_blk run_loop run_any runS_nil runS_op0 runS_opg runW_nil runW_op0 runW_opg exec_q exec_w exec_c exec_n execW_q execW_w execW_c restW_app hideH_app merge_app wblk rest_app restS_app execS_q execS_c aval dOk upd_app ev_t ev_c setO_some setO_none put_mk pinsOf isIo hasIo sbin endR fin resL one outL out1 clo1 cloL coe coeL shut shut.shutL wantA weff cellsOf fillA deref natOf ρ0_app h0_app plain plain.plainL keep_app keepH_app andThen_normal andThen_ret andThen_exit pop_nil pop_after pop_after_ret pop_after_exit pop_blk pop_blk_ret pop_blk_exit nilA srcOf srcCells keepR_app keepHR_app renA rb
theorem Disk.openB {ρ : Nat → AV} {h : Hp} {n : Nat} (b d : Nat) (x : Disk) (hb : h b = some (some (Disk.ty.oc x))) (h0 : h d = none) (h1 : h (d + 1) = none) (hd : b < d ∨ d + 2 ≤ b) :
    ∃ h', Le ⟨ρ, h, n⟩ ⟨ρ, h', n⟩ ∧ h' b = some (some [.sl d 0 x.sure.length 2 false, .sl (d + 1) 0 x.pend.length 3 false]) ∧ h' d = some (some (rows Doc.ty.oc x.sure)) ∧ h' (d + 1) = some (some (rows Op.ty.oc x.pend)) ∧ ∀ c, c ≠ b → c ≠ d → c ≠ d + 1 → h' c = h c := by
  obtain ⟨h', k1, k2, k4, k3⟩ := Le.openRow (ρ := ρ) (n := n) b [] (Disk.ty.oc x) d [] h (by simpa using hb) (Disk.ty.ow x) (fun i hi => by
    rw [Disk.oce] at hi
    match i with
    | 0 => exact h0
    | 1 => exact h1
    | i + 2 => simp at hi; omega) (by rw [Disk.oce]; simpa using hd)
  refine ⟨h', k1, by simpa [Disk.oce, ysOf] using k2, ?_, ?_, fun c hc hd0 hd1 => k3 c hc ?_⟩
  · have := k4 0 _ _ _ (by rw [Disk.oce]; rfl)
    simpa using this
  · exact k4 1 _ _ _ (by rw [Disk.oce]; rfl)
  · rw [Disk.oce]; simp; omega
theorem Disk.packB {h : Hp} (b d1 d2 : Nat) (x : Disk) (hb : h b = some (some [.sl d1 0 x.sure.length 2 false, .sl d2 0 x.pend.length 3 false])) (h1 : h d1 = some (some (rows Doc.ty.oc x.sure))) (h2 : h d2 = some (some (rows Op.ty.oc x.pend))) (hne : d1 ≠ d2) (hb1 : b ≠ d1) (hb2 : b ≠ d2) :
    ∃ h', (∀ ρ n, Le ⟨ρ, h, n⟩ ⟨ρ, h', n⟩) ∧ h' b = some (some (Disk.ty.oc x)) ∧ ∀ c, c ≠ b → c ≠ d1 → c ≠ d2 → h' c = h c := by
  obtain ⟨h', k1, k2, k3⟩ := Le.packOn b [] (Disk.ty.oc x) [d1, d2] [] h (by rw [Disk.oce]; rfl) (by rw [hb, Disk.oce]; simp [ysOn]) (Disk.ty.ow x) (fun i e cs len sz hi hj => by
    rw [Disk.oce] at hj
    match i with
    | 0 => simp at hi hj; obtain ⟨rfl, rfl, rfl⟩ := hj; subst hi; exact h1
    | 1 => simp at hi hj; obtain ⟨rfl, rfl, rfl⟩ := hj; subst hi; exact h2
    | i + 2 => simp at hi) (by simp [hne]) (by simp [hb1, hb2])
  refine ⟨h', k1, by simpa using k2, fun c hc hc1 hc2 => k3 c hc (by simp [hc1, hc2])⟩
theorem T.ex {P : Program} {p : List Nat} {c : AC} {st : St} {Q : AE → St → Prop} {I : St → Prop} (h : ∃ s, Le st s ∧ I s) (hT : ∀ s, I s → T P p c s Q) : T P p c st Q := by
  obtain ⟨s, h1, h2⟩ := h
  exact T.le h1 (hT s h2)
theorem Disk.packL {ρ : Nat → AV} {h : Hp} {n : Nat} {I : St → Prop} (ks bs : List Nat) (b d1 d2 : Nat) (x : Disk) (hb : h b = some (some [.sl d1 0 x.sure.length 2 false, .sl d2 0 x.pend.length 3 false])) (h1 : h d1 = some (some (rows Doc.ty.oc x.sure))) (h2 : h d2 = some (some (rows Op.ty.oc x.pend))) (hne : d1 ≠ d2) (hb1 : b ≠ d1) (hb2 : b ≠ d2)
    (hbm : b ∈ bs) (hd1 : d1 ∉ bs) (hd2 : d2 ∉ bs) (hks : ∀ t, t ∈ ks → menB bs (ρ t) = true) (hbs : ∀ c, c ∈ bs → c ≠ b → ∀ cs, h c = some (some cs) → ∀ y ∈ cs, idfree y = true)
    (hI : ∀ h', h' b = some (some (Disk.ty.oc x)) → (∀ c, c ≠ b → h' c = if bs.elem c then h c else none) → I ⟨keep ks ρ, h', n⟩) : ∃ s, Le ⟨ρ, h, n⟩ s ∧ I s := by
  obtain ⟨h', k1, k2, k3⟩ := Disk.packB b d1 d2 x hb h1 h2 hne hb1 hb2
  refine ⟨_, Le.trans (k1 ρ n) (Le.reset ks bs hks ?_), hI _ ?_ ?_⟩
  · intro c hc cs hcs
    have hcs : h' c = some (some cs) := hcs
    by_cases e : c = b
    · subst e
      rw [k2] at hcs
      cases hcs
      exact fun y hy => (Disk.ty.ow _ y hy).fr
    · rw [k3 c e (fun e' => hd1 (e' ▸ hc)) (fun e' => hd2 (e' ▸ hc))] at hcs
      exact hbs c hc e cs hcs
  · show keepH bs h' b = _
    rw [keepH_app, if_pos (List.elem_eq_true_of_mem hbm), k2]
  · intro c hc
    show keepH bs h' c = _
    rw [keepH_app]
    split
    · rename_i hm
      have hm : c ∈ bs := by simpa using hm
      exact k3 c hc (fun e' => hd1 (e' ▸ hm)) (fun e' => hd2 (e' ▸ hm))
    · rfl
def keepO (want : Nat → Bool) : List Op → Nat → List Op
  | [], _ => []
  | o :: os, i => if want i then o :: keepO want os (i + 1) else keepO want os (i + 1)
theorem keepO_sub (want : Nat → Bool) : ∀ (os : List Op) (i : Nat), (keepO want os i).Sublist os
  | [], _ => List.Sublist.refl _
  | o :: os, i => by
    rw [keepO]
    split
    · exact (keepO_sub want os (i + 1)).cons_cons _
    · exact (keepO_sub want os (i + 1)).cons _
theorem docsF_keep (want : Nat → Bool) : ∀ (os : List Op) (i j : Nat) (l : List Doc), docsF (fun _ => true) (keepO want os i) j l = docsF want os i l
  | [], _, _, _ => rfl
  | o :: os, i, j, l => by
    cases h : want i
    · simp only [keepO, docsF, h]; exact docsF_keep want os (i + 1) j l
    · simp only [keepO, docsF, h, if_true]; exact docsF_keep want os (i + 1) (j + 1) _
theorem settle_keep {d : Disk} (keep : Int) (hok : diskOk d = true) : settleF ⟨d.sure, keepO (bitK keep) d.pend 0⟩ = crashF d keep := by
  have hs := keepO_sub (bitK keep) d.pend 0
  have hk : diskOk ⟨d.sure, keepO (bitK keep) d.pend 0⟩ = true := by
    simp only [diskOk, Bool.and_eq_true, decide_eq_true_eq] at hok ⊢
    obtain ⟨⟨⟨k1, k2⟩, k3⟩, k4⟩ := hok
    refine ⟨⟨⟨k1, ?_⟩, k3⟩, ?_⟩
    · rw [List.all_eq_true] at k2 ⊢
      exact fun x hx => k2 x (hs.subset hx)
    · have := hs.length_le
      omega
  unfold settleF crashF
  rw [if_pos hk, if_pos hok]
  unfold docsNowF
  simp only [docsF_keep]
theorem keep_ok {d : Disk} (hd : Disk.ty.ok d) (want : Nat → Bool) (n : List Op) (hn : n = keepO want d.pend 0) : Disk.ty.ok ⟨d.sure, n⟩ := by
  subst hn
  have hs := keepO_sub want d.pend 0
  refine ⟨hd.1, ⟨?_, fun x hx => hd.2.1.2 x (hs.subset hx)⟩, trivial⟩
  exact Nat.le_trans (Nat.mul_le_mul_right _ hs.length_le) hd.2.1.1
/- 49: loop.example/g00464/spec.Crash -/
def A49 : AC := (.seq (.ops [⟨(some 2), none, .w (.box (.t 0))⟩, ⟨(some 4), none, .w (.alloc [.em, .em])⟩])
  (.seq (.seq (.ops [⟨(some 7), none, .q (.load true 2 (.t 2))⟩, ⟨(some 8), none, .c (.c (.clo 44 [])) [(.t 7)]⟩, ⟨(some 9), none, .q (.not (.t 8))⟩])
  (.cond (.t 9) (.seq (.ops [⟨(some 10), none, .q (.load true 2 (.t 2))⟩, ⟨(some 11), none, .c (.c (.clo 111 [])) [(.t 10)]⟩, ⟨none, none, .w (.store 2 (.t 4) (.t 11))⟩])
  .ret)
  .skip))
  (.seq (.ops [⟨(some 12), none, .w (.bsl 2 0 [] [])⟩, ⟨(some 13), none, .q (.fadr 0 (.t 2))⟩, ⟨(some 14), none, .q (.load false 1 (.t 13))⟩, ⟨(some 15), none, .w (.app 2 32 false (.t 12) (.t 14))⟩, ⟨(some 16), none, .w (.bsl 3 0 [] [])⟩, ⟨(some 17), none, .w (.build [.em, .em] [(0, 1, (.t 15)), (1, 1, (.t 16))])⟩, ⟨(some 5), none, .w (.alloc [.em, .em])⟩, ⟨none, none, .w (.store 2 (.t 5) (.t 17))⟩])
  (.seq (.seq (.ops [⟨(some 6), none, .q (.mov (.c (.sc (.int .i64 0))))⟩])
  (.block 0 (.loop (.seq (.seq (.ops [⟨(some 18), none, .q (.mov (.t 6))⟩, ⟨(some 19), none, .q (.fadr 1 (.t 2))⟩, ⟨(some 20), none, .q (.load false 1 (.t 19))⟩, ⟨(some 21), none, .q (.llen (.t 20))⟩, ⟨(some 22), none, .q (.bin .lss (.t 18) (.t 21))⟩])
  (.cond (.t 22) .skip
  (.exit 0)))
  (.seq (.block 1 (.seq (.ops [⟨(some 25), none, .q (.mov (.t 1))⟩, ⟨(some 26), none, .q (.mov (.t 6))⟩, ⟨(some 27), none, .q (.cvi .u64 (.t 26))⟩, ⟨(some 28), none, .q (.bin .shr (.t 25) (.t 27))⟩, ⟨(some 29), none, .q (.bin .and (.t 28) (.c (.sc (.int .i64 1))))⟩, ⟨(some 30), none, .q (.bin .eql (.t 29) (.c (.sc (.int .i64 1))))⟩])
  (.cond (.t 30) (.any [(⟨(some 31), none, .q (.fadr 1 (.t 5))⟩, []), (⟨(some 32), none, .q (.load false 1 (.t 31))⟩, [0]), (⟨(some 33), none, .q (.fadr 1 (.t 2))⟩, []), (⟨(some 34), none, .q (.load false 1 (.t 33))⟩, [2]), (⟨(some 35), none, .q (.mov (.t 6))⟩, []), (⟨(some 36), none, .q (.iadr 3 (.t 34) (.t 35))⟩, [3, 4]), (⟨(some 37), none, .q (.load true 3 (.t 36))⟩, [5]), (⟨(some 38), none, .w (.bsl 3 1 [(.sc (.int .i64 0)), (.sc (.string ⟨#[]⟩)), (.sc (.string ⟨#[]⟩))] [(0, 3, (.t 37))])⟩, [6]), (⟨(some 39), none, .w (.app 3 40 false (.t 32) (.t 38))⟩, [1, 7]), (⟨(some 40), none, .q (.fadr 1 (.t 5))⟩, [0, 1, 2, 3, 4, 5, 6, 7, 8]), (⟨none, none, .w (.store 1 (.t 40) (.t 39))⟩, [9, 8, 8, 0, 1, 2, 3, 4, 5, 6, 7, 8])])
  .skip)))
  (.ops [⟨(some 23), none, .q (.mov (.t 6))⟩, ⟨(some 24), none, .q (.bin .add (.t 23) (.c (.sc (.int .i64 1))))⟩, ⟨(some 6), none, .q (.mov (.t 24))⟩]))))))
  (.seq (.ops [⟨(some 41), none, .q (.load true 2 (.t 5))⟩, ⟨(some 42), none, .c (.c (.clo 47 [])) [(.t 41)]⟩, ⟨none, none, .w (.store 2 (.t 4) (.t 42))⟩])
  .ret)))))
theorem K49 : Try.f49.body.bind (comp Try.prog) = some A49 ∧ Try.f49.ntmps = 43 ∧ Try.f49.results.toList.mapM (resB Try.prog) = some [.load true 2 (.t 4)] := ⟨by kernel_rfl, by kernel_rfl, by kernel_rfl⟩
set_option maxHeartbeats 1000000 in
theorem R49 (d : Disk) (keep : Int) (hd : Disk.ty.ok d) : Ret Try.prog 49 [.agg (Disk.ty.cs d), .sc (.int .i64 keep)] (.agg (Disk.ty.oc (crashF d keep))) [.un, .un] := by
  have hb1 : d.sure.length * 32 ≤ 140737488351232 := hd.1.1
  have hb2 : d.pend.length * 40 ≤ 140737488351232 := hd.2.1.1
  have hc1 : d.sure.length * 32 ≤ 140737488355328 := by omega
  refine Ret.run Try.func49 K49 (by simp) rfl rfl 500 ?_
  have hpl : plain.plainL (Disk.ty.cs d) = true := Disk.ty.plL d
  have hpl1 : plain.plainL (rows Doc.ty.cs d.sure) = true := shutL_plain (rows_all Doc.ty.sh d.sure)
  simp [A49, iniρ, Disk.cse, hpl]
  refine callK.ro 0 rfl (by kernel_rfl) (ys := [.agg (Disk.ty.cs d)]) (by simp [roc_agg, upd_app, Disk.cse]) (R44 d hd) rfl rfl rfl ?_
  cases hok : diskOk d with
  | false =>
    have hS : crashF d keep = d := by unfold crashF; rw [hok]; rfl
    rw [hS]
    simp
    refine callK.ro 11 rfl (by kernel_rfl) (ys := [.agg (Disk.ty.cs d)]) (by simp [roc_agg, upd_app, Disk.cse]) (R111 d hd) (by simpa [flt] using Disk.ty.flL d) (by simp [inst, instL, Disk.oce, upd_app]; exact ⟨rfl, rfl⟩) rfl ?_
    simp [over, Disk.oce, ex1, Doc.ocl, Doc.frL, Op.ocl, Op.frL]
  | true =>
    rw [← settle_keep keep hok]
    obtain ⟨ks, hks⟩ : ∃ ks, ks = keepO (bitK keep) d.pend 0 := ⟨_, rfl⟩
    have hko := keep_ok hd (bitK keep) ks hks
    rw [← hks]
    simp [Doc.csl, hpl1, hc1, over]
    have e1 : rows Doc.ty.cs d.sure = rows Doc.ty.oc d.sure := rfl
    obtain ⟨os, hos⟩ : ∃ os, os = d.pend := ⟨_, rfl⟩
    rw [← hos] at hks hb2
    refine T.ex (I := fun s => s.ρ 1 = .sc (.int .i64 keep) ∧ s.ρ 2 = .ref 2 0 ∧ s.ρ 4 = .ref 4 0 ∧ s.ρ 5 = .ref 5 0 ∧ s.ρ 6 = .sc (.int .i64 0) ∧ s.h 2 = some (some [.ro (rows Doc.ty.cs d.sure) d.sure.length, .ro (rows Op.ty.cs os) os.length]) ∧ s.h 4 = some (some [.em, .em]) ∧ s.h 5 = some (some (Disk.ty.oc ⟨d.sure, []⟩)) ∧ (∀ b, b ≠ 2 → b ≠ 4 → b ≠ 5 → s.h b = none) ∧ s.n = 43)
      (Disk.packL [1, 2, 4, 5, 6] [2, 4, 5] 5 15 16 ⟨d.sure, []⟩ (by simp [upd_app]) (by simp [upd_app, e1]) (by simp [upd_app, rows_nil]) (by decide) (by decide) (by decide) (by decide) (by decide) (by decide) (by simp [upd_app, menB, idfree]) (by simp [upd_app, idfree]) ?_) ?_
    · intro h' k1 k2
      refine ⟨by simp [upd_app], by simp [upd_app], by simp [upd_app], by simp [upd_app], by simp [upd_app], ?_, ?_, k1, fun b b2 b4 b5 => ?_, rfl⟩
      · have := k2 2 (by decide); simpa [upd_app, hos] using this
      · have := k2 4 (by decide); simpa [upd_app] using this
      · have := k2 b b5; simpa [b2, b4, b5] using this
    rintro ⟨ρ0, h0, n0⟩ ⟨i1, i2, i4, i5, i6, j2, j4, j5, jf, rfl⟩
    simp only at i1 i2 i4 i5 i6 j2 j4 j5 jf
    refine T.rounds (μ := fun i : List Op × List Op × List Op => i.2.1.length)
      (fun i s => i.1 ++ i.2.1 = os ∧ i.2.2 ++ keepO (bitK keep) i.2.1 i.1.length = ks ∧ s.ρ 1 = .sc (.int .i64 keep) ∧ s.ρ 2 = .ref 2 0 ∧ s.ρ 4 = .ref 4 0 ∧ s.ρ 5 = .ref 5 0 ∧ s.ρ 6 = .sc (.int .i64 i.1.length) ∧ s.h 2 = some (some [.ro (rows Doc.ty.cs d.sure) d.sure.length, .ro (rows Op.ty.cs os) os.length]) ∧ s.h 4 = some (some [.em, .em]) ∧ s.h 5 = some (some (Disk.ty.oc ⟨d.sure, i.2.2⟩)) ∧ (∀ b, b ≠ 2 → b ≠ 4 → b ≠ 5 → s.h b = none) ∧ s.n = 43) ([], os, []) ⟨rfl, hks.symm, i1, i2, i4, i5, i6, j2, j4, j5, jf, rfl⟩ ?_
    clear i1 i2 i4 i5 i6 j2 j4 j5 jf
    rintro ⟨pre, rest, ps⟩ ⟨ρ, hh0, n⟩ ⟨hx, hE, k1, k2, k4, k5, k6, b2, b4, b5, bf, rfl⟩
    simp only at hx hE k1 k2 k4 k5 k6 b2 b4 b5 bf
    obtain ⟨hh, o1, o2, o3, o4, o5⟩ := Disk.openB (ρ := ρ) (n := 43) 5 5000 ⟨d.sure, ps⟩ b5 (bf _ (by decide) (by decide) (by decide)) (bf _ (by decide) (by decide) (by decide)) (by decide)
    refine T.le o1 ?_
    have b2' : hh 2 = some (some [.ro (rows Doc.ty.cs d.sure) d.sure.length, .ro (rows Op.ty.cs os) os.length]) := by rw [o5 2 (by decide) (by decide) (by decide), b2]
    have b4' : hh 4 = some (some [.em, .em]) := by rw [o5 4 (by decide) (by decide) (by decide), b4]
    have bf' : ∀ b, b ≠ 2 → b ≠ 4 → b ≠ 5 → b ≠ 5000 → b ≠ 5001 → hh b = none := fun b c1 c2 c3 c4 c5 => by rw [o5 b c3 c4 c5, bf b c1 c2 c3]
    simp only at o2 o3 o4
    refine run_ok (n := 400) ?_
    have hpr : pre.length + rest.length = os.length := by rw [← hx]; simp
    have hpsl : ps.length ≤ os.length := by
      have h1 := (keepO_sub (bitK keep) os 0).length_le
      rw [← hks, ← hE] at h1
      simp at h1; omega
    cases rest with
    | nil =>
      simp only [keepO, List.append_nil] at hE
      simp at hx
      subst hx
      subst hE
      simp [k2, k6, b2']
      refine T.on 400 ?_
      simp [k5, o2]
      have hf : flt (.agg (Disk.ty.oc (settleF ⟨d.sure, ps⟩))) = true := by simpa [flt] using Disk.ty.flL (settleF ⟨d.sure, ps⟩)
      refine callK.ro 42 rfl (by kernel_rfl) (ys := [.agg (Disk.ty.cs ⟨d.sure, ps⟩)]) (by simp [roc_agg8, List.mapM_cons, List.mapM_nil, Doc.roc7, Op.roc7, o3, o4, Disk.cse]) (R47 ⟨d.sure, ps⟩ hko) hf (by simp [inst, instL, Disk.oce, upd_app, bf']; exact ⟨rfl, rfl⟩) rfl ?_
      simp [k4, b4', over, Disk.oce, ex1, Doc.ocl, Doc.frL, Op.ocl, Op.frL]
    | cons o rest =>
      simp only [List.length_cons] at hpr
      have hlt : (pre.length : Int) < os.length := by omega
      have hdr := rows_drop Op.ty.csn pre (o :: rest)
      rw [hx, rows_cons] at hdr
      have hdr : List.drop (pre.length * 3) (rows Op.ty.cs os) = Op.ty.cs o ++ rows Op.ty.cs rest := hdr
      have hw1 : IntKind.i64.wrap ((pre.length : Int) + 1) = pre.length + 1 := wrap_i64 (by omega) (by omega)
      have hwu : IntKind.u64.wrap (pre.length : Int) = pre.length := by simp [IntKind.wrap, IntKind.bits, IntKind.signed]; omega
      have hn : ¬ ((pre.length : Int) < 0) := by omega
      have hcap : (ps.length + 1) * 40 ≤ 140737488355328 := by
        have : ps.length < os.length + 1 := by omega
        omega
      have hap : rows Op.ty.oc ps ++ [.sc (.int .i64 o.kind), .sc (.string o.a), .sc (.string o.b)] = rows Op.ty.oc (ps ++ [o]) := by rw [rows_append]; simp [rows_cons, rows_nil, Op.oce]
      have g38 := bf' 38 (by decide) (by decide) (by decide) (by decide) (by decide)
      have g39 := bf' 39 (by decide) (by decide) (by decide) (by decide) (by decide)
      rw [keepO] at hE
      cases hbk : bitK keep pre.length with
      | false =>
        rw [hbk] at hE
        simp at hE
        simp [bitK] at hbk
        simp [k1, k2, k6, b2', hlt, hwu, hn, hbk, hw1]
        refine ⟨pre ++ [o], rest, by simp, ps, Disk.packL [1, 2, 4, 5, 6] [2, 4, 5] 5 5000 5001 ⟨d.sure, ps⟩ (by simp [o2]) (by simp [o3]) (by simp [o4]) (by decide) (by decide) (by decide) (by decide) (by decide) (by decide) (by simp [upd_app, menB, idfree, k1, k2, k4, k5]) (by simp [b2', b4', idfree]) ?_⟩
        intro h' q1 q2
        refine ⟨by simpa using hx, by simpa using hE, by simp [upd_app, k1], by simp [upd_app, k2], by simp [upd_app, k4], by simp [upd_app, k5], by simp [upd_app], ?_, ?_, q1, fun b c2 c4 c5 => ?_, rfl⟩
        · have := q2 2 (by decide); simpa [b2'] using this
        · have := q2 4 (by decide); simpa [b4'] using this
        · have := q2 b c5; simpa [c2, c4, c5] using this
      | true =>
        rw [hbk] at hE
        simp at hE
        simp [bitK] at hbk
        simp [k1, k2, k6, b2', hlt, hwu, hn, hbk]
        refine T.textW 400 [([], [38]), ([], [38]), ([], []), ([], []), ([], []), ([], []), ([], []), ([38], []), ([5001, 39], []), ([], []), ([5], [])] mixed (by kernel_rfl) (by kernel_rfl) ?_
        simp [k2, k5, k6, o2, b2', hlt, hdr, g38, g39, over, merge_nil, hideH_nil, Op.cse, o4, Op.ocl, hcap, hap, hw1]
        refine ⟨pre ++ [o], rest, by simp, ps ++ [o], Disk.packL [1, 2, 4, 5, 6] [2, 4, 5] 5 5000 39 ⟨d.sure, ps ++ [o]⟩ (by simp [upd_app, o2]) (by simp [upd_app, o3]) (by simp [upd_app]) (by decide) (by decide) (by decide) (by decide) (by decide) (by decide) (by simp [upd_app, menB, idfree, k1, k2, k4, k5]) (by simp [upd_app, b2', b4', idfree]) ?_⟩
        intro h' q1 q2
        refine ⟨by simpa using hx, by simpa using hE, by simp [upd_app, k1], by simp [upd_app, k2], by simp [upd_app, k4], by simp [upd_app, k5], by simp [upd_app, hw1, k6], ?_, ?_, q1, fun b c2 c4 c5 => ?_, rfl⟩
        · have := q2 2 (by decide); simpa [upd_app, b2'] using this
        · have := q2 4 (by decide); simpa [upd_app, b4'] using this
        · have := q2 b c5; simpa [c2, c4, c5] using this
end Go.Proofs.Ytadoadomogceiaa.Am
