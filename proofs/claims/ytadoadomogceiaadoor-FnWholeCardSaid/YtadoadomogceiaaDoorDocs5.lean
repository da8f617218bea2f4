/- The functions of the program, each by its contract: Docs5; no condition. -/
import Derived.Test.YtadoadomogceiaaDoorProg
import Derived.Test.YtadoadomogceiaaDoorAmZ
import Derived.Test.YtadoadomogceiaaDoorAmP
import Derived.Test.YtadoadomogceiaaDoorDocs4
import Derived.KernelRfl
namespace Go.Proofs.YtadoadomogceiaaDoor.Am
open Go Go.Proofs
set_option linter.unusedSimpArgs false
set_option linter.unusedVariables false
attribute [local congr] T_congr callK_congr callWK_congr
attribute [local simp] run_nil run_op0 run_opg run_seq run_cond run_block run_ret run_skip run_skip_after run_skip_blk run_exit run_exit_after run_exit_blk run_loop run_any runS_nil runS_op0 runS_opg runW_nil runW_op0 runW_opg exec_q exec_w exec_c exec_n execW_q execW_w execW_c restW_app hideH_app merge_app wblk rest_app restS_app execS_q execS_c aval dOk upd_app ev_t ev_c setO_some setO_none put_mk pinsOf isIo hasIo sbin endR fin resL one outL out1 clo1 cloL coe coeL shut shut.shutL wantA weff cellsOf fillA deref natOf ρ0_app h0_app plain plain.plainL keep_app keepH_app andThen_normal andThen_ret andThen_exit pop_nil pop_after pop_after_ret pop_after_exit pop_blk pop_blk_ret pop_blk_exit nilA srcOf srcCells keepR_app keepHR_app renA rb
theorem Disk.openB {ρ : Nat → AV} {h : Hp} {n : Nat} (b d : Nat) (x : Disk) (hb : h b = some (some (Disk.ty.oc x))) (h0 : h d = none) (h1 : h (d + 1) = none) (hd : b < d ∨ d + 2 ≤ b) :
    ∃ h', Le ⟨ρ, h, n⟩ ⟨ρ, h', n⟩ ∧ h' b = some (some [.sl d 0 x.sure.length 2 false, .sl (d + 1) 0 x.pend.length 3 false]) ∧ h' d = some (some (rows Doc.ty.oc x.sure)) ∧ h' (d + 1) = some (some (rows Op.ty.oc x.pend)) ∧ ∀ c, c ≠ b → c ≠ d → c ≠ d + 1 → h' c = h c := by
  obtain ⟨h', k1, k2, k4, k3⟩ := Le.openRow (ρ := ρ) (n := n) b [] (Disk.ty.oc x) d [] h (by simpa using hb) (Disk.ty.ow x) (fun i hi => by
    rw [Disk.oce] at hi
    match i with
    | 0 => exact h0
    | 1 => exact h1
    | i + 2 => simp at hi; omega) (by rw [Disk.oce]; simpa using hd)
  refine ⟨h', k1, by simpa [Disk.oce, ysOf] using k2, ?_, ?_, fun c hc hd0 hd1 => k3 c hc ?_⟩
  · have := k4 0 _ _ _ (by rw [Disk.oce]; rfl)
    simpa using this
  · exact k4 1 _ _ _ (by rw [Disk.oce]; rfl)
  · rw [Disk.oce]; simp; omega
theorem Disk.packB {h : Hp} (b d1 d2 : Nat) (x : Disk) (hb : h b = some (some [.sl d1 0 x.sure.length 2 false, .sl d2 0 x.pend.length 3 false])) (h1 : h d1 = some (some (rows Doc.ty.oc x.sure))) (h2 : h d2 = some (some (rows Op.ty.oc x.pend))) (hne : d1 ≠ d2) (hb1 : b ≠ d1) (hb2 : b ≠ d2) :
    ∃ h', (∀ ρ n, Le ⟨ρ, h, n⟩ ⟨ρ, h', n⟩) ∧ h' b = some (some (Disk.ty.oc x)) ∧ ∀ c, c ≠ b → c ≠ d1 → c ≠ d2 → h' c = h c := by
  obtain ⟨h', k1, k2, k3⟩ := Le.packOn b [] (Disk.ty.oc x) [d1, d2] [] h (by rw [Disk.oce]; rfl) (by rw [hb, Disk.oce]; simp [ysOn]) (Disk.ty.ow x) (fun i e cs len sz hi hj => by
    rw [Disk.oce] at hj
    match i with
    | 0 => simp at hi hj; obtain ⟨rfl, rfl, rfl⟩ := hj; subst hi; exact h1
    | 1 => simp at hi hj; obtain ⟨rfl, rfl, rfl⟩ := hj; subst hi; exact h2
    | i + 2 => simp at hi) (by simp [hne]) (by simp [hb1, hb2])
  refine ⟨h', k1, by simpa using k2, fun c hc hc1 hc2 => k3 c hc (by simp [hc1, hc2])⟩
theorem T.ex {P : Program} {p : List Nat} {c : AC} {st : St} {Q : AE → St → Prop} {I : St → Prop} (h : ∃ s, Le st s ∧ I s) (hT : ∀ s, I s → T P p c s Q) : T P p c st Q := by
  obtain ⟨s, h1, h2⟩ := h
  exact T.le h1 (hT s h2)
theorem Disk.packL {ρ : Nat → AV} {h : Hp} {n : Nat} {I : St → Prop} (ks bs : List Nat) (b d1 d2 : Nat) (x : Disk) (hb : h b = some (some [.sl d1 0 x.sure.length 2 false, .sl d2 0 x.pend.length 3 false])) (h1 : h d1 = some (some (rows Doc.ty.oc x.sure))) (h2 : h d2 = some (some (rows Op.ty.oc x.pend))) (hne : d1 ≠ d2) (hb1 : b ≠ d1) (hb2 : b ≠ d2)
    (hbm : b ∈ bs) (hd1 : d1 ∉ bs) (hd2 : d2 ∉ bs) (hks : ∀ t, t ∈ ks → menB bs (ρ t) = true) (hbs : ∀ c, c ∈ bs → c ≠ b → ∀ cs, h c = some (some cs) → ∀ y ∈ cs, idfree y = true)
    (hI : ∀ h', h' b = some (some (Disk.ty.oc x)) → (∀ c, c ≠ b → h' c = if bs.elem c then h c else none) → I ⟨keep ks ρ, h', n⟩) : ∃ s, Le ⟨ρ, h, n⟩ s ∧ I s := by
  obtain ⟨h', k1, k2, k3⟩ := Disk.packB b d1 d2 x hb h1 h2 hne hb1 hb2
  refine ⟨_, Le.trans (k1 ρ n) (Le.reset ks bs hks ?_), hI _ ?_ ?_⟩
  · intro c hc cs hcs
    have hcs : h' c = some (some cs) := hcs
    by_cases e : c = b
    · subst e
      rw [k2] at hcs
      cases hcs
      exact fun y hy => (Disk.ty.ow _ y hy).fr
    · rw [k3 c e (fun e' => hd1 (e' ▸ hc)) (fun e' => hd2 (e' ▸ hc))] at hcs
      exact hbs c hc e cs hcs
  · show keepH bs h' b = _
    rw [keepH_app, if_pos (List.elem_eq_true_of_mem hbm), k2]
  · intro c hc
    show keepH bs h' c = _
    rw [keepH_app]
    split
    · rename_i hm
      have hm : c ∈ bs := by simpa using hm
      exact k3 c hc (fun e' => hd1 (e' ▸ hm)) (fun e' => hd2 (e' ▸ hm))
    · rfl
def keepO (want : Nat → Bool) : List Op → Nat → List Op
  | [], _ => []
  | o :: os, i => if want i then o :: keepO want os (i + 1) else keepO want os (i + 1)
theorem keepO_sub (want : Nat → Bool) : ∀ (os : List Op) (i : Nat), (keepO want os i).Sublist os
  | [], _ => List.Sublist.refl _
  | o :: os, i => by
    rw [keepO]
    split
    · exact (keepO_sub want os (i + 1)).cons_cons _
    · exact (keepO_sub want os (i + 1)).cons _
theorem docsF_keep (want : Nat → Bool) : ∀ (os : List Op) (i j : Nat) (l : List Doc), docsF (fun _ => true) (keepO want os i) j l = docsF want os i l
  | [], _, _, _ => rfl
  | o :: os, i, j, l => by
    cases h : want i
    · simp only [keepO, docsF, h]; exact docsF_keep want os (i + 1) j l
    · simp only [keepO, docsF, h, if_true]; exact docsF_keep want os (i + 1) (j + 1) _
theorem settle_keep {d : Disk} (keep : Int) (hok : diskOk d = true) : settleF ⟨d.sure, keepO (bitK keep) d.pend 0⟩ = crashF d keep := by
  have hs := keepO_sub (bitK keep) d.pend 0
  have hk : diskOk ⟨d.sure, keepO (bitK keep) d.pend 0⟩ = true := by
    simp only [diskOk, Bool.and_eq_true, decide_eq_true_eq] at hok ⊢
    obtain ⟨⟨⟨k1, k2⟩, k3⟩, k4⟩ := hok
    refine ⟨⟨⟨k1, ?_⟩, k3⟩, ?_⟩
    · rw [List.all_eq_true] at k2 ⊢
      exact fun x hx => k2 x (hs.subset hx)
    · have := hs.length_le
      omega
  unfold settleF crashF
  rw [if_pos hk, if_pos hok]
  unfold docsNowF
  simp only [docsF_keep]
theorem keep_ok {d : Disk} (hd : Disk.ty.ok d) (want : Nat → Bool) (n : List Op) (hn : n = keepO want d.pend 0) : Disk.ty.ok ⟨d.sure, n⟩ := by
  subst hn
  have hs := keepO_sub want d.pend 0
  refine ⟨hd.1, ⟨?_, fun x hx => hd.2.1.2 x (hs.subset hx)⟩, trivial⟩
  exact Nat.le_trans (Nat.mul_le_mul_right _ hs.length_le) hd.2.1.1
end Go.Proofs.YtadoadomogceiaaDoor.Am
