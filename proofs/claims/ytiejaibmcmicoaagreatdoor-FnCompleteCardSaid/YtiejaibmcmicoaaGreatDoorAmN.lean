/- Slices whose cells own what they hold: all of a slice is opened, cut and packed anew; slices.DeleteFunc over such; no condition. -/
import Derived.Test.YtiejaibmcmicoaaGreatDoorAmF
namespace Go.Proofs.YtiejaibmcmicoaaGreatDoor.Am
open Go
set_option linter.unusedSimpArgs false
set_option linter.unusedVariables false
attribute [local congr] T_congr callK_congr callWK_congr
attribute [local simp] run_nil run_op0 run_opg run_seq run_cond run_block run_ret run_skip run_skip_after run_skip_blk run_exit run_exit_after run_exit_blk run_loop run_any runS_nil runS_op0 runS_opg runW_nil runW_op0 runW_opg exec_q exec_w exec_c exec_n execW_q execW_w execW_c restW_app hideH_app merge_app wblk rest_app restS_app execS_q execS_c aval dOk upd_app ev_t ev_c setO_some setO_none put_mk pinsOf isIo hasIo sbin endR fin resL one outL out1 clo1 cloL coe coeL shut shut.shutL wantA weff cellsOf fillA deref natOf ρ0_app h0_app plain plain.plainL keep_app keepH_app andThen_normal andThen_ret andThen_exit pop_nil pop_after pop_after_ret pop_after_exit pop_blk pop_blk_ret pop_blk_exit nilA srcOf srcCells keepR_app keepHR_app renA rb dstA lenA cutA
def menQ (q : Nat → Bool) : AV → Bool
  | .sl b _ _ _ _ => q b
  | .ref b _ => q b
  | x => idfree x
section
variable {φ : Nat → Option Loc} {M : Nat → Prop} {w : World} {P : Program} {p : List Nat}
theorem V.menQ {φ' : Nat → Option Loc} {q : Nat → Bool} {x : AV} {v : Value} {F : List Nat} (h : V φ M w x v F) (hm : Am.menQ q x = true) (hφ : ∀ b, q b = true → φ' b = φ b) : V φ' M w x v F := by
  cases x
  case sl b off len sz lim =>
    have hb : q b = true := hm
    cases h with
    | imm _ _ h => exact .imm _ _ h
    | sl _ _ _ _ _ l c h h1 h2 h3 => exact .sl _ _ _ _ _ l c ((hφ b hb).trans h) h1 h2 h3
    | slz => exact .slz _ _ _ _ _
  case ref b off =>
    have hb : q b = true := hm
    cases h with
    | imm _ _ h => exact .imm _ _ h
    | ref _ _ l h => exact .ref _ _ l ((hφ b hb).trans h)
  all_goals exact h.free hm
def keepQ (q : Nat → Bool) (h : Hp) : Hp := fun b => if q b = true then h b else none
theorem Le.resetQ {st : St} (ks : List Nat) (q : Nat → Bool) (h1 : ∀ t, t ∈ ks → Am.menQ q (st.ρ t) = true) (h2 : ∀ b, q b = true → ∀ cs, st.h b = some (some cs) → ∀ x ∈ cs, Am.menQ q x = true) : Le st ⟨keep ks st.ρ, keepQ q st.h, st.n⟩ := by
  rintro E tm w ⟨φ, M, L, I⟩
  let φ' : Nat → Option Loc := fun b => if q b = true then φ b else none
  have hφ : ∀ b, q b = true → φ' b = φ b := fun b hb => if_pos hb
  have hlive : ∀ b cs, keepQ q st.h b = some (some cs) → q b = true ∧ st.h b = some (some cs) := fun b cs h => by
    unfold keepQ at h
    split at h
    · rename_i hb; exact ⟨hb, h⟩
    · cases h
  refine ⟨φ', M, L, I.size, fun t => ?_, fun b cs h => ?_, fun b h => ?_, fun b cs h => I.nodup b cs (hlive b cs h).2, fun b b' cs cs' hne h h' => I.disj b b' cs cs' hne (hlive b cs h).2 (hlive b' cs' h').2, fun b cs h => I.notM b cs (hlive b cs h).2,
    fun b cs h => I.low b cs (hlive b cs h).2, I.bound, I.m0, I.m1, fun b cs h => I.own b cs (hlive b cs h).2, I.os, I.tape, I.output, I.grown, I.frame, I.keep⟩
  · show V φ' M w (keep ks st.ρ t) _ []
    unfold keep
    split
    · rename_i ht
      exact (I.env t).menQ (h1 t (by simpa using ht)) hφ
    · exact V.un _
  · obtain ⟨hb, hl⟩ := hlive b cs h
    rcases I.root b cs hl with ⟨e1, e2, e3⟩ | ⟨l, C, us, F, e1, e2, e3, ⟨Fs, k1, k2, k3, k4, k5⟩, e6, e7⟩
    · exact .inl ⟨e1, (hφ b hb).trans e2, e3⟩
    · exact .inr ⟨l, C, us, F, (hφ b hb).trans e1, e2, e3, ⟨Fs, k1, k2, k3, k4, fun j x u F a c d => (k5 j x u F a c d).menQ (h2 b hb cs hl x (List.mem_of_getElem? a)) hφ⟩, e6, e7⟩
  · show φ' b = none
    simp only [φ']
    split
    · rename_i hb
      refine I.fresh b ?_
      have h' : keepQ q st.h b = none := h
      unfold keepQ at h'
      rw [if_pos hb] at h'
      exact h'
    · rfl
end
theorem Le.ex {st : St} {I : St → Prop} (h : ∃ s, Le st s ∧ ∃ s', Le s s' ∧ I s') : ∃ s, Le st s ∧ I s := by
  obtain ⟨s, h1, s', h2, h3⟩ := h
  exact ⟨s', Le.trans h1 h2, h3⟩
section
variable {P : Program} {α : Type} (t : Ty α)
def numb (n : Nat) : Nat → List α → List (Nat × α)
  | _, [] => []
  | d, x :: xs => (d, x) :: numb n (d + n) xs
def NB (h : Hp) (p : Nat × α) : Prop := ∀ i cs len sz, (t.oc p.2)[i]? = some (.own cs len sz) → h (p.1 + i) = some (some cs)
theorem NB.of {h : Hp} : ∀ (xs : List α) (d : Nat), (∀ i cs len sz, (rows t.oc xs)[i]? = some (.own cs len sz) → h (d + i) = some (some cs)) → ∀ p ∈ numb t.n d xs, NB t h p
  | [], _, _, p, hp => by cases hp
  | x :: xs, d, hh, p, hp => by
    rcases List.mem_cons.1 hp with rfl | hp
    · intro i cs len sz hi
      refine hh i cs len sz ?_
      rw [rows_cons, List.getElem?_append_left (List.getElem?_eq_some_iff.1 hi).1]
      exact hi
    · refine NB.of xs (d + t.n) (fun i cs len sz hi => ?_) p hp
      rw [Nat.add_assoc]
      refine hh _ cs len sz ?_
      rw [rows_cons, List.getElem?_append_right (by rw [t.ocn]; omega), t.ocn, Nat.add_sub_cancel_left]
      exact hi
end
end Go.Proofs.YtiejaibmcmicoaaGreatDoor.Am
