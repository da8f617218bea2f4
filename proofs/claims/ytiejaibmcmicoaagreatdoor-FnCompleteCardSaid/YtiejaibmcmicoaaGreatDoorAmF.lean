/- Blocks of one's own that nobody writes any more: they are read only from here on; no condition. -/
import Derived.Test.YtiejaibmcmicoaaGreatDoorAmD
namespace Go.Proofs.YtiejaibmcmicoaaGreatDoor.Am
open Go
section
variable {φ : Nat → Option Loc} {M : Nat → Prop} {L : Nat → List Nat} {w : World} {E : Ent} {tm : Array Value}
def frz : List (Nat × AV) → List Nat → (Nat → AV) → Nat → AV
  | [], ks, ρ => keep ks ρ
  | (t, y) :: ts, ks, ρ => upd (frz ts ks ρ) t y
theorem Le.freeze {st : St} (k : Nat) (ks bs : List Nat) (ts : List (Nat × AV)) (h1 : ∀ t, t ∈ ks → menB bs (st.ρ t) = true) (h2 : ∀ b, b ∈ bs → ∀ cs, st.h b = some (some cs) → ∀ x ∈ cs, idfree x = true)
    (h3 : ∀ t y, (t, y) ∈ ts → roc (hideH bs st.h) k (st.ρ t) = some y) : Le st ⟨frz ts ks st.ρ, keepH bs st.h, st.n⟩ := by
  rintro E tm w ⟨φ, M, L, I⟩
  let φ' : Nat → Option Loc := fun b => if bs.elem b then φ b else none
  let M' : Nat → Prop := fun g => M g ∨ ∃ b cs, b ∉ bs ∧ st.h b = some (some cs) ∧ g ∈ L b
  have hφ : ∀ b, b ∈ bs → φ' b = φ b := fun b hb => if_pos (List.elem_eq_true_of_mem hb)
  have hlive : ∀ b cs, keepH bs st.h b = some (some cs) → b ∈ bs ∧ st.h b = some (some cs) := fun b cs h => by
    unfold keepH at h
    split at h
    · rename_i hb; exact ⟨by simpa using hb, h⟩
    · cases h
  have hhid : ∀ b cs, hideH bs st.h b = some (some cs) → b ∉ bs ∧ st.h b = some (some cs) := fun b cs h => by
    unfold hideH at h
    split at h
    · cases h
    · rename_i hb; exact ⟨by simpa using hb, h⟩
  have I2 : Inv E φ M L ⟨st.ρ, hideH bs st.h, st.n⟩ tm w := by
    refine ⟨I.size, I.env, fun b cs h => I.root b cs (hhid b cs h).2, fun b h => ?_, fun b cs h => I.nodup b cs (hhid b cs h).2, fun b b' cs cs' hne h h' => I.disj b b' cs cs' hne (hhid b cs h).2 (hhid b' cs' h').2, fun b cs h => I.notM b cs (hhid b cs h).2,
      fun b cs h => I.low b cs (hhid b cs h).2, I.bound, I.m0, I.m1, fun b cs h => I.own b cs (hhid b cs h).2, I.os, I.tape, I.output, I.grown, I.frame, I.keep⟩
    refine I.fresh b ?_
    have h' : hideH bs st.h b = none := h
    unfold hideH at h'
    split at h'
    · cases h'
    · exact h'
  have hML : ∀ b cs, hideH bs st.h b = some (some cs) → ∀ g ∈ L b, M' g := fun b cs h g hg => .inr ⟨b, cs, (hhid b cs h).1, (hhid b cs h).2, hg⟩
  refine ⟨φ', M', L, I.size, fun t => ?_, fun b cs h => ?_, fun b h => ?_, fun b cs h => I.nodup b cs (hlive b cs h).2, fun b b' cs cs' hne h h' => I.disj b b' cs cs' hne (hlive b cs h).2 (hlive b' cs' h').2, fun b cs h g hg hm => ?_,
    fun b cs h => I.low b cs (hlive b cs h).2, fun g hg => ?_, fun g hg => .inl (I.m0 g hg), fun g hg => ?_, fun b cs h => I.own b cs (hlive b cs h).2, I.os, I.tape, I.output, I.grown, I.frame, I.keep⟩
  · show V φ' M' w (frz ts ks st.ρ t) _ []
    have all : ∀ l : List (Nat × AV), (∀ t y, (t, y) ∈ l → roc (hideH bs st.h) k (st.ρ t) = some y) → ∀ t, V φ' M' w (frz l ks st.ρ t) (tm.getD t undef) [] := by
      intro l
      induction l with
      | nil =>
        intro _ t
        show V φ' M' w (keep ks st.ρ t) _ []
        unfold keep
        split
        · rename_i ht
          exact ((I.env t).men (h1 t (by simpa using ht)) hφ).mono (fun _ _ h => h) (fun g h => .inl h) (fun _ _ => rfl)
        · exact V.un _
      | cons p l ih =>
        obtain ⟨a, y⟩ := p
        intro hl t
        show V φ' M' w (upd (frz l ks st.ρ) a y t) _ []
        unfold upd
        split
        · rename_i e
          subst e
          exact .imm _ _ (roc_ok I2 (fun g h => .inl h) hML k _ _ [] y (I.env t) (hl t y (by simp)) (by simp))
        · exact ih (fun t y h => hl t y (List.mem_cons_of_mem _ h)) t
    exact all ts h3 t
  · obtain ⟨hb, hl⟩ := hlive b cs h
    have key : Root φ' M w b cs (L b) := by
      rcases I.root b cs hl with ⟨e1, e2, e3⟩ | ⟨l, C, us, F, e1, e2, e3, ⟨Fs, k1, k2, k3, k4, k5⟩, e6, e7⟩
      · exact .inl ⟨e1, (hφ b hb).trans e2, e3⟩
      · exact .inr ⟨l, C, us, F, (hφ b hb).trans e1, e2, e3, ⟨Fs, k1, k2, k3, k4, fun j x u F a c d => (k5 j x u F a c d).free (h2 b hb cs hl x (List.mem_of_getElem? a))⟩, e6, e7⟩
    exact key.mono (fun _ _ h => h) (fun h => h) (fun g h => .inl h) (fun _ _ => rfl)
  · show φ' b = none
    simp only [φ']
    split
    · rename_i hb
      refine I.fresh b ?_
      have h' : keepH bs st.h b = none := h
      unfold keepH at h'
      rw [if_pos hb] at h'
      exact h'
    · rfl
  · obtain ⟨hb, hl⟩ := hlive b cs h
    rcases hm with hm | ⟨b', cs', hb', hl', hg'⟩
    · exact I.notM b cs hl g hg hm
    · exact I.disj b b' cs cs' (fun e => hb' (e ▸ hb)) hl hl' g hg hg'
  · rcases hg with hg | ⟨b, cs, _, hl, hg⟩
    · exact I.bound g hg
    · exact I.low b cs hl g hg
  · rcases hg with hg | ⟨b, cs, _, hl, hg⟩
    · exact I.m1 g hg
    · exact .inr (I.own b cs hl g hg)
theorem callK.le {P : Program} {p : List Nat} {fx : AX} {xs : List AX} {d : Option Nat} {st st' : St} {K : St → Prop} (hl : Le st st') (h : callK P p fx xs d st' K) : callK P p fx xs d st K := by
  rcases h with h | h | ⟨st2, h2, h⟩
  · exact .inr (.inr ⟨st', hl, .inl h⟩)
  · exact .inr (.inr ⟨st', hl, .inr h⟩)
  · exact .inr (.inr ⟨st2, fun E tm w hs => h2 E tm w (hl E tm w hs), h⟩)
end
end Go.Proofs.YtiejaibmcmicoaaGreatDoor.Am
