/- A state told anew, slot by slot and block by block; no condition. -/
import Derived.Test.YtiejaibmcmicoaaGreatDoorAmN
namespace Go.Proofs.YtiejaibmcmicoaaGreatDoor.Am
open Go
set_option linter.unusedSimpArgs false
set_option linter.unusedVariables false
attribute [local congr] T_congr callK_congr callWK_congr
attribute [local simp] run_nil run_op0 run_opg run_seq run_cond run_block run_ret run_skip run_skip_after run_skip_blk run_exit run_exit_after run_exit_blk run_loop run_any runS_nil runS_op0 runS_opg runW_nil runW_op0 runW_opg exec_q exec_w exec_c exec_n execW_q execW_w execW_c restW_app hideH_app merge_app wblk rest_app restS_app execS_q execS_c aval dOk upd_app ev_t ev_c setO_some setO_none put_mk pinsOf isIo hasIo sbin endR fin resL one outL out1 clo1 cloL coe coeL shut shut.shutL wantA weff cellsOf fillA deref natOf ρ0_app h0_app plain plain.plainL keep_app keepH_app andThen_normal andThen_ret andThen_exit pop_nil pop_after pop_after_ret pop_after_exit pop_blk pop_blk_ret pop_blk_exit nilA srcOf srcCells keepR_app keepHR_app renA rb dstA lenA cutA
def mens (q : Nat → Bool) (cs : List AV) : Bool := cs.all (menQ q)
theorem mens_nil {q : Nat → Bool} : mens q [] = true := rfl
theorem mens_cons {q : Nat → Bool} {c : AV} {cs : List AV} : mens q (c :: cs) = (menQ q c && mens q cs) := rfl
theorem menQ_of {q : Nat → Bool} {x : AV} (h : idfree x = true) : menQ q x = true := by cases x <;> first | exact h | (simp [idfree] at h)
theorem mens_idf {q : Nat → Bool} {cs : List AV} (h : idfree.idfreeL cs = true) : mens q cs = true := by
  refine List.all_eq_true.2 fun x hx => menQ_of (idfreeL_mem h x hx)
theorem menQ_sl {q : Nat → Bool} {b off len sz : Nat} {lim : Bool} : menQ q (.sl b off len sz lim) = q b := rfl
theorem menQ_ref {q : Nat → Bool} {b off : Nat} : menQ q (.ref b off) = q b := rfl
theorem menQ_sc {q : Nat → Bool} {v : Value} : menQ q (.sc v) = true := rfl
theorem menQ_em {q : Nat → Bool} : menQ q .em = true := rfl
theorem menQ_un {q : Nat → Bool} : menQ q .un = true := rfl
def toldρ : List (Nat × AV) → Nat → AV
  | [] => fun _ => .un
  | (t, v) :: l => upd (toldρ l) t v
def toldH : List (Nat × List AV) → Hp
  | [] => fun _ => none
  | (b, cs) :: l => upd (toldH l) b (some (some cs))
def toldT (ρ : Nat → AV) (ks : List Nat) : List (Nat × AV) → Prop
  | [] => True
  | (t, v) :: l => ρ t = v ∧ menQ ks.elem v = true ∧ toldT ρ ks l
def toldB (h : Hp) (ks : List Nat) : List (Nat × List AV) → Prop
  | [] => True
  | (b, cs) :: l => h b = some (some cs) ∧ mens ks.elem cs = true ∧ toldB h ks l
theorem elem_ne {x b : Nat} {l : List Nat} (e : ¬x = b) : List.elem x (b :: l) = List.elem x l := by
  rw [List.elem_cons, beq_eq_false_iff_ne.2 e]
theorem toldT_mem {ρ : Nat → AV} {ks : List Nat} : ∀ {ts : List (Nat × AV)}, toldT ρ ks ts → (∀ t, t ∈ ts.map (·.1) → menQ ks.elem (ρ t) = true) ∧ keep (ts.map (·.1)) ρ = toldρ ts
  | [], _ => ⟨fun t h => (by cases h), (by funext t; rfl)⟩
  | (t, v) :: l, h => by
    obtain ⟨h1, h2, h3⟩ := h
    obtain ⟨i1, i2⟩ := toldT_mem h3
    refine ⟨fun x hx => ?_, ?_⟩
    · rcases List.mem_cons.1 hx with rfl | hx
      · rw [h1]; exact h2
      · exact i1 x hx
    · funext x
      have i3 := congrFun i2 x
      rw [toldρ, upd_app, ← i3]
      unfold keep
      by_cases e : x = t
      · subst e; simp [h1]
      · rw [if_neg e]
        exact congrArg (fun z : Bool => if z = true then ρ x else AV.un) (elem_ne e)
theorem toldB_mem {h : Hp} {ks : List Nat} : ∀ {bs : List (Nat × List AV)}, toldB h ks bs → (∀ b, b ∈ bs.map (·.1) → ∀ cs, h b = some (some cs) → ∀ x ∈ cs, menQ ks.elem x = true) ∧ keepQ (bs.map (·.1)).elem h = toldH bs
  | [], _ => ⟨fun t h => (by cases h), (by funext t; rfl)⟩
  | (b, cs) :: l, hh => by
    obtain ⟨h1, h2, h3⟩ := hh
    obtain ⟨i1, i2⟩ := toldB_mem h3
    refine ⟨fun x hx => ?_, ?_⟩
    · rcases List.mem_cons.1 hx with rfl | hx
      · intro ds hd
        rw [h1] at hd
        cases hd
        exact List.all_eq_true.1 h2
      · exact i1 x hx
    · funext x
      have i3 := congrFun i2 x
      rw [toldH, upd_app, ← i3]
      unfold keepQ
      by_cases e : x = b
      · subst e; simp [h1]
      · rw [if_neg e]
        exact congrArg (fun z : Bool => if z = true then h x else none) (elem_ne e)
theorem Le.told {st : St} (ts : List (Nat × AV)) (bs : List (Nat × List AV)) (h1 : toldT st.ρ (bs.map (·.1)) ts) (h2 : toldB st.h (bs.map (·.1)) bs) : Le st ⟨toldρ ts, toldH bs, st.n⟩ := by
  obtain ⟨a1, a2⟩ := toldT_mem h1
  obtain ⟨b1, b2⟩ := toldB_mem h2
  rw [← a2, ← b2]
  exact Le.resetQ _ _ a1 fun b hb cs hc x hx => b1 b (by simpa using hb) cs hc x hx
end Go.Proofs.YtiejaibmcmicoaaGreatDoor.Am
