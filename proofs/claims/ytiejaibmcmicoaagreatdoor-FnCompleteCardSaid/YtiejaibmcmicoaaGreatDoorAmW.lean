/- Regions that may be taken in any order, operations that write memory among them: what is touched by two that have no order is apart; no condition. -/
import Derived.Test.YtiejaibmcmicoaaGreatDoorAm11
namespace Go.Proofs.YtiejaibmcmicoaaGreatDoor.Am
open Go
set_option linter.unusedSimpArgs false
def rdParts (ps : List (Nat × Nat × AX)) : List Nat := (ps.map fun p => rdX p.2.2).flatten
def rdW : WOp → List Nat
  | .alloc _ => []
  | .box x => rdX x
  | .build _ ps => rdParts ps
  | .bsl _ _ _ ps => rdParts ps
  | .store _ p x => rdX p ++ rdX x
  | .app _ _ _ s x => rdX s ++ rdX x
  | .mk _ _ _ n c => rdX n ++ rdX c
  | .appz _ _ _ s k => rdX s ++ rdX k
  | .cpy _ t x => rdX t ++ rdX x
  | .clr _ _ s => rdX s
  | .byt x => rdX x
  | .fz x => rdX x
def rdD : AO → List Nat
  | .q q => rdQ q
  | .c f xs => rdX f ++ rdL xs
  | .w w => rdW w
  | .n _ x => rdX x
abbrev Hp := Nat → Option (Option (List AV))
def hideH (A : List Nat) (h : Hp) : Hp := fun b => if A.elem b then some none else h b
def merge (A : List Nat) (h h' : Hp) : Hp := fun b => if A.elem b then h b else h' b
theorem hideH_app (A : List Nat) (h : Hp) (b : Nat) : hideH A h b = if A.elem b then some none else h b := rfl
theorem merge_app (A : List Nat) (h h' : Hp) (b : Nat) : merge A h h' b = if A.elem b then h b else h' b := rfl
structure HS (A : List Nat) (h h2 : Hp) : Prop where
  out : ∀ b, b ∉ A → h2 b = h b
  gone : ∀ b, b ∈ A → h b = some none
section
variable {A : List Nat} {h h2 : Hp}
theorem HS.live (s : HS A h h2) {b : Nat} {cs : List AV} (hb : h b = some (some cs)) : b ∉ A ∧ h2 b = some (some cs) := by
  have : b ∉ A := fun hm => by rw [s.gone b hm] at hb; cases hb
  exact ⟨this, (s.out b this).trans hb⟩
theorem HS.free (s : HS A h h2) {b : Nat} (hb : h b = none) : b ∉ A ∧ h2 b = none := by
  have : b ∉ A := fun hm => by rw [s.gone b hm] at hb; cases hb
  exact ⟨this, (s.out b this).trans hb⟩
theorem HS.upd (s : HS A h h2) {b : Nat} (hb : b ∉ A) (x : Option (Option (List AV))) : HS A (upd h b x) (upd h2 b x) := by
  refine ⟨fun c hc => ?_, fun c hc => ?_⟩
  · by_cases e : c = b
    · subst e; rw [upd_same, upd_same]
    · rw [upd_ne _ _ e, upd_ne _ _ e]; exact s.out c hc
  · have e : c ≠ b := fun e => hb (e ▸ hc)
    rw [upd_ne _ _ e]; exact s.gone c hc
theorem deref_sim (s : HS A h h2) {x : AV} {l : List AV} (hl : deref h x = some l) : deref h2 x = some l := by
  unfold deref at hl ⊢
  split at hl
  · split at hl <;> (try cases hl)
    rename_i b off _ cs hb
    simp only [(s.live hb).2]
  · exact hl
  · cases hl
theorem bytesA_sim (s : HS A h h2) {x : AV} {l : List Int} (hl : bytesA h x = some l) : bytesA h2 x = some l := by
  unfold bytesA at hl ⊢
  split at hl
  · exact hl
  · exact hl
  · split at hl <;> (try cases hl)
    rename_i b off len _ _ _ cs hb
    simp only [(s.live hb).2]
    exact hl
  · cases hl
theorem aval_sim (s : HS A h h2) {q : QOp} {ρ : Nat → AV} {y : AV} (hy : aval q ρ h = some y) : aval q ρ h2 = some y := by
  cases q
  case load agg n x =>
    simp only [aval] at hy ⊢
    obtain ⟨l, hl, hy⟩ := Option.bind_eq_some_iff.1 hy
    rw [deref_sim s hl]
    exact hy
  case bstr x =>
    simp only [aval] at hy ⊢
    obtain ⟨l, hl, hy⟩ := Option.map_eq_some_iff.1 hy
    rw [bytesA_sim s hl]
    subst hy; rfl
  all_goals exact hy
theorem roc_sim (s : HS A h h2) : ∀ (k : Nat) (x y : AV), roc h k x = some y → roc h2 k x = some y
  | 0, x, y, hy => hy
  | k + 1, x, y, hy => by
    have ih := roc_sim s k
    have ihL : ∀ (l ys : List AV), l.mapM (roc h k) = some ys → l.mapM (roc h2 k) = some ys := fun l => by
      induction l with
      | nil => intro ys h; exact h
      | cons a l ihl =>
        intro ys hys
        simp only [List.mapM_cons, Option.bind_eq_bind, Option.bind_eq_some_iff, Option.pure_def, Option.some.injEq] at hys ⊢
        obtain ⟨b, hb, bs, hbs, e⟩ := hys
        exact ⟨b, ih a b hb, bs, ihl bs hbs, e⟩
    unfold roc at hy ⊢
    split at hy
    · rename_i hs; rw [if_pos hs]; exact hy
    rename_i hs
    rw [if_neg hs]
    split at hy
    · split at hy <;> (try cases hy)
      rename_i cs hb
      simp only [(s.live hb).2]
      split at hy <;> (try cases hy)
      rename_i hle
      rw [if_pos hle]
      split at hy
      · rename_i hsh; rw [if_pos hsh]; exact hy
      · rename_i hsh
        rw [if_neg hsh]
        obtain ⟨ys, hys, rfl⟩ := Option.map_eq_some_iff.1 hy
        rw [ihL _ _ hys]; rfl
    · split at hy <;> (try cases hy)
      rename_i cs hb
      simp only [(s.live hb).2]
      split at hy
      · rename_i hsh; rw [if_pos hsh]; exact hy
      · rename_i hsh
        rw [if_neg hsh]
        obtain ⟨ys, hys, rfl⟩ := Option.map_eq_some_iff.1 hy
        rw [ihL _ _ hys]; rfl
    · obtain ⟨ys, hys, rfl⟩ := Option.map_eq_some_iff.1 hy
      simp only [ihL _ _ hys, Option.map_some]
    · obtain ⟨ys, hys, rfl⟩ := Option.map_eq_some_iff.1 hy
      simp only [ihL _ _ hys, Option.map_some]
    · obtain ⟨ys, hys, rfl⟩ := Option.map_eq_some_iff.1 hy
      simp only [ihL _ _ hys, Option.map_some]
    · cases hy
end
structure Ou (A : List Nat) (st st' st2 st2' : St) : Prop where
  ρ : st'.ρ = st.ρ
  n : st'.n = st.n
  ρ2 : st2'.ρ = st2.ρ
  n2 : st2'.n = st2.n
  hs : HS A st'.h st2'.h
  keep : ∀ b, b ∈ A → st2'.h b = st2.h b
section
variable {A : List Nat} {st st' st'' st2 st2' st2'' : St}
theorem Ou.refl (s : HS A st.h st2.h) : Ou A st st st2 st2 := ⟨rfl, rfl, rfl, rfl, s, fun _ _ => rfl⟩
theorem Ou.trans (h : Ou A st st' st2 st2') (k : Ou A st' st'' st2' st2'') : Ou A st st'' st2 st2'' :=
  ⟨k.ρ.trans h.ρ, k.n.trans h.n, k.ρ2.trans h.ρ2, k.n2.trans h.n2, k.hs, fun b hb => (k.keep b hb).trans (h.keep b hb)⟩
theorem Ou.put (s : HS A st.h st2.h) {b : Nat} (hb : b ∉ A) (x : Option (List AV)) : Ou A st (st.put b x) st2 (st2.put b x) :=
  ⟨rfl, rfl, rfl, rfl, s.upd hb _, fun _ hc => upd_ne _ _ fun e => hb (e ▸ hc)⟩
theorem srcCells_sim (s : HS A st.h st2.h) {sz : Nat} {x : AV} {r : List AV × Nat} (h : srcCells st.h sz x = some r) : srcCells st2.h sz x = some r := by
  unfold srcCells at h ⊢
  split at h
  · exact h
  · exact h
  · split at h <;> (try cases h)
    rename_i hsz
    rw [if_pos hsz]
    split at h <;> (try cases h)
    rename_i cs hb
    simp only [(s.live hb).2]
    exact h
  · split at h <;> (try cases h)
    rename_i hsz
    rw [if_pos hsz]
    split at h <;> (try cases h)
    rename_i cs hb
    simp only [(s.live hb).2]
    exact h
  · cases h
theorem fillA_same {ρ ρ' : Nat → AV} : ∀ (ps : List (Nat × Nat × AX)) (cs : List AV), (∀ t ∈ rdParts ps, ρ' t = ρ t) → fillA ρ' cs ps = fillA ρ cs ps
  | [], cs, _ => rfl
  | (o, n, x) :: ps, cs, h => by
    have hx : x.ev ρ' = x.ev ρ := ev_same fun t ht => h t (by simp [rdParts, ht])
    have ih := fun cs => fillA_same ps cs fun t ht => h t (by
      simp only [rdParts, List.map_cons, List.flatten_cons, List.mem_append] at ht ⊢; exact .inr ht)
    simp only [fillA, hx, ih]
theorem weff_sim (s : HS A st.h st2.h) {w : WOp} {d : Nat} {y : AV} (hr : ∀ t ∈ rdW w, st2.ρ t = st.ρ t) (h : weff w d st = some (y, st')) : ∃ st2', weff w d st2 = some (y, st2') ∧ Ou A st st' st2 st2' := by
  cases w <;> simp only [rdW, List.mem_append, or_imp, forall_and] at hr
  case alloc zs =>
    simp only [weff] at h ⊢
    split at h <;> cases h
    rename_i hd
    simp only [(s.free hd).2]
    exact ⟨_, rfl, Ou.put s (s.free hd).1 _⟩
  case box x =>
    simp only [weff, ev_same hr] at h ⊢
    split at h <;> cases h
    rename_i cs hd hc
    simp only [(s.free hd).2, hc]
    exact ⟨_, rfl, Ou.put s (s.free hd).1 _⟩
  case build z ps =>
    simp only [weff, fillA_same ps z hr] at h ⊢
    obtain ⟨cs, hc, e⟩ := Option.map_eq_some_iff.1 h
    cases e
    rw [hc]
    exact ⟨_, rfl, Ou.refl s⟩
  case bsl sz len z ps =>
    simp only [weff, fillA_same ps z hr] at h ⊢
    split at h <;> cases h
    rename_i cs hd hc
    simp only [(s.free hd).2, hc]
    exact ⟨_, rfl, Ou.put s (s.free hd).1 _⟩
  case store n p x =>
    simp only [weff, ev_same hr.1, ev_same hr.2] at h ⊢
    split at h <;> (try cases h)
    rename_i b off xs hp hx
    split at h <;> (try cases h)
    rename_i cs hb
    split at h <;> cases h
    rename_i hle
    simp only [hp, hx, (s.live hb).2]
    rw [if_pos hle]
    exact ⟨_, rfl, Ou.put s (s.live hb).1 _⟩
  case app sz bytes str sl x =>
    simp only [weff, srcOf, ev_same hr.1, ev_same hr.2] at h ⊢
    split at h <;> (try cases h)
    rename_i xs n hsrc
    have hsrc' : srcOf ⟨st.ρ, st2.h, st2.n⟩ sz str x = some (xs, n) := by
      unfold srcOf
      split at hsrc
      · rename_i hstr; rw [if_pos hstr]; exact hsrc
      · rename_i hstr; rw [if_neg hstr]; exact srcCells_sim s hsrc
    unfold srcOf at hsrc'
    simp only at hsrc'
    rw [hsrc']
    simp only
    split at h
    · rename_i he hd
      split at h <;> cases h
      rename_i hle
      simp only [he, (s.free hd).2]
      rw [if_pos hle]
      exact ⟨_, rfl, Ou.put s (s.free hd).1 _⟩
    · rename_i b off len sz' lim he hd
      split at h <;> (try cases h)
      rename_i cs hb
      split at h <;> cases h
      rename_i hle
      simp only [he, (s.free hd).2, (s.live hb).2]
      rw [if_pos hle]
      exact ⟨_, rfl, (Ou.put s (s.live hb).1 _).trans (Ou.put (s.upd (s.live hb).1 _) (s.free hd).1 _)⟩
    · rename_i b off len cap sz' he hd
      split at h <;> (try cases h)
      rename_i cs hb
      split at h <;> cases h
      rename_i hle
      simp only [he, (s.free hd).2, (s.live hb).2]
      rw [if_pos hle]
      exact ⟨_, rfl, Ou.put s (s.live hb).1 _⟩
    · cases h
  case appz sz bytes zs sl k =>
    simp only [weff, ev_same hr.1, ev_same hr.2] at h ⊢
    split at h <;> (try cases h)
    rename_i b off len cap sz' kk k' he hk hd
    split at h <;> (try cases h)
    rename_i cs hb
    split at h <;> cases h
    rename_i hle
    simp only [he, hk, (s.free hd).2, (s.live hb).2]
    rw [if_pos hle]
    exact ⟨_, rfl, Ou.put s (s.free hd).1 _⟩
  case cpy sz t x =>
    simp only [weff, ev_same hr.1, ev_same hr.2] at h ⊢
    split at h <;> (try cases h)
    rename_i b off len sz' n hd hn
    split at h <;> (try cases h)
    rename_i xs n' cs hxs hb
    split at h <;> cases h
    rename_i hle
    simp only [hd, hn, srcCells_sim s hxs, (s.live hb).2]
    rw [if_pos hle]
    exact ⟨_, rfl, Ou.put s (s.live hb).1 _⟩
  case clr sz zs sl =>
    simp only [weff, ev_same hr] at h ⊢
    split at h <;> (try cases h)
    rename_i b off len sz' hd
    split at h <;> (try cases h)
    rename_i cs hb
    split at h <;> cases h
    rename_i hle
    simp only [hd, (s.live hb).2]
    rw [if_pos hle]
    exact ⟨_, rfl, Ou.put s (s.live hb).1 _⟩
  case byt x =>
    simp only [weff, ev_same hr] at h ⊢
    split at h <;> cases h
    exact ⟨_, rfl, Ou.refl s⟩
  case fz x =>
    simp only [weff, ev_same hr] at h ⊢
    split at h <;> (try cases h)
    rename_i b' len hv
    split at h <;> (try cases h)
    rename_i cs hb
    split at h <;> cases h
    rename_i hc
    simp only [hv, (s.live hb).2]
    rw [if_pos hc]
    exact ⟨_, rfl, Ou.put s (s.live hb).1 _⟩
  case mk sz bytes zs n c =>
    simp only [weff, ev_same hr.1, ev_same hr.2] at h ⊢
    split at h <;> (try cases h)
    rename_i k1 n' k2 c' hd hn hc
    split at h <;> cases h
    rename_i hle
    simp only [(s.free hd).2, hn, hc]
    rw [if_pos hle]
    exact ⟨_, rfl, Ou.put s (s.free hd).1 _⟩
theorem ex1_sim (s : HS A st.h st2.h) {m : Md} {x : AV} {r : Option AV × Option Nat} (h : ex1 m x st = some (r.1, r.2, st')) : ∃ st2', ex1 m x st2 = some (r.1, r.2, st2') ∧ Ou A st st' st2 st2' ∧ ∀ b, r.2 = some b → b ∉ A := by
  obtain ⟨r1, r2⟩ := r
  unfold ex1 at h ⊢
  split at h
  · cases h; exact ⟨_, rfl, Ou.refl s, by simp⟩
  · split at h
    · cases h; exact ⟨_, rfl, Ou.refl s, by simp⟩
    · split at h <;> (try cases h)
      rename_i cs hb
      split at h <;> cases h
      rename_i hc
      simp only [(s.live hb).2]
      rw [if_pos hc]
      exact ⟨_, rfl, Ou.put s (s.live hb).1 _, by simp⟩
    · cases h
  · cases h
  · split at h
    · split at h <;> (try cases h)
      rename_i cs hb
      split at h <;> cases h
      rename_i hc
      simp only [(s.live hb).2]
      rw [if_pos hc]
      refine ⟨_, rfl, Ou.put s (s.live hb).1 _, fun b e => ?_⟩
      cases e; exact (s.live hb).1
    · split at h <;> (try cases h)
      rename_i cs hb
      split at h <;> cases h
      rename_i hc
      simp only [(s.live hb).2]
      rw [if_pos hc]
      refine ⟨_, rfl, Ou.put s (s.live hb).1 _, fun b e => ?_⟩
      cases e; exact (s.live hb).1
    · cases h
theorem exL_sim : ∀ (l : List (Md × AV)) (st st' st2 : St) (r : List (Option AV × Option Nat)), HS A st.h st2.h → exL l st = some (r, st') → ∃ st2', exL l st2 = some (r, st2') ∧ Ou A st st' st2 st2' ∧ ∀ x ∈ r, ∀ b, x.2 = some b → b ∉ A
  | [], st, st', st2, r, s, h => by simp only [exL, Option.some.injEq, Prod.mk.injEq] at h; obtain ⟨rfl, rfl⟩ := h; exact ⟨st2, rfl, Ou.refl s, by simp⟩
  | (m, x) :: l, st, st', st2, r, s, h => by
    unfold exL at h
    split at h <;> (try cases h)
    rename_i y bk st1 h1
    obtain ⟨⟨r', st''⟩, h2, e⟩ := Option.map_eq_some_iff.1 h
    cases e
    obtain ⟨s1, e1, o1, n1⟩ := ex1_sim s (r := (y, bk)) h1
    obtain ⟨s2, e2, o2, n2⟩ := exL_sim l st1 _ s1 r' o1.hs h2
    refine ⟨s2, by unfold exL; rw [e1]; simp only [e2, Option.map_some], o1.trans o2, fun z hz b hb => ?_⟩
    rcases List.mem_cons.1 hz with rfl | hz
    · exact n1 b hb
    · exact n2 z hz b hb
theorem shutArgs_sim {h h2 : Hp} (s : HS A h h2) : ∀ (l : List (Md × AV)) (r : List (Option AV × Option Nat)) (ys : List AV), shutArgs h l r = some ys → shutArgs h2 l r = some ys
  | [], [], ys, e => e
  | (m, x) :: l, (y, bk) :: r, ys, e => by
    unfold shutArgs at e ⊢
    split at e <;> (try cases e)
    rename_i z hz
    obtain ⟨ys', hys, rfl⟩ := Option.map_eq_some_iff.1 e
    cases y with
    | some y => cases hz; simp only [shutArgs_sim s l r ys' hys, Option.map_some]
    | none => simp only [roc_sim s 8 x z hz, shutArgs_sim s l r ys' hys, Option.map_some]
  | [], _ :: _, ys, e => by simp [shutArgs] at e
  | _ :: _, [], ys, e => by simp [shutArgs] at e
theorem backL_sim : ∀ (r : List (Option AV × Option Nat)) (outs : List AV) (st st' st2 : St), HS A st.h st2.h → (∀ x ∈ r, ∀ b, x.2 = some b → b ∉ A) → backL r outs st = some st' → ∃ st2', backL r outs st2 = some st2' ∧ Ou A st st' st2 st2'
  | [], [], st, st', st2, s, _, h => by simp only [backL, Option.some.injEq] at h; subst h; exact ⟨st2, rfl, Ou.refl s⟩
  | (y, none) :: r, o :: outs, st, st', st2, s, hn, h => by
    simp only [backL] at h
    obtain ⟨s2, e, o2⟩ := backL_sim r outs st st' st2 s (fun x hx => hn x (List.mem_cons_of_mem _ hx)) h
    exact ⟨s2, by simp only [backL]; exact e, o2⟩
  | (y, some b) :: r, o :: outs, st, st', st2, s, hn, h => by
    have hb : b ∉ A := hn _ (List.mem_cons_self ..) b rfl
    have hh : st2.h b = st.h b := s.out b hb
    unfold backL at h ⊢
    split at h
    · split at h <;> (try cases h)
      rename_i hc
      rw [hh, if_pos hc]
      obtain ⟨s2, e, o2⟩ := backL_sim r outs _ st' (st2.put b _) (s.upd hb _) (fun x hx => hn x (List.mem_cons_of_mem _ hx)) h
      exact ⟨s2, e, (Ou.put s hb _).trans o2⟩
    · split at h <;> (try cases h)
      rename_i hc
      rw [hh, if_pos hc]
      obtain ⟨s2, e, o2⟩ := backL_sim r outs _ st' (st2.put b _) (s.upd hb _) (fun x hx => hn x (List.mem_cons_of_mem _ hx)) h
      exact ⟨s2, e, (Ou.put s hb _).trans o2⟩
    · cases h
  | [], _ :: _, st, st', st2, s, _, h => by simp [backL] at h
  | (_, none) :: _, [], st, st', st2, s, _, h => by simp [backL] at h
  | (_, some _) :: _, [], st, st', st2, s, _, h => by simp [backL] at h
mutual
theorem inst_sim : ∀ (n d : Nat) (x : AV) (st st' st2 : St) (y : AV), HS A st.h st2.h → inst n d x st = some (y, st') → ∃ st2', inst n d x st2 = some (y, st2') ∧ Ou A st st' st2 st2'
  | 0, d, x, st, st', st2, y, s, h => by simp [inst] at h
  | n + 1, d, x, st, st', st2, y, s, h => by
    cases x
    case own cs len sz =>
      simp only [inst] at h ⊢
      split at h <;> cases h
      rename_i hd
      simp only [(s.free hd).2]
      exact ⟨_, rfl, Ou.put s (s.free hd).1 _⟩
    case io cs len sz =>
      simp only [inst] at h ⊢
      split at h <;> cases h
      rename_i hd
      simp only [(s.free hd).2]
      exact ⟨_, rfl, Ou.put s (s.free hd).1 _⟩
    case bx cs =>
      simp only [inst] at h ⊢
      split at h <;> cases h
      rename_i hd
      simp only [(s.free hd).2]
      exact ⟨_, rfl, Ou.put s (s.free hd).1 _⟩
    case tup cs =>
      simp only [inst] at h ⊢
      obtain ⟨⟨ys, s1⟩, h1, e⟩ := Option.map_eq_some_iff.1 h
      cases e
      obtain ⟨s2, e2, o2⟩ := instL_sim n _ cs st _ st2 ys s h1
      exact ⟨s2, by rw [e2]; rfl, o2⟩
    case agg cs =>
      simp only [inst] at h ⊢
      obtain ⟨⟨ys, s1⟩, h1, e⟩ := Option.map_eq_some_iff.1 h
      cases e
      obtain ⟨s2, e2, o2⟩ := instL_sim n _ cs st _ st2 ys s h1
      exact ⟨s2, by rw [e2]; rfl, o2⟩
    all_goals
      simp only [inst] at h ⊢
      split at h <;> cases h
      rename_i hs
      rw [if_pos hs]
      exact ⟨_, rfl, Ou.refl s⟩
theorem instL_sim : ∀ (n d : Nat) (xs : List AV) (st st' st2 : St) (ys : List AV), HS A st.h st2.h → instL n d xs st = some (ys, st') → ∃ st2', instL n d xs st2 = some (ys, st2') ∧ Ou A st st' st2 st2'
  | n, d, [], st, st', st2, ys, s, h => by
    have : ys = [] ∧ st = st' := by cases n <;> simp [instL] at h <;> exact ⟨h.1, h.2⟩
    obtain ⟨rfl, rfl⟩ := this
    exact ⟨st2, by cases n <;> rfl, Ou.refl s⟩
  | 0, d, x :: xs, st, st', st2, ys, s, h => by simp [instL] at h
  | n + 1, d, x :: xs, st, st', st2, ys, s, h => by
    unfold instL at h
    split at h <;> (try cases h)
    rename_i y st1 h1
    obtain ⟨⟨ys', s1⟩, h2, e⟩ := Option.map_eq_some_iff.1 h
    cases e
    obtain ⟨s2, e2, o2⟩ := inst_sim n d x st st1 st2 y s h1
    obtain ⟨s3, e3, o3⟩ := instL_sim n (d + 1) xs st1 _ s2 ys' o2.hs h2
    exact ⟨s3, by unfold instL; rw [e2]; simp only [e3, Option.map_some], o2.trans o3⟩
end
end
def wblk (w : WOp) (d : Nat) (ρ : Nat → AV) : List Nat :=
  match w with
  | .alloc _ | .box _ | .bsl .. | .mk .. => [d]
  | .build .. | .byt _ => []
  | .fz x => match x.ev ρ with | .sl b _ _ _ _ => [b] | _ => []
  | .store _ p _ => match p.ev ρ with | .ref b _ => [b] | _ => []
  | .app _ _ _ s _ => match s.ev ρ with | .sl b _ _ _ _ => [b, d] | .pf b _ _ _ _ => [b] | _ => [d]
  | .appz .. => [d]
  | .cpy _ t _ => match dstA (t.ev ρ) with | some (b, _, _, _) => [b] | none => []
  | .clr _ _ t => match dstA (t.ev ρ) with | some (b, _, _, _) => [b] | none => []
theorem weff_blk {w : WOp} {d : Nat} {st st' : St} {y : AV} (h : weff w d st = some (y, st')) : ∀ b, b ∉ wblk w d st.ρ → st'.h b = st.h b := by
  intro b hb
  have ne : ∀ c, c ∈ wblk w d st.ρ → b ≠ c := fun c hc e => hb (e ▸ hc)
  cases w
  case alloc zs =>
    simp only [weff] at h
    split at h <;> cases h
    exact upd_ne _ _ (ne d (by simp [wblk]))
  case box x =>
    simp only [weff] at h
    split at h <;> cases h
    exact upd_ne _ _ (ne d (by simp [wblk]))
  case build z ps =>
    simp only [weff] at h
    obtain ⟨cs, hc, e⟩ := Option.map_eq_some_iff.1 h
    cases e; rfl
  case bsl sz len z ps =>
    simp only [weff] at h
    split at h <;> cases h
    exact upd_ne _ _ (ne d (by simp [wblk]))
  case store n p x =>
    simp only [weff] at h
    split at h <;> (try cases h)
    rename_i b' off xs hp hx
    split at h <;> (try cases h)
    split at h <;> cases h
    exact upd_ne _ _ (ne b' (by simp [wblk, hp]))
  case app sz bytes str sl x =>
    simp only [weff] at h
    split at h <;> (try cases h)
    split at h
    · split at h <;> cases h
      rename_i he hd hle
      exact upd_ne _ _ (ne d (by simp [wblk, he]))
    · rename_i b' off len sz' lim he hd
      split at h <;> (try cases h)
      split at h <;> cases h
      show upd (upd st.h b' (some none)) d _ b = _
      rw [upd_ne _ _ (ne d (by simp [wblk, he])), upd_ne _ _ (ne b' (by simp [wblk, he]))]
    · rename_i b' off len cap sz' he hd
      split at h <;> (try cases h)
      split at h <;> cases h
      exact upd_ne _ _ (ne b' (by simp [wblk, he]))
    · cases h
  case appz sz bytes zs sl k =>
    simp only [weff] at h
    split at h <;> (try cases h)
    split at h <;> (try cases h)
    split at h <;> cases h
    exact upd_ne _ _ (ne d (by simp [wblk]))
  case cpy sz t x =>
    simp only [weff] at h
    split at h <;> (try cases h)
    rename_i hd _
    split at h <;> (try cases h)
    split at h <;> cases h
    exact upd_ne _ _ (ne _ (by simp [wblk, hd]))
  case clr sz zs sl =>
    simp only [weff] at h
    split at h <;> (try cases h)
    rename_i hd
    split at h <;> (try cases h)
    split at h <;> cases h
    exact upd_ne _ _ (ne _ (by simp [wblk, hd]))
  case byt x =>
    simp only [weff] at h
    split at h <;> cases h
    rfl
  case fz x =>
    simp only [weff] at h
    split at h <;> (try cases h)
    rename_i b' len hv
    split at h <;> (try cases h)
    split at h <;> cases h
    exact upd_ne _ _ (ne b' (by simp [wblk, hv]))
  case mk sz bytes zs n c =>
    simp only [weff] at h
    split at h <;> (try cases h)
    split at h <;> cases h
    exact upd_ne _ _ (ne d (by simp [wblk]))
def exB : List (Md × AV) → List Nat
  | [] => []
  | (.ro, _) :: l => exB l
  | (_, .sl b _ _ _ _) :: l => b :: exB l
  | (_, .ref b _) :: l => b :: exB l
  | _ :: l => exB l
mutual
def instB : Nat → Nat → AV → List Nat
  | 0, _, _ => []
  | n + 1, d, x => match x with
    | .own .. => [d]
    | .io .. => [d]
    | .bx .. => [d]
    | .tup cs => instBL n (1000 * (d + 1)) cs
    | .agg cs => instBL n (1000 * (d + 1)) cs
    | _ => []
def instBL : Nat → Nat → List AV → List Nat
  | _, _, [] => []
  | 0, _, _ :: _ => []
  | n + 1, d, x :: l => instB n d x ++ instBL n (d + 1) l
end
mutual
theorem inst_blk : ∀ (n d : Nat) (x : AV) (st st' : St) (y : AV), inst n d x st = some (y, st') → ∀ b, b ∉ instB n d x → st'.h b = st.h b
  | 0, d, x, st, st', y, h => by simp [inst] at h
  | n + 1, d, x, st, st', y, h => by
    intro b hb
    cases x
    case own cs len sz =>
      simp only [inst] at h
      split at h <;> cases h
      exact upd_ne _ _ fun e => hb (by simp [instB, e])
    case io cs len sz =>
      simp only [inst] at h
      split at h <;> cases h
      exact upd_ne _ _ fun e => hb (by simp [instB, e])
    case bx cs =>
      simp only [inst] at h
      split at h <;> cases h
      exact upd_ne _ _ fun e => hb (by simp [instB, e])
    case tup cs =>
      simp only [inst] at h
      obtain ⟨⟨ys, s1⟩, h1, e⟩ := Option.map_eq_some_iff.1 h
      cases e
      exact instL_blk n _ cs st _ ys h1 b (by simpa [instB] using hb)
    case agg cs =>
      simp only [inst] at h
      obtain ⟨⟨ys, s1⟩, h1, e⟩ := Option.map_eq_some_iff.1 h
      cases e
      exact instL_blk n _ cs st _ ys h1 b (by simpa [instB] using hb)
    all_goals
      simp only [inst] at h
      split at h <;> cases h
      rfl
theorem instL_blk : ∀ (n d : Nat) (xs : List AV) (st st' : St) (ys : List AV), instL n d xs st = some (ys, st') → ∀ b, b ∉ instBL n d xs → st'.h b = st.h b
  | n, d, [], st, st', ys, h => by
    have : ys = [] ∧ st = st' := by cases n <;> simp [instL] at h <;> exact ⟨h.1, h.2⟩
    obtain ⟨rfl, rfl⟩ := this
    intro b _; rfl
  | 0, d, x :: xs, st, st', ys, h => by simp [instL] at h
  | n + 1, d, x :: xs, st, st', ys, h => by
    intro b hb
    unfold instL at h
    split at h <;> (try cases h)
    rename_i y st1 h1
    obtain ⟨⟨ys', s1⟩, h2, e⟩ := Option.map_eq_some_iff.1 h
    cases e
    simp only [instBL, List.mem_append, not_or] at hb
    rw [instL_blk n (d + 1) xs st1 _ ys' h2 b hb.2, inst_blk n d x st st1 y h1 b hb.1]
end
theorem ex1_blk {m : Md} {x : AV} {st st' : St} {y : Option AV} {bk : Option Nat} (h : ex1 m x st = some (y, bk, st')) : (∀ b, b ∉ exB [(m, x)] → st'.h b = st.h b) ∧ ∀ b, bk = some b → b ∈ exB [(m, x)] := by
  unfold ex1 at h
  split at h
  · cases h; exact ⟨fun _ _ => rfl, by simp⟩
  · split at h
    · cases h; exact ⟨fun _ _ => rfl, by simp⟩
    · split at h <;> (try cases h)
      split at h <;> cases h
      exact ⟨fun b hb => upd_ne _ _ fun e => hb (by simp [exB, e]), by simp⟩
    · cases h
  · cases h
  · split at h
    · split at h <;> (try cases h)
      split at h <;> cases h
      exact ⟨fun b hb => upd_ne _ _ fun e => hb (by simp [exB, e]), fun b e => by cases e; simp [exB]⟩
    · split at h <;> (try cases h)
      split at h <;> cases h
      exact ⟨fun b hb => upd_ne _ _ fun e => hb (by simp [exB, e]), fun b e => by cases e; simp [exB]⟩
    · cases h
theorem exB_cons (p : Md × AV) (l : List (Md × AV)) : exB (p :: l) = exB [p] ++ exB l := by
  obtain ⟨m, x⟩ := p
  cases m <;> cases x <;> simp [exB]
theorem exL_blk : ∀ (l : List (Md × AV)) (st st' : St) (r : List (Option AV × Option Nat)), exL l st = some (r, st') → (∀ b, b ∉ exB l → st'.h b = st.h b) ∧ ∀ x ∈ r, ∀ b, x.2 = some b → b ∈ exB l
  | [], st, st', r, h => by simp only [exL, Option.some.injEq, Prod.mk.injEq] at h; obtain ⟨rfl, rfl⟩ := h; exact ⟨fun _ _ => rfl, by simp⟩
  | (m, x) :: l, st, st', r, h => by
    unfold exL at h
    split at h <;> (try cases h)
    rename_i y bk st1 h1
    obtain ⟨⟨r', st''⟩, h2, e⟩ := Option.map_eq_some_iff.1 h
    cases e
    obtain ⟨a1, a2⟩ := ex1_blk h1
    obtain ⟨b1, b2⟩ := exL_blk l st1 _ r' h2
    rw [exB_cons]
    refine ⟨fun b hb => ?_, fun z hz b hb => ?_⟩
    · simp only [List.mem_append, not_or] at hb
      exact (b1 b hb.2).trans (a1 b hb.1)
    · rcases List.mem_cons.1 hz with rfl | hz
      · exact List.mem_append.2 (.inl (a2 b hb))
      · exact List.mem_append.2 (.inr (b2 z hz b hb))
theorem backL_blk : ∀ (r : List (Option AV × Option Nat)) (outs : List AV) (st st' : St), backL r outs st = some st' → ∀ b, (∀ x ∈ r, x.2 ≠ some b) → st'.h b = st.h b
  | [], [], st, st', h => by simp only [backL, Option.some.injEq] at h; subst h; intro _ _; rfl
  | (y, none) :: r, o :: outs, st, st', h => by
    simp only [backL] at h
    exact fun b hb => backL_blk r outs st st' h b fun x hx => hb x (List.mem_cons_of_mem _ hx)
  | (y, some b') :: r, o :: outs, st, st', h => by
    intro b hb
    have hne : b ≠ b' := fun e => hb _ (List.mem_cons_self ..) (by rw [e])
    unfold backL at h
    split at h
    · split at h <;> (try cases h)
      rw [backL_blk r outs _ st' h b fun x hx => hb x (List.mem_cons_of_mem _ hx)]
      exact upd_ne _ _ hne
    · split at h <;> (try cases h)
      rw [backL_blk r outs _ st' h b fun x hx => hb x (List.mem_cons_of_mem _ hx)]
      exact upd_ne _ _ hne
    · cases h
  | [], _ :: _, st, st', h => by simp [backL] at h
  | (_, none) :: _, [], st, st', h => by simp [backL] at h
  | (_, some _) :: _, [], st, st', h => by simp [backL] at h
section
variable {P : Program} {p : List Nat}
def callW (P : Program) (fx : AX) (xs : List AX) (st : St) (E : List Nat) (y : AV) (st3 : St) : Prop :=
  ∃ (f : FuncId) (caps : List AV) (ms : List Md) (fl : List (Md × AV)) (r : List (Option AV × Option Nat)) (st1 : St) (yl ys : List AV) (ret : AV) (outs ol : List AV) (st2 : St) (d : Nat), fx.ev st.ρ = .clo f caps ∧ callB P f = true ∧ ms.length = xs.length + caps.length ∧
    flatL (ms.zip (xs.map (·.ev st.ρ) ++ caps)) = some fl ∧ exL fl st = some (r, st1) ∧ shutArgs st1.h fl r = some yl ∧ asm ms yl = some ys ∧ Ret P f ys ret outs ∧ outF ms outs = some ol ∧ ((flt ret = true ∧ flt.fltL ol = true) ∨ closedB fl r = true) ∧ backL r ol st1 = some st2 ∧ inst 64 d ret st2 = some (y, st3) ∧
    (exB fl ++ instB 64 d ret).all (fun b => E.elem b) = true
def valO (P : Program) (o : AO) (d : Option Nat) (E : List Nat) (st : St) (y : AV) (st' : St) : Prop :=
  match o with
  | .q q => aval q st.ρ st.h = some y ∧ st' = st
  | .w w => weff w (d.getD 0) st = some (y, st') ∧ (wblk w (d.getD 0) st.ρ).all (fun b => E.elem b) = true
  | .c f xs => callW P f xs st E y st'
  | .n .. => False
def valU (P : Program) (o : AOp) (E : List Nat) (st : St) (y : AV) (st' : St) : Prop :=
  match o.g with
  | none => valO P o.o o.d E st y st'
  | some (t, want) => match wantA (st.ρ t) want with
    | some b => if b then valO P o.o o.d E st y st' else y = .tup [] ∧ st' = st
    | none => False
theorem valO_sim {o : AO} {d : Option Nat} {E A : List Nat} {st st' st2 : St} {y : AV} (s : HS A st.h st2.h) (hr : ∀ t ∈ rdD o, st2.ρ t = st.ρ t) (h : valO P o d E st y st') : ∃ st2', valO P o d E st2 y st2' ∧ Ou A st st' st2 st2' := by
  unfold valO at h ⊢
  cases o with
  | q q =>
    simp only at h ⊢
    obtain ⟨h1, rfl⟩ := h
    exact ⟨st2, ⟨aval_sim s ((aval_same (fun t ht => hr t (by simpa [rdD] using ht))).trans h1), rfl⟩, Ou.refl s⟩
  | w w =>
    simp only at h ⊢
    obtain ⟨h1, h2⟩ := h
    have hr' : ∀ t ∈ rdW w, st2.ρ t = st.ρ t := fun t ht => hr t (by simpa [rdD] using ht)
    obtain ⟨s2, e, o⟩ := weff_sim s hr' h1
    refine ⟨s2, ⟨e, ?_⟩, o⟩
    have : wblk w (d.getD 0) st2.ρ = wblk w (d.getD 0) st.ρ := by
      cases w <;> simp only [rdW, List.mem_append, or_imp, forall_and] at hr' <;> simp only [wblk]
      case store n p x => rw [ev_same hr'.1]
      case app sz b str sl x => rw [ev_same hr'.1]
      case cpy sz t x => rw [ev_same hr'.1]
      case clr sz z t => rw [ev_same hr']
      case fz x => rw [ev_same hr']
    rw [this]; exact h2
  | c fx xs =>
    simp only at h ⊢
    obtain ⟨f, caps, ms, fl, r, st1, yl, ys, ret, outs, ol, sb, dd, h1, h2, h3, ha, h4, h5, hb, h6, hc, h7, h8, h9, h10⟩ := h
    have hf : fx.ev st2.ρ = fx.ev st.ρ := ev_same fun t ht => hr t (by simp [rdD, ht])
    have hx : xs.map (·.ev st2.ρ) = xs.map (·.ev st.ρ) := evL_same fun t ht => hr t (by simp [rdD, ht])
    obtain ⟨s1, e1, o1, n1⟩ := exL_sim _ st st1 st2 r s h4
    have e2 := shutArgs_sim o1.hs _ _ _ h5
    obtain ⟨s2, e3, o2⟩ := backL_sim r ol st1 sb s1 o1.hs n1 h8
    obtain ⟨s3, e4, o3⟩ := inst_sim 64 dd ret sb st' s2 y o2.hs h9
    exact ⟨s3, ⟨f, caps, ms, fl, r, s1, yl, ys, ret, outs, ol, s2, dd, hf.trans h1, h2, h3, by rw [hx]; exact ha, e1, e2, hb, h6, hc, h7, e3, e4, h10⟩, (o1.trans o2).trans o3⟩
  | n neg x => exact h.elim
theorem valO_blk {o : AO} {d : Option Nat} {E : List Nat} {st st' : St} {y : AV} (h : valO P o d E st y st') : ∀ b, b ∉ E → st'.h b = st.h b := by
  intro b hb
  unfold valO at h
  cases o with
  | q q => obtain ⟨_, rfl⟩ := h; rfl
  | w w =>
    obtain ⟨h1, h2⟩ := h
    exact weff_blk h1 b fun hm => hb (by simpa using List.all_eq_true.1 h2 b hm)
  | c fx xs =>
    obtain ⟨f, caps, ms, fl, r, st1, yl, ys, ret, outs, ol, sb, dd, h1, h2, h3, ha, h4, h5, hb', h6, hc, h7, h8, h9, h10⟩ := h
    have hall : ∀ c, c ∈ exB fl ∨ c ∈ instB 64 dd ret → b ≠ c := fun c hc e => hb (by
      have := List.all_eq_true.1 h10 c (List.mem_append.2 hc)
      rw [e]; simpa using this)
    obtain ⟨a1, a2⟩ := exL_blk _ _ _ _ h4
    rw [inst_blk 64 dd ret sb st' y h9 b fun hm => hall b (.inr hm) rfl, backL_blk r ol st1 sb h8 b fun x hx e => hall b (.inl (a2 x hx b e)) rfl, a1 b fun hm => hall b (.inl hm) rfl]
  | n neg x => exact h.elim
theorem valU_sim {o : AOp} {E A : List Nat} {st st' st2 : St} {y : AV} (s : HS A st.h st2.h) (hr : ∀ t ∈ rdG o.g ++ rdD o.o, st2.ρ t = st.ρ t) (h : valU P o E st y st') : ∃ st2', valU P o E st2 y st2' ∧ Ou A st st' st2 st2' := by
  have hr' : ∀ t ∈ rdD o.o, st2.ρ t = st.ρ t := fun t ht => hr t (List.mem_append.2 (.inr ht))
  unfold valU at h ⊢
  split at h
  · rename_i hg; rw [hg] at hr
    exact valO_sim s hr' h
  · rename_i t want hg
    rw [hr t (by simp [hg, rdG])]
    split at h
    · rename_i b hb
      cases b
      · rw [if_neg (by simp)] at h
        obtain ⟨rfl, rfl⟩ := h
        exact ⟨st2, by rw [if_neg (by simp)]; exact ⟨rfl, rfl⟩, Ou.refl s⟩
      · rw [if_pos rfl] at h
        obtain ⟨s2, e, o⟩ := valO_sim s hr' h
        exact ⟨s2, by rw [if_pos rfl]; exact e, o⟩
    · exact h.elim
theorem valU_blk {o : AOp} {E : List Nat} {st st' : St} {y : AV} (h : valU P o E st y st') : ∀ b, b ∉ E → st'.h b = st.h b := by
  unfold valU at h
  split at h
  · exact valO_blk h
  · split at h
    · split at h
      · exact valO_blk h
      · obtain ⟨_, rfl⟩ := h; exact fun _ _ => rfl
    · exact h.elim
theorem valU_opK {o : AOp} {E : List Nat} {st st' : St} {y : AV} (h : valU P o E st y st') (hn : st'.n = st.n) (hd : dOk p o.d st.n = true) : opK P p o st (fun s => s = st'.setO o.d y) := by
  have key : valO P o.o o.d E st y st' → doK P p o.o o.d st (fun s => s = st'.setO o.d y) := fun h => by
    unfold valO at h
    unfold doK
    split at h
    · rename_i q hq
      rw [hq]
      simp only
      obtain ⟨h1, rfl⟩ := h
      rw [h1]
      exact And.intro hd rfl
    · rename_i w hq
      rw [hq]
      simp only
      rw [h.1]
      exact And.intro (by rw [hn]; exact hd) rfl
    · rename_i f xs hq
      rw [hq]
      simp only
      obtain ⟨f', caps, ms, fl, r, st1, yl, ys, ret, outs, ol, sb, dd, h1, h2, h3, ha, h4, h5, hb, h6, hc, h7, h8, h9, h10⟩ := h
      exact .inl ⟨f', caps, ms, fl, r, st1, yl, ys, ret, outs, ol, sb, st', y, dd, h1, h2, h3, ha, h4, h5, hb, h6, hc, h7.imp id .inr, h8, h9, by rw [hn]; exact hd, rfl⟩
    · exact h.elim
  unfold valU at h
  unfold opK
  split at h
  · rename_i hg; rw [hg]; exact key h
  · rename_i t want hg
    rw [hg]
    simp only
    split at h
    · rename_i b hb
      rw [hb]
      cases b
      · rw [if_neg (by simp)] at h
        obtain ⟨rfl, rfl⟩ := h
        exact And.intro (fun e => absurd e (by decide)) (fun _ => And.intro hd rfl)
      · exact And.intro (fun _ => key h) (fun e => absurd e (by decide))
    · exact h.elim
def textW (P : Program) : List AOp → List (List Nat × List Nat) → St → (St → Prop) → Prop
  | [], _, st, K => K st
  | o :: l, e :: es, st, K => ∃ y st', valU P o e.1 ⟨st.ρ, hideH e.2 st.h, st.n⟩ y st' ∧ textW P l es ((⟨st.ρ, merge e.2 st.h st'.h, st.n⟩ : St).setO o.d y) K
  | _ :: _, [], _, _ => False
theorem setO_h (st : St) (d : Option Nat) (x : AV) : (st.setO d x).h = st.h := by cases d <;> rfl
theorem setO_n (st : St) (d : Option Nat) (x : AV) : (st.setO d x).n = st.n := by cases d <;> rfl
theorem textW_walk {K : St → Prop} : ∀ (l : List AOp) (es : List (List Nat × List Nat)) (st : St), textW P l es st K → ∃ S : Nat → St, S 0 = st ∧ K (S l.length) ∧ ∀ (i : Nat) (o : AOp), l[i]? = some o →
    ∃ e y st', es[i]? = some e ∧ valU P o e.1 ⟨(S i).ρ, hideH e.2 (S i).h, (S i).n⟩ y st' ∧ S (i + 1) = (⟨(S i).ρ, merge e.2 (S i).h st'.h, (S i).n⟩ : St).setO o.d y
  | [], es, st, h => ⟨fun _ => st, rfl, h, by simp⟩
  | o :: l, [], st, h => h.elim
  | o :: l, e :: es, st, h => by
    obtain ⟨y, st', h1, h2⟩ := h
    obtain ⟨S, s0, sK, hs⟩ := textW_walk l es _ h2
    refine ⟨fun i => match i with | 0 => st | i + 1 => S i, rfl, sK, fun i o' hi => ?_⟩
    cases i with
    | zero =>
      simp only [List.getElem?_cons_zero, Option.some.injEq] at hi
      subst hi
      exact ⟨e, y, st', rfl, h1, s0⟩
    | succ i =>
      simp only [List.getElem?_cons_succ] at hi
      exact hs i o' hi
def predsL (l : List (List Nat)) : List (List Nat) := l.foldl (fun acc bs => acc ++ [bs ++ (bs.map fun j => acc.getD j []).flatten]) []
def ordB (l : List (AOp × List Nat)) (ps : List (List Nat)) (es : List (List Nat × List Nat)) : Bool :=
  (List.range l.length).all fun i => match l[i]? with
    | none => true
    | some (o, bs) => bs.all (fun j => decide (j < i)) && (ps.getD i []).all (fun j => bs.contains j || bs.any fun k => (ps.getD k []).contains j) &&
      (List.range l.length).all fun j => match l[j]? with
        | none => true
        | some (o', _) => j == i ||
            (match o'.d with | none => true | some t => o.d != some t && (!(rdG o.g ++ rdD o.o).contains t || (bs.contains j || (ps.getD j []).contains i))) &&
            ((ps.getD i []).contains j || (ps.getD j []).contains i || (es.getD j ([], [])).1.all fun b => (es.getD i ([], [])).2.contains b)
structure OrdAt (l : List (AOp × List Nat)) (ps : List (List Nat)) (es : List (List Nat × List Nat)) (i : Nat) (o : AOp) (bs : List Nat) : Prop where
  low : ∀ j ∈ bs, j < i
  pre : ∀ j ∈ ps.getD i [], j ∈ bs ∨ ∃ k ∈ bs, j ∈ ps.getD k []
  other : ∀ (j : Nat) (o' : AOp) (bs' : List Nat), l[j]? = some (o', bs') → j ≠ i → (∀ t, o'.d = some t → o.d ≠ some t ∧ (t ∈ rdG o.g ++ rdD o.o → j ∈ bs ∨ i ∈ ps.getD j [])) ∧
    (j ∈ ps.getD i [] ∨ i ∈ ps.getD j [] ∨ ∀ b ∈ (es.getD j ([], [])).1, b ∈ (es.getD i ([], [])).2)
theorem ord_at {l : List (AOp × List Nat)} {ps : List (List Nat)} {es : List (List Nat × List Nat)} (h : ordB l ps es = true) {i : Nat} {o : AOp} {bs : List Nat} (hi : l[i]? = some (o, bs)) : OrdAt l ps es i o bs := by
  have hlt := (List.getElem?_eq_some_iff.1 hi).1
  unfold ordB at h
  have h1 := List.all_eq_true.1 h i (List.mem_range.2 hlt)
  rw [hi] at h1
  simp only [Bool.and_eq_true] at h1
  obtain ⟨⟨h2, h3⟩, h4⟩ := h1
  refine ⟨fun j hj => by simpa using List.all_eq_true.1 h2 j hj, fun j hj => ?_, fun j o' bs' hj hne => ?_⟩
  · have := List.all_eq_true.1 h3 j hj
    simp only [Bool.or_eq_true, List.contains_iff_mem, List.any_eq_true] at this
    exact this
  · have := List.all_eq_true.1 h4 j (List.mem_range.2 (List.getElem?_eq_some_iff.1 hj).1)
    rw [hj] at this
    simp only [Bool.or_eq_true, beq_iff_eq, hne, false_or, Bool.and_eq_true, List.contains_iff_mem] at this
    obtain ⟨k1, k2⟩ := this
    refine ⟨fun t ht => ?_, ?_⟩
    · rw [ht] at k1
      simp only [Bool.and_eq_true, bne_iff_ne, ne_eq, Bool.or_eq_true, Bool.not_eq_true', List.contains_iff_mem] at k1
      refine ⟨k1.1, fun hm => k1.2.resolve_left fun hf => ?_⟩
      rw [← List.contains_iff_mem] at hm
      rw [hm] at hf; cases hf
    · rcases k2 with (k2 | k2) | k2
      · exact .inl k2
      · exact .inr (.inl k2)
      · exact .inr (.inr fun b hb => by simpa using List.all_eq_true.1 k2 b hb)
def mixH (listed : Array Bool) (es : List (List Nat × List Nat)) (S : Nat → St) : Nat → Hp
  | 0 => (S 0).h
  | i + 1 => fun b => if listed.getD i false = true ∧ b ∈ (es.getD i ([], [])).1 ∧ b ∉ (es.getD i ([], [])).2 then (S (i + 1)).h b else mixH listed es S i b
theorem T.anyP {l : List (AOp × List Nat)} {st : St} {Q : AE → St → Prop} (ps : List (List Nat)) (es : List (List Nat × List Nat)) (hm : P.follows .mixedOrders = true) (hs : ordB l ps es = true) (hd : (l.all fun x => dOk p x.1.d st.n) = true)
    (hK : textW P (l.map (·.1)) es st (Q .normal)) : T P p (.any l) st Q := by
  obtain ⟨S, rfl, hKS, hS⟩ := textW_walk _ _ _ hK
  simp only [List.length_map] at hKS
  have hS' : ∀ (i : Nat) (o : AOp) (bs : List Nat), l[i]? = some (o, bs) → ∃ y st', valU P o (es.getD i ([], [])).1 ⟨(S i).ρ, hideH (es.getD i ([], [])).2 (S i).h, (S i).n⟩ y st' ∧ S (i + 1) = (⟨(S i).ρ, merge (es.getD i ([], [])).2 (S i).h st'.h, (S i).n⟩ : St).setO o.d y := fun i o bs hi => by
    obtain ⟨e, y, st', h1, h2, h3⟩ := hS i o (by simp [hi])
    have : es.getD i ([], []) = e := by rw [List.getD_eq_getElem?_getD, h1]; rfl
    rw [this]
    exact ⟨y, st', h2, h3⟩
  clear hS
  -- the states of the text
  have hn : ∀ i, i ≤ l.length → (S i).n = (S 0).n := by
    intro i
    induction i with
    | zero => intro _; rfl
    | succ i ih =>
      intro hi
      obtain ⟨y, st', _, h2⟩ := hS' i _ _ (List.getElem?_eq_getElem (by omega))
      rw [h2, setO_n]
      exact ih (by omega)
  have hh : ∀ i b, i < l.length → ¬ (b ∈ (es.getD i ([], [])).1 ∧ b ∉ (es.getD i ([], [])).2) → (S (i + 1)).h b = (S i).h b := by
    intro i b hi hb
    obtain ⟨y, st', h1, h2⟩ := hS' i _ _ (List.getElem?_eq_getElem hi)
    rw [h2, setO_h]
    show merge _ _ _ b = _
    unfold merge
    split
    · rfl
    · rename_i hA
      have hA : b ∉ (es.getD i ([], [])).2 := by simpa using hA
      have := valU_blk h1 b fun hE => hb ⟨hE, hA⟩
      rw [this]
      show hideH _ _ b = _
      unfold hideH
      rw [if_neg (by simpa using hA)]
  have hρ : ∀ i j t, i ≤ j → j ≤ l.length → (∀ (k : Nat) (o : AOp) (bs : List Nat), i ≤ k → k < j → l[k]? = some (o, bs) → o.d ≠ some t) → (S j).ρ t = (S i).ρ t := by
    intro i j t hij
    induction j with
    | zero => intro _ _; cases i with | zero => rfl | succ i => omega
    | succ j ih =>
      intro hj hk
      by_cases e : i = j + 1
      · subst e; rfl
      · obtain ⟨⟨o, bs⟩, hg⟩ : ∃ x, l[j]? = some x := ⟨_, List.getElem?_eq_getElem (by omega)⟩
        obtain ⟨y, st', _, h2⟩ := hS' j o bs hg
        rw [h2]
        have hne := hk j o bs (by omega) (by omega) hg
        have : ((⟨(S j).ρ, merge (es.getD j ([], [])).2 (S j).h st'.h, (S j).n⟩ : St).setO o.d y).ρ t = (S j).ρ t := by
          cases hd' : o.d with
          | none => rfl
          | some d =>
            show upd _ d y t = _
            rw [upd_ne]
            intro e; exact hne (by rw [e]; exact hd')
        rw [this]
        exact ih (by omega) (by omega) fun k o bs a b c => hk k o bs a (by omega) c
  have hρd : ∀ (i : Nat) (o : AOp) (bs : List Nat) (y : AV) (st' : St), l[i]? = some (o, bs) → S (i + 1) = (⟨(S i).ρ, merge (es.getD i ([], [])).2 (S i).h st'.h, (S i).n⟩ : St).setO o.d y → ∀ d, o.d = some d → (S l.length).ρ d = y := by
    intro i o bs y st' hi h2 d hdo
    have hlt := (List.getElem?_eq_some_iff.1 hi).1
    rw [hρ (i + 1) l.length d (by omega) (Nat.le_refl _) fun k o' bs' a b c e => (((ord_at hs c).other i o bs hi (by omega)).1 d hdo).1 e, h2, hdo]
    show upd _ d y d = y
    rw [upd_same]
  intro code hc E a w QQ hsr hq
  cases code <;> simp only [comp, Option.map_eq_some_iff, Option.bind_eq_some_iff, Option.some.injEq, reduceCtorEq, and_false, exists_false] at hc
  rename_i id os dr
  split at hc
  case isFalse =>
    split at hc
    · cases hc
    · obtain ⟨_, _, e⟩ := Option.map_eq_some_iff.1 hc; cases e
  obtain ⟨l', hl, e⟩ := Option.map_eq_some_iff.1 hc
  cases e
  rename_i hdr
  obtain rfl : dr = true := hdr
  obtain ⟨hlen, hget⟩ := mapM_get hl
  have hat : ∀ (j : Nat) (o : AOp) (bs : List Nat), l[j]? = some (o, bs) → ∃ x, os[j]? = some x ∧ aop P os.toList x = some o ∧ befores x = bs := fun j o bs hj => by
    obtain ⟨x, hx, e⟩ := hget j _ hj
    obtain ⟨o', ho', e⟩ := Option.map_eq_some_iff.1 e
    cases e
    exact ⟨x, by simpa using hx, ho', rfl⟩
  have hsz : l.length = os.size := by rw [hlen]; simp
  have hln : ∀ i, i < os.size → ∃ o bs, l[i]? = some (o, bs) := fun i hi => ⟨_, _, List.getElem?_eq_getElem (by omega)⟩
  refine wp_region_any hm ?_
  let mix : Array Bool → St := fun listed => ⟨mixρ l listed (S 0).ρ (S l.length).ρ, mixH listed es S l.length, (S 0).n⟩
  have main : ∀ (fuel : Nat) (listed : Array Bool) (a' : Act) (w' : World), listed.size = os.size → ((List.range os.size).filter fun i => !listed.getD i true).length ≤ fuel →
      SR E (mix listed) a'.tmps w' → Fr p a a' → (∀ i o bs, l[i]? = some (o, bs) → listed.getD i false = true → ∀ b ∈ bs, listed.getD b false = true) → wpAny P .any os QQ fuel listed a' w' := by
    intro fuel
    have hend : ∀ (listed : Array Bool) (a' : Act) (w' : World), listed.size = os.size → (∀ i, i < os.size → listed.getD i true = true) → SR E (mix listed) a'.tmps w' → Fr p a a' → QQ .normal a' w' := by
      intro listed a' w' hls hall hsr' hfr
      have hall' : ∀ i, i < l.length → listed.getD i false = true := fun i hi => by
        have := hall i (by omega)
        rw [getD_in (by omega)] at this ⊢
        exact this
      have e1 : mixρ l listed (S 0).ρ (S l.length).ρ = (S l.length).ρ := by
        funext t
        unfold mixρ
        split
        · rfl
        · rename_i hnn
          refine (hρ 0 l.length t (by omega) (Nat.le_refl _) fun k o bs _ hk hx e => hnn ⟨k, o, bs, hx, hall' k hk, e⟩).symm
      have e2 : mixH listed es S l.length = (S l.length).h := by
        have : ∀ i, i ≤ l.length → mixH listed es S i = (S i).h := by
          intro i
          induction i with
          | zero => intro _; rfl
          | succ i ih =>
            intro hi
            funext b
            simp only [mixH, hall' i (by omega), true_and]
            split
            · rfl
            · rename_i hb; rw [ih (by omega)]; exact (hh i b (by omega) hb).symm
        exact this _ (Nat.le_refl _)
      have : mix listed = S l.length := by
        show St.mk _ _ _ = _
        rw [e1, e2, ← hn l.length (Nat.le_refl _)]
      rw [this] at hsr'
      exact hq .normal _ a' w' hKS hsr' hfr
    have hready : ∀ (listed : Array Bool), listed.size = os.size → Region.ready .any os listed = [] → ∀ i, i < os.size → listed.getD i true = true := by
      intro listed hls hr i
      induction i using Nat.strongRecOn with
      | _ i ih =>
        intro hi
        cases hli : listed.getD i true with
        | true => rfl
        | false =>
          obtain ⟨o, bs, hl1⟩ := hln i hi
          obtain ⟨x, hx, hax, hbx⟩ := hat i o bs hl1
          have : i ∈ Region.ready .any os listed := mem_ready.2 ⟨hli, x, hx, fun e he hbi => by
            have hmem : e.on ∈ bs := by
              rw [← hbx]
              exact List.mem_map.2 ⟨e, List.mem_filter.2 ⟨by simpa using he, hbi⟩, rfl⟩
            have hlt := (ord_at hs hl1).low _ hmem
            have := ih e.on hlt (by omega)
            rw [getD_in (by omega)] at this ⊢
            exact this⟩
          rw [hr] at this
          cases this
    induction fuel with
    | zero =>
      intro listed a' w' hls hcnt hsr' hfr hdown
      have hall : ∀ i, i < os.size → listed.getD i true = true := fun i hi => by
        cases hli : listed.getD i true with
        | true => rfl
        | false =>
          have : i ∈ (List.range os.size).filter fun i => !listed.getD i true := List.mem_filter.2 ⟨List.mem_range.2 hi, by rw [hli]; rfl⟩
          rw [List.length_eq_zero_iff.1 (Nat.le_zero.1 hcnt)] at this
          cases this
      refine ⟨?_, hend listed a' w' hls hall hsr' hfr⟩
      rw [List.eq_nil_iff_forall_not_mem]
      intro i hi
      obtain ⟨h1, x, hx, _⟩ := mem_ready.1 hi
      rw [hall i (Array.getElem?_eq_some_iff.1 hx).1] at h1
      cases h1
    | succ fuel ih =>
      intro listed a' w' hls hcnt hsr' hfr hdown
      refine ⟨fun hr => hend listed a' w' hls (hready listed hls hr) hsr' hfr, fun i hi => ?_⟩
      obtain ⟨hli, x, hx, hbef⟩ := mem_ready.1 hi
      have hio : i < os.size := (Array.getElem?_eq_some_iff.1 hx).1
      have hli' : listed.getD i false = false := by rw [getD_in (by omega)] at hli ⊢; exact hli
      obtain ⟨o, bs, hl1⟩ := hln i hio
      obtain ⟨x', hx', hax, hbx⟩ := hat i o bs hl1
      obtain rfl : x = x' := by rw [hx] at hx'; exact Option.some.inj hx'
      have hbs : ∀ b ∈ bs, listed.getD b false = true := fun b hb => by
        rw [← hbx] at hb
        obtain ⟨e, he, rfl⟩ := List.mem_map.1 hb
        obtain ⟨he1, he2⟩ := List.mem_filter.1 he
        exact hbef e (by simpa using he1) he2
      have O := ord_at hs hl1
      -- all that stands before one that is done is done
      have hpre : ∀ k o' bs', l[k]? = some (o', bs') → (∀ b ∈ bs', listed.getD b false = true) → ∀ j ∈ ps.getD k [], listed.getD j false = true := by
        intro k
        induction k using Nat.strongRecOn with
        | _ k ihk =>
          intro o' bs' hk hbk j hj
          have Ok := ord_at hs hk
          rcases Ok.pre j hj with h | ⟨m, hm', hjm⟩
          · exact hbk j h
          · have hmk := Ok.low m hm'
            have hmg := List.getElem?_eq_getElem (l := l) (i := m) (by have := (List.getElem?_eq_some_iff.1 hk).1; omega)
            exact ihk m hmk _ _ hmg (hdown m _ _ hmg (hbk m hm')) j hjm
      have hpi := hpre i o bs hl1 hbs
      have hil : i < l.length := by omega
      -- one that has no order with this one touches what this one does not see
      have hfree : ∀ k o' bs', l[k]? = some (o', bs') → k ≠ i → (listed.getD k false = true → i < k) → (listed.getD k false = false → k < i) → ∀ b ∈ (es.getD k ([], [])).1, b ∈ (es.getD i ([], [])).2 := by
        intro k o' bs' hk hne h1 h2
        rcases (O.other k o' bs' hk hne).2 with h | h | h
        · have hlk := hpi k h
          have hki : k < i := by
            have : ∀ (m : Nat) (o : AOp) (bs : List Nat), l[m]? = some (o, bs) → ∀ j ∈ ps.getD m [], j < m := by
              intro m
              induction m using Nat.strongRecOn with
              | _ m ihm =>
                intro o bs hm j hj
                have Om := ord_at hs hm
                rcases Om.pre j hj with h | ⟨q, hq', hjq⟩
                · exact Om.low j h
                · have hqm := Om.low q hq'
                  have := ihm q hqm _ _ (List.getElem?_eq_getElem (l := l) (i := q) (by have := (List.getElem?_eq_some_iff.1 hm).1; omega)) j hjq
                  omega
            exact this i o bs hl1 k h
          have := h1 hlk; omega
        · exfalso
          cases hlk : listed.getD k false with
          | true =>
            have := hpre k o' bs' hk (hdown k o' bs' hk hlk) i h
            rw [hli'] at this; cases this
          | false =>
            have hki := h2 hlk
            have : ∀ (m : Nat) (o : AOp) (bs : List Nat), l[m]? = some (o, bs) → ∀ j ∈ ps.getD m [], j < m := by
              intro m
              induction m using Nat.strongRecOn with
              | _ m ihm =>
                intro o bs hm j hj
                have Om := ord_at hs hm
                rcases Om.pre j hj with h | ⟨q, hq', hjq⟩
                · exact Om.low j h
                · have hqm := Om.low q hq'
                  have := ihm q hqm _ _ (List.getElem?_eq_getElem (l := l) (i := q) (by have := (List.getElem?_eq_some_iff.1 hm).1; omega)) j hjq
                  omega
            have := this k o' bs' hk i h
            omega
        · exact h
      have hlowH : ∀ k b, k ≤ i → b ∉ (es.getD i ([], [])).2 → mixH listed es S k b = (S k).h b := by
        intro k
        induction k with
        | zero => intro b _ _; rfl
        | succ k ihk =>
          intro b hk hb
          simp only [mixH]
          split
          · rfl
          · rename_i hc
            rw [ihk b (by omega) hb]
            refine (hh k b (by omega) fun hE => hc ⟨?_, hE⟩).symm
            cases hlk : listed.getD k false with
            | true => rfl
            | false =>
              exact absurd (hfree k _ _ (List.getElem?_eq_getElem (by omega)) (by omega) (fun h => by rw [hlk] at h; cases h) (fun _ => by omega) b hE.1) hb
      have hupH : ∀ k b, i ≤ k → k ≤ l.length → b ∉ (es.getD i ([], [])).2 → mixH listed es S k b = mixH listed es S i b := by
        intro k
        induction k with
        | zero => intro b hk _ _; cases i with | zero => rfl | succ i => omega
        | succ k ihk =>
          intro b hk hkl hb
          by_cases e : i = k + 1
          · subst e; rfl
          simp only [mixH]
          split
          · rename_i hc
            by_cases e' : k = i
            · subst e'; rw [hli'] at hc; cases hc.1
            · exact absurd (hfree k _ _ (List.getElem?_eq_getElem (by omega)) e' (fun _ => by omega) (fun h => by rw [hc.1] at h; cases h) b hc.2.1) hb
          · exact ihk b (by omega) (by omega) hb
      obtain ⟨y, st', hv, hnext⟩ := hS' i o bs hl1
      generalize hEA : es.getD i ([], []) = ea at *
      have hHS : HS ea.2 (⟨(S i).ρ, hideH ea.2 (S i).h, (S i).n⟩ : St).h (mix listed).h := by
        refine ⟨fun b hb => ?_, fun b hb => ?_⟩
        · show mixH listed es S l.length b = hideH ea.2 (S i).h b
          rw [hupH l.length b (by omega) (Nat.le_refl _) hb, hlowH i b (Nat.le_refl _) hb]
          unfold hideH
          rw [if_neg (by simpa using hb)]
        · show hideH ea.2 (S i).h b = _
          unfold hideH
          rw [if_pos (by simpa using hb)]
      obtain ⟨st2, hv2, ou⟩ := valU_sim (st2 := mix listed) hHS (fun t ht => by
        show mixρ l listed (S 0).ρ (S l.length).ρ t = (S i).ρ t
        unfold mixρ
        split
        · rename_i hex
          obtain ⟨j, o', bs', e1, e2, e3⟩ := hex
          have hji : j ≠ i := fun e => by subst e; rw [hli'] at e2; cases e2
          have hjb : j ∈ bs := (((O.other j o' bs' e1 hji).1 t e3).2 ht).resolve_right fun hij => by
            have := hpre j o' bs' e1 (hdown j o' bs' e1 e2) i hij
            rw [hli'] at this; cases this
          have hjlt := O.low j hjb
          exact hρ i l.length t (by omega) (Nat.le_refl _) fun k o2 bs2 a b c e => by
            have hkj : k ≠ j := by omega
            exact (((ord_at hs c).other j o' bs' e1 (by omega)).1 t e3).1 e
        · rename_i hnn
          refine (hρ 0 i t (by omega) (by omega) fun k o2 bs2 _ b c e => ?_).symm
          have hki : k ≠ i := by omega
          exact hnn ⟨k, o2, bs2, c, hbs k ((((O.other k o2 bs2 c hki).1 t e).2 ht).resolve_right fun hik => by
            have hps : ∀ (m : Nat) (o : AOp) (bs : List Nat), l[m]? = some (o, bs) → ∀ j ∈ ps.getD m [], j < m := by
              intro m
              induction m using Nat.strongRecOn with
              | _ m ihm =>
                intro o bs hm j hj
                have Om := ord_at hs hm
                rcases Om.pre j hj with h | ⟨q, hq', hjq⟩
                · exact Om.low j h
                · have hqm := Om.low q hq'
                  have := ihm q hqm _ _ (List.getElem?_eq_getElem (l := l) (i := q) (by have := (List.getElem?_eq_some_iff.1 hm).1; omega)) j hjq
                  omega
            have := hps k o2 bs2 c i hik
            omega), e⟩) hv
      have hdk : dOk p o.d (S 0).n = true := List.all_eq_true.1 hd (o, bs) (List.mem_of_getElem? hl1)
      have hil2 : i < listed.size := by omega
      have hst2 : st2.setO o.d y = mix (listed.setIfInBounds i true) := by
        have e1 : st2.h = mixH (listed.setIfInBounds i true) es S l.length := by
          have hget : ∀ k, k ≠ i → (listed.setIfInBounds i true).getD k false = listed.getD k false := fun k hk => getD_set_ne false (fun e => hk e.symm)
          have hlo : ∀ k, k ≤ i → mixH (listed.setIfInBounds i true) es S k = mixH listed es S k := by
            intro k
            induction k with
            | zero => intro _; rfl
            | succ k ihk =>
              intro hk
              funext b
              simp only [mixH, hget k (by omega), ihk (by omega)]
          have hhi : ∀ k b, i < k → k ≤ l.length → mixH (listed.setIfInBounds i true) es S k b = if b ∈ ea.1 ∧ b ∉ ea.2 then (S (i + 1)).h b else mixH listed es S k b := by
            intro k b
            induction k with
            | zero => intro hk; omega
            | succ k ihk =>
              intro hk hkl
              by_cases e : k = i
              · subst e
                simp only [mixH, getD_set_true_self hil2, hEA, true_and, hlo k (Nat.le_refl _), hli', Bool.false_eq_true, false_and, if_false]
              · simp only [mixH, hget k e, ihk (by omega) (by omega)]
                split
                · rename_i hc
                  split
                  · rename_i hc2
                    exact absurd (hfree k _ _ (List.getElem?_eq_getElem (by omega)) e (fun _ => by omega) (fun h => by rw [hc.1] at h; cases h) b hc.2.1) hc2.2
                  · rfl
                · rfl
          funext b
          rw [hhi l.length b hil (Nat.le_refl _)]
          by_cases hbA : b ∈ ea.2
          · rw [if_neg (fun h => h.2 hbA), ou.keep b hbA]
          · have h2 : st2.h b = st'.h b := ou.hs.out b hbA
            rw [h2]
            split
            · rw [hnext, setO_h]
              show _ = merge _ _ _ b
              unfold merge
              rw [if_neg (by simpa using hbA)]
            · rename_i hc
              have hbE : b ∉ ea.1 := fun h => hc ⟨h, hbA⟩
              rw [valU_blk hv b hbE, ← hHS.out b hbA]
        have e2 : st2.ρ = mixρ l listed (S 0).ρ (S l.length).ρ := ou.ρ2
        have e3 : st2.n = (S 0).n := ou.n2
        obtain ⟨ρ2, h2, n2⟩ := st2
        simp only at e1 e2 e3
        subst e1; subst e2; subst e3
        cases hdo : o.d with
        | none =>
          show St.mk _ _ _ = St.mk _ _ _
          congr 1
          funext t
          unfold mixρ
          have hiff : (∃ (j : Nat) (o : AOp) (bs : List Nat), l[j]? = some (o, bs) ∧ listed.getD j false = true ∧ o.d = some t) ↔ (∃ (j : Nat) (o : AOp) (bs : List Nat), l[j]? = some (o, bs) ∧ (listed.setIfInBounds i true).getD j false = true ∧ o.d = some t) := by
            constructor
            · rintro ⟨j, o', bs', e1, e2, e3⟩
              exact ⟨j, o', bs', e1, getD_set_true e2, e3⟩
            · rintro ⟨j, o', bs', e1, e2, e3⟩
              by_cases hij : i = j
              · subst hij
                rw [hl1] at e1; cases e1
                rw [hdo] at e3; cases e3
              · rw [getD_set_ne false hij] at e2
                exact ⟨j, o', bs', e1, e2, e3⟩
          by_cases hc : ∃ (j : Nat) (o : AOp) (bs : List Nat), l[j]? = some (o, bs) ∧ listed.getD j false = true ∧ o.d = some t
          · rw [if_pos hc, if_pos (hiff.1 hc)]
          · rw [if_neg hc, if_neg fun k => hc (hiff.2 k)]
        | some d =>
          show St.mk (upd _ d y) _ _ = St.mk _ _ _
          congr 1
          funext t
          by_cases ht : t = d
          · subst ht
            rw [upd_same]
            unfold mixρ
            rw [if_pos ⟨i, o, bs, hl1, getD_set_true_self hil2, hdo⟩]
            exact (hρd i o bs y st' hl1 (hEA ▸ hnext) t hdo).symm
          · rw [upd_ne _ _ ht]
            show mixρ l listed (S 0).ρ (S l.length).ρ t = _
            unfold mixρ
            have hiff : (∃ (j : Nat) (o : AOp) (bs : List Nat), l[j]? = some (o, bs) ∧ listed.getD j false = true ∧ o.d = some t) ↔ (∃ (j : Nat) (o : AOp) (bs : List Nat), l[j]? = some (o, bs) ∧ (listed.setIfInBounds i true).getD j false = true ∧ o.d = some t) := by
              constructor
              · rintro ⟨j, o', bs', e1, e2, e3⟩
                exact ⟨j, o', bs', e1, getD_set_true e2, e3⟩
              · rintro ⟨j, o', bs', e1, e2, e3⟩
                by_cases hij : i = j
                · subst hij
                  rw [hl1] at e1; cases e1
                  rw [hdo] at e3; cases e3
                  exact absurd rfl ht
                · rw [getD_set_ne false hij] at e2
                  exact ⟨j, o', bs', e1, e2, e3⟩
            by_cases hc : ∃ (j : Nat) (o : AOp) (bs : List Nat), l[j]? = some (o, bs) ∧ listed.getD j false = true ∧ o.d = some t
            · rw [if_pos hc, if_pos (hiff.1 hc)]
            · rw [if_neg hc, if_neg fun k => hc (hiff.2 k)]
      have := opK_ok (KK := wpAny P .any os QQ fuel (listed.setIfInBounds i true)) (Q := QQ) hax (valU_opK (p := p) hv2 ou.n2 (show dOk p o.d (mix listed).n = true from hdk)) hsr' fun st3 a2 w2 hst3 hsr2 hfr2 => by
        rw [hst2] at hst3
        subst hst3
        refine ih (listed.setIfInBounds i true) a2 w2 (by simpa using hls) ?_ hsr2 (hfr.trans hfr2) ?_
        · have := cnt_lt (l := List.range os.size) (q := fun i => !listed.getD i true) (q' := fun j => !(listed.setIfInBounds i true).getD j true) (fun j hj => by
            by_cases hij : i = j
            · subst hij; simp [hil2] at hj
            · rw [getD_set_ne true hij] at hj; exact hj) (i := i) (List.mem_range.2 hio) (by rw [hli]; rfl) (by simp [hil2])
          omega
        · intro j o' bs' hj hlj b hb
          by_cases hij : i = j
          · subst hij
            rw [hl1] at hj; cases hj
            exact getD_set_true (hbs b hb)
          · rw [getD_set_ne false hij] at hlj
            exact getD_set_true (hdown j o' bs' hj hlj b hb)
      unfold wpOp
      rw [hx]
      simp only
      split
      · rename_i hw; rw [if_pos (by simpa using hw)] at this; exact .inl this
      · rename_i hw; rw [if_neg (by simpa using hw)] at this; exact this
  obtain ⟨φ, M, L, I⟩ := hsr
  refine main os.size (Array.replicate os.size false) a _ (by simp) ?_ ⟨φ, M, L, ?_⟩ (Fr.refl p a) ?_
  · exact Nat.le_trans (List.length_filter_le _ _) (by simp)
  · have e1 : mixρ l (Array.replicate os.size false) (S 0).ρ (S l.length).ρ = (S 0).ρ := by
      funext t
      unfold mixρ
      rw [if_neg]
      rintro ⟨j, o, bs, e1, e2, e3⟩
      rw [getD_rep] at e2; cases e2
    have e2 : ∀ k, mixH (Array.replicate os.size false) es S k = (S 0).h := by
      intro k
      induction k with
      | zero => rfl
      | succ k ihk =>
        funext b
        simp only [mixH, getD_rep, Bool.false_eq_true, false_and, if_false, ihk]
    show Inv E φ M L ⟨mixρ l (Array.replicate os.size false) (S 0).ρ (S l.length).ρ, mixH (Array.replicate os.size false) es S l.length, (S 0).n⟩ a.tmps _
    rw [e1, e2]
    exact I.drew
  · intro i o bs e1 e2
    rw [getD_rep] at e2; cases e2
mutual
def runW (P : Program) (p : List Nat) : Nat → List AOp → List (List Nat × List Nat) → List KI → (AE → St → Prop) → St → Prop
  | 0, _, _, _, _, _ => False
  | n + 1, [], _, k, Q, st => run P p n .skip k Q st
  | n + 1, o :: l, e :: es, k, Q, st => match o.g with
    | none => execW P p n o.o o.d e l es k Q st
    | some (t, want) => match wantA (st.ρ t) want with
      | some b => if b then execW P p n o.o o.d e l es k Q st else runW P p n l es k Q (st.setO o.d (.tup []))
      | none => False
  | _ + 1, _ :: _, [], _, _, _ => False
def execW (P : Program) (p : List Nat) : Nat → AO → Option Nat → List Nat × List Nat → List AOp → List (List Nat × List Nat) → List KI → (AE → St → Prop) → St → Prop
  | 0, _, _, _, _, _, _, _, _ => False
  | n + 1, .q q, d, e, l, es, k, Q, st => match aval q st.ρ (hideH e.2 st.h) with
    | some y => runW P p n l es k Q (st.setO d y)
    | none => False
  | n + 1, .w w, d, e, l, es, k, Q, st => match weff w (d.getD 0) ⟨st.ρ, hideH e.2 st.h, st.n⟩ with
    | some (y, st') => (wblk w (d.getD 0) st.ρ).all (fun b => e.1.elem b) = true ∧ runW P p n l es k Q ((⟨st.ρ, merge e.2 st.h st'.h, st.n⟩ : St).setO d y)
    | none => False
  | n + 1, .c f xs, d, e, l, es, k, Q, st => ∃ y st', callW P f xs ⟨st.ρ, hideH e.2 st.h, st.n⟩ e.1 y st' ∧ runW P p n l es k Q ((⟨st.ρ, merge e.2 st.h st'.h, st.n⟩ : St).setO d y)
  | _ + 1, .n .., _, _, _, _, _, _, _ => False
end
def callWK (P : Program) (fx : AX) (xs : List AX) (d : Option Nat) (e : List Nat × List Nat) (st : St) (K : St → Prop) : Prop :=
  ∃ y st', callW P fx xs ⟨st.ρ, hideH e.2 st.h, st.n⟩ e.1 y st' ∧ K ((⟨st.ρ, merge e.2 st.h st'.h, st.n⟩ : St).setO d y)
def restW (P : Program) (p : List Nat) (n : Nat) (l : List AOp) (es : List (List Nat × List Nat)) (k : List KI) (Q : AE → St → Prop) : St → Prop := runW P p n l es k Q
theorem merge_hide (A : List Nat) (h : Hp) : merge A h (hideH A h) = h := by
  funext b
  unfold merge hideH
  split <;> rfl
section
variable {n : Nat} {d : Option Nat} {e : List Nat × List Nat} {l : List AOp} {es : List (List Nat × List Nat)} {k : List KI} {Q : AE → St → Prop} {st : St} {f : AX} {xs : List AX}
theorem restW_app : restW P p n l es k Q st = runW P p n l es k Q st := rfl
theorem runW_nil : runW P p (n + 1) [] es k Q st = run P p n .skip k Q st := by rw [runW]
theorem runW_op0 {d : Option Nat} {o : AO} : runW P p (n + 1) (⟨d, none, o⟩ :: l) (e :: es) k Q st = execW P p n o d e l es k Q st := by rw [runW]
theorem runW_opg {d : Option Nat} {t : Nat} {want : Bool} {o : AO} : runW P p (n + 1) (⟨d, some (t, want), o⟩ :: l) (e :: es) k Q st = match wantA (st.ρ t) want with
      | some b => if b then execW P p n o d e l es k Q st else runW P p n l es k Q (st.setO d (.tup []))
      | none => False := by rw [runW]
theorem execW_q {q : QOp} : execW P p (n + 1) (.q q) d e l es k Q st = match aval q st.ρ (hideH e.2 st.h) with
    | some y => runW P p n l es k Q (st.setO d y)
    | none => False := by rw [execW]
theorem execW_w {w : WOp} : execW P p (n + 1) (.w w) d e l es k Q st = match weff w (d.getD 0) ⟨st.ρ, hideH e.2 st.h, st.n⟩ with
    | some (y, st') => (wblk w (d.getD 0) st.ρ).all (fun b => e.1.elem b) = true ∧ runW P p n l es k Q ((⟨st.ρ, merge e.2 st.h st'.h, st.n⟩ : St).setO d y)
    | none => False := by rw [execW]
theorem execW_c : execW P p (n + 1) (.c f xs) d e l es k Q st = callWK P f xs d e st (restW P p n l es k Q) := by rw [execW]; rfl
end
theorem callWK_congr {fx : AX} {xs : List AX} {d : Option Nat} {e : List Nat × List Nat} {st st' : St} {K : St → Prop} (h : st = st') : callWK P fx xs d e st K = callWK P fx xs d e st' K := by rw [h]
theorem callWK.ro {fx : AX} {xs : List AX} {dst : Option Nat} {E A : List Nat} {st : St} {K : St → Prop} {f : FuncId} {caps ys : List AV} {ret : AV} {st3 : St} {y : AV} (d : Nat) (hf : fx.ev st.ρ = .clo f caps) (hc : callB P f = true)
    (hys : (xs.map (·.ev st.ρ) ++ caps).mapM (roc (hideH A st.h) 8) = some ys) (hR : Ret P f ys ret (ys.map fun _ => .un)) (hfl : flt ret = true) (hi : inst 64 d ret ⟨st.ρ, hideH A st.h, st.n⟩ = some (y, st3)) (hE : (instB 64 d ret).all (fun b => E.elem b) = true)
    (hK : K ((⟨st.ρ, merge A st.h st3.h, st.n⟩ : St).setO dst y)) : callWK P fx xs dst (E, A) st K := by
  have key : ∀ (xs ys : List AV), xs.mapM (roc (hideH A st.h) 8) = some ys → exL ((xs.map fun _ => Md.ro).zip xs) ⟨st.ρ, hideH A st.h, st.n⟩ = some (xs.map fun _ => (none, none), ⟨st.ρ, hideH A st.h, st.n⟩) ∧ shutArgs (hideH A st.h) ((xs.map fun _ => Md.ro).zip xs) (xs.map fun _ => (none, none)) = some ys ∧
      backL (xs.map fun _ => (none, none)) (ys.map fun _ => .un) ⟨st.ρ, hideH A st.h, st.n⟩ = some ⟨st.ρ, hideH A st.h, st.n⟩ ∧ exB ((xs.map fun _ => Md.ro).zip xs) = [] ∧ flatL ((xs.map fun _ => Md.ro).zip xs) = some ((xs.map fun _ => Md.ro).zip xs) ∧ asm (xs.map fun _ => Md.ro) ys = some ys ∧ outF (xs.map fun _ => Md.ro) (ys.map fun _ => .un) = some (ys.map fun _ => .un) := by
    intro xs
    induction xs with
    | nil => intro ys h; simp at h; subst h; exact ⟨rfl, rfl, rfl, rfl, rfl, rfl, rfl⟩
    | cons x xs ih =>
      intro ys h
      simp only [List.mapM_cons, Option.bind_eq_bind, Option.bind_eq_some_iff, Option.pure_def, Option.some.injEq] at h
      obtain ⟨y, hy, ys', hys', rfl⟩ := h
      obtain ⟨h1, h2, h3, h4, h5, h6, h7⟩ := ih ys' hys'
      refine ⟨by simp [exL, ex1, h1], by simp [shutArgs, hy, h2], by simp [backL, h3], by simp [exB, h4], by simp [flatL, flat1, h5], by simp [asm, h6], by simp [outF, h7]⟩
  obtain ⟨h1, h2, h3, h4, h5, h6, h7⟩ := key _ ys hys
  have hflL : flt.fltL (ys.map fun _ => AV.un) = true := by
    clear hys hR h1 h2 h3 h4 h5 h6 h7
    induction ys with
    | nil => rfl
    | cons y ys ih => simpa [flt.fltL, flt] using ih
  exact ⟨y, st3, ⟨f, caps, _, _, _, ⟨st.ρ, hideH A st.h, st.n⟩, ys, ys, ret, _, _, ⟨st.ρ, hideH A st.h, st.n⟩, d, hf, hc, by simp, h5, h1, h2, h6, hR, h7, .inl ⟨hfl, hflL⟩, h3, hi, by rw [h4, List.nil_append]; exact hE⟩, hK⟩
mutual
theorem runW_text : ∀ (n : Nat) (l : List AOp) (es : List (List Nat × List Nat)) (k : List KI) (Q : AE → St → Prop) (st : St), runW P p n l es k Q st → textW P l es st (pop P p k Q .normal)
  | 0, l, es, k, Q, st, h => by unfold runW at h; exact h.elim
  | n + 1, [], es, k, Q, st, h => by
    unfold runW at h
    exact run_says n .skip k st Q h
  | n + 1, o :: l, e :: es, k, Q, st, h => by
    unfold runW at h
    split at h
    · rename_i hg
      obtain ⟨y, st', hy, hk⟩ := execW_text n o.o o.d e l es k Q st h
      exact ⟨y, st', by unfold valU; rw [hg]; exact hy, hk⟩
    · rename_i t want hg
      split at h
      · rename_i b hb
        cases b
        · rw [if_neg (by simp)] at h
          refine ⟨.tup [], ⟨st.ρ, hideH e.2 st.h, st.n⟩, by unfold valU; rw [hg]; simp only; rw [hb]; simp, ?_⟩
          simp only [merge_hide]
          exact runW_text n l es k Q _ h
        · rw [if_pos rfl] at h
          obtain ⟨y, st', hy, hk⟩ := execW_text n o.o o.d e l es k Q st h
          exact ⟨y, st', by unfold valU; rw [hg]; simp only; rw [hb]; exact hy, hk⟩
      · exact h.elim
  | n + 1, o :: l, [], k, Q, st, h => by unfold runW at h; exact h.elim
theorem execW_text : ∀ (n : Nat) (o : AO) (d : Option Nat) (e : List Nat × List Nat) (l : List AOp) (es : List (List Nat × List Nat)) (k : List KI) (Q : AE → St → Prop) (st : St), execW P p n o d e l es k Q st →
    ∃ y st', valO P o d e.1 ⟨st.ρ, hideH e.2 st.h, st.n⟩ y st' ∧ textW P l es ((⟨st.ρ, merge e.2 st.h st'.h, st.n⟩ : St).setO d y) (pop P p k Q .normal)
  | 0, o, d, e, l, es, k, Q, st, h => by unfold execW at h; exact h.elim
  | n + 1, .q q, d, e, l, es, k, Q, st, h => by
    unfold execW at h
    split at h
    · rename_i y hy
      refine ⟨y, ⟨st.ρ, hideH e.2 st.h, st.n⟩, ⟨hy, rfl⟩, ?_⟩
      simp only [merge_hide]
      exact runW_text n l es k Q _ h
    · exact h.elim
  | n + 1, .w w, d, e, l, es, k, Q, st, h => by
    unfold execW at h
    split at h
    · rename_i y st' hy
      exact ⟨y, st', ⟨hy, h.1⟩, runW_text n l es k Q _ h.2⟩
    · exact h.elim
  | n + 1, .c f xs, d, e, l, es, k, Q, st, h => by
    unfold execW at h
    obtain ⟨y, st', hy, hk⟩ := h
    exact ⟨y, st', hy, runW_text n l es k Q _ hk⟩
  | n + 1, .n neg x, d, e, l, es, k, Q, st, h => by unfold execW at h; exact h.elim
end
theorem T.textP {l : List (AOp × List Nat)} {k : List KI} {st : St} {Q : AE → St → Prop} (n : Nat) (ps : List (List Nat)) (es : List (List Nat × List Nat)) (hm : P.follows .mixedOrders = true) (hs : ordB l ps es = true) (hd : (l.all fun x => dOk p x.1.d st.n) = true)
    (h : runW P p n (l.map (·.1)) es k Q st) : T P p (.any l) st (pop P p k Q) :=
  T.anyP ps es hm hs hd (runW_text n _ es k Q st h)
theorem T.textW {l : List (AOp × List Nat)} {k : List KI} {st : St} {Q : AE → St → Prop} (n : Nat) (es : List (List Nat × List Nat)) (hm : P.follows .mixedOrders = true) (hs : ordB l (predsL (l.map (·.2))) es = true) (hd : (l.all fun x => dOk p x.1.d st.n) = true)
    (h : runW P p n (l.map (·.1)) es k Q st) : T P p (.any l) st (pop P p k Q) :=
  T.anyP (predsL (l.map (·.2))) es hm hs hd (runW_text n _ es k Q st h)
end
end Go.Proofs.YtiejaibmcmicoaaGreatDoor.Am
