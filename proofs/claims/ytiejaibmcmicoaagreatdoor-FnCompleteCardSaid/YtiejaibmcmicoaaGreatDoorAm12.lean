/- What is forgotten between the rounds of a loop; loops; no condition. -/
import Derived.Test.YtiejaibmcmicoaaGreatDoorAm11
namespace Go.Proofs.YtiejaibmcmicoaaGreatDoor.Am
open Go
def menB (bs : List Nat) : AV → Bool
  | .sl b _ _ _ _ => bs.elem b
  | .ref b _ => bs.elem b
  | x => idfree x
def keep (ks : List Nat) (ρ : Nat → AV) : Nat → AV := fun t => if ks.elem t then ρ t else .un
def keepH (bs : List Nat) (h : Nat → Option (Option (List AV))) : Nat → Option (Option (List AV)) := fun b => if bs.elem b then h b else none
theorem keep_app (ks : List Nat) (ρ : Nat → AV) (t : Nat) : keep ks ρ t = if ks.elem t then ρ t else .un := rfl
theorem keepH_app (bs : List Nat) (h : Nat → Option (Option (List AV))) (b : Nat) : keepH bs h b = if bs.elem b then h b else none := rfl
section
variable {φ : Nat → Option Loc} {M : Nat → Prop} {w : World} {P : Program} {p : List Nat}
theorem V.men {φ' : Nat → Option Loc} {bs : List Nat} {x : AV} {v : Value} {F : List Nat} (h : V φ M w x v F) (hm : menB bs x = true) (hφ : ∀ b, b ∈ bs → φ' b = φ b) : V φ' M w x v F := by
  cases x
  case sl b off len sz lim =>
    have hb : b ∈ bs := by simpa [menB] using hm
    cases h with
    | imm _ _ h => exact .imm _ _ h
    | sl _ _ _ _ _ l c h h1 h2 h3 => exact .sl _ _ _ _ _ l c ((hφ b hb).trans h) h1 h2 h3
    | slz => exact .slz _ _ _ _ _
  case ref b off =>
    have hb : b ∈ bs := by simpa [menB] using hm
    cases h with
    | imm _ _ h => exact .imm _ _ h
    | ref _ _ l h => exact .ref _ _ l ((hφ b hb).trans h)
  all_goals exact h.free hm
theorem Le.refl (st : St) : Le st st := fun _ _ _ h => h
theorem Le.trans {a b c : St} (h : Le a b) (k : Le b c) : Le a c := fun E tm w s => k E tm w (h E tm w s)
theorem Le.lay {ρ : Nat → AV} {h : Nat → Option (Option (List AV))} {n : Nat} (t b sz : Nat) (h1 : ρ t = .em) (h2 : h b = none) : Le ⟨ρ, h, n⟩ ⟨upd ρ t (.sl b 0 0 sz false), upd h b (some (some [])), n⟩ := by
  rintro E tm w ⟨φ, M, L, I⟩
  have hne : ∀ b' cs, b' ≠ b → upd h b (some (some [])) b' = some (some cs) → h b' = some (some cs) := fun b' cs e k => by rwa [upd_ne _ _ e] at k
  refine ⟨φ, M, upd L b [], I.size, fun t' => ?_, fun b' cs hb => ?_, fun b' hb => ?_, fun b' cs hb => ?_, fun b1 b2 c1 c2 hd k1 k2 g hg => ?_, fun b' cs hb g hg => ?_, fun b' cs hb g hg => ?_, I.bound, I.m0, I.m1, fun b' cs hb g hg => ?_, I.os, I.tape, I.output, I.grown, I.frame, I.keep⟩
  · by_cases e : t' = t
    · subst e
      show V φ M w (upd ρ t' _ t') _ []
      rw [upd_same]
      have := I.env t'
      rw [show (St.mk ρ h n).ρ t' = .em from h1] at this
      obtain ⟨A, e⟩ := vem this
      rw [e]
      exact .slz _ _ _ _ _
    · show V φ M w (upd ρ t _ t') _ []
      rw [upd_ne _ _ e]; exact I.env t'
  · by_cases e : b' = b
    · subst e
      have : cs = [] := by
        have hb' : upd h b' (some (some [])) b' = some (some cs) := hb
        rw [upd_same] at hb'; cases hb'; rfl
      subst this
      exact .inl ⟨rfl, I.fresh b' h2, upd_same _ _ _⟩
    · rw [upd_ne _ _ e]; exact I.root b' cs (hne b' cs e hb)
  · by_cases e : b' = b
    · subst e; exact I.fresh b' h2
    · have hb' : upd h b (some (some [])) b' = none := hb
      rw [upd_ne _ _ e] at hb'; exact I.fresh b' hb'
  · by_cases e : b' = b
    · subst e; rw [upd_same]; simp
    · rw [upd_ne _ _ e]; exact I.nodup b' cs (hne b' cs e hb)
  · by_cases e : b1 = b
    · subst e; rw [upd_same] at hg; simp at hg
    · rw [upd_ne _ _ e] at hg
      by_cases e' : b2 = b
      · subst e'; rw [upd_same]; simp
      · rw [upd_ne _ _ e']; exact I.disj b1 b2 c1 c2 hd (hne b1 c1 e k1) (hne b2 c2 e' k2) g hg
  · by_cases e : b' = b
    · subst e; rw [upd_same] at hg; simp at hg
    · rw [upd_ne _ _ e] at hg; exact I.notM b' cs (hne b' cs e hb) g hg
  · by_cases e : b' = b
    · subst e; rw [upd_same] at hg; simp at hg
    · rw [upd_ne _ _ e] at hg; exact I.low b' cs (hne b' cs e hb) g hg
  · by_cases e : b' = b
    · subst e; rw [upd_same] at hg; simp at hg
    · rw [upd_ne _ _ e] at hg; exact I.own b' cs (hne b' cs e hb) g hg
theorem nodup_mid {A B : List (List Nat)} {X : List Nat} (h : (A ++ [] :: B).flatten.Nodup) (hX : X.Nodup) (hd : ∀ g ∈ X, g ∉ (A ++ [] :: B).flatten) : (A ++ X :: B).flatten.Nodup := by
  simp only [List.flatten_append, List.flatten_cons, List.nil_append] at h hd ⊢
  obtain ⟨h1, h2, h3⟩ := List.nodup_append.1 h
  refine List.nodup_append.2 ⟨h1, List.nodup_append.2 ⟨hX, h2, fun x hx y hy e => hd x hx (List.mem_append.2 (.inr (e ▸ hy)))⟩, fun x hx y hy e => ?_⟩
  rcases List.mem_append.1 hy with hy | hy
  · exact hd y hy (List.mem_append.2 (.inl (e ▸ hx)))
  · exact h3 x hx y hy e
theorem Le.pack {st : St} (b j : Nat) {i len sz : Nat} {cs cs' : List AV} (hb : st.h b = some (some cs)) (hj : cs[j]? = some (.sl i 0 len sz false)) (hi : st.h i = some (some cs')) (hne : i ≠ b) (hl : cs'.length = len * sz) (hid : idfree.idfreeL cs' = true) :
    Le st ⟨st.ρ, upd (upd (upd st.h i (some none)) b (some none)) b (some (some (cs.set j (.own cs' len sz)))), st.n⟩ := by
  rintro E tm w ⟨φ, M, L, I⟩
  let a : Act := { tmps := tm, defers := [] }
  have I0 : Inv E φ M L st a.tmps w := I
  have hjl : j < cs.length := (List.getElem?_eq_some_iff.1 hj).1
  rcases I0.root b cs hb with ⟨rfl, _, _⟩ | ⟨l, C, us, F, h1, h2, h3, ⟨Fs, k1, k2, k3, k4, k5⟩, h6, h7⟩
  · simp at hjl
  have hju : j < us.length := by omega
  have hjF : j < Fs.length := by omega
  obtain ⟨u, hu⟩ : ∃ u, us[j]? = some u := ⟨_, List.getElem?_eq_getElem hju⟩
  obtain ⟨G, hG⟩ : ∃ G, Fs[j]? = some G := ⟨_, List.getElem?_eq_getElem hjF⟩
  have hv := k5 j _ u G hj hu hG
  obtain rfl : G = [] := hv.nofoot rfl
  obtain ⟨I1, X, T, x1, _, x3, x4, x5, x6, _⟩ := ex1_ok (m := .mv sz) (y := some (.own cs' len sz)) (bk := none) (st1 := st.put i none) I0 hv (by simp only [ex1, hi]; rw [if_pos ⟨trivial, hl, hid⟩])
  have hv' := x3 _ rfl
  have hX : ∀ g ∈ X, Free E M L (st.put i none) g ∧ g < w.heap.size ∧ ¬ Free E M L st g := fun g hg => by
    rcases x1 with rfl | rfl
    · exact x5 g hg
    · cases hg
  have hXn : X.Nodup := by
    rcases x1 with rfl | rfl
    · exact x4
    · simp
  have hb1 : (st.put i none).h b = some (some cs) := by simp only [St.put]; rw [upd_ne _ _ hne.symm]; exact hb
  obtain ⟨I2, hfree⟩ := I1.kill hb1
  have hFs : Fs = Fs.take j ++ [] :: Fs.drop (j + 1) := by
    have : Fs[j] = [] := by rw [List.getElem?_eq_getElem hjF] at hG; exact Option.some.inj hG
    rw [← this]; simp
  have hset : Fs.set j X = Fs.take j ++ X :: Fs.drop (j + 1) := by
    rw [List.set_eq_take_append_cons_drop, if_pos hjF]
  have hnd := I0.nodup b cs hb
  rw [h7] at hnd
  obtain ⟨n1, n2⟩ := List.nodup_cons.1 hnd
  have hXL : ∀ g ∈ X, g ∉ L b := fun g hg hgL => (hX g hg).1.1 b cs hb1 hgL
  have hmem : ∀ g, g ∈ (Fs.set j X).flatten → g ∈ F ∨ g ∈ X := fun g hg => by
    rw [hset] at hg
    rw [k4, hFs]
    simp only [List.flatten_append, List.flatten_cons, List.mem_append, List.nil_append] at hg ⊢
    rcases hg with h | h | h
    · exact .inl (.inl h)
    · exact .inr h
    · exact .inl (.inr h)
  have hL' : ∀ g ∈ l.g :: (Fs.set j X).flatten, Free E M L ((st.put i none).put b none) g ∧ g < w.heap.size := fun g hg => by
    rcases List.mem_cons.1 hg with rfl | hg
    · exact ⟨hfree _ (by rw [h7]; simp), I0.low b cs hb _ (by rw [h7]; simp)⟩
    · rcases hmem g hg with h | h
      · exact ⟨hfree _ (by rw [h7]; exact List.mem_cons_of_mem _ h), I0.low b cs hb _ (by rw [h7]; exact List.mem_cons_of_mem _ h)⟩
      · exact ⟨(hX g h).1.put b, (hX g h).2.1⟩
  have hnd' : (l.g :: (Fs.set j X).flatten).Nodup := by
    refine List.nodup_cons.2 ⟨fun hg => ?_, ?_⟩
    · rcases hmem _ hg with h | h
      · exact n1 h
      · exact hXL _ h (by rw [h7]; simp)
    · rw [hset]
      refine nodup_mid ?_ hXn ?_
      · rw [← hFs, ← k4]; exact n2
      · rw [← hFs, ← k4]; exact fun g hg hgF => hXL g hg (by rw [h7]; exact List.mem_cons_of_mem _ hgF)
  have hcell : ∀ (q : Nat) (x : AV) (v : Value) (F : List Nat), (cs.set j (.own cs' len sz))[q]? = some x → us[q]? = some v → (Fs.set j X)[q]? = some F → V (upd φ b (some l)) M w x v F := fun q x v F hq hvq hFq => by
    by_cases e : q = j
    · subst e
      rw [List.getElem?_set_self hjl] at hq; cases hq
      rw [List.getElem?_set_self hjF] at hFq; cases hFq
      rw [hu] at hvq; cases hvq
      exact hv'.lift _
    · rw [List.getElem?_set_ne (fun e' => e e'.symm)] at hq hFq
      exact (k5 q x v F hq hvq hFq).mono (fun b' l' h => by
        by_cases e : b' = b
        · subst e; rw [upd_same]; rw [h1] at h; exact h
        · rw [upd_ne _ _ e]; exact h) (fun _ h => h) (fun _ _ => rfl)
  obtain ⟨I3, _⟩ := I2.put (d := b) (by simp [St.put, upd_same]) (cs := cs.set j (.own cs' len sz)) (some l) (.inr h1) hL' hnd'
    (.inr ⟨l, C, us, (Fs.set j X).flatten, upd_same _ _ _, h2, h3, ⟨Fs.set j X, by simpa using k1, by simpa using k2, k3, rfl, hcell⟩, h6, rfl⟩)
  exact ⟨_, _, _, I3⟩
theorem T.rounds {ι : Type} {x : AC} {st : St} {Q : AE → St → Prop} (μ : ι → Nat) (I : ι → St → Prop) (i : ι) (h0 : I i st)
    (round : ∀ i s, I i s → T P p x s (andThen (fun s' => ∃ j s'', μ j < μ i ∧ Le s' s'' ∧ I j s'') Q)) : T P p (.loop x) st Q := by
  refine T.loop (fun n s => ∃ i s', μ i = n ∧ Le s s' ∧ I i s') (μ i) ⟨i, st, rfl, Le.refl st, h0⟩ ?_
  rintro n s ⟨i, s', rfl, hl, hI⟩
  refine T.le hl (T.mono (round i s' hI) fun e s2 he => ?_)
  cases e with
  | normal =>
    obtain ⟨j, s3, h1, h2, h3⟩ := he
    exact ⟨μ j, h1, j, s3, rfl, h2, h3⟩
  | exit => exact he
  | ret => exact he
end
def rows {α : Type} (f : α → List AV) (xs : List α) : List AV := (xs.map f).flatten
section
variable {α : Type} {f : α → List AV}
theorem rows_nil : rows f [] = [] := rfl
theorem rows_cons (x : α) (xs : List α) : rows f (x :: xs) = f x ++ rows f xs := by simp [rows]
theorem rows_append (xs ys : List α) : rows f (xs ++ ys) = rows f xs ++ rows f ys := by simp [rows]
theorem rows_length {n : Nat} (h : ∀ x, (f x).length = n) (xs : List α) : (rows f xs).length = xs.length * n := by
  induction xs with
  | nil => simp [rows_nil]
  | cons x xs ih => rw [rows_cons, List.length_append, h, ih, List.length_cons, Nat.succ_mul, Nat.add_comm]
theorem rows_drop {n : Nat} (h : ∀ x, (f x).length = n) (xs ys : List α) : (rows f (xs ++ ys)).drop (xs.length * n) = rows f ys := by
  rw [rows_append, List.drop_append_of_le_length (by rw [rows_length h]; exact Nat.le_refl _), List.drop_of_length_le (by rw [rows_length h]; exact Nat.le_refl _), List.nil_append]
theorem rows_all {q : AV → Bool} (h : ∀ x, ∀ c ∈ f x, q c = true) (xs : List α) : ∀ c ∈ rows f xs, q c = true := by
  intro c hc
  simp only [rows, List.mem_flatten, List.mem_map] at hc
  obtain ⟨_, ⟨x, _, rfl⟩, hc⟩ := hc
  exact h x c hc
end
theorem shutL_rows {α : Type} {f : α → List AV} (h : ∀ x, ∀ c ∈ f x, shut c = true) (xs : List α) : shut.shutL (rows f xs) = true := shutL_of (rows_all h xs)
theorem idfreeL_of {l : List AV} (h : ∀ x ∈ l, idfree x = true) : idfree.idfreeL l = true := by
  induction l with
  | nil => rfl
  | cons y l ih => simp only [idfree.idfreeL, Bool.and_eq_true]; exact ⟨h y (by simp), ih fun x hx => h x (by simp [hx])⟩
theorem idfreeL_rows {α : Type} {f : α → List AV} (h : ∀ x, ∀ c ∈ f x, idfree c = true) (xs : List α) : idfree.idfreeL (rows f xs) = true := idfreeL_of (rows_all h xs)
theorem plainL_of {l : List AV} (h : ∀ x ∈ l, plain x = true) : plain.plainL l = true := by
  induction l with
  | nil => rfl
  | cons y l ih => simp only [plain.plainL, Bool.and_eq_true]; exact ⟨h y (by simp), ih fun x hx => h x (by simp [hx])⟩
theorem fltL_of {l : List AV} (h : ∀ x ∈ l, flt x = true) : flt.fltL l = true := by
  induction l with
  | nil => rfl
  | cons y l ih => simp only [flt.fltL, Bool.and_eq_true]; exact ⟨h y (by simp), ih fun x hx => h x (by simp [hx])⟩
theorem fltL_rows {α : Type} {f : α → List AV} (h : ∀ x, ∀ c ∈ f x, flt c = true) (xs : List α) : flt.fltL (rows f xs) = true := fltL_of (rows_all h xs)
theorem roc_sl {h : Nat → Option (Option (List AV))} {b len sz k : Nat} {lim : Bool} {cs : List AV} (hb : h b = some (some cs)) (hl : cs.length = len * sz) (hs : shut.shutL cs = true) : roc h (k + 1) (.sl b 0 len sz lim) = some (.ro cs len) := by
  simp [roc, shut, hb, ← hl, hs]
end Go.Proofs.YtiejaibmcmicoaaGreatDoor.Am
