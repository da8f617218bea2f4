/- The operations of the small machine that make memory or write it; no condition. -/
import Derived.Test.YtiejaibmcmicoaaGreatDoorAm2
namespace Go.Proofs.YtiejaibmcmicoaaGreatDoor.Am
open Go
def St.put (st : St) (b : Nat) (x : Option (List AV)) : St := { st with h := upd st.h b (some x) }
section
variable {E : Ent} {φ : Nat → Option Loc} {M : Nat → Prop} {L : Nat → List Nat} {st : St} {tm : Array Value} {w : World} {P : Program}
theorem Inv.drew (I : Inv E φ M L st tm w) : Inv E φ M L st tm w.drew :=
  ⟨I.size, fun t => (I.env t).mono (fun _ _ h => h) (fun _ h => h) (fun _ _ => rfl), fun b cs h => (I.root b cs h).mono (fun _ _ h => h) (fun h => h) (fun _ h => h) (fun _ _ => rfl), I.fresh, I.nodup, I.disj, I.notM, I.low, I.bound, I.m0, I.m1, I.own,
    I.os, I.tape, I.output, I.grown, I.frame, I.keep⟩
theorem heap_alloc_lt (w : World) (o : Obj) {k : Nat} (h : k < w.heap.size) : (w.alloc o).heap[k]? = w.heap[k]? := by
  show (w.heap.push o)[k]? = _
  rw [Array.getElem?_push, if_neg (by omega)]
def Keeps (w w' : World) : Prop := ∀ g n, Obs w g n → Obs w' g n
theorem Keeps.refl (w : World) : Keeps w w := fun _ _ h => h
theorem Keeps.trans {w w1 w2 : World} (h : Keeps w w1) (k : Keeps w1 w2) : Keeps w w2 := fun g n hb => k g n (h g n hb)
theorem Keeps.of {w w' : World} (h : ∀ g, g < w.heap.size → w'.heap[g]? = w.heap[g]?) : Keeps w w' := fun g n hb => by
  obtain ⟨C, e, fr, h1, h2⟩ := hb
  exact ⟨C, e, fr, (h g (Array.getElem?_eq_some_iff.1 h1).1).trans h1, h2⟩
theorem Blk.new (w : World) (C : Array Value) (t : TypeId) : Blk (w.alloc (.cells C t)) w.heap.size C := by
  refine ⟨t, (0, 0), ?_, fun i _ h => by omega⟩
  show (w.heap.push _)[w.heap.size]? = _
  simp
theorem Inv.new (I : Inv E φ M L st tm w) {b : Nat} (hb : st.h b = none) {cs : List AV} {us : List Value} {C : Array Value} (hc : Cs φ M w cs us []) (hC : ∀ (j : Nat) (u : Value), us[j]? = some u → C[j]? = some u) (t : TypeId) :
    Inv E (upd φ b (some ⟨w.heap.size, 0, C.size⟩)) M (upd L b [w.heap.size]) (st.put b (some cs)) tm (w.alloc (.cells C t)) := by
  have hφ : ∀ b' l, φ b' = some l → upd φ b (some ⟨w.heap.size, 0, C.size⟩) b' = some l := fun b' l h => by
    have : b' ≠ b := by rintro rfl; rw [I.fresh _ hb] at h; cases h
    rw [upd_ne _ _ this]; exact h
  have hM : ∀ g, M g → (w.alloc (.cells C t)).heap[g]? = w.heap[g]? := fun g h => heap_alloc_lt _ _ (I.bound g h)
  have hst : ∀ b' cs', (st.put b (some cs)).h b' = some (some cs') → b' ≠ b → st.h b' = some (some cs') := fun b' cs' h hne => by
    simpa [St.put, upd_ne _ _ hne] using h
  refine ⟨I.size, fun t => (I.env t).mono hφ (fun _ h => h) (fun g h => hM g (h.resolve_right (by simp))), ?_, ?_, ?_, ?_, ?_, ?_, ?_, I.m0, I.m1, ?_, I.os, I.tape, I.output, ?_, ?_, Keeps.trans (w1 := w) I.keep (Keeps.of fun g hg => heap_alloc_lt _ _ hg)⟩
  · intro b' cs' h
    by_cases hne : b' = b
    · subst hne
      simp only [St.put, upd_same, Option.some.injEq] at h
      subst h
      rw [upd_same]
      refine .inr ⟨_, C, us, [], upd_same _ _ _, Blk.new w C t, rfl, hc.mono hφ (fun _ h => h) (fun g h => hM g (h.resolve_right (by simp))), fun j u hj => by rw [Nat.zero_add]; exact hC j u hj, rfl⟩
    · rw [upd_ne _ _ hne]
      exact (I.root b' cs' (hst b' cs' h hne)).mono hφ (fun h => by rw [upd_ne _ _ hne]; exact h) (fun _ h => h) (fun g hg => hg.elim (hM g) fun hg => heap_alloc_lt _ _ (I.low b' cs' (hst b' cs' h hne) g hg))
  · intro b' h
    by_cases hne : b' = b
    · subst hne; simp [St.put, upd_same] at h
    · rw [upd_ne _ _ hne]; exact I.fresh b' (by simpa [St.put, upd_ne _ _ hne] using h)
  · intro b' cs' h
    by_cases hne : b' = b
    · subst hne; rw [upd_same]; simp
    · rw [upd_ne _ _ hne]; exact I.nodup b' cs' (hst b' cs' h hne)
  · intro b1 b2 c1 c2 h12 h1 h2 g hg
    by_cases hn1 : b1 = b
    · subst hn1
      rw [upd_same] at hg
      rw [upd_ne _ _ (fun e => h12 e.symm)]
      intro hg2
      have := I.low b2 c2 (hst b2 c2 h2 (fun e => h12 e.symm)) g hg2
      simp at hg; omega
    · rw [upd_ne _ _ hn1] at hg
      have hg1 := I.low b1 c1 (hst b1 c1 h1 hn1) g hg
      by_cases hn2 : b2 = b
      · subst hn2; rw [upd_same]; simp; omega
      · rw [upd_ne _ _ hn2]; exact I.disj b1 b2 c1 c2 h12 (hst b1 c1 h1 hn1) (hst b2 c2 h2 hn2) g hg
  · intro b' cs' h g hg hm
    by_cases hne : b' = b
    · subst hne; rw [upd_same] at hg; simp at hg; have := I.bound g hm; omega
    · rw [upd_ne _ _ hne] at hg; exact I.notM b' cs' (hst b' cs' h hne) g hg hm
  · intro b' cs' h g hg
    simp only [World.size_alloc]
    by_cases hne : b' = b
    · subst hne; rw [upd_same] at hg; simp at hg; omega
    · rw [upd_ne _ _ hne] at hg; have := I.low b' cs' (hst b' cs' h hne) g hg; omega
  · intro g h; have := I.bound g h; simp only [World.size_alloc]; omega
  · intro b' cs' h g hg
    by_cases hne : b' = b
    · subst hne; rw [upd_same] at hg; simp at hg; exact .inr (by have := I.grown; omega)
    · rw [upd_ne _ _ hne] at hg; exact I.own b' cs' (hst b' cs' h hne) g hg
  · simp only [World.size_alloc]; have := I.grown; omega
  · intro g hg hO
    rw [heap_alloc_lt _ _ (by have := I.grown; omega)]
    exact I.frame g hg hO
theorem set_getElem? {α : Type} (l : List α) (k j : Nat) (x : α) : (l.set k x)[j]? = if k = j ∧ j < l.length then some x else if k = j then none else l[j]? := by
  rw [List.getElem?_set]
  by_cases h : k = j
  · subst h; by_cases h2 : k < l.length <;> simp [h2]
  · simp [h]
theorem flatten_set_sub : ∀ (Fs : List (List Nat)) (k : Nat), (Fs.set k []).flatten.Sublist Fs.flatten
  | [], k => by simp
  | F :: Fs, 0 => by simp
  | F :: Fs, k + 1 => by simpa using (flatten_set_sub Fs k).append_left F
theorem Cs.set {cs : List AV} {us : List Value} {F : List Nat} (h : Cs φ M w cs us F) {x : AV} {u : Value} (hx : V φ M w x u []) (ho : u.oneCell' = true) (k : Nat) : ∃ F', F'.Sublist F ∧ Cs φ M w (cs.set k x) (us.set k u) F' := by
  obtain ⟨Fs, h1, h2, h3, rfl, h⟩ := h
  refine ⟨(Fs.set k []).flatten, flatten_set_sub _ _, Fs.set k [], by simp [h1], by simp [h2], ?_, rfl, ?_⟩
  · intro u' hu'
    rcases List.mem_or_eq_of_mem_set hu' with hu' | rfl
    · exact h3 u' hu'
    · exact ho
  · intro j y v F a b c
    rw [set_getElem?] at a b c
    by_cases hk : k = j
    · subst hk
      by_cases hl : k < cs.length
      · simp only [true_and, hl, if_true, h1, h2, Option.some.injEq] at a b c
        subst a; subst b; subst c; exact hx
      · simp [hl] at a
    · simp only [hk, false_and, if_false] at a b c
      exact h j y v F a b c
theorem Blk.setCell {w : World} {g : Nat} {C : Array Value} (h : Blk w g C) (i : Nat) (u : Value) : Blk (w.setCell ⟨g, i, none⟩ u) g (C.setIfInBounds i u) := by
  obtain ⟨e, fr, h1, h2⟩ := h
  refine ⟨e, fr, ?_, fun j hj => h2 j (by simpa using hj)⟩
  simp only [World.setCell, Array.getElem?_modify, h1, if_true, Option.map_some]
  simp
theorem heap_setCell_ne (w : World) (a : Addr) (u : Value) {k : Nat} (h : k ≠ a.block) : (w.setCell a u).heap[k]? = w.heap[k]? := by
  simp only [World.setCell, Array.getElem?_modify]
  rw [if_neg (by omega)]
theorem Keeps.setCell (w : World) (g i : Nat) (u : Value) : Keeps w (w.setCell ⟨g, i, none⟩ u) := fun k n hb => by
  obtain ⟨C, e, fr, h1, h2⟩ := hb
  by_cases h : k = g
  · subst h
    exact ⟨C.setIfInBounds i u, e, fr, by simp [World.setCell, Array.getElem?_modify, h1], by simpa using h2⟩
  · exact ⟨C, e, fr, (heap_setCell_ne _ _ _ h).trans h1, h2⟩
theorem Inv.store1 (I : Inv E φ M L st tm w) {b : Nat} {cs : List AV} (hb : st.h b = some (some cs)) {l : Loc} (hl : φ b = some l) {k : Nat} (hk : k < cs.length) {x : AV} {u : Value} (hx : V φ M w x u []) (ho : u.oneCell' = true) :
    ∃ L', Inv E φ M L' (st.put b (some (cs.set k x))) tm (w.setCell ⟨l.g, l.o + k, none⟩ u) ∧ w.cell? ⟨l.g, l.o + k, none⟩ ≠ none ∧ w.frozen? ⟨l.g, l.o + k, none⟩ = false := by
  rcases I.root b cs hb with ⟨_, h2, _⟩ | ⟨l', C, us, F, h2, hB, hn, hc, hcells, hL⟩
  · rw [h2] at hl; cases hl
  rw [hl] at h2
  cases h2
  have hku : k < us.length := by rw [hc.len]; exact hk
  have hCk : C[l.o + k]? = some us[k] := hcells k _ (List.getElem?_eq_getElem hku)
  have hCs : l.o + k < C.size := (Array.getElem?_eq_some_iff.1 hCk).1
  have hgM : ¬ M l.g := I.notM b cs hb l.g (by rw [hL]; simp)
  have hnd := I.nodup b cs hb
  rw [hL] at hnd
  have hgF : l.g ∉ F := (List.nodup_cons.1 hnd).1
  have hw : ∀ g, g ≠ l.g → (w.setCell ⟨l.g, l.o + k, none⟩ u).heap[g]? = w.heap[g]? := fun g h => heap_setCell_ne _ _ _ h
  have hwM : ∀ g, M g → (w.setCell ⟨l.g, l.o + k, none⟩ u).heap[g]? = w.heap[g]? := fun g h => hw g (fun e => hgM (e ▸ h))
  obtain ⟨F', hsub, hc'⟩ := hc.set hx ho k
  have hst : ∀ b' cs', (st.put b (some (cs.set k x))).h b' = some (some cs') → b' ≠ b → st.h b' = some (some cs') := fun b' cs' h hne => by
    simpa [St.put, upd_ne _ _ hne] using h
  have hmem : ∀ b' cs', (st.put b (some (cs.set k x))).h b' = some (some cs') → ∃ cs0, st.h b' = some (some cs0) ∧ ∀ g ∈ upd L b (l.g :: F') b', g ∈ L b' := fun b' cs' h => by
    by_cases hne : b' = b
    · subst hne
      refine ⟨cs, hb, fun g hg => ?_⟩
      rw [upd_same] at hg
      rw [hL]
      rcases List.mem_cons.1 hg with rfl | hg
      · simp
      · exact List.mem_cons_of_mem _ (hsub.subset hg)
    · exact ⟨cs', hst b' cs' h hne, fun g hg => by rwa [upd_ne _ _ hne] at hg⟩
  refine ⟨upd L b (l.g :: F'), ⟨I.size, fun t => (I.env t).mono (fun _ _ h => h) (fun _ h => h) (fun g h => hwM g (h.resolve_right (by simp))), ?_, ?_, ?_, ?_, ?_, ?_, ?_, I.m0, I.m1, ?_, I.os, I.tape, I.output, ?_, ?_, Keeps.trans (w1 := w) I.keep (Keeps.setCell w _ _ _)⟩, ?_, hB.frozen _ (Nat.le_of_lt hCs)⟩
  · intro b' cs' h
    by_cases hne : b' = b
    · subst hne
      simp only [St.put, upd_same, Option.some.injEq] at h
      subst h
      rw [upd_same]
      refine .inr ⟨l, C.setIfInBounds (l.o + k) u, us.set k u, F', hl, hB.setCell _ _, by simpa using hn, hc'.mono (fun _ _ h => h) (fun _ h => h) (fun g hg => hg.elim (hwM g) fun hg => hw g (fun e => hgF (e ▸ hsub.subset hg))), ?_, rfl⟩
      intro j v hj
      rw [set_getElem?] at hj
      rw [Array.getElem?_setIfInBounds]
      by_cases hkj : k = j
      · subst hkj
        simp only [true_and, hku, if_true, Option.some.injEq] at hj
        subst hj
        simp [hCs]
      · simp only [hkj, false_and, if_false] at hj
        rw [if_neg (by omega)]
        exact hcells j v hj
    · rw [upd_ne _ _ hne]
      have hb' := hst b' cs' h hne
      exact (I.root b' cs' hb').mono (fun _ _ h => h) (fun h => h) (fun _ h => h) (fun g hg => hg.elim (hwM g) fun hg => hw g (fun e => I.disj b b' cs cs' (fun e => hne e.symm) hb hb' l.g (by rw [hL]; simp) (e ▸ hg)))
  · intro b' h
    by_cases hne : b' = b
    · subst hne; simp [St.put, upd_same] at h
    · exact I.fresh b' (by simpa [St.put, upd_ne _ _ hne] using h)
  · intro b' cs' h
    by_cases hne : b' = b
    · subst hne; rw [upd_same]; exact hnd.sublist (hsub.cons_cons _)
    · rw [upd_ne _ _ hne]; exact I.nodup b' cs' (hst b' cs' h hne)
  · intro b1 b2 c1 c2 h12 h1 h2 g hg hg2
    obtain ⟨d1, e1, f1⟩ := hmem b1 c1 h1
    obtain ⟨d2, e2, f2⟩ := hmem b2 c2 h2
    exact I.disj b1 b2 d1 d2 h12 e1 e2 g (f1 g hg) (f2 g hg2)
  · intro b' cs' h g hg
    obtain ⟨d1, e1, f1⟩ := hmem b' cs' h
    exact I.notM b' d1 e1 g (f1 g hg)
  · intro b' cs' h g hg
    obtain ⟨d1, e1, f1⟩ := hmem b' cs' h
    simpa using I.low b' d1 e1 g (f1 g hg)
  · intro g h; simpa using I.bound g h
  · intro b' cs' h g hg
    obtain ⟨d1, e1, f1⟩ := hmem b' cs' h
    exact I.own b' d1 e1 g (f1 g hg)
  · simpa using I.grown
  · intro g hg hO
    by_cases hgg : g = l.g
    · subst hgg
      rcases I.own b cs hb l.g (by rw [hL]; simp) with h | h
      · exact absurd h hO
      · omega
    · rw [hw g hgg]; exact I.frame g hg hO
  · rw [hB.cell, hCk]; simp
def over (cs : List AV) (k : Nat) : List AV → List AV
  | [] => cs
  | x :: xs => over (cs.set k x) (k + 1) xs
theorem over_length (xs : List AV) : ∀ (cs : List AV) (k : Nat), (over cs k xs).length = cs.length := by
  induction xs with
  | nil => intro cs k; rfl
  | cons x xs ih => intro cs k; rw [over, ih]; simp
theorem put_put (st : St) (b : Nat) (x y : Option (List AV)) : (st.put b x).put b y = st.put b y := by
  simp only [St.put, St.mk.injEq, true_and, and_true]
  funext i
  simp only [upd]
  split <;> rfl
theorem put_same {st : St} {b : Nat} {x : Option (List AV)} (h : st.h b = some x) : st.put b x = st := by
  cases st
  simp only [St.put, St.mk.injEq, true_and, and_true]
  funext i
  simp only [upd]
  split
  · rename_i e; subst e; exact h.symm
  · rfl
theorem put_h (st : St) (b : Nat) (x : Option (List AV)) : (st.put b x).h b = some x := by simp [St.put, upd_same]
theorem Inv.stores {b : Nat} {l : Loc} (hl : φ b = some l) : ∀ (xs : List AV) (us : List Value) (w : World) (L : Nat → List Nat) (st : St) (cs : List AV) (k i : Nat), Inv E φ M L st tm w → st.h b = some (some cs) → us.length = xs.length →
    k + i + xs.length ≤ cs.length → (∀ u ∈ us, u.oneCell' = true) → (∀ (j : Nat) (x : AV) (u : Value), xs[j]? = some x → us[j]? = some u → V φ M w x u []) →
    ∃ w' L', (storeCells ⟨l.g, l.o + k, none⟩ us i).run P w = .ok () w' ∧ Inv E φ M L' (st.put b (some (over cs (k + i) xs))) tm w'
  | [], us, w, L, st, cs, k, i, I, hb, hlen, _, _, _ => by
    obtain rfl : us = [] := List.length_eq_zero_iff.1 hlen
    exact ⟨w, L, by simp [storeCells], by rw [over, put_same hb]; exact I⟩
  | x :: xs, us, w, L, st, cs, k, i, I, hb, hlen, hk, ho, hv => by
    cases us with
    | nil => simp at hlen
    | cons u us =>
    simp only [List.length_cons] at hk
    obtain ⟨L1, I1, hcell, hfr⟩ := I.store1 hb hl (k := k + i) (by omega) (hv 0 x u rfl rfl) (ho u (by simp))
    obtain ⟨w', L', h1, h2⟩ := Inv.stores hl xs us _ L1 _ (cs.set (k + i) x) k (i + 1) I1 (put_h _ _ _) (by simpa using hlen) (by simp; omega) (fun v hv => ho v (by simp [hv]))
      (fun j y v hy hv' => by
        refine (hv (j + 1) y v (by simpa using hy) (by simpa using hv')).mono (fun _ _ h => h) (fun _ h => h) (fun g hg => ?_)
        have hgM := hg.resolve_right (by simp)
        refine heap_setCell_ne _ _ _ ?_
        rcases I.root b cs hb with ⟨_, h2, _⟩ | ⟨l', C, us, F, h2, hB, hn, hc, hcells, hL⟩
        · rw [h2] at hl; cases hl
        · rw [hl] at h2; cases h2
          rintro rfl
          exact I.notM b cs hb l.g (by rw [hL]; simp) hgM)
    refine ⟨w', L', ?_, by rw [put_put] at h2; exact h2⟩
    obtain ⟨u0, hu0⟩ := Option.ne_none_iff_exists'.1 hcell
    have hadd : (⟨l.g, l.o + k, none⟩ : Addr).add i = ⟨l.g, l.o + (k + i), none⟩ := by rw [add_none, Nat.add_assoc]
    have hst : (store ((⟨l.g, l.o + k, none⟩ : Addr).add i) u).run P w = .ok () (w.setCell ⟨l.g, l.o + (k + i), none⟩ u) := by
      rw [hadd, run_store P w _ u _ (ho u (by simp))]
      simp [hu0, hfr]
    simp only [storeCells, Sem.run_bind, hst, Result.andThen_ok, h1]
def putX (cs : List AV) (k : Nat) (xs : List AV) : List AV := cs.take k ++ (xs ++ cs.drop (k + xs.length))
theorem putX_nil (cs : List AV) (k : Nat) : putX cs k [] = cs := by simp [putX]
theorem putX_cons {cs xs : List AV} {k : Nat} {x : AV} (hk : k ≤ cs.length) : putX (putX cs k [x]) (k + 1) xs = putX cs k (x :: xs) := by
  have e1 : (cs.take k).length = k := by simp; omega
  have h1 : (cs.take k ++ ([x] ++ cs.drop (k + 1))).take (k + 1) = cs.take k ++ [x] := by
    rw [List.take_append, e1, List.take_of_length_le (by omega), show k + 1 - k = 1 by omega]
    rfl
  have h2 : (cs.take k ++ ([x] ++ cs.drop (k + 1))).drop (k + 1 + xs.length) = cs.drop (k + (xs.length + 1)) := by
    rw [List.drop_append, e1, List.drop_of_length_le (by omega), show k + 1 + xs.length - k = xs.length + 1 by omega]
    simp only [List.nil_append, List.singleton_append, List.drop_succ_cons, List.drop_drop]
    congr 1; omega
  simp only [putX, List.length_cons, List.length_nil, Nat.zero_add]
  rw [h1, h2]
  simp
theorem putX_len {cs xs : List AV} {k : Nat} (hk : k ≤ cs.length) : k + xs.length ≤ (putX cs k xs).length := by
  simp only [putX, List.length_append, List.length_take]; omega
theorem putX_one {cs : List AV} {k : Nat} {x : AV} (hk : k < cs.length) : putX cs k [x] = cs.set k x := by
  rw [List.set_eq_take_append_cons_drop, if_pos hk]; rfl
theorem Inv.store1X (I : Inv E φ M L st tm w) {b : Nat} {cs : List AV} (hb : st.h b = some (some cs)) {l : Loc} (hl : φ b = some l) {k : Nat} (hk : k ≤ cs.length) (hr : l.o + k < l.n) {x : AV} {u : Value} (hx : V φ M w x u []) (ho : u.oneCell' = true) :
    ∃ L', Inv E φ M L' (st.put b (some (putX cs k [x]))) tm (w.setCell ⟨l.g, l.o + k, none⟩ u) ∧ w.cell? ⟨l.g, l.o + k, none⟩ ≠ none ∧ w.frozen? ⟨l.g, l.o + k, none⟩ = false := by
  by_cases hlt : k < cs.length
  · rw [putX_one hlt]; exact I.store1 hb hl hlt hx ho
  obtain rfl : k = cs.length := by omega
  have ep : putX cs cs.length [x] = cs ++ [x] := by simp [putX]
  rw [ep]
  rcases I.root b cs hb with ⟨_, h2, _⟩ | ⟨l', C, us, F, h2, hB, hn, hc, hcells, hL⟩
  · rw [h2] at hl; cases hl
  rw [hl] at h2
  cases h2
  have hCs : l.o + cs.length < C.size := by omega
  have hgM : ¬ M l.g := I.notM b cs hb l.g (by rw [hL]; simp)
  have hnd := I.nodup b cs hb
  rw [hL] at hnd
  have hgF : l.g ∉ F := (List.nodup_cons.1 hnd).1
  have hw : ∀ g, g ≠ l.g → (w.setCell ⟨l.g, l.o + cs.length, none⟩ u).heap[g]? = w.heap[g]? := fun g h => heap_setCell_ne _ _ _ h
  have hwM : ∀ g, M g → (w.setCell ⟨l.g, l.o + cs.length, none⟩ u).heap[g]? = w.heap[g]? := fun g h => hw g (fun e => hgM (e ▸ h))
  have hc' : Cs φ M w (cs ++ [x]) (us ++ [u]) F := by
    have := hc.app (Cs.cons hx ho (Cs.nil φ M w))
    simpa using this
  have hst : ∀ b' cs', (st.put b (some (cs ++ [x]))).h b' = some (some cs') → b' ≠ b → st.h b' = some (some cs') := fun b' cs' h hne => by
    simpa [St.put, upd_ne _ _ hne] using h
  have hmem : ∀ b' cs', (st.put b (some (cs ++ [x]))).h b' = some (some cs') → ∃ cs0, st.h b' = some (some cs0) := fun b' cs' h => by
    by_cases hne : b' = b
    · subst hne; exact ⟨cs, hb⟩
    · exact ⟨cs', hst b' cs' h hne⟩
  refine ⟨L, ⟨I.size, fun t => (I.env t).mono (fun _ _ h => h) (fun _ h => h) (fun g h => hwM g (h.resolve_right (by simp))), ?_, ?_, ?_, ?_, ?_, ?_, ?_, I.m0, I.m1, ?_, I.os, I.tape, I.output, ?_, ?_, Keeps.trans (w1 := w) I.keep (Keeps.setCell w _ _ _)⟩, ?_, hB.frozen _ (Nat.le_of_lt hCs)⟩
  · intro b' cs' h
    by_cases hne : b' = b
    · subst hne
      simp only [St.put, upd_same, Option.some.injEq] at h
      subst h
      refine .inr ⟨l, C.setIfInBounds (l.o + cs.length) u, us ++ [u], F, hl, hB.setCell _ _, by simpa using hn, hc'.mono (fun _ _ h => h) (fun _ h => h) (fun g hg => hg.elim (hwM g) fun hg => hw g (fun e => hgF (e ▸ hg))), ?_, hL⟩
      intro j v hj
      rw [Array.getElem?_setIfInBounds]
      by_cases hju : j < us.length
      · rw [List.getElem?_append_left hju] at hj
        rw [if_neg (by have := hc.len; omega)]
        exact hcells j v hj
      · rw [List.getElem?_append_right (by omega)] at hj
        have h0 : j - us.length = 0 := by
          have := (List.getElem?_eq_some_iff.1 hj).1
          simp at this; omega
        rw [h0] at hj
        simp at hj
        subst hj
        rw [if_pos (by have := hc.len; omega), if_pos hCs]
    · have hb' := hst b' cs' h hne
      exact (I.root b' cs' hb').mono (fun _ _ h => h) (fun h => h) (fun _ h => h) (fun g hg => hg.elim (hwM g) fun hg => hw g (fun e => I.disj b b' cs cs' (fun e => hne e.symm) hb hb' l.g (by rw [hL]; simp) (e ▸ hg)))
  · intro b' h
    by_cases hne : b' = b
    · subst hne; simp [St.put, upd_same] at h
    · exact I.fresh b' (by simpa [St.put, upd_ne _ _ hne] using h)
  · intro b' cs' h
    obtain ⟨d1, e1⟩ := hmem b' cs' h
    exact I.nodup b' d1 e1
  · intro b1 b2 c1 c2 h12 h1 h2 g hg hg2
    obtain ⟨d1, e1⟩ := hmem b1 c1 h1
    obtain ⟨d2, e2⟩ := hmem b2 c2 h2
    exact I.disj b1 b2 d1 d2 h12 e1 e2 g hg hg2
  · intro b' cs' h g hg
    obtain ⟨d1, e1⟩ := hmem b' cs' h
    exact I.notM b' d1 e1 g hg
  · intro b' cs' h g hg
    obtain ⟨d1, e1⟩ := hmem b' cs' h
    simpa using I.low b' d1 e1 g hg
  · intro g h; simpa using I.bound g h
  · intro b' cs' h g hg
    obtain ⟨d1, e1⟩ := hmem b' cs' h
    exact I.own b' d1 e1 g hg
  · simpa using I.grown
  · intro g hg hO
    by_cases hgg : g = l.g
    · subst hgg
      rcases I.own b cs hb l.g (by rw [hL]; simp) with h | h
      · exact absurd h hO
      · omega
    · rw [hw g hgg]; exact I.frame g hg hO
  · rw [hB.cell, Array.getElem?_eq_getElem hCs]; simp
theorem Inv.storesX {b : Nat} {l : Loc} (hl : φ b = some l) : ∀ (xs : List AV) (us : List Value) (w : World) (L : Nat → List Nat) (st : St) (cs : List AV) (k i : Nat), Inv E φ M L st tm w → st.h b = some (some cs) → us.length = xs.length →
    k + i ≤ cs.length → l.o + k + i + xs.length ≤ l.n → (∀ u ∈ us, u.oneCell' = true) → (∀ (j : Nat) (x : AV) (u : Value), xs[j]? = some x → us[j]? = some u → V φ M w x u []) →
    ∃ w' L', (storeCells ⟨l.g, l.o + k, none⟩ us i).run P w = .ok () w' ∧ Inv E φ M L' (st.put b (some (putX cs (k + i) xs))) tm w'
  | [], us, w, L, st, cs, k, i, I, hb, hlen, _, _, _, _ => by
    obtain rfl : us = [] := List.length_eq_zero_iff.1 hlen
    exact ⟨w, L, by simp [storeCells], by rw [putX_nil, put_same hb]; exact I⟩
  | x :: xs, us, w, L, st, cs, k, i, I, hb, hlen, hk, hr, ho, hv => by
    cases us with
    | nil => simp at hlen
    | cons u us =>
    simp only [List.length_cons] at hr
    obtain ⟨L1, I1, hcell, hfr⟩ := I.store1X hb hl (k := k + i) hk (by omega) (hv 0 x u rfl rfl) (ho u (by simp))
    have hpl := putX_len (xs := [x]) hk
    obtain ⟨w', L', h1, h2⟩ := Inv.storesX hl xs us _ L1 _ (putX cs (k + i) [x]) k (i + 1) I1 (put_h _ _ _) (by simpa using hlen) (by rw [← Nat.add_assoc]; exact hpl) (by omega) (fun v hv => ho v (by simp [hv]))
      (fun j y v hy hv' => by
        refine (hv (j + 1) y v (by simpa using hy) (by simpa using hv')).mono (fun _ _ h => h) (fun _ h => h) (fun g hg => ?_)
        have hgM := hg.resolve_right (by simp)
        refine heap_setCell_ne _ _ _ ?_
        rcases I.root b cs hb with ⟨_, h2, _⟩ | ⟨l', C, us, F, h2, hB, hn, hc, hcells, hL⟩
        · rw [h2] at hl; cases hl
        · rw [hl] at h2; cases h2
          rintro rfl
          exact I.notM b cs hb l.g (by rw [hL]; simp) hgM)
    refine ⟨w', L', ?_, by rw [put_put, show k + (i + 1) = k + i + 1 by omega, putX_cons hk] at h2; exact h2⟩
    obtain ⟨u0, hu0⟩ := Option.ne_none_iff_exists'.1 hcell
    have hadd : (⟨l.g, l.o + k, none⟩ : Addr).add i = ⟨l.g, l.o + (k + i), none⟩ := by rw [add_none, Nat.add_assoc]
    have hst : (store ((⟨l.g, l.o + k, none⟩ : Addr).add i) u).run P w = .ok () (w.setCell ⟨l.g, l.o + (k + i), none⟩ u) := by
      rw [hadd, run_store P w _ u _ (ho u (by simp))]
      simp [hu0, hfr]
    simp only [storeCells, Sem.run_bind, hst, Result.andThen_ok, h1]
theorem cells_one {v : Value} (ho : v.oneCell' = true) : v.cells = #[v] := by cases v <;> first | rfl | cases ho
theorem cells_ok' {x : AV} {v : Value} {F : List Nat} (h : V φ M w x v F) (hF : F = []) {cs : List AV} (hc : cellsOf x = some cs) : ∃ us : List Value, v.cells = us.toArray ∧ Cs φ M w cs us [] := by
  have one : ∀ {y : AV} {u : Value}, V φ M w y u [] → u.oneCell' = true → ∃ us : List Value, u.cells = us.toArray ∧ Cs φ M w [y] us [] := fun {y u} hy ho => by
    have := Cs.cons hy ho (Cs.nil φ M w)
    exact ⟨[u], by rw [cells_one ho], by simpa using this⟩
  cases h with
  | imm _ _ h => cases h with
    | un => cases hc
    | tup => cases hc
    | sc _ ho => cases hc; exact one (V.sc _ ho) ho
    | em A => cases hc; exact one (V.em A) rfl
    | agg cs' us h1 ho h => cases hc; exact ⟨us, rfl, Ws.cs ⟨h1, ho, h⟩ φ⟩
    | clo f cs' us h1 h => cases hc; exact one (.imm _ _ (.clo f cs' us h1 h)) rfl
    | ro cs' len A c us h0 hA h1 hc' ho h => cases hc; exact one (.imm _ _ (.ro cs' len A c us h0 hA h1 hc' ho h)) rfl
    | rp cs' off g o us h1 hc' ho h => cases hc; exact one (.imm _ _ (.rp cs' off g o us h1 hc' ho h)) rfl
  | tup => cases hc
  | agg cs' us Fs h1 h2 ho h => cases hc; exact ⟨us, rfl, Fs, h1, h2, ho, hF.symm, h⟩
  | clo f cs' us Fs h1 h2 h => cases hc; exact one (hF ▸ V.clo f cs' us Fs h1 h2 h) rfl
  | ref b off l h => cases hc; exact one (.ref b off l h) rfl
  | sl b off len sz lim l c h h1 h2 h3 => cases hc; exact one (.sl b off len sz lim l c h h1 h2 h3) rfl
  | slz b off sz lim A => cases hc; exact one (.slz b off sz lim A) rfl
  | pf b off len cap sz l h h1 h2 => cases hc; exact one (.pf b off len cap sz l h h1 h2) rfl
  | pfz b off sz A => cases hc; exact one (.pfz b off sz A) rfl
  | own => cases hF
  | ownnil sz A => cases hc; exact one (.ownnil sz A) rfl
  | io => cases hF
  | ionil sz A => cases hc; exact one (.ionil sz A) rfl
  | bx => cases hF
theorem cells_ok {x : AV} {v : Value} (h : V φ M w x v []) {cs : List AV} (hc : cellsOf x = some cs) : ∃ us : List Value, v.cells = us.toArray ∧ Cs φ M w cs us [] := cells_ok' h rfl hc
def overV (cs : List Value) (k : Nat) : List Value → List Value
  | [] => cs
  | x :: xs => overV (cs.set k x) (k + 1) xs
theorem Cs.over : ∀ {xs : List AV} {us : List Value} {cs : List AV} {vs : List Value} (k : Nat), Cs φ M w cs vs [] → Cs φ M w xs us [] → Cs φ M w (Am.over cs k xs) (overV vs k us) []
  | [], us, cs, vs, k, h, h' => by
    obtain rfl : us = [] := List.length_eq_zero_iff.1 h'.len
    exact h
  | x :: xs, us, cs, vs, k, h, h' => by
    cases us with
    | nil => have := h'.len; simp at this
    | cons u us =>
    rw [Am.over, overV]
    refine Cs.over (k + 1) ?_ (Cs.of_all (by have := h'.len; simpa using this) (fun v hv => h'.one v (by simp [hv])) fun j y v a b => h'.all (j + 1) y v (by simpa using a) (by simpa using b))
    obtain ⟨F', hs, hc⟩ := h.set (h'.all 0 x u rfl rfl) (h'.one u (by simp)) k
    obtain rfl : F' = [] := List.sublist_nil.1 hs
    exact hc
theorem foldl_overV (us : List Value) : ∀ (off : Nat) (k : Nat) (cells : Array Value), (us.zipIdx k).foldl (fun cs x => cs.setIfInBounds (off + x.2) x.1) cells = (overV cells.toList (off + k) us).toArray := by
  induction us with
  | nil => intro off k cells; simp [overV]
  | cons u us ih =>
    intro off k cells
    rw [List.zipIdx_cons, List.foldl_cons, ih, overV]
    simp [Nat.add_assoc]
def fillA (ρ : Nat → AV) (cells : List AV) : List (Nat × Nat × AX) → Option (List AV)
  | [] => some cells
  | (off, n, x) :: rest => match cellsOf (x.ev ρ) with
    | some cs => if cs.length = n ∧ off + n ≤ cells.length then fillA ρ (over cells off cs) rest else none
    | none => none
theorem fill_ok {a : Act} (I : Inv E φ M L st a.tmps w) {place : Nat → Option (Nat × Nat)} : ∀ {parts : List (Nat × Operand)} {parts' : List (Nat × Nat × AX)} {cells : List AV} {vs : List Value} {out : List AV},
    (parts.mapM fun (i, x) => (place i).bind fun (off, n) => (cx x).map fun x' => (off, n, x')) = some parts' → Cs φ M w cells vs [] → fillA st.ρ cells parts' = some out →
    ∃ vs', Instr.fill place vs.toArray (parts.map fun (i, x) => (i, a.eval x)) = some vs'.toArray ∧ Cs φ M w out vs' []
  | [], parts', cells, vs, out, hp, hc, hf => by
    simp at hp; subst hp
    simp only [fillA, Option.some.injEq] at hf
    subst hf
    exact ⟨vs, rfl, hc⟩
  | (i, x) :: parts, parts', cells, vs, out, hp, hc, hf => by
    simp only [List.mapM_cons, Option.bind_eq_bind, Option.bind_eq_some_iff, Option.pure_def, Option.some.injEq, Option.map_eq_some_iff] at hp
    obtain ⟨_, ⟨⟨off, n⟩, hpl, x', hx, rfl⟩, ps', hps, rfl⟩ := hp
    simp only [fillA] at hf
    split at hf <;> (try cases hf)
    rename_i cs hcs
    split at hf <;> (try cases hf)
    rename_i hle
    obtain ⟨us, hus, hcu⟩ := cells_ok (I.ev hx) hcs
    have hlen := hcu.len
    have hlen2 := hc.len
    obtain ⟨vs', h1, h2⟩ := fill_ok I (place := place) (by simpa using hps) (hc.over off hcu) hf
    refine ⟨vs', ?_, h2⟩
    simp only [List.map_cons, Instr.fill, hpl, hus]
    rw [if_neg (by simp; omega), ← h1]
    congr 1
    have := foldl_overV us off 0 vs.toArray
    simp only [Nat.add_zero] at this
    rw [← this]
    simp
end
end Go.Proofs.YtiejaibmcmicoaaGreatDoor.Am
