/- How arguments are handed over and results are taken: the proofs; no condition. -/
import Derived.Test.YtiejaibmcmicoaaGreatDoorAm6
namespace Go.Proofs.YtiejaibmcmicoaaGreatDoor.Am
open Go
inductive Md where
  | ro
  | mv (sz : Nat)
  | io
  | st (ms : List Md)
  deriving Inhabited
def ex1 (m : Md) (x : AV) (st : St) : Option (Option AV × Option Nat × St) :=
  match m with
  | .ro => some (none, none, st)
  | .mv sz => match x with
    | .em => some (some (.own [] 0 sz), none, st)
    | .sl b 0 len sz' false => match st.h b with
      | some (some cs) => if sz = sz' ∧ cs.length = len * sz ∧ idfree.idfreeL cs = true then some (some (.own cs len sz), none, st.put b none) else none
      | _ => none
    | _ => none
  | .st _ => none
  | .io => match x with
    | .sl b 0 len sz false => match st.h b with
      | some (some cs) => if cs.length = len * sz ∧ idfree.idfreeL cs = true then some (some (.io cs len sz), some b, st.put b none) else none
      | _ => none
    | .ref b 0 => match st.h b with
      | some (some cs) => if idfree.idfreeL cs = true then some (some (.bx cs), some b, st.put b none) else none
      | _ => none
    | _ => none
def exL : List (Md × AV) → St → Option (List (Option AV × Option Nat) × St)
  | [], st => some ([], st)
  | (m, x) :: l, st => match ex1 m x st with
    | some (y, bk, st1) => (exL l st1).map fun p => ((y, bk) :: p.1, p.2)
    | none => none
def shutArgs (h : Nat → Option (Option (List AV))) : List (Md × AV) → List (Option AV × Option Nat) → Option (List AV)
  | (_, x) :: l, (y, _) :: r => match (match y with | some y => some y | none => roc h 8 x) with
    | some y => (shutArgs h l r).map (y :: ·)
    | none => none
  | [], [] => some []
  | _, _ => none
def flat1 : Md × AV → Option (List (Md × AV))
  | (.st ms, .agg xs) => if ms.length = xs.length then some (ms.zip xs) else none
  | (.st _, _) => none
  | p => some [p]
def flatL : List (Md × AV) → Option (List (Md × AV))
  | [] => some []
  | p :: l => match flat1 p, flatL l with
    | some a, some b => some (a ++ b)
    | _, _ => none
def asm : List Md → List AV → Option (List AV)
  | [], [] => some []
  | .st ms :: l, ys => if ms.length ≤ ys.length then (asm l (ys.drop ms.length)).map (.agg (ys.take ms.length) :: ·) else none
  | _ :: l, y :: ys => (asm l ys).map (y :: ·)
  | _, _ => none
def outF : List Md → List AV → Option (List AV)
  | [], [] => some []
  | .st ms :: l, .agg os :: outs => if os.length = ms.length then (outF l outs).map (os ++ ·) else none
  | .st ms :: l, .un :: outs => (outF l outs).map (List.replicate ms.length .un ++ ·)
  | .st _ :: _, _ :: _ => none
  | _ :: l, o :: outs => (outF l outs).map (o :: ·)
  | _, _ => none
def isGone : Option (Option (List AV)) → Bool
  | some none => true
  | _ => false
def backL : List (Option AV × Option Nat) → List AV → St → Option St
  | (y, some b) :: l, o :: outs, st => match y, o with
    | some (.io cs len sz), .io cs' len' sz' => if len = len' ∧ sz = sz' ∧ cs'.length = cs.length ∧ isGone (st.h b) = true then backL l outs (st.put b (some cs')) else none
    | some (.bx cs), .bx cs' => if cs'.length = cs.length ∧ isGone (st.h b) = true then backL l outs (st.put b (some cs')) else none
    | _, _ => none
  | (_, none) :: l, _ :: outs, st => backL l outs st
  | [], [], st => some st
  | _, _, _ => none
mutual
def inst : Nat → Nat → AV → St → Option (AV × St)
  | 0, _, _, _ => none
  | n + 1, d, x, st => match x with
    | .own cs len sz => match st.h d with
      | none => some (.sl d 0 len sz false, st.put d (some cs))
      | _ => none
    | .io cs len sz => match st.h d with
      | none => some (.sl d 0 len sz false, st.put d (some cs))
      | _ => none
    | .bx cs => match st.h d with
      | none => some (.ref d 0, st.put d (some cs))
      | _ => none
    | .tup cs => (instL n (1000 * (d + 1)) cs st).map fun p => (.tup p.1, p.2)
    | .agg cs => (instL n (1000 * (d + 1)) cs st).map fun p => (.agg p.1, p.2)
    | x => if shut x then some (x, st) else none
def instL : Nat → Nat → List AV → St → Option (List AV × St)
  | _, _, [], st => some ([], st)
  | 0, _, _ :: _, _ => none
  | n + 1, d, x :: l, st => match inst n d x st with
    | some (y, st1) => (instL n (d + 1) l st1).map fun p => (y :: p.1, p.2)
    | none => none
end
section
variable {E : Ent} {φ : Nat → Option Loc} {M M' : Nat → Prop} {L : Nat → List Nat} {st st' st1 : St} {a : Act} {w w' : World} {P : Program} {o : Oper}
theorem Free.put {g : Nat} (h : Free E M L st g) (b : Nat) : Free E M L (st.put b none) g :=
  ⟨fun b' cs' hb' => by
    by_cases hne : b' = b
    · subst hne; simp [St.put, upd_same] at hb'
    · exact h.1 b' cs' (put_live hb' hne), h.2.1, h.2.2⟩
theorem notFree {b : Nat} {cs : List AV} (hb : st.h b = some (some cs)) {g : Nat} (hg : g ∈ L b) : ¬ Free E M L st g := fun h => h.1 b cs hb hg
theorem nofφ (φ : Nat → Option Loc) : ∀ b l, nof b = some l → φ b = some l := fun _ _ h => by cases h
def Bk (φ : Nat → Option Loc) (M : Nat → Prop) (w : World) (L : Nat → List Nat) (b : Nat) (n : Nat) (v : Value) (F T : List Nat) : Prop :=
  (∃ l C len c, φ b = some l ∧ Blk w l.g C ∧ C.size = l.n ∧ F.head? = some l.g ∧ (v = .slice (some ⟨l.g, l.o, none⟩) len c ∨ v = .pointer (some ⟨l.g, l.o, none⟩))) ∨ (n = 0 ∧ F = [] ∧ T = L b ∧ Root φ M w b [] (L b) ∧ ∃ A, v = .slice A 0 0)
theorem ex1_ok (I : Inv E φ M L st a.tmps w) {m : Md} {x : AV} {v : Value} (hv : V φ M w x v []) {y : Option AV} {bk : Option Nat} (h : ex1 m x st = some (y, bk, st1)) :
    Inv E φ M L st1 a.tmps w ∧ ∃ F T, (F = T ∨ F = []) ∧ (y = none → F = []) ∧ (∀ y', y = some y' → V nof M w y' v F) ∧ T.Nodup ∧ (∀ g ∈ T, Free E M L st1 g ∧ g < w.heap.size ∧ ¬ Free E M L st g) ∧ (∀ g, Free E M L st g → Free E M L st1 g) ∧
      (∀ b, bk = some b → st1.h b = some none ∧ ∃ n, (∃ cs len sz, y = some (.io cs len sz) ∧ cs.length = n ∧ Bk φ M w L b n v F T) ∨ (∃ cs, y = some (.bx cs) ∧ cs.length = n ∧ Bk φ M w L b n v F T)) := by
  unfold ex1 at h
  split at h
  · cases h
    exact ⟨I, [], [], .inl rfl, fun _ => rfl, by simp, by simp, by simp, fun _ h => h, by simp⟩
  · split at h
    · cases h
      obtain ⟨A, rfl⟩ := vem hv
      exact ⟨I, [], [], .inl rfl, fun _ => rfl, fun y' e => by cases e; exact .ownnil _ _, by simp, by simp, fun _ h => h, by simp⟩
    · rename_i b len sz'
      split at h <;> (try cases h)
      rename_i cs hb
      split at h <;> cases h
      rename_i hc
      obtain ⟨rfl, hl, hi⟩ := hc
      obtain ⟨I1, hfree⟩ := I.kill hb
      refine ⟨I1, ?_⟩
      obtain ⟨_, ⟨rfl, A, rfl⟩ | ⟨l, c, hlo, rfl, h1, h2, h3⟩⟩ := vsl hv
      · obtain rfl : cs = [] := List.length_eq_zero_iff.1 (by simpa using hl)
        exact ⟨[], L b, .inr rfl, fun _ => rfl, fun y' e => by cases e; exact .ownnil _ _, I.nodup b [] hb, fun g hg => ⟨hfree g hg, I.low b [] hb g hg, notFree hb hg⟩, fun _ h => h.put b, by simp⟩
      · rcases I.root b cs hb with ⟨_, h2', _⟩ | ⟨l', C, us, F', h2', hB, hn, hco, hcells, hLb⟩
        · rw [hlo] at h2'; cases h2'
        rw [hlo] at h2'; cases h2'
        have hnd := I.nodup b cs hb
        refine ⟨L b, L b, .inl rfl, (by intro e; cases e), fun y' e => ?_, hnd, fun g hg => ⟨hfree g hg, I.low b cs hb g hg, notFree hb hg⟩, fun _ h => h.put b, by simp⟩
        cases e
        rw [hLb]
        obtain ⟨Fs, e1, e2, e3, rfl, e5⟩ := hco
        rw [Nat.add_zero]
        exact .own cs len _ l.g l.o c C us Fs e1 e2 hB h1 hl (by omega) hcells e3 fun j x u F p q r => (e5 j x u F p q r).free (idfreeL_mem hi x (List.mem_of_getElem? p))
    · cases h
  · cases h
  · split at h
    · rename_i b len sz'
      split at h <;> (try cases h)
      rename_i cs hb
      split at h <;> cases h
      rename_i hc
      obtain ⟨hl, hi⟩ := hc
      obtain ⟨I1, hfree⟩ := I.kill hb
      refine ⟨I1, ?_⟩
      obtain ⟨_, ⟨rfl, A, rfl⟩ | ⟨l, c, hlo, rfl, h1, h2, h3⟩⟩ := vsl hv
      · obtain rfl : cs = [] := List.length_eq_zero_iff.1 (by simpa using hl)
        exact ⟨[], L b, .inr rfl, fun _ => rfl, fun y' e => by cases e; exact .ionil _ _, I.nodup b [] hb, fun g hg => ⟨hfree g hg, I.low b [] hb g hg, notFree hb hg⟩, fun _ h => h.put b, fun b' e => by
          cases e; exact ⟨put_h _ _ _, 0, .inl ⟨[], 0, sz', rfl, rfl, .inr ⟨rfl, rfl, rfl, I.root b [] hb, A, rfl⟩⟩⟩⟩
      · rcases I.root b cs hb with ⟨_, h2', _⟩ | ⟨l', C, us, F', h2', hB, hn, hco, hcells, hLb⟩
        · rw [hlo] at h2'; cases h2'
        rw [hlo] at h2'; cases h2'
        have hnd := I.nodup b cs hb
        refine ⟨L b, L b, .inl rfl, (by intro e; cases e), fun y' e => ?_, hnd, fun g hg => ⟨hfree g hg, I.low b cs hb g hg, notFree hb hg⟩, fun _ h => h.put b, fun b' e => by
          cases e; exact ⟨put_h _ _ _, cs.length, .inl ⟨cs, len, sz', rfl, rfl, .inl ⟨l, C, len, c, hlo, hB, hn, by rw [hLb]; rfl, .inl rfl⟩⟩⟩⟩
        cases e
        rw [hLb]
        obtain ⟨Fs, e1, e2, e3, rfl, e5⟩ := hco
        rw [Nat.add_zero]
        exact .io cs len sz' l.g l.o c C us Fs e1 e2 hB h1 hl (by omega) hcells e3 fun j x u F p q r => (e5 j x u F p q r).free (idfreeL_mem hi x (List.mem_of_getElem? p))
    · rename_i b
      split at h <;> (try cases h)
      rename_i cs hb
      split at h <;> cases h
      rename_i hi
      obtain ⟨I1, hfree⟩ := I.kill hb
      refine ⟨I1, ?_⟩
      obtain ⟨l, hlo, rfl⟩ := vref hv
      rcases I.root b cs hb with ⟨_, h2', _⟩ | ⟨l', C, us, F', h2', hB, hn, hco, hcells, hLb⟩
      · rw [hlo] at h2'; cases h2'
      rw [hlo] at h2'; cases h2'
      have hnd := I.nodup b cs hb
      refine ⟨L b, L b, .inl rfl, (by intro e; cases e), fun y' e => ?_, hnd, fun g hg => ⟨hfree g hg, I.low b cs hb g hg, notFree hb hg⟩, fun _ h => h.put b, fun b' e => by
        cases e; exact ⟨put_h _ _ _, cs.length, .inr ⟨cs, rfl, rfl, .inl ⟨l, C, 0, 0, hlo, hB, hn, by rw [hLb]; rfl, .inr rfl⟩⟩⟩⟩
      cases e
      rw [hLb]
      obtain ⟨Fs, e1, e2, e3, rfl, e5⟩ := hco
      rw [Nat.add_zero]
      exact .bx cs l.g l.o C us Fs e1 e2 hB hcells e3 fun j x u F p q r => (e5 j x u F p q r).free (idfreeL_mem hi x (List.mem_of_getElem? p))
    · cases h
theorem Inv.step (I : Inv E φ M L st a.tmps w) (hM : ∀ g, M g → M' g) (hM' : ∀ g, M' g → M g ∨ Free E M L st g ∨ w.heap.size ≤ g) (hlow : ∀ g, M' g → g < w'.heap.size) (hsz : w.heap.size ≤ w'.heap.size)
    (hos : w'.os = w.os) (htape : w'.tape = w.tape) (hout : w'.output = w.output) (hkeep : Keeps w w') (hk : ∀ g, g < w.heap.size → ¬ Free E M L st g → w'.heap[g]? = w.heap[g]?) : Inv E φ M' L st a.tmps w' := by
  have hMw : ∀ g, M g → w'.heap[g]? = w.heap[g]? := fun g h => hk g (I.bound g h) fun hf => hf.2.1 h
  have hliv : ∀ b' cs', st.h b' = some (some cs') → ∀ g ∈ L b', w'.heap[g]? = w.heap[g]? := fun b' cs' h g hg => hk g (I.low b' cs' h g hg) fun hf => hf.1 b' cs' h hg
  refine ⟨I.size, fun t => (I.env t).mono (fun _ _ h => h) hM (fun g h => hMw g (h.resolve_right (by simp))), fun b cs h => (I.root b cs h).mono (fun _ _ h => h) (fun h => h) hM (fun g hg => hg.elim (hMw g) (hliv b cs h g)), I.fresh, I.nodup, I.disj, ?_, fun b cs h g hg => by have := I.low b cs h g hg; omega, hlow, fun g h => hM g (I.m0 g h), (fun g h => by
      rcases hM' g h with h1 | h1 | h1
      · exact I.m1 g h1
      · exact .inr h1.2.2
      · exact .inr (.inr (by have := I.grown; omega))), I.own,
    hos.trans I.os, htape.trans I.tape, hout.trans I.output, by have := I.grown; omega, ?_, Keeps.trans (w1 := w) I.keep hkeep⟩
  · intro b cs h g hg hm
    rcases hM' g hm with h1 | h1 | h1
    · exact I.notM b cs h g hg h1
    · exact h1.1 b cs h hg
    · have := I.low b cs h g hg; omega
  · intro g hg hO
    rw [hk g (by have := I.grown; omega) fun hf => by rcases hf.2.2 with h | h; exact hO h; omega]
    exact I.frame g hg hO
theorem Inv.put (I : Inv E φ M L st a.tmps w) {d : Nat} (hd : ∀ cs, st.h d ≠ some (some cs)) {cs : List AV} {L' : List Nat} (loc : Option Loc) (hφd : φ d = none ∨ φ d = loc) (hL : ∀ g ∈ L', Free E M L st g ∧ g < w.heap.size) (hnd : L'.Nodup)
    (hr : Root (upd φ d loc) M w d cs L') : Inv E (upd φ d loc) M (upd L d L') (st.put d (some cs)) a.tmps w ∧ ∀ g, Free E M L st g → g ∉ L' → Free E M (upd L d L') (st.put d (some cs)) g := by
  have hφ : ∀ b' l, φ b' = some l → upd φ d loc b' = some l := fun b' l h => by
    by_cases e : b' = d
    · subst e; rw [upd_same]; rcases hφd with h1 | h1 <;> rw [h1] at h
      · cases h
      · exact h
    · rw [upd_ne _ _ e]; exact h
  refine ⟨⟨I.size, fun t => (I.env t).mono hφ (fun _ h => h) (fun _ _ => rfl), ?_, ?_, ?_, ?_, ?_, ?_, I.bound, I.m0, I.m1, ?_, I.os, I.tape, I.output, I.grown, I.frame, I.keep⟩, ?_⟩
  · intro b' cs' h
    by_cases hne : b' = d
    · subst hne
      simp only [St.put, upd_same, Option.some.injEq] at h
      subst h
      rw [upd_same]; exact hr
    · rw [upd_ne _ _ hne]
      exact (I.root b' cs' (put_live h hne)).mono hφ (fun h => by rw [upd_ne _ _ hne]; exact h) (fun _ h => h) (fun _ _ => rfl)
  · intro b' h
    by_cases hne : b' = d
    · subst hne; simp [St.put, upd_same] at h
    · rw [upd_ne _ _ hne]; exact I.fresh b' (by simpa [St.put, upd_ne _ _ hne] using h)
  · intro b' cs' h
    by_cases hne : b' = d
    · subst hne; rw [upd_same]; exact hnd
    · rw [upd_ne _ _ hne]; exact I.nodup b' cs' (put_live h hne)
  · intro b1 b2 c1 c2 h12 h1 h2 g hg
    by_cases hn1 : b1 = d
    · subst hn1
      rw [upd_same] at hg
      rw [upd_ne _ _ (fun e => h12 e.symm)]
      exact (hL g hg).1.1 b2 c2 (put_live h2 (fun e => h12 e.symm))
    · rw [upd_ne _ _ hn1] at hg
      by_cases hn2 : b2 = d
      · subst hn2; rw [upd_same]; exact fun hg2 => (hL g hg2).1.1 b1 c1 (put_live h1 hn1) hg
      · rw [upd_ne _ _ hn2]; exact I.disj b1 b2 c1 c2 h12 (put_live h1 hn1) (put_live h2 hn2) g hg
  · intro b' cs' h g hg hm
    by_cases hne : b' = d
    · subst hne; rw [upd_same] at hg; exact (hL g hg).1.2.1 hm
    · rw [upd_ne _ _ hne] at hg; exact I.notM b' cs' (put_live h hne) g hg hm
  · intro b' cs' h g hg
    by_cases hne : b' = d
    · subst hne; rw [upd_same] at hg; exact (hL g hg).2
    · rw [upd_ne _ _ hne] at hg; exact I.low b' cs' (put_live h hne) g hg
  · intro b' cs' h g hg
    by_cases hne : b' = d
    · subst hne; rw [upd_same] at hg; exact (hL g hg).1.2.2
    · rw [upd_ne _ _ hne] at hg; exact I.own b' cs' (put_live h hne) g hg
  · intro g hf hg
    refine ⟨fun b' cs' h => ?_, hf.2.1, hf.2.2⟩
    by_cases hne : b' = d
    · subst hne; rw [upd_same]; exact hg
    · rw [upd_ne _ _ hne]; exact hf.1 b' cs' (put_live h hne)
theorem V.lift {x : AV} {v : Value} {F : List Nat} (h : V nof M w x v F) (φ : Nat → Option Loc) : V φ M w x v F := h.mono (nofφ φ) (fun _ h => h) (fun _ _ => rfl)
structure Took (E : Ent) (φ : Nat → Option Loc) (M : Nat → Prop) (L : Nat → List Nat) (st : St) (tm : Array Value) (w : World) (F : List Nat) (φ' : Nat → Option Loc) (L' : Nat → List Nat) (st' : St) : Prop where
  inv : Inv E φ' M L' st' tm w
  ext : ∀ b l, φ b = some l → φ' b = some l
  free : ∀ g, Free E M L st g → g ∉ F → Free E M L' st' g
theorem take_own (I : Inv E φ M L st a.tmps w) {d : Nat} (hd : st.h d = none) {cs : List AV} {len sz : Nat} {v : Value} {F : List Nat} (h : V nof M w (.own cs len sz) v F) (hnd : F.Nodup) (hF : ∀ g ∈ F, Free E M L st g ∧ g < w.heap.size) :
    ∃ φ' L', Took E φ M L st a.tmps w F φ' L' (st.put d (some cs)) ∧ V φ' M w (.sl d 0 len sz false) v [] := by
  have hext : ∀ loc b l, φ b = some l → upd φ d loc b = some l := fun loc b l h => by
    have : b ≠ d := by rintro rfl; rw [I.fresh _ hd] at h; cases h
    rw [upd_ne _ _ this]; exact h
  cases h with
  | imm _ _ h => cases h
  | own _ _ _ g o c C us Fs h1 h2 hb hl hs hr hc ho h =>
    obtain ⟨I', hf'⟩ := I.put (d := d) (by simp [hd]) (cs := cs) (some ⟨g, o, C.size⟩) (.inl (I.fresh _ hd)) hF hnd
      (.inr ⟨_, C, us, Fs.flatten, upd_same _ _ _, hb, rfl, ⟨Fs, h1, h2, ho, rfl, fun j x u F a b c => (h j x u F a b c).lift _⟩, hc, rfl⟩)
    refine ⟨_, _, ⟨I', hext _, fun g hg hn => hf' g hg hn⟩, ?_⟩
    have := V.sl (φ := upd φ d (some ⟨g, o, C.size⟩)) (M := M) (w := w) d 0 len sz false ⟨g, o, C.size⟩ c (upd_same _ _ _) hl (by simpa using hr) (fun h => by cases h)
    simpa using this
  | ownnil _ A =>
    obtain ⟨I', hf'⟩ := I.put (d := d) (by simp [hd]) (cs := []) none (.inl (I.fresh _ hd)) (L' := []) (by simp) (by simp) (root_nil rfl d)
    exact ⟨_, _, ⟨I', hext _, fun g hg hn => hf' g hg hn⟩, .slz _ _ _ _ _⟩
theorem take_bx (I : Inv E φ M L st a.tmps w) {d : Nat} (hd : st.h d = none) {cs : List AV} {v : Value} {F : List Nat} (h : V nof M w (.bx cs) v F) (hnd : F.Nodup) (hF : ∀ g ∈ F, Free E M L st g ∧ g < w.heap.size) :
    ∃ φ' L', Took E φ M L st a.tmps w F φ' L' (st.put d (some cs)) ∧ V φ' M w (.ref d 0) v [] := by
  cases h with
  | imm _ _ h => cases h
  | bx _ g o C us Fs h1 h2 hb hc ho h =>
    have hext : ∀ b l, φ b = some l → upd φ d (some ⟨g, o, C.size⟩) b = some l := fun b l h => by
      have : b ≠ d := by rintro rfl; rw [I.fresh _ hd] at h; cases h
      rw [upd_ne _ _ this]; exact h
    obtain ⟨I', hf'⟩ := I.put (d := d) (by simp [hd]) (cs := cs) (some ⟨g, o, C.size⟩) (.inl (I.fresh _ hd)) hF hnd
      (.inr ⟨_, C, us, Fs.flatten, upd_same _ _ _, hb, rfl, ⟨Fs, h1, h2, ho, rfl, fun j x u F a b c => (h j x u F a b c).lift _⟩, hc, rfl⟩)
    exact ⟨_, _, ⟨I', hext, fun g hg hn => hf' g hg hn⟩, .ref d 0 ⟨g, o, C.size⟩ (upd_same _ _ _)⟩
theorem Took.trans {φ' φ'' : Nat → Option Loc} {L' L'' : Nat → List Nat} {st'' : St} {F F' : List Nat} (h : Took E φ M L st a.tmps w F φ' L' st') (k : Took E φ' M L' st' a.tmps w F' φ'' L'' st'') : Took E φ M L st a.tmps w (F ++ F') φ'' L'' st'' :=
  ⟨k.inv, fun b l e => k.ext b l (h.ext b l e), fun g hg hn => k.free g (h.free g hg fun e => hn (List.mem_append.2 (.inl e))) fun e => hn (List.mem_append.2 (.inr e))⟩
theorem Took.refl (I : Inv E φ M L st a.tmps w) (F : List Nat) : Took E φ M L st a.tmps w F φ L st := ⟨I, fun _ _ h => h, fun _ h _ => h⟩
mutual
theorem inst_ok : ∀ (n d : Nat) (x : AV) (st st' : St) (φ : Nat → Option Loc) (L : Nat → List Nat) (v : Value) (F : List Nat) (y : AV), Inv E φ M L st a.tmps w → V nof M w x v F → F.Nodup → (∀ g ∈ F, Free E M L st g ∧ g < w.heap.size) → inst n d x st = some (y, st') →
    ∃ φ' L', Took E φ M L st a.tmps w F φ' L' st' ∧ V φ' M w y v []
  | 0, d, x, st, st', φ, L, v, F, y, I, h, hnd, hF, hi => by simp [inst] at hi
  | n + 1, d, x, st, st', φ, L, v, F, y, I, h, hnd, hF, hi => by
    cases x
    case own cs len sz =>
      simp only [inst] at hi
      split at hi <;> cases hi
      rename_i hd
      exact take_own I hd h hnd hF
    case io cs len sz =>
      simp only [inst] at hi
      split at hi <;> cases hi
      rename_i hd
      refine take_own I hd ?_ hnd hF
      cases h with
      | imm _ _ h => cases h
      | io _ _ _ g o c C us Fs h1 h2 hb hl hs hr hc ho h => exact .own cs len sz g o c C us Fs h1 h2 hb hl hs hr hc ho h
      | ionil _ A => exact .ownnil sz A
    case bx cs =>
      simp only [inst] at hi
      split at hi <;> cases hi
      rename_i hd
      exact take_bx I hd h hnd hF
    case tup cs =>
      simp only [inst] at hi
      obtain ⟨⟨ys, st2⟩, hp, e⟩ := Option.map_eq_some_iff.1 hi
      simp only [Prod.mk.injEq] at e
      obtain ⟨rfl, rfl⟩ := e
      cases h with
      | imm _ _ h =>
        cases h with
        | tup _ us h1 h =>
          obtain ⟨φ', L', T, hys⟩ := instL_ok n _ cs st _ φ L us (List.replicate cs.length []) ys I h1 (by simp) (fun j x u F a b c => by
            obtain rfl : F = [] := (List.mem_replicate.1 (List.mem_of_getElem? c)).2
            exact .imm _ _ (h j x u a b)) (by simp) (by simp) hp
          exact ⟨φ', L', ⟨T.inv, T.ext, fun g hg hn => T.free g hg (by simp)⟩, V.tupOf hys.1 hys.2⟩
      | tup _ us Fs h1 h2 h =>
        obtain ⟨φ', L', T, hys⟩ := instL_ok n _ cs st _ φ L us Fs ys I h1 h2 h hnd hF hp
        exact ⟨φ', L', T, V.tupOf hys.1 hys.2⟩
    case agg cs =>
      simp only [inst] at hi
      obtain ⟨⟨ys, st2⟩, hp, e⟩ := Option.map_eq_some_iff.1 hi
      simp only [Prod.mk.injEq] at e
      obtain ⟨rfl, rfl⟩ := e
      cases h with
      | imm _ _ h =>
        cases h with
        | agg _ us h1 ho h =>
          obtain ⟨φ', L', T, hys⟩ := instL_ok n _ cs st _ φ L us (List.replicate cs.length []) ys I h1 (by simp) (fun j x u F a b c => by
            obtain rfl : F = [] := (List.mem_replicate.1 (List.mem_of_getElem? c)).2
            exact .imm _ _ (h j x u a b)) (by simp) (by simp) hp
          exact ⟨φ', L', ⟨T.inv, T.ext, fun g hg hn => T.free g hg (by simp)⟩, V.aggOf (Cs.of_all hys.1 ho hys.2)⟩
      | agg _ us Fs h1 h2 ho h =>
        obtain ⟨φ', L', T, hys⟩ := instL_ok n _ cs st _ φ L us Fs ys I h1 h2 h hnd hF hp
        exact ⟨φ', L', T, V.aggOf (Cs.of_all hys.1 ho hys.2)⟩
    all_goals
      simp only [inst] at hi
      split at hi <;> cases hi
      rename_i hs
      exact ⟨φ, L, Took.refl I F, .imm _ _ (h.toW hs)⟩
theorem instL_ok : ∀ (n d : Nat) (xs : List AV) (st st' : St) (φ : Nat → Option Loc) (L : Nat → List Nat) (vs : List Value) (Fs : List (List Nat)) (ys : List AV), Inv E φ M L st a.tmps w → vs.length = xs.length → Fs.length = xs.length →
    (∀ (j : Nat) (x : AV) (v : Value) (F : List Nat), xs[j]? = some x → vs[j]? = some v → Fs[j]? = some F → V nof M w x v F) → Fs.flatten.Nodup → (∀ g ∈ Fs.flatten, Free E M L st g ∧ g < w.heap.size) → instL n d xs st = some (ys, st') →
    ∃ φ' L', Took E φ M L st a.tmps w Fs.flatten φ' L' st' ∧ vs.length = ys.length ∧ ∀ (j : Nat) (y : AV) (v : Value), ys[j]? = some y → vs[j]? = some v → V φ' M w y v []
  | n, d, [], st, st', φ, L, vs, Fs, ys, I, h1, h2, h, hnd, hF, hi => by
    have : ys = [] ∧ st' = st := by cases n <;> simp [instL] at hi <;> exact ⟨hi.1, hi.2.symm⟩
    obtain ⟨rfl, rfl⟩ := this
    obtain rfl : vs = [] := List.length_eq_zero_iff.1 h1
    exact ⟨φ, L, Took.refl I _, rfl, by simp⟩
  | 0, d, x :: xs, st, st', φ, L, vs, Fs, ys, I, h1, h2, h, hnd, hF, hi => by simp [instL] at hi
  | n + 1, d, x :: xs, st, st', φ, L, vs, Fs, ys, I, h1, h2, h, hnd, hF, hi => by
    rw [instL] at hi
    split at hi <;> (try cases hi)
    rename_i y st1 hx
    obtain ⟨⟨ys', st2⟩, hp, e⟩ := Option.map_eq_some_iff.1 hi
    simp only [Prod.mk.injEq] at e
    obtain ⟨rfl, rfl⟩ := e
    cases vs with
    | nil => simp at h1
    | cons v vs =>
    cases Fs with
    | nil => simp at h2
    | cons F Fs =>
    rw [List.flatten_cons] at hnd hF ⊢
    obtain ⟨n1, n2, n3⟩ := List.nodup_append.1 hnd
    obtain ⟨φ1, L1, T1, hy⟩ := inst_ok n d x st st1 φ L v F y I (h 0 x v F rfl rfl rfl) n1 (fun g hg => hF g (List.mem_append.2 (.inl hg))) hx
    obtain ⟨φ2, L2, T2, hl, hys⟩ := instL_ok n (d + 1) xs st1 _ φ1 L1 vs Fs ys' T1.inv (by simpa using h1) (by simpa using h2) (fun j x v F a b c => h (j + 1) x v F a b c) n2
      (fun g hg => ⟨T1.free g (hF g (List.mem_append.2 (.inr hg))).1 fun e => n3 g e g hg rfl, (hF g (List.mem_append.2 (.inr hg))).2⟩) hp
    refine ⟨φ2, L2, T1.trans T2, by simp [hl], fun j z u hz hu => ?_⟩
    cases j with
    | zero => simp at hz hu; subst hz; subst hu; exact hy.mono T2.ext (fun _ h => h) (fun _ _ => rfl)
    | succ j => exact hys j z u (by simpa using hz) (by simpa using hu)
end
def ArgOk (φ : Nat → Option Loc) (M : Nat → Prop) (w : World) (L : Nat → List Nat) (y : Option AV) (bk : Option Nat) (v : Value) (F T : List Nat) : Prop :=
  (F = T ∨ F = []) ∧ (y = none → F = []) ∧ (∀ y', y = some y' → V nof M w y' v F) ∧
    ∀ b, bk = some b → ∃ n, (∃ cs len sz, y = some (.io cs len sz) ∧ cs.length = n ∧ Bk φ M w L b n v F T) ∨ (∃ cs, y = some (.bx cs) ∧ cs.length = n ∧ Bk φ M w L b n v F T)
inductive ArgsOk (φ : Nat → Option Loc) (M : Nat → Prop) (w : World) (L : Nat → List Nat) : List (Md × AV) → List Value → List (Option AV × Option Nat) → List (List Nat) → List (List Nat) → Prop where
  | nil : ArgsOk φ M w L [] [] [] [] []
  | cons {m : Md} {x : AV} {l : List (Md × AV)} {v : Value} {vs : List Value} {y : Option AV} {bk : Option Nat} {r : List (Option AV × Option Nat)} {F T : List Nat} {Fs Ts : List (List Nat)} (hv : V φ M w x v []) (h : ArgOk φ M w L y bk v F T) (t : ArgsOk φ M w L l vs r Fs Ts) :
      ArgsOk φ M w L ((m, x) :: l) (v :: vs) ((y, bk) :: r) (F :: Fs) (T :: Ts)
theorem exL_ok : ∀ (l : List (Md × AV)) (st st1 : St) (r : List (Option AV × Option Nat)) (vs : List Value), Inv E φ M L st a.tmps w → vs.length = l.length → (∀ (j : Nat) (m : Md) (x : AV) (v : Value), l[j]? = some (m, x) → vs[j]? = some v → V φ M w x v []) → exL l st = some (r, st1) →
    Inv E φ M L st1 a.tmps w ∧ ∃ Fs Ts, ArgsOk φ M w L l vs r Fs Ts ∧ Ts.flatten.Nodup ∧ (∀ g ∈ Ts.flatten, Free E M L st1 g ∧ g < w.heap.size ∧ ¬ Free E M L st g) ∧ (∀ g, Free E M L st g → Free E M L st1 g)
  | [], st, st1, r, vs, I, hlen, hv, h => by
    simp only [exL, Option.some.injEq, Prod.mk.injEq] at h
    obtain ⟨rfl, rfl⟩ := h
    obtain rfl : vs = [] := List.length_eq_zero_iff.1 hlen
    exact ⟨I, [], [], .nil, by simp, by simp, fun _ h => h⟩
  | (m, x) :: l, st, st1, r, vs, I, hlen, hv, h => by
    cases vs with
    | nil => simp at hlen
    | cons v vs =>
    simp only [exL] at h
    split at h <;> (try cases h)
    rename_i y bk st0 hx
    obtain ⟨⟨r', st2⟩, hp, e⟩ := Option.map_eq_some_iff.1 h
    simp only [Prod.mk.injEq] at e
    obtain ⟨rfl, rfl⟩ := e
    have hv0 := hv 0 m x v rfl rfl
    obtain ⟨I0, F, T, a1, a2, a3, a4, a5, a6, a7⟩ := ex1_ok I hv0 hx
    obtain ⟨I1, Fs, Ts, b1, b2, b3, b4⟩ := exL_ok l st0 _ r' vs I0 (by simpa using hlen) (fun j m x v h1 h2 => hv (j + 1) m x v (by simpa using h1) (by simpa using h2)) hp
    refine ⟨I1, F :: Fs, T :: Ts, .cons hv0 ⟨a1, a2, a3, fun b hb => (a7 b hb).2⟩ b1, ?_, ?_, fun g hg => b4 g (a6 g hg)⟩
    · rw [List.flatten_cons]
      exact List.nodup_append.2 ⟨a4, b2, fun g h1 g' h2 e => (b3 g' h2).2.2 (e ▸ (a5 g h1).1)⟩
    · intro g hg
      rw [List.flatten_cons] at hg
      rcases List.mem_append.1 hg with hg | hg
      · exact ⟨b4 g (a5 g hg).1, (a5 g hg).2.1, (a5 g hg).2.2⟩
      · exact ⟨(b3 g hg).1, (b3 g hg).2.1, fun hf => (b3 g hg).2.2 (a6 g hf)⟩
theorem ArgsOk.sub {l : List (Md × AV)} {vs : List Value} {r : List (Option AV × Option Nat)} {Fs Ts : List (List Nat)} (h : ArgsOk φ M w L l vs r Fs Ts) : Fs.flatten.Sublist Ts.flatten := by
  induction h with
  | nil => simp
  | cons hv h t ih =>
    rw [List.flatten_cons, List.flatten_cons]
    rcases h.1 with rfl | rfl
    · exact ih.append_left _
    · exact (List.nil_sublist _).append ih
def closedB : List (Md × AV) → List (Option AV × Option Nat) → Bool
  | (_, x) :: l, (y, _) :: r => (y.isSome || shut x) && closedB l r
  | [], [] => true
  | _, _ => false
theorem ArgsOk.argsShut {h0 : Nat → Option (Option (List AV))} {l : List (Md × AV)} {vs : List Value} {r : List (Option AV × Option Nat)} {Fs Ts : List (List Nat)} {ys : List AV} (h : ArgsOk φ M w L l vs r Fs Ts) (hc : closedB l r = true) (hys : shutArgs h0 l r = some ys) : Vs nof M w ys vs Fs := by
  induction h generalizing ys with
  | nil => simp only [shutArgs, Option.some.injEq] at hys; subst hys; exact ⟨rfl, rfl, by simp⟩
  | @cons m x l v vs y bk r F T Fs Ts hv h t ih =>
    simp only [closedB, Bool.and_eq_true, Bool.or_eq_true] at hc
    simp only [shutArgs] at hys
    split at hys <;> (try cases hys)
    rename_i y' hy'
    obtain ⟨ys', hr, rfl⟩ := Option.map_eq_some_iff.1 hys
    obtain ⟨i1, i2, i3⟩ := ih hc.2 hr
    refine ⟨by simp [i1], by simp [i2], fun j z u G hz hu hG => ?_⟩
    cases j with
    | succ j => exact i3 j z u G (by simpa using hz) (by simpa using hu) (by simpa using hG)
    | zero =>
      simp at hz hu hG
      subst hz; subst hu; subst hG
      obtain ⟨h1, h2, h3, _⟩ := h
      cases y with
      | none =>
        have hs : shut x = true := hc.1.resolve_left (by simp)
        simp only [roc, hs, if_true, Option.some.injEq] at hy'
        subst hy'
        rw [h2 rfl]
        exact .imm _ _ (hv.toW hs)
      | some y0 =>
        simp only [Option.some.injEq] at hy'
        subst hy'
        exact h3 y0 rfl
theorem ArgsOk.args {l : List (Md × AV)} {vs : List Value} {r : List (Option AV × Option Nat)} {Fs Ts : List (List Nat)} {ys : List AV} (h : ArgsOk φ M w L l vs r Fs Ts) (I : Inv E φ M L st a.tmps w)
    (hM : ∀ g, M g → M' g) (hL : ∀ b cs, st.h b = some (some cs) → ∀ g ∈ L b, M' g) (hys : shutArgs st.h l r = some ys) : Vs nof M' w ys vs Fs := by
  induction h generalizing ys with
  | nil => simp only [shutArgs, Option.some.injEq] at hys; subst hys; exact ⟨rfl, rfl, by simp⟩
  | @cons m x l v vs y bk r F T Fs Ts hv h t ih =>
    simp only [shutArgs] at hys
    split at hys <;> (try cases hys)
    rename_i y' hy'
    obtain ⟨ys', hr, rfl⟩ := Option.map_eq_some_iff.1 hys
    obtain ⟨i1, i2, i3⟩ := ih hr
    refine ⟨by simp [i1], by simp [i2], fun j z u G hz hu hG => ?_⟩
    cases j with
    | succ j => exact i3 j z u G (by simpa using hz) (by simpa using hu) (by simpa using hG)
    | zero =>
      simp at hz hu hG
      subst hz; subst hu; subst hG
      obtain ⟨h1, h2, h3, _⟩ := h
      cases y with
      | none =>
        simp only at hy'
        rw [h2 rfl]
        exact .imm _ _ (roc_ok I hM hL 8 x v [] y' hv hy' (by simp))
      | some y0 =>
        simp only [Option.some.injEq] at hy'
        subst hy'
        exact (h3 y0 rfl).mono (fun _ _ h => h) hM (fun _ _ => rfl)
def use1 (F T G : List Nat) : List Nat :=
  match F with
  | [] => G ++ T
  | _ :: _ => G
def useL : List (List Nat) → List (List Nat) → List (List Nat) → List (List Nat)
  | F :: Fs, T :: Ts, G :: Gs => use1 F T G :: useL Fs Ts Gs
  | _, _, _ => []
theorem ArgsOk.apart {l : List (Md × AV)} {vs : List Value} {r : List (Option AV × Option Nat)} {Fs Ts : List (List Nat)} (h : ArgsOk φ M w L l vs r Fs Ts) (hn : Ts.flatten.Nodup) :
    ∀ (j : Nat) (T : List Nat), Fs[j]? = some [] → Ts[j]? = some T → ∀ g ∈ T, g ∉ Fs.flatten := by
  induction h with
  | nil => simp
  | @cons m x l v vs y bk r F T0 Fs Ts hv h t ih =>
    rw [List.flatten_cons] at hn
    obtain ⟨n1, n2, n3⟩ := List.nodup_append.1 hn
    have hsub := t.sub.subset
    intro j T hF hT g hg
    rw [List.flatten_cons]
    cases j with
    | zero =>
      simp at hF hT
      subst hF; subst hT
      simp only [List.nil_append]
      exact fun hm => n3 g hg g (hsub hm) rfl
    | succ j =>
      simp only [List.getElem?_cons_succ] at hF hT
      intro hm
      rcases List.mem_append.1 hm with hm | hm
      · have hgT : g ∈ T0 := by rcases h.1 with e | e <;> rw [e] at hm; exact hm; cases hm
        exact n3 g hgT g (mem_flatten_of hT hg) rfl
      · exact ih n2 j T hF hT g hg hm
theorem useL_nodup {Q : Nat → Prop} : ∀ (Fs Ts Gs : List (List Nat)), Ts.length = Fs.length → Gs.length = Fs.length → Ts.flatten.Nodup → Gs.flatten.Nodup → (∀ g ∈ Gs.flatten, Q g) → (∀ (j : Nat) (T : List Nat), Fs[j]? = some [] → Ts[j]? = some T → ∀ g ∈ T, ¬ Q g) →
    (useL Fs Ts Gs).flatten.Nodup ∧ ∀ g ∈ (useL Fs Ts Gs).flatten, g ∈ Gs.flatten ∨ (g ∈ Ts.flatten ∧ ¬ Q g)
  | [], Ts, Gs, _, _, _, _, _, _ => by simp [useL]
  | F :: Fs, [], Gs, h, _, _, _, _, _ => by simp at h
  | F :: Fs, T :: Ts, [], _, h, _, _, _, _ => by simp at h
  | F :: Fs, T :: Ts, G :: Gs, h1, h2, h3, h4, h5, h6 => by
    rw [List.flatten_cons] at h3 h4
    obtain ⟨a1, a2, a3⟩ := List.nodup_append.1 h3
    obtain ⟨b1, b2, b3⟩ := List.nodup_append.1 h4
    have hq : ∀ g ∈ Gs.flatten, Q g := fun g hg => h5 g (by rw [List.flatten_cons]; exact List.mem_append.2 (.inr hg))
    have hqG : ∀ g ∈ G, Q g := fun g hg => h5 g (by rw [List.flatten_cons]; exact List.mem_append.2 (.inl hg))
    obtain ⟨i1, i2⟩ := useL_nodup (Q := Q) Fs Ts Gs (by simpa using h1) (by simpa using h2) a2 b2 hq (fun j T' e1 e2 => h6 (j + 1) T' (by simpa using e1) (by simpa using e2))
    simp only [useL, List.flatten_cons]
    cases F with
    | nil =>
      have hT := h6 0 T rfl rfl
      simp only [use1]
      refine ⟨List.nodup_append.2 ⟨List.nodup_append.2 ⟨b1, a1, fun g hg g' hg' e => hT g' hg' (e ▸ hqG g hg)⟩, i1, fun g hg g' hg' e => ?_⟩, fun g hg => ?_⟩
      · subst e
        rcases List.mem_append.1 hg with hg | hg <;> rcases i2 g hg' with k | ⟨k, k2⟩
        · exact b3 g hg g k rfl
        · exact k2 (hqG g hg)
        · exact hT g hg (hq g k)
        · exact a3 g hg g k rfl
      · rcases List.mem_append.1 hg with hg | hg
        · rcases List.mem_append.1 hg with hg | hg
          · exact .inl (List.mem_append.2 (.inl hg))
          · exact .inr ⟨List.mem_append.2 (.inl hg), hT g hg⟩
        · rcases i2 g hg with k | ⟨k, k2⟩
          · exact .inl (List.mem_append.2 (.inr k))
          · exact .inr ⟨List.mem_append.2 (.inr k), k2⟩
    | cons f F =>
      simp only [use1]
      refine ⟨List.nodup_append.2 ⟨b1, i1, fun g hg g' hg' e => ?_⟩, fun g hg => ?_⟩
      · subst e
        rcases i2 g hg' with k | ⟨k, k2⟩
        · exact b3 g hg g k rfl
        · exact k2 (hqG g hg)
      · rcases List.mem_append.1 hg with hg | hg
        · exact .inl (List.mem_append.2 (.inl hg))
        · rcases i2 g hg with k | ⟨k, k2⟩
          · exact .inl (List.mem_append.2 (.inr k))
          · exact .inr ⟨List.mem_append.2 (.inr k), k2⟩
theorem isGone_eq {x : Option (Option (List AV))} (h : isGone x = true) : x = some none := by
  cases x with
  | none => cases h
  | some x => cases x with
    | none => rfl
    | some x => cases h
theorem head_ne {α : Type} {l : List α} {x : α} (h : l.head? = some x) : ∃ t, l = x :: t := by
  cases l with
  | nil => cases h
  | cons y t => simp at h; subst h; exact ⟨t, rfl⟩
theorem backL_ok {l : List (Md × AV)} {vs : List Value} {r : List (Option AV × Option Nat)} {Fs Ts : List (List Nat)} {φ0 : Nat → Option Loc} {M0 : Nat → Prop} {L0 : Nat → List Nat} (h : ArgsOk φ0 M0 w L0 l vs r Fs Ts) :
    ∀ (st st' : St) (φ : Nat → Option Loc) (L : Nat → List Nat) (outs : List AV) (Gs : List (List Nat)), Inv E φ M L st a.tmps w' → (∀ b l, φ0 b = some l → φ b = some l) → (∀ b, st.h b = some none → φ b = φ0 b) → Keeps w w' → (∀ g, M0 g → M g) → (∀ g, M0 g → w'.heap[g]? = w.heap[g]?) →
      Gs.length = outs.length →
      (∀ (j : Nat) (y : AV) (v : Value) (G : List Nat), outs[j]? = some y → vs[j]? = some v → Gs[j]? = some G → V nof M w' y v G) →
      (∀ y ∈ outs, ioPos1 y = true) →
      (useL Fs Ts Gs).flatten.Nodup → (∀ g ∈ (useL Fs Ts Gs).flatten, Free E M L st g ∧ g < w'.heap.size) → (∀ (j : Nat) (T : List Nat), Fs[j]? = some [] → Ts[j]? = some T → ∀ g ∈ T, w'.heap[g]? = w.heap[g]?) → backL r outs st = some st' →
      ∃ φ' L', Took E φ M L st a.tmps w' (useL Fs Ts Gs).flatten φ' L' st' := by
  induction h with
  | nil =>
    intro st st' φ L outs Gs I _ _ _ _ _ hlen _ _ _ _ _ hb
    cases outs with
    | nil => simp only [backL, Option.some.injEq] at hb; subst hb; exact ⟨φ, L, Took.refl I _⟩
    | cons o outs => simp [backL] at hb
  | @cons m x l v vs y bk r F T Fs Ts hv ha t ih =>
    intro st st' φ L outs Gs I hext hgone hkeep hMM hMw hlen hV hH hnd hF hTs hb
    cases outs with
    | nil => cases bk <;> simp [backL] at hb
    | cons o outs =>
    cases Gs with
    | nil => simp at hlen
    | cons G Gs =>
    have hV0 := hV 0 o v G rfl rfl rfl
    simp only [useL, List.flatten_cons] at hnd hF ⊢
    obtain ⟨n1, n2, n3⟩ := List.nodup_append.1 hnd
    cases bk with
    | none =>
      simp only [backL] at hb
      obtain ⟨φ', L', T'⟩ := ih st st' φ L outs Gs I hext hgone hkeep hMM hMw (by simpa using hlen) (fun j y v G a b c => hV (j + 1) y v G (by simpa using a) (by simpa using b) (by simpa using c)) (fun y hy => hH y (List.mem_cons_of_mem _ hy)) n2
        (fun g hg => hF g (List.mem_append.2 (.inr hg))) (fun j T a b => hTs (j + 1) T (by simpa using a) (by simpa using b)) hb
      exact ⟨φ', L', T'.inv, T'.ext, fun g hg hn => T'.free g hg fun e => hn (List.mem_append.2 (.inr e))⟩
    | some b =>
      obtain ⟨_, _, _, hbk⟩ := ha
      obtain ⟨n, hbk⟩ := hbk b rfl
      -- one root is put back
      have main : ∀ cs', isIo o = true → cs'.length = n → isGone (st.h b) = true → ((∃ len sz, o = .io cs' len sz) ∨ o = .bx cs') → Bk φ0 M0 w L0 b n v F T → backL r outs (st.put b (some cs')) = some st' →
          ∃ φ' L', Took E φ M L st a.tmps w' (use1 F T G ++ (useL Fs Ts Gs).flatten) φ' L' st' := by
        intro cs' hio hn hg ho hB hb
        have hgo := isGone_eq hg
        have hpos := hH o (List.mem_cons_self ..)
        have fin : ∀ (loc : Option Loc) (U : List Nat), (φ b = none ∨ φ b = loc) → (∀ g ∈ U, g ∈ use1 F T G) → U.Nodup → φ0 b = loc → Root (upd φ b loc) M w' b cs' U →
            ∃ φ' L', Took E φ M L st a.tmps w' (use1 F T G ++ (useL Fs Ts Gs).flatten) φ' L' st' := by
          intro loc U hφb hU hUn hφ0 hr
          have hUF : ∀ g ∈ U, Free E M L st g ∧ g < w'.heap.size := fun g hg => hF g (List.mem_append.2 (.inl (hU g hg)))
          obtain ⟨I', hf'⟩ := I.put (d := b) (by simp [hgo]) loc hφb hUF hUn hr
          have hext' : ∀ b' l, φ b' = some l → upd φ b loc b' = some l := fun b' l h => by
            by_cases e : b' = b
            · subst e; rw [upd_same]; rcases hφb with h1 | h1 <;> rw [h1] at h
              · cases h
              · exact h
            · rw [upd_ne _ _ e]; exact h
          obtain ⟨φ', L', T'⟩ := ih _ st' _ _ outs Gs I' (fun b' l h => hext' b' l (hext b' l h)) (fun b' h => by
              by_cases e : b' = b
              · subst e; simp [St.put, upd_same] at h
              · rw [upd_ne _ _ e]; exact hgone b' (by simpa [St.put, upd_ne _ _ e] using h)) hkeep hMM hMw (by simpa using hlen) (fun j y v G a b c => hV (j + 1) y v G (by simpa using a) (by simpa using b) (by simpa using c)) (fun y hy => hH y (List.mem_cons_of_mem _ hy)) n2
            (fun g hg => ⟨hf' g (hF g (List.mem_append.2 (.inr hg))).1 fun e => n3 g (hU g e) g hg rfl, (hF g (List.mem_append.2 (.inr hg))).2⟩) (fun j T a b => hTs (j + 1) T (by simpa using a) (by simpa using b)) hb
          refine ⟨φ', L', T'.inv, fun b' l h => T'.ext b' l (hext' b' l h), fun g hg hn => ?_⟩
          exact T'.free g (hf' g hg fun e => hn (List.mem_append.2 (.inl (hU g e)))) fun e => hn (List.mem_append.2 (.inr e))
        rcases hB with ⟨lc, C, len, c, e1, e2, e3, e5, e6⟩ | ⟨rfl, rfl, rfl, e1, e2⟩
        · obtain ⟨F', rfl⟩ := head_ne e5
          have hG : ∃ G', G = lc.g :: G' := by
            rcases ho with ⟨len', sz', rfl⟩ | rfl
            · cases hV0 with
              | imm _ _ h => cases h
              | io _ _ _ g o c' C2 us Fs2 q1 q2 q3 q4 q5 q6 q7 q8 q9 =>
                rcases e6 with e6 | e6 <;> cases e6
                exact ⟨_, rfl⟩
              | ionil _ A => simp [ioPos1] at hpos
            · cases hV0 with
              | imm _ _ h => cases h
              | bx _ g o C2 us Fs2 q1 q2 q3 q7 q8 q9 =>
                rcases e6 with e6 | e6 <;> cases e6
                exact ⟨_, rfl⟩
          obtain ⟨G', rfl⟩ := hG
          have k1 := hkeep lc.g C.size e2.obs
          have mk : ∀ (C2 : Array Value) (us : List Value) (Fs2 : List (List Nat)), us.length = cs'.length → Fs2.length = cs'.length → Blk w' lc.g C2 → (∀ (j : Nat) (u : Value), us[j]? = some u → C2[lc.o + j]? = some u) → (∀ u ∈ us, u.oneCell' = true) → G' = Fs2.flatten →
              (∀ (j : Nat) (x : AV) (u : Value) (F : List Nat), cs'[j]? = some x → us[j]? = some u → Fs2[j]? = some F → V nof M w' x u F) → Root (upd φ b (some lc)) M w' b cs' (lc.g :: G') := by
            intro C2 us Fs2 q1 q2 q3 q4 q5 q6 q7
            have k2 := q3.sizeOf k1
            exact .inr ⟨lc, C2, us, G', upd_same _ _ _, q3, by omega, ⟨Fs2, q1, q2, q5, q6, fun j x u F a b c => (q7 j x u F a b c).lift _⟩, q4, rfl⟩
          refine fin (some lc) (lc.g :: G') (.inr (hext b lc e1)) (fun g hg => hg) ?_ e1 ?_
          · exact n1
          · rcases ho with ⟨len', sz', rfl⟩ | rfl
            · cases hV0 with
              | io _ _ _ g o c' C2 us Fs2 q1 q2 q3 q4 q5 q6 q7 q8 q9 =>
                rcases e6 with e6 | e6 <;> cases e6
                exact mk C2 us Fs2 q1 q2 q3 q7 q8 rfl q9
            · cases hV0 with
              | bx _ g o C2 us Fs2 q1 q2 q3 q7 q8 q9 =>
                rcases e6 with e6 | e6 <;> cases e6
                exact mk C2 us Fs2 q1 q2 q3 q7 q8 rfl q9
        · obtain rfl : cs' = [] := List.length_eq_zero_iff.1 hn
          have hTh : ∀ g ∈ L0 b, w'.heap[g]? = w.heap[g]? := hTs 0 (L0 b) rfl rfl
          refine fin (φ0 b) (L0 b) ?_ (fun g hg => List.mem_append.2 (.inr hg)) (List.nodup_append.1 n1).2.1 rfl ?_
          · exact .inr (hgone b hgo)
          · exact e1.mono (fun b' l h => by
              by_cases e : b' = b
              · subst e; rw [upd_same]; exact h
              · rw [upd_ne _ _ e]; exact hext b' l h) (fun h => by rw [upd_same]; exact h) hMM (fun g hg => hg.elim (hMw g) (hTh g))
      simp only [backL] at hb
      split at hb <;> (try cases hb)
      · split at hb <;> (try cases hb)
        rename_i hc
        rcases hbk with ⟨cs1, len1, sz1, e1, e2, e3⟩ | ⟨cs1, e1, e2, e3⟩ <;> cases e1
        exact main _ rfl (hc.2.2.1.trans e2) hc.2.2.2 (.inl ⟨_, _, rfl⟩) e3 hb
      · split at hb <;> (try cases hb)
        rename_i hc
        rcases hbk with ⟨cs1, len1, sz1, e1, e2, e3⟩ | ⟨cs1, e1, e2, e3⟩ <;> cases e1
        exact main _ rfl (hc.1.trans e2) hc.2 (.inr rfl) e3 hb
inductive Lk : List Md → List Value → List Value → Prop where
  | nil : Lk [] [] []
  | st (ms : List Md) {l : List Md} {vs vl : List Value} (us : List Value) (h1 : us.length = ms.length) (ho : ∀ u ∈ us, u.oneCell' = true) (t : Lk l vs vl) : Lk (.st ms :: l) (.agg us.toArray :: vs) (us ++ vl)
  | one {m : Md} {l : List Md} {vs vl : List Value} (v : Value) (hm : ∀ ms, m ≠ .st ms) (t : Lk l vs vl) : Lk (m :: l) (v :: vs) (v :: vl)
theorem append_get3 {α β γ : Type} {R : α → β → γ → Prop} {a a' : List α} {b b' : List β} {c c' : List γ} (h1 : b.length = a.length) (h2 : c.length = a.length) (h : ∀ (j : Nat) (x : α) (y : β) (z : γ), a[j]? = some x → b[j]? = some y → c[j]? = some z → R x y z)
    (h' : ∀ (j : Nat) (x : α) (y : β) (z : γ), a'[j]? = some x → b'[j]? = some y → c'[j]? = some z → R x y z) : ∀ (j : Nat) (x : α) (y : β) (z : γ), (a ++ a')[j]? = some x → (b ++ b')[j]? = some y → (c ++ c')[j]? = some z → R x y z := by
  intro j x y z p q r
  by_cases hj : j < a.length
  · rw [List.getElem?_append_left hj] at p
    rw [List.getElem?_append_left (by omega)] at q
    rw [List.getElem?_append_left (by omega)] at r
    exact h j x y z p q r
  · rw [List.getElem?_append_right (by omega)] at p
    rw [List.getElem?_append_right (by omega), h1] at q
    rw [List.getElem?_append_right (by omega), h2] at r
    exact h' _ x y z p q r
theorem append_get2 {α β : Type} {R : α → β → Prop} {a a' : List α} {b b' : List β} (h1 : b.length = a.length) (h : ∀ (j : Nat) (x : α) (y : β), a[j]? = some x → b[j]? = some y → R x y)
    (h' : ∀ (j : Nat) (x : α) (y : β), a'[j]? = some x → b'[j]? = some y → R x y) : ∀ (j : Nat) (x : α) (y : β), (a ++ a')[j]? = some x → (b ++ b')[j]? = some y → R x y := by
  intro j x y p q
  by_cases hj : j < a.length
  · rw [List.getElem?_append_left hj] at p
    rw [List.getElem?_append_left (by omega)] at q
    exact h j x y p q
  · rw [List.getElem?_append_right (by omega)] at p
    rw [List.getElem?_append_right (by omega), h1] at q
    exact h' _ x y p q
theorem flat_ok : ∀ (ms : List Md) (xs : List AV) (vs : List Value) (fl : List (Md × AV)), ms.length = xs.length → vs.length = xs.length → (∀ (j : Nat) (x : AV) (v : Value), xs[j]? = some x → vs[j]? = some v → V φ M w x v []) → flatL (ms.zip xs) = some fl →
    ∃ vl, Lk ms vs vl ∧ vl.length = fl.length ∧ ∀ (j : Nat) (p : Md × AV) (v : Value), fl[j]? = some p → vl[j]? = some v → V φ M w p.2 v []
  | [], [], vs, fl, h1, h2, h, e => by
    obtain rfl : vs = [] := List.length_eq_zero_iff.1 h2
    simp [flatL] at e
    subst e
    exact ⟨[], .nil, rfl, by simp⟩
  | m :: ms, x :: xs, vs, fl, h1, h2, h, e => by
    cases vs with
    | nil => simp at h2
    | cons v vs =>
    simp only [List.zip_cons_cons, flatL] at e
    split at e <;> (try cases e)
    rename_i a b ha hb
    obtain ⟨vl, k1, k2, k3⟩ := flat_ok ms xs vs b (by simpa using h1) (by simpa using h2) (fun j x v p q => h (j + 1) x v p q) hb
    have hv := h 0 x v rfl rfl
    have one : (∀ q, m ≠ .st q) → a = [(m, x)] → ∃ vl, Lk (m :: ms) (v :: vs) vl ∧ vl.length = (a ++ b).length ∧ ∀ (j : Nat) (p : Md × AV) (v : Value), (a ++ b)[j]? = some p → vl[j]? = some v → V φ M w p.2 v [] := fun hm ea => by
      subst ea
      refine ⟨v :: vl, .one v hm k1, by simp [k2], fun j p u hp hu => ?_⟩
      cases j with
      | zero => simp at hp hu; subst hp; subst hu; exact hv
      | succ j => exact k3 j p u (by simpa using hp) (by simpa using hu)
    cases m with
    | st q =>
      cases x <;> simp only [flat1] at ha <;> (try cases ha)
      rename_i cs
      split at ha <;> cases ha
      rename_i hl
      obtain ⟨us, rfl, hc⟩ := vagg hv
      have hul := hc.len
      refine ⟨us ++ vl, .st q us (by omega) hc.one k1, by simp [k2, hul, hl], ?_⟩
      refine append_get2 (R := fun (p : Md × AV) (v : Value) => V φ M w p.2 v []) (by simp [hul, hl]) (fun j p u hp hu => ?_) k3
      rw [List.getElem?_zip_eq_some] at hp
      exact hc.all j p.2 u hp.2 hu
    | ro => simp only [flat1, Option.some.injEq] at ha; exact one (by simp) ha.symm
    | mv sz => simp only [flat1, Option.some.injEq] at ha; exact one (by simp) ha.symm
    | io => simp only [flat1, Option.some.injEq] at ha; exact one (by simp) ha.symm
  | [], _ :: _, vs, fl, h1, h2, h, e => by simp at h1
  | _ :: _, [], vs, fl, h1, h2, h, e => by simp at h1
theorem asm_ok {ms : List Md} {vs vl : List Value} (h : Lk ms vs vl) : ∀ (yl ys : List AV) (Fl : List (List Nat)), Vs nof M w yl vl Fl → asm ms yl = some ys → ∃ Fs, Vs nof M w ys vs Fs ∧ Fs.flatten = Fl.flatten := by
  induction h with
  | nil =>
    intro yl ys Fl hV e
    obtain ⟨h1, h2, _⟩ := hV
    obtain rfl : yl = [] := List.length_eq_zero_iff.1 h1.symm
    obtain rfl : Fl = [] := List.length_eq_zero_iff.1 h2
    simp [asm] at e
    subst e
    exact ⟨[], ⟨rfl, rfl, by simp⟩, rfl⟩
  | @st ms l vs vl us h1 ho t ih =>
    intro yl ys Fl hV e
    obtain ⟨k1, k2, k3⟩ := hV
    rw [List.length_append] at k1
    unfold asm at e
    split at e <;> (try cases e)
    rename_i hle
    obtain ⟨ys', hys, rfl⟩ := Option.map_eq_some_iff.1 e
    obtain ⟨Fs, ⟨i1, i2, i3⟩, i4⟩ := ih (yl.drop ms.length) ys' (Fl.drop ms.length) ⟨by simp; omega, by simp; omega, fun j x v F p q r => by
      rw [List.getElem?_drop] at p r
      refine k3 (ms.length + j) x v F p ?_ r
      rw [List.getElem?_append_right (by omega), h1, Nat.add_sub_cancel_left]
      exact q⟩ hys
    refine ⟨(Fl.take ms.length).flatten :: Fs, ⟨by simp [i1], by simp [i2], fun j x v F p q r => ?_⟩, ?_⟩
    · cases j with
      | succ j => exact i3 j x v F (by simpa using p) (by simpa using q) (by simpa using r)
      | zero =>
        simp at p q r
        subst p; subst q; subst r
        refine .agg _ us _ (by simp; omega) (by simp; omega) ho fun j x u F p q r => ?_
        rw [List.getElem?_take] at p r
        split at p <;> (try cases p)
        rename_i hj
        rw [if_pos hj] at r
        exact k3 j x u F p (by rw [List.getElem?_append_left (by omega)]; exact q) r
    · rw [List.flatten_cons, i4, ← List.flatten_append, List.take_append_drop]
  | @one m l vs vl v hm t ih =>
    intro yl ys Fl hV e
    obtain ⟨k1, k2, k3⟩ := hV
    cases yl with
    | nil => simp at k1
    | cons y yl =>
    cases Fl with
    | nil => simp at k2
    | cons F Fl =>
    have e : (asm l yl).map (y :: ·) = some ys := by
      cases m with
      | st ms => exact absurd rfl (hm ms)
      | ro => exact e
      | mv => exact e
      | io => exact e
    obtain ⟨ys', hys, rfl⟩ := Option.map_eq_some_iff.1 e
    obtain ⟨Fs, ⟨i1, i2, i3⟩, i4⟩ := ih yl ys' Fl ⟨by simpa using k1, by simpa using k2, fun j x v F p q r => k3 (j + 1) x v F (by simpa using p) (by simpa using q) (by simpa using r)⟩ hys
    refine ⟨F :: Fs, ⟨by simp [i1], by simp [i2], fun j x u G p q r => ?_⟩, by simp [i4]⟩
    cases j with
    | zero => simp at p q r; subst p; subst q; subst r; exact k3 0 y v F rfl rfl rfl
    | succ j => exact i3 j x u G (by simpa using p) (by simpa using q) (by simpa using r)
theorem outF_ok {ms : List Md} {vs vl : List Value} (h : Lk ms vs vl) : ∀ (outs ol : List AV) (Gs : List (List Nat)), Vs nof M w outs vs Gs → (∀ y ∈ outs, ioPos y = true) → outF ms outs = some ol →
    ∃ Gl, Vs nof M w ol vl Gl ∧ Gl.flatten = Gs.flatten ∧ ∀ y ∈ ol, ioPos1 y = true := by
  induction h with
  | nil =>
    intro outs ol Gs hV hp e
    obtain ⟨h1, h2, _⟩ := hV
    obtain rfl : outs = [] := List.length_eq_zero_iff.1 h1.symm
    obtain rfl : Gs = [] := List.length_eq_zero_iff.1 h2
    simp [outF] at e
    subst e
    exact ⟨[], ⟨rfl, rfl, by simp⟩, rfl, by simp⟩
  | @st ms l vs vl us h1 ho t ih =>
    intro outs ol Gs hV hp e
    obtain ⟨k1, k2, k3⟩ := hV
    cases outs with
    | nil => simp at k1
    | cons o outs =>
    cases Gs with
    | nil => simp at k2
    | cons G Gs =>
    have hv := k3 0 o _ G rfl rfl rfl
    have rest : ∀ ol', outF l outs = some ol' → ∃ Gl, Vs nof M w ol' vl Gl ∧ Gl.flatten = Gs.flatten ∧ ∀ y ∈ ol', ioPos1 y = true := fun ol' h => ih outs ol' Gs ⟨by simpa using k1, by simpa using k2, fun j x v F p q r => k3 (j + 1) x v F (by simpa using p) (by simpa using q) (by simpa using r)⟩ (fun y hy => hp y (List.mem_cons_of_mem _ hy)) h
    cases o <;> simp only [outF] at e <;> (try cases e)
    case un =>
      obtain ⟨ol', hol, rfl⟩ := Option.map_eq_some_iff.1 e
      obtain ⟨Gl, ⟨i1, i2, i3⟩, i4, i5⟩ := rest ol' hol
      have hG : G = [] := by cases hv with | imm _ _ h => rfl
      subst hG
      refine ⟨List.replicate ms.length [] ++ Gl, ⟨by simp [i1, h1], by simp [i2], ?_⟩, by simp [i4], fun y hy => ?_⟩
      · refine append_get3 (R := fun x v F => V nof M w x v F) (by simp [h1]) (by simp) (fun j x u F p q r => ?_) i3
        obtain rfl : x = .un := (List.mem_replicate.1 (List.mem_of_getElem? p)).2
        obtain rfl : F = [] := (List.mem_replicate.1 (List.mem_of_getElem? r)).2
        exact V.un u
      · rcases List.mem_append.1 hy with hy | hy
        · obtain rfl : y = .un := (List.mem_replicate.1 hy).2; rfl
        · exact i5 y hy
    case agg os =>
      split at e <;> (try cases e)
      rename_i hol'
      obtain ⟨ol', hol, rfl⟩ := Option.map_eq_some_iff.1 e
      obtain ⟨Gl, ⟨i1, i2, i3⟩, i4, i5⟩ := rest ol' hol
      have hpo := hp _ (List.mem_cons_self ..)
      have fin : ∀ Gs' : List (List Nat), Gs'.length = os.length → Gs'.flatten = G → (∀ (j : Nat) (x : AV) (u : Value) (F : List Nat), os[j]? = some x → us[j]? = some u → Gs'[j]? = some F → V nof M w x u F) →
          ∃ Gl, Vs nof M w (os ++ ol') (us ++ vl) Gl ∧ Gl.flatten = (G :: Gs).flatten ∧ ∀ y ∈ os ++ ol', ioPos1 y = true := fun Gs' g1 g2 g3 => by
        refine ⟨Gs' ++ Gl, ⟨by simp [i1, h1, hol'], by simp [i2, g1], append_get3 (R := fun x v F => V nof M w x v F) (by omega) g1 g3 i3⟩, by simp [g2, i4], fun y hy => ?_⟩
        rcases List.mem_append.1 hy with hy | hy
        · exact List.all_eq_true.1 hpo y hy
        · exact i5 y hy
      generalize hus : us.toArray = ua at hv
      cases hv with
      | imm _ _ h =>
        cases h with
        | agg _ us' q1 q2 q3 =>
          obtain rfl : us = us' := by simpa using hus
          exact fin (List.replicate os.length []) (by simp) (by simp) fun j x u F p q r => by
            obtain rfl : F = [] := (List.mem_replicate.1 (List.mem_of_getElem? r)).2
            exact .imm _ _ (q3 j x u p q)
      | agg _ us' Fs' q1 q2 q3 q4 =>
        obtain rfl : us = us' := by simpa using hus
        exact fin Fs' q2 rfl q4
  | @one m l vs vl v hm t ih =>
    intro outs ol Gs hV hp e
    obtain ⟨k1, k2, k3⟩ := hV
    cases outs with
    | nil => simp at k1
    | cons o outs =>
    cases Gs with
    | nil => simp at k2
    | cons G Gs =>
    have e : (outF l outs).map (o :: ·) = some ol := by
      cases m with
      | st ms => exact absurd rfl (hm ms)
      | ro => exact e
      | mv => exact e
      | io => exact e
    obtain ⟨ol', hol, rfl⟩ := Option.map_eq_some_iff.1 e
    have hpo := hp o (List.mem_cons_self ..)
    obtain ⟨Gl, ⟨i1, i2, i3⟩, i4, i5⟩ := ih outs ol' Gs ⟨by simpa using k1, by simpa using k2, fun j x v F p q r => k3 (j + 1) x v F (by simpa using p) (by simpa using q) (by simpa using r)⟩ (fun y hy => hp y (List.mem_cons_of_mem _ hy)) hol
    refine ⟨G :: Gl, ⟨by simp [i1], by simp [i2], fun j x u F p q r => ?_⟩, by simp [i4], fun y hy => ?_⟩
    · cases j with
      | zero => simp at p q r; subst p; subst q; subst r; exact k3 0 o v G rfl rfl rfl
      | succ j => exact i3 j x u F (by simpa using p) (by simpa using q) (by simpa using r)
    · rcases List.mem_cons.1 hy with rfl | hy
      · cases y <;> first | rfl | exact hpo
      · exact i5 y hy
end
end Go.Proofs.YtiejaibmcmicoaaGreatDoor.Am
