/- Contracts of functions over the small machine's values; how arguments are handed over; no condition. -/
import Derived.Test.YtiejaibmcmicoaaGreatDoorAm5
namespace Go.Proofs.YtiejaibmcmicoaaGreatDoor.Am
open Go
def shut : AV → Bool
  | .own .. | .io .. | .bx .. | .ref .. | .sl .. | .pf .. => false
  | .agg cs => shutL cs
  | .tup cs => shutL cs
  | .clo _ cs => shutL cs
  | _ => true
where shutL : List AV → Bool
  | [] => true
  | x :: l => shut x && shutL l
def idfree : AV → Bool
  | .ref .. | .sl .. | .pf .. => false
  | .agg cs => idfreeL cs
  | .tup cs => idfreeL cs
  | .clo _ cs => idfreeL cs
  | .own cs _ _ => idfreeL cs
  | .io cs _ _ => idfreeL cs
  | .bx cs => idfreeL cs
  | _ => true
where idfreeL : List AV → Bool
  | [] => true
  | x :: l => idfree x && idfreeL l
def flt : AV → Bool
  | .ro .. | .rp .. | .ref .. | .sl .. | .pf .. => false
  | .agg cs => fltL cs
  | .tup cs => fltL cs
  | .clo _ cs => fltL cs
  | .own cs _ _ => fltL cs
  | .io cs _ _ => fltL cs
  | .bx cs => fltL cs
  | _ => true
where fltL : List AV → Bool
  | [] => true
  | x :: l => flt x && fltL l
theorem shutL_mem {l : List AV} (h : shut.shutL l = true) : ∀ x ∈ l, shut x = true := by
  induction l with
  | nil => simp
  | cons y l ih =>
    simp only [shut.shutL, Bool.and_eq_true] at h
    intro x hx
    rcases List.mem_cons.1 hx with rfl | hx
    · exact h.1
    · exact ih h.2 x hx
theorem shutL_of {l : List AV} (h : ∀ x ∈ l, shut x = true) : shut.shutL l = true := by
  induction l with
  | nil => rfl
  | cons y l ih => simp only [shut.shutL, Bool.and_eq_true]; exact ⟨h y (by simp), ih fun x hx => h x (by simp [hx])⟩
theorem W.shut {M : Nat → Prop} {w : World} {x : AV} {v : Value} (h : W M w x v) : Am.shut x = true := by
  induction h with
  | agg cs us h1 ho h ih =>
    refine shutL_of fun x hx => ?_
    obtain ⟨j, hj, rfl⟩ := List.mem_iff_getElem.1 hx
    exact ih j _ _ (List.getElem?_eq_getElem hj) (List.getElem?_eq_getElem (by omega))
  | tup cs us h1 h ih =>
    refine shutL_of fun x hx => ?_
    obtain ⟨j, hj, rfl⟩ := List.mem_iff_getElem.1 hx
    exact ih j _ _ (List.getElem?_eq_getElem hj) (List.getElem?_eq_getElem (by omega))
  | clo f cs us h1 h ih =>
    refine shutL_of fun x hx => ?_
    obtain ⟨j, hj, rfl⟩ := List.mem_iff_getElem.1 hx
    exact ih j _ _ (List.getElem?_eq_getElem hj) (List.getElem?_eq_getElem (by omega))
  | _ => rfl
theorem idfreeL_mem {l : List AV} (h : idfree.idfreeL l = true) : ∀ x ∈ l, idfree x = true := by
  induction l with
  | nil => simp
  | cons y l ih =>
    simp only [idfree.idfreeL, Bool.and_eq_true] at h
    intro x hx
    rcases List.mem_cons.1 hx with rfl | hx
    · exact h.1
    · exact ih h.2 x hx
theorem fltL_mem {l : List AV} (h : flt.fltL l = true) : ∀ x ∈ l, flt x = true := by
  induction l with
  | nil => simp
  | cons y l ih =>
    simp only [flt.fltL, Bool.and_eq_true] at h
    intro x hx
    rcases List.mem_cons.1 hx with rfl | hx
    · exact h.1
    · exact ih h.2 x hx
section
variable {φ : Nat → Option Loc} {M : Nat → Prop} {w : World} {x : AV} {v : Value} {F : List Nat}
theorem V.toW (h : V φ M w x v F) (hs : shut x = true) : W M w x v := by
  induction h with
  | imm x v h => exact h
  | agg cs us Fs h1 h2 ho h ih =>
    refine .agg cs us h1 ho fun j x u a b => ?_
    have hj : j < Fs.length := by rw [h2]; exact (List.getElem?_eq_some_iff.1 a).1
    exact ih j x u _ a b (List.getElem?_eq_getElem hj) (shutL_mem hs x (List.mem_of_getElem? a))
  | tup cs us Fs h1 h2 h ih =>
    refine .tup cs us h1 fun j x u a b => ?_
    have hj : j < Fs.length := by rw [h2]; exact (List.getElem?_eq_some_iff.1 a).1
    exact ih j x u _ a b (List.getElem?_eq_getElem hj) (shutL_mem hs x (List.mem_of_getElem? a))
  | clo f cs us Fs h1 h2 h ih =>
    refine .clo f cs us h1 fun j x u a b => ?_
    have hj : j < Fs.length := by rw [h2]; exact (List.getElem?_eq_some_iff.1 a).1
    exact ih j x u _ a b (List.getElem?_eq_getElem hj) (shutL_mem hs x (List.mem_of_getElem? a))
  | ref => cases hs
  | sl => cases hs
  | slz => cases hs
  | pf => cases hs
  | pfz => cases hs
  | own => cases hs
  | ownnil => cases hs
  | io => cases hs
  | ionil => cases hs
  | bx => cases hs
theorem W.flat {M' : Nat → Prop} (h : W M w x v) (hf : flt x = true) (w' : World) : W M' w' x v := by
  induction h with
  | un v => exact .un v
  | sc v h => exact .sc v h
  | em A => exact .em A
  | agg cs us h1 ho h ih => exact .agg cs us h1 ho fun j x u a b => ih j x u a b (fltL_mem hf x (List.mem_of_getElem? a))
  | tup cs us h1 h ih => exact .tup cs us h1 fun j x u a b => ih j x u a b (fltL_mem hf x (List.mem_of_getElem? a))
  | clo f cs us h1 h ih => exact .clo f cs us h1 fun j x u a b => ih j x u a b (fltL_mem hf x (List.mem_of_getElem? a))
  | ro => cases hf
  | rp => cases hf
theorem V.free {φ' : Nat → Option Loc} (h : V φ M w x v F) (hi : idfree x = true) : V φ' M w x v F := by
  induction h with
  | imm x v h => exact .imm _ _ h
  | agg cs us Fs h1 h2 ho h ih => exact .agg cs us Fs h1 h2 ho fun j x u F a b c => ih j x u F a b c (idfreeL_mem hi x (List.mem_of_getElem? a))
  | tup cs us Fs h1 h2 h ih => exact .tup cs us Fs h1 h2 fun j x u F a b c => ih j x u F a b c (idfreeL_mem hi x (List.mem_of_getElem? a))
  | clo f cs us Fs h1 h2 h ih => exact .clo f cs us Fs h1 h2 fun j x u F a b c => ih j x u F a b c (idfreeL_mem hi x (List.mem_of_getElem? a))
  | ref => cases hi
  | sl => cases hi
  | slz => cases hi
  | pf => cases hi
  | pfz => cases hi
  | own cs len sz g o c C us Fs h1 h2 hb hl hs hr hc ho h ih => exact .own cs len sz g o c C us Fs h1 h2 hb hl hs hr hc ho fun j x u F a b cc => ih j x u F a b cc (idfreeL_mem hi x (List.mem_of_getElem? a))
  | ownnil sz A => exact .ownnil sz A
  | io cs len sz g o c C us Fs h1 h2 hb hl hs hr hc ho h ih => exact .io cs len sz g o c C us Fs h1 h2 hb hl hs hr hc ho fun j x u F a b cc => ih j x u F a b cc (idfreeL_mem hi x (List.mem_of_getElem? a))
  | ionil sz A => exact .ionil sz A
  | bx cs g o C us Fs h1 h2 hb hc ho h ih => exact .bx cs g o C us Fs h1 h2 hb hc ho fun j x u F a b cc => ih j x u F a b cc (idfreeL_mem hi x (List.mem_of_getElem? a))
theorem V.flat {M' : Nat → Prop} (h : V φ M w x v F) (hf : flt x = true) : V φ M' w x v F := by
  induction h with
  | imm x v h => exact .imm _ _ (h.flat hf w)
  | agg cs us Fs h1 h2 ho h ih => exact .agg cs us Fs h1 h2 ho fun j x u F a b c => ih j x u F a b c (fltL_mem hf x (List.mem_of_getElem? a))
  | tup cs us Fs h1 h2 h ih => exact .tup cs us Fs h1 h2 fun j x u F a b c => ih j x u F a b c (fltL_mem hf x (List.mem_of_getElem? a))
  | clo f cs us Fs h1 h2 h ih => exact .clo f cs us Fs h1 h2 fun j x u F a b c => ih j x u F a b c (fltL_mem hf x (List.mem_of_getElem? a))
  | ref => cases hf
  | sl => cases hf
  | slz => cases hf
  | pf => cases hf
  | pfz => cases hf
  | own cs len sz g o c C us Fs h1 h2 hb hl hs hr hc ho h ih => exact .own cs len sz g o c C us Fs h1 h2 hb hl hs hr hc ho fun j x u F a b cc => ih j x u F a b cc (fltL_mem hf x (List.mem_of_getElem? a))
  | ownnil sz A => exact .ownnil sz A
  | io cs len sz g o c C us Fs h1 h2 hb hl hs hr hc ho h ih => exact .io cs len sz g o c C us Fs h1 h2 hb hl hs hr hc ho fun j x u F a b cc => ih j x u F a b cc (fltL_mem hf x (List.mem_of_getElem? a))
  | ionil sz A => exact .ionil sz A
  | bx cs g o C us Fs h1 h2 hb hc ho h ih => exact .bx cs g o C us Fs h1 h2 hb hc ho fun j x u F a b cc => ih j x u F a b cc (fltL_mem hf x (List.mem_of_getElem? a))
end
def nof : Nat → Option Loc := fun _ => none
def Vs (φ : Nat → Option Loc) (M : Nat → Prop) (w : World) (xs : List AV) (vs : List Value) (Fs : List (List Nat)) : Prop :=
  vs.length = xs.length ∧ Fs.length = xs.length ∧ ∀ (j : Nat) (x : AV) (v : Value) (F : List Nat), xs[j]? = some x → vs[j]? = some v → Fs[j]? = some F → V φ M w x v F
structure Left (w : World) (M : Nat → Prop) (F : List Nat) (w' : World) (M' : Nat → Prop) (F' : List Nat) : Prop where
  nodup : F'.Nodup
  own : ∀ g ∈ F', ¬ M' g ∧ g < w'.heap.size ∧ (g ∈ F ∨ w.heap.size ≤ g)
  m : ∀ g, M g → M' g
  m' : ∀ g, M' g → M g ∨ g ∈ F ∨ w.heap.size ≤ g
  low : ∀ g, M' g → g < w'.heap.size
  os : w'.os = w.os
  tape : w'.tape = w.tape
  output : w'.output = w.output
  grown : w.heap.size ≤ w'.heap.size
  frame : ∀ g, g < w.heap.size → g ∉ F → w'.heap[g]? = w.heap[g]?
  keep : Keeps w w'
def isIo : AV → Bool
  | .io .. | .bx .. => true
  | _ => false
def ioPos1 : AV → Bool
  | .io _ len _ => decide (0 < len)
  | _ => true
def ioPos : AV → Bool
  | .agg cs => cs.all ioPos1
  | x => ioPos1 x
def hasIo : AV → Bool
  | .io .. | .bx .. => true
  | .agg cs => cs.any isIo
  | _ => false
def Ret (P : Program) (f : FuncId) (args : List AV) (ret : AV) (outs : List AV) : Prop :=
  ∀ (M : Nat → Prop) (w : World) (vs : List Value) (Fs : List (List Nat)), Vs nof M w args vs Fs → Fs.flatten.Nodup → (∀ g ∈ Fs.flatten, ¬ M g ∧ g < w.heap.size) → (∀ g, M g → g < w.heap.size) → Laid M w →
    Calls P f vs.toArray w fun e w' => ∃ (v : Value) (M' : Nat → Prop) (Fr : List Nat) (Gs : List (List Nat)),
      e = .returned v ∧ V nof M' w' ret v Fr ∧ Vs nof M' w' outs vs Gs ∧ (∀ y ∈ outs, ioPos y = true) ∧ Left w M Fs.flatten w' M' (Fr ++ Gs.flatten)
def roc (h : Nat → Option (Option (List AV))) : Nat → AV → Option AV
  | 0, x => if shut x then some x else none
  | k + 1, x => if shut x then some x else match x with
    | .sl b off len sz _ => match h b with
      | some (some cs) => if off + len * sz ≤ cs.length then if shut.shutL ((cs.drop off).take (len * sz)) then some (.ro ((cs.drop off).take (len * sz)) len) else (((cs.drop off).take (len * sz)).mapM (roc h k)).map fun ys => .ro ys len else none
      | _ => none
    | .ref b off => match h b with
      | some (some cs) => if shut.shutL cs then some (.rp cs off) else (cs.mapM (roc h k)).map fun ys => .rp ys off
      | _ => none
    | .agg cs => (cs.mapM (roc h k)).map .agg
    | .clo f cs => (cs.mapM (roc h k)).map (.clo f)
    | .own cs len _ => (cs.mapM (roc h k)).map fun ys => .ro ys len
    | _ => none
theorem mapM_get {α β : Type} {f : α → Option β} : ∀ {l : List α} {r : List β}, l.mapM f = some r → r.length = l.length ∧ ∀ (j : Nat) (y : β), r[j]? = some y → ∃ x, l[j]? = some x ∧ f x = some y
  | [], r, h => by simp at h; subst h; simp
  | x :: l, r, h => by
    simp only [List.mapM_cons, Option.bind_eq_bind, Option.bind_eq_some_iff, Option.pure_def, Option.some.injEq] at h
    obtain ⟨y, hy, r', hr, rfl⟩ := h
    obtain ⟨h1, h2⟩ := mapM_get hr
    refine ⟨by simp [h1], fun j z hz => ?_⟩
    cases j with
    | zero => simp at hz; subst hz; exact ⟨x, rfl, hy⟩
    | succ j => simp only [List.getElem?_cons_succ] at hz ⊢; exact h2 j z hz
section
variable {E : Ent} {φ : Nat → Option Loc} {M M' : Nat → Prop} {L : Nat → List Nat} {st : St} {tm : Array Value} {w : World}
theorem Cs.toWs {k : Nat} {cs ys : List AV} {us : List Value} {F : List Nat} (h : Cs φ M w cs us F) (hF : ∀ g ∈ F, M' g) (hys : cs.mapM (roc st.h k) = some ys)
    (ih : ∀ x v F y, V φ M w x v F → roc st.h k x = some y → (∀ g ∈ F, M' g) → W M' w y v) : Ws M' w ys us := by
  obtain ⟨Fs, h1, h2, h3, rfl, h⟩ := h
  obtain ⟨e1, e2⟩ := mapM_get hys
  refine ⟨by omega, h3, fun j y u hy hu => ?_⟩
  obtain ⟨x, hx, hxy⟩ := e2 j y hy
  have hj : j < Fs.length := by rw [h2]; exact (List.getElem?_eq_some_iff.1 hx).1
  exact ih x u _ y (h j x u _ hx hu (List.getElem?_eq_getElem hj)) hxy fun g hg => hF g (mem_flatten_of (List.getElem?_eq_getElem hj) hg)
theorem Cs.shutWs {cs : List AV} {us : List Value} {F : List Nat} (h : Cs φ M w cs us F) (hs : shut.shutL cs = true) : Ws M w cs us := by
  obtain ⟨Fs, h1, h2, h3, rfl, h⟩ := h
  refine ⟨h1, h3, fun j x u hx hu => ?_⟩
  have hj : j < Fs.length := by rw [h2]; exact (List.getElem?_eq_some_iff.1 hx).1
  exact (h j x u _ hx hu (List.getElem?_eq_getElem hj)).toW (shutL_mem hs x (List.mem_of_getElem? hx))
theorem Ws.mono {cs : List AV} {us : List Value} (h : Ws M w cs us) (hM : ∀ g, M g → M' g) : Ws M' w cs us := ⟨h.1, h.2.1, fun j x u a b => (h.2.2 j x u a b).mono hM fun _ _ => rfl⟩
theorem Cs.slice {cs : List AV} {us : List Value} {F : List Nat} (h : Cs φ M w cs us F) (a n : Nat) : ∃ F', (∀ g ∈ F', g ∈ F) ∧ Cs φ M w ((cs.drop a).take n) ((us.drop a).take n) F' := by
  obtain ⟨Fs, h1, h2, h3, rfl, h⟩ := h
  refine ⟨((Fs.drop a).take n).flatten, fun g hg => ?_, (Fs.drop a).take n, by simp [h1], by simp [h2], fun u hu => h3 u (List.mem_of_mem_drop (List.mem_of_mem_take hu)), rfl, fun j x u F hx hu hF => ?_⟩
  · obtain ⟨F, hF, hg⟩ := List.mem_flatten.1 hg
    exact List.mem_flatten.2 ⟨F, List.mem_of_mem_drop (List.mem_of_mem_take hF), hg⟩
  · rw [List.getElem?_take] at hx hu hF
    split at hx <;> (try cases hx)
    rename_i hlt
    rw [if_pos hlt] at hu hF
    rw [List.getElem?_drop] at hx hu hF
    exact h _ x u F hx hu hF
theorem roc_ok (I : Inv E φ M L st tm w) (hM : ∀ g, M g → M' g) (hL : ∀ b cs, st.h b = some (some cs) → ∀ g ∈ L b, M' g) : ∀ (k : Nat) (x : AV) (v : Value) (F : List Nat) (y : AV), V φ M w x v F → roc st.h k x = some y → (∀ g ∈ F, M' g) → W M' w y v := by
  have hsh : ∀ (x : AV) (v : Value) (F : List Nat), V φ M w x v F → shut x = true → W M' w x v := fun x v F h hs => (h.toW hs).mono hM fun _ _ => rfl
  intro k
  induction k with
  | zero =>
    intro x v F y h hy _
    simp only [roc] at hy
    split at hy <;> cases hy
    rename_i hs
    exact hsh _ _ _ h hs
  | succ k ih =>
    intro x v F y h hy hF
    simp only [roc] at hy
    split at hy
    · rename_i hs; cases hy; exact hsh _ _ _ h hs
    rename_i hns
    split at hy
    · rename_i b off len sz lim
      split at hy <;> (try cases hy)
      rename_i cs hb
      split at hy <;> (try cases hy)
      rename_i hle
      obtain ⟨_, ⟨rfl, A, rfl⟩ | ⟨l, c, hl, rfl, h1, h2, h3⟩⟩ := vsl h
      · have : y = .ro [] 0 := by
          rw [Nat.zero_mul, List.take_zero] at hy
          simpa [shut.shutL] using hy.symm
        subst this
        exact .ro [] 0 A 0 [] (Nat.le_refl _) (by omega) rfl (by simp) (by simp) (by simp)
      · rcases I.root b cs hb with ⟨_, h2', _⟩ | ⟨l', C, us, F', h2', hB, hn, hc, hcells, hLb⟩
        · rw [hl] at h2'; cases h2'
        rw [hl] at h2'; cases h2'
        have hml : M' l.g := hL b cs hb l.g (by rw [hLb]; simp)
        have mk : ∀ ys, Ws M' w ys ((us.drop off).take (len * sz)) → W M' w (.ro ys len) (.slice (some ⟨l.g, l.o + off, none⟩) len c) := fun ys hw => by
          refine .ro ys len _ c _ h1 (fun _ => ⟨_, _, rfl⟩) hw.1 (fun j u hj => ⟨_, _, rfl, hml, ?_⟩) hw.2.1 hw.2.2
          rw [List.getElem?_take] at hj
          split at hj <;> (try cases hj)
          rw [List.getElem?_drop] at hj
          rw [hB.cell, Nat.add_assoc]
          exact hcells _ u hj
        obtain ⟨F'', hF'', hsl⟩ := hc.slice off (len * sz)
        have hF3 : ∀ g ∈ F'', M' g := fun g hg => hL b cs hb g (by rw [hLb]; exact List.mem_cons_of_mem _ (hF'' g hg))
        split at hy
        · rename_i hsh'
          cases hy
          exact mk _ ((hsl.shutWs hsh').mono hM)
        · obtain ⟨ys, hys, rfl⟩ := Option.map_eq_some_iff.1 hy
          exact mk _ (hsl.toWs hF3 hys ih)
    · rename_i b off
      split at hy <;> (try cases hy)
      rename_i cs hb
      obtain ⟨l, hl, rfl⟩ := vref h
      rcases I.root b cs hb with ⟨_, h2', _⟩ | ⟨l', C, us, F', h2', hB, hn, hc, hcells, hLb⟩
      · rw [hl] at h2'; cases h2'
      rw [hl] at h2'; cases h2'
      have hml : M' l.g := hL b cs hb l.g (by rw [hLb]; simp)
      have mk : ∀ ys, Ws M' w ys us → W M' w (.rp ys off) (.pointer (some ⟨l.g, l.o + off, none⟩)) := fun ys hw =>
        .rp ys off l.g l.o us hw.1 (fun j u hj => ⟨hml, by rw [hB.cell]; exact hcells _ u hj⟩) hw.2.1 hw.2.2
      have hF3 : ∀ g ∈ F', M' g := fun g hg => hL b cs hb g (by rw [hLb]; exact List.mem_cons_of_mem _ hg)
      split at hy
      · rename_i hsh'
        cases hy
        exact mk _ ((hc.shutWs hsh').mono hM)
      · obtain ⟨ys, hys, rfl⟩ := Option.map_eq_some_iff.1 hy
        exact mk _ (hc.toWs hF3 hys ih)
    · obtain ⟨ys, hys, rfl⟩ := Option.map_eq_some_iff.1 hy
      obtain ⟨us, rfl, hc⟩ := vagg h
      have := hc.toWs hF hys ih
      exact .agg ys us this.1 this.2.1 this.2.2
    · rename_i f cs
      obtain ⟨ys, hys, rfl⟩ := Option.map_eq_some_iff.1 hy
      obtain ⟨e1, e2⟩ := mapM_get hys
      cases h with
      | imm _ _ h => exact absurd h.shut hns
      | clo _ _ us Fs h1 h2 h =>
        refine .clo f ys us (by omega) fun j y u hy hu => ?_
        obtain ⟨x, hx, hxy⟩ := e2 j y hy
        have hj : j < Fs.length := by rw [h2]; exact (List.getElem?_eq_some_iff.1 hx).1
        exact ih x u _ y (h j x u _ hx hu (List.getElem?_eq_getElem hj)) hxy fun g hg => hF g (mem_flatten_of (List.getElem?_eq_getElem hj) hg)
    · rename_i cs len sz
      obtain ⟨ys, hys, rfl⟩ := Option.map_eq_some_iff.1 hy
      cases h with
      | imm _ _ h => cases h
      | own _ _ _ g o c C us Fs h1 h2 hb hl hs hr hc ho h =>
        have := Cs.toWs (φ := φ) (M := M) (F := Fs.flatten) ⟨Fs, h1, h2, ho, rfl, h⟩ (fun g hg => hF g (List.mem_cons_of_mem _ hg)) hys ih
        refine .ro ys len _ c us hl (fun _ => ⟨_, _, rfl⟩) this.1 (fun j u hj => ⟨_, _, rfl, hF g (by simp), ?_⟩) this.2.1 this.2.2
        rw [hb.cell]; exact hc j u hj
      | ownnil _ A =>
        simp at hys; subst hys
        exact .ro [] 0 A 0 [] (Nat.le_refl _) (by omega) rfl (by simp) (by simp) (by simp)
    · cases hy
end
end Go.Proofs.YtiejaibmcmicoaaGreatDoor.Am
