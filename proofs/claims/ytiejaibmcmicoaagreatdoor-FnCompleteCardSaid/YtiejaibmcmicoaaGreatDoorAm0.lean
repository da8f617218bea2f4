/- Values of a small machine of our own (slices by what they hold), and how they stand for the model's values in a world; no condition. -/
import Derived.WalkKit
namespace Go.Proofs.YtiejaibmcmicoaaGreatDoor.Am
open Go
inductive AV where
  | un
  | sc (v : Value)
  | agg (cs : List AV)
  | tup (vs : List AV)
  | ref (b off : Nat)
  | sl (b off len sz : Nat) (lim : Bool)
  | pf (b off len cap sz : Nat)
  | em
  | ro (cs : List AV) (len : Nat)
  | rp (cs : List AV) (off : Nat)
  | own (cs : List AV) (len sz : Nat)
  | io (cs : List AV) (len sz : Nat)
  | bx (cs : List AV)
  | clo (f : FuncId) (caps : List AV)
  deriving Inhabited
structure Loc where
  g : Nat
  o : Nat
  n : Nat
def Blk (w : World) (g : Nat) (C : Array Value) : Prop :=
  ∃ e fr, w.heap[g]? = some (.cells C e fr) ∧ ∀ i, i ≤ C.size → ¬ (fr.1 ≤ i ∧ i < fr.2)
theorem Blk.same {w w' : World} {g : Nat} {C : Array Value} (h : Blk w g C) (hw : w'.heap[g]? = w.heap[g]?) : Blk w' g C := by
  obtain ⟨e, fr, h1, h2⟩ := h
  exact ⟨e, fr, hw.trans h1, h2⟩
theorem Blk.lt {w : World} {g : Nat} {C : Array Value} (h : Blk w g C) : g < w.heap.size := by
  obtain ⟨e, fr, h1, h2⟩ := h
  exact (Array.getElem?_eq_some_iff.1 h1).1
theorem Blk.cell {w : World} {g : Nat} {C : Array Value} (h : Blk w g C) (i : Nat) : w.cell? ⟨g, i, none⟩ = C[i]? := by
  obtain ⟨e, fr, h1, h2⟩ := h
  simp [World.cell?, h1]
theorem Blk.frozen {w : World} {g : Nat} {C : Array Value} (h : Blk w g C) (i : Nat) (hi : i ≤ C.size) : w.frozen? ⟨g, i, none⟩ = false := by
  obtain ⟨e, fr, h1, h2⟩ := h
  have := h2 i hi
  simp only [World.frozen?, h1]
  simp only [Bool.and_eq_false_imp, decide_eq_true_eq, decide_eq_false_iff_not]
  omega
theorem Blk.inj {w : World} {g : Nat} {C C' : Array Value} (h : Blk w g C) (h' : Blk w g C') : C = C' := by
  obtain ⟨e, fr, h1, h2⟩ := h
  obtain ⟨e', fr', h1', h2'⟩ := h'
  rw [h1] at h1'
  simp only [Option.some.injEq, Obj.cells.injEq] at h1'
  exact h1'.1
inductive W (M : Nat → Prop) (w : World) : AV → Value → Prop where
  | un (v : Value) : W M w .un v
  | sc (v : Value) (h : v.oneCell' = true) : W M w (.sc v) v
  | em (A : Option Addr) : W M w .em (.slice A 0 0)
  | agg (cs : List AV) (us : List Value) (h1 : us.length = cs.length) (ho : ∀ u ∈ us, u.oneCell' = true)
      (h : ∀ (j : Nat) (x : AV) (u : Value), cs[j]? = some x → us[j]? = some u → W M w x u) : W M w (.agg cs) (.agg us.toArray)
  | tup (cs : List AV) (us : List Value) (h1 : us.length = cs.length)
      (h : ∀ (j : Nat) (x : AV) (u : Value), cs[j]? = some x → us[j]? = some u → W M w x u) : W M w (.tup cs) (.tuple us.toArray)
  | clo (f : FuncId) (cs : List AV) (us : List Value) (h1 : us.length = cs.length)
      (h : ∀ (j : Nat) (x : AV) (u : Value), cs[j]? = some x → us[j]? = some u → W M w x u) : W M w (.clo f cs) (.func (.func f) #[] us.toArray)
  | ro (cs : List AV) (len : Nat) (A : Option Addr) (c : Nat) (us : List Value) (h0 : len ≤ c) (hA : 0 < len → ∃ g o, A = some ⟨g, o, none⟩) (h1 : us.length = cs.length)
      (hc : ∀ (j : Nat) (u : Value), us[j]? = some u → ∃ g o, A = some ⟨g, o, none⟩ ∧ M g ∧ w.cell? ⟨g, o + j, none⟩ = some u)
      (ho : ∀ u ∈ us, u.oneCell' = true)
      (h : ∀ (j : Nat) (x : AV) (u : Value), cs[j]? = some x → us[j]? = some u → W M w x u) : W M w (.ro cs len) (.slice A len c)
  | rp (cs : List AV) (off g o : Nat) (us : List Value) (h1 : us.length = cs.length)
      (hc : ∀ (j : Nat) (u : Value), us[j]? = some u → M g ∧ w.cell? ⟨g, o + j, none⟩ = some u)
      (ho : ∀ u ∈ us, u.oneCell' = true)
      (h : ∀ (j : Nat) (x : AV) (u : Value), cs[j]? = some x → us[j]? = some u → W M w x u) : W M w (.rp cs off) (.pointer (some ⟨g, o + off, none⟩))
theorem cell_same {w w' : World} {a : Addr} (h : w'.heap[a.block]? = w.heap[a.block]?) : w'.cell? a = w.cell? a := by
  simp only [World.cell?, h]
theorem W.mono {M M' : Nat → Prop} {w w' : World} {x : AV} {v : Value} (h : W M w x v) (hM : ∀ g, M g → M' g) (hw : ∀ g, M g → w'.heap[g]? = w.heap[g]?) : W M' w' x v := by
  induction h with
  | un v => exact .un v
  | sc v h => exact .sc v h
  | em A => exact .em A
  | agg cs us h1 ho h ih => exact .agg cs us h1 ho ih
  | tup cs us h1 h ih => exact .tup cs us h1 ih
  | clo f cs us h1 h ih => exact .clo f cs us h1 ih
  | ro cs len A c us h0 hA h1 hc ho h ih =>
    refine .ro cs len A c us h0 hA h1 (fun j u hj => ?_) ho ih
    obtain ⟨g, o, hA, hm, hcell⟩ := hc j u hj
    exact ⟨g, o, hA, hM g hm, (cell_same (hw g hm)).trans hcell⟩
  | rp cs off g o us h1 hc ho h ih =>
    refine .rp cs off g o us h1 (fun j u hj => ?_) ho ih
    obtain ⟨hm, hcell⟩ := hc j u hj
    exact ⟨hM g hm, (cell_same (hw g hm)).trans hcell⟩
inductive V (φ : Nat → Option Loc) (M : Nat → Prop) (w : World) : AV → Value → List Nat → Prop where
  | imm (x : AV) (v : Value) (h : W M w x v) : V φ M w x v []
  | agg (cs : List AV) (us : List Value) (Fs : List (List Nat)) (h1 : us.length = cs.length) (h2 : Fs.length = cs.length)
      (ho : ∀ u ∈ us, u.oneCell' = true)
      (h : ∀ (j : Nat) (x : AV) (u : Value) (F : List Nat), cs[j]? = some x → us[j]? = some u → Fs[j]? = some F → V φ M w x u F) : V φ M w (.agg cs) (.agg us.toArray) Fs.flatten
  | tup (cs : List AV) (us : List Value) (Fs : List (List Nat)) (h1 : us.length = cs.length) (h2 : Fs.length = cs.length)
      (h : ∀ (j : Nat) (x : AV) (u : Value) (F : List Nat), cs[j]? = some x → us[j]? = some u → Fs[j]? = some F → V φ M w x u F) : V φ M w (.tup cs) (.tuple us.toArray) Fs.flatten
  | clo (f : FuncId) (cs : List AV) (us : List Value) (Fs : List (List Nat)) (h1 : us.length = cs.length) (h2 : Fs.length = cs.length)
      (h : ∀ (j : Nat) (x : AV) (u : Value) (F : List Nat), cs[j]? = some x → us[j]? = some u → Fs[j]? = some F → V φ M w x u F) : V φ M w (.clo f cs) (.func (.func f) #[] us.toArray) Fs.flatten
  | ref (b off : Nat) (l : Loc) (h : φ b = some l) : V φ M w (.ref b off) (.pointer (some ⟨l.g, l.o + off, none⟩)) []
  | sl (b off len sz : Nat) (lim : Bool) (l : Loc) (c : Nat) (h : φ b = some l) (h1 : len ≤ c) (h2 : l.o + off + c * sz ≤ l.n) (h3 : lim = true → c = len)
      : V φ M w (.sl b off len sz lim) (.slice (some ⟨l.g, l.o + off, none⟩) len c) []
  | slz (b off sz : Nat) (lim : Bool) (A : Option Addr) : V φ M w (.sl b off 0 sz lim) (.slice A 0 0) []
  | pf (b off len cap sz : Nat) (l : Loc) (h : φ b = some l) (h1 : len ≤ cap) (h2 : l.o + off + cap * sz ≤ l.n) : V φ M w (.pf b off len cap sz) (.slice (some ⟨l.g, l.o + off, none⟩) len cap) []
  | pfz (b off sz : Nat) (A : Option Addr) : V φ M w (.pf b off 0 0 sz) (.slice A 0 0) []
  | own (cs : List AV) (len sz g o c : Nat) (C : Array Value) (us : List Value) (Fs : List (List Nat)) (h1 : us.length = cs.length) (h2 : Fs.length = cs.length)
      (hb : Blk w g C) (hl : len ≤ c) (hs : cs.length = len * sz) (hr : o + c * sz ≤ C.size)
      (hc : ∀ (j : Nat) (u : Value), us[j]? = some u → C[o + j]? = some u) (ho : ∀ u ∈ us, u.oneCell' = true)
      (h : ∀ (j : Nat) (x : AV) (u : Value) (F : List Nat), cs[j]? = some x → us[j]? = some u → Fs[j]? = some F → V φ M w x u F) : V φ M w (.own cs len sz) (.slice (some ⟨g, o, none⟩) len c) (g :: Fs.flatten)
  | ownnil (sz : Nat) (A : Option Addr) : V φ M w (.own [] 0 sz) (.slice A 0 0) []
  | io (cs : List AV) (len sz g o c : Nat) (C : Array Value) (us : List Value) (Fs : List (List Nat)) (h1 : us.length = cs.length) (h2 : Fs.length = cs.length)
      (hb : Blk w g C) (hl : len ≤ c) (hs : cs.length = len * sz) (hr : o + c * sz ≤ C.size)
      (hc : ∀ (j : Nat) (u : Value), us[j]? = some u → C[o + j]? = some u) (ho : ∀ u ∈ us, u.oneCell' = true)
      (h : ∀ (j : Nat) (x : AV) (u : Value) (F : List Nat), cs[j]? = some x → us[j]? = some u → Fs[j]? = some F → V φ M w x u F) : V φ M w (.io cs len sz) (.slice (some ⟨g, o, none⟩) len c) (g :: Fs.flatten)
  | ionil (sz : Nat) (A : Option Addr) : V φ M w (.io [] 0 sz) (.slice A 0 0) []
  | bx (cs : List AV) (g o : Nat) (C : Array Value) (us : List Value) (Fs : List (List Nat)) (h1 : us.length = cs.length) (h2 : Fs.length = cs.length)
      (hb : Blk w g C)
      (hc : ∀ (j : Nat) (u : Value), us[j]? = some u → C[o + j]? = some u) (ho : ∀ u ∈ us, u.oneCell' = true)
      (h : ∀ (j : Nat) (x : AV) (u : Value) (F : List Nat), cs[j]? = some x → us[j]? = some u → Fs[j]? = some F → V φ M w x u F) : V φ M w (.bx cs) (.pointer (some ⟨g, o, none⟩)) (g :: Fs.flatten)
theorem mem_flatten_of {Fs : List (List Nat)} {j : Nat} {F : List Nat} (h : Fs[j]? = some F) {g : Nat} (hg : g ∈ F) : g ∈ Fs.flatten :=
  List.mem_flatten.2 ⟨F, List.mem_of_getElem? h, hg⟩
theorem V.mono {φ φ' : Nat → Option Loc} {M M' : Nat → Prop} {w w' : World} {x : AV} {v : Value} {F : List Nat} (h : V φ M w x v F)
    (hφ : ∀ b l, φ b = some l → φ' b = some l) (hM : ∀ g, M g → M' g) (hw : ∀ g, M g ∨ g ∈ F → w'.heap[g]? = w.heap[g]?) : V φ' M' w' x v F := by
  induction h with
  | imm x v h => exact .imm x v (h.mono hM fun g hg => hw g (.inl hg))
  | agg cs us Fs h1 h2 ho h ih => exact .agg cs us Fs h1 h2 ho fun j x u F a b c => ih j x u F a b c (fun g hg => hw g (hg.imp id (mem_flatten_of c)))
  | tup cs us Fs h1 h2 h ih => exact .tup cs us Fs h1 h2 fun j x u F a b c => ih j x u F a b c (fun g hg => hw g (hg.imp id (mem_flatten_of c)))
  | clo f cs us Fs h1 h2 h ih => exact .clo f cs us Fs h1 h2 fun j x u F a b c => ih j x u F a b c (fun g hg => hw g (hg.imp id (mem_flatten_of c)))
  | ref b off l h => exact .ref b off l (hφ b l h)
  | sl b off len sz lim l c h h1 h2 h3 => exact .sl b off len sz lim l c (hφ b l h) h1 h2 h3
  | slz b off sz lim A => exact .slz b off sz lim A
  | pf b off len cap sz l h h1 h2 => exact .pf b off len cap sz l (hφ b l h) h1 h2
  | pfz b off sz A => exact .pfz b off sz A
  | own cs len sz g o c C us Fs h1 h2 hb hl hs hr hc ho h ih =>
    exact .own cs len sz g o c C us Fs h1 h2 (hb.same (hw g (.inr (by simp)))) hl hs hr hc ho fun j x u F a b cc => ih j x u F a b cc (fun g hg => hw g (hg.imp id fun hg => List.mem_cons_of_mem _ (mem_flatten_of cc hg)))
  | ownnil sz A => exact .ownnil sz A
  | io cs len sz g o c C us Fs h1 h2 hb hl hs hr hc ho h ih =>
    exact .io cs len sz g o c C us Fs h1 h2 (hb.same (hw g (.inr (by simp)))) hl hs hr hc ho fun j x u F a b cc => ih j x u F a b cc (fun g hg => hw g (hg.imp id fun hg => List.mem_cons_of_mem _ (mem_flatten_of cc hg)))
  | ionil sz A => exact .ionil sz A
  | bx cs g o C us Fs h1 h2 hb hc ho h ih =>
    exact .bx cs g o C us Fs h1 h2 (hb.same (hw g (.inr (by simp)))) hc ho fun j x u F a b cc => ih j x u F a b cc (fun g hg => hw g (hg.imp id fun hg => List.mem_cons_of_mem _ (mem_flatten_of cc hg)))
theorem V.un {φ : Nat → Option Loc} {M : Nat → Prop} {w : World} (v : Value) : V φ M w .un v [] := .imm _ _ (.un v)
theorem V.sc {φ : Nat → Option Loc} {M : Nat → Prop} {w : World} (v : Value) (h : v.oneCell' = true) : V φ M w (.sc v) v [] := .imm _ _ (.sc v h)
theorem V.em {φ : Nat → Option Loc} {M : Nat → Prop} {w : World} (A : Option Addr) : V φ M w .em (.slice A 0 0) [] := .imm _ _ (.em A)
def Ws (M : Nat → Prop) (w : World) (cs : List AV) (us : List Value) : Prop :=
  us.length = cs.length ∧ (∀ u ∈ us, u.oneCell' = true) ∧ ∀ (j : Nat) (x : AV) (u : Value), cs[j]? = some x → us[j]? = some u → W M w x u
def Cs (φ : Nat → Option Loc) (M : Nat → Prop) (w : World) (cs : List AV) (us : List Value) (F : List Nat) : Prop :=
  ∃ Fs : List (List Nat), us.length = cs.length ∧ Fs.length = cs.length ∧ (∀ u ∈ us, u.oneCell' = true) ∧ F = Fs.flatten ∧
    ∀ (j : Nat) (x : AV) (u : Value) (F : List Nat), cs[j]? = some x → us[j]? = some u → Fs[j]? = some F → V φ M w x u F
theorem Cs.mono {φ φ' : Nat → Option Loc} {M M' : Nat → Prop} {w w' : World} {cs : List AV} {us : List Value} {F : List Nat} (h : Cs φ M w cs us F)
    (hφ : ∀ b l, φ b = some l → φ' b = some l) (hM : ∀ g, M g → M' g) (hw : ∀ g, M g ∨ g ∈ F → w'.heap[g]? = w.heap[g]?) : Cs φ' M' w' cs us F := by
  obtain ⟨Fs, h1, h2, h3, rfl, h⟩ := h
  exact ⟨Fs, h1, h2, h3, rfl, fun j x u F a b c => (h j x u F a b c).mono hφ hM fun g hg => hw g (hg.imp id (mem_flatten_of c))⟩
theorem Cs.nil (φ : Nat → Option Loc) (M : Nat → Prop) (w : World) : Cs φ M w [] [] [] := ⟨[], rfl, rfl, by simp, rfl, by simp⟩
theorem Cs.len {φ : Nat → Option Loc} {M : Nat → Prop} {w : World} {cs : List AV} {us : List Value} {F : List Nat} (h : Cs φ M w cs us F) : us.length = cs.length := by
  obtain ⟨Fs, h1, _⟩ := h
  exact h1
theorem Cs.one {φ : Nat → Option Loc} {M : Nat → Prop} {w : World} {cs : List AV} {us : List Value} {F : List Nat} (h : Cs φ M w cs us F) : ∀ u ∈ us, u.oneCell' = true := by
  obtain ⟨Fs, _, _, h3, _⟩ := h
  exact h3
theorem Cs.app {φ : Nat → Option Loc} {M : Nat → Prop} {w : World} {cs cs' : List AV} {us us' : List Value} {F F' : List Nat} (h : Cs φ M w cs us F) (h' : Cs φ M w cs' us' F') :
    Cs φ M w (cs ++ cs') (us ++ us') (F ++ F') := by
  obtain ⟨Fs, h1, h2, h3, rfl, h⟩ := h
  obtain ⟨Fs', h1', h2', h3', rfl, h'⟩ := h'
  refine ⟨Fs ++ Fs', by simp [h1, h1'], by simp [h2, h2'], fun u hu => (List.mem_append.1 hu).elim (h3 u) (h3' u), by simp, ?_⟩
  intro j x u F a b c
  by_cases hj : j < cs.length
  · rw [List.getElem?_append_left hj] at a
    rw [List.getElem?_append_left (by omega)] at b
    rw [List.getElem?_append_left (by omega)] at c
    exact h j x u F a b c
  · rw [List.getElem?_append_right (by omega)] at a
    rw [List.getElem?_append_right (by omega)] at b
    rw [List.getElem?_append_right (by omega)] at c
    rw [h1] at b
    rw [h2] at c
    exact h' _ x u F a b c
theorem Cs.cons {φ : Nat → Option Loc} {M : Nat → Prop} {w : World} {x : AV} {cs : List AV} {u : Value} {us : List Value} {F F' : List Nat} (h : V φ M w x u F) (ho : u.oneCell' = true) (h' : Cs φ M w cs us F') :
    Cs φ M w (x :: cs) (u :: us) (F ++ F') := by
  obtain ⟨Fs', h1', h2', h3', rfl, h'⟩ := h'
  refine ⟨F :: Fs', by simp [h1'], by simp [h2'], fun u' hu => (List.mem_cons.1 hu).elim (fun e => e ▸ ho) (h3' u'), by simp, ?_⟩
  intro j x' u' F'' a b c
  cases j with
  | zero => simp at a b c; subst a b c; exact h
  | succ j => simp at a b c; exact h' j x' u' F'' a b c
theorem Cs.of_all {φ : Nat → Option Loc} {M : Nat → Prop} {w : World} {cs : List AV} {us : List Value} (h1 : us.length = cs.length) (ho : ∀ u ∈ us, u.oneCell' = true)
    (h : ∀ (j : Nat) (x : AV) (u : Value), cs[j]? = some x → us[j]? = some u → V φ M w x u []) : Cs φ M w cs us [] := by
  refine ⟨List.replicate cs.length [], h1, by simp, ho, by simp, ?_⟩
  intro j x u F a b c
  obtain rfl : F = [] := by
    have := List.mem_of_getElem? c
    exact (List.mem_replicate.1 this).2
  exact h j x u a b
theorem Cs.all {φ : Nat → Option Loc} {M : Nat → Prop} {w : World} {cs : List AV} {us : List Value} (h : Cs φ M w cs us []) :
    ∀ (j : Nat) (x : AV) (u : Value), cs[j]? = some x → us[j]? = some u → V φ M w x u [] := by
  obtain ⟨Fs, h1, h2, h3, h4, h⟩ := h
  intro j x u a b
  have hj : j < Fs.length := by rw [h2]; exact (List.getElem?_eq_some_iff.1 a).1
  have hF : Fs[j] = [] := List.flatten_eq_nil_iff.1 h4.symm _ (List.getElem_mem hj)
  exact hF ▸ h j x u _ a b (List.getElem?_eq_getElem hj)
theorem Cs.take {φ : Nat → Option Loc} {M : Nat → Prop} {w : World} {cs : List AV} {us : List Value} (h : Cs φ M w cs us []) (n : Nat) : Cs φ M w (cs.take n) (us.take n) [] := by
  refine Cs.of_all (by simp [h.len]) (fun u hu => h.one u (List.mem_of_mem_take hu)) fun j x u a b => ?_
  rw [List.getElem?_take] at a b
  split at a
  · rename_i hj; rw [if_pos hj] at b; exact h.all j x u a b
  · cases a
theorem Cs.drop {φ : Nat → Option Loc} {M : Nat → Prop} {w : World} {cs : List AV} {us : List Value} (h : Cs φ M w cs us []) (n : Nat) : Cs φ M w (cs.drop n) (us.drop n) [] := by
  refine Cs.of_all (by simp [h.len]) (fun u hu => h.one u (List.mem_of_mem_drop hu)) fun j x u a b => ?_
  rw [List.getElem?_drop] at a b
  exact h.all _ x u a b
def Root (φ : Nat → Option Loc) (M : Nat → Prop) (w : World) (b : Nat) (cs : List AV) (L : List Nat) : Prop :=
  (cs = [] ∧ φ b = none ∧ L = []) ∨
    ∃ (l : Loc) (C : Array Value) (us : List Value) (F : List Nat), φ b = some l ∧ Blk w l.g C ∧ C.size = l.n ∧ Cs φ M w cs us F ∧ (∀ (j : Nat) (u : Value), us[j]? = some u → C[l.o + j]? = some u) ∧ L = l.g :: F
theorem Root.mono {φ φ' : Nat → Option Loc} {M M' : Nat → Prop} {w w' : World} {b : Nat} {cs : List AV} {L : List Nat} (h : Root φ M w b cs L)
    (hφ : ∀ b l, φ b = some l → φ' b = some l) (hφb : φ b = none → φ' b = none) (hM : ∀ g, M g → M' g) (hw : ∀ g, M g ∨ g ∈ L → w'.heap[g]? = w.heap[g]?) : Root φ' M' w' b cs L := by
  rcases h with ⟨h1, h2, h3⟩ | ⟨l, C, us, F, h1, h2, h3, h4, h5, rfl⟩
  · exact .inl ⟨h1, hφb h2, h3⟩
  · exact .inr ⟨l, C, us, F, hφ b l h1, h2.same (hw l.g (.inr (by simp))), h3, h4.mono hφ hM fun g hg => hw g (hg.imp id fun h => List.mem_cons_of_mem _ h), h5, rfl⟩
structure St where
  ρ : Nat → AV
  h : Nat → Option (Option (List AV))
  n : Nat
def upd {α : Type} (f : Nat → α) (k : Nat) (x : α) : Nat → α := fun i => if i = k then x else f i
theorem upd_same {α : Type} (f : Nat → α) (k : Nat) (x : α) : upd f k x k = x := by simp [upd]
theorem upd_ne {α : Type} (f : Nat → α) {k i : Nat} (x : α) (h : i ≠ k) : upd f k x i = f i := by simp [upd, h]
def tabs : List (Nat × Array Value) := [(3, #[.int .u64 1, .int .u64 10, .int .u64 100, .int .u64 1000, .int .u64 10000, .int .u64 100000, .int .u64 1000000, .int .u64 10000000, .int .u64 100000000, .int .u64 1000000000, .int .u64 10000000000, .int .u64 100000000000, .int .u64 1000000000000, .int .u64 10000000000000, .int .u64 100000000000000, .int .u64 1000000000000000, .int .u64 10000000000000000, .int .u64 100000000000000000, .int .u64 1000000000000000000, .int .u64 10000000000000000000])]
def TabsIn (M : Nat → Prop) (w : World) : Prop := ∀ x ∈ tabs, M x.1 ∧ ∃ a b, w.heap[x.1]? = some (.cells x.2 a b)
def ints : List Nat := [0]
def Laid (M : Nat → Prop) (w : World) : Prop := TabsIn M w ∧ ∀ g ∈ ints, M g ∧ ∃ v a b, w.heap[g]? = some (.cells #[.int .i64 v] a b)
def Obs (w : World) (g n : Nat) : Prop := ∃ C e fr, w.heap[g]? = some (.cells C e fr) ∧ C.size = n
theorem Blk.obs {w : World} {g : Nat} {C : Array Value} (h : Blk w g C) : Obs w g C.size := by
  obtain ⟨e, fr, h1, _⟩ := h
  exact ⟨C, e, fr, h1, rfl⟩
theorem Blk.sizeOf {w : World} {g n : Nat} {C : Array Value} (h : Blk w g C) (k : Obs w g n) : C.size = n := by
  obtain ⟨e, fr, h1, _⟩ := h
  obtain ⟨C', e', fr', h2, h3⟩ := k
  rw [h1] at h2
  simp only [Option.some.injEq, Obj.cells.injEq] at h2
  rw [h2.1, h3]
structure Ent where
  w : World
  O : Nat → Prop
  M : Nat → Prop
  laid : Laid M w
  sep : ∀ g, M g → ¬ O g
structure Inv (E : Ent) (φ : Nat → Option Loc) (M : Nat → Prop) (L : Nat → List Nat) (st : St) (tm : Array Value) (w : World) : Prop where
  size : tm.size = st.n
  env : ∀ t, V φ M w (st.ρ t) (tm.getD t undef) []
  root : ∀ b cs, st.h b = some (some cs) → Root φ M w b cs (L b)
  fresh : ∀ b, st.h b = none → φ b = none
  nodup : ∀ b cs, st.h b = some (some cs) → (L b).Nodup
  disj : ∀ b b' cs cs', b ≠ b' → st.h b = some (some cs) → st.h b' = some (some cs') → ∀ g ∈ L b, g ∉ L b'
  notM : ∀ b cs, st.h b = some (some cs) → ∀ g ∈ L b, ¬ M g
  low : ∀ b cs, st.h b = some (some cs) → ∀ g ∈ L b, g < w.heap.size
  bound : ∀ g, M g → g < w.heap.size
  m0 : ∀ g, E.M g → M g
  m1 : ∀ g, M g → E.M g ∨ E.O g ∨ E.w.heap.size ≤ g
  own : ∀ b cs, st.h b = some (some cs) → ∀ g ∈ L b, E.O g ∨ E.w.heap.size ≤ g
  os : w.os = E.w.os
  tape : w.tape = E.w.tape
  output : w.output = E.w.output
  grown : E.w.heap.size ≤ w.heap.size
  frame : ∀ g, g < E.w.heap.size → ¬ E.O g → w.heap[g]? = E.w.heap[g]?
  keep : ∀ g n, Obs E.w g n → Obs w g n
theorem Inv.laidIn {E : Ent} {φ : Nat → Option Loc} {M : Nat → Prop} {L : Nat → List Nat} {st : St} {tm : Array Value} {w : World} (I : Inv E φ M L st tm w) : Laid M w := by
  refine ⟨fun x hx => ?_, fun g hg => ?_⟩
  · obtain ⟨h1, a, b, h2⟩ := E.laid.1 x hx
    have hlt : x.1 < E.w.heap.size := (Array.getElem?_eq_some_iff.1 h2).1
    exact ⟨I.m0 _ h1, a, b, by rw [I.frame _ hlt (E.sep _ h1)]; exact h2⟩
  · obtain ⟨h1, v, a, b, h2⟩ := E.laid.2 g hg
    have hlt : g < E.w.heap.size := (Array.getElem?_eq_some_iff.1 h2).1
    exact ⟨I.m0 _ h1, v, a, b, by rw [I.frame _ hlt (E.sep _ h1)]; exact h2⟩
def SR (E : Ent) (st : St) (tm : Array Value) (w : World) : Prop := ∃ φ M L, Inv E φ M L st tm w
def St.set (st : St) (d : Nat) (x : AV) : St := { st with ρ := upd st.ρ d x }
theorem Inv.set {E : Ent} {φ : Nat → Option Loc} {M : Nat → Prop} {L : Nat → List Nat} {st : St} {tm : Array Value} {w : World} (h : Inv E φ M L st tm w) (d : Nat) (hd : d < st.n) (x : AV) (v : Value) (hx : V φ M w x v []) :
    Inv E φ M L (st.set d x) (tm.setIfInBounds d v) w := by
  refine ⟨by simp [h.size, St.set], ?_, h.root, h.fresh, h.nodup, h.disj, h.notM, h.low, h.bound, h.m0, h.m1, h.own, h.os, h.tape, h.output, h.grown, h.frame, h.keep⟩
  intro t
  have hs := h.size
  by_cases ht : t = d
  · subst ht
    simp only [St.set, upd_same, Array.getD_eq_getD_getElem?, Array.getElem?_setIfInBounds]
    simp only [if_true]
    rw [if_pos (by omega)]
    exact hx
  · simp only [St.set, upd_ne _ _ ht]
    have := h.env t
    simp only [Array.getD_eq_getD_getElem?, Array.getElem?_setIfInBounds] at this ⊢
    rw [if_neg (by omega)]
    exact this
end Go.Proofs.YtiejaibmcmicoaaGreatDoor.Am
