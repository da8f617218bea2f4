/- Regions that may be taken in any order, where each operation yields what it yields in the order of the text; no condition. -/
import Derived.Test.YtiejaibmcmicoaaGreatDoorAm10
namespace Go.Proofs.YtiejaibmcmicoaaGreatDoor.Am
open Go
set_option linter.unusedSimpArgs false
def rdX : AX → List Nat
  | .t n => [n]
  | .c _ => []
def rdO : Option AX → List Nat
  | some x => rdX x
  | none => []
def rdL (xs : List AX) : List Nat := (xs.map rdX).flatten
def rdQ : QOp → List Nat
  | .mov x => rdX x
  | .pick c a b => rdX c ++ rdX a ++ rdX b
  | .bin _ x y => rdX x ++ rdX y
  | .beq _ x y => rdX x ++ rdX y
  | .not x => rdX x
  | .cvi _ x => rdX x
  | .slen x => rdX x
  | .llen x => rdX x
  | .ext x _ => rdX x
  | .fadr _ x => rdX x
  | .iadr _ x i => rdX x ++ rdX i
  | .fld _ _ _ x => rdX x
  | .idx x i => rdX x ++ rdX i
  | .load _ _ x => rdX x
  | .nilc x => rdX x
  | .subs x lo hi => rdX x ++ rdO lo ++ rdO hi
  | .subl _ x lo hi => rdX x ++ rdO lo ++ rdO hi
  | .sub3 _ x lo hi mx => rdX x ++ rdO lo ++ rdO hi ++ rdX mx
  | .capn x => rdX x
  | .mm _ x y => rdX x ++ rdX y
  | .mkf _ caps => rdL caps
  | .bstr x => rdX x
  | .aeq _ _ x y => rdX x ++ rdX y
  | .radr _ _ x i => rdX x ++ rdX i
  | .aidx _ _ _ x i => rdX x ++ rdX i
def rdA : AO → Option (List Nat)
  | .q q => some (rdQ q)
  | .c f xs => some (rdX f ++ rdL xs)
  | .w _ => none
  | .n .. => none
def rdG : Option (Nat × Bool) → List Nat
  | some (t, _) => [t]
  | none => []
section
variable {ρ ρ' : Nat → AV}
theorem ev_same {x : AX} (h : ∀ t ∈ rdX x, ρ' t = ρ t) : x.ev ρ' = x.ev ρ := by
  cases x with
  | t n => exact h n (by simp [rdX])
  | c x => rfl
theorem evL_same {xs : List AX} (h : ∀ t ∈ rdL xs, ρ' t = ρ t) : xs.map (·.ev ρ') = xs.map (·.ev ρ) := by
  refine List.map_congr_left fun x hx => ev_same fun t ht => h t ?_
  exact List.mem_flatten.2 ⟨rdX x, List.mem_map.2 ⟨x, hx, rfl⟩, ht⟩
theorem natOf_same {d : Nat} {x : Option AX} (h : ∀ t ∈ rdO x, ρ' t = ρ t) : natOf ρ' d x = natOf ρ d x := by
  cases x with
  | none => rfl
  | some x => simp only [natOf, ev_same (x := x) h]
theorem aval_same {q : QOp} {h : Nat → Option (Option (List AV))} (hq : ∀ t ∈ rdQ q, ρ' t = ρ t) : aval q ρ' h = aval q ρ h := by
  cases q <;> simp only [rdQ, List.mem_append, or_imp, forall_and] at hq <;> simp only [aval]
  case mov x => rw [ev_same hq]
  case pick c a b => rw [ev_same hq.1.1, ev_same hq.1.2, ev_same hq.2]
  case bin op x y => rw [ev_same hq.1, ev_same hq.2]
  case beq n x y => rw [ev_same hq.1, ev_same hq.2]
  case not x => rw [ev_same hq]
  case cvi k x => rw [ev_same hq]
  case slen x => rw [ev_same hq]
  case llen x => rw [ev_same hq]
  case ext x i => rw [ev_same hq]
  case fadr o x => rw [ev_same hq]
  case iadr s x i => rw [ev_same hq.1, ev_same hq.2]
  case fld a o n x => rw [ev_same hq]
  case idx x i => rw [ev_same hq.1, ev_same hq.2]
  case load a n x => rw [ev_same hq]
  case nilc x => rw [ev_same hq]
  case subs x lo hi => rw [ev_same hq.1.1, natOf_same hq.1.2]; simp only [natOf_same hq.2]
  case subl s x lo hi => rw [ev_same hq.1.1, natOf_same hq.1.2]; simp only [natOf_same hq.2]
  case sub3 s x lo hi mx => rw [ev_same hq.1.1.1, natOf_same hq.1.1.2, natOf_same (x := some mx) hq.2]; simp only [natOf_same hq.1.2]
  case capn x => rw [ev_same hq]
  case mm n x y => rw [ev_same hq.1, ev_same hq.2]
  case mkf f caps => rw [evL_same hq]
  case bstr x => rw [ev_same hq]
  case aeq n l x y => rw [ev_same hq.1, ev_same hq.2]
  case radr n z x y => rw [ev_same hq.1, ev_same hq.2]
  case aidx g n z x y => rw [ev_same hq.1, ev_same hq.2]
end
section
variable {P : Program} {p : List Nat}
def callV (P : Program) (h : Nat → Option (Option (List AV))) (fx : AX) (xs : List AX) (ρ : Nat → AV) (y : AV) : Prop :=
  ∃ (f : FuncId) (caps ys : List AV) (v : Value), fx.ev ρ = .clo f caps ∧ callB P f = true ∧ (xs.map (·.ev ρ) ++ caps).mapM (roc h 8) = some ys ∧ Ret P f ys y (ys.map fun _ => .un) ∧ y = .sc v
def valS (P : Program) (h : Nat → Option (Option (List AV))) (o : AO) (ρ : Nat → AV) (y : AV) : Prop :=
  match o with
  | .q q => aval q ρ h = some y
  | .c f xs => callV P h f xs ρ y
  | .w _ => False
  | .n .. => False
def valG (P : Program) (h : Nat → Option (Option (List AV))) (o : AOp) (ρ : Nat → AV) (y : AV) : Prop :=
  match o.g with
  | none => valS P h o.o ρ y
  | some (t, want) => match wantA (ρ t) want with
    | some b => if b then valS P h o.o ρ y else y = .tup []
    | none => False
theorem valG_same {h : Nat → Option (Option (List AV))} {o : AOp} {ρ ρ' : Nat → AV} {y : AV} {r : List Nat} (hr : rdA o.o = some r) (hs : ∀ t ∈ rdG o.g ++ r, ρ' t = ρ t) (hv : valG P h o ρ y) : valG P h o ρ' y := by
  have key : valS P h o.o ρ y → valS P h o.o ρ' y := fun hv => by
    unfold valS at hv ⊢
    split at hv
    · rename_i q hq
      rw [hq] at hr
      simp only [rdA, Option.some.injEq] at hr
      subst hr
      exact (aval_same fun t ht => hs t (List.mem_append.2 (.inr ht))).trans hv
    · rename_i f xs hq
      rw [hq] at hr
      simp only [rdA, Option.some.injEq] at hr
      subst hr
      unfold callV at hv ⊢
      rw [ev_same fun t ht => hs t (by simp [ht]), evL_same fun t ht => hs t (by simp [ht])]
      exact hv
    · exact hv.elim
    · exact hv.elim
  unfold valG at hv ⊢
  split at hv
  · exact key hv
  · rename_i t want hg
    rw [hs t (by simp [hg, rdG])]
    split at hv
    · split
      · rename_i hb; rw [if_pos hb] at hv; exact key hv
      · rename_i hb; rw [if_neg hb] at hv; exact hv
    · exact hv.elim
theorem callK.ro {fx : AX} {xs : List AX} {dst : Option Nat} {st : St} {K : St → Prop} {f : FuncId} {caps ys : List AV} {ret : AV} {st3 : St} {y : AV} (d : Nat) (hf : fx.ev st.ρ = .clo f caps) (hc : callB P f = true)
    (hys : (xs.map (·.ev st.ρ) ++ caps).mapM (roc st.h 8) = some ys) (hR : Ret P f ys ret (ys.map fun _ => .un)) (hfl : flt ret = true) (hi : inst 64 d ret st = some (y, st3)) (hd : dOk p dst st3.n = true) (hK : K (st3.setO dst y)) : callK P p fx xs dst st K := by
  have key : ∀ (xs ys : List AV), xs.mapM (roc st.h 8) = some ys → exL ((xs.map fun _ => Md.ro).zip xs) st = some (xs.map fun _ => (none, none), st) ∧ shutArgs st.h ((xs.map fun _ => Md.ro).zip xs) (xs.map fun _ => (none, none)) = some ys ∧
      backL (xs.map fun _ => (none, none)) (ys.map fun _ => .un) st = some st ∧ flatL ((xs.map fun _ => Md.ro).zip xs) = some ((xs.map fun _ => Md.ro).zip xs) ∧ asm (xs.map fun _ => Md.ro) ys = some ys ∧ outF (xs.map fun _ => Md.ro) (ys.map fun _ => .un) = some (ys.map fun _ => .un) := by
    intro xs
    induction xs with
    | nil => intro ys h; simp at h; subst h; exact ⟨rfl, rfl, rfl, rfl, rfl, rfl⟩
    | cons x xs ih =>
      intro ys h
      simp only [List.mapM_cons, Option.bind_eq_bind, Option.bind_eq_some_iff, Option.pure_def, Option.some.injEq] at h
      obtain ⟨y, hy, ys', hys', rfl⟩ := h
      obtain ⟨h1, h2, h3, h4, h5, h6⟩ := ih ys' hys'
      refine ⟨by simp [exL, ex1, h1], by simp [shutArgs, hy, h2], by simp [backL, h3], by simp [flatL, flat1, h4], by simp [asm, h5], by simp [outF, h6]⟩
  obtain ⟨h1, h2, h3, h4, h5, h6⟩ := key _ ys hys
  have hflL : flt.fltL (ys.map fun _ => AV.un) = true := by
    clear hys hR h1 h2 h3 h4 h5 h6
    induction ys with
    | nil => rfl
    | cons y ys ih => simpa [flt.fltL, flt] using ih
  exact .inl ⟨f, caps, _, _, _, st, ys, ys, ret, _, _, st, st3, y, d, hf, hc, by simp, h4, h1, h2, h5, hR, h6, .inl ⟨hfl, hflL⟩, h3, hi, hd, hK⟩
theorem callK.own {fx : AX} {xs : List AX} {dst : Option Nat} {st : St} {K : St → Prop} {f : FuncId} {caps ys cs : List AV} {len sz : Nat} (d : Nat) (hf : fx.ev st.ρ = .clo f caps) (hc : callB P f = true)
    (hys : (xs.map (·.ev st.ρ) ++ caps).mapM (roc st.h 8) = some ys) (hR : Ret P f ys (.own cs len sz) (ys.map fun _ => .un)) (hfl : flt (.own cs len sz) = true) (hh : st.h d = none) (hd : dOk p dst st.n = true)
    (hK : K ((st.put d (some cs)).setO dst (.sl d 0 len sz false))) : callK P p fx xs dst st K :=
  callK.ro (st3 := st.put d (some cs)) (y := .sl d 0 len sz false) d hf hc hys hR hfl (by simp only [inst]; rw [hh]) hd hK
theorem valG_opK {o : AOp} {st : St} {y : AV} (hv : valG P st.h o st.ρ y) (hd : dOk p o.d st.n = true) : opK P p o st (fun s => s = st.setO o.d y) := by
  have key : valS P st.h o.o st.ρ y → doK P p o.o o.d st (fun s => s = st.setO o.d y) := fun hv => by
    unfold valS at hv
    unfold doK
    split at hv
    · rename_i q hq
      rw [hq]
      simp only
      rw [hv]
      exact And.intro hd rfl
    · rename_i f xs hq
      rw [hq]
      obtain ⟨f', caps, ys, v, h1, h2, h3, h4, rfl⟩ := hv
      exact callK.ro 0 h1 h2 h3 h4 rfl rfl hd rfl
    · exact hv.elim
    · exact hv.elim
  unfold valG at hv
  unfold opK
  split at hv
  · rename_i hg; rw [hg]; exact key hv
  · rename_i t want hg
    rw [hg]
    simp only
    split at hv
    · rename_i b hb
      rw [hb]
      cases b
      · rw [if_neg (by simp)] at hv
        subst hv
        exact And.intro (fun e => absurd e (by decide)) (fun _ => And.intro hd rfl)
      · exact And.intro (fun _ => key hv) (fun e => absurd e (by decide))
    · exact hv.elim
def textK (P : Program) (h : Nat → Option (Option (List AV))) : List AOp → (Nat → AV) → ((Nat → AV) → Prop) → Prop
  | [], ρ, K => K ρ
  | o :: l, ρ, K => ∃ d y, o.d = some d ∧ valG P h o ρ y ∧ textK P h l (upd ρ d y) K
def stillB (l : List (AOp × List Nat)) : Bool :=
  (List.range l.length).all fun i => match l[i]? with
    | none => true
    | some (o, bs) => bs.all (fun j => decide (j < i)) && match rdA o.o with
      | none => false
      | some r => (List.range l.length).all fun j => match l[j]? with
        | none => true
        | some (o', _) => match o'.d with
          | none => false
          | some t => (j == i || o.d != some t) && (!(rdG o.g ++ r).contains t || bs.contains j)
structure StillAt (l : List (AOp × List Nat)) (i : Nat) (o : AOp) (bs : List Nat) : Prop where
  low : ∀ j ∈ bs, j < i
  rd : ∃ r, rdA o.o = some r ∧ ∀ (j : Nat) (o' : AOp) (bs' : List Nat) (t : Nat), l[j]? = some (o', bs') → o'.d = some t → (j ≠ i → o.d ≠ some t) ∧ (t ∈ rdG o.g ++ r → j ∈ bs)
  dst : ∀ (j : Nat) (o' : AOp) (bs' : List Nat), l[j]? = some (o', bs') → o'.d ≠ none
theorem still_at {l : List (AOp × List Nat)} (h : stillB l = true) {i : Nat} {o : AOp} {bs : List Nat} (hi : l[i]? = some (o, bs)) : StillAt l i o bs := by
  have hlt := (List.getElem?_eq_some_iff.1 hi).1
  unfold stillB at h
  have h1 := List.all_eq_true.1 h i (List.mem_range.2 hlt)
  rw [hi] at h1
  simp only [Bool.and_eq_true] at h1
  obtain ⟨h2, h3⟩ := h1
  cases hr : rdA o.o with
  | none => rw [hr] at h3; cases h3
  | some r =>
    rw [hr] at h3
    simp only at h3
    have h4 : ∀ (j : Nat) (o' : AOp) (bs' : List Nat), l[j]? = some (o', bs') → ∃ t, o'.d = some t ∧ (j ≠ i → o.d ≠ some t) ∧ (t ∈ rdG o.g ++ r → j ∈ bs) := fun j o' bs' hj => by
      have := List.all_eq_true.1 h3 j (List.mem_range.2 (List.getElem?_eq_some_iff.1 hj).1)
      rw [hj] at this
      simp only at this
      cases hd : o'.d with
      | none => rw [hd] at this; cases this
      | some t =>
        rw [hd] at this
        simp only [Bool.and_eq_true, Bool.or_eq_true, beq_iff_eq, bne_iff_ne, ne_eq, Bool.not_eq_true', List.contains_iff_mem] at this
        refine ⟨t, rfl, fun hne => this.1.resolve_left hne, fun hm => this.2.resolve_left fun hf => ?_⟩
        rw [← List.contains_iff_mem] at hm
        rw [hm] at hf
        cases hf
    refine ⟨fun j hj => by simpa using List.all_eq_true.1 h2 j hj, ⟨r, hr, fun j o' bs' t hj ht => ?_⟩, fun j o' bs' hj => ?_⟩
    · obtain ⟨t', e1, e2⟩ := h4 j o' bs' hj
      rw [e1] at ht; cases ht
      exact e2
    · obtain ⟨t', e1, e2⟩ := h4 j o' bs' hj
      rw [e1]; simp
theorem text_walk {h : Nat → Option (Option (List AV))} {K : (Nat → AV) → Prop} : ∀ (l : List AOp) (ρ : Nat → AV), textK P h l ρ K → ∃ ρs, K ρs ∧ (∀ t, (∀ o ∈ l, o.d ≠ some t) → ρs t = ρ t) ∧
    ∀ (i : Nat) (o : AOp), l[i]? = some o → ∃ d y ρi, o.d = some d ∧ valG P h o ρi y ∧ (∀ t, (∀ (k : Nat) (o' : AOp), i ≤ k → l[k]? = some o' → o'.d ≠ some t) → ρs t = ρi t) ∧
      ((∀ (k : Nat) (o' : AOp), i < k → l[k]? = some o' → o'.d ≠ some d) → ρs d = y)
  | [], ρ, hK => ⟨ρ, hK, fun _ _ => rfl, by simp⟩
  | o :: l, ρ, hK => by
    obtain ⟨d, y, hd, hv, hK⟩ := hK
    obtain ⟨ρs, h1, h2, h3⟩ := text_walk l _ hK
    refine ⟨ρs, h1, fun t ht => ?_, fun i o' hi => ?_⟩
    · rw [h2 t fun o' ho' => ht o' (List.mem_cons_of_mem _ ho')]
      have : t ≠ d := fun e => ht o (by simp) (e ▸ hd)
      rw [upd_ne _ _ this]
    · cases i with
      | zero =>
        simp only [List.getElem?_cons_zero, Option.some.injEq] at hi
        subst hi
        refine ⟨d, y, ρ, hd, hv, fun t ht => ?_, fun hk => ?_⟩
        · rw [h2 t fun o' ho' => by
            obtain ⟨k, hk, rfl⟩ := List.mem_iff_getElem.1 ho'
            exact ht (k + 1) _ (by omega) (by simp [hk])]
          have : t ≠ d := fun e => ht 0 o (by omega) rfl (e ▸ hd)
          rw [upd_ne _ _ this]
        · rw [h2 d fun o' ho' => by
            obtain ⟨k, hk', rfl⟩ := List.mem_iff_getElem.1 ho'
            exact hk (k + 1) _ (by omega) (by simp [hk']), upd_same]
      | succ i =>
        simp only [List.getElem?_cons_succ] at hi
        obtain ⟨d', y', ρi, e1, e2, e3, e4⟩ := h3 i o' hi
        exact ⟨d', y', ρi, e1, e2, fun t ht => e3 t fun k o2 hk ho2 => ht (k + 1) o2 (by omega) (by simpa using ho2), fun hk => e4 fun k o2 hk' ho2 => hk (k + 1) o2 (by omega) (by simpa using ho2)⟩
theorem text_still {h : Nat → Option (Option (List AV))} {K : (Nat → AV) → Prop} {l : List (AOp × List Nat)} {ρ : Nat → AV} (hs : stillB l = true) (hK : textK P h (l.map (·.1)) ρ K) :
    ∃ ρs, K ρs ∧ (∀ t, (∀ x ∈ l, x.1.d ≠ some t) → ρs t = ρ t) ∧ ∀ (i : Nat) (o : AOp) (bs : List Nat), l[i]? = some (o, bs) → ∃ d, o.d = some d ∧ valG P h o ρs (ρs d) := by
  obtain ⟨ρs, h1, h2, h3⟩ := text_walk _ _ hK
  refine ⟨ρs, h1, fun t ht => h2 t fun o ho => ?_, fun i o bs hi => ?_⟩
  · obtain ⟨x, hx, rfl⟩ := List.mem_map.1 ho
    exact ht x hx
  · obtain ⟨d, y, ρi, e1, e2, e3, e4⟩ := h3 i o (by simp [hi])
    have S := still_at hs hi
    obtain ⟨r, hr, hrd⟩ := S.rd
    have hy : ρs d = y := e4 fun k o' hk ho' => by
      rw [List.getElem?_map] at ho'
      obtain ⟨⟨o2, bs2⟩, hx, rfl⟩ := Option.map_eq_some_iff.1 ho'
      intro e
      exact (hrd k o2 bs2 d hx e).1 (by omega) e1
    refine ⟨d, e1, ?_⟩
    rw [hy]
    refine valG_same hr (fun t ht => ?_) e2
    refine e3 t fun k o' hk ho' => ?_
    rw [List.getElem?_map] at ho'
    obtain ⟨⟨o2, bs2⟩, hx, rfl⟩ := Option.map_eq_some_iff.1 ho'
    intro e
    have := S.low k ((hrd k o2 bs2 t hx e).2 ht)
    omega
theorem cnt_lt {l : List Nat} {q q' : Nat → Bool} (h : ∀ x, q' x = true → q x = true) {i : Nat} (hi : i ∈ l) (h1 : q i = true) (h2 : q' i = false) : (l.filter q').length < (l.filter q).length := by
  have hle : ∀ l : List Nat, (l.filter q').length ≤ (l.filter q).length := fun l => by
    induction l with
    | nil => simp
    | cons x l ih =>
      simp only [List.filter_cons]
      by_cases hx : q' x = true
      · rw [if_pos hx, if_pos (h x hx)]; simpa using ih
      · rw [if_neg hx]; split
        · simp; omega
        · exact ih
  induction l with
  | nil => simp at hi
  | cons x l ih =>
    simp only [List.filter_cons]
    by_cases hx : x = i
    · subst hx
      rw [if_neg (by simp [h2]), if_pos h1]
      have := hle l
      simp; omega
    · have := ih ((List.mem_cons.1 hi).resolve_left fun e => hx e.symm)
      by_cases hx' : q' x = true
      · rw [if_pos hx', if_pos (h x hx')]; simpa using this
      · rw [if_neg hx']; split
        · simp; omega
        · exact this
open Classical in
noncomputable def mixρ (l : List (AOp × List Nat)) (listed : Array Bool) (ρ ρs : Nat → AV) : Nat → AV := fun t =>
  if ∃ (j : Nat) (o : AOp) (bs : List Nat), l[j]? = some (o, bs) ∧ listed.getD j false = true ∧ o.d = some t then ρs t else ρ t
theorem getD_set_true_self {listed : Array Bool} {i : Nat} (h : i < listed.size) : (listed.setIfInBounds i true).getD i false = true := by simp [h]
theorem getD_rep (n j : Nat) : (Array.replicate n false).getD j false = false := by
  rw [Array.getD_eq_getD_getElem?, Array.getElem?_replicate]
  split <;> rfl
theorem getD_in {listed : Array Bool} {i : Nat} (h : i < listed.size) (d : Bool) : listed.getD i d = listed[i] := by simp [h]
theorem T.still {l : List (AOp × List Nat)} {st : St} {Q : AE → St → Prop} (hm : P.follows .mixedOrders = true) (hs : stillB l = true) (hd : (l.all fun x => dOk p x.1.d st.n) = true)
    (hK : textK P st.h (l.map (·.1)) st.ρ (fun ρ => Q .normal ⟨ρ, st.h, st.n⟩)) : T P p (.any l) st Q := by
  obtain ⟨ρ, h, n⟩ := st
  simp only at hd hK
  obtain ⟨ρs, hQ, hρ, hval⟩ := text_still hs hK
  intro code hc E a w QQ hsr hq
  cases code <;> simp only [comp, Option.map_eq_some_iff, Option.bind_eq_some_iff, Option.some.injEq, reduceCtorEq, and_false, exists_false] at hc
  rename_i id os dr
  split at hc
  case isFalse =>
    split at hc
    · cases hc
    · obtain ⟨_, _, e⟩ := Option.map_eq_some_iff.1 hc; cases e
  obtain ⟨l', hl, e⟩ := Option.map_eq_some_iff.1 hc
  cases e
  rename_i hdr
  obtain rfl : dr = true := hdr
  obtain ⟨hlen, hget⟩ := mapM_get hl
  have hat : ∀ (j : Nat) (o : AOp) (bs : List Nat), l[j]? = some (o, bs) → ∃ x, os[j]? = some x ∧ aop P os.toList x = some o ∧ befores x = bs := fun j o bs hj => by
    obtain ⟨x, hx, e⟩ := hget j _ hj
    obtain ⟨o', ho', e⟩ := Option.map_eq_some_iff.1 e
    cases e
    exact ⟨x, by simpa using hx, ho', rfl⟩
  have hsz : l.length = os.size := by rw [hlen]; simp
  have hln : ∀ i, i < os.size → ∃ o bs, l[i]? = some (o, bs) := fun i hi => ⟨_, _, List.getElem?_eq_getElem (by omega)⟩
  refine wp_region_any hm ?_
  have main : ∀ (fuel : Nat) (listed : Array Bool) (a' : Act) (w' : World), listed.size = os.size → ((List.range os.size).filter fun i => !listed.getD i true).length ≤ fuel →
      SR E ⟨mixρ l listed ρ ρs, h, n⟩ a'.tmps w' → Fr p a a' → (∀ i o bs, l[i]? = some (o, bs) → listed.getD i false = true → ∀ b ∈ bs, listed.getD b false = true) → wpAny P .any os QQ fuel listed a' w' := by
    intro fuel
    have hend : ∀ (listed : Array Bool) (a' : Act) (w' : World), listed.size = os.size → (∀ i, i < os.size → listed.getD i true = true) → SR E ⟨mixρ l listed ρ ρs, h, n⟩ a'.tmps w' → Fr p a a' → QQ .normal a' w' := by
      intro listed a' w' hls hall hsr' hfr
      have : mixρ l listed ρ ρs = ρs := by
        funext t
        unfold mixρ
        split
        · rfl
        · rename_i hn
          refine (hρ t fun x hx e => hn ?_).symm
          obtain ⟨j, hj, rfl⟩ := List.mem_iff_getElem.1 hx
          have hj' : j < listed.size := by omega
          refine ⟨j, l[j].1, l[j].2, List.getElem?_eq_getElem hj, ?_, e⟩
          have := hall j (by omega)
          rw [getD_in hj'] at this ⊢
          exact this
      rw [this] at hsr'
      exact hq .normal _ a' w' hQ hsr' hfr
    have hready : ∀ (listed : Array Bool), listed.size = os.size → Region.ready .any os listed = [] → ∀ i, i < os.size → listed.getD i true = true := by
      intro listed hls hr i
      induction i using Nat.strongRecOn with
      | _ i ih =>
        intro hi
        cases hli : listed.getD i true with
        | true => rfl
        | false =>
          obtain ⟨o, bs, hl1⟩ := hln i hi
          obtain ⟨x, hx, hax, hbx⟩ := hat i o bs hl1
          have : i ∈ Region.ready .any os listed := mem_ready.2 ⟨hli, x, hx, fun e he hbi => by
            have hmem : e.on ∈ bs := by
              rw [← hbx]
              exact List.mem_map.2 ⟨e, List.mem_filter.2 ⟨by simpa using he, hbi⟩, rfl⟩
            have hlt := (still_at hs hl1).low _ hmem
            have := ih e.on hlt (by omega)
            rw [getD_in (by omega)] at this ⊢
            exact this⟩
          rw [hr] at this
          cases this
    induction fuel with
    | zero =>
      intro listed a' w' hls hcnt hsr' hfr hdown
      have hall : ∀ i, i < os.size → listed.getD i true = true := fun i hi => by
        cases hli : listed.getD i true with
        | true => rfl
        | false =>
          have : i ∈ (List.range os.size).filter fun i => !listed.getD i true := List.mem_filter.2 ⟨List.mem_range.2 hi, by rw [hli]; rfl⟩
          rw [List.length_eq_zero_iff.1 (Nat.le_zero.1 hcnt)] at this
          cases this
      refine ⟨?_, hend listed a' w' hls hall hsr' hfr⟩
      rw [List.eq_nil_iff_forall_not_mem]
      intro i hi
      obtain ⟨h1, x, hx, _⟩ := mem_ready.1 hi
      rw [hall i (Array.getElem?_eq_some_iff.1 hx).1] at h1
      cases h1
    | succ fuel ih =>
      intro listed a' w' hls hcnt hsr' hfr hdown
      refine ⟨fun hr => hend listed a' w' hls (hready listed hls hr) hsr' hfr, fun i hi => ?_⟩
      obtain ⟨hli, x, hx, hbef⟩ := mem_ready.1 hi
      have hio : i < os.size := (Array.getElem?_eq_some_iff.1 hx).1
      obtain ⟨o, bs, hl1⟩ := hln i hio
      obtain ⟨x', hx', hax, hbx⟩ := hat i o bs hl1
      obtain rfl : x = x' := by rw [hx] at hx'; exact Option.some.inj hx'
      have hbs : ∀ b ∈ bs, listed.getD b false = true := fun b hb => by
        rw [← hbx] at hb
        obtain ⟨e, he, rfl⟩ := List.mem_map.1 hb
        obtain ⟨he1, he2⟩ := List.mem_filter.1 he
        exact hbef e (by simpa using he1) he2
      obtain ⟨d, hdo, hv⟩ := hval i o bs hl1
      have S := still_at hs hl1
      obtain ⟨r, hr, hrd⟩ := S.rd
      have hv' : valG P h o (mixρ l listed ρ ρs) (ρs d) := by
        refine valG_same hr (fun t ht => ?_) hv
        unfold mixρ
        split
        · rfl
        · rename_i hn
          refine (hρ t fun y hy e => ?_).symm
          obtain ⟨j, hj, rfl⟩ := List.mem_iff_getElem.1 hy
          have hj2 := List.getElem?_eq_getElem hj
          exact hn ⟨j, l[j].1, l[j].2, hj2, hbs j ((hrd j _ _ t hj2 e).2 ht), e⟩
      have hdk : dOk p o.d n = true := List.all_eq_true.1 hd (o, bs) (List.mem_of_getElem? hl1)
      have hil : i < listed.size := by omega
      have := opK_ok (KK := wpAny P .any os QQ fuel (listed.setIfInBounds i true)) (Q := QQ) hax (valG_opK (st := ⟨mixρ l listed ρ ρs, h, n⟩) hv' hdk) hsr' fun st2 a2 w2 hst2 hsr2 hfr2 => by
        subst hst2
        refine ih (listed.setIfInBounds i true) a2 w2 (by simpa using hls) ?_ ?_ (hfr.trans hfr2) ?_
        · have := cnt_lt (l := List.range os.size) (q := fun i => !listed.getD i true) (q' := fun j => !(listed.setIfInBounds i true).getD j true) (fun j hj => by
            by_cases hij : i = j
            · subst hij; simp [hil] at hj
            · rw [getD_set_ne true hij] at hj; exact hj) (i := i) (List.mem_range.2 hio) (by rw [hli]; rfl) (by simp [hil])
          omega
        · have : (⟨mixρ l listed ρ ρs, h, n⟩ : St).setO o.d (ρs d) = ⟨mixρ l (listed.setIfInBounds i true) ρ ρs, h, n⟩ := by
            rw [hdo]
            show St.mk (upd (mixρ l listed ρ ρs) d (ρs d)) h n = _
            congr 1
            funext t
            by_cases ht : t = d
            · subst ht
              rw [upd_same]
              unfold mixρ
              rw [if_pos ⟨i, o, bs, hl1, getD_set_true_self hil, hdo⟩]
            · rw [upd_ne _ _ ht]
              unfold mixρ
              have hiff : (∃ (j : Nat) (o : AOp) (bs : List Nat), l[j]? = some (o, bs) ∧ listed.getD j false = true ∧ o.d = some t) ↔ (∃ (j : Nat) (o : AOp) (bs : List Nat), l[j]? = some (o, bs) ∧ (listed.setIfInBounds i true).getD j false = true ∧ o.d = some t) := by
                constructor
                · rintro ⟨j, o', bs', e1, e2, e3⟩
                  exact ⟨j, o', bs', e1, getD_set_true e2, e3⟩
                · rintro ⟨j, o', bs', e1, e2, e3⟩
                  by_cases hij : i = j
                  · subst hij
                    rw [hl1] at e1; cases e1
                    rw [hdo] at e3; cases e3
                    exact absurd rfl ht
                  · rw [getD_set_ne false hij] at e2
                    exact ⟨j, o', bs', e1, e2, e3⟩
              by_cases hc : ∃ (j : Nat) (o : AOp) (bs : List Nat), l[j]? = some (o, bs) ∧ listed.getD j false = true ∧ o.d = some t
              · rw [if_pos hc, if_pos (hiff.1 hc)]
              · rw [if_neg hc, if_neg fun k => hc (hiff.2 k)]
          rw [← this]
          exact hsr2
        · intro j o' bs' hj hlj b hb
          by_cases hij : i = j
          · subst hij
            rw [hl1] at hj; cases hj
            exact getD_set_true (hbs b hb)
          · rw [getD_set_ne false hij] at hlj
            exact getD_set_true (hdown j o' bs' hj hlj b hb)
      unfold wpOp
      rw [hx]
      simp only
      split
      · rename_i hw; rw [if_pos (by simpa using hw)] at this; exact .inl this
      · rename_i hw; rw [if_neg (by simpa using hw)] at this; exact this
  obtain ⟨φ, M, L, I⟩ := hsr
  refine main os.size (Array.replicate os.size false) a _ (by simp) ?_ ⟨φ, M, L, ?_⟩ (Fr.refl p a) ?_
  · exact Nat.le_trans (List.length_filter_le _ _) (by simp)
  · have : mixρ l (Array.replicate os.size false) ρ ρs = ρ := by
      funext t
      unfold mixρ
      rw [if_neg]
      rintro ⟨j, o, bs, e1, e2, e3⟩
      rw [getD_rep] at e2; cases e2
    rw [this]
    exact I.drew
  · intro i o bs e1 e2
    rw [getD_rep] at e2; cases e2
end
end Go.Proofs.YtiejaibmcmicoaaGreatDoor.Am
