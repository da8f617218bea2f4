/- A function's contract out of a run of its code; no condition. -/
import Derived.Test.YtiejaibmcmicoaaGreatDoorAm9
namespace Go.Proofs.YtiejaibmcmicoaaGreatDoor.Am
open Go
set_option linter.unusedSimpArgs false
def ent1 (d : Nat) (x : AV) (st : St) : Option (AV × St) :=
  match x with
  | .io cs len sz => inst 64 d (.own cs len sz) st
  | .bx cs => match st.h d with
    | none => some (.ref d 0, st.put d (some cs))
    | _ => none
  | x => inst 64 d x st
def entL : Nat → List AV → St → Option (List AV × St)
  | _, [], st => some ([], st)
  | d, x :: l, st => match ent1 d x st with
    | some (y, st1) => (entL (d + 1) l st1).map fun p => (y :: p.1, p.2)
    | none => none
mutual
def clo1 : Nat → AV → St → Option (AV × St)
  | 0, _, _ => none
  | n + 1, x, st => if shut x then some (x, st) else match x with
    | .sl b off len sz lim => match ex1 (.mv sz) (.sl b off len sz lim) st with
      | some (some y, _, st1) => some (y, st1)
      | _ => none
    | .ref b off => match ex1 .io (.ref b off) st with
      | some (some y, _, st1) => some (y, st1)
      | _ => none
    | .agg xs => (cloL n xs st).map fun p => (.agg p.1, p.2)
    | .tup xs => (cloL n xs st).map fun p => (.tup p.1, p.2)
    | _ => none
def cloL : Nat → List AV → St → Option (List AV × St)
  | _, [], st => some ([], st)
  | 0, _ :: _, _ => none
  | n + 1, x :: l, st => match clo1 n x st with
    | some (y, st1) => (cloL n l st1).map fun p => (y :: p.1, p.2)
    | none => none
end
def outC : List AV → List AV → St → Option (List AV × St)
  | [], [], st => some ([], st)
  | .io _ _ _ :: xs, y :: ys, st => match ex1 .io y st with
    | some (some y', _, st1) => if ioPos1 y' then (outC xs ys st1).map fun p => (y' :: p.1, p.2) else none
    | _ => none
  | _ :: xs, _ :: ys, st => (outC xs ys st).map fun p => (.un :: p.1, p.2)
  | _, _, _ => none
def out1 (x y : AV) (st : St) : Option (AV × St) :=
  match x with
  | .io _ _ _ | .bx _ => match ex1 .io y st with
    | some (some y, _, st1) => if ioPos1 y then some (y, st1) else none
    | _ => none
  | .agg xs => if xs.any isIo then (match y with | .agg ys => (outC xs ys st).map fun p => (.agg p.1, p.2) | _ => none) else some (.un, st)
  | _ => some (.un, st)
def outL : List AV → (Nat → AV) → Nat → St → Option (List AV)
  | [], _, _, _ => some []
  | x :: l, ρ, j, st => match out1 x (ρ j) st with
    | some (y, st1) => (outL l ρ (j + 1) st1).map (y :: ·)
    | none => none
mutual
def coe : AV → AV → Prop
  | .em, .own cs len _ => cs = [] ∧ len = 0
  | .agg xs, .agg ys => coeL xs ys
  | .tup xs, .tup ys => coeL xs ys
  | _, _ => False
def coeL : List AV → List AV → Prop
  | [], [] => True
  | x :: xs, y :: ys => (x = y ∨ coe x y) ∧ coeL xs ys
  | _, _ => False
end
mutual
theorem coe_ok {M : Nat → Prop} {w : World} {v : Value} {F : List Nat} : ∀ {x y : AV}, coe x y → V nof M w x v F → V nof M w y v F
  | .em, .own cs len sz, h, hv => by
    obtain ⟨rfl, rfl⟩ := h
    cases hv with
    | imm _ _ h => cases h; exact .ownnil _ _
  | .agg xs, .agg ys, h, hv => by
    generalize hx : AV.agg xs = x at hv
    cases hv with
    | imm _ _ h' =>
      subst hx
      cases h' with
      | agg _ us h1 ho h2 =>
        obtain ⟨k1, k2⟩ := coeL_ok (vs := us) (Fs := List.replicate xs.length []) h h1 (by simp) (fun j x u F a b c => by
          obtain rfl : F = [] := (List.mem_replicate.1 (List.mem_of_getElem? c)).2
          exact .imm _ _ (h2 j x u a b))
        have := V.agg (φ := nof) (M := M) (w := w) ys us (List.replicate xs.length []) (by omega) (by simpa using k1) ho k2
        simpa using this
    | agg _ us Fs h1 h2 ho h' =>
      cases hx
      obtain ⟨k1, k2⟩ := coeL_ok h h1 h2 h'
      exact .agg ys us Fs (by omega) (by omega) ho k2
    | _ => cases hx
  | .tup xs, .tup ys, h, hv => by
    generalize hx : AV.tup xs = x at hv
    cases hv with
    | imm _ _ h' =>
      subst hx
      cases h' with
      | tup _ us h1 h2 =>
        obtain ⟨k1, k2⟩ := coeL_ok (vs := us) (Fs := List.replicate xs.length []) h h1 (by simp) (fun j x u F a b c => by
          obtain rfl : F = [] := (List.mem_replicate.1 (List.mem_of_getElem? c)).2
          exact .imm _ _ (h2 j x u a b))
        have := V.tup (φ := nof) (M := M) (w := w) ys us (List.replicate xs.length []) (by omega) (by simpa using k1) k2
        simpa using this
    | tup _ us Fs h1 h2 h' =>
      cases hx
      obtain ⟨k1, k2⟩ := coeL_ok h h1 h2 h'
      exact .tup ys us Fs (by omega) (by omega) k2
    | _ => cases hx
theorem coeL_ok {M : Nat → Prop} {w : World} : ∀ {xs ys : List AV} {vs : List Value} {Fs : List (List Nat)}, coeL xs ys → vs.length = xs.length → Fs.length = xs.length → (∀ (j : Nat) (x : AV) (u : Value) (F : List Nat), xs[j]? = some x → vs[j]? = some u → Fs[j]? = some F → V nof M w x u F) →
    xs.length = ys.length ∧ ∀ (j : Nat) (y : AV) (u : Value) (F : List Nat), ys[j]? = some y → vs[j]? = some u → Fs[j]? = some F → V nof M w y u F
  | [], [], vs, Fs, _, _, _, h => ⟨rfl, by simp⟩
  | x :: xs, y :: ys, vs, Fs, hc, h1, h2, h => by
    cases vs with
    | nil => simp at h1
    | cons v vs =>
    cases Fs with
    | nil => simp at h2
    | cons F Fs =>
    have h0 := h 0 x v F rfl rfl rfl
    have hy : V nof M w y v F := by
      rcases hc.1 with e | e
      · exact e ▸ h0
      · exact coe_ok e h0
    obtain ⟨k1, k2⟩ := coeL_ok (vs := vs) (Fs := Fs) hc.2 (by simpa using h1) (by simpa using h2) (fun j x u F a b c => h (j + 1) x u F (by simpa using a) (by simpa using b) (by simpa using c))
    refine ⟨by simp [k1], fun j z u G a b c => ?_⟩
    cases j with
    | zero => simp at a b c; subst a; subst b; subst c; exact hy
    | succ j => exact k2 j z u G (by simpa using a) (by simpa using b) (by simpa using c)
end
def resB (P : Program) : ResultVar → Option QOp
  | .tmp t => some (.mov (.t t))
  | .cell a t => (aggB P t).bind fun g => (szB P t).map fun n => .load g n (.t a)
def resA (rs : List QOp) (st : St) : Option AV :=
  (rs.mapM fun q => aval q st.ρ st.h).map fun l => match l with | [x] => x | l => .tup l
section
variable {E : Ent} {φ : Nat → Option Loc} {M M' : Nat → Prop} {L : Nat → List Nat} {st st' st1 : St} {a : Act} {w w' : World} {P : Program}
theorem ent1_ok {d : Nat} {x : AV} {v : Value} {F : List Nat} {y : AV} (I : Inv E φ M L st a.tmps w) (h : V nof M w x v F) (hnd : F.Nodup) (hF : ∀ g ∈ F, Free E M L st g ∧ g < w.heap.size) (he : ent1 d x st = some (y, st')) :
    ∃ φ' L', Took E φ M L st a.tmps w F φ' L' st' ∧ V φ' M w y v [] := by
  unfold ent1 at he
  split at he
  · rename_i cs len sz
    refine inst_ok 64 d (.own cs len sz) st st' φ L v F y I ?_ hnd hF he
    cases h with
    | imm _ _ h => cases h
    | io _ _ _ g o c C us Fs h1 h2 hb hl hs hr hc ho h => exact .own cs len sz g o c C us Fs h1 h2 hb hl hs hr hc ho h
    | ionil _ A => exact .ownnil sz A
  · rename_i cs
    split at he <;> cases he
    rename_i hd
    cases h with
    | imm _ _ h => cases h
    | bx _ g o C us Fs h1 h2 hb hc ho h =>
      have hext : ∀ b l, φ b = some l → upd φ d (some ⟨g, o, C.size⟩) b = some l := fun b l h => by
        have : b ≠ d := by rintro rfl; rw [I.fresh _ hd] at h; cases h
        rw [upd_ne _ _ this]; exact h
      obtain ⟨I', hf'⟩ := I.put (d := d) (by simp [hd]) (cs := cs) (some ⟨g, o, C.size⟩) (.inl (I.fresh _ hd)) hF hnd
        (.inr ⟨_, C, us, Fs.flatten, upd_same _ _ _, hb, rfl, ⟨Fs, h1, h2, ho, rfl, fun j x u F a b c => (h j x u F a b c).lift _⟩, hc, rfl⟩)
      exact ⟨_, _, ⟨I', hext, fun g hg hn => hf' g hg hn⟩, .ref d 0 ⟨g, o, C.size⟩ (upd_same _ _ _)⟩
  · exact inst_ok 64 d x st st' φ L v F y I h hnd hF he
theorem entL_ok : ∀ (xs : List AV) (d : Nat) (st st' : St) (φ : Nat → Option Loc) (L : Nat → List Nat) (vs : List Value) (Fs : List (List Nat)) (ys : List AV), Inv E φ M L st a.tmps w → vs.length = xs.length → Fs.length = xs.length →
    (∀ (j : Nat) (x : AV) (v : Value) (F : List Nat), xs[j]? = some x → vs[j]? = some v → Fs[j]? = some F → V nof M w x v F) → Fs.flatten.Nodup → (∀ g ∈ Fs.flatten, Free E M L st g ∧ g < w.heap.size) → entL d xs st = some (ys, st') →
    ∃ φ' L', Took E φ M L st a.tmps w Fs.flatten φ' L' st' ∧ vs.length = ys.length ∧ ∀ (j : Nat) (y : AV) (v : Value), ys[j]? = some y → vs[j]? = some v → V φ' M w y v []
  | [], d, st, st', φ, L, vs, Fs, ys, I, h1, h2, h, hnd, hF, hi => by
    simp only [entL, Option.some.injEq, Prod.mk.injEq] at hi
    obtain ⟨rfl, rfl⟩ := hi
    obtain rfl : vs = [] := List.length_eq_zero_iff.1 h1
    exact ⟨φ, L, Took.refl I _, rfl, by simp⟩
  | x :: xs, d, st, st', φ, L, vs, Fs, ys, I, h1, h2, h, hnd, hF, hi => by
    rw [entL] at hi
    split at hi <;> (try cases hi)
    rename_i y st1 hx
    obtain ⟨⟨ys', st2⟩, hp, e⟩ := Option.map_eq_some_iff.1 hi
    simp only [Option.some.injEq, Prod.mk.injEq] at e
    obtain ⟨rfl, rfl⟩ := e
    cases vs with
    | nil => simp at h1
    | cons v vs =>
    cases Fs with
    | nil => simp at h2
    | cons F Fs =>
    rw [List.flatten_cons] at hnd hF ⊢
    obtain ⟨n1, n2, n3⟩ := List.nodup_append.1 hnd
    obtain ⟨φ1, L1, T1, hy⟩ := ent1_ok I (h 0 x v F rfl rfl rfl) n1 (fun g hg => hF g (List.mem_append.2 (.inl hg))) hx
    obtain ⟨φ2, L2, T2, hl, hys⟩ := entL_ok xs (d + 1) st1 _ φ1 L1 vs Fs ys' T1.inv (by simpa using h1) (by simpa using h2) (fun j x v F a b c => h (j + 1) x v F a b c) n2
      (fun g hg => ⟨T1.free g (hF g (List.mem_append.2 (.inr hg))).1 fun e => n3 g e g hg rfl, (hF g (List.mem_append.2 (.inr hg))).2⟩) hp
    refine ⟨φ2, L2, T1.trans T2, by simp [hl], fun j z u hz hu => ?_⟩
    cases j with
    | zero => simp at hz hu; subst hz; subst hu; exact hy.mono T2.ext (fun _ h => h) (fun _ _ => rfl)
    | succ j => exact hys j z u (by simpa using hz) (by simpa using hu)
structure Gave (E : Ent) (φ : Nat → Option Loc) (M : Nat → Prop) (L : Nat → List Nat) (st : St) (tm : Array Value) (w : World) (F : List Nat) (st' : St) : Prop where
  inv : Inv E φ M L st' tm w
  nodup : F.Nodup
  own : ∀ g ∈ F, Free E M L st' g ∧ g < w.heap.size ∧ ¬ Free E M L st g
  free : ∀ g, Free E M L st g → Free E M L st' g
theorem Gave.refl (I : Inv E φ M L st a.tmps w) : Gave E φ M L st a.tmps w [] st := ⟨I, by simp, by simp, fun _ h => h⟩
theorem Gave.trans {F F' : List Nat} {st'' : St} (h : Gave E φ M L st a.tmps w F st') (k : Gave E φ M L st' a.tmps w F' st'') : Gave E φ M L st a.tmps w (F ++ F') st'' :=
  ⟨k.inv, List.nodup_append.2 ⟨h.nodup, k.nodup, fun x hx y hy e => (k.own y hy).2.2 (e ▸ (h.own x hx).1)⟩, fun g hg => by
    rcases List.mem_append.1 hg with hg | hg
    · exact ⟨k.free g (h.own g hg).1, (h.own g hg).2.1, (h.own g hg).2.2⟩
    · exact ⟨(k.own g hg).1, (k.own g hg).2.1, fun hf => (k.own g hg).2.2 (h.free g hf)⟩, fun g hg => k.free g (h.free g hg)⟩
theorem ex1_gave (I : Inv E φ M L st a.tmps w) {m : Md} {x y : AV} {v : Value} {bk : Option Nat} (hv : V φ M w x v []) (h : ex1 m x st = some (some y, bk, st1)) :
    ∃ F, Gave E φ M L st a.tmps w F st1 ∧ V nof M w y v F ∧ ∀ b, bk = some b → ∃ n T, (∃ cs len sz, y = .io cs len sz ∧ cs.length = n ∧ Bk φ M w L b n v F T) ∨ (∃ cs, y = .bx cs ∧ cs.length = n ∧ Bk φ M w L b n v F T) := by
  obtain ⟨I1, F, T, h1, h2, h3, h4, h5, h6, h7⟩ := ex1_ok I hv h
  refine ⟨F, ⟨I1, ?_, ?_, h6⟩, h3 y rfl, fun b hb => ?_⟩
  · rcases h1 with rfl | rfl
    · exact h4
    · simp
  · rcases h1 with rfl | rfl
    · exact h5
    · simp
  · obtain ⟨_, n, h | h⟩ := h7 b hb
    · obtain ⟨cs, len, sz, e, h8⟩ := h
      cases e
      exact ⟨n, T, .inl ⟨cs, len, sz, rfl, h8⟩⟩
    · obtain ⟨cs, e, h8⟩ := h
      cases e
      exact ⟨n, T, .inr ⟨cs, rfl, h8⟩⟩
mutual
theorem clo1_ok : ∀ (n : Nat) (x : AV) (st st' : St) (v : Value) (y : AV), Inv E φ M L st a.tmps w → V φ M w x v [] → clo1 n x st = some (y, st') → ∃ F, Gave E φ M L st a.tmps w F st' ∧ V nof M w y v F
  | 0, x, st, st', v, y, I, h, hc => by simp [clo1] at hc
  | n + 1, x, st, st', v, y, I, h, hc => by
    by_cases hs : shut x = true
    · have : x = y ∧ st = st' := by cases x <;> simp only [clo1, if_pos hs, Option.some.injEq, Prod.mk.injEq] at hc <;> exact hc
      obtain ⟨rfl, rfl⟩ := this
      exact ⟨[], Gave.refl I, .imm _ _ (h.toW hs)⟩
    · cases x <;> simp only [clo1, if_neg hs] at hc
      case sl b off len sz lim =>
        split at hc
        · rename_i y' _ st1' he
          cases hc
          obtain ⟨F, h1, h2, _⟩ := ex1_gave I h he
          exact ⟨F, h1, h2⟩
        · cases hc
      case ref b off =>
        split at hc
        · rename_i y' _ st1' he
          cases hc
          obtain ⟨F, h1, h2, _⟩ := ex1_gave I h he
          exact ⟨F, h1, h2⟩
        · cases hc
      case agg xs =>
        obtain ⟨⟨ys, st2⟩, hp, e⟩ := Option.map_eq_some_iff.1 hc
        simp only [Option.some.injEq, Prod.mk.injEq] at e
        obtain ⟨rfl, rfl⟩ := e
        obtain ⟨us, rfl, hcs⟩ := vagg h
        obtain ⟨Fs, h1, h2, h3, h4⟩ := cloL_ok n xs st _ us ys I hcs.len hcs.all hp
        exact ⟨Fs.flatten, h1, .agg ys us Fs h2 h3 hcs.one h4⟩
      case tup xs =>
        obtain ⟨⟨ys, st2⟩, hp, e⟩ := Option.map_eq_some_iff.1 hc
        simp only [Option.some.injEq, Prod.mk.injEq] at e
        obtain ⟨rfl, rfl⟩ := e
        obtain ⟨us, rfl, h1, h2⟩ := vtup h rfl
        obtain ⟨Fs, k1, k2, k3, k4⟩ := cloL_ok n xs st _ us ys I h1 h2 hp
        exact ⟨Fs.flatten, k1, .tup ys us Fs k2 k3 k4⟩
      all_goals (cases hc)
theorem cloL_ok : ∀ (n : Nat) (xs : List AV) (st st' : St) (vs : List Value) (ys : List AV), Inv E φ M L st a.tmps w → vs.length = xs.length → (∀ (j : Nat) (x : AV) (v : Value), xs[j]? = some x → vs[j]? = some v → V φ M w x v []) → cloL n xs st = some (ys, st') →
    ∃ Fs : List (List Nat), Gave E φ M L st a.tmps w Fs.flatten st' ∧ vs.length = ys.length ∧ Fs.length = ys.length ∧ ∀ (j : Nat) (y : AV) (v : Value) (F : List Nat), ys[j]? = some y → vs[j]? = some v → Fs[j]? = some F → V nof M w y v F
  | n, [], st, st', vs, ys, I, hl, h, hc => by
    have : ys = [] ∧ st' = st := by cases n <;> simp [cloL] at hc <;> exact ⟨hc.1, hc.2.symm⟩
    obtain ⟨rfl, rfl⟩ := this
    exact ⟨[], Gave.refl I, by simpa using hl, rfl, by simp⟩
  | 0, x :: xs, st, st', vs, ys, I, hl, h, hc => by simp [cloL] at hc
  | n + 1, x :: xs, st, st', vs, ys, I, hl, h, hc => by
    rw [cloL] at hc
    split at hc <;> (try cases hc)
    rename_i y st1 hx
    obtain ⟨⟨ys', st2⟩, hp, e⟩ := Option.map_eq_some_iff.1 hc
    simp only [Option.some.injEq, Prod.mk.injEq] at e
    obtain ⟨rfl, rfl⟩ := e
    cases vs with
    | nil => simp at hl
    | cons v vs =>
    obtain ⟨F, h1, h2⟩ := clo1_ok n x st st1 v y I (h 0 x v rfl rfl) hx
    obtain ⟨Fs, k1, k2, k3, k4⟩ := cloL_ok n xs st1 _ vs ys' h1.inv (by simpa using hl) (fun j x v a b => h (j + 1) x v a b) hp
    refine ⟨F :: Fs, by simpa using h1.trans k1, by simp [k2], by simp [k3], fun j z u G hz hu hG => ?_⟩
    cases j with
    | zero => simp at hz hu hG; subst hz; subst hu; subst hG; exact h2
    | succ j => exact k4 j z u G (by simpa using hz) (by simpa using hu) (by simpa using hG)
end
theorem outC_ok : ∀ (xs ys : List AV) (st : St) (us : List Value) (zs : List AV) (st' : St), Inv E φ M L st a.tmps w → us.length = ys.length → (∀ (i : Nat) (y : AV) (u : Value), ys[i]? = some y → us[i]? = some u → V φ M w y u []) → outC xs ys st = some (zs, st') →
    ∃ Gs : List (List Nat), Gave E φ M L st a.tmps w Gs.flatten st' ∧ us.length = zs.length ∧ Gs.length = zs.length ∧ (∀ (i : Nat) (z : AV) (u : Value) (G : List Nat), zs[i]? = some z → us[i]? = some u → Gs[i]? = some G → V nof M w z u G) ∧ ∀ z ∈ zs, ioPos1 z = true
  | [], [], st, us, zs, st', I, hl, h, hc => by
    simp only [outC, Option.some.injEq, Prod.mk.injEq] at hc
    obtain ⟨rfl, rfl⟩ := hc
    exact ⟨[], Gave.refl I, hl, rfl, by simp, by simp⟩
  | x :: xs, y :: ys, st, us, zs, st', I, hl, h, hc => by
    cases us with
    | nil => simp at hl
    | cons u us =>
    have hu := h 0 y u rfl rfl
    have ht : ∀ (i : Nat) (y : AV) (u : Value), ys[i]? = some y → us[i]? = some u → V φ M w y u [] := fun i y u p q => h (i + 1) y u (by simpa using p) (by simpa using q)
    have fin : ∀ (z : AV) (G : List Nat) (st1 : St) (zs' : List AV), Gave E φ M L st a.tmps w G st1 → V nof M w z u G → ioPos1 z = true → outC xs ys st1 = some (zs', st') → zs = z :: zs' →
        ∃ Gs : List (List Nat), Gave E φ M L st a.tmps w Gs.flatten st' ∧ (u :: us).length = zs.length ∧ Gs.length = zs.length ∧ (∀ (i : Nat) (z : AV) (v : Value) (G : List Nat), zs[i]? = some z → (u :: us)[i]? = some v → Gs[i]? = some G → V nof M w z v G) ∧ ∀ z ∈ zs, ioPos1 z = true := fun z G st1 zs' g1 g2 g3 g4 g5 => by
      obtain ⟨Gs, k1, k2, k3, k4, k5⟩ := outC_ok xs ys st1 us zs' st' g1.inv (by simpa using hl) ht g4
      subst g5
      refine ⟨G :: Gs, by simpa using g1.trans k1, by simp [k2], by simp [k3], fun i z' v G' p q r => ?_, fun z' hz => ?_⟩
      · cases i with
        | zero => simp at p q r; subst p; subst q; subst r; exact g2
        | succ i => exact k4 i z' v G' (by simpa using p) (by simpa using q) (by simpa using r)
      · rcases List.mem_cons.1 hz with rfl | hz
        · exact g3
        · exact k5 z' hz
    have un : (outC xs ys st).map (fun p => (AV.un :: p.1, p.2)) = some (zs, st') → ∃ Gs : List (List Nat), Gave E φ M L st a.tmps w Gs.flatten st' ∧ (u :: us).length = zs.length ∧ Gs.length = zs.length ∧ (∀ (i : Nat) (z : AV) (v : Value) (G : List Nat), zs[i]? = some z → (u :: us)[i]? = some v → Gs[i]? = some G → V nof M w z v G) ∧ ∀ z ∈ zs, ioPos1 z = true := fun hc => by
      obtain ⟨⟨zs', s2⟩, hp, e⟩ := Option.map_eq_some_iff.1 hc
      cases e
      exact fin .un [] st zs' (Gave.refl I) (V.un u) rfl hp rfl
    cases x
    case io cs len sz =>
      simp only [outC] at hc
      split at hc <;> (try cases hc)
      rename_i y' _ st1 he
      split at hc <;> (try cases hc)
      rename_i hpos
      obtain ⟨⟨zs', s2⟩, hp, e⟩ := Option.map_eq_some_iff.1 hc
      cases e
      obtain ⟨G, g1, g2, _⟩ := ex1_gave I hu he
      exact fin y' G st1 zs' g1 g2 hpos hp rfl
    all_goals
      simp only [outC] at hc
      exact un hc
  | [], _ :: _, st, us, zs, st', I, hl, h, hc => by simp [outC] at hc
  | _ :: _, [], st, us, zs, st', I, hl, h, hc => by simp [outC] at hc
theorem outL_ok {ρ : Nat → AV} : ∀ (xs : List AV) (j : Nat) (st : St) (vs : List Value) (ys : List AV), Inv E φ M L st a.tmps w → vs.length = xs.length →
    (∀ (i : Nat) (x : AV) (v : Value), xs[i]? = some x → hasIo x = true → vs[i]? = some v → V φ M w (ρ (j + i)) v []) → outL xs ρ j st = some ys →
    ∃ (Gs : List (List Nat)) (st' : St), Gave E φ M L st a.tmps w Gs.flatten st' ∧ vs.length = ys.length ∧ Gs.length = ys.length ∧
      (∀ (i : Nat) (y : AV) (v : Value) (G : List Nat), ys[i]? = some y → vs[i]? = some v → Gs[i]? = some G → V nof M w y v G) ∧ ∀ y ∈ ys, ioPos y = true
  | [], j, st, vs, ys, I, h1, k, ho => by
    simp only [outL, Option.some.injEq] at ho
    subst ho
    exact ⟨[], st, Gave.refl I, by simpa using h1, rfl, by simp, by simp⟩
  | x :: xs, j, st, vs, ys, I, h1, k, ho => by
    rw [outL] at ho
    split at ho <;> (try cases ho)
    rename_i y st1 hx
    obtain ⟨ys', hp, rfl⟩ := Option.map_eq_some_iff.1 ho
    cases vs with
    | nil => simp at h1
    | cons v vs =>
    have hk := fun hx => k 0 x v rfl hx rfl
    have key : ∃ G, Gave E φ M L st a.tmps w G st1 ∧ V nof M w y v G ∧ ioPos y = true := by
      have one : (match ex1 .io (ρ j) st with | some (some y, _, st1) => if ioPos1 y then some (y, st1) else none | _ => none) = some (y, st1) → V φ M w (ρ j) v [] → ∃ G, Gave E φ M L st a.tmps w G st1 ∧ V nof M w y v G ∧ ioPos y = true := fun hx hv => by
        split at hx <;> (try cases hx)
        rename_i y' bk st2 he
        split at hx <;> cases hx
        rename_i hpos
        obtain ⟨G, g1, g2, g3⟩ := ex1_gave I hv he
        refine ⟨G, g1, g2, ?_⟩
        unfold ex1 at he
        simp only at he
        split at he
        · split at he <;> (try cases he)
          split at he <;> cases he
          exact hpos
        · split at he <;> (try cases he)
          split at he <;> cases he
          rfl
        · cases he
      cases x
      case io => exact one hx (hk rfl)
      case bx => exact one hx (hk rfl)
      case agg xs =>
        simp only [out1] at hx
        split at hx
        · rename_i hany
          split at hx <;> (try cases hx)
          rename_i ys0 hy0
          obtain ⟨⟨zs, s2⟩, hp', e⟩ := Option.map_eq_some_iff.1 hx
          cases e
          have hv := hk hany
          rw [Nat.add_zero, hy0] at hv
          obtain ⟨us, rfl, hc⟩ := vagg hv
          obtain ⟨Gs, g1, g2, g3, g4, g5⟩ := outC_ok xs ys0 st us zs _ I hc.len hc.all hp'
          exact ⟨Gs.flatten, g1, .agg zs us Gs g2 g3 hc.one g4, List.all_eq_true.2 g5⟩
        · cases hx
          exact ⟨[], Gave.refl I, V.un v, rfl⟩
      all_goals
        simp only [out1, Option.some.injEq, Prod.mk.injEq] at hx
        obtain ⟨rfl, rfl⟩ := hx
        exact ⟨[], Gave.refl I, V.un v, rfl⟩
    obtain ⟨G, g1, g2, g3⟩ := key
    obtain ⟨Gs, st2, k1, k2, k3, k4, k5⟩ := outL_ok xs (j + 1) st1 vs ys' g1.inv (by simpa using h1) (fun i x v hx hio hi => by rw [Nat.add_assoc, Nat.add_comm 1 i]; exact k (i + 1) x v hx hio hi) hp
    refine ⟨G :: Gs, st2, by simpa using g1.trans k1, by simp [k2], by simp [k3], fun i z u G' hz hu hG => ?_, fun z hz => ?_⟩
    · cases i with
      | zero => simp at hz hu hG; subst hz; subst hu; subst hG; exact g2
      | succ i => exact k4 i z u G' (by simpa using hz) (by simpa using hu) (by simpa using hG)
    · rcases List.mem_cons.1 hz with rfl | hz
      · exact g3
      · exact k5 z hz
theorem resB_ok {r : ResultVar} {q : QOp} (hr : resB P r = some q) (I : Inv E φ M L st a.tmps w) {y : AV} (hy : aval q st.ρ st.h = some y) :
    ∃ v, (match r with | .tmp t => pure (a.tmps.getD t undef) | .cell b t => do loadVar t (← asAddr (a.tmps.getD b undef)) : Sem Value).run P w = .ok v w ∧ V φ M w y v [] := by
  cases r with
  | tmp t =>
    simp only [resB, Option.some.injEq] at hr
    subst hr
    simp only [aval, AX.ev, Option.some.injEq] at hy
    subst hy
    exact ⟨_, by simp only [Sem.run_pure], I.env t⟩
  | cell b t =>
    simp only [resB, Option.bind_eq_some_iff, Option.map_eq_some_iff] at hr
    obtain ⟨g, hg, n, hn, rfl⟩ := hr
    have h1 : V φ M w ((AX.t b).ev st.ρ) (a.tmps.getD b undef) [] := I.env b
    simp only [aval] at hy
    cases hl : deref st.h ((AX.t b).ev st.ρ) with
    | none => rw [hl] at hy; cases hy
    | some l =>
      rw [hl] at hy
      simp only [Option.bind_some] at hy
      obtain ⟨gg, oo, us, h2, h3, h4, h5, h6⟩ := deref_ok I h1 hl
      split at hy
      · rename_i hg'
        subst hg'
        split at hy <;> (try cases hy)
        rename_i hle
        refine ⟨_, ?_, V.aggOf (us := us.take n) (Cs.of_all (by simp [h3]) (fun u hu => h5 u (List.mem_of_mem_take hu)) ?_)⟩
        · simp [asAddr, h2, loadVar, run_isAggB hg, run_sizeB hn, run_loadCells_of (w := w) (P := P) (n := n) (by omega : n ≤ us.length) h4]
        · intro j y u hy hj
          have hp := plainL_mem hle.2 y (List.mem_of_getElem? hy)
          rw [List.getElem?_take] at hy hj
          split at hy
          · rename_i hlt
            rw [if_pos hlt] at hj
            exact h6 j y u hy hj hp
          · cases hy
      · rename_i hg'
        have hg' : g = false := by simpa using hg'
        subst hg'
        cases l with
        | nil => simp at hy
        | cons z l =>
          simp only at hy
          split at hy <;> cases hy
          rename_i hp
          cases us with
          | nil => simp at h3
          | cons u us =>
            have hc := h4 0 u rfl
            refine ⟨u, ?_, h6 0 y u rfl rfl hp⟩
            simp only [Nat.add_zero] at hc
            simp [asAddr, h2, loadVar, run_isAggB hg, load, Sem.run, hc]
def endQ (args : List AV) (ret : AV) (outs : List AV) (rs : List QOp) : AE → St → Prop
  | .exit _, _ => False
  | _, st => ∃ x st1 y, resA rs st = some x ∧ clo1 64 x st = some (y, st1) ∧ (y = ret ∨ coe y ret) ∧ outL args st.ρ 0 st1 = some outs
theorem run_results {fn : Func} {rs : List QOp} (hr : fn.results.toList.mapM (resB P) = some rs) (I : Inv E φ M L st a.tmps w) {x : AV} (hx : resA rs st = some x) :
    ∃ v, (results fn a.tmps).run P w = .ok v w ∧ V φ M w x v [] := by
  obtain ⟨l, hl⟩ : ∃ l : List ResultVar, fn.results = l.toArray := ⟨fn.results.toList, by simp⟩
  rw [hl] at hr
  simp only at hr
  obtain ⟨xs, hxs, rfl⟩ := Option.map_eq_some_iff.1 hx
  have key : ∀ (l : List ResultVar) (rs : List QOp) (xs : List AV), l.mapM (resB P) = some rs → (rs.mapM fun q => aval q st.ρ st.h) = some xs →
      ∃ vs : List Value, (l.mapM fun | .tmp t => pure (a.tmps.getD t undef) | .cell b t => do loadVar t (← asAddr (a.tmps.getD b undef)) : Sem (List Value)).run P w = .ok vs w ∧ vs.length = xs.length ∧
        ∀ (j : Nat) (x : AV) (u : Value), xs[j]? = some x → vs[j]? = some u → V φ M w x u [] := by
    intro l
    induction l with
    | nil =>
      intro rs xs h1 h2
      simp at h1; subst h1
      simp at h2; subst h2
      exact ⟨[], rfl, rfl, by simp⟩
    | cons r l ih =>
      intro rs xs h1 h2
      simp only [List.mapM_cons, Option.bind_eq_bind, Option.bind_eq_some_iff, Option.pure_def, Option.some.injEq] at h1
      obtain ⟨q, hq, rs', hrs, rfl⟩ := h1
      simp only [List.mapM_cons, Option.bind_eq_bind, Option.bind_eq_some_iff, Option.pure_def, Option.some.injEq] at h2
      obtain ⟨y, hy, xs', hxs', rfl⟩ := h2
      obtain ⟨v, k1, k2⟩ := resB_ok hq I hy
      obtain ⟨vs, m1, m2, m3⟩ := ih rs' xs' hrs hxs'
      refine ⟨v :: vs, ?_, by simp [m2], fun j z u hz hu => ?_⟩
      · simp only [List.mapM_cons, Sem.run_bind, k1, m1, Result.andThen_ok, Sem.run_pure]
      · cases j with
        | zero => simp at hz hu; subst hz; subst hu; exact k2
        | succ j => exact m3 j z u (by simpa using hz) (by simpa using hu)
  obtain ⟨vs, m1, m2, m3⟩ := key l rs xs hr hxs
  have hrun : (results fn a.tmps).run P w = .ok (if h : vs.toArray.size = 1 then vs.toArray[0] else .tuple vs.toArray) w := by
    unfold results
    rw [hl, List.mapM_toArray]
    simp only [Sem.run_bind, Sem.run_map]
    erw [m1]
    rfl
  refine ⟨_, hrun, ?_⟩
  clear hrun hx hxs m1
  rcases xs with _ | ⟨x, _ | ⟨x', xs⟩⟩
  · obtain rfl : vs = [] := List.length_eq_zero_iff.1 m2
    exact .imm _ _ (.tup [] [] rfl (by simp))
  · rcases vs with _ | ⟨v, _ | ⟨v', vs⟩⟩
    · simp at m2
    · exact m3 0 x v rfl rfl
    · simp at m2
  · rcases vs with _ | ⟨v, _ | ⟨v', vs⟩⟩
    · simp at m2
    · simp at m2
    · rw [dif_neg (by simp)]
      exact V.tupOf m2 m3
def pinsOf : List AV → Nat → List Nat
  | [], _ => []
  | x :: l, j => if hasIo x then j :: pinsOf l (j + 1) else pinsOf l (j + 1)
theorem pinsOf_mem {args : List AV} {i : Nat} {x : AV} (hx : args[i]? = some x) (hio : hasIo x = true) : ∀ j, j + i ∈ pinsOf args j := by
  induction args generalizing i with
  | nil => simp at hx
  | cons y l ih =>
    intro j
    cases i with
    | zero => simp at hx; subst hx; simp [pinsOf, hio]
    | succ i =>
      have := ih (by simpa using hx) (j + 1)
      rw [show j + (i + 1) = j + 1 + i by omega]
      unfold pinsOf
      split
      · exact List.mem_cons_of_mem _ this
      · exact this
theorem Ret.of {f : FuncId} {fn : Func} {code : Code} {c : AC} {n : Nat} {args ys : List AV} {st0 : St} {rs : List QOp} {ret : AV} {outs : List AV} (hf : P.funcs[f]? = some fn) (hb : fn.body = some code) (hc : comp P code = some c) (hn : fn.ntmps = n)
    (hl : args.length ≤ n) (hent : entL 100000 args ⟨fun _ => .un, fun _ => none, n⟩ = some (ys, st0)) (hr : fn.results.toList.mapM (resB P) = some rs)
    (h : T P (pinsOf args 0) c ⟨fun t => ys.getD t (.tup []), st0.h, n⟩ (endQ args ret outs rs)) : Ret P f args ret outs := by
  intro M w vs Fs hV hnd hF hM hT
  obtain ⟨v1, v2, v3⟩ := hV
  let E : Ent := ⟨w, fun g => g ∈ Fs.flatten, M, hT, fun g hg ho => (hF g ho).1 hg⟩
  let tm : Array Value := vs.toArray ++ Array.replicate (fn.ntmps - vs.toArray.size) undef
  let a0 : Act := { tmps := tm, defers := [] }
  have hsz : tm.size = n := by simp only [tm, Array.size_append, Array.size_replicate, List.size_toArray]; omega
  have I0 : Inv E nof M (fun _ => []) ⟨fun _ => .un, fun _ => none, n⟩ a0.tmps w :=
    ⟨hsz, fun t => V.un _, by simp, fun _ _ => rfl, by simp, by simp, by simp, by simp, hM, fun _ h => h, fun _ h => .inl h, by simp, rfl, rfl, rfl, Nat.le_refl _, fun _ _ _ => rfl, fun g n h => h⟩
  obtain ⟨φ, L, T0, hl0, hys⟩ := entL_ok args 100000 _ st0 nof (fun _ => []) vs Fs ys I0 v1 v2 v3 hnd (fun g hg => ⟨⟨by simp, (hF g hg).1, .inl hg⟩, (hF g hg).2⟩) hent
  have htm : ∀ j v, vs[j]? = some v → tm[j]? = some v := fun j v hj => by
    have : j < vs.toArray.size := by simpa using (List.getElem?_eq_some_iff.1 hj).1
    simp only [tm]
    rw [Array.getElem?_append_left this]
    simpa using hj
  have I1 : Inv E φ M L ⟨fun t => ys.getD t (.tup []), st0.h, n⟩ a0.tmps w := by
    have I := T0.inv
    refine ⟨hsz, fun t => ?_, I.root, I.fresh, I.nodup, I.disj, I.notM, I.low, I.bound, I.m0, I.m1, I.own, I.os, I.tape, I.output, I.grown, I.frame, I.keep⟩
    simp only [List.getD_eq_getElem?_getD]
    cases hy : ys[t]? with
    | none =>
      have ht : vs.length ≤ t := by rw [hl0]; exact List.getElem?_eq_none_iff.1 hy
      have : a0.tmps.getD t undef = undef := by
        simp only [a0, tm, Array.getD_eq_getD_getElem?]
        rw [Array.getElem?_append_right (by simpa using ht)]
        simp only [Array.getElem?_replicate]
        split <;> rfl
      rw [this]
      exact V.undef φ M w
    | some y =>
      have ht : t < vs.length := by rw [hl0]; exact (List.getElem?_eq_some_iff.1 hy).1
      have := htm t _ (List.getElem?_eq_getElem ht)
      simp only [a0, Array.getD_eq_getD_getElem?, this, Option.getD_some]
      exact hys t y _ hy (List.getElem?_eq_getElem ht)
  refine calls_of_wp hf hb ?_
  refine h code hc E a0 w _ ⟨φ, M, L, I1⟩ ?_
  intro e st' a' w' hq hs hfr
  have fin : (∃ x st1 y, resA rs st' = some x ∧ clo1 64 x st' = some (y, st1) ∧ (y = ret ∨ coe y ret) ∧ outL args st'.ρ 0 st1 = some outs) → a'.defers = [] ∧ ∃ v, (results fn a'.tmps).run P w' = .ok v w' ∧ ∃ (v' : Value) (M' : Nat → Prop) (Fr : List Nat) (Gs : List (List Nat)),
      Ending.returned v = .returned v' ∧ V nof M' w' ret v' Fr ∧ Vs nof M' w' outs vs Gs ∧ (∀ y ∈ outs, ioPos y = true) ∧ Left w M Fs.flatten w' M' (Fr ++ Gs.flatten) := by
    rintro ⟨x, st1, y0, hx, hcl, hcoe, ho⟩
    obtain ⟨φ', M', L', I⟩ := hs
    obtain ⟨v, hv1, hv2⟩ := run_results hr I hx
    obtain ⟨Fr, g1, g2⟩ := clo1_ok 64 x st' st1 v y0 I hv2 hcl
    have g2 : V nof M' w' ret v Fr := by
      rcases hcoe with e | e
      · exact e ▸ g2
      · exact coe_ok e g2
    obtain ⟨Gs, st2, k1, k2, k3, k4, k5⟩ := outL_ok args 0 st1 vs outs g1.inv v1 (fun i x u hx hio hi => by
      have h1 : a'.tmps[i]? = some u := (hfr.2 i (by simpa using pinsOf_mem hx hio 0)).trans (htm i u hi)
      have := I.env i
      rw [Nat.zero_add]
      rw [Array.getD_eq_getD_getElem?, h1] at this
      exact this) ho
    have G := g1.trans k1
    refine ⟨hfr.1, v, hv1, v, M', Fr, Gs, rfl, g2, ⟨k2, k3, k4⟩, k5, ?_⟩
    · have I2 := G.inv
      refine ⟨G.nodup, fun g hg => ⟨(G.own g hg).1.2.1, (G.own g hg).2.1, (G.own g hg).1.2.2⟩, I2.m0, I2.m1, I2.bound, I2.os, I2.tape, I2.output, I2.grown, fun g h1 h2 => I2.frame g h1 h2, I2.keep⟩
  cases e with
  | normal => exact fin hq
  | ret => exact fin hq
  | exit id => exact hq.elim
theorem Ret.by {f : FuncId} {fn : Func} {c : AC} {n : Nat} {args ys : List AV} {h0 : Nat → Option (Option (List AV))} {st0 : St} {rs : List QOp} {ret : AV} {outs : List AV} (hf : P.funcs[f]? = some fn) (hc : fn.body.bind (comp P) = some c ∧ fn.ntmps = n ∧ fn.results.toList.mapM (resB P) = some rs)
    (hl : args.length ≤ n) (hent : entL 100000 args ⟨fun _ => .un, fun _ => none, n⟩ = some (ys, st0)) (hh : st0.h = h0)
    (h : T P (pinsOf args 0) c ⟨fun t => ys.getD t (.tup []), h0, n⟩ (endQ args ret outs rs)) : Ret P f args ret outs := by
  obtain ⟨hc, hn, hr⟩ := hc
  obtain ⟨code, hb, hc⟩ := Option.bind_eq_some_iff.1 hc
  subst hh
  exact Ret.of hf hb hc hn hl hent hr h
end
end Go.Proofs.YtiejaibmcmicoaaGreatDoor.Am
