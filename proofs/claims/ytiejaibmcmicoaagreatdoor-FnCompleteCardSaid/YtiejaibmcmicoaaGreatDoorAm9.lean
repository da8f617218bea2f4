/- Code of the small machine, made of the model's, and what runs of it; no condition. -/
import Derived.Test.YtiejaibmcmicoaaGreatDoorAm8
import Derived.Orders
import Derived.WalkSpells
namespace Go.Proofs.YtiejaibmcmicoaaGreatDoor.Am
open Go
inductive AO where
  | q (q : QOp)
  | w (w : WOp)
  | c (f : AX) (as : List AX)
  | n (neg : Bool) (x : AX)
  deriving Inhabited
def isNil : Operand → Bool
  | .const (.slice none _ _) => true
  | _ => false
def nop (P : Program) (o : Oper) : Option (Bool × AX) :=
  match o.op with
  | .binOp op t x y _ => match P.underlying t with
    | some (.slice _) => if isNil y then (match op with | .eql => (cx x).map fun x => (false, x) | .neq => (cx x).map fun x => (true, x) | _ => none) else none
    | _ => none
  | _ => none
def nilA : AV → Option (Option Bool)
  | .em => some none
  | .ro _ n => some (if n = 0 then none else some false)
  | .sl _ _ n _ _ => some (if n = 0 then none else some false)
  | _ => none
structure AOp where
  d : Option Nat
  g : Option (Nat × Bool)
  o : AO
  deriving Inhabited
def guardB (ops : List Oper) : Option (Nat × Bool) → Option (Option (Nat × Bool))
  | none => some none
  | some (j, want) => ((ops[j]?).bind (·.dst)).map fun t => some (t, want)
def aop (P : Program) (ops : List Oper) (o : Oper) : Option AOp :=
  (guardB ops o.guard).bind fun g =>
    match nop P o with
    | some p => some ⟨o.dst, g, .n p.1 p.2⟩
    | none => match qop P o with
      | some q => some ⟨o.dst, g, .q q⟩
      | none => match wop P o with
        | some w => some ⟨o.dst, g, .w w⟩
        | none => (cop o).map fun p => ⟨o.dst, g, .c p.1 p.2⟩
inductive AC where
  | ops (l : List AOp)
  | any (l : List (AOp × List Nat))
  | seq (x y : AC)
  | cond (c : AX) (x y : AC)
  | block (id : Nat) (x : AC)
  | loop (x : AC)
  | ret
  | exit (id : Nat)
  | skip
  | dead
  deriving Inhabited
def isPan (o : Oper) : Bool := match o.op with
  | .panic _ => true
  | _ => false
def befores (o : Oper) : List Nat := (o.after.toList.filter (Region.binds .any)).map (·.on)
def comp (P : Program) : Code → Option AC
  | .region _ os dr =>
    if dr then (os.toList.mapM fun o => (aop P os.toList o).map fun a => (a, befores o)).map .any
    else if os.toList.any isPan then some .dead else (os.toList.mapM (aop P os.toList)).map .ops
  | .seq x y => (comp P x).bind fun x => (comp P y).map fun y => .seq x y
  | .cond c x y => (cx c).bind fun c => (comp P x).bind fun x => (comp P y).map fun y => .cond c x y
  | .block id x => (comp P x).map (.block id)
  | .loop x => (comp P x).map .loop
  | .ret => some .ret
  | .exit id => some (.exit id)
  | .skip => some .skip
  | _ => none
inductive AE where
  | normal
  | exit (id : Nat)
  | ret
def AE.to : AE → Exit
  | .normal => .normal
  | .exit id => .exit id
  | .ret => .ret
def Fr (p : List Nat) (a a' : Act) : Prop := a'.defers = a.defers ∧ ∀ j, j ∈ p → a'.tmps[j]? = a.tmps[j]?
theorem Fr.refl (p : List Nat) (a : Act) : Fr p a a := ⟨rfl, fun _ _ => rfl⟩
theorem Fr.trans {p : List Nat} {a b c : Act} (h : Fr p a b) (k : Fr p b c) : Fr p a c := ⟨k.1.trans h.1, fun j hj => (k.2 j hj).trans (h.2 j hj)⟩
theorem Fr.put {p : List Nat} (a : Act) (d : Option Nat) (v : Value) (h : ∀ k, d = some k → k ∉ p) : Fr p a (a.put d v) := by
  refine ⟨put_defers _ _ _, fun j hj => ?_⟩
  cases d with
  | none => rfl
  | some d =>
    have : d ≠ j := fun e => h d rfl (e ▸ hj)
    simp [Act.put, Array.getElem?_setIfInBounds_ne this]
def OpX (P : Program) (p : List Nat) (o : Oper) (st : St) (K : St → Prop) : Prop :=
  ∀ (E : Ent) (a : Act) (w : World) (KK : Act → World → Prop) (Q : Exit → Act → World → Prop), SR E st a.tmps w → (∀ st' a' w', K st' → SR E st' a'.tmps w' → Fr p a a' → KK a' w') → o.wp P a w KK Q
theorem OpT.x {P : Program} {p : List Nat} {o : Oper} {st st' : St} {K : St → Prop} (h : OpT P o st st') (hd : ∀ k, o.dst = some k → k ∉ p) (hK : K st') : OpX P p o st K := fun E a w KK Q hs hk => h E a w KK Q hs fun _ w' h1 => hk st' _ w' hK h1 (Fr.put _ _ _ hd)
def dOk (p : List Nat) (d : Option Nat) (n : Nat) : Bool := match d with | some k => (decide (k < n) && !p.elem k) | none => true
theorem dOk_spec {p : List Nat} {d : Option Nat} {n : Nat} (h : dOk p d n = true) : ∀ k, d = some k → k < n := fun k hk => by subst hk; simp only [dOk, Bool.and_eq_true, decide_eq_true_eq] at h; exact h.1
theorem dOk_low {p : List Nat} {d : Option Nat} {n : Nat} (h : dOk p d n = true) : ∀ k, d = some k → k ∉ p := fun k hk => by subst hk; simp only [dOk, Bool.and_eq_true, Bool.not_eq_true'] at h; intro hm; rw [List.elem_eq_true_of_mem hm] at h; cases h.2
def callI (P : Program) (p : List Nat) (fx : AX) (as : List AX) (dst : Option Nat) (st : St) (K : St → Prop) : Prop :=
  ∃ (f : FuncId) (caps : List AV) (ms : List Md) (fl : List (Md × AV)) (r : List (Option AV × Option Nat)) (st1 : St) (yl ys : List AV) (ret : AV) (outs ol : List AV) (st2 st3 : St) (y : AV) (d : Nat), fx.ev st.ρ = .clo f caps ∧ callB P f = true ∧ ms.length = as.length + caps.length ∧
    flatL (ms.zip (as.map (·.ev st.ρ) ++ caps)) = some fl ∧ exL fl st = some (r, st1) ∧ shutArgs st1.h fl r = some yl ∧ asm ms yl = some ys ∧ Ret P f ys ret outs ∧ outF ms outs = some ol ∧ ((flt ret = true ∧ flt.fltL ol = true) ∨ noLive st1 ∨ closedB fl r = true) ∧ backL r ol st1 = some st2 ∧ inst 64 d ret st2 = some (y, st3) ∧
    dOk p dst st3.n = true ∧ K (st3.setO dst y)
def ExtT (P : Program) (f : FuncId) (xs : List AV) (st : St) (y : AV) : Prop :=
  ∀ (E : Ent) (φ : Nat → Option Loc) (M : Nat → Prop) (L : Nat → List Nat) (a : Act) (w : World) (vs : List Value), Inv E φ M L st a.tmps w → vs.length = xs.length → (∀ (j : Nat) (x : AV) (v : Value), xs[j]? = some x → vs[j]? = some v → V φ M w x v []) →
    ∃ v, (callFunc f vs.toArray).run P w = .ok (.value v) w ∧ V φ M w y v []
def extK (P : Program) (p : List Nat) (fx : AX) (as : List AX) (dst : Option Nat) (st : St) (K : St → Prop) : Prop :=
  ∃ (f : FuncId) (y : AV), fx.ev st.ρ = .clo f [] ∧ ExtT P f (as.map (·.ev st.ρ)) st y ∧ dOk p dst st.n = true ∧ K (st.setO dst y)
theorem OpT.ext {P : Program} {o : Oper} {st : St} {fx : AX} {as : List AX} (hc : cop o = some (fx, as)) {f : FuncId} {y : AV} (hf : fx.ev st.ρ = .clo f []) (hx : ExtT P f (as.map (·.ev st.ρ)) st y) (hd : ∀ k, o.dst = some k → k < st.n) : OpT P o st (st.setO o.dst y) := by
  intro E a w K Q ⟨φ, M, L, I⟩ hK
  unfold cop at hc
  split at hc <;> (try cases hc)
  rename_i fo args ts ho
  simp only [Option.bind_eq_some_iff, Option.map_eq_some_iff, Prod.mk.injEq] at hc
  obtain ⟨fx', hfx, as', has, rfl, rfl⟩ := hc
  have hvf := I.ev hfx
  rw [hf] at hvf
  obtain ⟨cvs, hfv, hcl, hcv⟩ := vclo hvf rfl
  obtain rfl : cvs = [] := List.length_eq_zero_iff.1 (by simpa using hcl)
  obtain ⟨hal, hav⟩ := mapM_cx has I
  obtain ⟨v, h1, h2⟩ := hx E φ M L a w (args.toList.map a.eval) I (by rw [← hal]) hav
  have hexec : (execOp a.eval o).run P w = .ok (.value v) w := by
    have : (args.map a.eval : Array Value) = (args.toList.map a.eval).toArray := by
      apply Array.ext'; simp
    simp only [execOp, ho, resolve, hfv, Deferred.ofValue, Sem.run_bind, Sem.run_pure, Result.andThen_ok, invoke, Array.empty_append, Array.append_empty, this, h1]
  unfold Oper.wp
  rw [hexec, Oper.upon_value]
  exact hK _ _ ⟨φ, M, L, I.setO o.dst hd y v h2⟩
def callK (P : Program) (p : List Nat) (fx : AX) (as : List AX) (dst : Option Nat) (st : St) (K : St → Prop) : Prop :=
  callI P p fx as dst st K ∨ extK P p fx as dst st K ∨ ∃ st', (∀ (E : Ent) (tm : Array Value) (w : World), SR E st tm w → SR E st' tm w) ∧ (callI P p fx as dst st' K ∨ extK P p fx as dst st' K)
def doK (P : Program) (p : List Nat) (o : AO) (dst : Option Nat) (st : St) (K : St → Prop) : Prop :=
  match o with
  | .q q => match aval q st.ρ st.h with | some y => dOk p dst st.n = true ∧ K (st.setO dst y) | none => False
  | .w w => match weff w (dst.getD 0) st with | some (y, st1) => dOk p dst st1.n = true ∧ K (st1.setO dst y) | none => False
  | .c f as => callK P p f as dst st K
  | .n neg x => match nilA (x.ev st.ρ) with
    | some (some b) => dOk p dst st.n = true ∧ K (st.setO dst (.sc (.bool (if neg then !b else b))))
    | some none => dOk p dst st.n = true ∧ K (st.setO dst (.sc (.bool true))) ∧ K (st.setO dst (.sc (.bool false)))
    | none => False
def wantA (x : AV) (want : Bool) : Option Bool :=
  match x with
  | .sc (.bool b) => some (b == want)
  | .tup [] => some false
  | _ => none
def opK (P : Program) (p : List Nat) (o : AOp) (st : St) (K : St → Prop) : Prop :=
  match o.g with
  | none => doK P p o.o o.d st K
  | some (t, want) => match wantA (st.ρ t) want with
    | some b => (b = true → doK P p o.o o.d st K) ∧ (b = false → dOk p o.d st.n = true ∧ K (st.setO o.d (.tup [])))
    | none => False
section
variable {P : Program} {p : List Nat} {st : St} {K : St → Prop}
theorem nop_ok {o : Oper} {neg : Bool} {x : AX} (ho : nop P o = some (neg, x)) {E : Ent} {φ : Nat → Option Loc} {M : Nat → Prop} {L : Nat → List Nat} {a : Act} {w : World} (I : Inv E φ M L st a.tmps w) {r : Option Bool} (hr : nilA (x.ev st.ρ) = some r) :
    ∃ b : Bool, (∀ c, r = some c → b = (if neg then !c else c)) ∧ (execOp a.eval o).run P w = .ok (.value (.bool b)) w := by
  unfold nop at ho
  split at ho <;> (try cases ho)
  rename_i op t x0 y0 ty hop
  split at ho <;> (try cases ho)
  rename_i e ht
  split at ho <;> (try cases ho)
  rename_i hy
  have hy' : ∃ n c, a.eval y0 = .slice none n c := by
    unfold isNil at hy
    split at hy
    · exact ⟨_, _, rfl⟩
    · cases hy
  obtain ⟨n', c', hy'⟩ := hy'
  have key : ∀ {x : AX}, cx x0 = some x → nilA (x.ev st.ρ) = some r → ∃ A n c, a.eval x0 = .slice A n c ∧ ∀ b, r = some b → A.isNone = b := fun {x} hx hr => by
    have h1 := I.ev hx
    unfold nilA at hr
    split at hr
    · rename_i he
      cases hr
      rw [he] at h1
      obtain ⟨A, h2⟩ := vem h1
      exact ⟨A, _, _, h2, by simp⟩
    · rename_i cs n he
      rw [he] at h1
      obtain ⟨A, c, us, h2, h3, h4, _⟩ := vro h1
      refine ⟨A, _, _, h2, fun b hb => ?_⟩
      split at hr
      · cases hr; cases hb
      · rename_i hn
        cases hr; cases hb
        obtain ⟨g, o, rfl⟩ := h4 (by omega)
        rfl
    · rename_i b0 off n sz lim he
      rw [he] at h1
      obtain ⟨_, ⟨rfl, A, h2⟩ | ⟨l, c, _, h2, _⟩⟩ := vsl h1
      · refine ⟨A, _, _, h2, fun b hb => ?_⟩
        rw [if_pos rfl] at hr; cases hr; cases hb
      · refine ⟨_, _, _, h2, fun b hb => ?_⟩
        split at hr
        · cases hr; cases hb
        · cases hr; cases hb; rfl
    · cases hr
  split at ho <;> (try cases ho)
  · obtain ⟨x', hx, e'⟩ := Option.map_eq_some_iff.1 ho
    cases e'
    obtain ⟨A, n, c, h2, h3⟩ := key hx hr
    refine ⟨A.isNone, fun b hb => by rw [h3 b hb]; rfl, ?_⟩
    simp only [execOp, hop, h2, hy', Sem.run_bind]
    rw [show (eqGuard .eql t x0 y0 (.slice A n c) (.slice none n' c')).run P w = .ok () w by simp [eqGuard]]
    simp only [Result.andThen_ok, Lib.run_eql_slice_nil w t e A n c n' c' ht, Sem.run_pure]
  · obtain ⟨x', hx, e'⟩ := Option.map_eq_some_iff.1 ho
    cases e'
    obtain ⟨A, n, c, h2, h3⟩ := key hx hr
    refine ⟨!A.isNone, fun b hb => by rw [h3 b hb]; rfl, ?_⟩
    simp only [execOp, hop, h2, hy', Sem.run_bind]
    rw [show (eqGuard .neq t x0 y0 (.slice A n c) (.slice none n' c')).run P w = .ok () w by simp [eqGuard]]
    simp only [Result.andThen_ok, run_neq_slice_nil_any w t e A n c n' c' ht, Sem.run_pure]
theorem nop_x {o : Oper} {neg : Bool} {x : AX} (ho : nop P o = some (neg, x)) (h : doK P p (.n neg x) o.dst st K) : OpX P p o st K := by
  intro E a w KK Q ⟨φ, M, L, I⟩ hk
  unfold doK at h
  simp only at h
  have fin : ∀ (b : Bool), (execOp a.eval o).run P w = .ok (.value (.bool b)) w → dOk p o.dst st.n = true → K (st.setO o.dst (.sc (.bool b))) → o.wp P a w KK Q := fun b hb hd hK => by
    unfold Oper.wp
    rw [hb, Oper.upon_value]
    exact hk _ _ _ hK ⟨φ, M, L, I.setO o.dst (dOk_spec hd) _ _ (V.sc _ rfl)⟩ (Fr.put _ _ _ (dOk_low hd))
  split at h
  · rename_i c hc
    obtain ⟨b, hb, hr⟩ := nop_ok ho I hc
    obtain rfl := hb c rfl
    exact fin _ hr h.1 h.2
  · rename_i hc
    obtain ⟨b, hb, hr⟩ := nop_ok ho I hc
    cases b
    · exact fin _ hr h.1 h.2.2
    · exact fin _ hr h.1 h.2.1
  · exact h.elim
theorem doK_ok {ops : List Oper} {o : Oper} {a : AOp} (ha : aop P ops o = some a) (h : doK P p a.o a.d st K) : OpX P p o st K := by
  unfold aop at ha
  obtain ⟨g, hg, ha⟩ := Option.bind_eq_some_iff.1 ha
  split at ha
  · rename_i pr hn
    cases ha
    exact nop_x hn h
  split at ha
  · rename_i q hq
    cases ha
    simp only [doK] at h
    split at h
    · rename_i y hy
      exact (OpT.quiet hq hy (dOk_spec h.1)).x (dOk_low h.1) h.2
    · exact h.elim
  · split at ha
    · rename_i wo hw
      cases ha
      simp only [doK] at h
      split at h
      · rename_i y st1 hy
        exact (OpT.make hw hy (dOk_spec h.1)).x (dOk_low h.1) h.2
      · exact h.elim
    · obtain ⟨⟨fx, as⟩, hc, rfl⟩ := Option.map_eq_some_iff.1 ha
      have key : ∀ st', callI P p fx as o.dst st' K ∨ extK P p fx as o.dst st' K → OpX P p o st' K := fun st' h => by
        rcases h with ⟨f, caps, ms, fl, r, st1, yl, ys, ret, outs, ol, st2, st3, y, d, h1, h2, h3, ha, h4, h5, hb, h6, hc', h7, h8, h9, h10, hK⟩ | ⟨f, y, h1, h2, h3, hK⟩
        case inr => exact (OpT.ext hc h1 h2 (dOk_spec h3)).x (dOk_low h3) hK
        exact (OpT.call hc h1 h2 h3 ha h4 h5 hb h6 hc' h7 h8 h9 (dOk_spec h10)).x (dOk_low h10) hK
      rcases h with h | h | ⟨st', hle, h⟩
      · exact key st (.inl h)
      · exact key st (.inr h)
      · exact fun E a w KK Q hs hk => key st' h E a w KK Q (hle E _ _ hs) hk
theorem SR.size {E : Ent} {tm : Array Value} {w : World} (h : SR E st tm w) : tm.size = st.n := by
  obtain ⟨_, _, _, I⟩ := h; exact I.size
theorem V.undef (φ : Nat → Option Loc) (M : Nat → Prop) (w : World) : V φ M w (.tup []) undef [] := .imm _ _ (.tup [] [] rfl (by simp))
theorem SR.setU {E : Ent} {a : Act} {w : World} (h : SR E st a.tmps w) (d : Option Nat) (hd : ∀ k, d = some k → k < st.n) : SR E (st.setO d (.tup [])) (a.put d undef).tmps w := by
  obtain ⟨φ, M, L, I⟩ := h
  exact ⟨φ, M, L, I.setO d hd _ undef (V.undef φ M w)⟩
theorem wantA_ok {E : Ent} {a : Act} {w : World} (h : SR E st a.tmps w) {ops : List Oper} {o : Oper} {t : Nat} {want b : Bool} (hg : guardB ops o.guard = some (some (t, want))) (hb : wantA (st.ρ t) want = some b) :
    Region.wanted o (yielded ops.toArray a.tmps) = b := by
  obtain ⟨φ, M, L, I⟩ := h
  unfold guardB at hg
  split at hg
  · cases hg
  rename_i j want' hgu
  obtain ⟨t', ht, e⟩ := Option.map_eq_some_iff.1 hg
  simp only [Option.some.injEq, Prod.mk.injEq] at e
  obtain ⟨rfl, rfl⟩ := e
  have hv := I.env t'
  unfold Region.wanted
  rw [hgu]
  simp only
  have hy : yielded ops.toArray a.tmps j = match a.tmps[t']? with | some (.bool b) => some b | _ => none := by
    unfold yielded
    have : (ops.toArray[j]?).bind (·.dst) = some t' := by simpa using ht
    rw [this]
    rfl
  rw [hy]
  have hD : ∀ v, a.tmps.getD t' undef = v → (a.tmps[t']? = some v ∨ (a.tmps[t']? = none ∧ v = undef)) := fun v hv => by
    rw [Array.getD_eq_getD_getElem?] at hv
    cases h : a.tmps[t']? with
    | none => rw [h] at hv; exact .inr ⟨rfl, hv.symm⟩
    | some u => rw [h] at hv; exact .inl (by simpa using hv)
  unfold wantA at hb
  split at hb
  · rename_i c hc
    rw [hc] at hv
    cases hb
    rcases hD _ (vsc hv).1 with h | ⟨h, h'⟩
    · rw [h]; simp only; cases c <;> cases want' <;> rfl
    · cases h'
  · rename_i hc
    rw [hc] at hv
    cases hb
    obtain ⟨us, e, hl, _⟩ := vtup hv rfl
    rcases hD _ e with h | ⟨h, h'⟩
    · rw [h]; rfl
    · rw [h]; rfl
  · cases hb
theorem guard_none {ops : List Oper} {o : Oper} {a : AOp} (ha : aop P ops o = some a) : guardB ops o.guard = some a.g ∧ a.d = o.dst := by
  unfold aop at ha
  obtain ⟨g, hg, ha⟩ := Option.bind_eq_some_iff.1 ha
  rw [hg]
  split at ha
  · cases ha; exact ⟨rfl, rfl⟩
  split at ha
  · cases ha; exact ⟨rfl, rfl⟩
  · split at ha
    · cases ha; exact ⟨rfl, rfl⟩
    · obtain ⟨p, hp, rfl⟩ := Option.map_eq_some_iff.1 ha; exact ⟨rfl, rfl⟩
theorem opK_ok {ops : List Oper} {o : Oper} {a : AOp} (ha : aop P ops o = some a) (h : opK P p a st K) {E : Ent} {ac : Act} {w : World} (hs : SR E st ac.tmps w) {KK : Act → World → Prop} {Q : Exit → Act → World → Prop}
    (hk : ∀ st' a' w', K st' → SR E st' a'.tmps w' → Fr p ac a' → KK a' w') :
    if Region.wanted o (yielded ops.toArray ac.tmps) then o.wp P ac w KK Q else KK (ac.put o.dst undef) w := by
  obtain ⟨hg, hd⟩ := guard_none ha
  unfold opK at h
  split at h
  · rename_i hga
    rw [hga] at hg
    have : o.guard = none := by
      unfold guardB at hg
      split at hg
      · assumption
      · obtain ⟨_, _, e⟩ := Option.map_eq_some_iff.1 hg; cases e
    rw [if_pos (by simp [Region.wanted, this])]
    exact doK_ok ha h E ac w KK Q hs hk
  · rename_i t want hga
    rw [hga] at hg
    split at h
    · rename_i b hb
      rw [wantA_ok hs hg hb]
      cases b
      · rw [if_neg (by simp)]
        obtain ⟨h1, h2⟩ := h.2 rfl
        rw [hd] at h1 h2
        exact hk _ _ _ h2 (hs.setU o.dst (dOk_spec h1)) (Fr.put _ _ _ (dOk_low h1))
      · rw [if_pos rfl]
        exact doK_ok ha (h.1 rfl) E ac w KK Q hs hk
    · exact h.elim
def opsK (P : Program) (p : List Nat) : List AOp → St → (St → Prop) → Prop
  | [], st, K => K st
  | o :: l, st, K => opK P p o st fun s => opsK P p l s K
theorem opsK_ok {ops : List Oper} {E : Ent} {a0 : Act} {Q : Exit → Act → World → Prop} (hk : ∀ st' a' w', K st' → SR E st' a'.tmps w' → Fr p a0 a' → Q .normal a' w') :
    ∀ {l : List Oper} {al : List AOp}, l.mapM (aop P ops) = some al → ∀ {st : St} {ac : Act} {w : World}, opsK P p al st K → SR E st ac.tmps w → Fr p a0 ac → wpList P ops.toArray Q l ac w
  | [], al, hl, st, ac, w, h, hs, hdf => by
    simp at hl; subst hl
    exact hk st ac w h hs hdf
  | o :: l, al, hl, st, ac, w, h, hs, hdf => by
    simp only [List.mapM_cons, Option.bind_eq_bind, Option.bind_eq_some_iff, Option.pure_def, Option.some.injEq] at hl
    obtain ⟨a, ha, al', hal, rfl⟩ := hl
    have := opK_ok (KK := wpList P ops.toArray Q l) (Q := Q) ha h hs fun st' a' w' h1 h2 h3 => opsK_ok hk hal h1 h2 (hdf.trans h3)
    unfold wpList
    split
    · rename_i hw; rw [if_pos hw] at this; exact .inl this
    · rename_i hw; rw [if_neg hw] at this; exact this
def T (P : Program) (p : List Nat) (c : AC) (st : St) (Q : AE → St → Prop) : Prop :=
  ∀ code, comp P code = some c → ∀ (E : Ent) (a : Act) (w : World) (QQ : Exit → Act → World → Prop), SR E st a.tmps w →
    (∀ e st' a' w', Q e st' → SR E st' a'.tmps w' → Fr p a a' → QQ e.to a' w') → code.wp P QQ a w
def andThen (f : St → Prop) (Q : AE → St → Prop) : AE → St → Prop
  | .normal, s => f s
  | e, s => Q e s
variable {Q Q' : AE → St → Prop}
theorem T.ops {l : List AOp} (h : opsK P p l st (Q .normal)) : T P p (.ops l) st Q := by
  intro code hc E a w QQ hs hq
  cases code <;> simp only [comp, Option.map_eq_some_iff, Option.bind_eq_some_iff, Option.some.injEq, reduceCtorEq, and_false, exists_false] at hc
  rename_i id os dr
  split at hc
  · obtain ⟨_, _, e⟩ := Option.map_eq_some_iff.1 hc; cases e
  · rename_i hdr
    obtain rfl : dr = false := by simpa using hdr
    split at hc
    · cases hc
    obtain ⟨al, hal, e⟩ := Option.map_eq_some_iff.1 hc
    cases e
    exact wp_region_list (by simpa using opsK_ok (Q := QQ) (a0 := a) (fun st' a' w' h1 h2 h3 => hq .normal st' a' w' h1 h2 h3) hal h hs (Fr.refl p a))
theorem T.seq {x y : AC} (h : T P p x st (andThen (fun s => T P p y s Q) Q)) : T P p (.seq x y) st Q := by
  intro code hc E a w QQ hs hq
  cases code <;> simp only [comp, Option.map_eq_some_iff, Option.bind_eq_some_iff, Option.some.injEq, reduceCtorEq, and_false, exists_false] at hc
  · split at hc <;> (try split at hc) <;> simp at hc
  obtain ⟨x', hx, y', hy, e⟩ := hc
  cases e
  refine wp_seq (h _ hx E a w _ hs fun e st' a' w' h1 h2 h3 => ?_)
  cases e with
  | normal => exact h1 _ hy E a' w' QQ h2 fun e st2 a2 w2 k1 k2 k3 => hq e st2 a2 w2 k1 k2 (h3.trans k3)
  | exit id => exact hq (.exit id) st' a' w' h1 h2 h3
  | ret => exact hq .ret st' a' w' h1 h2 h3
theorem T.cond {c : AX} {x y : AC} {b : Bool} (hc : c.ev st.ρ = .sc (.bool b)) (ht : b = true → T P p x st Q) (hf : b = false → T P p y st Q) : T P p (.cond c x y) st Q := by
  intro code hcode E a w QQ hs hq
  cases code <;> simp only [comp, Option.map_eq_some_iff, Option.bind_eq_some_iff, Option.some.injEq, reduceCtorEq, and_false, exists_false] at hcode
  · split at hcode <;> (try split at hcode) <;> simp at hcode
  obtain ⟨c', hc', x', hx, y', hy, e⟩ := hcode
  cases e
  have hs' := hs
  obtain ⟨φ, M, L, I⟩ := hs'
  have := I.ev hc'
  rw [hc] at this
  refine wp_cond (vsc this).1 ?_
  cases b
  · exact hf rfl _ hy E a w QQ hs hq
  · exact ht rfl _ hx E a w QQ hs hq
def atBlock (id : Nat) (Q : AE → St → Prop) : AE → St → Prop
  | .exit i, s => if i = id then Q .normal s else Q (.exit i) s
  | e, s => Q e s
theorem T.block {id : Nat} {x : AC} (h : T P p x st (atBlock id Q)) : T P p (.block id x) st Q := by
  intro code hc E a w QQ hs hq
  cases code <;> simp only [comp, Option.map_eq_some_iff, Option.bind_eq_some_iff, Option.some.injEq, reduceCtorEq, and_false, exists_false] at hc
  · split at hc <;> (try split at hc) <;> simp at hc
  obtain ⟨x', hx, e⟩ := hc
  cases e
  refine wp_block (h _ hx E a w _ hs fun e st' a' w' h1 h2 h3 => ?_)
  cases e with
  | normal => exact hq .normal st' a' w' h1 h2 h3
  | ret => exact hq .ret st' a' w' h1 h2 h3
  | exit i =>
    simp only [atBlock] at h1
    simp only [AE.to, Exit.inBlock]
    split
    · rename_i hi; rw [if_pos hi] at h1; exact hq .normal st' a' w' h1 h2 h3
    · rename_i hi; rw [if_neg hi] at h1; exact hq (.exit i) st' a' w' h1 h2 h3
theorem T.skip (h : Q .normal st) : T P p .skip st Q := by
  intro code hc E a w QQ hs hq
  cases code <;> simp only [comp, Option.map_eq_some_iff, Option.bind_eq_some_iff, Option.some.injEq, reduceCtorEq, and_false, exists_false] at hc
  · exact wp_skip (hq .normal st a w h hs (Fr.refl p a))
  · split at hc <;> (try split at hc) <;> simp at hc
theorem T.ret (h : Q .ret st) : T P p .ret st Q := by
  intro code hc E a w QQ hs hq
  cases code <;> simp only [comp, Option.map_eq_some_iff, Option.bind_eq_some_iff, Option.some.injEq, reduceCtorEq, and_false, exists_false] at hc
  · split at hc <;> (try split at hc) <;> simp at hc
  · exact wp_ret (hq .ret st a w h hs (Fr.refl p a))
theorem T.exit {id : Nat} (h : Q (.exit id) st) : T P p (.exit id) st Q := by
  intro code hc E a w QQ hs hq
  cases code <;> simp only [comp, Option.map_eq_some_iff, Option.bind_eq_some_iff, Option.some.injEq, reduceCtorEq, and_false, exists_false] at hc
  · split at hc <;> (try split at hc) <;> simp at hc
  · cases hc; exact wp_exit (hq (.exit id) st a w h hs (Fr.refl p a))
theorem T.mono {c : AC} (h : T P p c st Q) (hq : ∀ e s, Q e s → Q' e s) : T P p c st Q' :=
  fun code hc E a w QQ hs hk => h code hc E a w QQ hs fun e st' a' w' h1 h2 h3 => hk e st' a' w' (hq e st' h1) h2 h3
theorem least {I : Nat → Prop} (h : ∃ n, I n) : ∃ n, I n ∧ ∀ m, I m → n ≤ m := by
  obtain ⟨n, hn⟩ := h
  induction n using Nat.strongRecOn with
  | _ n ih =>
    by_cases hlt : ∃ m, m < n ∧ I m
    · obtain ⟨m, hm, hI⟩ := hlt
      exact ih m hm hI
    · exact ⟨n, hn, fun m hm => Nat.le_of_not_lt fun h => hlt ⟨m, h, hm⟩⟩
theorem wp_rounds {c : Code} {Q : Exit → Act → World → Prop} (I : Nat → Act → World → Prop)
    (round : ∀ n a w, I n a w → c.wp P (Exit.then (fun a' w' => ∃ m, m < n ∧ I m a' w') Q) a w) : ∀ n a w, I n a w → (Code.loop c).wp P Q a w := by
  intro n a w h0
  refine wp_loop (fun a w => ∃ n, I n a w) (fun a w => @dite Nat (∃ n, I n a w) (Classical.propDecidable _) (fun h => Classical.choose (least h)) fun _ => 0) ⟨n, h0⟩ ?_
  rintro a w hI
  have hs := Classical.choose_spec (least hI)
  refine Code.wp_mono (fun e a' w' he => ?_) (round _ a w hs.1)
  cases e with
  | normal =>
    obtain ⟨m, hm, hI'⟩ := he
    refine ⟨⟨m, hI'⟩, ?_⟩
    rw [dif_pos hI, dif_pos ⟨m, hI'⟩]
    have := (Classical.choose_spec (least (I := fun n => I n a' w') ⟨m, hI'⟩)).2 m hI'
    omega
  | exit => exact he
  | goto => exact he
  | ret => exact he
  | panic => exact he
  | outgrown => exact he
theorem T.loop {x : AC} (I : Nat → St → Prop) (n : Nat) (h0 : I n st) (round : ∀ n s, I n s → T P p x s (andThen (fun s' => ∃ m, m < n ∧ I m s') Q)) : T P p (.loop x) st Q := by
  intro code hc E a w QQ hs hq
  cases code <;> simp only [comp, Option.map_eq_some_iff, Option.bind_eq_some_iff, Option.some.injEq, reduceCtorEq, and_false, exists_false] at hc
  · split at hc <;> (try split at hc) <;> simp at hc
  obtain ⟨x', hx, e⟩ := hc
  cases e
  refine wp_rounds (fun n a' w' => ∃ s, I n s ∧ SR E s a'.tmps w' ∧ Fr p a a') ?_ n a w ⟨st, h0, hs, Fr.refl p a⟩
  rintro n a' w' ⟨s, h1, h2, h3⟩
  refine round n s h1 _ hx E a' w' _ h2 fun e st' a2 w2 k1 k2 k3 => ?_
  cases e with
  | normal =>
    obtain ⟨m, hm, hI⟩ := k1
    exact ⟨m, hm, st', hI, k2, h3.trans k3⟩
  | exit id => exact hq (.exit id) st' a2 w2 k1 k2 (h3.trans k3)
  | ret => exact hq .ret st' a2 w2 k1 k2 (h3.trans k3)
def Le (st st' : St) : Prop := ∀ E tm w, SR E st tm w → SR E st' tm w
theorem T.le {c : AC} {st' : St} (hl : Le st st') (h : T P p c st' Q) : T P p c st Q :=
  fun code hc E a w QQ hs hk => h code hc E a w QQ (hl _ _ _ hs) hk
end
end Go.Proofs.YtiejaibmcmicoaaGreatDoor.Am
