/- The words by which a run of the small machine is reckoned; no condition. -/
import Derived.Test.YtiejaibmcmicoaaGreatDoorAmS
namespace Go.Proofs.YtiejaibmcmicoaaGreatDoor.Am
open Go
theorem upd_app {α : Type} (f : Nat → α) (k : Nat) (x : α) (i : Nat) : upd f k x i = if i = k then x else f i := (rfl)
theorem ev_t (ρ : Nat → AV) (n : Nat) : (AX.t n).ev ρ = ρ n := (rfl)
theorem ev_c (ρ : Nat → AV) (x : AV) : (AX.c x).ev ρ = x := (rfl)
theorem setO_some (ρ : Nat → AV) (h : Nat → Option (Option (List AV))) (n d : Nat) (x : AV) : (St.mk ρ h n).setO (some d) x = ⟨upd ρ d x, h, n⟩ := (rfl)
theorem setO_none (st : St) (x : AV) : st.setO none x = st := (rfl)
theorem put_mk (ρ : Nat → AV) (h : Nat → Option (Option (List AV))) (n b : Nat) (x : Option (List AV)) : (St.mk ρ h n).put b x = ⟨ρ, upd h b (some x), n⟩ := (rfl)
inductive KI where
  | after (y : AC)
  | blk (id : Nat)
section
variable (P : Program) (p : List Nat)
def pop : List KI → (AE → St → Prop) → AE → St → Prop
  | [], Q => Q
  | .after y :: k, Q => andThen (fun s => T P p y s (pop k Q)) (pop k Q)
  | .blk id :: k, Q => atBlock id (pop k Q)
mutual
def run : Nat → AC → List KI → (AE → St → Prop) → St → Prop
  | 0, _, _, _, _ => False
  | n + 1, .ops [], k, Q, st => run n .skip k Q st
  | n + 1, .ops (o :: l), k, Q, st => match o.g with
    | none => exec n o.o o.d l k Q st
    | some (t, want) => match wantA (st.ρ t) want with
      | some b => if b then exec n o.o o.d l k Q st else if dOk p o.d st.n then run n (.ops l) k Q (st.setO o.d (.tup [])) else False
      | none => False
  | n + 1, .seq x y, k, Q, st => run n x (.after y :: k) Q st
  | n + 1, .cond c x y, k, Q, st => match c.ev st.ρ with
    | .sc (.bool b) => if b then run n x k Q st else run n y k Q st
    | _ => False
  | n + 1, .block id x, k, Q, st => run n x (.blk id :: k) Q st
  | _ + 1, .ret, _, Q, st => Q .ret st
  | _ + 1, .skip, [], Q, st => Q .normal st
  | n + 1, .skip, .after y :: k, Q, st => run n y k Q st
  | n + 1, .skip, .blk _ :: k, Q, st => run n .skip k Q st
  | _ + 1, .exit id, [], Q, st => Q (.exit id) st
  | n + 1, .exit id, .after _ :: k, Q, st => run n (.exit id) k Q st
  | n + 1, .exit id, .blk i :: k, Q, st => if id = i then run n .skip k Q st else run n (.exit id) k Q st
  | _ + 1, .loop x, k, Q, st => T P p (.loop x) st (pop P p k Q)
  | _ + 1, .any l, k, Q, st => T P p (.any l) st (pop P p k Q)
  | _ + 1, .dead, _, _, _ => False
def exec : Nat → AO → Option Nat → List AOp → List KI → (AE → St → Prop) → St → Prop
  | 0, _, _, _, _, _, _ => False
  | n + 1, .q q, d, l, k, Q, st => match aval q st.ρ st.h with
    | some y => if dOk p d st.n then run n (.ops l) k Q (st.setO d y) else False
    | none => False
  | n + 1, .w w, d, l, k, Q, st => match weff w (d.getD 0) st with
    | some (y, st1) => if dOk p d st1.n then run n (.ops l) k Q (st1.setO d y) else False
    | none => False
  | n + 1, .c f xs, d, l, k, Q, st => callK P p f xs d st (run n (.ops l) k Q)
  | n + 1, .n neg x, d, l, k, Q, st => match nilA (x.ev st.ρ) with
    | some (some b) => if dOk p d st.n then run n (.ops l) k Q (st.setO d (.sc (.bool (if neg then !b else b)))) else False
    | some none => if dOk p d st.n then run n (.ops l) k Q (st.setO d (.sc (.bool true))) ∧ run n (.ops l) k Q (st.setO d (.sc (.bool false))) else False
    | none => False
end
end
section
variable {P : Program} {p : List Nat}
theorem callK.mono {fx : AX} {xs : List AX} {d : Option Nat} {st : St} {K K' : St → Prop} (h : callK P p fx xs d st K) (hk : ∀ s, K s → K' s) : callK P p fx xs d st K' := by
  have key : ∀ st', callI P p fx xs d st' K ∨ extK P p fx xs d st' K → callI P p fx xs d st' K' ∨ extK P p fx xs d st' K' := fun st' h => by
    rcases h with ⟨f, caps, ms, fl, r, st1, yl, ys, ret, outs, ol, st2, st3, y, d, h1, h2, h3, ha, h4, h5, hb, h6, hc, h7, h8, h9, h10, hK⟩ | ⟨f, y, h1, h2, h3, hK⟩
    · exact .inl ⟨f, caps, ms, fl, r, st1, yl, ys, ret, outs, ol, st2, st3, y, d, h1, h2, h3, ha, h4, h5, hb, h6, hc, h7, h8, h9, h10, hk _ hK⟩
    · exact .inr ⟨f, y, h1, h2, h3, hk _ hK⟩
  rcases h with h | h | ⟨st', hle, h⟩
  · exact (key st (.inl h)).imp id .inl
  · exact (key st (.inr h)).imp id .inl
  · exact .inr (.inr ⟨st', hle, key st' h⟩)
theorem pop_ret {st : St} : ∀ {k : List KI} {Q : AE → St → Prop}, Q .ret st → pop P p k Q .ret st
  | [], _, h => h
  | .after _ :: k, _, h => pop_ret (k := k) h
  | .blk _ :: k, _, h => pop_ret (k := k) h
def Says (P : Program) (p : List Nat) (c : AC) (k : List KI) (st : St) (Q : AE → St → Prop) : Prop :=
  match c with
  | .ops l => opsK P p l st (pop P p k Q .normal)
  | .skip => pop P p k Q .normal st
  | .exit id => pop P p k Q (.exit id) st
  | c => T P p c st (pop P p k Q)
theorem Says.t {c : AC} {k : List KI} {st : St} {Q : AE → St → Prop} (h : Says P p c k st Q) : T P p c st (pop P p k Q) := by
  unfold Says at h
  split at h
  · exact T.ops h
  · exact T.skip h
  · exact T.exit h
  · exact h
mutual
theorem run_says : ∀ (n : Nat) (c : AC) (k : List KI) (st : St) (Q : AE → St → Prop), run P p n c k Q st → Says P p c k st Q
  | 0, c, k, st, Q, h => by unfold run at h; exact h.elim
  | n + 1, .ops [], k, st, Q, h => by
    unfold run at h
    exact run_says n .skip k st Q h
  | n + 1, .ops (o :: l), k, st, Q, h => by
    unfold run at h
    show opK P p o st _
    unfold opK
    split at h
    · rename_i hg
      rw [hg]
      exact exec_says n o.o o.d l k st Q h
    · rename_i t want hg
      rw [hg]
      simp only
      split at h
      · rename_i b hb
        rw [hb]
        cases b
        · rw [if_neg (by simp)] at h
          split at h
          · rename_i hd
            exact And.intro (fun e => absurd e (by decide)) (fun _ => And.intro hd (run_says n (.ops l) k _ Q h))
          · exact h.elim
        · rw [if_pos rfl] at h
          exact And.intro (fun _ => exec_says n o.o o.d l k st Q h) (fun e => absurd e (by decide))
      · exact h.elim
  | n + 1, .seq x y, k, st, Q, h => by
    unfold run at h
    exact T.seq (run_says n x (.after y :: k) st Q h).t
  | n + 1, .cond c x y, k, st, Q, h => by
    unfold run at h
    split at h
    · rename_i b hb
      refine T.cond hb (fun e => ?_) (fun e => ?_)
      · rw [if_pos e] at h; exact (run_says n x k st Q h).t
      · rw [if_neg (by simp [e])] at h; exact (run_says n y k st Q h).t
    · exact h.elim
  | n + 1, .block id x, k, st, Q, h => by
    unfold run at h
    exact T.block (run_says n x (.blk id :: k) st Q h).t
  | n + 1, .ret, k, st, Q, h => by
    unfold run at h
    exact T.ret (pop_ret h)
  | n + 1, .skip, [], st, Q, h => by unfold run at h; exact h
  | n + 1, .skip, .after y :: k, st, Q, h => by
    unfold run at h
    exact (run_says n y k st Q h).t
  | n + 1, .skip, .blk i :: k, st, Q, h => by
    unfold run at h
    exact run_says n .skip k st Q h
  | n + 1, .exit id, [], st, Q, h => by unfold run at h; exact h
  | n + 1, .exit id, .after y :: k, st, Q, h => by
    unfold run at h
    exact run_says n (.exit id) k st Q h
  | n + 1, .exit id, .blk i :: k, st, Q, h => by
    unfold run at h
    show (if id = i then pop P p k Q .normal st else pop P p k Q (.exit id) st)
    split at h
    · rename_i e; rw [if_pos e]; exact run_says n .skip k st Q h
    · rename_i e; rw [if_neg e]; exact run_says n (.exit id) k st Q h
  | n + 1, .loop x, k, st, Q, h => by unfold run at h; exact h
  | n + 1, .any l, k, st, Q, h => by unfold run at h; exact h
  | n + 1, .dead, k, st, Q, h => by unfold run at h; exact h.elim
theorem exec_says : ∀ (n : Nat) (o : AO) (d : Option Nat) (l : List AOp) (k : List KI) (st : St) (Q : AE → St → Prop), exec P p n o d l k Q st → doK P p o d st fun s => opsK P p l s (pop P p k Q .normal)
  | 0, o, d, l, k, st, Q, h => by unfold exec at h; exact h.elim
  | n + 1, .q q, d, l, k, st, Q, h => by
    unfold exec at h
    unfold doK
    simp only
    split at h
    · rename_i y hy
      rw [hy]
      split at h
      · rename_i hd
        exact ⟨hd, run_says n (.ops l) k _ Q h⟩
      · exact h.elim
    · exact h.elim
  | n + 1, .w w, d, l, k, st, Q, h => by
    unfold exec at h
    unfold doK
    simp only
    split at h
    · rename_i y st1 hy
      rw [hy]
      split at h
      · rename_i hd
        exact ⟨hd, run_says n (.ops l) k _ Q h⟩
      · exact h.elim
    · exact h.elim
  | n + 1, .c f xs, d, l, k, st, Q, h => by
    unfold exec at h
    exact callK.mono h fun s hs => run_says n (.ops l) k s Q hs
  | n + 1, .n neg x, d, l, k, st, Q, h => by
    unfold exec at h
    unfold doK
    simp only
    split at h
    · rename_i b hb
      rw [hb]
      split at h
      · rename_i hd
        exact ⟨hd, run_says n (.ops l) k _ Q h⟩
      · exact h.elim
    · rename_i hb
      rw [hb]
      split at h
      · rename_i hd
        exact ⟨hd, run_says n (.ops l) k _ Q h.1, run_says n (.ops l) k _ Q h.2⟩
      · exact h.elim
    · exact h.elim
end
theorem run_ok {n : Nat} {c : AC} {st : St} {Q : AE → St → Prop} (h : run P p n c [] Q st) : T P p c st Q := (run_says n c [] st Q h).t
theorem run_at {n : Nat} {c : AC} {k : List KI} {st : St} {Q : AE → St → Prop} (h : run P p n c k Q st) : T P p c st (pop P p k Q) := (run_says n c k st Q h).t
theorem pop_nil {Q : AE → St → Prop} {e : AE} {s : St} : pop P p [] Q e s = Q e s := (rfl)
theorem pop_after {y : AC} {k : List KI} {Q : AE → St → Prop} {s : St} : pop P p (.after y :: k) Q .normal s = T P p y s (pop P p k Q) := (rfl)
theorem pop_after_ret {y : AC} {k : List KI} {Q : AE → St → Prop} {s : St} : pop P p (.after y :: k) Q .ret s = pop P p k Q .ret s := (rfl)
theorem pop_after_exit {y : AC} {k : List KI} {Q : AE → St → Prop} {i : Nat} {s : St} : pop P p (.after y :: k) Q (.exit i) s = pop P p k Q (.exit i) s := (rfl)
theorem pop_blk {id : Nat} {k : List KI} {Q : AE → St → Prop} {s : St} : pop P p (.blk id :: k) Q .normal s = pop P p k Q .normal s := (rfl)
theorem pop_blk_ret {id : Nat} {k : List KI} {Q : AE → St → Prop} {s : St} : pop P p (.blk id :: k) Q .ret s = pop P p k Q .ret s := (rfl)
theorem pop_blk_exit {id i : Nat} {k : List KI} {Q : AE → St → Prop} {s : St} : pop P p (.blk id :: k) Q (.exit i) s = if i = id then pop P p k Q .normal s else pop P p k Q (.exit i) s := (rfl)
theorem andThen_normal (f : St → Prop) (Q : AE → St → Prop) (s : St) : andThen f Q .normal s = f s := (rfl)
theorem andThen_ret (f : St → Prop) (Q : AE → St → Prop) (s : St) : andThen f Q .ret s = Q .ret s := (rfl)
theorem andThen_exit (f : St → Prop) (Q : AE → St → Prop) (i : Nat) (s : St) : andThen f Q (.exit i) s = Q (.exit i) s := (rfl)
theorem T_congr {c : AC} {st st' : St} {Q : AE → St → Prop} (h : st = st') : T P p c st Q = T P p c st' Q := by rw [h]
theorem callK_congr {fx : AX} {xs : List AX} {d : Option Nat} {st st' : St} {K : St → Prop} (h : st = st') : callK P p fx xs d st K = callK P p fx xs d st' K := by rw [h]
end
def ρ0 : Nat → AV := fun _ => .tup []
def h0 : Nat → Option (Option (List AV)) := fun _ => none
theorem ρ0_app (i : Nat) : ρ0 i = .tup [] := (rfl)
theorem h0_app (i : Nat) : h0 i = none := (rfl)
def iniρ : List AV → Nat → Nat → AV
  | [], _ => ρ0
  | y :: l, j => upd (iniρ l (j + 1)) j y
theorem iniρ_get : ∀ (l : List AV) (j i : Nat), iniρ l j (j + i) = l.getD i (.tup [])
  | [], j, i => by simp [iniρ, ρ0]
  | y :: l, j, i => by
    cases i with
    | zero => simp [iniρ, upd_app]
    | succ i =>
      simp only [iniρ, upd_app]
      rw [if_neg (by omega), show j + (i + 1) = j + 1 + i by omega, iniρ_get l (j + 1) i]
      simp
def resL : List QOp → St → Option (List AV)
  | [], _ => some []
  | q :: l, st => match aval q st.ρ st.h with
    | some x => match resL l st with
      | some xs => some (x :: xs)
      | none => none
    | none => none
def one : List AV → AV
  | [x] => x
  | l => .tup l
def fin (args : List AV) (ret : AV) (outs : List AV) (rs : List QOp) (st : St) : Prop :=
  match resL rs st with
  | some xs => match clo1 64 (one xs) st with
    | some (y, st1) => (y = ret ∨ coe y ret) ∧ outL args st.ρ 0 st1 = some outs
    | none => False
  | none => False
theorem resL_eq (rs : List QOp) (st : St) : (rs.mapM fun q => aval q st.ρ st.h) = resL rs st := by
  induction rs with
  | nil => rfl
  | cons q l ih =>
    simp only [List.mapM_cons, ih, resL]
    cases aval q st.ρ st.h <;> cases resL l st <;> rfl
theorem fin_ok {args : List AV} {ret : AV} {outs : List AV} {rs : List QOp} {st : St} (h : fin args ret outs rs st) : ∃ x st1 y, resA rs st = some x ∧ clo1 64 x st = some (y, st1) ∧ (y = ret ∨ coe y ret) ∧ outL args st.ρ 0 st1 = some outs := by
  unfold fin at h
  split at h
  · rename_i xs hxs
    split at h
    · rename_i y st1 hc
      obtain ⟨hcoe, ho⟩ := h
      refine ⟨one xs, st1, y, ?_, hc, hcoe, ho⟩
      unfold resA
      rw [resL_eq, hxs]
      simp only [Option.map_some, one]
      congr 1
    · exact h.elim
  · exact h.elim
def endR (args : List AV) (ret : AV) (outs : List AV) (rs : List QOp) : AE → St → Prop
  | .exit _, _ => False
  | .normal, st => fin args ret outs rs st
  | .ret, st => fin args ret outs rs st
theorem endR_ok {args : List AV} {ret : AV} {outs : List AV} {rs : List QOp} (e : AE) (st : St) (h : endR args ret outs rs e st) : endQ args ret outs rs e st := by
  cases e
  · exact fin_ok h
  · exact h.elim
  · exact fin_ok h
theorem T.on {P : Program} {p : List Nat} {c : AC} {k : List KI} {s : St} {Q : AE → St → Prop} (n : Nat) (h : Am.run P p n c k Q s) : T P p c s (pop P p k Q) := run_at h
theorem wrap_i64 {x : Int} (h1 : -9223372036854775808 ≤ x) (h2 : x ≤ 9223372036854775807) : IntKind.i64.wrap x = x := by
  simp [IntKind.wrap, IntKind.bits, IntKind.signed]
  split <;> omega
theorem Ret.run {P : Program} {f : FuncId} {fn : Func} {c : AC} {n : Nat} {args ys : List AV} {ρ1 ρ2 : Nat → AV} {h1 : Nat → Option (Option (List AV))} {rs : List QOp} {ret : AV} {outs : List AV} {m : Nat} (hf : P.funcs[f]? = some fn) (hc : fn.body.bind (comp P) = some c ∧ fn.ntmps = n ∧ fn.results.toList.mapM (resB P) = some rs)
    (hl : args.length ≤ n) (hent : entL 100000 args ⟨fun _ => .un, h0, n⟩ = some (ys, ⟨ρ1, h1, m⟩)) (hρ : iniρ ys 0 = ρ2) (fuel : Nat)
    (h : Am.run P (pinsOf args 0) fuel c [] (endR args ret outs rs) ⟨ρ2, h1, n⟩) : Ret P f args ret outs := by
  refine Ret.by hf hc hl hent rfl ?_
  have : (fun t => ys.getD t (.tup [])) = ρ2 := by
    funext t
    rw [← hρ]
    have := iniρ_get ys 0 t
    rw [Nat.zero_add] at this
    exact this.symm
  rw [this]
  exact T.mono (run_ok h) endR_ok
def callSK (P : Program) (fx : AX) (xs : List AX) (d : Nat) (st : St) (K : St → Prop) : Prop := ∃ y, callV P st.h fx xs st.ρ y ∧ K (st.setO (some d) y)
theorem callSK.by {P : Program} {fx : AX} {xs : List AX} {d : Nat} {st : St} {K : St → Prop} {f : FuncId} {caps ys : List AV} {v : Value} (hf : fx.ev st.ρ = .clo f caps) (hc : callB P f = true) (hys : (xs.map (·.ev st.ρ) ++ caps).mapM (roc st.h 8) = some ys)
    (hR : Ret P f ys (.sc v) (ys.map fun _ => .un)) (hK : K (st.setO (some d) (.sc v))) : callSK P fx xs d st K := ⟨_, ⟨f, caps, ys, v, hf, hc, hys, hR, rfl⟩, hK⟩
mutual
def runS (P : Program) (p : List Nat) : Nat → List AOp → List KI → (AE → St → Prop) → St → Prop
  | 0, _, _, _, _ => False
  | n + 1, [], k, Q, st => run P p n .skip k Q st
  | n + 1, o :: l, k, Q, st => match o.d with
    | none => False
    | some d => match o.g with
      | none => execS P p n o.o d l k Q st
      | some (t, want) => match wantA (st.ρ t) want with
        | some b => if b then execS P p n o.o d l k Q st else runS P p n l k Q (st.setO (some d) (.tup []))
        | none => False
def execS (P : Program) (p : List Nat) : Nat → AO → Nat → List AOp → List KI → (AE → St → Prop) → St → Prop
  | 0, _, _, _, _, _, _ => False
  | n + 1, .q q, d, l, k, Q, st => match aval q st.ρ st.h with
    | some y => runS P p n l k Q (st.setO (some d) y)
    | none => False
  | n + 1, .c f xs, d, l, k, Q, st => callSK P f xs d st (runS P p n l k Q)
  | _ + 1, .w _, _, _, _, _, _ => False
  | _ + 1, .n .., _, _, _, _, _ => False
end
def rest (P : Program) (p : List Nat) (n : Nat) (l : List AOp) (k : List KI) (Q : AE → St → Prop) : St → Prop := run P p n (.ops l) k Q
def restS (P : Program) (p : List Nat) (n : Nat) (l : List AOp) (k : List KI) (Q : AE → St → Prop) : St → Prop := runS P p n l k Q
section
variable {P : Program} {p : List Nat} {n : Nat} {d : Option Nat} {e : Nat} {l : List AOp} {k : List KI} {Q : AE → St → Prop} {st : St} {f : AX} {xs : List AX}
theorem rest_app : rest P p n l k Q st = run P p n (.ops l) k Q st := (rfl)
theorem restS_app : restS P p n l k Q st = runS P p n l k Q st := (rfl)
theorem run_nil : run P p (n + 1) (.ops []) k Q st = run P p n .skip k Q st := by rw [run]
theorem run_op0 {d : Option Nat} {o : AO} : run P p (n + 1) (.ops (⟨d, none, o⟩ :: l)) k Q st = exec P p n o d l k Q st := by rw [run]
theorem run_opg {d : Option Nat} {t : Nat} {want : Bool} {o : AO} : run P p (n + 1) (.ops (⟨d, some (t, want), o⟩ :: l)) k Q st = match wantA (st.ρ t) want with
      | some b => if b then exec P p n o d l k Q st else if dOk p d st.n then run P p n (.ops l) k Q (st.setO d (.tup [])) else False
      | none => False := by rw [run]
theorem run_seq {x y : AC} : run P p (n + 1) (.seq x y) k Q st = run P p n x (.after y :: k) Q st := by rw [run]
theorem run_cond {c : AX} {x y : AC} : run P p (n + 1) (.cond c x y) k Q st = match c.ev st.ρ with
    | .sc (.bool b) => if b then run P p n x k Q st else run P p n y k Q st
    | _ => False := by rw [run]
theorem run_block {id : Nat} {x : AC} : run P p (n + 1) (.block id x) k Q st = run P p n x (.blk id :: k) Q st := by rw [run]
theorem run_ret : run P p (n + 1) .ret k Q st = Q .ret st := by rw [run]
theorem run_skip : run P p (n + 1) .skip [] Q st = Q .normal st := by rw [run]
theorem run_skip_after {y : AC} : run P p (n + 1) .skip (.after y :: k) Q st = run P p n y k Q st := by rw [run]
theorem run_skip_blk {i : Nat} : run P p (n + 1) .skip (.blk i :: k) Q st = run P p n .skip k Q st := by rw [run]
theorem run_exit {i : Nat} : run P p (n + 1) (.exit i) [] Q st = Q (.exit i) st := by rw [run]
theorem run_exit_after {i : Nat} {y : AC} : run P p (n + 1) (.exit i) (.after y :: k) Q st = run P p n (.exit i) k Q st := by rw [run]
theorem run_exit_blk {i j : Nat} : run P p (n + 1) (.exit i) (.blk j :: k) Q st = if i = j then run P p n .skip k Q st else run P p n (.exit i) k Q st := by rw [run]
theorem run_loop {x : AC} : run P p (n + 1) (.loop x) k Q st = T P p (.loop x) st (pop P p k Q) := by rw [run]
theorem run_any {l : List (AOp × List Nat)} : run P p (n + 1) (.any l) k Q st = T P p (.any l) st (pop P p k Q) := by rw [run]
theorem runS_nil : runS P p (n + 1) [] k Q st = run P p n .skip k Q st := by rw [runS]
theorem runS_op0 {e : Nat} {o : AO} : runS P p (n + 1) (⟨some e, none, o⟩ :: l) k Q st = execS P p n o e l k Q st := by rw [runS]
theorem runS_opg {e : Nat} {t : Nat} {want : Bool} {o : AO} : runS P p (n + 1) (⟨some e, some (t, want), o⟩ :: l) k Q st = match wantA (st.ρ t) want with
      | some b => if b then execS P p n o e l k Q st else runS P p n l k Q (st.setO (some e) (.tup []))
      | none => False := by rw [runS]
theorem exec_q {q : QOp} : exec P p (n + 1) (.q q) d l k Q st = match aval q st.ρ st.h with
    | some y => if dOk p d st.n then run P p n (.ops l) k Q (st.setO d y) else False
    | none => False := by rw [exec]
theorem exec_w {w : WOp} : exec P p (n + 1) (.w w) d l k Q st = match weff w (d.getD 0) st with
    | some (y, st1) => if dOk p d st1.n then run P p n (.ops l) k Q (st1.setO d y) else False
    | none => False := by rw [exec]
theorem exec_c : exec P p (n + 1) (.c f xs) d l k Q st = callK P p f xs d st (rest P p n l k Q) := by rw [exec]; rfl
theorem exec_n {neg : Bool} {x : AX} : exec P p (n + 1) (.n neg x) d l k Q st = match nilA (x.ev st.ρ) with
    | some (some b) => if dOk p d st.n then run P p n (.ops l) k Q (st.setO d (.sc (.bool (if neg then !b else b)))) else False
    | some none => if dOk p d st.n then run P p n (.ops l) k Q (st.setO d (.sc (.bool true))) ∧ run P p n (.ops l) k Q (st.setO d (.sc (.bool false))) else False
    | none => False := by rw [exec]
theorem execS_q {q : QOp} : execS P p (n + 1) (.q q) e l k Q st = match aval q st.ρ st.h with
    | some y => runS P p n l k Q (st.setO (some e) y)
    | none => False := by rw [execS]
theorem execS_c : execS P p (n + 1) (.c f xs) e l k Q st = callSK P f xs e st (restS P p n l k Q) := by rw [execS]; rfl
end
section
variable {P : Program} {p : List Nat}
mutual
theorem runS_text : ∀ (n : Nat) (l : List AOp) (k : List KI) (Q : AE → St → Prop) (st : St), runS P p n l k Q st → textK P st.h l st.ρ (fun ρ => pop P p k Q .normal ⟨ρ, st.h, st.n⟩)
  | 0, l, k, Q, st, h => by unfold runS at h; exact h.elim
  | n + 1, [], k, Q, st, h => by
    unfold runS at h
    exact run_says n .skip k st Q h
  | n + 1, o :: l, k, Q, st, h => by
    unfold runS at h
    split at h
    · exact h.elim
    rename_i d hd
    split at h
    · rename_i hg
      obtain ⟨y, hy, hk⟩ := execS_text n o.o d l k Q st h
      exact ⟨d, y, hd, by unfold valG; rw [hg]; exact hy, hk⟩
    · rename_i t want hg
      split at h
      · rename_i b hb
        cases b
        · rw [if_neg (by simp)] at h
          exact ⟨d, .tup [], hd, by unfold valG; rw [hg]; simp only; rw [hb]; simp, runS_text n l k Q _ h⟩
        · rw [if_pos rfl] at h
          obtain ⟨y, hy, hk⟩ := execS_text n o.o d l k Q st h
          exact ⟨d, y, hd, by unfold valG; rw [hg]; simp only; rw [hb]; exact hy, hk⟩
      · exact h.elim
theorem execS_text : ∀ (n : Nat) (o : AO) (d : Nat) (l : List AOp) (k : List KI) (Q : AE → St → Prop) (st : St), execS P p n o d l k Q st → ∃ y, valS P st.h o st.ρ y ∧ textK P st.h l (upd st.ρ d y) (fun ρ => pop P p k Q .normal ⟨ρ, st.h, st.n⟩)
  | 0, o, d, l, k, Q, st, h => by unfold execS at h; exact h.elim
  | n + 1, .q q, d, l, k, Q, st, h => by
    unfold execS at h
    split at h
    · rename_i y hy
      exact ⟨y, hy, runS_text n l k Q (st.setO (some d) y) h⟩
    · exact h.elim
  | n + 1, .c f xs, d, l, k, Q, st, h => by
    unfold execS at h
    obtain ⟨y, hy, hk⟩ := h
    exact ⟨y, hy, runS_text n l k Q (st.setO (some d) y) hk⟩
  | n + 1, .w wo, d, l, k, Q, st, h => by unfold execS at h; exact h.elim
  | n + 1, .n neg x, d, l, k, Q, st, h => by unfold execS at h; exact h.elim
end
theorem T.text {l : List (AOp × List Nat)} {k : List KI} {st : St} {Q : AE → St → Prop} (n : Nat) (hm : P.follows .mixedOrders = true) (hs : stillB l = true) (hd : (l.all fun x => dOk p x.1.d st.n) = true) (h : runS P p n (l.map (·.1)) k Q st) : T P p (.any l) st (pop P p k Q) :=
  T.still hm hs hd (runS_text n _ k Q st h)
end
end Go.Proofs.YtiejaibmcmicoaaGreatDoor.Am
