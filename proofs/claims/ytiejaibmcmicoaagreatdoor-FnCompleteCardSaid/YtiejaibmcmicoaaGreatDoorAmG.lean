/- Shorter words for walks: the code is reckoned, not typed; lists in loops; calls that only read; no condition. -/
import Derived.Test.YtiejaibmcmicoaaGreatDoorAmV
import Derived.Test.YtiejaibmcmicoaaGreatDoorAmZ
import Derived.Test.YtiejaibmcmicoaaGreatDoorAmP
import Derived.Lib.Strings
import Derived.KernelRfl
namespace Go.Proofs.YtiejaibmcmicoaaGreatDoor.Am
open Go
set_option linter.unusedVariables false
def bs (l : List UInt8) : ByteArray := ⟨l.toArray⟩
theorem bs_size (l : List UInt8) : (bs l).size = l.length := rfl
theorem bs_list (l : List UInt8) : (bs l).data.toList = l := rfl
theorem bs_toList (l : List UInt8) : (bs l).toList = l := by rw [Lib.toList_data]; rfl
theorem bs_eta (s : ByteArray) : bs s.data.toList = s := rfl
theorem bs_get (l : List UInt8) (i : Nat) : (bs l)[i]? = l[i]? := by
  by_cases h : i < l.length
  · rw [getElem?_pos (bs l) i h, List.getElem?_eq_getElem h]
    rfl
  · rw [getElem?_neg (bs l) i h, List.getElem?_eq_none (by omega)]
theorem bs_extract (l : List UInt8) (i j : Nat) : (bs l).extract i j = bs ((l.take j).drop i) := by
  apply ByteArray.ext
  apply Array.ext'
  rw [ByteArray.data_extract, Array.toList_extract, List.extract_eq_take_drop, List.drop_take]
  rfl
theorem mk_bs (l : List UInt8) : (ByteArray.mk (Array.mk l)) = bs l := rfl
def Cd (P : Program) (fn : Func) : Option AC × Nat × Option (List QOp) := (fn.body.bind (comp P), fn.ntmps, fn.results.toList.mapM (resB P))
theorem Ret.go {P : Program} {f : FuncId} {fn : Func} {c : AC} {n : Nat} {args ys : List AV} {ρ1 ρ2 : Nat → AV} {h1 : Nat → Option (Option (List AV))} {rs : List QOp} {ret : AV} {outs : List AV} {m : Nat} (hf : P.funcs[f]? = some fn)
    (h : Am.run P (pinsOf args 0) 3000 c [] (endR args ret outs rs) ⟨ρ2, h1, n⟩) (hc : Cd P fn = (some c, n, some rs) := by conv => lhs; cbv)
    (hl : args.length ≤ n := by simp) (hent : entL 100000 args ⟨fun _ => .un, h0, n⟩ = some (ys, ⟨ρ1, h1, m⟩) := by rfl) (hρ : iniρ ys 0 = ρ2 := by rfl) : Ret P f args ret outs := by
  unfold Cd at hc
  simp only [Prod.mk.injEq] at hc
  exact Ret.run hf hc hl hent hρ 3000 h
section
variable {a b : Int} {m n : Nat}
theorem oLt (h : a < b) : (a < b) = True := eq_true h
theorem oNlt (h : b ≤ a) : (a < b) = False := eq_false (by omega)
theorem oLe (h : a ≤ b) : (a ≤ b) = True := eq_true h
theorem oNle (h : b < a) : (a ≤ b) = False := eq_false (by omega)
theorem nLt (h : m < n) : (m < n) = True := eq_true h
theorem nNlt (h : n ≤ m) : (m < n) = False := eq_false (by omega)
theorem nLe (h : m ≤ n) : (m ≤ n) = True := eq_true h
theorem nNle (h : n < m) : (m ≤ n) = False := eq_false (by omega)
end
theorem T.list {α : Type} {P : Program} {p : List Nat} {x : AC} {st : St} {Q : AE → St → Prop} (xs : List α) (I : List α → List α → St → Prop) (h0 : I [] xs st)
    (hN : ∀ s, I xs [] s → T P p x s (andThen (fun _ => False) Q))
    (hS : ∀ pre y rest s, pre ++ y :: rest = xs → xs.length = pre.length + (rest.length + 1) → I pre (y :: rest) s → T P p x s (andThen (fun s' => ∃ s'', Le s' s'' ∧ I (pre ++ [y]) rest s'') Q)) : T P p (.loop x) st Q := by
  refine T.rounds (μ := fun i : List α × List α => i.2.length) (fun i s => i.1 ++ i.2 = xs ∧ I i.1 i.2 s) ([], xs) ⟨rfl, h0⟩ ?_
  rintro ⟨pre, rest⟩ s ⟨hx, hI⟩
  cases rest with
  | nil =>
    simp only [List.append_nil] at hx
    subst hx
    refine T.mono (hN s hI) fun e s' he => ?_
    cases e with
    | normal => exact he.elim
    | exit => exact he
    | ret => exact he
  | cons y rest =>
    simp only at hx hI
    have hl : xs.length = pre.length + (rest.length + 1) := by rw [← hx]; simp
    refine T.mono (hS pre y rest s hx hl hI) fun e s' he => ?_
    cases e with
    | normal =>
      obtain ⟨s'', h1, h2⟩ := he
      exact ⟨(pre ++ [y], rest), s'', by simp, h1, by simpa using hx, h2⟩
    | exit => exact he
    | ret => exact he
def Rd (J : Prop) (n : Nat) (ts : List (Nat × AV)) (bs : List (Nat × List AV)) (s : St) : Prop := J ∧ s.n = n ∧ toldT s.ρ (bs.map (·.1)) ts ∧ toldB s.h (bs.map (·.1)) bs
theorem Rd_mk {J : Prop} {m n : Nat} {ts : List (Nat × AV)} {bs : List (Nat × List AV)} {ρ : Nat → AV} {h : Hp} : Rd J n ts bs ⟨ρ, h, m⟩ = (J ∧ m = n ∧ toldT ρ (bs.map (·.1)) ts ∧ toldB h (bs.map (·.1)) bs) := rfl
theorem T.forL {α : Type} {P : Program} {p : List Nat} {x : AC} {st : St} {Q : AE → St → Prop} (xs : List α) (J : List α → List α → Prop) (ts : List α → List α → List (Nat × AV)) (bs : List α → List α → List (Nat × List AV))
    (h0 : J [] xs ∧ toldT st.ρ ((bs [] xs).map (·.1)) (ts [] xs) ∧ toldB st.h ((bs [] xs).map (·.1)) (bs [] xs))
    (hN : J xs [] → Am.run P p 1000 x [] (andThen (fun _ => False) Q) ⟨toldρ (ts xs []), toldH (bs xs []), st.n⟩)
    (hS : ∀ pre y rest, pre ++ y :: rest = xs → xs.length = pre.length + (rest.length + 1) → J pre (y :: rest) → Am.run P p 1000 x [] (andThen (Rd (J (pre ++ [y]) rest) st.n (ts (pre ++ [y]) rest) (bs (pre ++ [y]) rest)) Q) ⟨toldρ (ts pre (y :: rest)), toldH (bs pre (y :: rest)), st.n⟩) : T P p (.loop x) st Q := by
  obtain ⟨j0, t0, b0⟩ := h0
  refine T.le (Le.told _ _ t0 b0) (T.list xs (fun pre rest s => J pre rest ∧ s = ⟨toldρ (ts pre rest), toldH (bs pre rest), st.n⟩) ⟨j0, rfl⟩ ?_ ?_)
  · rintro s ⟨hj, rfl⟩
    exact run_ok (hN hj)
  · rintro pre y rest s hx hl ⟨hj, rfl⟩
    refine T.mono (run_ok (hS pre y rest hx hl hj)) fun e s' he => ?_
    cases e with
    | normal =>
      obtain ⟨h1, h2, h3, h4⟩ := he
      have := Le.told _ _ h3 h4
      rw [h2] at this
      exact ⟨_, this, h1, rfl⟩
    | exit => exact he
    | ret => exact he
def Tl (n : Nat) (ts : List (Nat × AV)) (bs : List (Nat × List AV)) (s : St) : Prop := Le s ⟨toldρ ts, toldH bs, n⟩
theorem Tl.same {n : Nat} {ts : List (Nat × AV)} {bs : List (Nat × List AV)} {s : St} (hn : s.n = n) (h1 : toldT s.ρ (bs.map (·.1)) ts) (h2 : toldB s.h (bs.map (·.1)) bs) : Tl n ts bs s := by
  subst hn
  exact Le.told ts bs h1 h2
theorem Tl.le {n : Nat} {ts : List (Nat × AV)} {bs : List (Nat × List AV)} {s s' : St} (h : Le s s') (k : Tl n ts bs s') : Tl n ts bs s := Le.trans h k
def toldF (h : Hp) : List (Nat × List AV) → Prop
  | [] => True
  | (b, cs) :: l => h b = some (some cs) ∧ idfree.idfreeL cs = true ∧ toldF h l
theorem toldF_mem {h : Hp} : ∀ {bs : List (Nat × List AV)}, toldF h bs → ∀ b, b ∈ bs.map (·.1) → ∃ cs, h b = some (some cs) ∧ idfree.idfreeL cs = true
  | [], _, b, hb => by cases hb
  | (c, cs) :: l, ⟨h1, h2, h3⟩, b, hb => by
    rcases List.mem_cons.1 hb with rfl | hb
    · exact ⟨cs, h1, h2⟩
    · exact toldF_mem h3 b hb
theorem toldF_B {h : Hp} {ks : List Nat} : ∀ {bs : List (Nat × List AV)}, toldF h bs → toldB h ks bs
  | [], _ => trivial
  | (c, cs) :: l, ⟨h1, h2, h3⟩ => ⟨h1, mens_idf h2, toldF_B h3⟩
theorem Tl.ren (r : List (Nat × Nat)) {n : Nat} {ts : List (Nat × AV)} {bs : List (Nat × List AV)} {s : St} (hn : s.n = n)
    (h : (r.map (·.1)).Nodup ∧ (r.map (·.2)).Nodup ∧ (∀ b, b ∈ r.map (·.2) → b ∈ bs.map (·.1)) ∧ (∀ t, t ∈ ts.map (·.1) → menB (r.map (·.1)) (s.ρ t) = true) ∧ toldT (keepR (ts.map (·.1)) r s.ρ) (bs.map (·.1)) ts ∧ toldF (keepHR r s.h) bs) : Tl n ts bs s := by
  subst hn
  obtain ⟨n1, n2, hs, h0, h1, h2⟩ := h
  refine Le.trans (Le.reseat (ts.map (·.1)) r ⟨n1, n2⟩ h0 fun b hb cs hc x hx => ?_) (Le.told ts bs h1 (toldF_B h2))
  obtain ⟨p, hp, rfl⟩ := List.mem_map.1 hb
  obtain ⟨cs', e1, e2⟩ := toldF_mem h2 p.2 (hs _ (List.mem_map.2 ⟨p, hp, rfl⟩))
  have e3 : keepHR r s.h p.2 = s.h p.1 := by
    rw [keepHR_app]
    have : r.find? (fun q => q.2 == p.2) = some p := by
      clear h0 h1 h2 hs hc hb e1 e2
      induction r with
      | nil => cases hp
      | cons q r ih =>
        rcases List.mem_cons.1 hp with rfl | hp
        · rw [List.find?_cons_of_pos (by simp)]
        · have hne : q.2 ≠ p.2 := fun e => (List.nodup_cons.1 n2).1 (List.mem_map.2 ⟨p, hp, e.symm⟩)
          rw [List.find?_cons_of_neg (by simpa using hne)]
          exact ih (List.nodup_cons.1 n1).2 (List.nodup_cons.1 n2).2 hp
    rw [this]
  rw [e3, hc] at e1
  cases e1
  exact Go.Proofs.YtiejaibmcmicoaaGreatDoor.Am.idfreeL_mem (l := cs) e2 x hx
theorem rows_one {α : Type} {f : α → List AV} {x : α} : rows f [x] = f x := by simp [rows]
def Rl (J : Prop) (n : Nat) (ts : List (Nat × AV)) (bs : List (Nat × List AV)) (s : St) : Prop := J ∧ Tl n ts bs s
theorem Rl_mk {J : Prop} {m n : Nat} {ts : List (Nat × AV)} {bs : List (Nat × List AV)} {ρ : Nat → AV} {h : Hp} : Rl J n ts bs ⟨ρ, h, m⟩ = (J ∧ Tl n ts bs ⟨ρ, h, m⟩) := rfl
theorem T.forR {α : Type} {P : Program} {p : List Nat} {x : AC} {st : St} {Q : AE → St → Prop} (xs : List α) (J : List α → List α → Prop) (ts : List α → List α → List (Nat × AV)) (bs : List α → List α → List (Nat × List AV))
    (h0 : J [] xs ∧ Tl st.n (ts [] xs) (bs [] xs) st)
    (hN : J xs [] → Am.run P p 1000 x [] (andThen (fun _ => False) Q) ⟨toldρ (ts xs []), toldH (bs xs []), st.n⟩)
    (hS : ∀ pre y rest, pre ++ y :: rest = xs → xs.length = pre.length + (rest.length + 1) → J pre (y :: rest) → Am.run P p 1000 x [] (andThen (Rl (J (pre ++ [y]) rest) st.n (ts (pre ++ [y]) rest) (bs (pre ++ [y]) rest)) Q) ⟨toldρ (ts pre (y :: rest)), toldH (bs pre (y :: rest)), st.n⟩) : T P p (.loop x) st Q := by
  obtain ⟨j0, t0⟩ := h0
  refine T.le t0 (T.list xs (fun pre rest s => J pre rest ∧ s = ⟨toldρ (ts pre rest), toldH (bs pre rest), st.n⟩) ⟨j0, rfl⟩ ?_ ?_)
  · rintro s ⟨hj, rfl⟩
    exact run_ok (hN hj)
  · rintro pre y rest s hx hl ⟨hj, rfl⟩
    refine T.mono (run_ok (hS pre y rest hx hl hj)) fun e s' he => ?_
    cases e with
    | normal => exact ⟨_, he.2, he.1, rfl⟩
    | exit => exact he
    | ret => exact he
def exQ (P : Program) (p : List Nat) (i n : Nat) (ts : List (Nat × AV)) (bs : List (Nat × List AV)) (k : List KI) (Q : AE → St → Prop) : AE → St → Prop
  | .exit j, s => if j = i then Tl n ts bs s else pop P p k Q (.exit j) s
  | .ret, s => pop P p k Q .ret s
  | .normal, _ => False
section
variable {P : Program} {p : List Nat} {i n j : Nat} {ts : List (Nat × AV)} {bs : List (Nat × List AV)} {k : List KI} {Q : AE → St → Prop} {s : St}
theorem exQ_exit : exQ P p i n ts bs k Q (.exit j) s = if j = i then Tl n ts bs s else pop P p k Q (.exit j) s := rfl
theorem exQ_ret : exQ P p i n ts bs k Q .ret s = pop P p k Q .ret s := rfl
end
theorem T.cutL {P : Program} {p : List Nat} {x y : AC} {st : St} {Q : AE → St → Prop} {k : List KI} {i : Nat} (ts : List (Nat × AV)) (bs : List (Nat × List AV))
    (h1 : T P p (.loop x) st (exQ P p i st.n ts bs k Q)) (h2 : Am.run P p 2000 y k Q ⟨toldρ ts, toldH bs, st.n⟩) : T P p (.loop x) st (pop P p (.blk i :: .after y :: k) Q) := by
  refine T.mono h1 fun e s he => ?_
  cases e with
  | normal => exact he.elim
  | exit j =>
    rw [exQ_exit] at he
    rw [pop_blk_exit]
    split
    · rename_i e
      rw [if_pos e] at he
      rw [pop_after]
      exact T.le he (run_at h2)
    · rename_i e
      rw [if_neg e] at he
      rw [pop_after_exit]
      exact he
  | ret =>
    rw [pop_blk_ret, pop_after_ret]
    exact he
theorem T.cutB {P : Program} {p : List Nat} {x y : AC} {st : St} {Q : AE → St → Prop} {k : List KI} {i j : Nat} (ts : List (Nat × AV)) (bs : List (Nat × List AV))
    (h1 : T P p (.loop x) st (exQ P p i st.n ts bs (.blk j :: .after y :: k) Q))
    (h2 : Am.run P p 2000 y k Q ⟨toldρ ts, toldH bs, st.n⟩) : T P p (.loop x) st (pop P p (.blk i :: .blk j :: .after y :: k) Q) := by
  refine T.mono h1 fun e s he => ?_
  cases e with
  | normal => exact he.elim
  | exit l =>
    rw [exQ_exit] at he
    rw [pop_blk_exit]
    split
    · rename_i e
      rw [if_pos e] at he
      rw [pop_blk, pop_after]
      exact T.le he (run_at h2)
    · rename_i e
      rw [if_neg e] at he
      exact he
  | ret => exact he
theorem menQ_roT {q : Nat → Bool} {cs : List AV} {n : Nat} : menQ q (.ro cs n) = true := rfl
def Ri {ι : Type} (μ : ι → Nat) (J : ι → Prop) (ts : ι → List (Nat × AV)) (bs : ι → List (Nat × List AV)) (i : ι) (n : Nat) (s : St) : Prop := ∃ j, μ j < μ i ∧ J j ∧ Tl n (ts j) (bs j) s
theorem Ri_mk {ι : Type} {μ : ι → Nat} {J : ι → Prop} {ts : ι → List (Nat × AV)} {bs : ι → List (Nat × List AV)} {i : ι} {n m : Nat} {ρ : Nat → AV} {h : Hp} (j : ι) (h1 : μ j < μ i) (h2 : J j) (h3 : Tl n (ts j) (bs j) ⟨ρ, h, m⟩) : Ri μ J ts bs i n ⟨ρ, h, m⟩ := ⟨j, h1, h2, h3⟩
theorem T.forI {ι : Type} {P : Program} {p : List Nat} {x : AC} {st : St} {Q : AE → St → Prop} (μ : ι → Nat) (J : ι → Prop) (ts : ι → List (Nat × AV)) (bs : ι → List (Nat × List AV)) (i : ι)
    (h0 : J i ∧ Tl st.n (ts i) (bs i) st)
    (hS : ∀ i, J i → Am.run P p 1000 x [] (andThen (Ri μ J ts bs i st.n) Q) ⟨toldρ (ts i), toldH (bs i), st.n⟩) : T P p (.loop x) st Q := by
  refine T.le h0.2 (T.rounds μ (fun i s => J i ∧ s = ⟨toldρ (ts i), toldH (bs i), st.n⟩) i ⟨h0.1, rfl⟩ ?_)
  rintro i s ⟨hj, rfl⟩
  refine T.mono (run_ok (hS i hj)) fun e s' he => ?_
  cases e with
  | normal =>
    obtain ⟨j, h1, h2, h3⟩ := he
    exact ⟨j, _, h1, h3, h2, rfl⟩
  | exit => exact he
  | ret => exact he
section
variable {P : Program} {p : List Nat} {fx : AX} {xs : List AX} {dst : Option Nat} {st : St} {K : St → Prop} {f : FuncId} {caps ys cs : List AV} {len sz : Nat} {ret : AV} {st3 : St} {y : AV}
theorem cR (hR : Ret P f ys ret (ys.map fun _ => .un)) (hK : K (st3.setO dst y)) (hf : fx.ev st.ρ = .clo f caps := by rfl) (hc : callB P f = true := by kernel_rfl)
    (hys : (xs.map (·.ev st.ρ) ++ caps).mapM (roc st.h 8) = some ys := by simp [roc_sc, roc_ro, roc_agg, mk_bs]) (hfl : flt ret = true := by rfl) (hi : inst 64 0 ret st = some (y, st3) := by rfl) (hd : dOk p dst st3.n = true := by rfl) : callK P p fx xs dst st K :=
  callK.ro 0 hf hc hys hR hfl hi hd hK
theorem cO (d : Nat) (hR : Ret P f ys (.own cs len sz) (ys.map fun _ => .un)) (hK : K ((st.put d (some cs)).setO dst (.sl d 0 len sz false))) (hfl : flt (.own cs len sz) = true := by rfl) (hf : fx.ev st.ρ = .clo f caps := by rfl) (hc : callB P f = true := by kernel_rfl)
    (hys : (xs.map (·.ev st.ρ) ++ caps).mapM (roc st.h 8) = some ys := by simp [roc_sc, roc_ro, roc_agg, mk_bs]) (hh : st.h d = none := by simp) (hd : dOk p dst st.n = true := by rfl) : callK P p fx xs dst st K :=
  callK.own d hf hc hys hR hfl hh hd hK
end
theorem cX {P : Program} {p : List Nat} {fx : AX} {xs : List AX} {dst : Option Nat} {st : St} {K : St → Prop} {f : FuncId} {caps ys : List AV} {ret : AV} {st3 : St} {y : AV} (d : Nat) (hR : Ret P f ys ret (ys.map fun _ => .un)) (hK : K (st3.setO dst y)) (hf : fx.ev st.ρ = .clo f caps := by rfl) (hc : callB P f = true := by kernel_rfl)
    (hys : xs.map (·.ev st.ρ) ++ caps = ys := by simp [mk_bs]) (hsh : shut.shutL ys = true := by rfl) (hi : inst 64 d ret st = some (y, st3) := by rfl) (hd : dOk p dst st3.n = true := by rfl) : callK P p fx xs dst st K := by
  have key : ∀ ys : List AV, shut.shutL ys = true → exL ((ys.map fun _ => Md.ro).zip ys) st = some (ys.map fun _ => (none, none), st) ∧ shutArgs st.h ((ys.map fun _ => Md.ro).zip ys) (ys.map fun _ => (none, none)) = some ys ∧
      backL (ys.map fun _ => (none, none)) (ys.map fun _ => .un) st = some st ∧ flatL ((ys.map fun _ => Md.ro).zip ys) = some ((ys.map fun _ => Md.ro).zip ys) ∧ asm (ys.map fun _ => Md.ro) ys = some ys ∧ outF (ys.map fun _ => Md.ro) (ys.map fun _ => .un) = some (ys.map fun _ => .un) ∧
      closedB ((ys.map fun _ => Md.ro).zip ys) (ys.map fun _ => (none, none)) = true := by
    intro ys
    induction ys with
    | nil => intro _; exact ⟨rfl, rfl, rfl, rfl, rfl, rfl, rfl⟩
    | cons x xs ih =>
      intro h
      simp only [shut.shutL, Bool.and_eq_true] at h
      obtain ⟨h1, h2, h3, h4, h5, h6, h7⟩ := ih h.2
      refine ⟨by simp [exL, ex1, h1], by simp [shutArgs, roc_sh h.1, h2], by simp [backL, h3], by simp [flatL, flat1, h4], by simp [asm, h5], by simp [outF, h6], by simp [closedB, h.1, h7]⟩
  subst hys
  obtain ⟨h1, h2, h3, h4, h5, h6, h7⟩ := key _ hsh
  exact callK.cut _ d hf hc (by simp) h4 h1 h7 h2 h5 hR h6 h3 hi hd hK
end Go.Proofs.YtiejaibmcmicoaaGreatDoor.Am
