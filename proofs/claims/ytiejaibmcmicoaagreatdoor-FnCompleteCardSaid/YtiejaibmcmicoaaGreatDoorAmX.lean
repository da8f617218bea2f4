/- Cells opened; blocks named anew; calls with what they may write; no condition. -/
import Derived.Test.YtiejaibmcmicoaaGreatDoorAmW
import Derived.Test.YtiejaibmcmicoaaGreatDoorAm12
namespace Go.Proofs.YtiejaibmcmicoaaGreatDoor.Am
open Go
set_option linter.unusedSimpArgs false
def rb (r : List (Nat × Nat)) (b : Nat) : Nat := match r.find? (fun p => p.1 == b) with | some p => p.2 | none => b
def renA (r : List (Nat × Nat)) : AV → AV
  | .sl b off len sz lim => .sl (rb r b) off len sz lim
  | .ref b off => .ref (rb r b) off
  | x => x
def keepR (ks : List Nat) (r : List (Nat × Nat)) (ρ : Nat → AV) : Nat → AV := fun t => if ks.elem t then renA r (ρ t) else .un
def keepHR (r : List (Nat × Nat)) (h : Nat → Option (Option (List AV))) : Nat → Option (Option (List AV)) := fun c => match r.find? (fun p => p.2 == c) with | some p => h p.1 | none => none
theorem keepR_app (ks : List Nat) (r : List (Nat × Nat)) (ρ : Nat → AV) (t : Nat) : keepR ks r ρ t = if ks.elem t then renA r (ρ t) else .un := rfl
theorem keepHR_app (r : List (Nat × Nat)) (h : Nat → Option (Option (List AV))) (c : Nat) : keepHR r h c = match r.find? (fun p => p.2 == c) with | some p => h p.1 | none => none := rfl
theorem find1 {r : List (Nat × Nat)} (h : (r.map (·.1)).Nodup) {p : Nat × Nat} (hp : p ∈ r) : r.find? (fun q => q.1 == p.1) = some p := by
  induction r with
  | nil => simp at hp
  | cons q r ih =>
    simp only [List.map_cons, List.nodup_cons] at h
    rcases List.mem_cons.1 hp with rfl | hp
    · simp
    · have : q.1 ≠ p.1 := fun e => h.1 (List.mem_map.2 ⟨p, hp, e.symm⟩)
      rw [List.find?_cons_of_neg (by simpa using this)]
      exact ih h.2 hp
theorem find2 {r : List (Nat × Nat)} (h : (r.map (·.2)).Nodup) {p : Nat × Nat} (hp : p ∈ r) : r.find? (fun q => q.2 == p.2) = some p := by
  induction r with
  | nil => simp at hp
  | cons q r ih =>
    simp only [List.map_cons, List.nodup_cons] at h
    rcases List.mem_cons.1 hp with rfl | hp
    · simp
    · have : q.2 ≠ p.2 := fun e => h.1 (List.mem_map.2 ⟨p, hp, e.symm⟩)
      rw [List.find?_cons_of_neg (by simpa using this)]
      exact ih h.2 hp
section
variable {φ : Nat → Option Loc} {M : Nat → Prop} {w : World} {P : Program} {p : List Nat}
theorem Le.reseat {st : St} (ks : List Nat) (r : List (Nat × Nat)) (hr : (r.map (·.1)).Nodup ∧ (r.map (·.2)).Nodup) (h1 : ∀ t, t ∈ ks → menB (r.map (·.1)) (st.ρ t) = true) (h2 : ∀ b, b ∈ r.map (·.1) → ∀ cs, st.h b = some (some cs) → ∀ x ∈ cs, idfree x = true) :
    Le st ⟨keepR ks r st.ρ, keepHR r st.h, st.n⟩ := by
  rintro E tm w ⟨φ, M, L, I⟩
  obtain ⟨n1, n2⟩ := hr
  let φ' : Nat → Option Loc := fun c => match r.find? (fun p => p.2 == c) with | some p => φ p.1 | none => none
  let L' : Nat → List Nat := fun c => match r.find? (fun p => p.2 == c) with | some p => L p.1 | none => []
  have hφ : ∀ p ∈ r, φ' p.2 = φ p.1 := fun p hp => by simp only [φ', find2 n2 hp]
  have hL : ∀ p ∈ r, L' p.2 = L p.1 := fun p hp => by simp only [L', find2 n2 hp]
  have hrb : ∀ p ∈ r, rb r p.1 = p.2 := fun p hp => by unfold rb; rw [find1 n1 hp]
  have hlive : ∀ c x, keepHR r st.h c = some x → ∃ p ∈ r, p.2 = c ∧ st.h p.1 = some x := fun c x h => by
    unfold keepHR at h
    split at h
    · rename_i p hp
      exact ⟨p, List.mem_of_find?_eq_some hp, by simpa using List.find?_some hp, h⟩
    · cases h
  have hmen : ∀ (x : AV) (v : Value), menB (r.map (·.1)) x = true → V φ M w x v [] → V φ' M w (renA r x) v [] := fun x v hm h => by
    cases x
    case sl b off len sz lim =>
      obtain ⟨p, hp, rfl⟩ := List.mem_map.1 (show b ∈ r.map (·.1) by simpa [menB] using hm)
      simp only [renA, hrb p hp]
      cases h with
      | imm _ _ h => cases h
      | sl _ _ _ _ _ l c h h1 h2 h3 => exact .sl _ _ _ _ _ l c ((hφ p hp).trans h) h1 h2 h3
      | slz => exact .slz _ _ _ _ _
    case ref b off =>
      obtain ⟨p, hp, rfl⟩ := List.mem_map.1 (show b ∈ r.map (·.1) by simpa [menB] using hm)
      simp only [renA, hrb p hp]
      cases h with
      | imm _ _ h => cases h
      | ref _ _ l h => exact .ref _ _ l ((hφ p hp).trans h)
    all_goals exact h.free hm
  refine ⟨φ', M, L', I.size, fun t => ?_, fun c cs h => ?_, fun c h => ?_, fun c cs h => ?_, fun c c' cs cs' hne h h' => ?_, fun c cs h => ?_,
    fun c cs h => ?_, I.bound, I.m0, I.m1, fun c cs h => ?_, I.os, I.tape, I.output, I.grown, I.frame, I.keep⟩
  · show V φ' M w (keepR ks r st.ρ t) _ []
    unfold keepR
    split
    · rename_i ht
      exact hmen _ _ (h1 t (by simpa using ht)) (I.env t)
    · exact V.un _
  · obtain ⟨p, hp, rfl, hl⟩ := hlive c _ h
    rw [hL p hp]
    rcases I.root p.1 cs hl with ⟨e1, e2, e3⟩ | ⟨l, C, us, F, e1, e2, e3, ⟨Fs, k1, k2, k3, k4, k5⟩, e6, e7⟩
    · exact .inl ⟨e1, (hφ p hp).trans e2, e3⟩
    · exact .inr ⟨l, C, us, F, (hφ p hp).trans e1, e2, e3, ⟨Fs, k1, k2, k3, k4, fun j x u F a c d => (k5 j x u F a c d).free (h2 p.1 (List.mem_map.2 ⟨p, hp, rfl⟩) cs hl x (List.mem_of_getElem? a))⟩, e6, e7⟩
  · show φ' c = none
    have h' : keepHR r st.h c = none := h
    unfold keepHR at h'
    simp only [φ']
    split
    · rename_i p hp
      rw [hp] at h'
      exact I.fresh p.1 h'
    · rfl
  · obtain ⟨p, hp, rfl, hl⟩ := hlive c _ h
    rw [hL p hp]; exact I.nodup p.1 cs hl
  · obtain ⟨p, hp, rfl, hl⟩ := hlive c _ h
    obtain ⟨p', hp', rfl, hl'⟩ := hlive c' _ h'
    rw [hL p hp, hL p' hp']
    exact I.disj p.1 p'.1 cs cs' (fun e => hne (by rw [← hrb p hp, ← hrb p' hp', e])) hl hl'
  · obtain ⟨p, hp, rfl, hl⟩ := hlive c _ h
    rw [hL p hp]; exact I.notM p.1 cs hl
  · obtain ⟨p, hp, rfl, hl⟩ := hlive c _ h
    rw [hL p hp]; exact I.low p.1 cs hl
  · obtain ⟨p, hp, rfl, hl⟩ := hlive c _ h
    rw [hL p hp]; exact I.own p.1 cs hl
theorem Le.open {st : St} (b j i : Nat) {len sz : Nat} {cs cs' : List AV} (hb : st.h b = some (some cs)) (hj : cs[j]? = some (.own cs' len sz)) (hi : st.h i = none) (hid : idfree.idfreeL cs' = true) :
    Le st ⟨st.ρ, upd (upd (upd st.h b (some none)) i (some (some cs'))) b (some (some (cs.set j (.sl i 0 len sz false)))), st.n⟩ := by
  rintro E tm w ⟨φ, M, L, I⟩
  let a : Act := { tmps := tm, defers := [] }
  have I0 : Inv E φ M L st a.tmps w := I
  have hjl : j < cs.length := (List.getElem?_eq_some_iff.1 hj).1
  have hne : i ≠ b := fun e => by subst e; rw [hi] at hb; cases hb
  rcases I0.root b cs hb with ⟨rfl, _, _⟩ | ⟨l, C, us, F, h1, h2, h3, ⟨Fs, k1, k2, k3, k4, k5⟩, h6, h7⟩
  · simp at hjl
  have hju : j < us.length := by omega
  have hjF : j < Fs.length := by omega
  obtain ⟨u, hu⟩ : ∃ u, us[j]? = some u := ⟨_, List.getElem?_eq_getElem hju⟩
  obtain ⟨X, hX⟩ : ∃ X, Fs[j]? = some X := ⟨_, List.getElem?_eq_getElem hjF⟩
  have hv := (k5 j _ u X hj hu hX).free (φ' := nof) (by simpa [idfree] using hid)
  obtain ⟨I1, hfree⟩ := I0.kill hb
  have hi1 : (st.put b none).h i = none := by simp only [St.put]; rw [upd_ne _ _ hne]; exact hi
  have hnd := I0.nodup b cs hb
  rw [h7] at hnd
  obtain ⟨n1, n2⟩ := List.nodup_cons.1 hnd
  have hFs : Fs = Fs.take j ++ X :: Fs.drop (j + 1) := by
    have : Fs[j] = X := by rw [List.getElem?_eq_getElem hjF] at hX; exact Option.some.inj hX
    rw [← this]; simp
  have hset : Fs.set j [] = Fs.take j ++ [] :: Fs.drop (j + 1) := by
    rw [List.set_eq_take_append_cons_drop, if_pos hjF]
  have hXF : ∀ g ∈ X, g ∈ F := fun g hg => by rw [k4]; exact mem_flatten_of hX hg
  have hsub : (Fs.set j []).flatten.Sublist Fs.flatten := flatten_set_sub Fs j
  have hXn : X.Nodup := by
    rw [k4, hFs] at n2
    simp only [List.flatten_append, List.flatten_cons] at n2
    exact (List.nodup_append.1 (List.nodup_append.1 n2).2.1).1
  have hXd : ∀ g ∈ X, g ∉ (Fs.set j []).flatten := fun g hg hm => by
    rw [k4, hFs] at n2
    rw [hset] at hm
    simp only [List.flatten_append, List.flatten_cons, List.nil_append] at n2 hm
    obtain ⟨m1, m2, m3⟩ := List.nodup_append.1 n2
    rcases List.mem_append.1 hm with hm | hm
    · exact m3 g hm g (List.mem_append.2 (.inl hg)) rfl
    · exact (List.nodup_append.1 m2).2.2 g hg g hm rfl
  obtain ⟨φ2, L2, T2, hy⟩ := take_own I1 hi1 hv hXn (fun g hg => ⟨hfree g (by rw [h7]; exact List.mem_cons_of_mem _ (hXF g hg)), I0.low b cs hb g (by rw [h7]; exact List.mem_cons_of_mem _ (hXF g hg))⟩)
  have hb2 : ((st.put b none).put i (some cs')).h b = some none := by
    simp only [St.put]; rw [upd_ne _ _ hne.symm, upd_same]
  have hL' : ∀ g ∈ l.g :: (Fs.set j []).flatten, Free E M L2 ((st.put b none).put i (some cs')) g ∧ g < w.heap.size := fun g hg => by
    have hgL : g ∈ L b := by
      rw [h7]
      rcases List.mem_cons.1 hg with rfl | hg
      · exact List.mem_cons_self ..
      · exact List.mem_cons_of_mem _ (by rw [k4]; exact hsub.subset hg)
    refine ⟨T2.free g (hfree g hgL) fun hX' => ?_, I0.low b cs hb g hgL⟩
    rcases List.mem_cons.1 hg with rfl | hg
    · exact n1 (hXF _ hX')
    · exact hXd g hX' hg
  have hnd' : (l.g :: (Fs.set j []).flatten).Nodup := List.nodup_cons.2 ⟨fun hg => n1 (by rw [k4]; exact hsub.subset hg), (k4 ▸ n2).sublist hsub⟩
  have hext : ∀ b' l', φ2 b' = some l' → upd φ2 b (some l) b' = some l' := fun b' l' h => by
    by_cases e : b' = b
    · subst e
      rw [upd_same]
      rw [T2.ext b' l h1] at h
      exact h
    · rw [upd_ne _ _ e]; exact h
  have hcell : ∀ (q : Nat) (x : AV) (v : Value) (F : List Nat), (cs.set j (.sl i 0 len sz false))[q]? = some x → us[q]? = some v → (Fs.set j [])[q]? = some F → V (upd φ2 b (some l)) M w x v F := fun q x v F hq hvq hFq => by
    by_cases e : q = j
    · subst e
      rw [List.getElem?_set_self hjl] at hq; cases hq
      rw [List.getElem?_set_self hjF] at hFq; cases hFq
      rw [hu] at hvq; cases hvq
      exact hy.mono hext (fun _ h => h) (fun _ _ => rfl)
    · rw [List.getElem?_set_ne (fun e' => e e'.symm)] at hq hFq
      exact (k5 q x v F hq hvq hFq).mono (fun b' l' h => hext b' l' (T2.ext b' l' h)) (fun _ h => h) (fun _ _ => rfl)
  obtain ⟨I3, _⟩ := T2.inv.put (d := b) (by simp [hb2]) (cs := cs.set j (.sl i 0 len sz false)) (some l) (.inr (T2.ext b l h1)) hL' hnd'
    (.inr ⟨l, C, us, (Fs.set j []).flatten, upd_same _ _ _, h2, h3, ⟨Fs.set j [], by simpa using k1, by simpa using k2, k3, rfl, hcell⟩, h6, rfl⟩)
  exact ⟨_, _, _, I3⟩
theorem callK.gen {fx : AX} {xs : List AX} {dst : Option Nat} {st : St} {K : St → Prop} (ms : List Md) (d : Nat) {f : FuncId} {caps : List AV} {fl : List (Md × AV)} {r : List (Option AV × Option Nat)} {st1 : St} {yl ys : List AV} {ret : AV} {outs ol : List AV} {st2 st3 : St} {y : AV} (hf : fx.ev st.ρ = .clo f caps) (hc : callB P f = true) (hm : ms.length = xs.length + caps.length)
    (hfl : flatL (ms.zip (xs.map (·.ev st.ρ) ++ caps)) = some fl) (hex : exL fl st = some (r, st1)) (hys : shutArgs st1.h fl r = some yl) (hasm : asm ms yl = some ys) (hR : Ret P f ys ret outs) (hout : outF ms outs = some ol) (hfl : flt ret = true ∧ flt.fltL ol = true) (hb : backL r ol st1 = some st2) (hi : inst 64 d ret st2 = some (y, st3))
    (hd : dOk p dst st3.n = true) (hK : K (st3.setO dst y)) : callK P p fx xs dst st K :=
  .inl ⟨f, caps, ms, fl, r, st1, yl, ys, ret, outs, ol, st2, st3, y, d, hf, hc, hm, ‹_›, hex, hys, hasm, hR, hout, .inl ‹_›, hb, hi, hd, hK⟩
theorem callWK.gen {fx : AX} {xs : List AX} {dst : Option Nat} {E A : List Nat} {st : St} {K : St → Prop} (ms : List Md) (d : Nat) {f : FuncId} {caps : List AV} {fl : List (Md × AV)} {r : List (Option AV × Option Nat)} {st1 : St} {yl ys : List AV} {ret : AV} {outs ol : List AV} {st2 st3 : St} {y : AV} (hf : fx.ev st.ρ = .clo f caps) (hc : callB P f = true) (hm : ms.length = xs.length + caps.length)
    (hfl : flatL (ms.zip (xs.map (·.ev st.ρ) ++ caps)) = some fl) (hex : exL fl ⟨st.ρ, hideH A st.h, st.n⟩ = some (r, st1)) (hys : shutArgs st1.h fl r = some yl) (hasm : asm ms yl = some ys) (hR : Ret P f ys ret outs) (hout : outF ms outs = some ol) (hfl : flt ret = true ∧ flt.fltL ol = true) (hb : backL r ol st1 = some st2) (hi : inst 64 d ret st2 = some (y, st3))
    (hE : (exB fl ++ instB 64 d ret).all (fun b => E.elem b) = true) (hK : K ((⟨st.ρ, merge A st.h st3.h, st.n⟩ : St).setO dst y)) : callWK P fx xs dst (E, A) st K :=
  ⟨y, st3, ⟨f, caps, ms, fl, r, st1, yl, ys, ret, outs, ol, st2, d, hf, hc, hm, ‹_›, hex, hys, hasm, hR, hout, .inl ‹_›, hb, hi, hE⟩, hK⟩
theorem callK.cut {fx : AX} {xs : List AX} {dst : Option Nat} {st : St} {K : St → Prop} (ms : List Md) (d : Nat) {f : FuncId} {caps : List AV} {fl : List (Md × AV)} {r : List (Option AV × Option Nat)} {st1 : St} {yl ys : List AV} {ret : AV} {outs ol : List AV} {st2 st3 : St} {y : AV} (hf : fx.ev st.ρ = .clo f caps) (hc : callB P f = true) (hm : ms.length = xs.length + caps.length)
    (hfl : flatL (ms.zip (xs.map (·.ev st.ρ) ++ caps)) = some fl) (hex : exL fl st = some (r, st1)) (hcl : closedB fl r = true) (hys : shutArgs st1.h fl r = some yl) (hasm : asm ms yl = some ys) (hR : Ret P f ys ret outs) (hout : outF ms outs = some ol) (hb : backL r ol st1 = some st2) (hi : inst 64 d ret st2 = some (y, st3))
    (hd : dOk p dst st3.n = true) (hK : K (st3.setO dst y)) : callK P p fx xs dst st K :=
  .inl ⟨f, caps, ms, fl, r, st1, yl, ys, ret, outs, ol, st2, st3, y, d, hf, hc, hm, ‹_›, hex, hys, hasm, hR, hout, .inr (.inr hcl), hb, hi, hd, hK⟩
theorem callWK.cut {fx : AX} {xs : List AX} {dst : Option Nat} {E A : List Nat} {st : St} {K : St → Prop} (ms : List Md) (d : Nat) {f : FuncId} {caps : List AV} {fl : List (Md × AV)} {r : List (Option AV × Option Nat)} {st1 : St} {yl ys : List AV} {ret : AV} {outs ol : List AV} {st2 st3 : St} {y : AV} (hf : fx.ev st.ρ = .clo f caps) (hc : callB P f = true) (hm : ms.length = xs.length + caps.length)
    (hfl : flatL (ms.zip (xs.map (·.ev st.ρ) ++ caps)) = some fl) (hex : exL fl ⟨st.ρ, hideH A st.h, st.n⟩ = some (r, st1)) (hcl : closedB fl r = true) (hys : shutArgs st1.h fl r = some yl) (hasm : asm ms yl = some ys) (hR : Ret P f ys ret outs) (hout : outF ms outs = some ol) (hb : backL r ol st1 = some st2) (hi : inst 64 d ret st2 = some (y, st3))
    (hE : (exB fl ++ instB 64 d ret).all (fun b => E.elem b) = true) (hK : K ((⟨st.ρ, merge A st.h st3.h, st.n⟩ : St).setO dst y)) : callWK P fx xs dst (E, A) st K :=
  ⟨y, st3, ⟨f, caps, ms, fl, r, st1, yl, ys, ret, outs, ol, st2, d, hf, hc, hm, ‹_›, hex, hys, hasm, hR, hout, .inr hcl, hb, hi, hE⟩, hK⟩
def sub1 (x' x : AV) : Prop := x' = x ∨ (x' = .em ∧ x = .ro [] 0)
def subC : List AV → List AV → Prop
  | [], [] => True
  | x' :: l', x :: l => sub1 x' x ∧ subC l' l
  | _, _ => False
def subA (x' x : AV) : Prop := match x', x with
  | .agg a, .agg b => subC a b
  | x', x => sub1 x' x
def subL : List AV → List AV → Prop
  | [], [] => True
  | x' :: l', x :: l => subA x' x ∧ subL l' l
  | _, _ => False
theorem sub1_ok {M : Nat → Prop} {w : World} {v : Value} {F : List Nat} {x' x : AV} (h : sub1 x' x) (hv : V nof M w x' v F) : V nof M w x v F := by
  rcases h with rfl | ⟨rfl, rfl⟩
  · exact hv
  · cases hv with
    | imm _ _ h => cases h; exact .imm _ _ (.ro [] 0 _ 0 [] (Nat.le_refl _) (by omega) rfl (by simp) (by simp) (by simp))
theorem subC_ok {M : Nat → Prop} {w : World} : ∀ {xs ys : List AV} {vs : List Value} {Fs : List (List Nat)}, subC xs ys → vs.length = xs.length → Fs.length = xs.length → (∀ (j : Nat) (x : AV) (u : Value) (F : List Nat), xs[j]? = some x → vs[j]? = some u → Fs[j]? = some F → V nof M w x u F) →
    xs.length = ys.length ∧ ∀ (j : Nat) (y : AV) (u : Value) (F : List Nat), ys[j]? = some y → vs[j]? = some u → Fs[j]? = some F → V nof M w y u F
  | [], [], vs, Fs, _, _, _, h => ⟨rfl, by simp⟩
  | x :: xs, y :: ys, vs, Fs, hc, h1, h2, h => by
    cases vs with
    | nil => simp at h1
    | cons v vs =>
    cases Fs with
    | nil => simp at h2
    | cons F Fs =>
    have hy := sub1_ok hc.1 (h 0 x v F rfl rfl rfl)
    obtain ⟨k1, k2⟩ := subC_ok (vs := vs) (Fs := Fs) hc.2 (by simpa using h1) (by simpa using h2) (fun j x u F a b c => h (j + 1) x u F (by simpa using a) (by simpa using b) (by simpa using c))
    refine ⟨by simp [k1], fun j z u G a b c => ?_⟩
    cases j with
    | zero => simp at a b c; subst a; subst b; subst c; exact hy
    | succ j => exact k2 j z u G (by simpa using a) (by simpa using b) (by simpa using c)
  | [], _ :: _, _, _, h, _, _, _ => h.elim
  | _ :: _, [], _, _, h, _, _, _ => h.elim
theorem subA_ok {M : Nat → Prop} {w : World} {v : Value} {F : List Nat} {x' x : AV} (h : subA x' x) (hv : V nof M w x' v F) : V nof M w x v F := by
  unfold subA at h
  split at h
  · rename_i a b
    generalize hx : AV.agg a = y at hv
    cases hv with
    | imm _ _ h' =>
      subst hx
      cases h' with
      | agg _ us h1 ho h2 =>
        obtain ⟨k1, k2⟩ := subC_ok (vs := us) (Fs := List.replicate a.length []) h h1 (by simp) (fun j x u F p q r => by
          obtain rfl : F = [] := (List.mem_replicate.1 (List.mem_of_getElem? r)).2
          exact .imm _ _ (h2 j x u p q))
        have := V.agg (φ := nof) (M := M) (w := w) b us (List.replicate a.length []) (by omega) (by simpa using k1) ho k2
        simpa using this
    | agg _ us Fs h1 h2 ho h' =>
      cases hx
      obtain ⟨k1, k2⟩ := subC_ok h h1 h2 h'
      exact .agg b us Fs (by omega) (by omega) ho k2
    | _ => cases hx
  · exact sub1_ok h hv
theorem subL_ok {M : Nat → Prop} {w : World} : ∀ {xs ys : List AV} {vs : List Value} {Fs : List (List Nat)}, subL xs ys → Vs nof M w xs vs Fs → Vs nof M w ys vs Fs
  | [], [], vs, Fs, _, h => h
  | x :: xs, y :: ys, vs, Fs, hc, ⟨h1, h2, h⟩ => by
    cases vs with
    | nil => simp at h1
    | cons v vs =>
    cases Fs with
    | nil => simp at h2
    | cons F Fs =>
    have hy := subA_ok hc.1 (h 0 x v F rfl rfl rfl)
    obtain ⟨k1, k2, k3⟩ := subL_ok (vs := vs) (Fs := Fs) hc.2 ⟨by simpa using h1, by simpa using h2, fun j x u F a b c => h (j + 1) x u F (by simpa using a) (by simpa using b) (by simpa using c)⟩
    refine ⟨by simp [k1], by simp [k2], fun j z u G a b c => ?_⟩
    cases j with
    | zero => simp at a b c; subst a; subst b; subst c; exact hy
    | succ j => exact k3 j z u G (by simpa using a) (by simpa using b) (by simpa using c)
  | [], _ :: _, _, _, h, _ => h.elim
  | _ :: _, [], _, _, h, _ => h.elim
theorem Ret.sub {P : Program} {f : FuncId} {args' args outs : List AV} {ret : AV} (h : Ret P f args ret outs) (hs : subL args' args) : Ret P f args' ret outs := fun M w vs Fs hV => h M w vs Fs (subL_ok hs hV)
end
end Go.Proofs.YtiejaibmcmicoaaGreatDoor.Am
