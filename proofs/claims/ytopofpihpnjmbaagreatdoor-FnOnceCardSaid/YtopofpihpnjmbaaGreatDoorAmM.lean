/- What is marked and held: a slice handed over to be written, empty or not; no program. -/
import Derived.Test.YtopofpihpnjmbaaGreatDoorAmZ
namespace Go.Proofs.YtopofpihpnjmbaaGreatDoor.Am
open Go
set_option linter.unusedSimpArgs false
set_option linter.unusedVariables false
def MRet (P : Program) (f : FuncId) (cs : List AV) (len sz : Nat) (v r : AV) (cs' : List AV) : Prop :=
  (0 < len → Ret P f [.io cs len sz, v] r [.io cs' len sz, .un]) ∧ (len = 0 → Ret P f [.ro [] 0, v] r [.un, .un])
theorem callK.io {P : Program} {p : List Nat} {fx a c : AX} {dst : Option Nat} {st : St} {K : St → Prop} {f : FuncId} {b len sz : Nat} {cs cs' : List AV} {v : AV} {k' : Int} (hf : fx.ev st.ρ = .clo f []) (hc : callB P f = true) (ha : a.ev st.ρ = .sl b 0 len sz false) (hb : st.h b = some (some cs)) (hl : cs.length = len * sz) (hid : zb.idfreeL cs = true)
    (hv : c.ev st.ρ = v) (hvs : shut v = true) (hR : MRet P f cs len sz v (.sc (.int .i64 k')) cs') (hl' : cs'.length = cs.length) (hfl : flt.fltL cs' = true) (hd : dOk p dst st.n = true) (hK : K ((st.put b (some cs')).setO dst (.sc (.int .i64 k')))) : callK P p fx [a, c] dst st K := by
  by_cases h0 : len = 0
  · subst h0
    have e : cs = [] := List.length_eq_zero_iff.1 (by omega)
    subst e
    have e' : cs' = [] := List.length_eq_zero_iff.1 (by simpa using hl')
    subst e'
    have eh : st.put b (some []) = st := by
      cases st
      simp only [St.put] at hb ⊢
      congr 1
      funext i
      by_cases ei : i = b
      · subst ei; rw [Zc, hb]
      · rw [zd _ _ ei]
    rw [eh] at hK
    refine callK.ro (st3 := st) (y := .sc (.int .i64 k')) 0 hf hc (ys := [.ro [] 0, v]) ?_ (hR.2 rfl) (by rfl) (by rfl) hd hK
    have e1 : roc st.h 8 (.sl b 0 0 sz false) = some (.ro [] 0) := zcw hb hl (by rfl)
    have e2 : roc st.h 8 v = some v := zN hvs
    simp [ha, hv, e1, e2]
  · have hpos : 0 < len := by omega
    refine callK.gen [.io, .ro] 0 (st1 := st.put b none) (fl := [(.io, .sl b 0 len sz false), (.ro, v)]) (r := [(some (.io cs len sz), some b), (none, none)]) (yl := [.io cs len sz, v]) (ys := [.io cs len sz, v]) (ol := [.io cs' len sz, .un]) (st2 := st.put b (some cs')) (st3 := st.put b (some cs')) hf hc rfl ?_ ?_ ?_ rfl (hR.1 hpos) rfl ⟨by rfl, ?_⟩ ?_ (by rfl) ?_ hK
    · simp [ha, hv]; rfl
    · simp [exL, ex1, hb, hl, hid]
    · have e2 : roc (st.put b none).h 8 v = some v := zN hvs
      simp [Yg, e2]
    · simp [flt.fltL, flt, hfl]
    · have eg : ((st.put b none).put b (some cs')) = st.put b (some cs') := by
        simp only [St.put]
        congr 1
        funext i
        by_cases ei : i = b
        · subst ei; rw [Zc, Zc]
        · rw [zd _ _ ei, zd _ _ ei, zd _ _ ei]
      have ig : zap ((st.put b none).h b) = true := by simp only [St.put]; rw [Zc]; rfl
      simp [backL, hl', ig, eg]
    · exact hd
def mkL {α : Type} (mk : α → Int → α) (tot : α → Nat) : List α → Int → List α
  | [], _ => []
  | x :: xs, k => mk x k :: mkL mk tot xs (k + tot x)
def toL {α : Type} (tot : α → Nat) : List α → Nat
  | [] => 0
  | x :: xs => tot x + toL tot xs
theorem Y7 {α : Type} (tot : α → Nat) (xs ys : List α) : toL tot (xs ++ ys) = toL tot xs + toL tot ys := by
  induction xs with
  | nil => simp [toL]
  | cons x xs ih => simp [toL, ih]; omega
theorem zb8 {α : Type} (mk : α → Int → α) (tot : α → Nat) : ∀ (xs : List α) (k : Int), (mkL mk tot xs k).length = xs.length
  | [], _ => rfl
  | x :: xs, k => by simp [mkL, zb8 mk tot xs]
theorem ze4 {α : Type} (mk : α → Int → α) (tot : α → Nat) : ∀ (xs ys : List α) (k : Int), mkL mk tot (xs ++ ys) k = mkL mk tot xs k ++ mkL mk tot ys (k + toL tot xs)
  | [], ys, k => by simp [mkL, toL]
  | x :: xs, ys, k => by
    have e : k + (tot x : Int) + (toL tot xs : Int) = k + ((toL tot (x :: xs) : Nat) : Int) := by simp [toL]; omega
    simp only [List.cons_append, mkL, ze4 mk tot xs, e]
theorem Le.openRow {ρ : Nat → AV} {n : Nat} (b : Nat) (post : List AV) : ∀ (oc : List AV) (d : Nat) (pre : List AV) (h : Hp), h b = some (some (pre ++ (oc ++ post))) → (∀ c ∈ oc, OwnC c) → (∀ i, i < oc.length → h (d + i) = none) → (b < d ∨ d + oc.length ≤ b) →
    ∃ h', Le ⟨ρ, h, n⟩ ⟨ρ, h', n⟩ ∧ h' b = some (some (pre ++ (ysOf d oc ++ post))) ∧ (∀ i cs len sz, oc[i]? = some (.own cs len sz) → h' (d + i) = some (some cs)) ∧ ∀ c, c ≠ b → (c < d ∨ d + oc.length ≤ c) → h' c = h c
  | [], d, pre, h, hb, _, _, _ => ⟨h, Le.refl _, hb, by simp, fun _ _ _ => rfl⟩
  | c :: oc, d, pre, h, hb, ho, hh, hd => by
    simp only [List.length_cons] at hd hh
    rcases ho c (by simp) with ⟨cs, len, sz, rfl, hl, hid, hfl⟩ | ⟨v, rfl⟩
    · have hi := hh 0 (by omega)
      rw [Nat.add_zero] at hi
      have hj : (pre ++ (AV.own cs len sz :: oc ++ post))[pre.length]? = some (.own cs len sz) := by
        rw [List.getElem?_append_right (Nat.le_refl _)]; simp
      have hp := Le.open (st := ⟨ρ, h, n⟩) b pre.length d hb hj hi hid
      have hset : (pre ++ (AV.own cs len sz :: oc ++ post)).set pre.length (.sl d 0 len sz false) = (pre ++ [.sl d 0 len sz false]) ++ (oc ++ post) := by
        rw [List.set_append_right _ _ (Nat.le_refl _)]; simp
      rw [hset] at hp
      obtain ⟨h', k1, k2, k4, k3⟩ := Le.openRow (ρ := ρ) (n := n) b post oc (d + 1) (pre ++ [.sl d 0 len sz false]) (upd (upd (upd h b (some none)) d (some (some cs))) b (some (some ((pre ++ [.sl d 0 len sz false]) ++ (oc ++ post))))) (by rw [Zc]) (fun c hc => ho c (by simp [hc])) (fun i hi' => by
        rw [zd _ _ (by omega), zd _ _ (by omega), zd _ _ (by omega)]
        have := hh (i + 1) (by omega)
        rwa [show d + (i + 1) = d + 1 + i by omega] at this) (by omega)
      refine ⟨h', Le.trans hp k1, by rw [k2]; simp [ysOf], fun i cs' len' sz' hi' => ?_, fun c hc hcd => ?_⟩
      · cases i with
        | zero =>
          simp at hi'
          obtain ⟨rfl, rfl, rfl⟩ := hi'
          rw [Nat.add_zero, k3 d (by omega) (by omega), zd _ _ (by omega), Zc]
        | succ i => rw [show d + (i + 1) = d + 1 + i by omega]; exact k4 i cs' len' sz' (by simpa using hi')
      · simp only [List.length_cons] at hcd
        rw [k3 c hc (by omega), zd _ _ hc, zd _ _ (by omega), zd _ _ hc]
    · obtain ⟨h', k1, k2, k4, k3⟩ := Le.openRow (ρ := ρ) (n := n) b post oc (d + 1) (pre ++ [.sc v]) h (by rw [hb]; simp) (fun c hc => ho c (by simp [hc])) (fun i hi' => by
        have := hh (i + 1) (by omega)
        rwa [show d + (i + 1) = d + 1 + i by omega] at this) (by omega)
      refine ⟨h', k1, by rw [k2]; simp [ysOf], fun i cs' len' sz' hi' => ?_, fun c hc hcd => ?_⟩
      · cases i with
        | zero => simp at hi'
        | succ i => rw [show d + (i + 1) = d + 1 + i by omega]; exact k4 i cs' len' sz' (by simpa using hi')
      · simp only [List.length_cons] at hcd
        exact k3 c hc (by omega)
theorem Le.rowPack (b : Nat) (post : List AV) : ∀ (oc : List AV) (d : Nat) (pre : List AV) (h : Hp), h b = some (some (pre ++ (ysOf d oc ++ post))) → (∀ c ∈ oc, OwnC c) → (∀ i cs len sz, oc[i]? = some (.own cs len sz) → h (d + i) = some (some cs)) → (b < d ∨ d + oc.length ≤ b) →
    ∃ h', (∀ ρ n, Le ⟨ρ, h, n⟩ ⟨ρ, h', n⟩) ∧ h' b = some (some (pre ++ (oc ++ post))) ∧ ∀ c, c ≠ b → (c < d ∨ d + oc.length ≤ c) → h' c = h c
  | [], d, pre, h, hb, _, _, _ => ⟨h, fun _ _ => Le.refl _, hb, fun _ _ _ => rfl⟩
  | c :: oc, d, pre, h, hb, ho, hh, hd => by
    simp only [List.length_cons] at hd
    rcases ho c (by simp) with ⟨cs, len, sz, rfl, hl, hid, hfl⟩ | ⟨v, rfl⟩
    · simp only [ysOf] at hb
      have hi := hh 0 cs len sz rfl
      rw [Nat.add_zero] at hi
      have hj : (pre ++ (AV.sl d 0 len sz false :: ysOf (d + 1) oc ++ post))[pre.length]? = some (.sl d 0 len sz false) := by
        rw [List.getElem?_append_right (Nat.le_refl _)]; simp
      have hp := fun (ρ : Nat → AV) (n : Nat) => Le.pack (st := ⟨ρ, h, n⟩) b pre.length hb hj hi (by omega) hl hid
      have hset : (pre ++ (AV.sl d 0 len sz false :: ysOf (d + 1) oc ++ post)).set pre.length (.own cs len sz) = (pre ++ [.own cs len sz]) ++ (ysOf (d + 1) oc ++ post) := by
        rw [List.set_append_right _ _ (Nat.le_refl _)]; simp
      simp only [hset] at hp
      obtain ⟨h', k1, k2, k3⟩ := Le.rowPack b post oc (d + 1) (pre ++ [.own cs len sz]) (upd (upd (upd h d (some none)) b (some none)) b (some (some ((pre ++ [.own cs len sz]) ++ (ysOf (d + 1) oc ++ post))))) (by rw [Zc]) (fun c hc => ho c (by simp [hc])) (fun i cs' len' sz' hi' => by
        rw [zd _ _ (by have := (List.getElem?_eq_some_iff.1 hi').1; omega), zd _ _ (by have := (List.getElem?_eq_some_iff.1 hi').1; omega), zd _ _ (by omega)]
        have := hh (i + 1) cs' len' sz' (by simpa using hi')
        rwa [show d + (i + 1) = d + 1 + i by omega] at this) (by omega)
      refine ⟨h', fun ρ n => Le.trans (hp ρ n) (k1 ρ n), by rw [k2]; simp, fun c hc hcd => ?_⟩
      simp only [List.length_cons] at hcd
      rw [k3 c hc (by omega), zd _ _ hc, zd _ _ hc, zd _ _ (by omega)]
    · simp only [ysOf] at hb
      obtain ⟨h', k1, k2, k3⟩ := Le.rowPack b post oc (d + 1) (pre ++ [.sc v]) h (by rw [hb]; simp) (fun c hc => ho c (by simp [hc])) (fun i cs' len' sz' hi' => by
        have := hh (i + 1) cs' len' sz' (by simpa using hi')
        rwa [show d + (i + 1) = d + 1 + i by omega] at this) (by omega)
      refine ⟨h', k1, by rw [k2]; simp, fun c hc hcd => ?_⟩
      simp only [List.length_cons] at hcd
      exact k3 c hc (by omega)
def ysOn : List Nat → List AV → List AV
  | d :: ds, .own _ len sz :: l => .sl d 0 len sz false :: ysOn ds l
  | _ :: ds, c :: l => c :: ysOn ds l
  | [], _ => []
  | _, [] => []
theorem Le.packOn (b : Nat) (post : List AV) : ∀ (oc : List AV) (ds : List Nat) (pre : List AV) (h : Hp), ds.length = oc.length → h b = some (some (pre ++ (ysOn ds oc ++ post))) → (∀ c ∈ oc, OwnC c) → (∀ (i d : Nat) (cs : List AV) (len sz : Nat), ds[i]? = some d → oc[i]? = some (AV.own cs len sz) → h d = some (some cs)) → ds.Nodup → b ∉ ds →
    ∃ h', (∀ ρ n, Le ⟨ρ, h, n⟩ ⟨ρ, h', n⟩) ∧ h' b = some (some (pre ++ (oc ++ post))) ∧ ∀ c, c ≠ b → c ∉ ds → h' c = h c
  | [], ds, pre, h, hn, hb, _, _, _, _ => ⟨h, fun _ _ => Le.refl _, by rw [hb]; cases ds <;> rfl, fun _ _ _ => rfl⟩
  | c :: oc, [], pre, h, hn, _, _, _, _, _ => by simp at hn
  | c :: oc, d :: ds, pre, h, hn, hb, ho, hh, hnd, hbd => by
    simp only [List.length_cons] at hn
    obtain ⟨n1, n2⟩ := List.nodup_cons.1 hnd
    have hbd1 : d ≠ b := fun e => hbd (by simp [e])
    have hbd2 : b ∉ ds := fun e => hbd (by simp [e])
    rcases ho c (by simp) with ⟨cs, len, sz, rfl, hl, hid, hfl⟩ | ⟨v, rfl⟩
    · simp only [ysOn] at hb
      have hi := hh 0 d cs len sz rfl rfl
      have hj : (pre ++ (AV.sl d 0 len sz false :: ysOn ds oc ++ post))[pre.length]? = some (.sl d 0 len sz false) := by
        rw [List.getElem?_append_right (Nat.le_refl _)]; simp
      have hp := fun (ρ : Nat → AV) (n : Nat) => Le.pack (st := ⟨ρ, h, n⟩) b pre.length hb hj hi hbd1 hl hid
      have hset : (pre ++ (AV.sl d 0 len sz false :: ysOn ds oc ++ post)).set pre.length (.own cs len sz) = (pre ++ [.own cs len sz]) ++ (ysOn ds oc ++ post) := by
        rw [List.set_append_right _ _ (Nat.le_refl _)]; simp
      simp only [hset] at hp
      obtain ⟨h', k1, k2, k3⟩ := Le.packOn b post oc ds (pre ++ [.own cs len sz]) (upd (upd (upd h d (some none)) b (some none)) b (some (some ((pre ++ [.own cs len sz]) ++ (ysOn ds oc ++ post))))) (by omega) (by rw [Zc]) (fun c hc => ho c (by simp [hc])) (fun i d' cs' len' sz' hd' hi' => by
        have hm := List.mem_of_getElem? hd'
        have nb : d' ≠ b := fun e => hbd2 (e ▸ hm)
        have nd : d' ≠ d := fun e => n1 (e ▸ hm)
        rw [zd _ _ nb, zd _ _ nb, zd _ _ nd]
        exact hh (i + 1) d' cs' len' sz' (by simpa using hd') (by simpa using hi')) n2 hbd2
      refine ⟨h', fun ρ n => Le.trans (hp ρ n) (k1 ρ n), by rw [k2]; simp, fun c hc hcd => ?_⟩
      simp only [List.mem_cons, not_or] at hcd
      rw [k3 c hc hcd.2, zd _ _ hc, zd _ _ hc, zd _ _ hcd.1]
    · simp only [ysOn] at hb
      obtain ⟨h', k1, k2, k3⟩ := Le.packOn b post oc ds (pre ++ [.sc v]) h (by omega) (by rw [hb]; simp) (fun c hc => ho c (by simp [hc])) (fun i d' cs' len' sz' hd' hi' => hh (i + 1) d' cs' len' sz' (by simpa using hd') (by simpa using hi')) n2 hbd2
      refine ⟨h', k1, by rw [k2]; simp, fun c hc hcd => ?_⟩
      simp only [List.mem_cons, not_or] at hcd
      exact k3 c hc hcd.2
def oneH (b : Nat) (cs : List AV) : Hp := fun c => if c = b then some (some cs) else none
theorem yr (b : Nat) (cs : List AV) (c : Nat) : oneH b cs c = if c = b then some (some cs) else none := rfl
theorem Le.grow {ρ : Nat → AV} {h : Hp} {n : Nat} {I : St → Prop} (ks : List Nat) (d b : Nat) (ds : List Nat) (pre oc : List AV) (hn : ds.length = oc.length) (hb : h d = some (some (pre ++ ysOn ds oc))) (ho : ∀ c ∈ oc, OwnC c) (hpre : ∀ c ∈ pre, zb c = true)
    (hh : ∀ (i e : Nat) (cs : List AV) (len sz : Nat), ds[i]? = some e → oc[i]? = some (AV.own cs len sz) → h e = some (some cs)) (hnd : ds.Nodup) (hd : d ∉ ds) (h1 : ∀ t, t ∈ ks → menB [d] (ρ t) = true)
    (hI : I ⟨keepR ks [(d, b)] ρ, oneH b (pre ++ oc), n⟩) : ∃ s, Le ⟨ρ, h, n⟩ s ∧ I s := by
  obtain ⟨h', k1, k2, _⟩ := Le.packOn d [] oc ds pre h hn (by simpa using hb) ho hh hnd hd
  simp only [List.append_nil] at k2
  have e : zao [(d, b)] h' = oneH b (pre ++ oc) := by
    funext c
    by_cases ec : c = b
    · subst ec; simp [zao, oneH, k2]
    · have ec' : ¬ b = c := fun e => ec e.symm
      simp [zao, oneH, ec, ec']
  have hr := Le.reseat (st := ⟨ρ, h', n⟩) ks [(d, b)] (by simp) (by simpa using h1) (by
    intro c hc cs hcs
    simp at hc
    subst hc
    have hcs : h' c = some (some cs) := hcs
    rw [k2] at hcs
    simp at hcs
    subst hcs
    intro y hy
    rcases List.mem_append.1 hy with hy | hy
    · exact hpre y hy
    · exact (ho y hy).fr)
  rw [e] at hr
  exact ⟨_, Le.trans (k1 ρ n) hr, hI⟩
theorem Le.layC {st : St} (b j sz : Nat) {cs : List AV} (hb : st.h b = some (some cs)) (hj : cs[j]? = some .em) :
    Le st ⟨st.ρ, upd (upd st.h b (some none)) b (some (some (cs.set j (.own [] 0 sz)))), st.n⟩ := by
  rintro E tm w ⟨φ, M, L, I⟩
  let a : Act := { tmps := tm, defers := [] }
  have I0 : Inv E φ M L st a.tmps w := I
  have hjl : j < cs.length := (List.getElem?_eq_some_iff.1 hj).1
  rcases I0.root b cs hb with ⟨rfl, _, _⟩ | ⟨l, C, us, F, h1, h2, h3, ⟨Fs, k1, k2, k3, k4, k5⟩, h6, h7⟩
  · simp at hjl
  obtain ⟨I1, hfree⟩ := I0.kill hb
  have hnd := I0.nodup b cs hb
  have hcell : ∀ (q : Nat) (x : AV) (v : Value) (F : List Nat), (cs.set j (.own [] 0 sz))[q]? = some x → us[q]? = some v → Fs[q]? = some F → V φ M w x v F := fun q x v F hq hvq hFq => by
    by_cases e : q = j
    · subst e
      rw [List.getElem?_set_self hjl] at hq; cases hq
      have hv := (k5 q _ v F hj hvq hFq).free (φ' := nof) rfl
      exact (zfE (x := .em) (y := .own [] 0 sz) ⟨rfl, rfl⟩ hv).lift φ
    · rw [List.getElem?_set_ne (fun e' => e e'.symm)] at hq
      exact k5 q x v F hq hvq hFq
  obtain ⟨I3, _⟩ := I1.put (d := b) (by simp [St.put, Zc]) (cs := cs.set j (.own [] 0 sz)) (some l) (.inr h1) (fun g hg => ⟨hfree g hg, I0.low b cs hb g hg⟩) hnd
    (.inr ⟨l, C, us, F, Zc _ _ _, h2, h3, ⟨Fs, by simpa using k1, by simpa using k2, k3, k4, fun q x v G a1 a2 a3 => (hcell q x v G a1 a2 a3).mono (fun b' l' h => by
      by_cases e : b' = b
      · subst e; rw [Zc]; rw [h1] at h; exact h
      · rw [zd _ _ e]; exact h) (fun _ h => h) (fun _ _ => rfl)⟩, h6, h7⟩)
  exact ⟨_, _, _, I3⟩
theorem ros : ∀ vs : List AV, (∀ v ∈ vs, shut v = true) → flatL ((vs.map fun _ => Md.ro).zip vs) = some ((vs.map fun _ => Md.ro).zip vs) ∧ (∀ st, exL ((vs.map fun _ => Md.ro).zip vs) st = some (vs.map fun _ => (none, none), st)) ∧ Zt ((vs.map fun _ => Md.ro).zip vs) (vs.map fun _ => (none, none)) = true ∧
    (∀ h, Yg h ((vs.map fun _ => Md.ro).zip vs) (vs.map fun _ => (none, none)) = some vs) ∧ asm (vs.map fun _ => Md.ro) vs = some vs ∧ outF (vs.map fun _ => Md.ro) (vs.map fun _ => .un) = some (vs.map fun _ => .un) ∧ (∀ st, backL (vs.map fun _ => (none, none)) (vs.map fun _ => .un) st = some st) ∧ exB ((vs.map fun _ => Md.ro).zip vs) = []
  | [], _ => ⟨rfl, fun _ => rfl, rfl, fun _ => rfl, rfl, rfl, fun _ => rfl, rfl⟩
  | v :: vs, h => by
    obtain ⟨h1, h2, h3, h4, h5, h6, h7, h8⟩ := ros vs fun x hx => h x (by simp [hx])
    have hv := h v (by simp)
    refine ⟨?_, fun st => ?_, ?_, fun hh => ?_, ?_, ?_, fun st => ?_, ?_⟩
    · simp only [List.map_cons, List.zip_cons_cons, flatL, flat1, h1]; rfl
    · simp only [List.map_cons, List.zip_cons_cons, exL, ex1, h2, Option.map_some]
    · simp only [List.map_cons, List.zip_cons_cons, Zt, hv, h3]; rfl
    · simp only [List.map_cons, List.zip_cons_cons, Yg, zN hv, h4, Option.map_some]
    · simp only [List.map_cons, asm, h5, Option.map_some]
    · simp only [List.map_cons, outF, h6, Option.map_some]
    · simp only [List.map_cons, backL, h7]
    · simp only [List.map_cons, List.zip_cons_cons, exB, h8]
theorem zgm (st : St) (b : Nat) (x y : Option (List AV)) : (st.put b x).put b y = st.put b y := by
  simp only [St.put]
  congr 1
  funext i
  by_cases ei : i = b
  · subst ei; rw [Zc, Zc]
  · rw [zd _ _ ei, zd _ _ ei, zd _ _ ei]
theorem callK.bx {P : Program} {p : List Nat} {fx a : AX} {as : List AX} {dst : Option Nat} {st st3 : St} {K : St → Prop} {f : FuncId} {b : Nat} {cs cs' vs : List AV} {ret y : AV} (d : Nat) (hf : fx.ev st.ρ = .clo f []) (hc : callB P f = true) (ha : a.ev st.ρ = .ref b 0) (hb : st.h b = some (some cs)) (hid : zb.idfreeL cs = true)
    (has : as.map (·.ev st.ρ) = vs) (hvs : ∀ v ∈ vs, shut v = true) (hR : Ret P f (.bx cs :: vs) ret (.bx cs' :: vs.map fun _ => .un)) (hl : cs'.length = cs.length) (hi : inst 64 d ret (st.put b (some cs')) = some (y, st3)) (hd : dOk p dst st3.n = true) (hK : K (st3.setO dst y)) : callK P p fx (a :: as) dst st K := by
  obtain ⟨h1, h2, h3, h4, h5, h6, h7, _⟩ := ros vs hvs
  have hlen : vs.length = as.length := by rw [← has]; simp
  refine callK.cut (.io :: vs.map fun _ => Md.ro) d (fl := (.io, .ref b 0) :: (vs.map fun _ => Md.ro).zip vs) (r := (some (.bx cs), some b) :: vs.map fun _ => (none, none)) (st1 := st.put b none) (yl := .bx cs :: vs) (ys := .bx cs :: vs) (ol := .bx cs' :: vs.map fun _ => .un) (st2 := st.put b (some cs')) hf hc (by simp [hlen]) ?_ ?_ ?_ ?_ ?_ hR ?_ ?_ hi hd hK
  · simp only [List.append_nil, List.map_cons, List.zip_cons_cons, has, ha, flatL, flat1, h1]; rfl
  · simp only [exL, ex1, hb, hid, if_true, h2, Option.map_some]
  · simp only [Zt, h3]; rfl
  · simp only [Yg, h4, Option.map_some]
  · simp only [asm, h5, Option.map_some]
  · simp only [outF, h6, Option.map_some]
  · have ig : zap ((st.put b none).h b) = true := by simp only [St.put]; rw [Zc]; rfl
    simp only [backL, hl, ig, and_self, if_true, zgm, h7]
theorem yf.bx {P : Program} {fx a : AX} {as : List AX} {dst : Option Nat} {E A : List Nat} {st st3 : St} {K : St → Prop} {f : FuncId} {b : Nat} {cs cs' vs : List AV} {ret y : AV} (d : Nat) (hf : fx.ev st.ρ = .clo f []) (hc : callB P f = true) (ha : a.ev st.ρ = .ref b 0) (hb : hideH A st.h b = some (some cs)) (hid : zb.idfreeL cs = true)
    (has : as.map (·.ev st.ρ) = vs) (hvs : ∀ v ∈ vs, shut v = true) (hR : Ret P f (.bx cs :: vs) ret (.bx cs' :: vs.map fun _ => .un)) (hl : cs'.length = cs.length) (hi : inst 64 d ret ((⟨st.ρ, hideH A st.h, st.n⟩ : St).put b (some cs')) = some (y, st3)) (hE : (b :: instB 64 d ret).all (fun b => E.elem b) = true) (hK : K ((⟨st.ρ, merge A st.h st3.h, st.n⟩ : St).setO dst y)) : yf P fx (a :: as) dst (E, A) st K := by
  obtain ⟨h1, h2, h3, h4, h5, h6, h7, h8⟩ := ros vs hvs
  have hlen : vs.length = as.length := by rw [← has]; simp
  refine yf.cut (.io :: vs.map fun _ => Md.ro) d (fl := (.io, .ref b 0) :: (vs.map fun _ => Md.ro).zip vs) (r := (some (.bx cs), some b) :: vs.map fun _ => (none, none)) (st1 := (⟨st.ρ, hideH A st.h, st.n⟩ : St).put b none) (yl := .bx cs :: vs) (ys := .bx cs :: vs) (ol := .bx cs' :: vs.map fun _ => .un) (st2 := (⟨st.ρ, hideH A st.h, st.n⟩ : St).put b (some cs')) hf hc (by simp [hlen]) ?_ ?_ ?_ ?_ ?_ hR ?_ ?_ hi ?_ hK
  · simp only [List.append_nil, List.map_cons, List.zip_cons_cons, has, ha, flatL, flat1, h1]; rfl
  · simp only [exL, ex1, hb, hid, if_true, h2, Option.map_some]
  · simp only [Zt, h3]; rfl
  · simp only [Yg, h4, Option.map_some]
  · simp only [asm, h5, Option.map_some]
  · simp only [outF, h6, Option.map_some]
  · have ig : zap (((⟨st.ρ, hideH A st.h, st.n⟩ : St).put b none).h b) = true := by simp only [St.put]; rw [Zc]; rfl
    simp only [backL, hl, ig, and_self, if_true, zgm, h7]
  · simpa [exB, h8] using hE
theorem callK.bm {P : Program} {p : List Nat} {fx a l : AX} {dst : Option Nat} {st : St} {K : St → Prop} {f : FuncId} (b b2 : Nat) {len sz : Nat} {cs cs2 cs' : List AV} {v : Value} (hf : fx.ev st.ρ = .clo f []) (hc : callB P f = true) (ha : a.ev st.ρ = .ref b 0) (hb : st.h b = some (some cs)) (hid : zb.idfreeL cs = true)
    (hl : l.ev st.ρ = .sl b2 0 len sz false) (hb2 : st.h b2 = some (some cs2)) (hl2 : cs2.length = len * sz) (hid2 : zb.idfreeL cs2 = true) (hne : b2 ≠ b) (hR : Ret P f [.bx cs, .own cs2 len sz] (.sc v) [.bx cs', .un]) (hl' : cs'.length = cs.length) (hd : dOk p dst st.n = true)
    (hK : K ((((st.put b none).put b2 none).put b (some cs')).setO dst (.sc v))) : callK P p fx [a, l] dst st K := by
  refine callK.cut [.io, .mv sz] 0 (fl := [(.io, .ref b 0), (.mv sz, .sl b2 0 len sz false)]) (r := [(some (.bx cs), some b), (some (.own cs2 len sz), none)]) (st1 := (st.put b none).put b2 none) (yl := [.bx cs, .own cs2 len sz]) (ys := [.bx cs, .own cs2 len sz]) (ol := [.bx cs', .un]) (st2 := ((st.put b none).put b2 none).put b (some cs')) (st3 := ((st.put b none).put b2 none).put b (some cs')) (y := .sc v) hf hc rfl ?_ ?_ ?_ ?_ ?_ hR ?_ ?_ (by rfl) hd hK
  · simp [ha, hl]; rfl
  · have e2 : (st.put b none).h b2 = some (some cs2) := by simp only [St.put]; rw [zd _ _ hne]; exact hb2
    simp [exL, ex1, hb, hid, e2, hl2, hid2]
  · rfl
  · rfl
  · rfl
  · rfl
  · have ig : zap (((st.put b none).put b2 none).h b) = true := by simp only [St.put]; rw [zd _ _ hne.symm, Zc]; rfl
    simp only [backL, hl', ig, and_self, if_true]
theorem yf.bm {P : Program} {fx a l : AX} {dst : Option Nat} {E A : List Nat} {st : St} {K : St → Prop} {f : FuncId} (b b2 : Nat) {len sz : Nat} {cs cs2 cs' : List AV} {v : Value} (hf : fx.ev st.ρ = .clo f []) (hc : callB P f = true) (ha : a.ev st.ρ = .ref b 0) (hb : hideH A st.h b = some (some cs)) (hid : zb.idfreeL cs = true)
    (hl : l.ev st.ρ = .sl b2 0 len sz false) (hb2 : hideH A st.h b2 = some (some cs2)) (hl2 : cs2.length = len * sz) (hid2 : zb.idfreeL cs2 = true) (hne : b2 ≠ b) (hR : Ret P f [.bx cs, .own cs2 len sz] (.sc v) [.bx cs', .un]) (hl' : cs'.length = cs.length) (hE : E.elem b = true ∧ E.elem b2 = true)
    (hK : K ((⟨st.ρ, merge A st.h ((((⟨st.ρ, hideH A st.h, st.n⟩ : St).put b none).put b2 none).put b (some cs')).h, st.n⟩ : St).setO dst (.sc v))) : yf P fx [a, l] dst (E, A) st K := by
  refine yf.cut [.io, .mv sz] 0 (fl := [(.io, .ref b 0), (.mv sz, .sl b2 0 len sz false)]) (r := [(some (.bx cs), some b), (some (.own cs2 len sz), none)]) (st1 := ((⟨st.ρ, hideH A st.h, st.n⟩ : St).put b none).put b2 none) (yl := [.bx cs, .own cs2 len sz]) (ys := [.bx cs, .own cs2 len sz]) (ol := [.bx cs', .un]) (st2 := (((⟨st.ρ, hideH A st.h, st.n⟩ : St).put b none).put b2 none).put b (some cs')) (st3 := (((⟨st.ρ, hideH A st.h, st.n⟩ : St).put b none).put b2 none).put b (some cs')) (y := .sc v) hf hc rfl ?_ ?_ ?_ ?_ ?_ hR ?_ ?_ (by rfl) ?_ hK
  · simp [ha, hl]; rfl
  · have e2 : ((⟨st.ρ, hideH A st.h, st.n⟩ : St).put b none).h b2 = some (some cs2) := by simp only [St.put]; rw [zd _ _ hne]; exact hb2
    simp [exL, ex1, hb, hid, e2, hl2, hid2]
  · rfl
  · rfl
  · rfl
  · rfl
  · have ig : zap ((((⟨st.ρ, hideH A st.h, st.n⟩ : St).put b none).put b2 none).h b) = true := by simp only [St.put]; rw [zd _ _ hne.symm, Zc]; rfl
    simp only [backL, hl', ig, and_self, if_true]
  · obtain ⟨e1, e2⟩ := hE
    simp only [List.elem_eq_contains] at e1 e2
    simp [exB, instB]
    simp at e1 e2
    exact ⟨e1, e2⟩
def cutQ (P : Program) (p : List Nat) (y : AC) (k : List KI) (Q : AE → St → Prop) : AE → St → Prop
  | .normal, s => ∃ s', Le s s' ∧ T P p y s' (pop P p k Q)
  | _, _ => False
theorem zdk {P : Program} {p : List Nat} {y : AC} {k : List KI} {Q : AE → St → Prop} {s : St} : cutQ P p y k Q .normal s = ∃ s', Le s s' ∧ T P p y s' (pop P p k Q) := rfl
theorem T.cutW {P : Program} {p : List Nat} {l : List (AOp × List Nat)} {y : AC} {k : List KI} {st : St} {Q : AE → St → Prop} (n : Nat) (es : List (List Nat × List Nat)) (hm : P.follows .mixedOrders = true) (hs : ordB l (zeS (l.map (·.2))) es = true) (hd : (l.all fun x => dOk p x.1.d st.n) = true)
    (h : runW P p n (l.map (·.1)) es [] (cutQ P p y k Q) st) : T P p (.any l) st (pop P p (.after y :: k) Q) := by
  refine T.mono (T.textW n es hm hs hd h) fun e s he => ?_
  rw [yH] at he
  cases e with
  | normal =>
    obtain ⟨s', h1, h2⟩ := he
    rw [Zw]
    exact T.le h1 h2
  | exit => exact he.elim
  | ret => exact he.elim
end Go.Proofs.YtopofpihpnjmbaaGreatDoor.Am
