/- What is marked and held: a slice handed over to be written, empty or not; no program. -/
import Derived.Test.YtiejaibmcmicoaaGreatDoorAmZ
namespace Go.Proofs.YtiejaibmcmicoaaGreatDoor.Am
open Go
set_option linter.unusedSimpArgs false
set_option linter.unusedVariables false
def MRet (P : Program) (f : FuncId) (cs : List AV) (len sz : Nat) (v r : AV) (cs' : List AV) : Prop :=
  (0 < len → Ret P f [.io cs len sz, v] r [.io cs' len sz, .un]) ∧ (len = 0 → Ret P f [.ro [] 0, v] r [.un, .un])
theorem callK.io {P : Program} {p : List Nat} {fx a c : AX} {dst : Option Nat} {st : St} {K : St → Prop} {f : FuncId} {b len sz : Nat} {cs cs' : List AV} {v : AV} {k' : Int} (hf : fx.ev st.ρ = .clo f []) (hc : callB P f = true) (ha : a.ev st.ρ = .sl b 0 len sz false) (hb : st.h b = some (some cs)) (hl : cs.length = len * sz) (hid : idfree.idfreeL cs = true)
    (hv : c.ev st.ρ = v) (hvs : shut v = true) (hR : MRet P f cs len sz v (.sc (.int .i64 k')) cs') (hl' : cs'.length = cs.length) (hfl : flt.fltL cs' = true) (hd : dOk p dst st.n = true) (hK : K ((st.put b (some cs')).setO dst (.sc (.int .i64 k')))) : callK P p fx [a, c] dst st K := by
  by_cases h0 : len = 0
  · subst h0
    have e : cs = [] := List.length_eq_zero_iff.1 (by omega)
    subst e
    have e' : cs' = [] := List.length_eq_zero_iff.1 (by simpa using hl')
    subst e'
    have eh : st.put b (some []) = st := by
      cases st
      simp only [St.put] at hb ⊢
      congr 1
      funext i
      by_cases ei : i = b
      · subst ei; rw [upd_same, hb]
      · rw [upd_ne _ _ ei]
    rw [eh] at hK
    refine callK.ro (st3 := st) (y := .sc (.int .i64 k')) 0 hf hc (ys := [.ro [] 0, v]) ?_ (hR.2 rfl) (by rfl) (by rfl) hd hK
    have e1 : roc st.h 8 (.sl b 0 0 sz false) = some (.ro [] 0) := roc_sl hb hl (by rfl)
    have e2 : roc st.h 8 v = some v := roc_sh hvs
    simp [ha, hv, e1, e2]
  · have hpos : 0 < len := by omega
    refine callK.gen [.io, .ro] 0 (st1 := st.put b none) (fl := [(.io, .sl b 0 len sz false), (.ro, v)]) (r := [(some (.io cs len sz), some b), (none, none)]) (yl := [.io cs len sz, v]) (ys := [.io cs len sz, v]) (ol := [.io cs' len sz, .un]) (st2 := st.put b (some cs')) (st3 := st.put b (some cs')) hf hc rfl ?_ ?_ ?_ rfl (hR.1 hpos) rfl ⟨by rfl, ?_⟩ ?_ (by rfl) ?_ hK
    · simp [ha, hv]; rfl
    · simp [exL, ex1, hb, hl, hid]
    · have e2 : roc (st.put b none).h 8 v = some v := roc_sh hvs
      simp [shutArgs, e2]
    · simp [flt.fltL, flt, hfl]
    · have eg : ((st.put b none).put b (some cs')) = st.put b (some cs') := by
        simp only [St.put]
        congr 1
        funext i
        by_cases ei : i = b
        · subst ei; rw [upd_same, upd_same]
        · rw [upd_ne _ _ ei, upd_ne _ _ ei, upd_ne _ _ ei]
      have ig : isGone ((st.put b none).h b) = true := by simp only [St.put]; rw [upd_same]; rfl
      simp [backL, hl', ig, eg]
    · exact hd
def ysOn : List Nat → List AV → List AV
  | d :: ds, .own _ len sz :: l => .sl d 0 len sz false :: ysOn ds l
  | _ :: ds, c :: l => c :: ysOn ds l
  | [], _ => []
  | _, [] => []
theorem Le.packOn (b : Nat) (post : List AV) : ∀ (oc : List AV) (ds : List Nat) (pre : List AV) (h : Hp), ds.length = oc.length → h b = some (some (pre ++ (ysOn ds oc ++ post))) → (∀ c ∈ oc, OwnC c) → (∀ (i d : Nat) (cs : List AV) (len sz : Nat), ds[i]? = some d → oc[i]? = some (AV.own cs len sz) → h d = some (some cs)) → ds.Nodup → b ∉ ds →
    ∃ h', (∀ ρ n, Le ⟨ρ, h, n⟩ ⟨ρ, h', n⟩) ∧ h' b = some (some (pre ++ (oc ++ post))) ∧ ∀ c, c ≠ b → c ∉ ds → h' c = h c
  | [], ds, pre, h, hn, hb, _, _, _, _ => ⟨h, fun _ _ => Le.refl _, by rw [hb]; cases ds <;> rfl, fun _ _ _ => rfl⟩
  | c :: oc, [], pre, h, hn, _, _, _, _, _ => by simp at hn
  | c :: oc, d :: ds, pre, h, hn, hb, ho, hh, hnd, hbd => by
    simp only [List.length_cons] at hn
    obtain ⟨n1, n2⟩ := List.nodup_cons.1 hnd
    have hbd1 : d ≠ b := fun e => hbd (by simp [e])
    have hbd2 : b ∉ ds := fun e => hbd (by simp [e])
    rcases ho c (by simp) with ⟨cs, len, sz, rfl, hl, hid, hfl⟩ | ⟨v, rfl⟩
    · simp only [ysOn] at hb
      have hi := hh 0 d cs len sz rfl rfl
      have hj : (pre ++ (AV.sl d 0 len sz false :: ysOn ds oc ++ post))[pre.length]? = some (.sl d 0 len sz false) := by
        rw [List.getElem?_append_right (Nat.le_refl _)]; simp
      have hp := fun (ρ : Nat → AV) (n : Nat) => Le.pack (st := ⟨ρ, h, n⟩) b pre.length hb hj hi hbd1 hl hid
      have hset : (pre ++ (AV.sl d 0 len sz false :: ysOn ds oc ++ post)).set pre.length (.own cs len sz) = (pre ++ [.own cs len sz]) ++ (ysOn ds oc ++ post) := by
        rw [List.set_append_right _ _ (Nat.le_refl _)]; simp
      simp only [hset] at hp
      obtain ⟨h', k1, k2, k3⟩ := Le.packOn b post oc ds (pre ++ [.own cs len sz]) (upd (upd (upd h d (some none)) b (some none)) b (some (some ((pre ++ [.own cs len sz]) ++ (ysOn ds oc ++ post))))) (by omega) (by rw [upd_same]) (fun c hc => ho c (by simp [hc])) (fun i d' cs' len' sz' hd' hi' => by
        have hm := List.mem_of_getElem? hd'
        have nb : d' ≠ b := fun e => hbd2 (e ▸ hm)
        have nd : d' ≠ d := fun e => n1 (e ▸ hm)
        rw [upd_ne _ _ nb, upd_ne _ _ nb, upd_ne _ _ nd]
        exact hh (i + 1) d' cs' len' sz' (by simpa using hd') (by simpa using hi')) n2 hbd2
      refine ⟨h', fun ρ n => Le.trans (hp ρ n) (k1 ρ n), by rw [k2]; simp, fun c hc hcd => ?_⟩
      simp only [List.mem_cons, not_or] at hcd
      rw [k3 c hc hcd.2, upd_ne _ _ hc, upd_ne _ _ hc, upd_ne _ _ hcd.1]
    · simp only [ysOn] at hb
      obtain ⟨h', k1, k2, k3⟩ := Le.packOn b post oc ds (pre ++ [.sc v]) h (by omega) (by rw [hb]; simp) (fun c hc => ho c (by simp [hc])) (fun i d' cs' len' sz' hd' hi' => hh (i + 1) d' cs' len' sz' (by simpa using hd') (by simpa using hi')) n2 hbd2
      refine ⟨h', k1, by rw [k2]; simp, fun c hc hcd => ?_⟩
      simp only [List.mem_cons, not_or] at hcd
      exact k3 c hc hcd.2
def oneH (b : Nat) (cs : List AV) : Hp := fun c => if c = b then some (some cs) else none
theorem Le.grow {ρ : Nat → AV} {h : Hp} {n : Nat} {I : St → Prop} (ks : List Nat) (d b : Nat) (ds : List Nat) (pre oc : List AV) (hn : ds.length = oc.length) (hb : h d = some (some (pre ++ ysOn ds oc))) (ho : ∀ c ∈ oc, OwnC c) (hpre : ∀ c ∈ pre, idfree c = true)
    (hh : ∀ (i e : Nat) (cs : List AV) (len sz : Nat), ds[i]? = some e → oc[i]? = some (AV.own cs len sz) → h e = some (some cs)) (hnd : ds.Nodup) (hd : d ∉ ds) (h1 : ∀ t, t ∈ ks → menB [d] (ρ t) = true)
    (hI : I ⟨keepR ks [(d, b)] ρ, oneH b (pre ++ oc), n⟩) : ∃ s, Le ⟨ρ, h, n⟩ s ∧ I s := by
  obtain ⟨h', k1, k2, _⟩ := Le.packOn d [] oc ds pre h hn (by simpa using hb) ho hh hnd hd
  simp only [List.append_nil] at k2
  have e : keepHR [(d, b)] h' = oneH b (pre ++ oc) := by
    funext c
    by_cases ec : c = b
    · subst ec; simp [keepHR, oneH, k2]
    · have ec' : ¬ b = c := fun e => ec e.symm
      simp [keepHR, oneH, ec, ec']
  have hr := Le.reseat (st := ⟨ρ, h', n⟩) ks [(d, b)] (by simp) (by simpa using h1) (by
    intro c hc cs hcs
    simp at hc
    subst hc
    have hcs : h' c = some (some cs) := hcs
    rw [k2] at hcs
    simp at hcs
    subst hcs
    intro y hy
    rcases List.mem_append.1 hy with hy | hy
    · exact hpre y hy
    · exact (ho y hy).fr)
  rw [e] at hr
  exact ⟨_, Le.trans (k1 ρ n) hr, hI⟩
theorem Le.layC {st : St} (b j sz : Nat) {cs : List AV} (hb : st.h b = some (some cs)) (hj : cs[j]? = some .em) :
    Le st ⟨st.ρ, upd (upd st.h b (some none)) b (some (some (cs.set j (.own [] 0 sz)))), st.n⟩ := by
  rintro E tm w ⟨φ, M, L, I⟩
  let a : Act := { tmps := tm, defers := [] }
  have I0 : Inv E φ M L st a.tmps w := I
  have hjl : j < cs.length := (List.getElem?_eq_some_iff.1 hj).1
  rcases I0.root b cs hb with ⟨rfl, _, _⟩ | ⟨l, C, us, F, h1, h2, h3, ⟨Fs, k1, k2, k3, k4, k5⟩, h6, h7⟩
  · simp at hjl
  obtain ⟨I1, hfree⟩ := I0.kill hb
  have hnd := I0.nodup b cs hb
  have hcell : ∀ (q : Nat) (x : AV) (v : Value) (F : List Nat), (cs.set j (.own [] 0 sz))[q]? = some x → us[q]? = some v → Fs[q]? = some F → V φ M w x v F := fun q x v F hq hvq hFq => by
    by_cases e : q = j
    · subst e
      rw [List.getElem?_set_self hjl] at hq; cases hq
      have hv := (k5 q _ v F hj hvq hFq).free (φ' := nof) rfl
      exact (coe_ok (x := .em) (y := .own [] 0 sz) ⟨rfl, rfl⟩ hv).lift φ
    · rw [List.getElem?_set_ne (fun e' => e e'.symm)] at hq
      exact k5 q x v F hq hvq hFq
  obtain ⟨I3, _⟩ := I1.put (d := b) (by simp [St.put, upd_same]) (cs := cs.set j (.own [] 0 sz)) (some l) (.inr h1) (fun g hg => ⟨hfree g hg, I0.low b cs hb g hg⟩) hnd
    (.inr ⟨l, C, us, F, upd_same _ _ _, h2, h3, ⟨Fs, by simpa using k1, by simpa using k2, k3, k4, fun q x v G a1 a2 a3 => (hcell q x v G a1 a2 a3).mono (fun b' l' h => by
      by_cases e : b' = b
      · subst e; rw [upd_same]; rw [h1] at h; exact h
      · rw [upd_ne _ _ e]; exact h) (fun _ h => h) (fun _ _ => rfl)⟩, h6, h7⟩)
  exact ⟨_, _, _, I3⟩
theorem ros : ∀ vs : List AV, (∀ v ∈ vs, shut v = true) → flatL ((vs.map fun _ => Md.ro).zip vs) = some ((vs.map fun _ => Md.ro).zip vs) ∧ (∀ st, exL ((vs.map fun _ => Md.ro).zip vs) st = some (vs.map fun _ => (none, none), st)) ∧ closedB ((vs.map fun _ => Md.ro).zip vs) (vs.map fun _ => (none, none)) = true ∧
    (∀ h, shutArgs h ((vs.map fun _ => Md.ro).zip vs) (vs.map fun _ => (none, none)) = some vs) ∧ asm (vs.map fun _ => Md.ro) vs = some vs ∧ outF (vs.map fun _ => Md.ro) (vs.map fun _ => .un) = some (vs.map fun _ => .un) ∧ (∀ st, backL (vs.map fun _ => (none, none)) (vs.map fun _ => .un) st = some st) ∧ exB ((vs.map fun _ => Md.ro).zip vs) = []
  | [], _ => ⟨rfl, fun _ => rfl, rfl, fun _ => rfl, rfl, rfl, fun _ => rfl, rfl⟩
  | v :: vs, h => by
    obtain ⟨h1, h2, h3, h4, h5, h6, h7, h8⟩ := ros vs fun x hx => h x (by simp [hx])
    have hv := h v (by simp)
    refine ⟨?_, fun st => ?_, ?_, fun hh => ?_, ?_, ?_, fun st => ?_, ?_⟩
    · simp only [List.map_cons, List.zip_cons_cons, flatL, flat1, h1]; rfl
    · simp only [List.map_cons, List.zip_cons_cons, exL, ex1, h2, Option.map_some]
    · simp only [List.map_cons, List.zip_cons_cons, closedB, hv, h3]; rfl
    · simp only [List.map_cons, List.zip_cons_cons, shutArgs, roc_sh hv, h4, Option.map_some]
    · simp only [List.map_cons, asm, h5, Option.map_some]
    · simp only [List.map_cons, outF, h6, Option.map_some]
    · simp only [List.map_cons, backL, h7]
    · simp only [List.map_cons, List.zip_cons_cons, exB, h8]
theorem putTwo (st : St) (b : Nat) (x y : Option (List AV)) : (st.put b x).put b y = st.put b y := by
  simp only [St.put]
  congr 1
  funext i
  by_cases ei : i = b
  · subst ei; rw [upd_same, upd_same]
  · rw [upd_ne _ _ ei, upd_ne _ _ ei, upd_ne _ _ ei]
theorem callK.bx {P : Program} {p : List Nat} {fx a : AX} {as : List AX} {dst : Option Nat} {st st3 : St} {K : St → Prop} {f : FuncId} {b : Nat} {cs cs' vs : List AV} {ret y : AV} (d : Nat) (hf : fx.ev st.ρ = .clo f []) (hc : callB P f = true) (ha : a.ev st.ρ = .ref b 0) (hb : st.h b = some (some cs)) (hid : idfree.idfreeL cs = true)
    (has : as.map (·.ev st.ρ) = vs) (hvs : ∀ v ∈ vs, shut v = true) (hR : Ret P f (.bx cs :: vs) ret (.bx cs' :: vs.map fun _ => .un)) (hl : cs'.length = cs.length) (hi : inst 64 d ret (st.put b (some cs')) = some (y, st3)) (hd : dOk p dst st3.n = true) (hK : K (st3.setO dst y)) : callK P p fx (a :: as) dst st K := by
  obtain ⟨h1, h2, h3, h4, h5, h6, h7, _⟩ := ros vs hvs
  have hlen : vs.length = as.length := by rw [← has]; simp
  refine callK.cut (.io :: vs.map fun _ => Md.ro) d (fl := (.io, .ref b 0) :: (vs.map fun _ => Md.ro).zip vs) (r := (some (.bx cs), some b) :: vs.map fun _ => (none, none)) (st1 := st.put b none) (yl := .bx cs :: vs) (ys := .bx cs :: vs) (ol := .bx cs' :: vs.map fun _ => .un) (st2 := st.put b (some cs')) hf hc (by simp [hlen]) ?_ ?_ ?_ ?_ ?_ hR ?_ ?_ hi hd hK
  · simp only [List.append_nil, List.map_cons, List.zip_cons_cons, has, ha, flatL, flat1, h1]; rfl
  · simp only [exL, ex1, hb, hid, if_true, h2, Option.map_some]
  · simp only [closedB, h3]; rfl
  · simp only [shutArgs, h4, Option.map_some]
  · simp only [asm, h5, Option.map_some]
  · simp only [outF, h6, Option.map_some]
  · have ig : isGone ((st.put b none).h b) = true := by simp only [St.put]; rw [upd_same]; rfl
    simp only [backL, hl, ig, and_self, if_true, putTwo, h7]
theorem callWK.bx {P : Program} {fx a : AX} {as : List AX} {dst : Option Nat} {E A : List Nat} {st st3 : St} {K : St → Prop} {f : FuncId} {b : Nat} {cs cs' vs : List AV} {ret y : AV} (d : Nat) (hf : fx.ev st.ρ = .clo f []) (hc : callB P f = true) (ha : a.ev st.ρ = .ref b 0) (hb : hideH A st.h b = some (some cs)) (hid : idfree.idfreeL cs = true)
    (has : as.map (·.ev st.ρ) = vs) (hvs : ∀ v ∈ vs, shut v = true) (hR : Ret P f (.bx cs :: vs) ret (.bx cs' :: vs.map fun _ => .un)) (hl : cs'.length = cs.length) (hi : inst 64 d ret ((⟨st.ρ, hideH A st.h, st.n⟩ : St).put b (some cs')) = some (y, st3)) (hE : (b :: instB 64 d ret).all (fun b => E.elem b) = true) (hK : K ((⟨st.ρ, merge A st.h st3.h, st.n⟩ : St).setO dst y)) : callWK P fx (a :: as) dst (E, A) st K := by
  obtain ⟨h1, h2, h3, h4, h5, h6, h7, h8⟩ := ros vs hvs
  have hlen : vs.length = as.length := by rw [← has]; simp
  refine callWK.cut (.io :: vs.map fun _ => Md.ro) d (fl := (.io, .ref b 0) :: (vs.map fun _ => Md.ro).zip vs) (r := (some (.bx cs), some b) :: vs.map fun _ => (none, none)) (st1 := (⟨st.ρ, hideH A st.h, st.n⟩ : St).put b none) (yl := .bx cs :: vs) (ys := .bx cs :: vs) (ol := .bx cs' :: vs.map fun _ => .un) (st2 := (⟨st.ρ, hideH A st.h, st.n⟩ : St).put b (some cs')) hf hc (by simp [hlen]) ?_ ?_ ?_ ?_ ?_ hR ?_ ?_ hi ?_ hK
  · simp only [List.append_nil, List.map_cons, List.zip_cons_cons, has, ha, flatL, flat1, h1]; rfl
  · simp only [exL, ex1, hb, hid, if_true, h2, Option.map_some]
  · simp only [closedB, h3]; rfl
  · simp only [shutArgs, h4, Option.map_some]
  · simp only [asm, h5, Option.map_some]
  · simp only [outF, h6, Option.map_some]
  · have ig : isGone (((⟨st.ρ, hideH A st.h, st.n⟩ : St).put b none).h b) = true := by simp only [St.put]; rw [upd_same]; rfl
    simp only [backL, hl, ig, and_self, if_true, putTwo, h7]
  · simpa [exB, h8] using hE
theorem callK.bm {P : Program} {p : List Nat} {fx a l : AX} {dst : Option Nat} {st : St} {K : St → Prop} {f : FuncId} (b b2 : Nat) {len sz : Nat} {cs cs2 cs' : List AV} {v : Value} (hf : fx.ev st.ρ = .clo f []) (hc : callB P f = true) (ha : a.ev st.ρ = .ref b 0) (hb : st.h b = some (some cs)) (hid : idfree.idfreeL cs = true)
    (hl : l.ev st.ρ = .sl b2 0 len sz false) (hb2 : st.h b2 = some (some cs2)) (hl2 : cs2.length = len * sz) (hid2 : idfree.idfreeL cs2 = true) (hne : b2 ≠ b) (hR : Ret P f [.bx cs, .own cs2 len sz] (.sc v) [.bx cs', .un]) (hl' : cs'.length = cs.length) (hd : dOk p dst st.n = true)
    (hK : K ((((st.put b none).put b2 none).put b (some cs')).setO dst (.sc v))) : callK P p fx [a, l] dst st K := by
  refine callK.cut [.io, .mv sz] 0 (fl := [(.io, .ref b 0), (.mv sz, .sl b2 0 len sz false)]) (r := [(some (.bx cs), some b), (some (.own cs2 len sz), none)]) (st1 := (st.put b none).put b2 none) (yl := [.bx cs, .own cs2 len sz]) (ys := [.bx cs, .own cs2 len sz]) (ol := [.bx cs', .un]) (st2 := ((st.put b none).put b2 none).put b (some cs')) (st3 := ((st.put b none).put b2 none).put b (some cs')) (y := .sc v) hf hc rfl ?_ ?_ ?_ ?_ ?_ hR ?_ ?_ (by rfl) hd hK
  · simp [ha, hl]; rfl
  · have e2 : (st.put b none).h b2 = some (some cs2) := by simp only [St.put]; rw [upd_ne _ _ hne]; exact hb2
    simp [exL, ex1, hb, hid, e2, hl2, hid2]
  · rfl
  · rfl
  · rfl
  · rfl
  · have ig : isGone (((st.put b none).put b2 none).h b) = true := by simp only [St.put]; rw [upd_ne _ _ hne.symm, upd_same]; rfl
    simp only [backL, hl', ig, and_self, if_true]
theorem callWK.bm {P : Program} {fx a l : AX} {dst : Option Nat} {E A : List Nat} {st : St} {K : St → Prop} {f : FuncId} (b b2 : Nat) {len sz : Nat} {cs cs2 cs' : List AV} {v : Value} (hf : fx.ev st.ρ = .clo f []) (hc : callB P f = true) (ha : a.ev st.ρ = .ref b 0) (hb : hideH A st.h b = some (some cs)) (hid : idfree.idfreeL cs = true)
    (hl : l.ev st.ρ = .sl b2 0 len sz false) (hb2 : hideH A st.h b2 = some (some cs2)) (hl2 : cs2.length = len * sz) (hid2 : idfree.idfreeL cs2 = true) (hne : b2 ≠ b) (hR : Ret P f [.bx cs, .own cs2 len sz] (.sc v) [.bx cs', .un]) (hl' : cs'.length = cs.length) (hE : E.elem b = true ∧ E.elem b2 = true)
    (hK : K ((⟨st.ρ, merge A st.h ((((⟨st.ρ, hideH A st.h, st.n⟩ : St).put b none).put b2 none).put b (some cs')).h, st.n⟩ : St).setO dst (.sc v))) : callWK P fx [a, l] dst (E, A) st K := by
  refine callWK.cut [.io, .mv sz] 0 (fl := [(.io, .ref b 0), (.mv sz, .sl b2 0 len sz false)]) (r := [(some (.bx cs), some b), (some (.own cs2 len sz), none)]) (st1 := ((⟨st.ρ, hideH A st.h, st.n⟩ : St).put b none).put b2 none) (yl := [.bx cs, .own cs2 len sz]) (ys := [.bx cs, .own cs2 len sz]) (ol := [.bx cs', .un]) (st2 := (((⟨st.ρ, hideH A st.h, st.n⟩ : St).put b none).put b2 none).put b (some cs')) (st3 := (((⟨st.ρ, hideH A st.h, st.n⟩ : St).put b none).put b2 none).put b (some cs')) (y := .sc v) hf hc rfl ?_ ?_ ?_ ?_ ?_ hR ?_ ?_ (by rfl) ?_ hK
  · simp [ha, hl]; rfl
  · have e2 : ((⟨st.ρ, hideH A st.h, st.n⟩ : St).put b none).h b2 = some (some cs2) := by simp only [St.put]; rw [upd_ne _ _ hne]; exact hb2
    simp [exL, ex1, hb, hid, e2, hl2, hid2]
  · rfl
  · rfl
  · rfl
  · rfl
  · have ig : isGone ((((⟨st.ρ, hideH A st.h, st.n⟩ : St).put b none).put b2 none).h b) = true := by simp only [St.put]; rw [upd_ne _ _ hne.symm, upd_same]; rfl
    simp only [backL, hl', ig, and_self, if_true]
  · obtain ⟨e1, e2⟩ := hE
    simp only [List.elem_eq_contains] at e1 e2
    simp [exB, instB]
    simp at e1 e2
    exact ⟨e1, e2⟩
end Go.Proofs.YtiejaibmcmicoaaGreatDoor.Am
