/- Slices cut, copied within, cleared: slices.Insert, slices.DeleteFunc, slices.Clip; no condition. -/
import Derived.Test.YtopofpihpnjmbaaGreatDoorAmM
import Derived.Laws.Externs
namespace Go.Proofs.YtopofpihpnjmbaaGreatDoor.Am
open Go
set_option linter.unusedSimpArgs false
set_option linter.unusedVariables false
attribute [local congr] yP yt zq
attribute [local simp] yM ZM zM yL zC Zy YL ZB zk Zo YB Zk Yo yB YM YC yC ZC zJ YI yI y1 Z1 Z2 Y1 ZW zW yW ZD Za Ya wblk zD yy YO zP aval dOk za ev_t ev_c zw zy yZ yA isIo hasIo sbin endR fin resL one outL out1 clo1 cloL coe coeL shut shut.shutL wantA weff cellsOf fillA deref natOf ρ0_app Y0 plain plain.plainL Zf Ye Yk Yt Zq yH Zw Zn yk ZN zt Zp nilA srcOf Zr Yp yn renA rb dstA lenA cutA
theorem callK.ext {P : Program} {p : List Nat} {fx : AX} {xs : List AX} {dst : Option Nat} {st : St} {K : St → Prop} {f : FuncId} {y : AV} (hf : fx.ev st.ρ = .clo f []) (hx : ExtT P f (xs.map (·.ev st.ρ)) st y) (hd : dOk p dst st.n = true) (hK : K (st.setO dst y)) : callK P p fx xs dst st K := .inr (.inl ⟨f, y, hf, hx, hd, hK⟩)
theorem roL {h : Hp} : ∀ (xs ys : List AV), xs.mapM (roc h 8) = some ys → (∀ st, exL ((xs.map fun _ => Md.ro).zip xs) st = some (xs.map fun _ => (none, none), st)) ∧ Yg h ((xs.map fun _ => Md.ro).zip xs) (xs.map fun _ => (none, none)) = some ys ∧
    (∀ st, backL (xs.map fun _ => (none, none)) (ys.map fun _ => .un) st = some st) ∧ flatL ((xs.map fun _ => Md.ro).zip xs) = some ((xs.map fun _ => Md.ro).zip xs) ∧ asm (xs.map fun _ => Md.ro) ys = some ys ∧ outF (xs.map fun _ => Md.ro) (ys.map fun _ => .un) = some (ys.map fun _ => .un) ∧ flt.fltL (ys.map fun _ => AV.un) = true := by
  intro xs
  induction xs with
  | nil => intro ys h; simp at h; subst h; exact ⟨fun _ => rfl, rfl, fun _ => rfl, rfl, rfl, rfl, rfl⟩
  | cons x xs ih =>
    intro ys h
    simp only [List.mapM_cons, Option.bind_eq_bind, Option.bind_eq_some_iff, Option.pure_def, Option.some.injEq] at h
    obtain ⟨y, hy, ys', hys', rfl⟩ := h
    obtain ⟨h1, h2, h3, h4, h5, h6, h7⟩ := ih ys' hys'
    refine ⟨fun st => by simp [exL, ex1, h1], by simp [Yg, hy, h2], fun st => by simp [backL, h3], by simp [flatL, flat1, h4], by simp [asm, h5], by simp [outF, h6], by simpa [flt.fltL, flt] using h7⟩
theorem callK.mv1 {P : Program} {p : List Nat} {fx a : AX} {as : List AX} {dst : Option Nat} {st st3 : St} {K : St → Prop} {f : FuncId} {len sz : Nat} {cs vs : List AV} {ret y : AV} (d b : Nat) (hf : fx.ev st.ρ = .clo f []) (hc : callB P f = true) (ha : a.ev st.ρ = .sl b 0 len sz false) (hb : st.h b = some (some cs)) (hl : cs.length = len * sz) (hid : zb.idfreeL cs = true)
    (hys : (as.map (·.ev st.ρ)).mapM (roc (st.put b none).h 8) = some vs) (hR : Ret P f (.own cs len sz :: vs) ret (.un :: vs.map fun _ => .un)) (hfl : flt ret = true) (hi : inst 64 d ret (st.put b none) = some (y, st3)) (hd : dOk p dst st3.n = true) (hK : K (st3.setO dst y)) : callK P p fx (a :: as) dst st K := by
  obtain ⟨h1, h2, h3, h4, h5, h6, h7⟩ := roL _ _ hys
  refine callK.gen (.mv sz :: as.map fun _ => Md.ro) d (fl := (.mv sz, .sl b 0 len sz false) :: ((as.map (·.ev st.ρ)).map fun _ => Md.ro).zip (as.map (·.ev st.ρ))) (r := (some (.own cs len sz), none) :: (as.map (·.ev st.ρ)).map fun _ => (none, none)) (st1 := st.put b none) (yl := .own cs len sz :: vs) (ys := .own cs len sz :: vs) (ol := .un :: vs.map fun _ => .un) (st2 := st.put b none) hf hc (by simp) ?_ ?_ ?_ ?_ hR ?_ ⟨hfl, ?_⟩ ?_ hi hd hK
  · have := h4
    simp only [List.map_map, Function.comp_def] at this ⊢
    simp only [List.append_nil, List.map_cons, List.zip_cons_cons, ha, flatL, flat1, this]; rfl
  · simp only [exL, ex1, hb]
    rw [if_pos ⟨trivial, hl, hid⟩]
    simp only [h1, Option.map_some]
  · simp only [Yg, h2, Option.map_some]
  · have := h5
    simp only [List.map_map, Function.comp_def] at this
    simp only [asm, this, Option.map_some]
  · have := h6
    simp only [List.map_map, Function.comp_def] at this
    simp only [outF]
    rw [show (vs.map fun _ => AV.un) = vs.map (fun _ => .un) from rfl, this]; rfl
  · simpa [flt.fltL, flt] using h7
  · simp only [backL, h3]
theorem roB {xs : List AV} : exB ((xs.map fun _ => Md.ro).zip xs) = [] := by
  induction xs with
  | nil => rfl
  | cons x xs ih => simpa [exB] using ih
theorem yf.mv1 {P : Program} {fx a : AX} {as : List AX} {dst : Option Nat} {E A : List Nat} {st st3 : St} {K : St → Prop} {f : FuncId} {len sz : Nat} {cs vs : List AV} {ret y : AV} (d b : Nat) (hf : fx.ev st.ρ = .clo f []) (hc : callB P f = true) (ha : a.ev st.ρ = .sl b 0 len sz false) (hb : hideH A st.h b = some (some cs)) (hl : cs.length = len * sz) (hid : zb.idfreeL cs = true)
    (hys : (as.map (·.ev st.ρ)).mapM (roc ((⟨st.ρ, hideH A st.h, st.n⟩ : St).put b none).h 8) = some vs) (hR : Ret P f (.own cs len sz :: vs) ret (.un :: vs.map fun _ => .un)) (hfl : flt ret = true) (hi : inst 64 d ret ((⟨st.ρ, hideH A st.h, st.n⟩ : St).put b none) = some (y, st3)) (hE : (b :: instB 64 d ret).all (fun b => E.elem b) = true)
    (hK : K ((⟨st.ρ, merge A st.h st3.h, st.n⟩ : St).setO dst y)) : yf P fx (a :: as) dst (E, A) st K := by
  obtain ⟨h1, h2, h3, h4, h5, h6, h7⟩ := roL _ _ hys
  refine yf.gen (.mv sz :: as.map fun _ => Md.ro) d (fl := (.mv sz, .sl b 0 len sz false) :: ((as.map (·.ev st.ρ)).map fun _ => Md.ro).zip (as.map (·.ev st.ρ))) (r := (some (.own cs len sz), none) :: (as.map (·.ev st.ρ)).map fun _ => (none, none)) (st1 := (⟨st.ρ, hideH A st.h, st.n⟩ : St).put b none) (yl := .own cs len sz :: vs) (ys := .own cs len sz :: vs) (ol := .un :: vs.map fun _ => .un) (st2 := (⟨st.ρ, hideH A st.h, st.n⟩ : St).put b none) hf hc (by simp) ?_ ?_ ?_ ?_ hR ?_ ⟨hfl, ?_⟩ ?_ hi ?_ hK
  · have := h4
    simp only [List.map_map, Function.comp_def] at this ⊢
    simp only [List.append_nil, List.map_cons, List.zip_cons_cons, ha, flatL, flat1, this]; rfl
  · simp only [exL, ex1, hb]
    rw [if_pos ⟨trivial, hl, hid⟩]
    simp only [h1, Option.map_some]
  · simp only [Yg, h2, Option.map_some]
  · have := h5
    simp only [List.map_map, Function.comp_def] at this
    simp only [asm, this, Option.map_some]
  · have := h6
    simp only [List.map_map, Function.comp_def] at this
    simp only [outF]
    rw [show (vs.map fun _ => AV.un) = vs.map (fun _ => .un) from rfl, this]; rfl
  · simpa [flt.fltL, flt] using h7
  · simp only [backL, h3]
  · have := roB (xs := as.map (·.ev st.ρ))
    simp only [exB, this]
    exact hE
theorem callK.mv2 {P : Program} {p : List Nat} {fx a i l : AX} {dst : Option Nat} {st st3 : St} {K : St → Prop} {f : FuncId} {len sz len2 sz2 : Nat} {cs cs2 : List AV} {v : Value} {ret y : AV} (d b b2 : Nat) (hf : fx.ev st.ρ = .clo f []) (hc : callB P f = true) (ha : a.ev st.ρ = .sl b 0 len sz false) (hb : st.h b = some (some cs)) (hl : cs.length = len * sz) (hid : zb.idfreeL cs = true)
    (hv : i.ev st.ρ = .sc v) (hl1 : l.ev st.ρ = .sl b2 0 len2 sz2 false) (hb2 : st.h b2 = some (some cs2)) (hl2 : cs2.length = len2 * sz2) (hid2 : zb.idfreeL cs2 = true) (hne : b2 ≠ b) (hR : Ret P f [.own cs len sz, .sc v, .own cs2 len2 sz2] ret [.un, .un, .un]) (hfl : flt ret = true)
    (hi : inst 64 d ret ((st.put b none).put b2 none) = some (y, st3)) (hd : dOk p dst st3.n = true) (hK : K (st3.setO dst y)) : callK P p fx [a, i, l] dst st K := by
  refine callK.gen [.mv sz, .ro, .mv sz2] d (fl := [(.mv sz, .sl b 0 len sz false), (.ro, .sc v), (.mv sz2, .sl b2 0 len2 sz2 false)]) (r := [(some (.own cs len sz), none), (none, none), (some (.own cs2 len2 sz2), none)]) (st1 := (st.put b none).put b2 none) (yl := [.own cs len sz, .sc v, .own cs2 len2 sz2]) (ys := [.own cs len sz, .sc v, .own cs2 len2 sz2]) (ol := [.un, .un, .un]) (st2 := (st.put b none).put b2 none) hf hc rfl ?_ ?_ ?_ ?_ hR ?_ ⟨hfl, rfl⟩ ?_ hi hd hK
  · simp [ha, hv, hl1]; rfl
  · have e2 : (st.put b none).h b2 = some (some cs2) := by simp only [St.put]; rw [zd _ _ hne]; exact hb2
    simp [exL, ex1, hb, hl, hid, e2, hl2, hid2]
  · simp [Yg, Yc]
  · rfl
  · rfl
  · rfl
theorem Blk.shape {w : World} {g : Nat} {C : Array Value} (h : Blk w g C) : ∃ e, w.shape? g = some (e, C.size) := by
  obtain ⟨e, fr, h1, h2⟩ := h
  exact ⟨e, by simp [World.shape?, h1]⟩
theorem zcD {P : Program} {f : FuncId} {fn : Func} {t tr e : TypeId} {sz : Nat} (hf : P.funcs[f]? = some fn) (hname : (fn.name == "runtime.NumGoroutine") = false) (hb : fn.body.isNone = true) (hn : Extern.findNext fn = none)
    (he : Extern.find fn = some (Extern.SlicesOverlaps.overlaps #[t, t] #[tr])) (ht : P.underlying t = some (.slice e)) (hz : szB P e = some sz) {x y : AV} {st : St} {b1 o1 n1 s1 b2 o2 n2 s2 : Nat} {cs1 cs2 : List AV}
    (dx : dstA x = some (b1, o1, n1, s1)) (dy : dstA y = some (b2, o2, n2, s2)) (h1 : st.h b1 = some (some cs1)) (h2 : st.h b2 = some (some cs2)) (hne : b1 ≠ b2) : ExtT P f [x, y] st (.sc (.bool false)) := by
  intro E φ M L a w vs I hl hv
  obtain ⟨v1, v2, rfl⟩ : ∃ v1 v2, vs = [v1, v2] := by
    match vs, hl with
    | [v1, v2], _ => exact ⟨v1, v2, rfl⟩
  have k1 := hv 0 x v1 rfl rfl
  have k2 := hv 1 y v2 rfl rfl
  refine ⟨.bool false, ?_, V.sc _ rfl⟩
  rw [run_callFunc_extern hf hname hb hn he]
  suffices h : ((Extern.SlicesOverlaps.overlaps #[t, t] #[tr]) [v1, v2].toArray).run P w = .ok (.bool false) w by rw [h]; rfl
  rcases zd1 k1 dx with ⟨rfl, A, rfl⟩ | ⟨l, c, hl1, rfl, hb1⟩ <;> rcases zd1 k2 dy with ⟨rfl, B, rfl⟩ | ⟨l', c', hl2, rfl, hb2⟩
  · cases A <;> cases B <;> (delta Extern.SlicesOverlaps.overlaps Extern.SlicesOverlaps.overlaps.match_4 Extern.SlicesOverlaps.overlaps._sparseCasesOn_4; simp [Array.getLit, zg ht, Zm hz])
  · cases A <;> (delta Extern.SlicesOverlaps.overlaps Extern.SlicesOverlaps.overlaps.match_4 Extern.SlicesOverlaps.overlaps._sparseCasesOn_4; simp [Array.getLit, zg ht, Zm hz])
  · cases B <;> (delta Extern.SlicesOverlaps.overlaps Extern.SlicesOverlaps.overlaps.match_4 Extern.SlicesOverlaps.overlaps._sparseCasesOn_4; simp [Array.getLit, zg ht, Zm hz])
  · rcases I.root b1 cs1 h1 with ⟨_, r2, _⟩ | ⟨m1, C1, us1, F1, r2, hB1, hn1, _, _, hL1⟩
    · rw [hl1] at r2; cases r2
    rw [hl1] at r2; cases r2
    rcases I.root b2 cs2 h2 with ⟨_, r2, _⟩ | ⟨m2, C2, us2, F2, r2, hB2, hn2, _, _, hL2⟩
    · rw [hl2] at r2; cases r2
    rw [hl2] at r2; cases r2
    have hg : l.g ≠ l'.g := fun e => I.disj b1 b2 cs1 cs2 hne h1 h2 l.g (by rw [hL1]; simp) (by rw [hL2, e]; simp)
    obtain ⟨e1, hs1⟩ := hB1.shape
    obtain ⟨e2, hs2⟩ := hB2.shape
    have f1 := hB1.frozen (l.o + o1) (by omega)
    have f2 := hB2.frozen (l'.o + o2) (by omega)
    have f3 := hB1.frozen C1.size (Nat.le_refl _)
    have f4 := hB2.frozen C2.size (Nat.le_refl _)
    by_cases h0 : n1 = 0 ∨ n2 = 0 ∨ sz = 0
    · (delta Extern.SlicesOverlaps.overlaps Extern.SlicesOverlaps.overlaps.match_4 Extern.SlicesOverlaps.overlaps._sparseCasesOn_4; simp [Array.getLit, zg ht, Zm hz, h0])
    · (delta Extern.SlicesOverlaps.overlaps Extern.SlicesOverlaps.overlaps.match_4 Extern.SlicesOverlaps.overlaps._sparseCasesOn_4; simp [Array.getLit, zg ht, Zm hz, h0, hg, frozen, noView, viewAt, mayBeOne, stringish, shape, Sem.run, hs1, hs2, f1, f2, f3, f4])
theorem V.exact {φ : Nat → Option Loc} {M : Nat → Prop} {w : World} {b off len sz : Nat} {lim : Bool} {v : Value} (h : V φ M w (.sl b off len sz lim) v []) : ∃ c, len ≤ c ∧ V φ M w (.pf b off len c sz) v [] := by
  obtain ⟨_, ⟨rfl, A, rfl⟩ | ⟨l, c, hl, rfl, h1, h2, _⟩⟩ := vsl h
  · exact ⟨0, Nat.le_refl _, .pfz _ _ _ _⟩
  · exact ⟨c, h1, .pf _ _ _ _ _ l hl h1 h2⟩
theorem SR.retell {E : Ent} {φ : Nat → Option Loc} {M : Nat → Prop} {L : Nat → List Nat} {st : St} {tm : Array Value} {w : World} (I : Inv E φ M L st tm w) (t : Nat) {x : AV} (hx : V φ M w x (tm.getD t undef) []) : SR E ⟨upd st.ρ t x, st.h, st.n⟩ tm w :=
  ⟨φ, M, L, I.size, fun i => by
    by_cases e : i = t
    · subst e
      show V φ M w (upd st.ρ i x i) _ []
      rw [Zc]; exact hx
    · show V φ M w (upd st.ρ t x i) _ []
      rw [zd _ _ e]; exact I.env i, I.root, I.fresh, I.nodup, I.disj, I.notM, I.low, I.bound, I.m0, I.m1, I.own, I.os, I.tape, I.output, I.grown, I.frame, I.keep⟩
theorem T.exact {P : Program} {p : List Nat} {c : AC} {st : St} {Q : AE → St → Prop} (t : Nat) {b off len sz : Nat} {lim : Bool} (hρ : st.ρ t = .sl b off len sz lim) (h : ∀ k, len ≤ k → T P p c ⟨upd st.ρ t (.pf b off len k sz), st.h, st.n⟩ Q) : T P p c st Q := by
  rintro code hc E a w QQ ⟨φ, M, L, I⟩ hk
  have hv := I.env t
  rw [hρ] at hv
  obtain ⟨k, hle, hx⟩ := hv.exact
  exact h k hle code hc E a w QQ (SR.retell I t hx) hk
theorem Le.unpf {st : St} (t : Nat) {b off len cap sz : Nat} (hρ : st.ρ t = .pf b off len cap sz) : Le st ⟨upd st.ρ t (.sl b off len sz false), st.h, st.n⟩ := by
  rintro E tm w ⟨φ, M, L, I⟩
  have hv := I.env t
  rw [hρ] at hv
  refine SR.retell I t ?_
  obtain ⟨_, ⟨rfl, rfl, A, e⟩ | ⟨l, hl, e, h1, h2⟩⟩ := vpf hv
  · rw [e]; exact .slz _ _ _ _ _
  · rw [e]; exact .sl _ _ _ _ _ l _ hl h1 h2 (fun e => by cases e)
theorem zX : ∀ (Fs : List (List Nat)) (k : Nat), (Fs.take k).flatten.Sublist Fs.flatten
  | [], k => by simp
  | F :: Fs, 0 => by simp
  | F :: Fs, k + 1 => by simpa using (zX Fs k).append_left F
theorem Le.trim {st : St} (b k : Nat) {cs : List AV} (hb : st.h b = some (some cs)) : Le st ⟨st.ρ, upd st.h b (some (some (cs.take k))), st.n⟩ := by
  rintro E tm w ⟨φ, M, L, I⟩
  rcases I.root b cs hb with ⟨rfl, r2, r3⟩ | ⟨l, C, us, F, r1, r2, r3, ⟨Fs, k1, k2, k3, k4, k5⟩, r5, r6⟩
  · have e : upd st.h b (some (some (([] : List AV).take k))) = st.h := by
      funext i
      by_cases ei : i = b
      · subst ei; rw [Zc, hb, List.take_nil]
      · rw [zd _ _ ei]
    rw [e]
    exact ⟨φ, M, L, I⟩
  have hsub := zX Fs k
  have hst : ∀ b' cs', upd st.h b (some (some (cs.take k))) b' = some (some cs') → ∃ cs0, st.h b' = some (some cs0) ∧ (upd L b (l.g :: (Fs.take k).flatten) b').Sublist (L b') := fun b' cs' h => by
    by_cases e : b' = b
    · subst e; exact ⟨cs, hb, by rw [Zc, r6, k4]; exact hsub.cons_cons _⟩
    · rw [zd _ _ e] at h; exact ⟨cs', h, by rw [zd _ _ e]; exact List.Sublist.refl _⟩
  refine ⟨φ, M, upd L b (l.g :: (Fs.take k).flatten), I.size, I.env, fun b' cs' h => ?_, fun b' h => ?_, fun b' cs' h => ?_, fun b1 b2 c1 c2 h12 h1 h2 g hg1 hg2 => ?_, fun b' cs' h g hg => ?_, fun b' cs' h g hg => ?_, I.bound, I.m0, I.m1, fun b' cs' h g hg => ?_, I.os, I.tape, I.output, I.grown, I.frame, I.keep⟩
  · have h' : upd st.h b (some (some (cs.take k))) b' = some (some cs') := h
    by_cases e : b' = b
    · subst e
      rw [Zc] at h'
      cases h'
      refine .inr ⟨l, C, us.take k, (Fs.take k).flatten, r1, r2, r3, ⟨Fs.take k, by simp [k1], by simp [k2], fun u hu => k3 u (List.mem_of_mem_take hu), rfl, fun j x u G a c d => ?_⟩, fun j u hj => ?_, Zc _ _ _⟩
      · rw [List.getElem?_take] at a c d
        split at a <;> (try cases a)
        rename_i hlt
        rw [if_pos hlt] at c d
        exact k5 j x u G a c d
      · rw [List.getElem?_take] at hj
        split at hj <;> (try cases hj)
        exact r5 j u hj
    · rw [zd _ _ e] at h'
      rw [zd _ _ e]
      exact I.root b' cs' h'
  · have h' : upd st.h b (some (some (cs.take k))) b' = none := h
    by_cases e : b' = b
    · subst e; rw [Zc] at h'; cases h'
    · rw [zd _ _ e] at h'; exact I.fresh b' h'
  · obtain ⟨d1, e1, s1⟩ := hst b' cs' h
    exact (I.nodup b' d1 e1).sublist s1
  · obtain ⟨d1, e1, s1⟩ := hst b1 c1 h1
    obtain ⟨d2, e2, s2⟩ := hst b2 c2 h2
    exact I.disj b1 b2 d1 d2 h12 e1 e2 g (s1.subset hg1) (s2.subset hg2)
  · obtain ⟨d1, e1, s1⟩ := hst b' cs' h
    exact I.notM b' d1 e1 g (s1.subset hg)
  · obtain ⟨d1, e1, s1⟩ := hst b' cs' h
    exact I.low b' d1 e1 g (s1.subset hg)
  · obtain ⟨d1, e1, s1⟩ := hst b' cs' h
    exact I.own b' d1 e1 g (s1.subset hg)
structure MRet2 (P : Program) (f : FuncId) (cs1 : List AV) (n1 s1 : Nat) (cs2 : List AV) (n2 s2 : Nat) (v r : AV) (cs1' cs2' : List AV) : Prop where
  pp : 0 < n1 → 0 < n2 → Ret P f [.agg [.io cs1 n1 s1, .io cs2 n2 s2], v] r [.agg [.io cs1' n1 s1, .io cs2' n2 s2], .un]
  pz : 0 < n1 → n2 = 0 → Ret P f [.agg [.io cs1 n1 s1, .ro [] 0], v] r [.agg [.io cs1' n1 s1, .un], .un]
  zp : n1 = 0 → 0 < n2 → Ret P f [.agg [.ro [] 0, .io cs2 n2 s2], v] r [.agg [.un, .io cs2' n2 s2], .un]
  zz : n1 = 0 → n2 = 0 → Ret P f [.agg [.ro [] 0, .ro [] 0], v] r [.un, .un]
def leR (Q : AE → St → Prop) : AE → St → Prop := fun e s => ∃ s', Le s s' ∧ Q e s'
theorem Zj {Q : AE → St → Prop} {e : AE} {s : St} : leR Q e s = ∃ s', Le s s' ∧ Q e s' := rfl
theorem T.leR {P : Program} {p : List Nat} {c : AC} {st : St} {Q : AE → St → Prop} (h : T P p c st (leR Q)) : T P p c st Q :=
  fun code hc E a w QQ hs hk => h code hc E a w QQ hs fun e st' a' w' hq hs' hf => by
    obtain ⟨s', h1, h2⟩ := hq
    exact hk e s' a' w' h2 (h1 _ _ _ hs') hf
theorem Ret.runT {P : Program} {f : FuncId} {fn : Func} {c : AC} {n : Nat} {args ys : List AV} {ρ1 ρ2 : Nat → AV} {h1 : Nat → Option (Option (List AV))} {rs : List QOp} {ret : AV} {outs : List AV} {m : Nat} (hf : P.funcs[f]? = some fn) (hc : fn.body.bind (comp P) = some c ∧ fn.ntmps = n ∧ fn.results.toList.mapM (resB P) = some rs)
    (hl : args.length ≤ n) (hent : entL 100000 args ⟨fun _ => .un, h0, n⟩ = some (ys, ⟨ρ1, h1, m⟩)) (hρ : iniρ ys 0 = ρ2)
    (h : T P (yA args 0) c ⟨ρ2, h1, n⟩ (leR (endR args ret outs rs))) : Ret P f args ret outs := by
  refine Ret.by hf hc hl hent rfl ?_
  have : (fun t => ys.getD t (.tup [])) = ρ2 := by
    funext t
    rw [← hρ]
    have := zbg ys 0 t
    rw [Nat.zero_add] at this
    exact this.symm
  rw [this]
  exact T.mono (T.leR h) zfw
def clipC (sz : Nat) : AC := .seq (.ops [⟨(some 2), none, .q (.mov (.c .em))⟩])
  (.seq (.ops [⟨(some 3), none, .q (.mov (.t 0))⟩, ⟨(some 4), none, .q (.mov (.t 0))⟩, ⟨(some 5), none, .q (.llen (.t 4))⟩, ⟨(some 6), none, .q (.mov (.t 0))⟩, ⟨(some 7), none, .q (.llen (.t 6))⟩, ⟨(some 8), none, .q (.sub3 sz (.t 3) none (some (.t 5)) (.t 7))⟩, ⟨(some 2), none, .q (.mov (.t 8))⟩])
  .ret)
def zcb (sz bytes : Nat) (z : List AV) (ov rr : FuncId) : AC := .seq (.ops [⟨(some 6), none, .q (.mov (.c .em))⟩])
  (.seq (.ops [⟨(some 10), none, .q (.mov (.t 0))⟩, ⟨(some 11), none, .q (.mov (.t 1))⟩, ⟨(some 12), none, .q (.subl sz (.t 10) (some (.t 11)) none)⟩])
  (.seq (.ops [⟨(some 13), none, .q (.mov (.t 2))⟩, ⟨(some 14), none, .q (.llen (.t 13))⟩, ⟨(some 7), none, .q (.mov (.t 14))⟩])
  (.seq (.seq (.ops [⟨(some 15), none, .q (.mov (.t 7))⟩, ⟨(some 16), none, .q (.bin .eql (.t 15) (.c (.sc (.int .i64 0))))⟩])
  (.cond (.t 16) (.seq (.ops [⟨(some 17), none, .q (.mov (.t 0))⟩, ⟨(some 6), none, .q (.mov (.t 17))⟩])
  .ret)
  .skip))
  (.seq (.ops [⟨(some 18), none, .q (.mov (.t 0))⟩, ⟨(some 19), none, .q (.llen (.t 18))⟩, ⟨(some 8), none, .q (.mov (.t 19))⟩])
  (.seq (.seq (.ops [⟨(some 20), none, .q (.mov (.t 1))⟩, ⟨(some 21), none, .q (.mov (.t 8))⟩, ⟨(some 22), none, .q (.bin .eql (.t 20) (.t 21))⟩])
  (.cond (.t 22) (.seq (.ops [⟨(some 23), none, .q (.mov (.t 0))⟩, ⟨(some 24), none, .q (.mov (.t 2))⟩, ⟨(some 25), none, .w (.app sz bytes false (.t 23) (.t 24))⟩, ⟨(some 6), none, .q (.mov (.t 25))⟩])
  .ret)
  .skip))
  (.seq (.seq (.ops [⟨(some 26), none, .q (.mov (.t 8))⟩, ⟨(some 27), none, .q (.mov (.t 7))⟩, ⟨(some 28), none, .q (.bin .add (.t 26) (.t 27))⟩, ⟨(some 29), none, .q (.mov (.t 0))⟩, ⟨(some 30), none, .q (.capn (.t 29))⟩, ⟨(some 31), none, .q (.bin .gtr (.t 28) (.t 30))⟩])
  (.cond (.t 31) (.seq (.ops [⟨(some 32), none, .q (.mov (.t 0))⟩, ⟨(some 33), none, .q (.mov (.t 1))⟩, ⟨(some 34), none, .q (.subl sz (.t 32) none (some (.t 33)))⟩, ⟨(some 35), none, .q (.mov (.t 8))⟩, ⟨(some 36), none, .q (.mov (.t 7))⟩, ⟨(some 37), none, .q (.bin .add (.t 35) (.t 36))⟩, ⟨(some 38), none, .q (.mov (.t 1))⟩, ⟨(some 39), none, .q (.bin .sub (.t 37) (.t 38))⟩, ⟨(some 40), none, .w (.appz sz bytes z (.t 34) (.t 39))⟩, ⟨(some 9), none, .q (.mov (.t 40))⟩])
  (.seq (.ops [⟨(some 41), none, .q (.mov (.t 9))⟩, ⟨(some 42), none, .q (.mov (.t 1))⟩, ⟨(some 43), none, .q (.subl sz (.t 41) (some (.t 42)) none)⟩, ⟨(some 44), none, .q (.mov (.t 2))⟩, ⟨(some 45), none, .w (.cpy sz (.t 43) (.t 44))⟩])
  (.seq (.any [(⟨(some 46), none, .q (.mov (.t 9))⟩, []), (⟨(some 47), none, .q (.mov (.t 1))⟩, []), (⟨(some 48), none, .q (.mov (.t 7))⟩, []), (⟨(some 49), none, .q (.bin .add (.t 47) (.t 48))⟩, [1, 2]), (⟨(some 50), none, .q (.subl sz (.t 46) (some (.t 49)) none)⟩, [0, 3]), (⟨(some 51), none, .q (.mov (.t 0))⟩, []), (⟨(some 52), none, .q (.mov (.t 1))⟩, []), (⟨(some 53), none, .q (.subl sz (.t 51) (some (.t 52)) none)⟩, [5, 6]), (⟨(some 54), none, .w (.cpy sz (.t 50) (.t 53))⟩, [4, 7])])
  (.seq (.ops [⟨(some 55), none, .q (.mov (.t 9))⟩, ⟨(some 6), none, .q (.mov (.t 55))⟩])
  .ret))))
  .skip))
  (.seq (.ops [⟨(some 56), none, .q (.mov (.t 0))⟩, ⟨(some 57), none, .q (.mov (.t 8))⟩, ⟨(some 58), none, .q (.mov (.t 7))⟩, ⟨(some 59), none, .q (.bin .add (.t 57) (.t 58))⟩, ⟨(some 60), none, .q (.subl sz (.t 56) none (some (.t 59)))⟩, ⟨(some 0), none, .q (.mov (.t 60))⟩])
  (.seq (.seq (.ops [⟨(some 61), none, .q (.mov (.t 2))⟩, ⟨(some 62), none, .q (.mov (.t 0))⟩, ⟨(some 63), none, .q (.mov (.t 1))⟩, ⟨(some 64), none, .q (.mov (.t 7))⟩, ⟨(some 65), none, .q (.bin .add (.t 63) (.t 64))⟩, ⟨(some 66), none, .q (.subl sz (.t 62) (some (.t 65)) none)⟩, ⟨(some 67), none, .c (.c (.clo ov [])) [(.t 61), (.t 66)]⟩, ⟨(some 68), none, .q (.not (.t 67))⟩])
  (.cond (.t 68) (.seq (.any [(⟨(some 69), none, .q (.mov (.t 0))⟩, []), (⟨(some 70), none, .q (.mov (.t 1))⟩, []), (⟨(some 71), none, .q (.mov (.t 7))⟩, []), (⟨(some 72), none, .q (.bin .add (.t 70) (.t 71))⟩, [1, 2]), (⟨(some 73), none, .q (.subl sz (.t 69) (some (.t 72)) none)⟩, [0, 3]), (⟨(some 74), none, .q (.mov (.t 0))⟩, []), (⟨(some 75), none, .q (.mov (.t 1))⟩, []), (⟨(some 76), none, .q (.subl sz (.t 74) (some (.t 75)) none)⟩, [5, 6]), (⟨(some 77), none, .w (.cpy sz (.t 73) (.t 76))⟩, [4, 7])])
  (.seq (.ops [⟨(some 78), none, .q (.mov (.t 0))⟩, ⟨(some 79), none, .q (.mov (.t 1))⟩, ⟨(some 80), none, .q (.subl sz (.t 78) (some (.t 79)) none)⟩, ⟨(some 81), none, .q (.mov (.t 2))⟩, ⟨(some 82), none, .w (.cpy sz (.t 80) (.t 81))⟩])
  (.seq (.ops [⟨(some 83), none, .q (.mov (.t 0))⟩, ⟨(some 6), none, .q (.mov (.t 83))⟩])
  .ret)))
  .skip))
  (.seq (.ops [⟨(some 84), none, .q (.mov (.t 0))⟩, ⟨(some 85), none, .q (.mov (.t 8))⟩, ⟨(some 86), none, .q (.subl sz (.t 84) (some (.t 85)) none)⟩, ⟨(some 87), none, .q (.mov (.t 2))⟩, ⟨(some 88), none, .w (.cpy sz (.t 86) (.t 87))⟩])
  (.seq (.ops [⟨(some 89), none, .q (.mov (.t 0))⟩, ⟨(some 90), none, .q (.mov (.t 1))⟩, ⟨(some 91), none, .q (.subl sz (.t 89) (some (.t 90)) none)⟩, ⟨(some 92), none, .q (.mov (.t 7))⟩, ⟨(some 93), none, .c (.c (.clo rr [])) [(.t 91), (.t 92)]⟩])
  (.seq (.ops [⟨(some 94), none, .q (.mov (.t 0))⟩, ⟨(some 6), none, .q (.mov (.t 94))⟩])
  .ret)))))))))))
def YW (sz : Nat) (z : List AV) (ix : FuncId) : AC := .seq (.ops [⟨(some 4), none, .q (.mov (.c .em))⟩])
  (.seq (.ops [⟨(some 8), none, .q (.mov (.t 0))⟩, ⟨(some 9), none, .q (.mov (.t 1))⟩, ⟨(some 10), none, .c (.c (.clo ix [])) [(.t 8), (.t 9)]⟩, ⟨(some 5), none, .q (.mov (.t 10))⟩])
  (.seq (.seq (.ops [⟨(some 11), none, .q (.mov (.t 5))⟩, ⟨(some 12), none, .q (.bin .eql (.t 11) (.c (.sc (.int .i64 (-1)))))⟩])
  (.cond (.t 12) (.seq (.ops [⟨(some 13), none, .q (.mov (.t 0))⟩, ⟨(some 4), none, .q (.mov (.t 13))⟩])
  .ret)
  .skip))
  (.seq (.seq (.ops [⟨(some 14), none, .q (.mov (.t 5))⟩, ⟨(some 15), none, .q (.bin .add (.t 14) (.c (.sc (.int .i64 1))))⟩, ⟨(some 6), none, .q (.mov (.t 15))⟩])
  (.block 0 (.loop (.seq (.seq (.ops [⟨(some 16), none, .q (.mov (.t 6))⟩, ⟨(some 17), none, .q (.mov (.t 0))⟩, ⟨(some 18), none, .q (.llen (.t 17))⟩, ⟨(some 19), none, .q (.bin .lss (.t 16) (.t 18))⟩])
  (.cond (.t 19) .skip
  (.exit 0)))
  (.seq (.block 1 (.seq (.ops [⟨(some 22), none, .q (.mov (.t 0))⟩, ⟨(some 23), none, .q (.mov (.t 6))⟩, ⟨(some 24), none, .q (.iadr sz (.t 22) (.t 23))⟩, ⟨(some 25), none, .q (.load true sz (.t 24))⟩, ⟨(some 7), none, .w (.alloc z)⟩, ⟨none, none, .w (.store sz (.t 7) (.t 25))⟩])
  (.seq (.ops [⟨(some 26), none, .q (.mov (.t 1))⟩, ⟨(some 27), none, .q (.load true sz (.t 7))⟩, ⟨(some 28), none, .c (.t 26) [(.t 27)]⟩, ⟨(some 29), none, .q (.not (.t 28))⟩])
  (.cond (.t 29) (.seq (.ops [⟨(some 30), none, .q (.mov (.t 0))⟩, ⟨(some 31), none, .q (.mov (.t 5))⟩, ⟨(some 32), none, .q (.load true sz (.t 7))⟩, ⟨(some 33), none, .q (.iadr sz (.t 30) (.t 31))⟩, ⟨none, none, .w (.store sz (.t 33) (.t 32))⟩])
  (.ops [⟨(some 34), none, .q (.mov (.t 5))⟩, ⟨(some 35), none, .q (.bin .add (.t 34) (.c (.sc (.int .i64 1))))⟩, ⟨(some 5), none, .q (.mov (.t 35))⟩]))
  .skip))))
  (.ops [⟨(some 20), none, .q (.mov (.t 6))⟩, ⟨(some 21), none, .q (.bin .add (.t 20) (.c (.sc (.int .i64 1))))⟩, ⟨(some 6), none, .q (.mov (.t 21))⟩]))))))
  (.seq (.ops [⟨(some 36), none, .q (.mov (.t 0))⟩, ⟨(some 37), none, .q (.mov (.t 5))⟩, ⟨(some 38), none, .q (.subl sz (.t 36) (some (.t 37)) none)⟩, ⟨none, none, .w (.clr sz z (.t 38))⟩])
  (.seq (.ops [⟨(some 39), none, .q (.mov (.t 0))⟩, ⟨(some 40), none, .q (.mov (.t 5))⟩, ⟨(some 41), none, .q (.subl sz (.t 39) none (some (.t 40)))⟩, ⟨(some 4), none, .q (.mov (.t 41))⟩])
  .ret)))))
structure OvF (P : Program) (f : FuncId) (sz : Nat) : Prop where
  ex : ∃ fn t tr e, P.funcs[f]? = some fn ∧ (fn.name == "runtime.NumGoroutine") = false ∧ fn.body.isNone = true ∧ Extern.findNext fn = none ∧ Extern.find fn = some (Extern.SlicesOverlaps.overlaps #[t, t] #[tr]) ∧ P.underlying t = some (.slice e) ∧ szB P e = some sz
theorem OvF.ext {P : Program} {f : FuncId} {sz : Nat} (h : OvF P f sz) {x y : AV} {st : St} {b1 o1 n1 s1 b2 o2 n2 s2 : Nat} {cs1 cs2 : List AV}
    (dx : dstA x = some (b1, o1, n1, s1)) (dy : dstA y = some (b2, o2, n2, s2)) (h1 : st.h b1 = some (some cs1)) (h2 : st.h b2 = some (some cs2)) (hne : b1 ≠ b2) : ExtT P f [x, y] st (.sc (.bool false)) := by
  obtain ⟨fn, t, tr, e, e1, e2, e3, e4, e5, e6, e7⟩ := h.ex
  exact zcD e1 e2 e3 e4 e5 e6 e7 dx dy h1 h2 hne
theorem ZR {α : Type} {f : α → List AV} {n : Nat} (h : ∀ x, (f x).length = n) (xs : List α) (i : Nat) (hi : i ≤ xs.length) : (rows f xs).take (i * n) = rows f (xs.take i) := by
  have e : rows f xs = rows f (xs.take i) ++ rows f (xs.drop i) := by rw [← Yd, List.take_append_drop]
  have hl : (rows f (xs.take i)).length = i * n := by rw [Yb h, List.length_take, Nat.min_eq_left hi]
  rw [e, ← hl, List.take_left']
  rfl
theorem zbB {α : Type} {f : α → List AV} {n : Nat} (h : ∀ x, (f x).length = n) (xs : List α) (i : Nat) (hi : i ≤ xs.length) : (rows f xs).drop (i * n) = rows f (xs.drop i) := by
  have e : rows f xs = rows f (xs.take i) ++ rows f (xs.drop i) := by rw [← Yd, List.take_append_drop]
  have hl : (rows f (xs.take i)).length = i * n := by rw [Yb h, List.length_take, Nat.min_eq_left hi]
  rw [e, ← hl, List.drop_left']
  rfl
theorem zaw {A B xs : List AV} {k : Nat} (hA : A.length = k) : putX (A ++ B) k xs = A ++ (xs ++ B.drop xs.length) := by
  subst hA
  unfold putX
  rw [List.take_left', List.drop_append, List.drop_of_length_le (by omega), List.nil_append]
  · congr 3; omega
  · rfl
def ovS (P : Program) (t : TypeId) : Option Nat := match P.underlying t with | some (.slice e) => szB P e | _ => none
theorem OvF.of {P : Program} {f : FuncId} {sz : Nat} {fn : Func} (h1 : P.funcs[f]? = some fn) (h2 : (fn.name == "runtime.NumGoroutine") = false) (h3 : fn.body.isNone = true) (h4 : Extern.findNext fn = none)
    (h5 : Extern.find fn = some (Extern.SlicesOverlaps.overlaps #[fn.params.getD 0 0, fn.params.getD 0 0] #[fn.resultTypes.getD 0 0])) (h6 : ovS P (fn.params.getD 0 0) = some sz) : OvF P f sz := by
  unfold ovS at h6
  split at h6
  · rename_i e he
    exact ⟨fn, _, _, e, h1, h2, h3, h4, h5, he, h6⟩
  · cases h6
section
variable {P : Program} {α : Type}
theorem Ret.clip (t : Ty α) {F : FuncId} {fn : Func} (hf : P.funcs[F]? = some fn) (hk : fn.body.bind (comp P) = some (clipC t.n) ∧ fn.ntmps = 9 ∧ fn.results.toList.mapM (resB P) = some [.mov (.t 2)])
    (xs : List α) : Ret P F [.own (rows t.oc xs) xs.length t.n] (.own (rows t.oc xs) xs.length t.n) [.un] := by
  refine Ret.run hf hk (by simp) rfl rfl 500 ?_
  have hl := Yb t.ocn xs
  simp [clipC, iniρ, ex1, hl, t.frL]
theorem Ret.insert (hm : P.follows .mixedOrders = true) (t : Ty α) (hoc : t.oc = t.cs) {F ov rr : FuncId} {bytes : Nat} {fn : Func} (hf : P.funcs[F]? = some fn) (hk : fn.body.bind (comp P) = some (zcb t.n bytes t.z ov rr) ∧ fn.ntmps = 95 ∧ fn.results.toList.mapM (resB P) = some [.mov (.t 6)])
    (hov : OvF P ov t.n) (xs : List α) (i : Nat) (x : α) (hi : i ≤ xs.length) (hb : (xs.length + 1) * bytes ≤ 140737488355328) (hb63 : xs.length < 4611686018427387904) :
    Ret P F [.own (rows t.oc xs) xs.length t.n, .sc (.int .i64 i), .own (t.oc x) 1 t.n] (.own (rows t.oc (xs.take i ++ x :: xs.drop i)) (xs.length + 1) t.n) [.un, .un, .un] := by
  refine Ret.runT hf hk (by simp) rfl rfl ?_
  have hl := Yb t.csn xs
  have hplx := t.plL x
  have htk : List.take t.n (t.cs x) = t.cs x := by rw [← t.csn x]; simp
  have hpl : ∀ ys : List α, plain.plainL (rows t.cs ys) = true := fun ys => Z8 (Ym t.sh ys)
  have hfr : ∀ ys : List α, zb.idfreeL (rows t.cs ys) = true := fun ys => Zd (fun x c hc => (t.ow x c (by rw [hoc]; exact hc)).fr) ys
  have hL3 : (xs.take i ++ x :: xs.drop i).length = xs.length + 1 := by simp; omega
  rw [hoc]
  by_cases hin : i = xs.length
  · subst hin
    refine yg (n := 500) ?_
    have e : rows t.cs (xs.take xs.length ++ x :: xs.drop xs.length) = rows t.cs xs ++ t.cs x := by simp [Yd, yc, Yf]
    rw [e]
    have hfx := hfr [x]
    have hf2 : zb.idfreeL (rows t.cs xs ++ t.cs x) = true := by rw [← e]; exact hfr _
    simp [zcb, iniρ, Zj, hl, hb, t.csn, hplx, htk]
    refine ⟨_, Le.refl _, ?_⟩
    simp [ex1, hl, t.csn, Nat.add_mul, hf2]
  · refine T.exact 0 rfl fun k hk => ?_
    refine yg (n := 500) ?_
    have hlt : i < xs.length := by omega
    have hne : ¬ ((i : Int) = xs.length) := by omega
    have hw1 : IntKind.i64.wrap ((xs.length : Int) + 1) = xs.length + 1 := zc (by omega) (by omega)
    have hw2 : IntKind.i64.wrap ((i : Int) + 1) = i + 1 := zc (by omega) (by omega)
    have hw3 : IntKind.i64.wrap ((xs.length : Int) + 1 - i) = xs.length + 1 - i := zc (by omega) (by omega)
    by_cases hkn : k = xs.length
    · subst hkn
      have c1 : (xs.length : Int) < (xs.length : Int) + 1 := by omega
      have c2 : (i : Int) < (xs.length : Int) + 1 := by omega
      have c3 : xs.length < i + (xs.length + 1 - i) := by omega
      have c4 : i + (xs.length + 1 - i) = xs.length + 1 := by omega
      have c5 : i * t.n ≤ xs.length * t.n := Nat.mul_le_mul_right _ hi
      have c6 := ZR t.csn xs i hi
      have c7 := zbB t.csn xs i hi
      have c8 : xs.length < xs.length + 1 := by omega
      have c9 : (rows t.cs (xs.take i)).length = i * t.n := by rw [Yb t.csn, List.length_take, Nat.min_eq_left hi]
      have d1 : i ≤ xs.length + 1 := by omega
      have d2 : i + 1 ≤ xs.length + 1 := by omega
      have m1 : min 1 (xs.length + 1 - i) = 1 := by omega
      have m2 : min (xs.length - i) (xs.length + 1 - (i + 1)) = xs.length - i := by omega
      have m3 : xs.length + 1 - (i + 1) = xs.length - i := by omega
      have r1 : (List.replicate (xs.length + 1 - i) t.z).flatten = t.z ++ (List.replicate (xs.length - i) t.z).flatten := by
        rw [show xs.length + 1 - i = (xs.length - i) + 1 by omega, List.replicate_succ, List.flatten_cons]
      have hP1 : putX (rows t.cs (xs.take i) ++ (t.z ++ (List.replicate (xs.length - i) t.z).flatten)) (i * t.n) (t.cs x) = rows t.cs (xs.take i) ++ (t.cs x ++ (List.replicate (xs.length - i) t.z).flatten) := by
        rw [zaw c9, t.csn, ← t.zn, List.drop_left']
        rfl
      have hzl : ((List.replicate (xs.length - i) t.z).flatten).length = (xs.length - i) * t.n := by
        rw [List.length_flatten, List.map_replicate, List.sum_replicate_nat, t.zn]
      have c10 : (0 : Int) ≤ (i : Int) + 1 := by omega
      have hdz : List.drop ((xs.length - i) * t.n) (List.replicate (xs.length - i) t.z).flatten = [] := List.drop_of_length_le (by rw [hzl]; exact Nat.le_refl _)
      have hdl : (rows t.cs (xs.drop i)).length = (xs.length - i) * t.n := by rw [Yb t.csn, List.length_drop]
      have hP2 : putX (rows t.cs (xs.take i) ++ (t.cs x ++ (List.replicate (xs.length - i) t.z).flatten)) ((i + 1) * t.n) (rows t.cs (xs.drop i)) = rows t.cs (xs.take i ++ x :: xs.drop i) := by
        rw [← List.append_assoc, zaw (by rw [List.length_append, c9, t.csn, Nat.add_mul, Nat.one_mul]), Yd, yc, hdl, hdz]
        simp
      have q1 : i * t.n ≤ (rows t.cs (xs.take i)).length + (t.n + (xs.length - i) * t.n) := by omega
      have q2 : (i + 1) * t.n ≤ (rows t.cs (xs.take i)).length + (t.n + (xs.length - i) * t.n) := by rw [c9, Nat.add_mul, Nat.one_mul]; omega
      have q3 : i * t.n + (xs.length - i) * t.n ≤ xs.length * t.n := by rw [← Nat.add_mul]; exact Nat.mul_le_mul_right _ (by omega)
      have q4 : List.take ((xs.length - i) * t.n) (rows t.cs (xs.drop i)) = rows t.cs (xs.drop i) := by rw [← hdl]; simp
      simp [zcb, iniρ, Zj, hl, hb, t.csn, hplx, htk, hi, hne, hw1, hw2, hw3, c1, c2, c3, c4, c5, c6, hpl, c8, d1, m1, r1, hP1, t.zn, q1]
      refine T.textW 400 [([], []), ([], []), ([], []), ([], []), ([], []), ([], []), ([], []), ([], []), ([40], [])] hm (by rfl) (by rfl) ?_
      simp [hw2, d2, hl, c7, hpl, hi, m2, m3, c5, q2, q3, q4, hP2, t.csn, t.zn, Zj, c10]
      refine ⟨_, Le.refl _, ?_⟩
      simp [ex1, Yb t.csn, hL3, hfr]
    · have c1 : ¬ ((k : Int) < (xs.length : Int) + 1) := by omega
      have c2 : (0 : Int) ≤ (xs.length : Int) + 1 := by omega
      have c3 : xs.length + 1 ≤ k := by omega
      have c10 : (0 : Int) ≤ (i : Int) + 1 := by omega
      have d3 : i + 1 ≤ k := by omega
      have d2 : i + 1 ≤ xs.length + 1 := by omega
      have d4 : i ≤ xs.length + 1 := by omega
      have d5 : i ≤ k := by omega
      have c5 : i * t.n ≤ xs.length * t.n := Nat.mul_le_mul_right _ hi
      have c6 := ZR t.csn xs i hi
      have c7 := zbB t.csn xs i hi
      have m1 : min 1 (xs.length + 1 - i) = 1 := by omega
      have m4 : min (xs.length + 1 - i) (min (xs.length - i) (xs.length + 1 - i)) = xs.length - i := by omega
      have m5 : min (xs.length + 1 - i) (xs.length - i) = xs.length - i := by omega
      have hdl : (rows t.cs (xs.drop i)).length = (xs.length - i) * t.n := by rw [Yb t.csn, List.length_drop]
      have q3 : i * t.n + (xs.length - i) * t.n ≤ xs.length * t.n := by rw [← Nat.add_mul]; exact Nat.mul_le_mul_right _ (by omega)
      have q4 : List.take ((xs.length - i) * t.n) (rows t.cs (xs.drop i)) = rows t.cs (xs.drop i) := by rw [← hdl]; simp
      have c11 : (i + 1) * t.n ≤ xs.length * t.n := Nat.mul_le_mul_right _ hlt
      have c9 : (rows t.cs (xs.take i)).length = i * t.n := by rw [Yb t.csn, List.length_take, Nat.min_eq_left hi]
      have hx1 : xs = xs.take (i + 1) ++ xs.drop (i + 1) := (List.take_append_drop _ _).symm
      have ht1 : xs.take (i + 1) = xs.take i ++ [xs[i]] := by rw [List.take_add_one, List.getElem?_eq_getElem hlt]; rfl
      have hP3 : putX (rows t.cs xs) ((i + 1) * t.n) (rows t.cs (xs.drop i)) = rows t.cs (xs.take i) ++ (t.cs xs[i] ++ rows t.cs (xs.drop i)) := by
        have e : rows t.cs xs = rows t.cs (xs.take (i + 1)) ++ rows t.cs (xs.drop (i + 1)) := by rw [← Yd, ← hx1]
        have hl1 : (rows t.cs (xs.take (i + 1))).length = (i + 1) * t.n := by rw [Yb t.csn, List.length_take, Nat.min_eq_left hlt]
        have hl2 : (rows t.cs (xs.drop (i + 1))).length ≤ (rows t.cs (xs.drop i)).length := by rw [hdl, Yb t.csn, List.length_drop]; exact Nat.mul_le_mul_right _ (by omega)
        rw [e, zaw hl1, List.drop_of_length_le hl2, ht1, Yd]
        simp [yc, Yf]
      have hP4 : putX (rows t.cs (xs.take i) ++ (t.cs xs[i] ++ rows t.cs (xs.drop i))) (i * t.n) (t.cs x) = rows t.cs (xs.take i ++ x :: xs.drop i) := by
        rw [zaw c9, t.csn, ← t.csn xs[i], List.drop_left', Yd, yc]
        rfl
      have q5 : i * t.n ≤ (rows t.cs (xs.take i)).length + (t.n + (xs.length - i) * t.n) := by omega
      simp [zcb, iniρ, Zj, hl, hb, t.csn, hplx, htk, hi, hne, hw1, hw2, hw3, c1, c2, c3, c10, d2, d3, hk]
      refine callK.ext (f := ov) (y := .sc (.bool false)) rfl ?_ rfl ?_
      · exact hov.ext (b1 := 100002) (b2 := 100000) rfl rfl (by simp; rfl) (by simp; rfl) (by decide)
      simp
      refine T.textW 400 [([], []), ([], []), ([], []), ([], []), ([], []), ([], []), ([], []), ([], []), ([100000], [])] hm (by rfl) (by rfl) ?_
      simp [hw2, d2, d3, d4, d5, hl, c7, hpl, hi, c5, t.csn, t.zn, Zj, c10, hk, c3, m4, m5, q3, q4, c11, hP3, hdl, hplx, htk, m1, hP4, q5]
      refine ⟨_, Le.unpf 6 (b := 100000) (off := 0) (len := xs.length + 1) (cap := k) (sz := t.n) (by simp), ?_⟩
      simp [ex1, Yb t.csn, hL3, hfr]
mutual
theorem zc3 : ∀ {c : AV}, shut c = true → zb c = true
  | .agg cs, h => Yx cs h
  | .tup cs, h => Yx cs h
  | .clo _ cs, h => Yx cs h
  | .un, _ => rfl
  | .sc _, _ => rfl
  | .em, _ => rfl
  | .ro .., _ => rfl
  | .rp .., _ => rfl
theorem Yx : ∀ (l : List AV), shut.shutL l = true → zb.idfreeL l = true
  | [], _ => rfl
  | x :: l, h => by
    simp only [shut.shutL, Bool.and_eq_true] at h
    simp only [zb.idfreeL, Bool.and_eq_true]
    exact ⟨zc3 h.1, Yx l h.2⟩
end
theorem zE (f : α → Bool) : ∀ (xs : List α) (k : Int), (∃ pre x rest, xs = pre ++ x :: rest ∧ f x = true ∧ (∀ y ∈ pre, f y = false) ∧ idx f xs k = k + pre.length) ∨ ((∀ y ∈ xs, f y = false) ∧ idx f xs k = -1)
  | [], k => .inr ⟨by simp, by simp [idx]⟩
  | y :: xs, k => by
    cases hy : f y with
    | true => exact .inl ⟨[], y, xs, rfl, hy, by simp, by simp [idx, hy]⟩
    | false =>
      rcases zE f xs (k + 1) with ⟨pre, x, rest, rfl, h1, h2, h3⟩ | ⟨h1, h2⟩
      · refine .inl ⟨y :: pre, x, rest, rfl, h1, ?_, ?_⟩
        · intro z hz
          rcases List.mem_cons.1 hz with rfl | hz
          · exact hy
          · exact h2 z hz
        · have e : idx f (y :: (pre ++ x :: rest)) k = idx f (pre ++ x :: rest) (k + 1) := by simp [idx, hy]
          rw [e, h3]
          simp only [List.length_cons]
          omega
      · refine .inr ⟨?_, by simp [idx, hy, h2]⟩
        intro z hz
        rcases List.mem_cons.1 hz with rfl | hz
        · exact hy
        · exact h1 z hz
theorem yV (f : α → Bool) {xs : List α} (h : ∀ y ∈ xs, f y = false) : xs.filter (fun x => !f x) = xs := by
  rw [List.filter_eq_self]
  intro y hy
  simp [h y hy]
theorem Ret.deleteFunc (t : Ty α) (hoc : t.oc = t.cs) {F ix : FuncId} {fn : Func} (hf : P.funcs[F]? = some fn) (hk : fn.body.bind (comp P) = some (YW t.n t.z ix) ∧ fn.ntmps = 42 ∧ fn.results.toList.mapM (resB P) = some [.mov (.t 4)])
    (g : FuncId) (caps : List AV) (f : α → Bool) (hg : callB P g = true) (hix : callB P ix = true) (hsh : shut.shutL caps = true) (xs : List α) (hR : ∀ x ∈ xs, Ret P g (.agg (t.cs x) :: caps) (.sc (.bool (f x))) (.un :: caps.map fun _ => .un))
    (hI : Ret P ix [.ro (rows t.cs xs) xs.length, .clo g caps] (.sc (.int .i64 (idx f xs 0))) [.un, .un]) (hb : xs.length < 4611686018427387904) :
    Ret P F [.own (rows t.oc xs) xs.length t.n, .clo g caps] (.own (rows t.oc (xs.filter fun x => !f x)) (xs.filter fun x => !f x).length t.n) [.un, .un] := by
  refine Ret.runT (ys := [.sl 100000 0 xs.length t.n false, .clo g caps]) (ρ1 := fun _ => .un) (h1 := upd h0 100000 (some (some (rows t.oc xs)))) (m := 42) hf hk (by simp) (by simp [entL, ent1, inst, hsh]) rfl ?_
  have hl := Yb t.csn xs
  have hpl : ∀ ys : List α, plain.plainL (rows t.cs ys) = true := fun ys => Z8 (Ym t.sh ys)
  have hfr : ∀ ys : List α, zb.idfreeL (rows t.cs ys) = true := fun ys => Zd (fun x c hc => (t.ow x c (by rw [hoc]; exact hc)).fr) ys
  have hfrA : ∀ ys : List α, ∀ c ∈ rows t.cs ys, zb c = true := fun ys => yd (hfr ys)
  have hcapA : ∀ (hh : Hp), caps.mapM (roc hh 8) = some caps := fun hh => by
    have : ∀ l : List AV, shut.shutL l = true → l.mapM (roc hh 8) = some l := fun l => by
      induction l with
      | nil => intro _; rfl
      | cons c l ih =>
        intro h
        simp only [shut.shutL, Bool.and_eq_true] at h
        simp [List.mapM_cons, zN h.1, ih h.2]
    exact this caps hsh
  have hshA : shut (.clo g caps) = true := hsh
  have hidc : zb.idfreeL caps = true := Yx caps hsh
  refine yg (n := 500) ?_
  rw [hoc]
  simp [YW, iniρ, Zj]
  refine callK.ro 10 rfl hix (ys := [.ro (rows t.cs xs) xs.length, .clo g caps]) ?_ hI rfl rfl rfl ?_
  · have e1 : roc (upd h0 100000 (some (some (rows t.cs xs)))) 8 (.sl 100000 0 xs.length t.n false) = some (.ro (rows t.cs xs) xs.length) := zcw (Zc _ _ _) hl (zB (Ym t.sh xs))
    have e2 : roc (upd h0 100000 (some (some (rows t.cs xs)))) 8 (.clo g caps) = some (.clo g caps) := zN hshA
    simp [e1, e2]
  rcases zE f xs 0 with ⟨pre, x, rest, hx, hfx, hpre, hidx⟩ | ⟨hnone, hidx⟩
  · rw [hidx]
    have hpos : ¬ ((pre.length : Int) = -1) := by omega
    have hxl : xs.length = pre.length + (rest.length + 1) := by rw [hx]; simp
    have hw0 : IntKind.i64.wrap ((pre.length : Int) + 1) = pre.length + 1 := zc (by omega) (by omega)
    have hz : ∀ w : α, over t.z 0 (t.cs w) = t.cs w := fun w => by
      have := zb5 t.z (t.cs w) [] (by rw [t.zn, t.csn])
      simpa using this
    have htk : ∀ w : α, List.take t.n (t.cs w) = t.cs w := fun w => by rw [← t.csn w]; simp
    simp [hpos, hw0]
    refine T.rounds (μ := fun i : List α × List α × List α => i.2.2.length)
      (fun i s => i.1 ++ i.2.2.filter (fun x => !f x) = xs.filter (fun x => !f x) ∧ 0 < i.2.1.length ∧ i.1.length + i.2.1.length + i.2.2.length = xs.length ∧ (∀ y ∈ i.2.2, y ∈ xs) ∧
        s.ρ 0 = .sl 100000 0 xs.length t.n false ∧ s.ρ 1 = .clo g caps ∧ s.ρ 5 = .sc (.int .i64 i.1.length) ∧ s.ρ 6 = .sc (.int .i64 (i.1.length + i.2.1.length : Nat)) ∧ s.h 100000 = some (some (rows t.cs (i.1 ++ i.2.1 ++ i.2.2))) ∧ (∀ b, b ≠ 100000 → s.h b = none) ∧ s.n = 42) (pre, [x], rest) ?_ ?_
    · simp [za, hx, hfx, yV f hpre]
      exact ⟨by omega, fun y hy => .inr (.inr hy)⟩
    rintro ⟨ks, mid, rest'⟩ ⟨ρ, hh, n⟩ ⟨hF, hmid, hlen, hmem, h0', h1', h5', h6', kb, kf, rfl⟩
    simp only at hF hmid hlen hmem h0' h1' h5' h6' kb kf
    obtain ⟨j, hj⟩ : ∃ j, ks.length + mid.length = j := ⟨_, rfl⟩
    rw [hj] at h6' hlen
    refine yg (n := 400) ?_
    have hik : ks.length ≤ xs.length := by omega
    have hoff : ks.length * t.n ≤ (rows t.cs (ks ++ mid ++ rest')).length := by rw [Yb t.csn]; exact Nat.mul_le_mul_right _ (by simp)
    have hkl : (rows t.cs ks).length = ks.length * t.n := Yb t.csn ks
    cases rest' with
    | nil =>
      have hnl : ¬ ((j : Int) < xs.length) := by simp at hlen; omega
      simp only [List.filter_nil, List.append_nil] at hF kb hoff
      rw [← hF]
      simp [h0', h6', hnl]
      refine T.on 400 ?_
      simp [h0', h5', hik, kb, Zj, hoff]
      refine ⟨_, Le.trim 100000 (ks.length * t.n) (by simp; rfl), ?_⟩
      have e : (putX (rows t.cs (ks ++ mid)) (ks.length * t.n) (List.replicate (xs.length - ks.length) t.z).flatten).take (ks.length * t.n) = rows t.cs ks := by
        rw [Yd, zaw hkl, ← hkl, List.take_left']
        rfl
      rw [e]
      simp [ex1, hkl, hfr]
    | cons x rest' =>
      have hlt : (j : Int) < xs.length := by simp at hlen; omega
      have hd := ye t.csn (ks ++ mid) (x :: rest')
      rw [List.length_append, hj, yc, List.append_assoc] at hd
      have hd2 : t.n ≤ (rows t.cs (ks ++ (mid ++ x :: rest'))).length - j * t.n := by
        have := congrArg List.length hd
        rw [List.length_drop, List.length_append, t.csn] at this
        omega
      rw [List.append_assoc] at kb
      have hw : IntKind.i64.wrap ((j : Int) + 1) = j + 1 := zc (by omega) (by omega)
      have hw' : IntKind.i64.wrap ((ks.length : Int) + 1) = ks.length + 1 := zc (by omega) (by omega)
      have h7n : hh 7 = none := kf 7 (by decide)
      have hRx := hR x (hmem x (by simp))
      simp [h0', h6', h1', hlt, kb, hd, hd2, t.csn, t.plL, htk, t.tk, h7n, hz, t.zn]
      refine callK.ro 28 (f := g) (caps := caps) (by simp [za, h1']) hg (ys := [.agg (t.cs x)] ++ caps) (by
        simp only [List.map_cons, List.map_nil, List.cons_append, List.nil_append, List.mapM_cons, hcapA]
        simp [za, Zg, t.shL]) hRx rfl rfl rfl ?_
      have hmemr : ∀ y, y ∈ rest' → y ∈ xs := fun y hy => hmem y (by simp [hy])
      simp only [List.length_cons] at hlen
      cases hfx' : f x with
      | true =>
        have hF' : ks ++ rest'.filter (fun x => !f x) = xs.filter (fun x => !f x) := by rw [← hF]; simp [hfx']
        simp [h6', hw]
        refine ⟨ks, mid ++ [x], rest', by simp, _, Le.reset [0, 1, 5, 6] [100000] ?_ ?_, ?_⟩
        · simp [za, menB, zb, h0', h1', h5', hidc]
        · simp [za, kb]
          exact hfrA _
        · simp [za, h0', h1', h5', kb, hF', ← hj]
          exact ⟨by omega, hmemr, by omega, fun b h1 h2 => absurd h2 h1⟩
      | false =>
        have hF' : ks ++ x :: rest'.filter (fun x => !f x) = xs.filter (fun x => !f x) := by rw [← hF]; simp [hfx']
        obtain ⟨m, mid', rfl⟩ : ∃ m mid', mid = m :: mid' := by
          cases mid with
          | nil => simp at hmid
          | cons m mid' => exact ⟨m, mid', rfl⟩
        simp only [List.length_cons] at hj
        have hov : over (rows t.cs (ks ++ (m :: mid' ++ x :: rest'))) (ks.length * t.n) (t.cs x) = rows t.cs (ks ++ (x :: (mid' ++ x :: rest'))) := by
          rw [Yd, List.cons_append, zbA t.csn t.csn ks (mid' ++ x :: rest') m (t.cs x) (t.csn x), Yd, Yd, yc, yc, Yd, yc]
        have hq : ks.length * t.n + t.n ≤ (rows t.cs (ks ++ (m :: mid' ++ x :: rest'))).length := by
          rw [Yb t.csn, ← Nat.succ_mul]
          exact Nat.mul_le_mul_right _ (by simp)
        have hkx : (ks.length : Int) < xs.length := by omega
        simp only [List.cons_append] at hov hq kb
        simp [h6', h5', h0', hw, hw', hkx, t.csn, t.plL, htk, kb, hov, hq]
        refine ⟨ks ++ [x], mid' ++ [x], rest', by simp, _, Le.reset [0, 1, 5, 6] [100000] ?_ ?_, ?_⟩
        · simp [za, menB, zb, h0', h1', h5', hidc]
        · simp [za, kb]
          exact hfrA _
        · simp [za, h0', h1', h5', kb, hF', ← hj]
          exact ⟨by omega, hmemr, by omega, fun b h1 h2 => absurd h2 h1⟩
  · rw [hidx, yV f hnone]
    simp
    refine ⟨_, Le.refl _, ?_⟩
    simp [ex1, hl, hfr]
end
end Go.Proofs.YtopofpihpnjmbaaGreatDoor.Am
