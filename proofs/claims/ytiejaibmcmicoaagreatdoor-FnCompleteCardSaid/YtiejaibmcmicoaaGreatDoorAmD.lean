/- Slices cut, copied within, cleared: slices.Insert, slices.DeleteFunc, slices.Clip; no condition. -/
import Derived.Test.YtiejaibmcmicoaaGreatDoorAmM
import Derived.Laws.Externs
namespace Go.Proofs.YtiejaibmcmicoaaGreatDoor.Am
open Go
set_option linter.unusedSimpArgs false
set_option linter.unusedVariables false
attribute [local congr] T_congr callK_congr callWK_congr
attribute [local simp] run_nil run_op0 run_opg run_seq run_cond run_block run_ret run_skip run_skip_after run_skip_blk run_exit run_exit_after run_exit_blk run_loop run_any runS_nil runS_op0 runS_opg runW_nil runW_op0 runW_opg exec_q exec_w exec_c exec_n execW_q execW_w execW_c restW_app hideH_app merge_app wblk rest_app restS_app execS_q execS_c aval dOk upd_app ev_t ev_c setO_some setO_none put_mk pinsOf isIo hasIo sbin endR fin resL one outL out1 clo1 cloL coe coeL shut shut.shutL wantA weff cellsOf fillA deref natOf ρ0_app h0_app plain plain.plainL keep_app keepH_app andThen_normal andThen_ret andThen_exit pop_nil pop_after pop_after_ret pop_after_exit pop_blk pop_blk_ret pop_blk_exit nilA srcOf srcCells keepR_app keepHR_app renA rb dstA lenA cutA
theorem callK.ext {P : Program} {p : List Nat} {fx : AX} {xs : List AX} {dst : Option Nat} {st : St} {K : St → Prop} {f : FuncId} {y : AV} (hf : fx.ev st.ρ = .clo f []) (hx : ExtT P f (xs.map (·.ev st.ρ)) st y) (hd : dOk p dst st.n = true) (hK : K (st.setO dst y)) : callK P p fx xs dst st K := .inr (.inl ⟨f, y, hf, hx, hd, hK⟩)
theorem Blk.shape {w : World} {g : Nat} {C : Array Value} (h : Blk w g C) : ∃ e, w.shape? g = some (e, C.size) := by
  obtain ⟨e, fr, h1, h2⟩ := h
  exact ⟨e, by simp [World.shape?, h1]⟩
theorem overlaps_ext {P : Program} {f : FuncId} {fn : Func} {t tr e : TypeId} {sz : Nat} (hf : P.funcs[f]? = some fn) (hname : (fn.name == "runtime.NumGoroutine") = false) (hb : fn.body.isNone = true) (hn : Extern.findNext fn = none)
    (he : Extern.find fn = some (Extern.SlicesOverlaps.overlaps #[t, t] #[tr])) (ht : P.underlying t = some (.slice e)) (hz : szB P e = some sz) {x y : AV} {st : St} {b1 o1 n1 s1 b2 o2 n2 s2 : Nat} {cs1 cs2 : List AV}
    (dx : dstA x = some (b1, o1, n1, s1)) (dy : dstA y = some (b2, o2, n2, s2)) (h1 : st.h b1 = some (some cs1)) (h2 : st.h b2 = some (some cs2)) (hne : b1 ≠ b2) : ExtT P f [x, y] st (.sc (.bool false)) := by
  intro E φ M L a w vs I hl hv
  obtain ⟨v1, v2, rfl⟩ : ∃ v1 v2, vs = [v1, v2] := by
    match vs, hl with
    | [v1, v2], _ => exact ⟨v1, v2, rfl⟩
  have k1 := hv 0 x v1 rfl rfl
  have k2 := hv 1 y v2 rfl rfl
  refine ⟨.bool false, ?_, V.sc _ rfl⟩
  rw [run_callFunc_extern hf hname hb hn he]
  suffices h : ((Extern.SlicesOverlaps.overlaps #[t, t] #[tr]) [v1, v2].toArray).run P w = .ok (.bool false) w by rw [h]; rfl
  rcases dst_ok k1 dx with ⟨rfl, A, rfl⟩ | ⟨l, c, hl1, rfl, hb1⟩ <;> rcases dst_ok k2 dy with ⟨rfl, B, rfl⟩ | ⟨l', c', hl2, rfl, hb2⟩
  · cases A <;> cases B <;> (delta Extern.SlicesOverlaps.overlaps Extern.SlicesOverlaps.overlaps.match_4 Extern.SlicesOverlaps.overlaps._sparseCasesOn_4; simp [Array.getLit, run_underB ht, run_sizeB hz])
  · cases A <;> (delta Extern.SlicesOverlaps.overlaps Extern.SlicesOverlaps.overlaps.match_4 Extern.SlicesOverlaps.overlaps._sparseCasesOn_4; simp [Array.getLit, run_underB ht, run_sizeB hz])
  · cases B <;> (delta Extern.SlicesOverlaps.overlaps Extern.SlicesOverlaps.overlaps.match_4 Extern.SlicesOverlaps.overlaps._sparseCasesOn_4; simp [Array.getLit, run_underB ht, run_sizeB hz])
  · rcases I.root b1 cs1 h1 with ⟨_, r2, _⟩ | ⟨m1, C1, us1, F1, r2, hB1, hn1, _, _, hL1⟩
    · rw [hl1] at r2; cases r2
    rw [hl1] at r2; cases r2
    rcases I.root b2 cs2 h2 with ⟨_, r2, _⟩ | ⟨m2, C2, us2, F2, r2, hB2, hn2, _, _, hL2⟩
    · rw [hl2] at r2; cases r2
    rw [hl2] at r2; cases r2
    have hg : l.g ≠ l'.g := fun e => I.disj b1 b2 cs1 cs2 hne h1 h2 l.g (by rw [hL1]; simp) (by rw [hL2, e]; simp)
    obtain ⟨e1, hs1⟩ := hB1.shape
    obtain ⟨e2, hs2⟩ := hB2.shape
    have f1 := hB1.frozen (l.o + o1) (by omega)
    have f2 := hB2.frozen (l'.o + o2) (by omega)
    have f3 := hB1.frozen C1.size (Nat.le_refl _)
    have f4 := hB2.frozen C2.size (Nat.le_refl _)
    by_cases h0 : n1 = 0 ∨ n2 = 0 ∨ sz = 0
    · (delta Extern.SlicesOverlaps.overlaps Extern.SlicesOverlaps.overlaps.match_4 Extern.SlicesOverlaps.overlaps._sparseCasesOn_4; simp [Array.getLit, run_underB ht, run_sizeB hz, h0])
    · (delta Extern.SlicesOverlaps.overlaps Extern.SlicesOverlaps.overlaps.match_4 Extern.SlicesOverlaps.overlaps._sparseCasesOn_4; simp [Array.getLit, run_underB ht, run_sizeB hz, h0, hg, frozen, noView, viewAt, mayBeOne, stringish, shape, Sem.run, hs1, hs2, f1, f2, f3, f4])
theorem V.exact {φ : Nat → Option Loc} {M : Nat → Prop} {w : World} {b off len sz : Nat} {lim : Bool} {v : Value} (h : V φ M w (.sl b off len sz lim) v []) : ∃ c, len ≤ c ∧ V φ M w (.pf b off len c sz) v [] := by
  obtain ⟨_, ⟨rfl, A, rfl⟩ | ⟨l, c, hl, rfl, h1, h2, _⟩⟩ := vsl h
  · exact ⟨0, Nat.le_refl _, .pfz _ _ _ _⟩
  · exact ⟨c, h1, .pf _ _ _ _ _ l hl h1 h2⟩
theorem SR.retell {E : Ent} {φ : Nat → Option Loc} {M : Nat → Prop} {L : Nat → List Nat} {st : St} {tm : Array Value} {w : World} (I : Inv E φ M L st tm w) (t : Nat) {x : AV} (hx : V φ M w x (tm.getD t undef) []) : SR E ⟨upd st.ρ t x, st.h, st.n⟩ tm w :=
  ⟨φ, M, L, I.size, fun i => by
    by_cases e : i = t
    · subst e
      show V φ M w (upd st.ρ i x i) _ []
      rw [upd_same]; exact hx
    · show V φ M w (upd st.ρ t x i) _ []
      rw [upd_ne _ _ e]; exact I.env i, I.root, I.fresh, I.nodup, I.disj, I.notM, I.low, I.bound, I.m0, I.m1, I.own, I.os, I.tape, I.output, I.grown, I.frame, I.keep⟩
theorem T.exact {P : Program} {p : List Nat} {c : AC} {st : St} {Q : AE → St → Prop} (t : Nat) {b off len sz : Nat} {lim : Bool} (hρ : st.ρ t = .sl b off len sz lim) (h : ∀ k, len ≤ k → T P p c ⟨upd st.ρ t (.pf b off len k sz), st.h, st.n⟩ Q) : T P p c st Q := by
  rintro code hc E a w QQ ⟨φ, M, L, I⟩ hk
  have hv := I.env t
  rw [hρ] at hv
  obtain ⟨k, hle, hx⟩ := hv.exact
  exact h k hle code hc E a w QQ (SR.retell I t hx) hk
theorem Le.unpf {st : St} (t : Nat) {b off len cap sz : Nat} (hρ : st.ρ t = .pf b off len cap sz) : Le st ⟨upd st.ρ t (.sl b off len sz false), st.h, st.n⟩ := by
  rintro E tm w ⟨φ, M, L, I⟩
  have hv := I.env t
  rw [hρ] at hv
  refine SR.retell I t ?_
  obtain ⟨_, ⟨rfl, rfl, A, e⟩ | ⟨l, hl, e, h1, h2⟩⟩ := vpf hv
  · rw [e]; exact .slz _ _ _ _ _
  · rw [e]; exact .sl _ _ _ _ _ l _ hl h1 h2 (fun e => by cases e)
theorem take_flatten_sub : ∀ (Fs : List (List Nat)) (k : Nat), (Fs.take k).flatten.Sublist Fs.flatten
  | [], k => by simp
  | F :: Fs, 0 => by simp
  | F :: Fs, k + 1 => by simpa using (take_flatten_sub Fs k).append_left F
theorem Le.trim {st : St} (b k : Nat) {cs : List AV} (hb : st.h b = some (some cs)) : Le st ⟨st.ρ, upd st.h b (some (some (cs.take k))), st.n⟩ := by
  rintro E tm w ⟨φ, M, L, I⟩
  rcases I.root b cs hb with ⟨rfl, r2, r3⟩ | ⟨l, C, us, F, r1, r2, r3, ⟨Fs, k1, k2, k3, k4, k5⟩, r5, r6⟩
  · have e : upd st.h b (some (some (([] : List AV).take k))) = st.h := by
      funext i
      by_cases ei : i = b
      · subst ei; rw [upd_same, hb, List.take_nil]
      · rw [upd_ne _ _ ei]
    rw [e]
    exact ⟨φ, M, L, I⟩
  have hsub := take_flatten_sub Fs k
  have hst : ∀ b' cs', upd st.h b (some (some (cs.take k))) b' = some (some cs') → ∃ cs0, st.h b' = some (some cs0) ∧ (upd L b (l.g :: (Fs.take k).flatten) b').Sublist (L b') := fun b' cs' h => by
    by_cases e : b' = b
    · subst e; exact ⟨cs, hb, by rw [upd_same, r6, k4]; exact hsub.cons_cons _⟩
    · rw [upd_ne _ _ e] at h; exact ⟨cs', h, by rw [upd_ne _ _ e]; exact List.Sublist.refl _⟩
  refine ⟨φ, M, upd L b (l.g :: (Fs.take k).flatten), I.size, I.env, fun b' cs' h => ?_, fun b' h => ?_, fun b' cs' h => ?_, fun b1 b2 c1 c2 h12 h1 h2 g hg1 hg2 => ?_, fun b' cs' h g hg => ?_, fun b' cs' h g hg => ?_, I.bound, I.m0, I.m1, fun b' cs' h g hg => ?_, I.os, I.tape, I.output, I.grown, I.frame, I.keep⟩
  · have h' : upd st.h b (some (some (cs.take k))) b' = some (some cs') := h
    by_cases e : b' = b
    · subst e
      rw [upd_same] at h'
      cases h'
      refine .inr ⟨l, C, us.take k, (Fs.take k).flatten, r1, r2, r3, ⟨Fs.take k, by simp [k1], by simp [k2], fun u hu => k3 u (List.mem_of_mem_take hu), rfl, fun j x u G a c d => ?_⟩, fun j u hj => ?_, upd_same _ _ _⟩
      · rw [List.getElem?_take] at a c d
        split at a <;> (try cases a)
        rename_i hlt
        rw [if_pos hlt] at c d
        exact k5 j x u G a c d
      · rw [List.getElem?_take] at hj
        split at hj <;> (try cases hj)
        exact r5 j u hj
    · rw [upd_ne _ _ e] at h'
      rw [upd_ne _ _ e]
      exact I.root b' cs' h'
  · have h' : upd st.h b (some (some (cs.take k))) b' = none := h
    by_cases e : b' = b
    · subst e; rw [upd_same] at h'; cases h'
    · rw [upd_ne _ _ e] at h'; exact I.fresh b' h'
  · obtain ⟨d1, e1, s1⟩ := hst b' cs' h
    exact (I.nodup b' d1 e1).sublist s1
  · obtain ⟨d1, e1, s1⟩ := hst b1 c1 h1
    obtain ⟨d2, e2, s2⟩ := hst b2 c2 h2
    exact I.disj b1 b2 d1 d2 h12 e1 e2 g (s1.subset hg1) (s2.subset hg2)
  · obtain ⟨d1, e1, s1⟩ := hst b' cs' h
    exact I.notM b' d1 e1 g (s1.subset hg)
  · obtain ⟨d1, e1, s1⟩ := hst b' cs' h
    exact I.low b' d1 e1 g (s1.subset hg)
  · obtain ⟨d1, e1, s1⟩ := hst b' cs' h
    exact I.own b' d1 e1 g (s1.subset hg)
structure MRet2 (P : Program) (f : FuncId) (cs1 : List AV) (n1 s1 : Nat) (cs2 : List AV) (n2 s2 : Nat) (v r : AV) (cs1' cs2' : List AV) : Prop where
  pp : 0 < n1 → 0 < n2 → Ret P f [.agg [.io cs1 n1 s1, .io cs2 n2 s2], v] r [.agg [.io cs1' n1 s1, .io cs2' n2 s2], .un]
  pz : 0 < n1 → n2 = 0 → Ret P f [.agg [.io cs1 n1 s1, .ro [] 0], v] r [.agg [.io cs1' n1 s1, .un], .un]
  zp : n1 = 0 → 0 < n2 → Ret P f [.agg [.ro [] 0, .io cs2 n2 s2], v] r [.agg [.un, .io cs2' n2 s2], .un]
  zz : n1 = 0 → n2 = 0 → Ret P f [.agg [.ro [] 0, .ro [] 0], v] r [.un, .un]
def leR (Q : AE → St → Prop) : AE → St → Prop := fun e s => ∃ s', Le s s' ∧ Q e s'
theorem leR_app {Q : AE → St → Prop} {e : AE} {s : St} : leR Q e s = ∃ s', Le s s' ∧ Q e s' := rfl
theorem T.leR {P : Program} {p : List Nat} {c : AC} {st : St} {Q : AE → St → Prop} (h : T P p c st (leR Q)) : T P p c st Q :=
  fun code hc E a w QQ hs hk => h code hc E a w QQ hs fun e st' a' w' hq hs' hf => by
    obtain ⟨s', h1, h2⟩ := hq
    exact hk e s' a' w' h2 (h1 _ _ _ hs') hf
theorem Ret.runT {P : Program} {f : FuncId} {fn : Func} {c : AC} {n : Nat} {args ys : List AV} {ρ1 ρ2 : Nat → AV} {h1 : Nat → Option (Option (List AV))} {rs : List QOp} {ret : AV} {outs : List AV} {m : Nat} (hf : P.funcs[f]? = some fn) (hc : fn.body.bind (comp P) = some c ∧ fn.ntmps = n ∧ fn.results.toList.mapM (resB P) = some rs)
    (hl : args.length ≤ n) (hent : entL 100000 args ⟨fun _ => .un, h0, n⟩ = some (ys, ⟨ρ1, h1, m⟩)) (hρ : iniρ ys 0 = ρ2)
    (h : T P (pinsOf args 0) c ⟨ρ2, h1, n⟩ (leR (endR args ret outs rs))) : Ret P f args ret outs := by
  refine Ret.by hf hc hl hent rfl ?_
  have : (fun t => ys.getD t (.tup [])) = ρ2 := by
    funext t
    rw [← hρ]
    have := iniρ_get ys 0 t
    rw [Nat.zero_add] at this
    exact this.symm
  rw [this]
  exact T.mono (T.leR h) endR_ok
structure OvF (P : Program) (f : FuncId) (sz : Nat) : Prop where
  ex : ∃ fn t tr e, P.funcs[f]? = some fn ∧ (fn.name == "runtime.NumGoroutine") = false ∧ fn.body.isNone = true ∧ Extern.findNext fn = none ∧ Extern.find fn = some (Extern.SlicesOverlaps.overlaps #[t, t] #[tr]) ∧ P.underlying t = some (.slice e) ∧ szB P e = some sz
theorem OvF.ext {P : Program} {f : FuncId} {sz : Nat} (h : OvF P f sz) {x y : AV} {st : St} {b1 o1 n1 s1 b2 o2 n2 s2 : Nat} {cs1 cs2 : List AV}
    (dx : dstA x = some (b1, o1, n1, s1)) (dy : dstA y = some (b2, o2, n2, s2)) (h1 : st.h b1 = some (some cs1)) (h2 : st.h b2 = some (some cs2)) (hne : b1 ≠ b2) : ExtT P f [x, y] st (.sc (.bool false)) := by
  obtain ⟨fn, t, tr, e, e1, e2, e3, e4, e5, e6, e7⟩ := h.ex
  exact overlaps_ext e1 e2 e3 e4 e5 e6 e7 dx dy h1 h2 hne
def ovS (P : Program) (t : TypeId) : Option Nat := match P.underlying t with | some (.slice e) => szB P e | _ => none
theorem OvF.of {P : Program} {f : FuncId} {sz : Nat} {fn : Func} (h1 : P.funcs[f]? = some fn) (h2 : (fn.name == "runtime.NumGoroutine") = false) (h3 : fn.body.isNone = true) (h4 : Extern.findNext fn = none)
    (h5 : Extern.find fn = some (Extern.SlicesOverlaps.overlaps #[fn.params.getD 0 0, fn.params.getD 0 0] #[fn.resultTypes.getD 0 0])) (h6 : ovS P (fn.params.getD 0 0) = some sz) : OvF P f sz := by
  unfold ovS at h6
  split at h6
  · rename_i e he
    exact ⟨fn, _, _, e, h1, h2, h3, h4, h5, he, h6⟩
  · cases h6
section
variable {P : Program} {α : Type}
mutual
theorem shut_idfree : ∀ {c : AV}, shut c = true → idfree c = true
  | .agg cs, h => shutL_idfree cs h
  | .tup cs, h => shutL_idfree cs h
  | .clo _ cs, h => shutL_idfree cs h
  | .un, _ => rfl
  | .sc _, _ => rfl
  | .em, _ => rfl
  | .ro .., _ => rfl
  | .rp .., _ => rfl
theorem shutL_idfree : ∀ (l : List AV), shut.shutL l = true → idfree.idfreeL l = true
  | [], _ => rfl
  | x :: l, h => by
    simp only [shut.shutL, Bool.and_eq_true] at h
    simp only [idfree.idfreeL, Bool.and_eq_true]
    exact ⟨shut_idfree h.1, shutL_idfree l h.2⟩
end
theorem idx_cases (f : α → Bool) : ∀ (xs : List α) (k : Int), (∃ pre x rest, xs = pre ++ x :: rest ∧ f x = true ∧ (∀ y ∈ pre, f y = false) ∧ idx f xs k = k + pre.length) ∨ ((∀ y ∈ xs, f y = false) ∧ idx f xs k = -1)
  | [], k => .inr ⟨by simp, by simp [idx]⟩
  | y :: xs, k => by
    cases hy : f y with
    | true => exact .inl ⟨[], y, xs, rfl, hy, by simp, by simp [idx, hy]⟩
    | false =>
      rcases idx_cases f xs (k + 1) with ⟨pre, x, rest, rfl, h1, h2, h3⟩ | ⟨h1, h2⟩
      · refine .inl ⟨y :: pre, x, rest, rfl, h1, ?_, ?_⟩
        · intro z hz
          rcases List.mem_cons.1 hz with rfl | hz
          · exact hy
          · exact h2 z hz
        · have e : idx f (y :: (pre ++ x :: rest)) k = idx f (pre ++ x :: rest) (k + 1) := by simp [idx, hy]
          rw [e, h3]
          simp only [List.length_cons]
          omega
      · refine .inr ⟨?_, by simp [idx, hy, h2]⟩
        intro z hz
        rcases List.mem_cons.1 hz with rfl | hz
        · exact hy
        · exact h1 z hz
end
end Go.Proofs.YtiejaibmcmicoaaGreatDoor.Am
