/- Slices whose cells own what they hold: all of a slice is opened, cut and packed anew; slices.DeleteFunc over such; no condition. -/
import Derived.Test.YtopofpihpnjmbaaGreatDoorAmF
namespace Go.Proofs.YtopofpihpnjmbaaGreatDoor.Am
open Go
set_option linter.unusedSimpArgs false
set_option linter.unusedVariables false
attribute [local congr] yP yt zq
attribute [local simp] yM ZM zM yL zC Zy YL ZB zk Zo YB Zk Yo yB YM YC yC ZC zJ YI yI y1 Z1 Z2 Y1 ZW zW yW ZD Za Ya wblk zD yy YO zP aval dOk za ev_t ev_c zw zy yZ yA isIo hasIo sbin endR fin resL one outL out1 clo1 cloL coe coeL shut shut.shutL wantA weff cellsOf fillA deref natOf ρ0_app Y0 plain plain.plainL Zf Ye Yk Yt Zq yH Zw Zn yk ZN zt Zp nilA srcOf Zr Yp yn renA rb dstA lenA cutA
def menQ (q : Nat → Bool) : AV → Bool
  | .sl b _ _ _ _ => q b
  | .ref b _ => q b
  | x => zb x
section
variable {φ : Nat → Option Loc} {M : Nat → Prop} {w : World} {P : Program} {p : List Nat}
theorem V.menQ {φ' : Nat → Option Loc} {q : Nat → Bool} {x : AV} {v : Value} {F : List Nat} (h : V φ M w x v F) (hm : Am.menQ q x = true) (hφ : ∀ b, q b = true → φ' b = φ b) : V φ' M w x v F := by
  cases x
  case sl b off len sz lim =>
    have hb : q b = true := hm
    cases h with
    | imm _ _ h => exact .imm _ _ h
    | sl _ _ _ _ _ l c h h1 h2 h3 => exact .sl _ _ _ _ _ l c ((hφ b hb).trans h) h1 h2 h3
    | slz => exact .slz _ _ _ _ _
  case ref b off =>
    have hb : q b = true := hm
    cases h with
    | imm _ _ h => exact .imm _ _ h
    | ref _ _ l h => exact .ref _ _ l ((hφ b hb).trans h)
  all_goals exact h.free hm
def keepQ (q : Nat → Bool) (h : Hp) : Hp := fun b => if q b = true then h b else none
theorem Le.resetQ {st : St} (ks : List Nat) (q : Nat → Bool) (h1 : ∀ t, t ∈ ks → Am.menQ q (st.ρ t) = true) (h2 : ∀ b, q b = true → ∀ cs, st.h b = some (some cs) → ∀ x ∈ cs, Am.menQ q x = true) : Le st ⟨keep ks st.ρ, keepQ q st.h, st.n⟩ := by
  rintro E tm w ⟨φ, M, L, I⟩
  let φ' : Nat → Option Loc := fun b => if q b = true then φ b else none
  have hφ : ∀ b, q b = true → φ' b = φ b := fun b hb => if_pos hb
  have hlive : ∀ b cs, keepQ q st.h b = some (some cs) → q b = true ∧ st.h b = some (some cs) := fun b cs h => by
    unfold keepQ at h
    split at h
    · rename_i hb; exact ⟨hb, h⟩
    · cases h
  refine ⟨φ', M, L, I.size, fun t => ?_, fun b cs h => ?_, fun b h => ?_, fun b cs h => I.nodup b cs (hlive b cs h).2, fun b b' cs cs' hne h h' => I.disj b b' cs cs' hne (hlive b cs h).2 (hlive b' cs' h').2, fun b cs h => I.notM b cs (hlive b cs h).2,
    fun b cs h => I.low b cs (hlive b cs h).2, I.bound, I.m0, I.m1, fun b cs h => I.own b cs (hlive b cs h).2, I.os, I.tape, I.output, I.grown, I.frame, I.keep⟩
  · show V φ' M w (keep ks st.ρ t) _ []
    unfold keep
    split
    · rename_i ht
      exact (I.env t).menQ (h1 t (by simpa using ht)) hφ
    · exact V.un _
  · obtain ⟨hb, hl⟩ := hlive b cs h
    rcases I.root b cs hl with ⟨e1, e2, e3⟩ | ⟨l, C, us, F, e1, e2, e3, ⟨Fs, k1, k2, k3, k4, k5⟩, e6, e7⟩
    · exact .inl ⟨e1, (hφ b hb).trans e2, e3⟩
    · exact .inr ⟨l, C, us, F, (hφ b hb).trans e1, e2, e3, ⟨Fs, k1, k2, k3, k4, fun j x u F a c d => (k5 j x u F a c d).menQ (h2 b hb cs hl x (List.mem_of_getElem? a)) hφ⟩, e6, e7⟩
  · show φ' b = none
    simp only [φ']
    split
    · rename_i hb
      refine I.fresh b ?_
      have h' : keepQ q st.h b = none := h
      unfold keepQ at h'
      rw [if_pos hb] at h'
      exact h'
    · rfl
end
theorem Le.openAll (b : Nat) (post : List AV) : ∀ (oc : List AV) (d : Nat) (pre : List AV) (h : Hp), h b = some (some (pre ++ (oc ++ post))) → (∀ c ∈ oc, OwnC c) → (∀ i, i < oc.length → h (d + i) = none) → (b < d ∨ d + oc.length ≤ b) →
    ∃ h', (∀ ρ n, Le ⟨ρ, h, n⟩ ⟨ρ, h', n⟩) ∧ h' b = some (some (pre ++ (ysOf d oc ++ post))) ∧ (∀ i cs len sz, oc[i]? = some (.own cs len sz) → h' (d + i) = some (some cs)) ∧ (∀ c, c ≠ b → (c < d ∨ d + oc.length ≤ c) → h' c = h c) ∧ ∀ c, c ≠ b → h' c = h c ∨ ∃ (i : Nat) (cs : List AV) (len sz : Nat), oc[i]? = some (AV.own cs len sz) ∧ h' c = some (some cs)
  | [], d, pre, h, hb, _, _, _ => ⟨h, fun _ _ => Le.refl _, hb, by simp, fun _ _ _ => rfl, fun _ _ => .inl rfl⟩
  | c :: oc, d, pre, h, hb, ho, hh, hd => by
    simp only [List.length_cons] at hd hh
    rcases ho c (by simp) with ⟨cs, len, sz, rfl, hl, hid, hfl⟩ | ⟨v, rfl⟩
    · have hi := hh 0 (by omega)
      rw [Nat.add_zero] at hi
      have hj : (pre ++ (AV.own cs len sz :: oc ++ post))[pre.length]? = some (.own cs len sz) := by
        rw [List.getElem?_append_right (Nat.le_refl _)]; simp
      have hp := fun (ρ : Nat → AV) (n : Nat) => Le.open (st := ⟨ρ, h, n⟩) b pre.length d hb hj hi hid
      have hset : (pre ++ (AV.own cs len sz :: oc ++ post)).set pre.length (.sl d 0 len sz false) = (pre ++ [.sl d 0 len sz false]) ++ (oc ++ post) := by
        rw [List.set_append_right _ _ (Nat.le_refl _)]; simp
      simp only [hset] at hp
      obtain ⟨h', k1, k2, k4, k3, k5⟩ := Le.openAll b post oc (d + 1) (pre ++ [.sl d 0 len sz false]) (upd (upd (upd h b (some none)) d (some (some cs))) b (some (some ((pre ++ [.sl d 0 len sz false]) ++ (oc ++ post))))) (by rw [Zc]) (fun c hc => ho c (by simp [hc])) (fun i hi' => by
        rw [zd _ _ (by omega), zd _ _ (by omega), zd _ _ (by omega)]
        have := hh (i + 1) (by omega)
        rwa [show d + (i + 1) = d + 1 + i by omega] at this) (by omega)
      have h0 : h' d = some (some cs) := by rw [k3 d (by omega) (by omega), zd _ _ (by omega), Zc]
      refine ⟨h', fun ρ n => Le.trans (hp ρ n) (k1 ρ n), by rw [k2]; simp [ysOf], fun i cs' len' sz' hi' => ?_, fun c hc hcd => ?_, fun c hc => ?_⟩
      · cases i with
        | zero =>
          simp at hi'
          obtain ⟨rfl, rfl, rfl⟩ := hi'
          rw [Nat.add_zero, h0]
        | succ i => rw [show d + (i + 1) = d + 1 + i by omega]; exact k4 i cs' len' sz' (by simpa using hi')
      · simp only [List.length_cons] at hcd
        rw [k3 c hc (by omega), zd _ _ hc, zd _ _ (by omega), zd _ _ hc]
      · by_cases e : c = d
        · subst e; exact .inr ⟨0, cs, len, sz, rfl, h0⟩
        · rcases k5 c hc with k | ⟨i, cs', len', sz', e1, e2⟩
          · left; rw [k, zd _ _ hc, zd _ _ e, zd _ _ hc]
          · exact .inr ⟨i + 1, cs', len', sz', by simpa using e1, e2⟩
    · obtain ⟨h', k1, k2, k4, k3, k5⟩ := Le.openAll b post oc (d + 1) (pre ++ [.sc v]) h (by rw [hb]; simp) (fun c hc => ho c (by simp [hc])) (fun i hi' => by
        have := hh (i + 1) (by omega)
        rwa [show d + (i + 1) = d + 1 + i by omega] at this) (by omega)
      refine ⟨h', k1, by rw [k2]; simp [ysOf], fun i cs' len' sz' hi' => ?_, fun c hc hcd => ?_, fun c hc => ?_⟩
      · cases i with
        | zero => simp at hi'
        | succ i => rw [show d + (i + 1) = d + 1 + i by omega]; exact k4 i cs' len' sz' (by simpa using hi')
      · simp only [List.length_cons] at hcd
        exact k3 c hc (by omega)
      · rcases k5 c hc with k | ⟨i, cs', len', sz', e1, e2⟩
        · exact .inl k
        · exact .inr ⟨i + 1, cs', len', sz', by simpa using e1, e2⟩
theorem YX {α : Type} : ∀ (Fs : List (List α)) (k : Nat), (Fs.drop k).flatten.Sublist Fs.flatten
  | [], k => by simp
  | F :: Fs, 0 => by simp
  | F :: Fs, k + 1 => by
    rw [List.drop_succ_cons, List.flatten_cons]
    exact List.sublist_append_of_sublist_right (YX Fs k)
theorem Le.front {st : St} (ks : List Nat) (t b : Nat) {off len sz : Nat} {lim : Bool} {cs : List AV} (ht : st.ρ t = .sl b off len sz lim) (hb : st.h b = some (some cs)) (ho : off ≤ cs.length) (h1 : ∀ t, t ∈ ks → zb (st.ρ t) = true) (h2 : ∀ x ∈ cs, zb x = true) :
    Le st ⟨upd (keep ks st.ρ) t (.sl b 0 len sz lim), oneH b (cs.drop off), st.n⟩ := by
  rintro E tm w ⟨φ, M, L, I⟩
  have hlive : ∀ b' cs', oneH b (cs.drop off) b' = some (some cs') → b' = b ∧ cs' = cs.drop off := fun b' cs' h => by
    rw [yr] at h
    split at h
    · rename_i e; cases h; exact ⟨by first | exact e | exact e.symm, rfl⟩
    · cases h
  have hself : oneH b (cs.drop off) b = some (some (cs.drop off)) := by rw [yr, if_pos rfl]
  have hv := I.env t
  rw [ht] at hv
  rcases I.root b cs hb with ⟨rfl, r2, r3⟩ | ⟨l, C, us, F, r1, r2, r3, ⟨Fs, k1, k2, k3, k4, k5⟩, r5, r6⟩
  · obtain rfl : off = 0 := by simpa using ho
    refine ⟨fun _ => none, M, L, I.size, fun t' => ?_, fun b' cs' h => ?_, fun _ _ => rfl, fun b' cs' h => ?_, fun b1 b2 c1 c2 h12 e1 e2 => ?_, fun b' cs' h g hg => ?_, fun b' cs' h g hg => ?_, I.bound, I.m0, I.m1, fun b' cs' h g hg => ?_, I.os, I.tape, I.output, I.grown, I.frame, I.keep⟩
    · show V _ M w (upd (keep ks st.ρ) t (.sl b 0 len sz lim) t') _ []
      by_cases e : t' = t
      · subst e
        rw [Zc]
        generalize tm.getD t' undef = v at hv
        cases hv with
        | imm _ _ h => cases h
        | sl _ _ _ _ _ l c h => rw [r2] at h; cases h
        | slz => exact .slz _ _ _ _ _
      · rw [zd _ _ e]
        unfold keep
        split
        · rename_i ht'
          exact (I.env t').free (h1 t' (by simpa using ht'))
        · exact V.un _
    · obtain ⟨rfl, rfl⟩ := hlive b' cs' h
      exact .inl ⟨by simp, rfl, r3⟩
    · obtain ⟨rfl, rfl⟩ := hlive b' cs' h
      rw [r3]; exact List.nodup_nil
    · obtain ⟨rfl, rfl⟩ := hlive b1 c1 e1
      exact absurd (hlive b2 c2 e2).1.symm h12
    · obtain ⟨rfl, rfl⟩ := hlive b' cs' h
      rw [r3] at hg; cases hg
    · obtain ⟨rfl, rfl⟩ := hlive b' cs' h
      rw [r3] at hg; cases hg
    · obtain ⟨rfl, rfl⟩ := hlive b' cs' h
      rw [r3] at hg; cases hg
  · have hsub : (l.g :: (Fs.drop off).flatten).Sublist (L b) := by rw [r6, k4]; exact (YX Fs off).cons_cons _
    refine ⟨upd (fun _ => none) b (some ⟨l.g, l.o + off, l.n⟩), M, upd L b (l.g :: (Fs.drop off).flatten), I.size, fun t' => ?_, fun b' cs' h => ?_, fun b' h => ?_, fun b' cs' h => ?_, fun b1 b2 c1 c2 h12 e1 e2 => ?_, fun b' cs' h g hg => ?_, fun b' cs' h g hg => ?_, I.bound, I.m0, I.m1, fun b' cs' h g hg => ?_, I.os, I.tape, I.output, I.grown, I.frame, I.keep⟩
    · show V _ M w (upd (keep ks st.ρ) t (.sl b 0 len sz lim) t') _ []
      by_cases e : t' = t
      · subst e
        rw [Zc]
        generalize tm.getD t' undef = v at hv
        cases hv with
        | imm _ _ h => cases h
        | sl _ _ _ _ _ l' c h a1 a2 a3 =>
          rw [r1] at h
          cases h
          exact .sl b 0 len sz lim ⟨l.g, l.o + off, l.n⟩ c (Zc _ _ _) a1 (by simpa using a2) a3
        | slz => exact .slz _ _ _ _ _
      · rw [zd _ _ e]
        unfold keep
        split
        · rename_i ht'
          exact (I.env t').free (h1 t' (by simpa using ht'))
        · exact V.un _
    · obtain ⟨rfl, rfl⟩ := hlive b' cs' h
      refine .inr ⟨⟨l.g, l.o + off, l.n⟩, C, us.drop off, (Fs.drop off).flatten, Zc _ _ _, r2, r3, ⟨Fs.drop off, by simp [k1], by simp [k2], fun u hu => k3 u (List.mem_of_mem_drop hu), rfl, fun j x u G a c d => ?_⟩, fun j u hj => ?_, Zc _ _ _⟩
      · rw [List.getElem?_drop] at a c d
        exact (k5 _ x u G a c d).free (h2 x (List.mem_of_getElem? a))
      · rw [List.getElem?_drop] at hj
        have := r5 _ u hj
        rwa [← Nat.add_assoc] at this
    · have e : b' ≠ b := fun e => by subst e; rw [show (St.mk _ (oneH b' (cs.drop off)) st.n).h b' = some (some (cs.drop off)) from hself] at h; cases h
      rw [zd _ _ e]
    · obtain ⟨rfl, rfl⟩ := hlive b' cs' h
      rw [Zc]; exact (I.nodup b' cs hb).sublist hsub
    · obtain ⟨rfl, rfl⟩ := hlive b1 c1 e1
      exact absurd (hlive b2 c2 e2).1.symm h12
    · obtain ⟨rfl, rfl⟩ := hlive b' cs' h
      rw [Zc] at hg; exact I.notM b' cs hb g (hsub.subset hg)
    · obtain ⟨rfl, rfl⟩ := hlive b' cs' h
      rw [Zc] at hg; exact I.low b' cs hb g (hsub.subset hg)
    · obtain ⟨rfl, rfl⟩ := hlive b' cs' h
      rw [Zc] at hg; exact I.own b' cs hb g (hsub.subset hg)
theorem Ty.rocO {α : Type} (t : Ty α) {h : Hp} {b off k : Nat} {pre : List AV} {xs : List α} {lim : Bool} (hd : t.d ≤ k) (hb : h b = some (some (pre ++ rows t.oc xs))) (hp : pre.length = off) : Am.roc h (k + 1) (.sl b off xs.length t.n lim) = some (.ro (rows t.cs xs) xs.length) := by
  have hl : ((pre ++ rows t.oc xs).drop off).take (xs.length * t.n) = rows t.oc xs := by
    rw [← hp, List.drop_left', ← Yb t.ocn xs, List.take_length]
    rfl
  have hm := t.rcs h hd xs
  rw [Am.roc, if_neg (by simp [shut])]
  simp only [hb]
  rw [if_pos (by rw [List.length_append, Yb t.ocn, hp]; exact Nat.le_refl _), hl]
  by_cases hs : shut.shutL (rows t.oc xs) = true
  · rw [if_pos hs]
    rw [ZO hs] at hm
    rw [Option.some.inj hm]
  · rw [if_neg hs, hm]
    rfl
theorem Le.mute {st : St} (b : Nat) {cs ys : List AV} (hb : st.h b = some (some cs)) (hys : cs.mapM (roc (fun _ => some none) 8) = some ys) : Le st ⟨st.ρ, upd st.h b (some (some ys)), st.n⟩ := by
  rintro E tm w ⟨φ, M, L, I⟩
  rcases I.root b cs hb with ⟨rfl, r2, r3⟩ | ⟨l, C, us, F, r1, r2, r3, ⟨Fs, k1, k2, k3, k4, k5⟩, r5, r6⟩
  · simp at hys
    subst hys
    have e : upd st.h b (some (some ([] : List AV))) = st.h := by
      funext i
      by_cases ei : i = b
      · subst ei; rw [Zc, hb]
      · rw [zd _ _ ei]
    rw [e]
    exact ⟨φ, M, L, I⟩
  have hbn := I.nodup b cs hb
  rw [r6] at hbn
  obtain ⟨n1, n2⟩ := List.nodup_cons.1 hbn
  have hMM : ∀ g, M g → M g ∨ g ∈ F := fun g h => .inl h
  have hFL : ∀ g, g ∈ F → g ∈ L b := fun g h => by rw [r6]; exact List.mem_cons_of_mem _ h
  have I2 : Inv E φ M L ⟨fun _ => .un, fun _ => some none, st.n⟩ tm w :=
    ⟨I.size, fun t => V.un _, (fun b cs h => nomatch h), (fun b h => nomatch h), (fun b cs h => nomatch h), (fun b b' cs cs' hne h h' => nomatch h), (fun b cs h => nomatch h), (fun b cs h => nomatch h), I.bound, I.m0, I.m1, (fun b cs h => nomatch h), I.os, I.tape, I.output, I.grown, I.frame, I.keep⟩
  obtain ⟨m1, m2⟩ := y5 hys
  have hW : ∀ (j : Nat) (y : AV) (u : Value), ys[j]? = some y → us[j]? = some u → V φ (fun g => M g ∨ g ∈ F) w y u [] := fun j y u hy hu => by
    obtain ⟨x, hx, hxy⟩ := m2 j y hy
    have hjF : j < Fs.length := by rw [k2]; exact (List.getElem?_eq_some_iff.1 hx).1
    have hF := List.getElem?_eq_getElem hjF
    refine .imm _ _ (zeM I2 hMM (fun b cs h => nomatch h) 8 x u _ y (k5 j x u _ hx hu hF) hxy fun g hg => .inr ?_)
    rw [k4]
    exact Yi hF hg
  have hL' : ∀ b' cs', upd st.h b (some (some ys)) b' = some (some cs') → (b' = b ∧ cs' = ys) ∨ (b' ≠ b ∧ st.h b' = some (some cs')) := fun b' cs' h => by
    by_cases e : b' = b
    · subst e; rw [Zc] at h; cases h; exact .inl ⟨rfl, rfl⟩
    · rw [zd _ _ e] at h; exact .inr ⟨e, h⟩
  have hgL : l.g ∈ L b := by rw [r6]; simp
  refine ⟨φ, fun g => M g ∨ g ∈ F, upd L b [l.g], I.size, fun t => (I.env t).mono (fun _ _ h => h) hMM (fun _ _ => rfl), fun b' cs' h => ?_, fun b' h => ?_, fun b' cs' h => ?_, fun b1 b2 c1 c2 h12 e1 e2 g g1 g2 => ?_, fun b' cs' h g hg hm => ?_, fun b' cs' h g hg => ?_, fun g hg => ?_, fun g hg => .inl (I.m0 g hg), fun g hg => ?_, fun b' cs' h g hg => ?_, I.os, I.tape, I.output, I.grown, I.frame, I.keep⟩
  · rcases hL' b' cs' h with ⟨rfl, rfl⟩ | ⟨e, h⟩
    · exact .inr ⟨l, C, us, [], r1, r2, r3, Cs.of_all (by rw [k1, m1]) k3 hW, r5, Zc _ _ _⟩
    · rw [zd _ _ e]
      exact (I.root b' cs' h).mono (fun _ _ h => h) (fun h => h) hMM (fun _ _ => rfl)
  · have h' : upd st.h b (some (some ys)) b' = none := h
    by_cases e : b' = b
    · subst e; rw [Zc] at h'; cases h'
    · rw [zd _ _ e] at h'; exact I.fresh b' h'
  · rcases hL' b' cs' h with ⟨rfl, rfl⟩ | ⟨e, h⟩
    · rw [Zc]; simp
    · rw [zd _ _ e]; exact I.nodup b' cs' h
  · rcases hL' b1 c1 e1 with ⟨rfl, rfl⟩ | ⟨e1', q1⟩
    · rcases hL' b2 c2 e2 with ⟨rfl, rfl⟩ | ⟨e2', q2⟩
      · exact h12 rfl
      · rw [Zc] at g1; rw [zd _ _ e2'] at g2
        obtain rfl : g = l.g := by simpa using g1
        exact I.disj b1 b2 cs c2 h12 hb q2 _ hgL g2
    · rcases hL' b2 c2 e2 with ⟨rfl, rfl⟩ | ⟨e2', q2⟩
      · rw [Zc] at g2; rw [zd _ _ e1'] at g1
        obtain rfl : g = l.g := by simpa using g2
        exact I.disj b1 b2 c1 cs h12 q1 hb _ g1 hgL
      · rw [zd _ _ e1'] at g1; rw [zd _ _ e2'] at g2
        exact I.disj b1 b2 c1 c2 h12 q1 q2 g g1 g2
  · rcases hL' b' cs' h with ⟨rfl, rfl⟩ | ⟨e, h⟩
    · rw [Zc] at hg
      obtain rfl : g = l.g := by simpa using hg
      rcases hm with hm | hm
      · exact I.notM b' cs hb _ hgL hm
      · exact n1 hm
    · rw [zd _ _ e] at hg
      rcases hm with hm | hm
      · exact I.notM b' cs' h g hg hm
      · exact I.disj b' b cs' cs e h hb g hg (hFL g hm)
  · rcases hL' b' cs' h with ⟨rfl, rfl⟩ | ⟨e, h⟩
    · rw [Zc] at hg
      obtain rfl : g = l.g := by simpa using hg
      exact I.low b' cs hb _ hgL
    · rw [zd _ _ e] at hg; exact I.low b' cs' h g hg
  · rcases hg with hg | hg
    · exact I.bound g hg
    · exact I.low b cs hb g (hFL g hg)
  · rcases hg with hg | hg
    · exact I.m1 g hg
    · exact .inr (I.own b cs hb g (hFL g hg))
  · rcases hL' b' cs' h with ⟨rfl, rfl⟩ | ⟨e, h⟩
    · rw [Zc] at hg
      obtain rfl : g = l.g := by simpa using hg
      exact I.own b' cs hb _ hgL
    · rw [zd _ _ e] at hg; exact I.own b' cs' h g hg
theorem Le.muteT {α : Type} (t : Ty α) (hd : t.d ≤ 8) {st : St} (b : Nat) {xs : List α} (hb : st.h b = some (some (rows t.oc xs))) : Le st ⟨st.ρ, upd st.h b (some (some (rows t.cs xs))), st.n⟩ :=
  Le.mute b hb (t.rcs _ hd xs)
theorem Le.ex {st : St} {I : St → Prop} (h : ∃ s, Le st s ∧ ∃ s', Le s s' ∧ I s') : ∃ s, Le st s ∧ I s := by
  obtain ⟨s, h1, s', h2, h3⟩ := h
  exact ⟨s', Le.trans h1 h2, h3⟩
theorem Le.blur {st : St} (b : Nat) (pre ys post : List AV) (hb : st.h b = some (some (pre ++ (ys ++ post)))) (hp : plain.plainL ys = true) : Le st ⟨st.ρ, upd st.h b (some (some (pre ++ (List.replicate ys.length .un ++ post)))), st.n⟩ := by
  rintro E tm w ⟨φ, M, L, I⟩
  have hcell : ∀ (j : Nat) (x : AV), (pre ++ (List.replicate ys.length AV.un ++ post))[j]? = some x → (pre ++ (ys ++ post))[j]? = some x ∨ (x = .un ∧ ∃ y, (pre ++ (ys ++ post))[j]? = some y ∧ plain y = true) := fun j x h => by
    by_cases h1 : j < pre.length
    · rw [List.getElem?_append_left h1] at h ⊢; exact .inl h
    · rw [List.getElem?_append_right (by omega)] at h ⊢
      by_cases h2 : j - pre.length < ys.length
      · right
        rw [List.getElem?_append_left (by simpa using h2)] at h
        rw [List.getElem?_append_left h2]
        have hm := List.mem_of_getElem? h
        refine ⟨(List.mem_replicate.1 hm).2, _, List.getElem?_eq_getElem h2, ZA hp _ (List.getElem_mem h2)⟩
      · rw [List.getElem?_append_right (by simp; omega), List.length_replicate] at h
        rw [List.getElem?_append_right (by omega)]
        exact .inl h
  have hlen : (pre ++ (List.replicate ys.length AV.un ++ post)).length = (pre ++ (ys ++ post)).length := by simp
  have hL' : ∀ b' cs', upd st.h b (some (some (pre ++ (List.replicate ys.length .un ++ post)))) b' = some (some cs') → ∃ cs0, st.h b' = some (some cs0) := fun b' cs' h => by
    by_cases e : b' = b
    · subst e; exact ⟨_, hb⟩
    · rw [zd _ _ e] at h; exact ⟨_, h⟩
  refine ⟨φ, M, L, I.size, I.env, fun b' cs' h => ?_, fun b' h => ?_, fun b' cs' h => ?_, fun b1 b2 c1 c2 h12 e1 e2 => ?_, fun b' cs' h => ?_, fun b' cs' h => ?_, I.bound, I.m0, I.m1, fun b' cs' h => ?_, I.os, I.tape, I.output, I.grown, I.frame, I.keep⟩
  · have h' : upd st.h b (some (some (pre ++ (List.replicate ys.length .un ++ post)))) b' = some (some cs') := h
    by_cases e : b' = b
    · subst e
      rw [Zc] at h'
      cases h'
      rcases I.root b' _ hb with ⟨r1, r2, r3⟩ | ⟨l, C, us, F, r1, r2, r3, ⟨Fs, k1, k2, k3, k4, k5⟩, r5, r6⟩
      · refine .inl ⟨?_, r2, r3⟩
        rw [← List.length_eq_zero_iff, hlen, r1]; rfl
      · refine .inr ⟨l, C, us, F, r1, r2, r3, ⟨Fs, by rw [hlen]; exact k1, by rw [hlen]; exact k2, k3, k4, fun j x u G a c d => ?_⟩, r5, r6⟩
        rcases hcell j x a with a | ⟨rfl, y, hy, hpy⟩
        · exact k5 j x u G a c d
        · obtain rfl : G = [] := (k5 j y u G hy c d).nofoot hpy
          exact V.un _
    · rw [zd _ _ e] at h'; exact I.root b' cs' h'
  · have h' : upd st.h b (some (some (pre ++ (List.replicate ys.length .un ++ post)))) b' = none := h
    by_cases e : b' = b
    · subst e; rw [Zc] at h'; cases h'
    · rw [zd _ _ e] at h'; exact I.fresh b' h'
  · obtain ⟨d, e⟩ := hL' b' cs' h; exact I.nodup b' d e
  · obtain ⟨d1, q1⟩ := hL' b1 c1 e1
    obtain ⟨d2, q2⟩ := hL' b2 c2 e2
    exact I.disj b1 b2 d1 d2 h12 q1 q2
  · obtain ⟨d, e⟩ := hL' b' cs' h; exact I.notM b' d e
  · obtain ⟨d, e⟩ := hL' b' cs' h; exact I.low b' d e
  · obtain ⟨d, e⟩ := hL' b' cs' h; exact I.own b' d e
theorem Le.packOnX {st : St} {I : St → Prop} (b : Nat) (oc : List AV) (ds : List Nat) (pre : List AV) (hn : ds.length = oc.length) (hb : st.h b = some (some (pre ++ ysOn ds oc))) (ho : ∀ c ∈ oc, OwnC c) (hh : ∀ (i d : Nat) (cs : List AV) (len sz : Nat), ds[i]? = some d → oc[i]? = some (AV.own cs len sz) → st.h d = some (some cs)) (hnd : ds.Nodup) (hbd : b ∉ ds)
    (hI : ∀ h', h' b = some (some (pre ++ oc)) → (∀ c, c ≠ b → c ∉ ds → h' c = st.h c) → ∃ s, Le ⟨st.ρ, h', st.n⟩ s ∧ I s) : ∃ s, Le st s ∧ I s := by
  obtain ⟨h', k1, k2, k3⟩ := Le.packOn b [] oc ds pre st.h hn (by rw [List.append_nil]; exact hb) ho hh hnd hbd
  obtain ⟨s, h1, h2⟩ := hI h' (by rwa [List.append_nil] at k2) k3
  exact ⟨s, Le.trans (k1 _ _) h1, h2⟩
theorem T.roundsL {P : Program} {p : List Nat} {ι : Type} {x : AC} {st : St} {Q : AE → St → Prop} (μ : ι → Nat) (I : ι → St → Prop) (i : ι) (h0 : ∃ s, Le st s ∧ I i s)
    (round : ∀ i s, I i s → T P p x s (andThen (fun s' => ∃ j s'', μ j < μ i ∧ Le s' s'' ∧ I j s'') Q)) : T P p (.loop x) st Q := by
  obtain ⟨s, l, h⟩ := h0
  exact T.le l (T.rounds μ I i h round)
section
variable {P : Program} {α : Type} (t : Ty α)
def nm (p : Nat × α) : List AV := ysOf p.1 (t.oc p.2)
def numb (n : Nat) : Nat → List α → List (Nat × α)
  | _, [] => []
  | d, x :: xs => (d, x) :: numb n (d + n) xs
theorem zds : ∀ (a b : List AV) (d : Nat), ysOf d (a ++ b) = ysOf d a ++ ysOf (d + a.length) b
  | [], b, d => rfl
  | c :: a, b, d => by
    have ih := zds a b (d + 1)
    rw [show d + 1 + a.length = d + (a.length + 1) by omega] at ih
    cases c <;> simp [ysOf, ih]
theorem zda : ∀ (xs : List α) (d : Nat), ysOf d (rows t.oc xs) = rows (nm t) (numb t.n d xs)
  | [], d => rfl
  | x :: xs, d => by
    rw [yc, zds, t.ocn, zda xs]
    rfl
theorem zb7 (n : Nat) : ∀ (xs : List α) (d : Nat), (numb n d xs).map (·.2) = xs
  | [], _ => rfl
  | x :: xs, d => by simp [numb, zb7 n xs]
def NB (h : Hp) (p : Nat × α) : Prop := ∀ i cs len sz, (t.oc p.2)[i]? = some (.own cs len sz) → h (p.1 + i) = some (some cs)
theorem NB.of {h : Hp} : ∀ (xs : List α) (d : Nat), (∀ i cs len sz, (rows t.oc xs)[i]? = some (.own cs len sz) → h (d + i) = some (some cs)) → ∀ p ∈ numb t.n d xs, NB t h p
  | [], _, _, p, hp => by cases hp
  | x :: xs, d, hh, p, hp => by
    rcases List.mem_cons.1 hp with rfl | hp
    · intro i cs len sz hi
      refine hh i cs len sz ?_
      rw [yc, List.getElem?_append_left (List.getElem?_eq_some_iff.1 hi).1]
      exact hi
    · refine NB.of xs (d + t.n) (fun i cs len sz hi => ?_) p hp
      rw [Nat.add_assoc]
      refine hh _ cs len sz ?_
      rw [yc, List.getElem?_append_right (by rw [t.ocn]; omega), t.ocn, Nat.add_sub_cancel_left]
      exact hi
theorem zdq {h : Hp} {k : Nat} : ∀ (l : List AV) (d : Nat) (ys : List AV), (∀ c ∈ l, OwnC c) → (∀ i cs len sz, l[i]? = some (.own cs len sz) → h (d + i) = some (some cs)) → l.mapM (roc h k) = some ys → (ysOf d l).mapM (roc h k) = some ys
  | [], d, ys, _, _, hy => hy
  | c :: l, d, ys, ho, hh, hy => by
    simp only [List.mapM_cons, Option.bind_eq_bind, Option.bind_eq_some_iff, Option.pure_def, Option.some.injEq] at hy
    obtain ⟨y, hy, ys', hys, rfl⟩ := hy
    have ih := zdq l (d + 1) ys' (fun c hc => ho c (by simp [hc])) (fun i cs len sz hi => by
      rw [show d + 1 + i = d + (i + 1) by omega]
      exact hh (i + 1) cs len sz (by simpa using hi)) hys
    rcases ho c (by simp) with ⟨cs, len, sz, rfl, hl, hid, hfl⟩ | ⟨v, rfl⟩
    · have hb := hh 0 cs len sz rfl
      rw [Nat.add_zero] at hb
      have e : roc h k (.sl d 0 len sz false) = some y := by
        cases k with
        | zero => simp [roc, shut] at hy
        | succ k =>
          rw [roc, if_neg (by simp [shut])] at hy
          rw [roc, if_neg (by simp [shut])]
          simp only [hb]
          have hl2 : (List.drop 0 cs).take (len * sz) = cs := by rw [List.drop_zero, ← hl, List.take_length]
          rw [if_pos (by omega), hl2]
          by_cases hs : shut.shutL cs = true
          · rw [if_pos hs]
            have hy : (cs.mapM (roc h k)).map (fun ys => AV.ro ys len) = some y := hy
            rw [ZO hs] at hy
            exact hy
          · rw [if_neg hs]
            exact hy
      simp [ysOf, List.mapM_cons, e, ih]
    · simp [ysOf, List.mapM_cons, hy, ih]
theorem zgo {h : Hp} {k : Nat} (hd : t.d ≤ k) {p : Nat × α} (hN : NB t h p) : (nm t p).mapM (roc h k) = some (t.cs p.2) := zdq _ _ _ (t.ow _) hN (t.rc h k p.2 hd)
theorem zgO {h : Hp} (hd : t.d ≤ 7) {p : Nat × α} (hN : NB t h p) : roc h 8 (.agg (nm t p)) = some (.agg (t.cs p.2)) := by rw [Yh, zgo t hd hN]; rfl
theorem ze2 (p : Nat × α) : (nm t p).length = t.n := by rw [nm, zaW, t.ocn]
theorem zdL (p : Nat × α) : plain.plainL (nm t p) = true := zck _ _ (t.ow _)
theorem zdr {q : Nat → Bool} : ∀ (l : List AV) (d : Nat), (∀ c ∈ l, OwnC c) → (∀ b, d ≤ b → q b = true) → ∀ y ∈ ysOf d l, menQ q y = true
  | [], _, _, _, y, hy => by cases hy
  | c :: l, d, ho, hq, y, hy => by
    have ih := zdr l (d + 1) (fun c hc => ho c (by simp [hc])) (fun b hb => hq b (by omega))
    rcases ho c (by simp) with ⟨cs, len, sz, rfl, hl, hid, hfl⟩ | ⟨v, rfl⟩
    · rcases List.mem_cons.1 (show y ∈ AV.sl d 0 len sz false :: ysOf (d + 1) l from hy) with rfl | hy
      · exact hq d (Nat.le_refl _)
      · exact ih y hy
    · rcases List.mem_cons.1 (show y ∈ AV.sc v :: ysOf (d + 1) l from hy) with rfl | hy
      · rfl
      · exact ih y hy
def ids (n : Nat) : List (Nat × α) → List Nat
  | [] => []
  | p :: ps => List.range' p.1 n ++ ids n ps
theorem zfj (n : Nat) : ∀ ps : List (Nat × α), (ids n ps).length = ps.length * n
  | [] => by simp [ids]
  | p :: ps => by simp [ids, zfj n ps, Nat.succ_mul, Nat.add_comm]
theorem zgR (n : Nat) {a b : List (Nat × α)} (h : a.Sublist b) : (ids n a).Sublist (ids n b) := by
  induction h with
  | slnil => exact .slnil
  | cons p _ ih => exact List.sublist_append_of_sublist_right ih
  | cons_cons p _ ih => exact List.Sublist.append (List.Sublist.refl _) ih
theorem zcc (n : Nat) : ∀ (xs : List α) (d : Nat), ids n (numb n d xs) = List.range' d (xs.length * n)
  | [], d => by simp [numb, ids]
  | x :: xs, d => by
    rw [numb, ids, zcc n xs, List.length_cons, Nat.succ_mul, Nat.add_comm (xs.length * n) n, ← List.range'_append_1]
theorem zdp : ∀ (a : List Nat) (l : List AV) (b : List Nat) (m : List AV), a.length = l.length → ysOn (a ++ b) (l ++ m) = ysOn a l ++ ysOn b m
  | [], [], b, m, _ => by simp [ysOn]
  | [], _ :: _, _, _, h => by simp at h
  | _ :: _, [], _, _, h => by simp at h
  | i :: a, c :: l, b, m, h => by
    have ih := zdp a l b m (by simpa using h)
    cases c <;> simp [ysOn, ih]
theorem zbv : ∀ (l : List AV) (d : Nat), ysOn (List.range' d l.length) l = ysOf d l
  | [], d => rfl
  | c :: l, d => by
    have ih := zbv l (d + 1)
    cases c <;> simp [List.range'_succ, ysOn, ysOf, ih]
theorem zgp : ∀ ps : List (Nat × α), ysOn (ids t.n ps) (rows t.oc (ps.map (·.2))) = rows (nm t) ps
  | [] => rfl
  | p :: ps => by
    rw [ids, List.map_cons, yc, zdp _ _ _ _ (by rw [List.length_range', t.ocn]), zgp ps, yc, nm, ← zbv, t.ocn]
theorem zhn {ps : List (Nat × α)} {h : Hp} (hN : ∀ p ∈ ps, NB t h p) : ∀ (i d : Nat) (cs : List AV) (len sz : Nat), (ids t.n ps)[i]? = some d → (rows t.oc (ps.map (·.2)))[i]? = some (.own cs len sz) → h d = some (some cs) := by
  induction ps with
  | nil => intro i d cs len sz h1 _; simp [ids] at h1
  | cons p ps ih =>
    intro i d cs len sz h1 h2
    rw [List.map_cons, yc] at h2
    by_cases hi : i < t.n
    · rw [List.getElem?_append_left (by rw [t.ocn]; exact hi)] at h2
      rw [ids, List.getElem?_append_left (by rw [List.length_range']; exact hi), List.getElem?_range' hi] at h1
      have := hN p (by simp) i cs len sz h2
      simp at h1
      rw [← h1]
      exact this
    · rw [List.getElem?_append_right (by rw [t.ocn]; omega), t.ocn] at h2
      rw [ids, List.getElem?_append_right (by rw [List.length_range']; omega), List.length_range'] at h1
      exact ih (fun q hq => hN q (by simp [hq])) _ d cs len sz h1 h2
theorem zfi {n i : Nat} {p : Nat × α} (hi : i < n) : ∀ l : List (Nat × α), p ∈ l → p.1 + i ∈ ids n l
  | [], h => by cases h
  | q :: l, h => by
    rw [ids, List.mem_append]
    rcases List.mem_cons.1 h with rfl | h
    · left; rw [List.mem_range'_1]; omega
    · exact .inr (zfi hi l h)
theorem zgI {h : Hp} {b len sz k : Nat} {lim : Bool} {cs ys : List AV} (hb : h b = some (some cs)) (hl : cs.length = len * sz) (hm : cs.mapM (roc h k) = some ys) : roc h (k + 1) (.sl b 0 len sz lim) = some (.ro ys len) := by
  by_cases hs : shut.shutL cs = true
  · rw [ZO hs] at hm
    rw [zcw hb hl hs, Option.some.inj hm]
  · rw [roc, if_neg (by simp [shut])]
    simp only [hb]
    rw [if_pos (by omega), List.drop_zero, ← hl, List.take_length, if_neg hs, hm]
    rfl
theorem ze0 {h : Hp} {k : Nat} (hd : t.d ≤ k) : ∀ ps : List (Nat × α), (∀ p ∈ ps, NB t h p) → (rows (nm t) ps).mapM (roc h k) = some (rows t.cs (ps.map (·.2)))
  | [], _ => rfl
  | p :: ps, hN => by
    rw [yc, List.mapM_append, zgo t hd (hN p (by simp)), ze0 hd ps fun q hq => hN q (by simp [hq])]
    rfl
theorem zbE : ∀ l : List AV, (∀ x ∈ l, plain x = true) → plain.plainL l = true
  | [], _ => rfl
  | x :: l, h => by
    simp only [plain.plainL, Bool.and_eq_true]
    exact ⟨h x (by simp), zbE l fun y hy => h y (by simp [hy])⟩
theorem ze1 (ps : List (Nat × α)) : plain.plainL (rows (nm t) ps) = true := zbE _ (Ym (q := plain) (fun p c hc => ZA (zdL t p) c hc) ps)
theorem Le.trimPack {st : St} {I : St → Prop} (b k : Nat) (ks : List (Nat × α)) {cs : List AV} (hb : st.h b = some (some cs)) (hk : cs.take k = rows (nm t) ks) (hN : ∀ p ∈ ks, NB t st.h p) (hn : (ids t.n ks).Nodup) (hbi : b ∉ ids t.n ks)
    (hI : ∀ h', h' b = some (some (rows t.oc (ks.map (·.2)))) → I ⟨st.ρ, h', st.n⟩) : ∃ s, Le st s ∧ I s := by
  have h1 := Le.trim b k hb
  have hpos : ∀ d, d ∈ ids t.n ks → d ≠ b := fun d hd e => hbi (e ▸ hd)
  obtain ⟨h', k1, k2, _⟩ := Le.packOn b [] (rows t.oc (ks.map (·.2))) (ids t.n ks) [] (upd st.h b (some (some (cs.take k)))) (by rw [zfj, Yb t.ocn, List.length_map]) (by rw [Zc, hk, zgp, List.append_nil]; rfl) (fun c hc => by
    simp only [rows, List.mem_flatten, List.mem_map] at hc
    obtain ⟨_, ⟨x, _, rfl⟩, hc⟩ := hc
    exact t.ow x c hc) (fun i d cs' len sz h2 h3 => by
      rw [zd _ _ (hpos d (List.mem_of_getElem? h2))]
      exact zhn t hN i d cs' len sz h2 h3) hn hbi
  exact ⟨_, Le.trans h1 (k1 _ _), hI h' (by simpa using k2)⟩
theorem zfh {β : Type} (g : β → α) (f : α → Bool) : ∀ (l : List β) (k : Int), idx f (l.map g) k = idx (fun x => f (g x)) l k
  | [], _ => rfl
  | x :: l, k => by simp only [List.map_cons, idx, zfh g f l]
theorem Ret.deleteFuncO (hd6 : t.d ≤ 6) {F ix : FuncId} {fn : Func} (hf : P.funcs[F]? = some fn) (hk : fn.body.bind (comp P) = some (YW t.n t.z ix) ∧ fn.ntmps = 42 ∧ fn.results.toList.mapM (resB P) = some [.mov (.t 4)])
    (g : FuncId) (caps : List AV) (f : α → Bool) (hg : callB P g = true) (hix : callB P ix = true) (hsh : shut.shutL caps = true) (xs : List α) (hR : ∀ x ∈ xs, Ret P g (.agg (t.cs x) :: caps) (.sc (.bool (f x))) (.un :: caps.map fun _ => .un))
    (hI : Ret P ix [.ro (rows t.cs xs) xs.length, .clo g caps] (.sc (.int .i64 (idx f xs 0))) [.un, .un]) (hb : xs.length < 4611686018427387904) :
    Ret P F [.own (rows t.oc xs) xs.length t.n, .clo g caps] (.own (rows t.oc (xs.filter fun x => !f x)) (xs.filter fun x => !f x).length t.n) [.un, .un] := by
  refine Ret.runT (ys := [.sl 100000 0 xs.length t.n false, .clo g caps]) (ρ1 := fun _ => .un) (h1 := upd h0 100000 (some (some (rows t.oc xs)))) (m := 42) hf hk (by simp) (by simp [entL, ent1, inst, hsh]) rfl ?_
  have hl := Yb t.ocn xs
  have hcapA : ∀ (hh : Hp), caps.mapM (roc hh 8) = some caps := fun hh => by
    have : ∀ l : List AV, shut.shutL l = true → l.mapM (roc hh 8) = some l := fun l => by
      induction l with
      | nil => intro _; rfl
      | cons c l ih =>
        intro h
        simp only [shut.shutL, Bool.and_eq_true] at h
        simp [List.mapM_cons, zN h.1, ih h.2]
    exact this caps hsh
  have hshA : shut (.clo g caps) = true := hsh
  have hidc : zb.idfreeL caps = true := Yx caps hsh
  refine yg (n := 500) ?_
  simp [YW, iniρ, Zj]
  refine callK.ro 10 rfl hix (ys := [.ro (rows t.cs xs) xs.length, .clo g caps]) ?_ hI rfl rfl rfl ?_
  · have e1 : roc (upd h0 100000 (some (some (rows t.oc xs)))) 8 (.sl 100000 0 xs.length t.n false) = some (.ro (rows t.cs xs) xs.length) := Ty.roc8 t hd6 (Zc _ _ _)
    have e2 : roc (upd h0 100000 (some (some (rows t.oc xs)))) 8 (.clo g caps) = some (.clo g caps) := zN hshA
    simp [e1, e2]
  obtain ⟨ps, hps⟩ : ∃ ps, ps = numb t.n 200000 xs := ⟨_, rfl⟩
  have hpx : ps.map (·.2) = xs := by rw [hps]; exact zb7 _ _ _
  have hplen : ps.length = xs.length := by rw [← hpx, List.length_map]
  have hidx0 : idx f xs 0 = idx (fun p : Nat × α => f p.2) ps 0 := by rw [← hpx, zfh]
  have hfil : (ps.filter fun p => !f p.2).map (·.2) = xs.filter fun x => !f x := by rw [← hpx, List.filter_map]; rfl
  rw [hidx0]
  rcases zE (fun p : Nat × α => f p.2) ps 0 with ⟨pre, x, rest, hx, hfx, hpre, hidx⟩ | ⟨hnone, hidx⟩
  · rw [hidx]
    have hpos : ¬ ((pre.length : Int) = -1) := by omega
    have hxl : xs.length = pre.length + (rest.length + 1) := by rw [← hplen, hx]; simp
    have hw0 : IntKind.i64.wrap ((pre.length : Int) + 1) = pre.length + 1 := zc (by omega) (by omega)
    obtain ⟨h', l1, l2, l3, l4, l5⟩ := Le.openAll 100000 [] (rows t.oc xs) 200000 [] (upd h0 100000 (some (some (rows t.oc xs)))) (by rw [Zc]; simp) (fun c hc => by
      simp only [rows, List.mem_flatten, List.mem_map] at hc
      obtain ⟨_, ⟨x, _, rfl⟩, hc⟩ := hc
      exact t.ow x c hc) (fun i _ => by rw [zd _ _ (by omega)]; rfl) (by omega)
    rw [zda, ← hps] at l2
    simp only [List.nil_append, List.append_nil] at l2
    have hNB : ∀ p ∈ ps, NB t h' p := by rw [hps]; exact NB.of t xs 200000 l3
    have hlow : ∀ b, b < 100000 → h' b = none := fun b hb => by rw [l4 b (by omega) (by omega), zd _ _ (by omega)]; rfl
    have hhi : ∀ b, 100000 < b → ∀ cs, h' b = some (some cs) → ∀ x ∈ cs, zb x = true := fun b hb cs hcs => by
      rcases l5 b (by omega) with e | ⟨i, cs', len, sz, e1, e2⟩
      · rw [e, zd _ _ (by omega)] at hcs; cases hcs
      · rw [e2] at hcs
        obtain rfl : cs' = cs := by simpa using hcs
        have hm := List.mem_of_getElem? e1
        simp only [rows, List.mem_flatten, List.mem_map] at hm
        obtain ⟨_, ⟨x, _, rfl⟩, hm⟩ := hm
        rcases t.ow x _ hm with ⟨cs2, l2, s2, e, _, hid, _⟩ | ⟨v, e⟩
        · injection e with a1 a2 a3
          subst a1
          exact yd hid
        · cases e
    have hnd : ∀ ks : List (Nat × α), ks.Sublist ps → (ids t.n ks).Nodup ∧ 100000 ∉ ids t.n ks := fun ks hs => by
      have hs2 := zgR t.n hs
      rw [hps, zcc] at hs2
      refine ⟨hs2.nodup List.nodup_range', fun h => ?_⟩
      have := hs2.subset h
      rw [List.mem_range'_1] at this
      omega
    obtain ⟨c, hc⟩ : ∃ c, c = nm t := ⟨_, rfl⟩
    have hcn : ∀ p, (c p).length = t.n := by rw [hc]; exact ze2 t
    have hcp : ∀ p, plain.plainL (c p) = true := by rw [hc]; exact zdL t
    have hz : ∀ w, over t.z 0 (c w) = c w := fun w => by
      have := zb5 t.z (c w) [] (by rw [t.zn, hcn])
      simpa using this
    have htk : ∀ w, List.take t.n (c w) = c w := fun w => by rw [← hcn w]; simp
    have htk2 : ∀ w (l : List AV), List.take t.n (c w ++ l) = c w := fun w l => by rw [← hcn w]; simp
    rw [← hc] at l2
    have hcm : ∀ (ys : List (Nat × α)), (∀ y ∈ ys, y ∈ ps) → ∀ y ∈ rows c ys, menQ (fun b => decide (100000 ≤ b)) y = true := fun ys hys y hy => by
      simp only [rows, List.mem_flatten, List.mem_map] at hy
      obtain ⟨_, ⟨p, hp, rfl⟩, hy⟩ := hy
      have hp2 : 200000 ≤ p.1 := by
        have : ∀ (xs : List α) (d : Nat), 200000 ≤ d → ∀ p ∈ numb t.n d xs, 200000 ≤ p.1 := fun xs => by
          induction xs with
          | nil => intro d _ p hp; cases hp
          | cons x xs ih =>
            intro d hd p hp
            rcases List.mem_cons.1 hp with rfl | hp
            · exact hd
            · exact ih (d + t.n) (by omega) p hp
        exact this xs 200000 (Nat.le_refl _) p (hps ▸ hys p hp)
      rw [hc] at hy
      exact zdr _ _ (t.ow _) (fun b hb => by simp; omega) y hy
    simp [hpos, hw0]
    refine T.le (l1 _ _) ?_
    refine T.rounds (μ := fun i : List (Nat × α) × List (Nat × α) × List (Nat × α) => i.2.2.length)
      (fun i s => i.1 ++ i.2.2.filter (fun x => !f x.2) = ps.filter (fun x => !f x.2) ∧ 0 < i.2.1.length ∧ i.1.length + i.2.1.length + i.2.2.length = xs.length ∧ (∀ y ∈ i.1 ++ i.2.1 ++ i.2.2, y ∈ ps) ∧
        s.ρ 0 = .sl 100000 0 xs.length t.n false ∧ s.ρ 1 = .clo g caps ∧ s.ρ 5 = .sc (.int .i64 i.1.length) ∧ s.ρ 6 = .sc (.int .i64 (i.1.length + i.2.1.length : Nat)) ∧ s.h 100000 = some (some (rows c (i.1 ++ i.2.1 ++ i.2.2))) ∧ (∀ b, b < 100000 → s.h b = none) ∧ (∀ b, 100000 < b → s.h b = h' b) ∧ s.n = 42) (pre, [x], rest) ?_ ?_
    · have hff : pre.filter (fun x => !f x.2) = pre := yV (fun p : Nat × α => f p.2) hpre
      refine ⟨by simp [hx, hfx, hff], by simp, by simp; omega, fun y hy => by rw [hx]; simpa using hy, by simp [za], by simp [za], by simp [za], by simp [za], ?_, hlow, fun b _ => rfl, rfl⟩
      show h' 100000 = _
      rw [l2, hx]
      simp
    rintro ⟨ks, mid, rest'⟩ ⟨ρ, hh, n⟩ ⟨hF, hmid, hlen, hmem, h0', h1', h5', h6', kb, kf, kg, rfl⟩
    simp only at hF hmid hlen hmem h0' h1' h5' h6' kb kf kg
    have hNh : ∀ p ∈ ps, NB t hh p := fun p hp i cs len sz hi => by
      have e := hNB p hp i cs len sz hi
      have e2 : 100000 < p.1 + i := by
        rcases Nat.lt_or_ge 100000 (p.1 + i) with h | h
        · exact h
        · exfalso
          rcases Nat.lt_or_ge (p.1 + i) 100000 with h3 | h3
          · rw [hlow _ h3] at e; cases e
          · have : p.1 + i = 100000 := by omega
            have hm := (hnd ps (List.Sublist.refl _)).2
            refine hm ?_
            have hin : i < t.n := by have := (List.getElem?_eq_some_iff.1 hi).1; rwa [t.ocn] at this
            have : ∀ l : List (Nat × α), p ∈ l → p.1 + i ∈ ids t.n l := fun l => by
              induction l with
              | nil => intro h; cases h
              | cons q l ih =>
                intro h
                rw [ids, List.mem_append]
                rcases List.mem_cons.1 h with rfl | h
                · left; rw [List.mem_range'_1]; omega
                · exact .inr (ih h)
            rw [← ‹p.1 + i = 100000›]
            exact this ps hp
      rw [kg _ e2]
      exact e
    obtain ⟨j, hj⟩ : ∃ j, ks.length + mid.length = j := ⟨_, rfl⟩
    rw [hj] at h6' hlen
    refine yg (n := 400) ?_
    have hik : ks.length ≤ xs.length := by omega
    have hoff : ks.length * t.n ≤ (rows c (ks ++ mid ++ rest')).length := by rw [Yb hcn]; exact Nat.mul_le_mul_right _ (by simp)
    have hkl : (rows c ks).length = ks.length * t.n := Yb hcn ks
    cases rest' with
    | nil =>
      have hnl : ¬ ((j : Int) < xs.length) := by simp at hlen; omega
      simp only [List.filter_nil, List.append_nil] at hF kb hoff
      have hks : ks.Sublist ps := by rw [hF]; exact List.filter_sublist
      have hrl : (xs.filter fun x => !f x) = ks.map (·.2) := by rw [hF, hfil]
      rw [hrl, List.length_map]
      simp [h0', h6', hnl]
      refine T.on 400 ?_
      simp [h0', h5', hik, kb, Zj, hoff]
      have e : (putX (rows c (ks ++ mid)) (ks.length * t.n) (List.replicate (xs.length - ks.length) t.z).flatten).take (ks.length * t.n) = rows (nm t) ks := by
        rw [Yd, zaw hkl, ← hkl, List.take_left', hc]
        rfl
      refine Le.trimPack t 100000 (ks.length * t.n) ks (by simp) e (fun p hp i cs len sz hi => ?_) (hnd ks hks).1 (hnd ks hks).2 (fun h2 e2 => ?_)
      · have e3 := hNh p (hks.subset hp) i cs len sz hi
        have : p.1 + i ≠ 100000 := fun e4 => by
          rw [e4, kb] at e3
          have hin : i < t.n := by have := (List.getElem?_eq_some_iff.1 hi).1; rwa [t.ocn] at this
          have hm := (hnd ps (List.Sublist.refl _)).2
          refine hm ?_
          have : ∀ l : List (Nat × α), p ∈ l → p.1 + i ∈ ids t.n l := fun l => by
            induction l with
            | nil => intro h; cases h
            | cons q l ih =>
              intro h
              rw [ids, List.mem_append]
              rcases List.mem_cons.1 h with rfl | h
              · left; rw [List.mem_range'_1]; omega
              · exact .inr (ih h)
          rw [← e4]
          exact this ps (hks.subset hp)
        simp [za, this, Ne.symm this]
        exact e3
      · simp [ex1, e2, Ty.frL, Yb t.ocn]
    | cons x rest' =>
      have hlt : (j : Int) < xs.length := by simp at hlen; omega
      have hd := ye hcn (ks ++ mid) (x :: rest')
      rw [List.length_append, hj, yc, List.append_assoc] at hd
      have hd2 : t.n ≤ (rows c (ks ++ (mid ++ x :: rest'))).length - j * t.n := by
        have := congrArg List.length hd
        rw [List.length_drop, List.length_append, hcn] at this
        omega
      rw [List.append_assoc] at kb
      have hw : IntKind.i64.wrap ((j : Int) + 1) = j + 1 := zc (by omega) (by omega)
      have hw' : IntKind.i64.wrap ((ks.length : Int) + 1) = ks.length + 1 := zc (by omega) (by omega)
      have h7n : hh 7 = none := kf 7 (by decide)
      have hxp : x ∈ ps := hmem x (by simp)
      have hRx := hR x.2 (by rw [← hpx]; exact List.mem_map_of_mem hxp)
      have hq : ∀ (H : Hp), (∀ b, 100000 < b → H b = h' b) → NB t H x := fun H hH i cs len sz hi => by
        have e := hNh x hxp i cs len sz hi
        have e2 : 100000 < x.1 + i := by
          have hm := (hnd ps (List.Sublist.refl _)).2
          have hin : i < t.n := by have := (List.getElem?_eq_some_iff.1 hi).1; rwa [t.ocn] at this
          have : ∀ (xs : List α) (d : Nat), 200000 ≤ d → ∀ p ∈ numb t.n d xs, 200000 ≤ p.1 := fun xs => by
            induction xs with
            | nil => intro d _ p hp; cases hp
            | cons x xs ih =>
              intro d hd p hp
              rcases List.mem_cons.1 hp with rfl | hp
              · exact hd
              · exact ih (d + t.n) (by omega) p hp
          have := this xs 200000 (Nat.le_refl _) x (hps ▸ hxp)
          omega
        rw [hH _ e2, ← kg _ e2]
        exact e
      simp [h0', h6', h1', hlt, kb, hd, hd2, hcn, hcp, htk, htk2, h7n, hz, t.zn]
      refine callK.ro 28 (f := g) (caps := caps) (by simp [za, h1']) hg (ys := [.agg (t.cs x.2)] ++ caps) (by
        simp only [List.map_cons, List.map_nil, List.cons_append, List.nil_append, List.mapM_cons, hcapA]
        have e : roc (upd (upd hh 7 (some (some t.z))) 7 (some (some (c x)))) 8 (.agg (c x)) = some (.agg (t.cs x.2)) := by
          rw [hc]
          exact zgO t (by omega) (hq _ fun b hb => by rw [zd _ _ (by omega), zd _ _ (by omega)]; exact kg b hb)
        simp [za, e]) hRx rfl rfl rfl ?_
      simp only [List.length_cons] at hlen
      have hres : ∀ (hp : Hp) (ys : List (Nat × α)), (∀ y ∈ ys, y ∈ ps) → hp 100000 = some (some (rows c ys)) → (∀ b, 100000 < b → hp b = h' b) → ∀ b, (decide (100000 ≤ b)) = true → ∀ cs, hp b = some (some cs) → ∀ z ∈ cs, menQ (fun b => decide (100000 ≤ b)) z = true := fun hp ys h1 h2 h3 b hb cs hcs z hz => by
        by_cases e : b = 100000
        · subst e
          rw [h2] at hcs
          obtain rfl : rows c ys = cs := by simpa using hcs
          exact hcm ys h1 z hz
        · have hb2 : 100000 < b := by simp at hb; omega
          rw [h3 b hb2] at hcs
          have := hhi b hb2 cs hcs z hz
          cases z <;> first | exact this | cases this
      cases hfx' : f x.2 with
      | true =>
        have hF' : ks ++ rest'.filter (fun x => !f x.2) = ps.filter (fun x => !f x.2) := by rw [← hF]; simp [hfx']
        simp [h6', hw]
        refine ⟨ks, mid ++ [x], rest', by simp, _, Le.resetQ [0, 1, 5, 6] (fun b => decide (100000 ≤ b)) ?_ (hres _ (ks ++ (mid ++ x :: rest')) (fun y hy => hmem y (by simpa using hy)) (by simp [za, kb]) (fun b hb => by simp only [za]; rw [if_neg (by omega), if_neg (by omega)]; exact kg b hb)), ?_⟩
        · simp [za, menQ, zb, h0', h1', h5', hidc]
        · refine ⟨hF', by simp, by simp; omega, fun a b hy => hmem (a, b) (by simp at hy ⊢; grind), ?_, ?_, ?_, ?_, ?_, fun b hb => ?_, fun b hb => ?_, rfl⟩
          · simp [za, Zf, h0']
          · simp [za, Zf, h1']
          · simp [za, Zf, h5']
          · simp [za, Zf, ← hj]; omega
          · simp [keepQ, za, kb]
          · simp [keepQ]; omega
          · have e1 : decide (100000 ≤ b) = true := by simp; omega
            simp only [keepQ, e1, if_true, za]
            rw [if_neg (by omega), if_neg (by omega)]; exact kg b hb
      | false =>
        have hF' : (ks ++ [x]) ++ rest'.filter (fun x => !f x.2) = ps.filter (fun x => !f x.2) := by rw [← hF]; simp [hfx']
        obtain ⟨m, mid', rfl⟩ : ∃ m mid', mid = m :: mid' := by
          cases mid with
          | nil => simp at hmid
          | cons m mid' => exact ⟨m, mid', rfl⟩
        simp only [List.length_cons] at hj
        have hov : over (rows c (ks ++ (m :: mid' ++ x :: rest'))) (ks.length * t.n) (c x) = rows c (ks ++ (x :: (mid' ++ x :: rest'))) := by
          rw [Yd, List.cons_append, zbA hcn hcn ks (mid' ++ x :: rest') m (c x) (hcn x), Yd, Yd, yc, yc, Yd, yc]
        have hq2 : ks.length * t.n + t.n ≤ (rows c (ks ++ (m :: mid' ++ x :: rest'))).length := by
          rw [Yb hcn, ← Nat.succ_mul]
          exact Nat.mul_le_mul_right _ (by simp)
        have hkx : (ks.length : Int) < xs.length := by omega
        simp only [List.cons_append] at hov hq2 kb
        simp [h6', h5', h0', hw, hw', hkx, hcn, hcp, htk, kb, hov, hq2]
        refine ⟨ks ++ [x], mid' ++ [x], rest', by simp, _, Le.resetQ [0, 1, 5, 6] (fun b => decide (100000 ≤ b)) ?_ (hres _ (ks ++ (x :: (mid' ++ x :: rest'))) (fun y hy => hmem y (by
          simp only [List.mem_append, List.mem_cons] at hy ⊢
          rcases hy with h | h | h | h | h
          · exact .inl (.inl h)
          · exact .inr (.inl h)
          · exact .inl (.inr (.inr h))
          · exact .inr (.inl h)
          · exact .inr (.inr h))) (by simp [za]) (fun b hb => by simp only [za]; rw [if_neg (by omega), if_neg (by omega), if_neg (by omega)]; exact kg b hb)), ?_⟩
        · simp [za, menQ, zb, h0', h1', h5', hidc]
        · refine ⟨hF', by simp, by simp; omega, fun a b hy => hmem (a, b) (by
            simp at hy ⊢
            grind), ?_, ?_, ?_, ?_, ?_, fun b hb => ?_, fun b hb => ?_, rfl⟩
          · simp [za, Zf, h0']
          · simp [za, Zf, h1']
          · simp [za, Zf]
          · simp [za, Zf, ← hj]; omega
          · simp [keepQ, za]
          · simp [keepQ]; omega
          · have e1 : decide (100000 ≤ b) = true := by simp; omega
            simp only [keepQ, e1, if_true, za]
            rw [if_neg (by omega), if_neg (by omega), if_neg (by omega)]; exact kg b hb
  · rw [hidx]
    have hno : ∀ y ∈ xs, f y = false := fun y hy => by
      rw [← hpx] at hy
      obtain ⟨p, hp, rfl⟩ := List.mem_map.1 hy
      exact hnone p hp
    rw [yV f hno]
    simp
    refine ⟨_, Le.refl _, ?_⟩
    simp [ex1, hl, Ty.frL]
end
end Go.Proofs.YtopofpihpnjmbaaGreatDoor.Am
