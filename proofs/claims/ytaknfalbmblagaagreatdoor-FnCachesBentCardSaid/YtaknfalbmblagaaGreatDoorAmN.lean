/- Slices whose cells own what they hold: all of a slice is opened, cut and packed anew; slices.DeleteFunc over such; no condition. -/
import Derived.Test.YtaknfalbmblagaaGreatDoorAmF
namespace Go.Proofs.YtaknfalbmblagaaGreatDoor.Am
open Go
set_option linter.unusedSimpArgs false
set_option linter.unusedVariables false
attribute [local congr] T_congr callK_congr callWK_congr
attribute [local simp] run_nil run_op0 run_opg run_seq run_cond run_block run_ret run_skip run_skip_after run_skip_blk run_exit run_exit_after run_exit_blk run_loop run_any runS_nil runS_op0 runS_opg runW_nil runW_op0 runW_opg exec_q exec_w exec_c exec_n execW_q execW_w execW_c restW_app hideH_app merge_app wblk rest_app restS_app execS_q execS_c aval dOk upd_app ev_t ev_c setO_some setO_none put_mk pinsOf isIo hasIo sbin endR fin resL one outL out1 clo1 cloL coe coeL shut shut.shutL wantA weff cellsOf fillA deref natOf ρ0_app h0_app plain plain.plainL keep_app keepH_app andThen_normal andThen_ret andThen_exit pop_nil pop_after pop_after_ret pop_after_exit pop_blk pop_blk_ret pop_blk_exit nilA srcOf srcCells keepR_app keepHR_app renA rb dstA lenA cutA
section
variable {φ : Nat → Option Loc} {M : Nat → Prop} {w : World} {P : Program} {p : List Nat}
end
/-- All cells that own are opened. -/
theorem Le.openAll (b : Nat) (post : List AV) : ∀ (oc : List AV) (d : Nat) (pre : List AV) (h : Hp), h b = some (some (pre ++ (oc ++ post))) → (∀ c ∈ oc, OwnC c) → (∀ i, i < oc.length → h (d + i) = none) → (b < d ∨ d + oc.length ≤ b) →
    ∃ h', (∀ ρ n, Le ⟨ρ, h, n⟩ ⟨ρ, h', n⟩) ∧ h' b = some (some (pre ++ (ysOf d oc ++ post))) ∧ (∀ i cs len sz, oc[i]? = some (.own cs len sz) → h' (d + i) = some (some cs)) ∧ (∀ c, c ≠ b → (c < d ∨ d + oc.length ≤ c) → h' c = h c) ∧ ∀ c, c ≠ b → h' c = h c ∨ ∃ (i : Nat) (cs : List AV) (len sz : Nat), oc[i]? = some (AV.own cs len sz) ∧ h' c = some (some cs)
  | [], d, pre, h, hb, _, _, _ => ⟨h, fun _ _ => Le.refl _, hb, by simp, fun _ _ _ => rfl, fun _ _ => .inl rfl⟩
  | c :: oc, d, pre, h, hb, ho, hh, hd => by
    simp only [List.length_cons] at hd hh
    rcases ho c (by simp) with ⟨cs, len, sz, rfl, hl, hid, hfl⟩ | ⟨v, rfl⟩
    · have hi := hh 0 (by omega)
      rw [Nat.add_zero] at hi
      have hj : (pre ++ (AV.own cs len sz :: oc ++ post))[pre.length]? = some (.own cs len sz) := by
        rw [List.getElem?_append_right (Nat.le_refl _)]; simp
      have hp := fun (ρ : Nat → AV) (n : Nat) => Le.open (st := ⟨ρ, h, n⟩) b pre.length d hb hj hi hid
      have hset : (pre ++ (AV.own cs len sz :: oc ++ post)).set pre.length (.sl d 0 len sz false) = (pre ++ [.sl d 0 len sz false]) ++ (oc ++ post) := by
        rw [List.set_append_right _ _ (Nat.le_refl _)]; simp
      simp only [hset] at hp
      obtain ⟨h', k1, k2, k4, k3, k5⟩ := Le.openAll b post oc (d + 1) (pre ++ [.sl d 0 len sz false]) (upd (upd (upd h b (some none)) d (some (some cs))) b (some (some ((pre ++ [.sl d 0 len sz false]) ++ (oc ++ post))))) (by rw [upd_same]) (fun c hc => ho c (by simp [hc])) (fun i hi' => by
        rw [upd_ne _ _ (by omega), upd_ne _ _ (by omega), upd_ne _ _ (by omega)]
        have := hh (i + 1) (by omega)
        rwa [show d + (i + 1) = d + 1 + i by omega] at this) (by omega)
      have h0 : h' d = some (some cs) := by rw [k3 d (by omega) (by omega), upd_ne _ _ (by omega), upd_same]
      refine ⟨h', fun ρ n => Le.trans (hp ρ n) (k1 ρ n), by rw [k2]; simp [ysOf], fun i cs' len' sz' hi' => ?_, fun c hc hcd => ?_, fun c hc => ?_⟩
      · cases i with
        | zero =>
          simp at hi'
          obtain ⟨rfl, rfl, rfl⟩ := hi'
          rw [Nat.add_zero, h0]
        | succ i => rw [show d + (i + 1) = d + 1 + i by omega]; exact k4 i cs' len' sz' (by simpa using hi')
      · simp only [List.length_cons] at hcd
        rw [k3 c hc (by omega), upd_ne _ _ hc, upd_ne _ _ (by omega), upd_ne _ _ hc]
      · by_cases e : c = d
        · subst e; exact .inr ⟨0, cs, len, sz, rfl, h0⟩
        · rcases k5 c hc with k | ⟨i, cs', len', sz', e1, e2⟩
          · left; rw [k, upd_ne _ _ hc, upd_ne _ _ e, upd_ne _ _ hc]
          · exact .inr ⟨i + 1, cs', len', sz', by simpa using e1, e2⟩
    · obtain ⟨h', k1, k2, k4, k3, k5⟩ := Le.openAll b post oc (d + 1) (pre ++ [.sc v]) h (by rw [hb]; simp) (fun c hc => ho c (by simp [hc])) (fun i hi' => by
        have := hh (i + 1) (by omega)
        rwa [show d + (i + 1) = d + 1 + i by omega] at this) (by omega)
      refine ⟨h', k1, by rw [k2]; simp [ysOf], fun i cs' len' sz' hi' => ?_, fun c hc hcd => ?_, fun c hc => ?_⟩
      · cases i with
        | zero => simp at hi'
        | succ i => rw [show d + (i + 1) = d + 1 + i by omega]; exact k4 i cs' len' sz' (by simpa using hi')
      · simp only [List.length_cons] at hcd
        exact k3 c hc (by omega)
      · rcases k5 c hc with k | ⟨i, cs', len', sz', e1, e2⟩
        · exact .inl k
        · exact .inr ⟨i + 1, cs', len', sz', by simpa using e1, e2⟩
/-- What the cells of a block own is read only from here on. -/
theorem Le.mute {st : St} (b : Nat) {cs ys : List AV} (hb : st.h b = some (some cs)) (hys : cs.mapM (roc (fun _ => some none) 8) = some ys) : Le st ⟨st.ρ, upd st.h b (some (some ys)), st.n⟩ := by
  rintro E tm w ⟨φ, M, L, I⟩
  rcases I.root b cs hb with ⟨rfl, r2, r3⟩ | ⟨l, C, us, F, r1, r2, r3, ⟨Fs, k1, k2, k3, k4, k5⟩, r5, r6⟩
  · simp at hys
    subst hys
    have e : upd st.h b (some (some ([] : List AV))) = st.h := by
      funext i
      by_cases ei : i = b
      · subst ei; rw [upd_same, hb]
      · rw [upd_ne _ _ ei]
    rw [e]
    exact ⟨φ, M, L, I⟩
  have hbn := I.nodup b cs hb
  rw [r6] at hbn
  obtain ⟨n1, n2⟩ := List.nodup_cons.1 hbn
  have hMM : ∀ g, M g → M g ∨ g ∈ F := fun g h => .inl h
  have hFL : ∀ g, g ∈ F → g ∈ L b := fun g h => by rw [r6]; exact List.mem_cons_of_mem _ h
  have I2 : Inv E φ M L ⟨fun _ => .un, fun _ => some none, st.n⟩ tm w :=
    ⟨I.size, fun t => V.un _, (fun b cs h => nomatch h), (fun b h => nomatch h), (fun b cs h => nomatch h), (fun b b' cs cs' hne h h' => nomatch h), (fun b cs h => nomatch h), (fun b cs h => nomatch h), I.bound, I.m0, I.m1, (fun b cs h => nomatch h), I.os, I.tape, I.output, I.grown, I.frame, I.keep⟩
  obtain ⟨m1, m2⟩ := mapM_get hys
  have hW : ∀ (j : Nat) (y : AV) (u : Value), ys[j]? = some y → us[j]? = some u → V φ (fun g => M g ∨ g ∈ F) w y u [] := fun j y u hy hu => by
    obtain ⟨x, hx, hxy⟩ := m2 j y hy
    have hjF : j < Fs.length := by rw [k2]; exact (List.getElem?_eq_some_iff.1 hx).1
    have hF := List.getElem?_eq_getElem hjF
    refine .imm _ _ (roc_ok I2 hMM (fun b cs h => nomatch h) 8 x u _ y (k5 j x u _ hx hu hF) hxy fun g hg => .inr ?_)
    rw [k4]
    exact mem_flatten_of hF hg
  have hL' : ∀ b' cs', upd st.h b (some (some ys)) b' = some (some cs') → (b' = b ∧ cs' = ys) ∨ (b' ≠ b ∧ st.h b' = some (some cs')) := fun b' cs' h => by
    by_cases e : b' = b
    · subst e; rw [upd_same] at h; cases h; exact .inl ⟨rfl, rfl⟩
    · rw [upd_ne _ _ e] at h; exact .inr ⟨e, h⟩
  have hgL : l.g ∈ L b := by rw [r6]; simp
  refine ⟨φ, fun g => M g ∨ g ∈ F, upd L b [l.g], I.size, fun t => (I.env t).mono (fun _ _ h => h) hMM (fun _ _ => rfl), fun b' cs' h => ?_, fun b' h => ?_, fun b' cs' h => ?_, fun b1 b2 c1 c2 h12 e1 e2 g g1 g2 => ?_, fun b' cs' h g hg hm => ?_, fun b' cs' h g hg => ?_, fun g hg => ?_, fun g hg => .inl (I.m0 g hg), fun g hg => ?_, fun b' cs' h g hg => ?_, I.os, I.tape, I.output, I.grown, I.frame, I.keep⟩
  · rcases hL' b' cs' h with ⟨rfl, rfl⟩ | ⟨e, h⟩
    · exact .inr ⟨l, C, us, [], r1, r2, r3, Cs.of_all (by rw [k1, m1]) k3 hW, r5, upd_same _ _ _⟩
    · rw [upd_ne _ _ e]
      exact (I.root b' cs' h).mono (fun _ _ h => h) (fun h => h) hMM (fun _ _ => rfl)
  · have h' : upd st.h b (some (some ys)) b' = none := h
    by_cases e : b' = b
    · subst e; rw [upd_same] at h'; cases h'
    · rw [upd_ne _ _ e] at h'; exact I.fresh b' h'
  · rcases hL' b' cs' h with ⟨rfl, rfl⟩ | ⟨e, h⟩
    · rw [upd_same]; simp
    · rw [upd_ne _ _ e]; exact I.nodup b' cs' h
  · rcases hL' b1 c1 e1 with ⟨rfl, rfl⟩ | ⟨e1', q1⟩
    · rcases hL' b2 c2 e2 with ⟨rfl, rfl⟩ | ⟨e2', q2⟩
      · exact h12 rfl
      · rw [upd_same] at g1; rw [upd_ne _ _ e2'] at g2
        obtain rfl : g = l.g := by simpa using g1
        exact I.disj b1 b2 cs c2 h12 hb q2 _ hgL g2
    · rcases hL' b2 c2 e2 with ⟨rfl, rfl⟩ | ⟨e2', q2⟩
      · rw [upd_same] at g2; rw [upd_ne _ _ e1'] at g1
        obtain rfl : g = l.g := by simpa using g2
        exact I.disj b1 b2 c1 cs h12 q1 hb _ g1 hgL
      · rw [upd_ne _ _ e1'] at g1; rw [upd_ne _ _ e2'] at g2
        exact I.disj b1 b2 c1 c2 h12 q1 q2 g g1 g2
  · rcases hL' b' cs' h with ⟨rfl, rfl⟩ | ⟨e, h⟩
    · rw [upd_same] at hg
      obtain rfl : g = l.g := by simpa using hg
      rcases hm with hm | hm
      · exact I.notM b' cs hb _ hgL hm
      · exact n1 hm
    · rw [upd_ne _ _ e] at hg
      rcases hm with hm | hm
      · exact I.notM b' cs' h g hg hm
      · exact I.disj b' b cs' cs e h hb g hg (hFL g hm)
  · rcases hL' b' cs' h with ⟨rfl, rfl⟩ | ⟨e, h⟩
    · rw [upd_same] at hg
      obtain rfl : g = l.g := by simpa using hg
      exact I.low b' cs hb _ hgL
    · rw [upd_ne _ _ e] at hg; exact I.low b' cs' h g hg
  · rcases hg with hg | hg
    · exact I.bound g hg
    · exact I.low b cs hb g (hFL g hg)
  · rcases hg with hg | hg
    · exact I.m1 g hg
    · exact .inr (I.own b cs hb g (hFL g hg))
  · rcases hL' b' cs' h with ⟨rfl, rfl⟩ | ⟨e, h⟩
    · rw [upd_same] at hg
      obtain rfl : g = l.g := by simpa using hg
      exact I.own b' cs hb _ hgL
    · rw [upd_ne _ _ e] at hg; exact I.own b' cs' h g hg
/-- A list whose rows own: what they own is read only from here on. -/
theorem Le.muteT {α : Type} (t : Ty α) (hd : t.d ≤ 8) {st : St} (b : Nat) {xs : List α} (hb : st.h b = some (some (rows t.oc xs))) : Le st ⟨st.ρ, upd st.h b (some (some (rows t.cs xs))), st.n⟩ :=
  Le.mute b hb (t.rcs _ hd xs)
theorem Le.ex {st : St} {I : St → Prop} (h : ∃ s, Le st s ∧ ∃ s', Le s s' ∧ I s') : ∃ s, Le st s ∧ I s := by
  obtain ⟨s, h1, s', h2, h3⟩ := h
  exact ⟨s', Le.trans h1 h2, h3⟩
/-- Cells that own nothing may be forgotten. -/
theorem Le.blur {st : St} (b : Nat) (pre ys post : List AV) (hb : st.h b = some (some (pre ++ (ys ++ post)))) (hp : plain.plainL ys = true) : Le st ⟨st.ρ, upd st.h b (some (some (pre ++ (List.replicate ys.length .un ++ post)))), st.n⟩ := by
  rintro E tm w ⟨φ, M, L, I⟩
  have hcell : ∀ (j : Nat) (x : AV), (pre ++ (List.replicate ys.length AV.un ++ post))[j]? = some x → (pre ++ (ys ++ post))[j]? = some x ∨ (x = .un ∧ ∃ y, (pre ++ (ys ++ post))[j]? = some y ∧ plain y = true) := fun j x h => by
    by_cases h1 : j < pre.length
    · rw [List.getElem?_append_left h1] at h ⊢; exact .inl h
    · rw [List.getElem?_append_right (by omega)] at h ⊢
      by_cases h2 : j - pre.length < ys.length
      · right
        rw [List.getElem?_append_left (by simpa using h2)] at h
        rw [List.getElem?_append_left h2]
        have hm := List.mem_of_getElem? h
        refine ⟨(List.mem_replicate.1 hm).2, _, List.getElem?_eq_getElem h2, plainL_mem hp _ (List.getElem_mem h2)⟩
      · rw [List.getElem?_append_right (by simp; omega), List.length_replicate] at h
        rw [List.getElem?_append_right (by omega)]
        exact .inl h
  have hlen : (pre ++ (List.replicate ys.length AV.un ++ post)).length = (pre ++ (ys ++ post)).length := by simp
  have hL' : ∀ b' cs', upd st.h b (some (some (pre ++ (List.replicate ys.length .un ++ post)))) b' = some (some cs') → ∃ cs0, st.h b' = some (some cs0) := fun b' cs' h => by
    by_cases e : b' = b
    · subst e; exact ⟨_, hb⟩
    · rw [upd_ne _ _ e] at h; exact ⟨_, h⟩
  refine ⟨φ, M, L, I.size, I.env, fun b' cs' h => ?_, fun b' h => ?_, fun b' cs' h => ?_, fun b1 b2 c1 c2 h12 e1 e2 => ?_, fun b' cs' h => ?_, fun b' cs' h => ?_, I.bound, I.m0, I.m1, fun b' cs' h => ?_, I.os, I.tape, I.output, I.grown, I.frame, I.keep⟩
  · have h' : upd st.h b (some (some (pre ++ (List.replicate ys.length .un ++ post)))) b' = some (some cs') := h
    by_cases e : b' = b
    · subst e
      rw [upd_same] at h'
      cases h'
      rcases I.root b' _ hb with ⟨r1, r2, r3⟩ | ⟨l, C, us, F, r1, r2, r3, ⟨Fs, k1, k2, k3, k4, k5⟩, r5, r6⟩
      · refine .inl ⟨?_, r2, r3⟩
        rw [← List.length_eq_zero_iff, hlen, r1]; rfl
      · refine .inr ⟨l, C, us, F, r1, r2, r3, ⟨Fs, by rw [hlen]; exact k1, by rw [hlen]; exact k2, k3, k4, fun j x u G a c d => ?_⟩, r5, r6⟩
        rcases hcell j x a with a | ⟨rfl, y, hy, hpy⟩
        · exact k5 j x u G a c d
        · obtain rfl : G = [] := (k5 j y u G hy c d).nofoot hpy
          exact V.un _
    · rw [upd_ne _ _ e] at h'; exact I.root b' cs' h'
  · have h' : upd st.h b (some (some (pre ++ (List.replicate ys.length .un ++ post)))) b' = none := h
    by_cases e : b' = b
    · subst e; rw [upd_same] at h'; cases h'
    · rw [upd_ne _ _ e] at h'; exact I.fresh b' h'
  · obtain ⟨d, e⟩ := hL' b' cs' h; exact I.nodup b' d e
  · obtain ⟨d1, q1⟩ := hL' b1 c1 e1
    obtain ⟨d2, q2⟩ := hL' b2 c2 e2
    exact I.disj b1 b2 d1 d2 h12 q1 q2
  · obtain ⟨d, e⟩ := hL' b' cs' h; exact I.notM b' d e
  · obtain ⟨d, e⟩ := hL' b' cs' h; exact I.low b' d e
  · obtain ⟨d, e⟩ := hL' b' cs' h; exact I.own b' d e
theorem Le.packOnX {st : St} {I : St → Prop} (b : Nat) (oc : List AV) (ds : List Nat) (pre : List AV) (hn : ds.length = oc.length) (hb : st.h b = some (some (pre ++ ysOn ds oc))) (ho : ∀ c ∈ oc, OwnC c) (hh : ∀ (i d : Nat) (cs : List AV) (len sz : Nat), ds[i]? = some d → oc[i]? = some (AV.own cs len sz) → st.h d = some (some cs)) (hnd : ds.Nodup) (hbd : b ∉ ds)
    (hI : ∀ h', h' b = some (some (pre ++ oc)) → (∀ c, c ≠ b → c ∉ ds → h' c = st.h c) → ∃ s, Le ⟨st.ρ, h', st.n⟩ s ∧ I s) : ∃ s, Le st s ∧ I s := by
  obtain ⟨h', k1, k2, k3⟩ := Le.packOn b [] oc ds pre st.h hn (by rw [List.append_nil]; exact hb) ho hh hnd hbd
  obtain ⟨s, h1, h2⟩ := hI h' (by rwa [List.append_nil] at k2) k3
  exact ⟨s, Le.trans (k1 _ _) h1, h2⟩
theorem T.roundsL {P : Program} {p : List Nat} {ι : Type} {x : AC} {st : St} {Q : AE → St → Prop} (μ : ι → Nat) (I : ι → St → Prop) (i : ι) (h0 : ∃ s, Le st s ∧ I i s)
    (round : ∀ i s, I i s → T P p x s (andThen (fun s' => ∃ j s'', μ j < μ i ∧ Le s' s'' ∧ I j s'') Q)) : T P p (.loop x) st Q := by
  obtain ⟨s, l, h⟩ := h0
  exact T.le l (T.rounds μ I i h round)
section
variable {P : Program} {α : Type} (t : Ty α)
/-- a row, opened, under names from a number on -/
def nm (p : Nat × α) : List AV := ysOf p.1 (t.oc p.2)
def numb (n : Nat) : Nat → List α → List (Nat × α)
  | _, [] => []
  | d, x :: xs => (d, x) :: numb n (d + n) xs
theorem ysOf_app : ∀ (a b : List AV) (d : Nat), ysOf d (a ++ b) = ysOf d a ++ ysOf (d + a.length) b
  | [], b, d => rfl
  | c :: a, b, d => by
    have ih := ysOf_app a b (d + 1)
    rw [show d + 1 + a.length = d + (a.length + 1) by omega] at ih
    cases c <;> simp [ysOf, ih]
theorem nm_rows : ∀ (xs : List α) (d : Nat), ysOf d (rows t.oc xs) = rows (nm t) (numb t.n d xs)
  | [], d => rfl
  | x :: xs, d => by
    rw [rows_cons, ysOf_app, t.ocn, nm_rows xs]
    rfl
theorem numb_map (n : Nat) : ∀ (xs : List α) (d : Nat), (numb n d xs).map (·.2) = xs
  | [], _ => rfl
  | x :: xs, d => by simp [numb, numb_map n xs]
/-- what is named is there -/
def NB (h : Hp) (p : Nat × α) : Prop := ∀ i cs len sz, (t.oc p.2)[i]? = some (.own cs len sz) → h (p.1 + i) = some (some cs)
theorem NB.of {h : Hp} : ∀ (xs : List α) (d : Nat), (∀ i cs len sz, (rows t.oc xs)[i]? = some (.own cs len sz) → h (d + i) = some (some cs)) → ∀ p ∈ numb t.n d xs, NB t h p
  | [], _, _, p, hp => by cases hp
  | x :: xs, d, hh, p, hp => by
    rcases List.mem_cons.1 hp with rfl | hp
    · intro i cs len sz hi
      refine hh i cs len sz ?_
      rw [rows_cons, List.getElem?_append_left (List.getElem?_eq_some_iff.1 hi).1]
      exact hi
    · refine NB.of xs (d + t.n) (fun i cs len sz hi => ?_) p hp
      rw [Nat.add_assoc]
      refine hh _ cs len sz ?_
      rw [rows_cons, List.getElem?_append_right (by rw [t.ocn]; omega), t.ocn, Nat.add_sub_cancel_left]
      exact hi
theorem ysOf_roc {h : Hp} {k : Nat} : ∀ (l : List AV) (d : Nat) (ys : List AV), (∀ c ∈ l, OwnC c) → (∀ i cs len sz, l[i]? = some (.own cs len sz) → h (d + i) = some (some cs)) → l.mapM (roc h k) = some ys → (ysOf d l).mapM (roc h k) = some ys
  | [], d, ys, _, _, hy => hy
  | c :: l, d, ys, ho, hh, hy => by
    simp only [List.mapM_cons, Option.bind_eq_bind, Option.bind_eq_some_iff, Option.pure_def, Option.some.injEq] at hy
    obtain ⟨y, hy, ys', hys, rfl⟩ := hy
    have ih := ysOf_roc l (d + 1) ys' (fun c hc => ho c (by simp [hc])) (fun i cs len sz hi => by
      rw [show d + 1 + i = d + (i + 1) by omega]
      exact hh (i + 1) cs len sz (by simpa using hi)) hys
    rcases ho c (by simp) with ⟨cs, len, sz, rfl, hl, hid, hfl⟩ | ⟨v, rfl⟩
    · have hb := hh 0 cs len sz rfl
      rw [Nat.add_zero] at hb
      have e : roc h k (.sl d 0 len sz false) = some y := by
        cases k with
        | zero => simp [roc, shut] at hy
        | succ k =>
          rw [roc, if_neg (by simp [shut])] at hy
          rw [roc, if_neg (by simp [shut])]
          simp only [hb]
          have hl2 : (List.drop 0 cs).take (len * sz) = cs := by rw [List.drop_zero, ← hl, List.take_length]
          rw [if_pos (by omega), hl2]
          by_cases hs : shut.shutL cs = true
          · rw [if_pos hs]
            have hy : (cs.mapM (roc h k)).map (fun ys => AV.ro ys len) = some y := hy
            rw [mapM_shut hs] at hy
            exact hy
          · rw [if_neg hs]
            exact hy
      simp [ysOf, List.mapM_cons, e, ih]
    · simp [ysOf, List.mapM_cons, hy, ih]
theorem nm_roc {h : Hp} {k : Nat} (hd : t.d ≤ k) {p : Nat × α} (hN : NB t h p) : (nm t p).mapM (roc h k) = some (t.cs p.2) := ysOf_roc _ _ _ (t.ow _) hN (t.rc h k p.2 hd)
theorem nm_len (p : Nat × α) : (nm t p).length = t.n := by rw [nm, ysOf_length, t.ocn]
theorem nm_plain (p : Nat × α) : plain.plainL (nm t p) = true := ysOf_menB _ _ (t.ow _)
/-- the names of rows -/
def ids (n : Nat) : List (Nat × α) → List Nat
  | [] => []
  | p :: ps => List.range' p.1 n ++ ids n ps
theorem ids_len (n : Nat) : ∀ ps : List (Nat × α), (ids n ps).length = ps.length * n
  | [] => by simp [ids]
  | p :: ps => by simp [ids, ids_len n ps, Nat.succ_mul, Nat.add_comm]
theorem ids_numb (n : Nat) : ∀ (xs : List α) (d : Nat), ids n (numb n d xs) = List.range' d (xs.length * n)
  | [], d => by simp [numb, ids]
  | x :: xs, d => by
    rw [numb, ids, ids_numb n xs, List.length_cons, Nat.succ_mul, Nat.add_comm (xs.length * n) n, ← List.range'_append_1]
theorem ysOn_app : ∀ (a : List Nat) (l : List AV) (b : List Nat) (m : List AV), a.length = l.length → ysOn (a ++ b) (l ++ m) = ysOn a l ++ ysOn b m
  | [], [], b, m, _ => by simp [ysOn]
  | [], _ :: _, _, _, h => by simp at h
  | _ :: _, [], _, _, h => by simp at h
  | i :: a, c :: l, b, m, h => by
    have ih := ysOn_app a l b m (by simpa using h)
    cases c <;> simp [ysOn, ih]
theorem ysOn_range : ∀ (l : List AV) (d : Nat), ysOn (List.range' d l.length) l = ysOf d l
  | [], d => rfl
  | c :: l, d => by
    have ih := ysOn_range l (d + 1)
    cases c <;> simp [List.range'_succ, ysOn, ysOf, ih]
theorem ids_on : ∀ ps : List (Nat × α), ysOn (ids t.n ps) (rows t.oc (ps.map (·.2))) = rows (nm t) ps
  | [] => rfl
  | p :: ps => by
    rw [ids, List.map_cons, rows_cons, ysOn_app _ _ _ _ (by rw [List.length_range', t.ocn]), ids_on ps, rows_cons, nm, ← ysOn_range, t.ocn]
theorem ids_at {ps : List (Nat × α)} {h : Hp} (hN : ∀ p ∈ ps, NB t h p) : ∀ (i d : Nat) (cs : List AV) (len sz : Nat), (ids t.n ps)[i]? = some d → (rows t.oc (ps.map (·.2)))[i]? = some (.own cs len sz) → h d = some (some cs) := by
  induction ps with
  | nil => intro i d cs len sz h1 _; simp [ids] at h1
  | cons p ps ih =>
    intro i d cs len sz h1 h2
    rw [List.map_cons, rows_cons] at h2
    by_cases hi : i < t.n
    · rw [List.getElem?_append_left (by rw [t.ocn]; exact hi)] at h2
      rw [ids, List.getElem?_append_left (by rw [List.length_range']; exact hi), List.getElem?_range' hi] at h1
      have := hN p (by simp) i cs len sz h2
      simp at h1
      rw [← h1]
      exact this
    · rw [List.getElem?_append_right (by rw [t.ocn]; omega), t.ocn] at h2
      rw [ids, List.getElem?_append_right (by rw [List.length_range']; omega), List.length_range'] at h1
      exact ih (fun q hq => hN q (by simp [hq])) _ d cs len sz h1 h2
theorem ids_mem {n i : Nat} {p : Nat × α} (hi : i < n) : ∀ l : List (Nat × α), p ∈ l → p.1 + i ∈ ids n l
  | [], h => by cases h
  | q :: l, h => by
    rw [ids, List.mem_append]
    rcases List.mem_cons.1 h with rfl | h
    · left; rw [List.mem_range'_1]; omega
    · exact .inr (ids_mem hi l h)
theorem roc_slM {h : Hp} {b len sz k : Nat} {lim : Bool} {cs ys : List AV} (hb : h b = some (some cs)) (hl : cs.length = len * sz) (hm : cs.mapM (roc h k) = some ys) : roc h (k + 1) (.sl b 0 len sz lim) = some (.ro ys len) := by
  by_cases hs : shut.shutL cs = true
  · rw [mapM_shut hs] at hm
    rw [roc_sl hb hl hs, Option.some.inj hm]
  · rw [roc, if_neg (by simp [shut])]
    simp only [hb]
    rw [if_pos (by omega), List.drop_zero, ← hl, List.take_length, if_neg hs, hm]
    rfl
theorem nm_rocs {h : Hp} {k : Nat} (hd : t.d ≤ k) : ∀ ps : List (Nat × α), (∀ p ∈ ps, NB t h p) → (rows (nm t) ps).mapM (roc h k) = some (rows t.cs (ps.map (·.2)))
  | [], _ => rfl
  | p :: ps, hN => by
    rw [rows_cons, List.mapM_append, nm_roc t hd (hN p (by simp)), nm_rocs hd ps fun q hq => hN q (by simp [hq])]
    rfl
theorem plainL_all : ∀ l : List AV, (∀ x ∈ l, plain x = true) → plain.plainL l = true
  | [], _ => rfl
  | x :: l, h => by
    simp only [plain.plainL, Bool.and_eq_true]
    exact ⟨h x (by simp), plainL_all l fun y hy => h y (by simp [hy])⟩
theorem nm_plains (ps : List (Nat × α)) : plain.plainL (rows (nm t) ps) = true := plainL_all _ (rows_all (q := plain) (fun p c hc => plainL_mem (nm_plain t p) c hc) ps)
/-- What is left of a slice is packed. -/
theorem Le.trimPack {st : St} {I : St → Prop} (b k : Nat) (ks : List (Nat × α)) {cs : List AV} (hb : st.h b = some (some cs)) (hk : cs.take k = rows (nm t) ks) (hN : ∀ p ∈ ks, NB t st.h p) (hn : (ids t.n ks).Nodup) (hbi : b ∉ ids t.n ks)
    (hI : ∀ h', h' b = some (some (rows t.oc (ks.map (·.2)))) → I ⟨st.ρ, h', st.n⟩) : ∃ s, Le st s ∧ I s := by
  have h1 := Le.trim b k hb
  have hpos : ∀ d, d ∈ ids t.n ks → d ≠ b := fun d hd e => hbi (e ▸ hd)
  obtain ⟨h', k1, k2, _⟩ := Le.packOn b [] (rows t.oc (ks.map (·.2))) (ids t.n ks) [] (upd st.h b (some (some (cs.take k)))) (by rw [ids_len, rows_length t.ocn, List.length_map]) (by rw [upd_same, hk, ids_on, List.append_nil]; rfl) (fun c hc => by
    simp only [rows, List.mem_flatten, List.mem_map] at hc
    obtain ⟨_, ⟨x, _, rfl⟩, hc⟩ := hc
    exact t.ow x c hc) (fun i d cs' len sz h2 h3 => by
      rw [upd_ne _ _ (hpos d (List.mem_of_getElem? h2))]
      exact ids_at t hN i d cs' len sz h2 h3) hn hbi
  exact ⟨_, Le.trans h1 (k1 _ _), hI h' (by simpa using k2)⟩
end
end Go.Proofs.YtaknfalbmblagaaGreatDoor.Am
