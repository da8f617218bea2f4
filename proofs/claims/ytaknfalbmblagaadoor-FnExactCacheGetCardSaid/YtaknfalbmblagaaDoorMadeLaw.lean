/- The functions of the program, each by its contract: MadeLaw; no condition. -/
import Derived.Test.YtaknfalbmblagaaDoorProg
import Derived.Test.YtaknfalbmblagaaDoorAmZ
import Derived.Test.YtaknfalbmblagaaDoorAmP
import Derived.Test.YtaknfalbmblagaaDoorGetMadeS
import Derived.KernelRfl
namespace Go.Proofs.YtaknfalbmblagaaDoor.Am
open Go Go.Proofs
set_option linter.unusedSimpArgs false
set_option linter.unusedVariables false
attribute [local congr] T_congr callK_congr callWK_congr
attribute [local simp] run_nil run_op0 run_opg run_seq run_cond run_block run_ret run_skip run_skip_after run_skip_blk run_exit run_exit_after run_exit_blk run_loop run_any runS_nil runS_op0 runS_opg runW_nil runW_op0 runW_opg exec_q exec_w exec_c exec_n execW_q execW_w execW_c restW_app hideH_app merge_app wblk rest_app restS_app execS_q execS_c aval dOk upd_app ev_t ev_c setO_some setO_none put_mk pinsOf isIo hasIo sbin endR fin resL one outL out1 clo1 cloL coe coeL shut shut.shutL wantA weff cellsOf fillA deref natOf ρ0_app h0_app plain plain.plainL keep_app keepH_app andThen_normal andThen_ret andThen_exit pop_nil pop_after pop_after_ret pop_after_exit pop_blk pop_blk_ret pop_blk_exit nilA srcOf srcCells keepR_app keepHR_app renA rb
def enc1 (s : ByteArray) : List Int := hiL s.size ++ sB s
def encF : List File → List Int
  | [] => []
  | f :: l => enc1 f.path ++ (enc1 f.text ++ encF l)
theorem enc1_len (s : ByteArray) : (enc1 s).length = 2 + s.size := by
  have := sB_len s
  simp only [enc1, List.length_append, hiL, List.length_cons, List.length_nil, this]
theorem strOf_sB (s : ByteArray) : strOfNums (sB s) = s := by
  apply ByteArray.ext
  unfold strOfNums sB
  rw [List.map_map]
  have : (s.data.toList.map ((fun n : Int => UInt8.ofNat n.toNat) ∘ fun b : UInt8 => (b.toNat : Int))) = s.data.toList := by
    conv => rhs; rw [← List.map_id s.data.toList]
    refine List.map_congr_left fun c _ => ?_
    show UInt8.ofNat ((c.toNat : Int).toNat) = c
    rw [Int.toNat_natCast, UInt8.ofNat_toNat]
  rw [this]
theorem sB_strOf {l : List Int} (h : byteL l) : sB (strOfNums l) = l := by
  unfold strOfNums sB
  rw [List.map_map]
  conv => rhs; rw [← List.map_id l]
  refine List.map_congr_left fun x hx => ?_
  have := h x hx
  show (((UInt8.ofNat x.toNat).toNat : Nat) : Int) = x
  rw [UInt8.toNat_ofNat']
  omega
theorem bEq_iff {a b : List Int} (ha : byteL a) (hb : byteL b) : bEq a b = true ↔ a = b := by
  unfold bEq
  rw [beq_iff_eq, Lib.toList_data, Lib.toList_data]
  constructor
  · intro h
    have h2 : strOfNums a = strOfNums b := by
      apply ByteArray.ext
      exact Array.ext' h
    rw [← sB_strOf ha, ← sB_strOf hb, h2]
  · rintro rfl; rfl
theorem getT_back {b w : List Int} {s : ByteArray} {n : Int} (hb : byteL b) (hw : ∃ q, b = w ++ q) (h : getT b (w.length : Int) = some (s, n)) : s.size ≤ 60000 ∧ n = ((w ++ enc1 s).length : Nat) ∧ ∃ q, b = (w ++ enc1 s) ++ q := by
  obtain ⟨q, hq⟩ := hw
  have hr := getT_rng h
  unfold getT at h
  split at h
  case isFalse => cases h
  rename_i c1
  split at h
  case isFalse => cases h
  rename_i c2
  simp only [Option.some.injEq, Prod.mk.injEq] at h
  obtain ⟨rfl, rfl⟩ := h
  have hbl : b.length = w.length + q.length := by rw [hq, List.length_append]
  have hdw : b.drop w.length = q := by rw [hq, List.drop_left]
  obtain ⟨x, y, r, rfl⟩ : ∃ x y r, q = x :: y :: r := by
    match q, hbl with
    | [], hbl => simp at hbl; omega
    | [_], hbl => simp at hbl; omega
    | x :: y :: r, _ => exact ⟨x, y, r, rfl⟩
  have e0 : b[w.length]? = some x := by rw [hq, List.getElem?_append_right (Nat.le_refl _)]; simp
  have e1 : b[w.length + 1]? = some y := by rw [hq, List.getElem?_append_right (by omega)]; simp
  have hL : lenAt b w.length = x.toNat * 256 + y.toNat := by unfold lenAt; rw [e0, e1]; rfl
  have d2 : b.drop (w.length + 2) = r := by rw [← List.drop_drop, hdw]; rfl
  have bx := hb x (by rw [hq]; simp)
  have by' := hb y (by rw [hq]; simp)
  have hrb : byteL r := fun z hz => hb z (by rw [hq]; simp [hz])
  rw [Int.toNat_natCast] at hr c2 ⊢
  have hm : (r.take (lenAt b w.length)).length = lenAt b w.length := by
    rw [List.length_take]
    have : b.length = w.length + (r.length + 1 + 1) := hbl
    omega
  rw [d2] at hr ⊢
  have hs : (strOfNums (r.take (lenAt b w.length))).size = lenAt b w.length := by rw [strOfNums_size, hm]
  have hsb : sB (strOfNums (r.take (lenAt b w.length))) = r.take (lenAt b w.length) := sB_strOf fun z hz => hrb z (List.mem_of_mem_take hz)
  obtain ⟨L, hLd⟩ : ∃ L, L = lenAt b w.length := ⟨_, rfl⟩
  rw [← hLd] at hL hm hs hsb hr ⊢
  refine ⟨hr.1, ?_, r.drop L, ?_⟩
  · rw [List.length_append, enc1_len, hs]; omega
  · rw [hq, List.append_assoc]
    congr 1
    rw [enc1, hs, hsb, hiL, hL]
    have f1 : ((x.toNat * 256 + y.toNat : Nat) : Int) / 256 = x := by omega
    have f2 : ((x.toNat * 256 + y.toNat : Nat) : Int) % 256 = y := by omega
    rw [f1, f2]
    simp
theorem getT_fwd {w q : List Int} {s : ByteArray} (hs : s.size ≤ 60000) : getT ((w ++ enc1 s) ++ q) (w.length : Int) = some (s, (((w ++ enc1 s).length : Nat) : Int)) := by
  obtain ⟨b, hb⟩ : ∃ b, b = (w ++ enc1 s) ++ q := ⟨_, rfl⟩
  have hl := enc1_len s
  have hbl : b.length = w.length + (2 + s.size) + q.length := by rw [hb, List.length_append, List.length_append, hl]
  have hb2 : b = w ++ ((s.size : Int) / 256 :: (s.size : Int) % 256 :: (sB s ++ q)) := by rw [hb, enc1, hiL]; simp
  have e0 : b[w.length]? = some ((s.size : Int) / 256) := by rw [hb2, List.getElem?_append_right (Nat.le_refl _)]; simp
  have e1 : b[w.length + 1]? = some ((s.size : Int) % 256) := by rw [hb2, List.getElem?_append_right (by omega)]; simp
  have hL : lenAt b w.length = s.size := by unfold lenAt; rw [e0, e1]; show ((s.size : Int) / 256).toNat * 256 + ((s.size : Int) % 256).toNat = _; omega
  have d2 : b.drop (w.length + 2) = sB s ++ q := by
    rw [hb2, ← List.drop_drop, List.drop_left]; rfl
  rw [← hb]
  unfold getT
  rw [Int.toNat_natCast, hL, d2, if_pos ⟨by omega, by omega⟩, if_pos ⟨hs, by omega⟩]
  have ht : (sB s ++ q).take s.size = sB s := by rw [← sB_len s, List.take_left]
  rw [ht, strOf_sB, List.length_append, hl]
  congr 2
  omega
theorem nextT_bad (b : List Int) (a : Int) : nextT b a true = (⟨#[]⟩, a, true) := by
  unfold nextT
  cases getT b a with
  | none => rfl
  | some p => rfl
theorem nextT_back {b w : List Int} {bad : Bool} (hb : byteL b) (hw : ∃ q, b = w ++ q) (h : (nextT b (w.length : Int) bad).2.2 = false) : bad = false ∧ (nextT b (w.length : Int) bad).1.size ≤ 60000 ∧ (nextT b (w.length : Int) bad).2.1 = ((w ++ enc1 (nextT b (w.length : Int) bad).1).length : Nat) ∧ ∃ q, b = (w ++ enc1 (nextT b (w.length : Int) bad).1) ++ q := by
  cases bad with
  | true => rw [nextT_bad] at h; cases h
  | false =>
    have hn : nextT b (w.length : Int) false = match getT b (w.length : Int) with | some (s, n) => (s, n, false) | none => (⟨#[]⟩, (w.length : Int), true) := rfl
    cases hg : getT b (w.length : Int) with
    | none => rw [hn, hg] at h; cases h
    | some p =>
      obtain ⟨s, n⟩ := p
      rw [hg] at hn
      rw [hn]
      exact ⟨rfl, getT_back hb hw hg⟩
theorem nextT_fwd {w q : List Int} {s : ByteArray} (hs : s.size ≤ 60000) : nextT ((w ++ enc1 s) ++ q) (w.length : Int) false = (s, (((w ++ enc1 s).length : Nat) : Int), false) := by
  unfold nextT
  rw [getT_fwd hs]; rfl
theorem rdN_bad (b : List Int) : ∀ (k : Nat) (a : Int), (rdN b k a true).2.2 = true
  | 0, _ => rfl
  | k + 1, a => by
    rw [rdN, nextT_bad]
    simp only
    rw [nextT_bad]
    exact rdN_bad b k _
def filesFit (l : List File) : Prop := ∀ f ∈ l, f.path.size ≤ 60000 ∧ f.text.size ≤ 60000
theorem rdN_back {b : List Int} (hb : byteL b) : ∀ (k : Nat) (w : List Int) (bad : Bool), (∃ q, b = w ++ q) → (rdN b k (w.length : Int) bad).2.2 = false →
    bad = false ∧ filesFit (rdN b k (w.length : Int) bad).1 ∧ (rdN b k (w.length : Int) bad).2.1 = ((w ++ encF (rdN b k (w.length : Int) bad).1).length : Nat) ∧ ∃ q, b = (w ++ encF (rdN b k (w.length : Int) bad).1) ++ q
  | 0, w, bad, hw, h => by
    have e : rdN b 0 (w.length : Int) bad = ([], (w.length : Int), bad) := rfl
    rw [e] at h ⊢
    have hn : filesFit [] := fun f hf => absurd hf List.not_mem_nil
    exact ⟨h, hn, by simp [encF], by simpa [encF] using hw⟩
  | k + 1, w, bad, hw, h => by
    rw [rdN] at h ⊢
    simp only at h ⊢
    have c2 : (nextT b (nextT b (w.length : Int) bad).2.1 (nextT b (w.length : Int) bad).2.2).2.2 = false := by
      cases hc : (nextT b (nextT b (w.length : Int) bad).2.1 (nextT b (w.length : Int) bad).2.2).2.2 with
      | false => rfl
      | true => rw [hc, rdN_bad] at h; cases h
    have c1 : (nextT b (w.length : Int) bad).2.2 = false := by
      cases hc : (nextT b (w.length : Int) bad).2.2 with
      | false => rfl
      | true => rw [hc, nextT_bad] at c2; cases c2
    obtain ⟨h1, h2, h3, h4⟩ := nextT_back hb hw c1
    obtain ⟨u, hu⟩ : ∃ u, u = nextT b (w.length : Int) bad := ⟨_, rfl⟩
    rw [← hu] at h c1 c2 h2 h3 h4 ⊢
    rw [h3] at c2 h ⊢
    obtain ⟨g1, g2, g3, g4⟩ := nextT_back hb h4 c2
    obtain ⟨v, hv⟩ : ∃ v, v = nextT b (((w ++ enc1 u.1).length : Nat) : Int) u.2.2 := ⟨_, rfl⟩
    rw [← hv] at h c2 g2 g3 g4 ⊢
    rw [g3] at h ⊢
    obtain ⟨e1, e2, e3, e4⟩ := rdN_back hb k _ _ g4 h
    have hap : ∀ l : List File, w ++ encF (⟨u.1, v.1⟩ :: l) = (w ++ enc1 u.1 ++ enc1 v.1) ++ encF l := fun l => by simp [encF]
    rw [hap]
    refine ⟨h1, ?_, e3, e4⟩
    intro f hf
    rcases List.mem_cons.1 hf with rfl | hf
    · exact ⟨h2, g2⟩
    · exact e2 f hf
theorem rdN_fwd : ∀ (l : List File) (w q : List Int), filesFit l → rdN ((w ++ encF l) ++ q) l.length (w.length : Int) false = (l, (((w ++ encF l).length : Nat) : Int), false)
  | [], w, q, _ => by simp [rdN, encF]
  | f :: l, w, q, h => by
    obtain ⟨h1, h2⟩ := h f (by simp)
    have e : (w ++ encF (f :: l)) ++ q = (w ++ enc1 f.path) ++ (enc1 f.text ++ (encF l ++ q)) := by simp [encF]
    have e2 : (w ++ encF (f :: l)) ++ q = ((w ++ enc1 f.path) ++ enc1 f.text) ++ (encF l ++ q) := by simp [encF]
    have e3 : (w ++ encF (f :: l)) ++ q = ((w ++ enc1 f.path ++ enc1 f.text) ++ encF l) ++ q := by simp [encF]
    have n1 : nextT ((w ++ encF (f :: l)) ++ q) (w.length : Int) false = (f.path, (((w ++ enc1 f.path).length : Nat) : Int), false) := by rw [e]; exact nextT_fwd h1
    have n2 : nextT ((w ++ encF (f :: l)) ++ q) (((w ++ enc1 f.path).length : Nat) : Int) false = (f.text, (((w ++ enc1 f.path ++ enc1 f.text).length : Nat) : Int), false) := by rw [e2]; exact nextT_fwd h2
    have n3 : rdN ((w ++ encF (f :: l)) ++ q) l.length (((w ++ enc1 f.path ++ enc1 f.text).length : Nat) : Int) false = (l, (((w ++ enc1 f.path ++ enc1 f.text ++ encF l).length : Nat) : Int), false) := by rw [e3]; exact rdN_fwd l _ q fun g hg => h g (List.mem_cons_of_mem _ hg)
    rw [List.length_cons, rdN, n1]
    simp only
    rw [n2]
    simp only
    rw [n3]
    simp [encF]
theorem rdS_N (b : List Int) : ∀ (k : Nat) (a : Int) (bad : Bool), ((rdS b k a bad).2.2 = false ∨ (rdN b k a bad).2.2 = false) → rdS b k a bad = rdN b k a bad
  | 0, _, _, _ => rfl
  | k + 1, a, bad, h => by
    cases bad with
    | true =>
      rcases h with h | h
      · rw [rdS, if_pos rfl] at h; cases h
      · rw [rdN_bad] at h; cases h
    | false =>
      rw [rdS, if_neg (by decide), rdN] at h
      rw [rdS, if_neg (by decide), rdN]
      simp only at h
      rw [rdS_N b k _ _ h]
theorem putT_enc {b : List Int} {s : ByteArray} (h : s.size ≤ 60000) : putT b s = b ++ enc1 s := if_pos h
theorem putFs_enc : ∀ (l : List File) (b : List Int), filesFit l → putFs b l = b ++ encF l
  | [], b, _ => by simp [putFs, encF]
  | f :: l, b, h => by
    obtain ⟨h1, h2⟩ := h f (by simp)
    rw [putFs, putT_enc h1, putT_enc h2, putFs_enc l _ fun g hg => h g (List.mem_cons_of_mem _ hg)]
    simp [encF]
structure Fit (m : Made) : Prop where
  task : m.task.size ≤ 60000
  log : m.log.size ≤ 60000
  outs : filesFit m.outs
  num : m.outs.length ≤ 1000
theorem bodyM_enc {m : Made} (h : Fit m) : bodyM m = enc1 m.task ++ (enc1 m.log ++ (enc1 (numT m.outs.length) ++ encF m.outs)) := by
  have hn := numT_size m.outs.length
  have := h.num
  unfold bodyM putFl
  rw [putT_enc h.task, putT_enc h.log, putT_enc (by omega), putFs_enc _ _ h.outs]
  simp
theorem digF_dec : ∀ (k n : Nat), n ≤ k → digF 0 (Lib.decDigits n) = n ∧ figL (Lib.decDigits n) = true
  | k, n, hk => by
    have dg : ∀ d : Nat, d < 10 → (UInt8.ofNat (48 + d)).toNat = 48 + d := fun d hd => by rw [UInt8.toNat_ofNat']; omega
    have fg : ∀ d : Nat, d < 10 → figI ((UInt8.ofNat (48 + d)).toNat : Int) = true := fun d hd => by
      rw [dg d hd]; simp only [figI, Bool.and_eq_true, decide_eq_true_eq]; omega
    by_cases h9 : n < 10
    · rw [dec_small h9]
      refine ⟨by rw [digF_cons, digF_nil, dg n h9]; omega, by rw [figL, fg n h9]; rfl⟩
    · have ih : digF 0 (Lib.decDigits (n / 10)) = n / 10 ∧ figL (Lib.decDigits (n / 10)) = true := by
        match k, hk with
        | 0, hk => omega
        | k + 1, hk => exact digF_dec k (n / 10) (by omega)
      rw [dec_big (by omega), digF_app, figL_app, ih.1, ih.2, digF_cons, digF_nil, dg _ (by omega)]
      refine ⟨by omega, by rw [figL, fg _ (by omega)]; rfl⟩
theorem dec_ne (n : Nat) : 1 ≤ (Lib.decDigits n).length := by
  by_cases h9 : n < 10
  · rw [dec_small h9]; exact Nat.le_refl _
  · rw [dec_big (by omega), List.length_append]; simp
theorem dec_len : ∀ (j n : Nat), n < 10 ^ (j + 1) → (Lib.decDigits n).length ≤ j + 1
  | 0, n, h => by rw [dec_small (by simpa using h)]; simp
  | j + 1, n, h => by
    by_cases h9 : n < 10
    · rw [dec_small h9]; simp
    · rw [dec_big (by omega), List.length_append]
      have := dec_len j (n / 10) (by rw [Nat.pow_succ] at h; omega)
      simp; omega
theorem parse_num {k : Nat} (hk : k ≤ 1000) : parseN (numT k) 1000 = some k := by
  have hl := numT_list k
  have hz : (numT k).size = (Lib.decDigits k).length := by rw [← hl]; exact str_len rfl
  obtain ⟨d1, d2⟩ := digF_dec k k (Nat.le_refl _)
  have hlen := dec_len 6 k (by omega)
  have hne := dec_ne k
  unfold parseN
  rw [hl, d1, if_pos]
  refine ⟨⟨by omega, by omega⟩, d2, ?_, by omega⟩
  rintro ⟨h1, h2⟩
  have h0 := dec_head k k (Nat.le_refl _) h2
  have hz2 : (Lib.decDigits k).length = 1 := by rw [h0, dec_small (by omega)]; rfl
  omega
theorem parse_inv {s : ByteArray} {k : Nat} (h : parseN s 1000 = some k) : s = numT k ∧ k ≤ 1000 := by
  have hk := parseN_le h
  unfold parseN at h
  split at h
  case isFalse => cases h
  rename_i c
  cases h
  refine ⟨?_, hk⟩
  have := (num_canon c.1.1 c.2.1).2 c.2.2.1
  rw [Lib.toList_data, Lib.toList_data] at this
  exact ByteArray.ext (Array.ext' this.symm)
/-- the head of what is read, back and forth -/
theorem rdH_back {b : List Int} {bad : Bool} (hb : byteL b) (h : (rdH b bad).2.2.2.2 = false) : bad = false ∧ (rdH b bad).1.size ≤ 60000 ∧ (rdH b bad).2.1.size ≤ 60000 ∧ (rdH b bad).2.2.1.size ≤ 60000 ∧
    (rdH b bad).2.2.2.1 = ((enc1 (rdH b bad).1 ++ enc1 (rdH b bad).2.1 ++ enc1 (rdH b bad).2.2.1).length : Nat) ∧ ∃ q, b = (enc1 (rdH b bad).1 ++ enc1 (rdH b bad).2.1 ++ enc1 (rdH b bad).2.2.1) ++ q := by
  unfold rdH at h ⊢
  simp only at h ⊢
  have c2 : (nextT b (nextT b 0 bad).2.1 (nextT b 0 bad).2.2).2.2 = false := by
    cases hc : (nextT b (nextT b 0 bad).2.1 (nextT b 0 bad).2.2).2.2 with
    | false => rfl
    | true => rw [hc, nextT_bad] at h; cases h
  have c1 : (nextT b 0 bad).2.2 = false := by
    cases hc : (nextT b 0 bad).2.2 with
    | false => rfl
    | true => rw [hc, nextT_bad] at c2; cases c2
  obtain ⟨h1, h2, h3, h4⟩ := nextT_back (w := []) hb ⟨b, rfl⟩ c1
  have h2 : (nextT b 0 bad).1.size ≤ 60000 := h2
  have h3 : (nextT b 0 bad).2.1 = (([] ++ enc1 (nextT b 0 bad).1).length : Nat) := h3
  have h4 : ∃ q, b = ([] ++ enc1 (nextT b 0 bad).1) ++ q := h4
  rw [List.nil_append] at h3 h4
  obtain ⟨u, hu⟩ : ∃ u, u = nextT b 0 bad := ⟨_, rfl⟩
  rw [← hu] at h c1 c2 h2 h3 h4 ⊢
  rw [h3] at c2 h ⊢
  obtain ⟨g1, g2, g3, g4⟩ := nextT_back hb h4 c2
  obtain ⟨v, hv⟩ : ∃ v, v = nextT b (((enc1 u.1).length : Nat) : Int) u.2.2 := ⟨_, rfl⟩
  rw [← hv] at h c2 g2 g3 g4 ⊢
  rw [g3] at h ⊢
  obtain ⟨e1, e2, e3, e4⟩ := nextT_back hb g4 h
  exact ⟨h1, h2, g2, e2, e3, e4⟩
theorem rdH_fwd {a c d : ByteArray} {q : List Int} (ha : a.size ≤ 60000) (hc : c.size ≤ 60000) (hd : d.size ≤ 60000) : rdH ((enc1 a ++ enc1 c ++ enc1 d) ++ q) false = (a, c, d, (((enc1 a ++ enc1 c ++ enc1 d).length : Nat) : Int), false) := by
  have n1 : nextT ((enc1 a ++ enc1 c ++ enc1 d) ++ q) 0 false = (a, (((enc1 a).length : Nat) : Int), false) := by
    have := nextT_fwd (w := []) (q := enc1 c ++ (enc1 d ++ q)) ha
    simpa using this
  have n2 : nextT ((enc1 a ++ enc1 c ++ enc1 d) ++ q) (((enc1 a).length : Nat) : Int) false = (c, (((enc1 a ++ enc1 c).length : Nat) : Int), false) := by
    have := nextT_fwd (w := enc1 a) (q := enc1 d ++ q) hc
    simpa using this
  have n3 : nextT ((enc1 a ++ enc1 c ++ enc1 d) ++ q) (((enc1 a ++ enc1 c).length : Nat) : Int) false = (d, (((enc1 a ++ enc1 c ++ enc1 d).length : Nat) : Int), false) := nextT_fwd (w := enc1 a ++ enc1 c) hd
  unfold rdH
  rw [n1]
  simp only
  rw [n2]
  simp only
  rw [n3]
theorem bodyM_eq {m : Made} (h : Fit m) : bodyM m = (enc1 m.task ++ enc1 m.log ++ enc1 (numT m.outs.length)) ++ encF m.outs := by
  rw [bodyM_enc h]; simp
theorem readBody {m : Made} (h : Fit m) (q : List Int) : rdH (bodyM m ++ q) false = (m.task, m.log, numT m.outs.length, (((enc1 m.task ++ enc1 m.log ++ enc1 (numT m.outs.length)).length : Nat) : Int), false) ∧
    rdN (bodyM m ++ q) m.outs.length (((enc1 m.task ++ enc1 m.log ++ enc1 (numT m.outs.length)).length : Nat) : Int) false = (m.outs, (((bodyM m).length : Nat) : Int), false) := by
  have hn := numT_size m.outs.length
  have hk := h.num
  rw [bodyM_eq h]
  constructor
  · rw [List.append_assoc]
    exact rdH_fwd h.task h.log (by omega)
  · exact rdN_fwd m.outs _ q h.outs
theorem getI_put {m : Made} (h : Fit m) : getI (putM m) = some m := by
  obtain ⟨h1, h2⟩ := readBody h (sumsL (bodyM m).sum)
  have hp := parse_num h.num
  unfold getI
  rw [show putM m = bodyM m ++ sumsL (bodyM m).sum from rfl, h1]
  simp only
  rw [hp]
  simp only [Option.getD_some]
  rw [h2]
  simp only
  rw [if_pos]
  exact ⟨by first | trivial | rfl, by first | trivial | rfl, (bEq_iff (putM_byte m) (putM_byte m)).2 rfl⟩
theorem bodyOf_put (m : Made) : bodyOf (putM m) = bodyM m := by
  unfold bodyOf putM
  rw [show (bodyM m ++ sumsL (bodyM m).sum).length - 2 = (bodyM m).length by rw [List.length_append]; simp [sumsL], List.take_left]
theorem lenAt_put (m : Made) : (lenAt (putM m) (bodyM m).length : Int) = (bodyM m).sum % 65536 := by
  have e0 : (putM m)[(bodyM m).length]? = some ((bodyM m).sum / 256 % 256) := by unfold putM; rw [List.getElem?_append_right (Nat.le_refl _)]; simp [sumsL]
  have e1 : (putM m)[(bodyM m).length + 1]? = some ((bodyM m).sum % 256) := by unfold putM; rw [List.getElem?_append_right (by omega)]; simp [sumsL]
  unfold lenAt
  rw [e0, e1]
  show (((((bodyM m).sum / 256 % 256).toNat * 256 + ((bodyM m).sum % 256).toNat : Nat)) : Int) = _
  omega
theorem getS_put {m : Made} (h : Fit m) : getS (putM m) = some m := by
  obtain ⟨h1, h2⟩ := readBody h []
  rw [List.append_nil] at h1 h2
  have hp := parse_num h.num
  have hlen : (putM m).length = (bodyM m).length + 2 := by unfold putM; rw [List.length_append]; simp [sumsL]
  have hbs : badSum (putM m) = false := by
    unfold badSum
    rw [bodyOf_put, hlen, Nat.add_sub_cancel, lenAt_put]
    simp
  have hR : rdR (putM m) = (m.outs, (((bodyM m).length : Nat) : Int), false) := by
    unfold rdR
    rw [bodyOf_put, hbs, h1]
    simp only
    rw [hp]
    simp only [Option.getD_some]
    rw [rdS_N _ _ _ _ (.inr (by rw [h2])), h2]
  unfold getS
  rw [hR, bodyOf_put, hbs, h1]
  simp only
  rw [hp, if_pos]
  exact ⟨by omega, by first | trivial | rfl, by first | trivial | rfl, by rw [hlen, Nat.add_sub_cancel]⟩
theorem getI_fit {b : List Int} (hb : byteL b) {m : Made} (h : getI b = some m) : Fit m ∧ putM m = b := by
  unfold getI at h
  split at h
  case isFalse => cases h
  rename_i c
  obtain ⟨c1, c2, c3⟩ := c
  cases h
  have c4 : (rdH b false).2.2.2.2 = false := by
    cases hc : (rdH b false).2.2.2.2 with
    | false => rfl
    | true => rw [hc, rdN_bad] at c2; cases c2
  obtain ⟨h1, h2, h3, h4, h5, h6⟩ := rdH_back hb c4
  obtain ⟨k, hk⟩ := Option.isSome_iff_exists.1 c1
  obtain ⟨hn, hk2⟩ := parse_inv hk
  rw [h5] at c2
  obtain ⟨g1, g2, g3, g4⟩ := rdN_back hb _ _ _ h6 c2
  refine ⟨⟨h2, h3, ?_, ?_⟩, (bEq_iff (putM_byte _) hb).1 c3⟩
  · show filesFit (rdN b _ (rdH b false).2.2.2.1 _).1
    rw [h5]; exact g2
  · show (rdN b _ _ _).1.length ≤ 1000
    rw [rdN_len, hk]; exact hk2
theorem getS_fit {b : List Int} (hb : byteL b) {m : Made} (h : getS b = some m) : Fit m ∧ putM m = b := by
  unfold getS at h
  split at h
  case isFalse => cases h
  rename_i c
  obtain ⟨c0, c1, c2, c3⟩ := c
  cases h
  have hcb : byteL (bodyOf b) := fun x hx => hb x (List.mem_of_mem_take hx)
  have hcl : (bodyOf b).length = b.length - 2 := by unfold bodyOf; rw [List.length_take]; omega
  have eR : rdR b = rdN (bodyOf b) ((parseN (rdH (bodyOf b) (badSum b)).2.2.1 1000).getD 0) (rdH (bodyOf b) (badSum b)).2.2.2.1 (rdH (bodyOf b) (badSum b)).2.2.2.2 := rdS_N _ _ _ _ (.inl c1)
  rw [eR] at c1 c3 ⊢
  have c4 : (rdH (bodyOf b) (badSum b)).2.2.2.2 = false := by
    cases hc : (rdH (bodyOf b) (badSum b)).2.2.2.2 with
    | false => rfl
    | true => rw [hc, rdN_bad] at c1; cases c1
  obtain ⟨h1, h2, h3, h4, h5, h6⟩ := rdH_back hcb c4
  obtain ⟨k, hk⟩ := Option.isSome_iff_exists.1 c2
  obtain ⟨hn, hk2⟩ := parse_inv hk
  rw [h5] at c1 c3 ⊢
  obtain ⟨g1, g2, g3, g4⟩ := rdN_back hcb _ _ _ h6 c1
  obtain ⟨m, hm⟩ : ∃ m : Made, m = ⟨(rdH (bodyOf b) (badSum b)).1, (rdN (bodyOf b) ((parseN (rdH (bodyOf b) (badSum b)).2.2.1 1000).getD 0) (((enc1 (rdH (bodyOf b) (badSum b)).1 ++ enc1 (rdH (bodyOf b) (badSum b)).2.1 ++ enc1 (rdH (bodyOf b) (badSum b)).2.2.1).length : Nat) : Int) (rdH (bodyOf b) (badSum b)).2.2.2.2).1, (rdH (bodyOf b) (badSum b)).2.1⟩ := ⟨_, rfl⟩
  rw [← hm]
  have hfit : Fit m := by
    rw [hm]
    refine ⟨h2, h3, g2, ?_⟩
    show (rdN _ _ _ _).1.length ≤ 1000
    rw [rdN_len, hk]; exact hk2
  refine ⟨hfit, ?_⟩
  have hol : m.outs.length = k := by rw [hm]; show (rdN _ _ _ _).1.length = k; rw [rdN_len, hk]; rfl
  have hbody : bodyOf b = bodyM m := by
    obtain ⟨q, hq⟩ := g4
    have hW : bodyM m = (enc1 (rdH (bodyOf b) (badSum b)).1 ++ enc1 (rdH (bodyOf b) (badSum b)).2.1 ++ enc1 (rdH (bodyOf b) (badSum b)).2.2.1) ++ encF m.outs := by
      rw [bodyM_eq hfit, hol, ← hn]
      rw [hm]
    have hW2 : m.outs = (rdN (bodyOf b) ((parseN (rdH (bodyOf b) (badSum b)).2.2.1 1000).getD 0) (((enc1 (rdH (bodyOf b) (badSum b)).1 ++ enc1 (rdH (bodyOf b) (badSum b)).2.1 ++ enc1 (rdH (bodyOf b) (badSum b)).2.2.1).length : Nat) : Int) (rdH (bodyOf b) (badSum b)).2.2.2.2).1 := by rw [hm]
    rw [← hW2, ← hW] at hq g3
    have hql : q = [] := by
      have := congrArg List.length hq
      rw [List.length_append, hcl] at this
      refine List.length_eq_zero_iff.1 ?_
      rw [g3] at c3
      omega
    rw [hq, hql, List.append_nil]
  have hbs : badSum b = false := h1
  unfold badSum at hbs
  rw [hbody] at hbs
  have hbs : (bodyM m).sum % 65536 = (lenAt b (b.length - 2) : Int) := by simpa using hbs
  have hbb : b = bodyOf b ++ b.drop (b.length - 2) := by unfold bodyOf; rw [List.take_append_drop]
  obtain ⟨x, y, hxy⟩ : ∃ x y, b.drop (b.length - 2) = [x, y] := by
    have : (b.drop (b.length - 2)).length = 2 := by rw [List.length_drop]; omega
    match b.drop (b.length - 2), this with
    | [x, y], _ => exact ⟨x, y, rfl⟩
  have ex : b[b.length - 2]? = some x := by
    have : (b.drop (b.length - 2))[0]? = some x := by rw [hxy]; rfl
    rwa [List.getElem?_drop] at this
  have ey : b[b.length - 2 + 1]? = some y := by
    have : (b.drop (b.length - 2))[1]? = some y := by rw [hxy]; rfl
    rwa [List.getElem?_drop] at this
  have bx := hb x (List.mem_of_getElem? ex)
  have by' := hb y (List.mem_of_getElem? ey)
  have hL : lenAt b (b.length - 2) = x.toNat * 256 + y.toNat := by unfold lenAt; rw [ex, ey]; rfl
  rw [hL] at hbs
  rw [hbb, hbody, hxy, putM, sumsL]
  congr 1
  rw [show (bodyM m).sum / 256 % 256 = x by omega, show (bodyM m).sum % 256 = y by omega]
/-- what the program gets is what the document gets -/
theorem getI_S {b : List Int} (hb : byteL b) : getI b = getS b := by
  cases hI : getI b with
  | some m =>
    obtain ⟨h1, h2⟩ := getI_fit hb hI
    rw [← h2, getS_put h1]
  | none =>
    cases hS : getS b with
    | none => rfl
    | some m =>
      obtain ⟨h1, h2⟩ := getS_fit hb hS
      rw [← h2, getI_put h1] at hI
      cases hI
end Go.Proofs.YtaknfalbmblagaaDoor.Am
