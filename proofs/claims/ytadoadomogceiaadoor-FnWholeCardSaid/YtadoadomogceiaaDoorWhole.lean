/- The functions of the program, each by its contract: Whole; no condition. -/
import Derived.Test.YtadoadomogceiaaDoorProg
import Derived.Test.YtadoadomogceiaaDoorAmZ
import Derived.Test.YtadoadomogceiaaDoorAmP
import Derived.Test.YtadoadomogceiaaDoorDocs6
import Derived.KernelRfl
namespace Go.Proofs.YtadoadomogceiaaDoor.Am
open Go Go.Proofs
set_option linter.unusedSimpArgs false
set_option linter.unusedVariables false
attribute [local congr] T_congr callK_congr callWK_congr
attribute [local simp] run_nil run_op0 run_opg run_seq run_cond run_block run_ret run_skip run_skip_after run_skip_blk run_exit run_exit_after run_exit_blk run_loop run_any runS_nil runS_op0 runS_opg runW_nil runW_op0 runW_opg exec_q exec_w exec_c exec_n execW_q execW_w execW_c restW_app hideH_app merge_app wblk rest_app restS_app execS_q execS_c aval dOk upd_app ev_t ev_c setO_some setO_none put_mk pinsOf isIo hasIo sbin endR fin resL one outL out1 clo1 cloL coe coeL shut shut.shutL wantA weff cellsOf fillA deref natOf ρ0_app h0_app plain plain.plainL keep_app keepH_app andThen_normal andThen_ret andThen_exit pop_nil pop_after pop_after_ret pop_after_exit pop_blk pop_blk_ret pop_blk_exit nilA srcOf srcCells keepR_app keepHR_app renA rb
theorem bl_trans : ∀ {a b c : List UInt8}, Go.Op.bytesLess a b = true → Go.Op.bytesLess b c = true → Go.Op.bytesLess a c = true
  | _, [], _, h1, _ => by simp [Go.Op.bytesLess] at h1
  | _, _ :: _, [], _, h2 => by simp [Go.Op.bytesLess] at h2
  | [], _ :: _, _ :: _, _, _ => rfl
  | a :: x, b :: y, c :: z, h1, h2 => by
    simp only [Go.Op.bytesLess, Bool.or_eq_true, decide_eq_true_eq, Bool.and_eq_true, beq_iff_eq] at *
    rcases h1 with h1 | ⟨rfl, h1⟩ <;> rcases h2 with h2 | ⟨rfl, h2⟩
    · exact .inl (UInt8.lt_trans h1 h2)
    · exact .inl h1
    · exact .inl h2
    · exact .inr ⟨rfl, bl_trans h1 h2⟩
theorem bl_tri {a b : List UInt8} (h1 : Go.Op.bytesLess a b = false) (h2 : a ≠ b) : Go.Op.bytesLess b a = true := by
  have h := bl_tot a b
  have e : (a == b) = false := by simpa using h2
  rw [h1, e] at h
  simpa using h.symm
def docsP (l : List Doc) : Prop := (∀ x ∈ l, nameOk x.name = true ∧ x.text.size ≤ 400) ∧ l.Pairwise fun a b => Go.Op.bytesLess a.name.toList b.name.toList = true
theorem docsL_iff : ∀ (l : List Doc) (p : Option Doc), docsL p l = true ↔ docsP l ∧ ∀ q, p = some q → ∀ x ∈ l, Go.Op.bytesLess q.name.toList x.name.toList = true
  | [], p => by simp [docsL, docsP]
  | x :: l, p => by
    have ih := docsL_iff l (some x)
    have e : docsL p (x :: l) = ((nameOk x.name && decide ((x.text.size : Int) ≤ 400) && (match p with | none => true | some q => Go.Op.bytesLess q.name.toList x.name.toList)) && docsL (some x) l) := by cases p <;> rfl
    rw [e, Bool.and_eq_true, ih]
    simp only [Bool.and_eq_true, decide_eq_true_eq]
    constructor
    · rintro ⟨⟨⟨h1, h2⟩, h3⟩, ⟨h4, h5⟩, h6⟩
      have h6 := h6 x rfl
      refine ⟨⟨fun y hy => ?_, List.pairwise_cons.2 ⟨h6, h5⟩⟩, ?_⟩
      · rcases List.mem_cons.1 hy with rfl | hy
        · exact ⟨h1, by omega⟩
        · exact h4 y hy
      · rintro q rfl y hy
        rcases List.mem_cons.1 hy with rfl | hy
        · exact h3
        · exact bl_trans h3 (h6 y hy)
    · rintro ⟨⟨h4, h5⟩, h6⟩
      obtain ⟨h7, h8⟩ := List.pairwise_cons.1 h5
      have h9 := h4 x (by simp)
      refine ⟨⟨⟨h9.1, by omega⟩, ?_⟩, ⟨fun y hy => h4 y (List.mem_cons_of_mem _ hy), h8⟩, ?_⟩
      · cases p with
        | none => rfl
        | some q => exact h6 q rfl x (by simp)
      · rintro q hq y hy
        cases hq
        exact h7 y hy
theorem noD_P {l : List Doc} (h : docsP l) (n : ByteArray) : docsP (noD n l) := ⟨fun x hx => h.1 x (mem_noD hx), h.2.sublist List.filter_sublist⟩
theorem noD_not {n : ByteArray} {l : List Doc} {y : Doc} (h : y ∈ noD n l) : sameN n y = false := by
  have := (List.mem_filter.1 h).2
  simpa using this
theorem split_at (a b o : List Doc) (h : a ++ b = o) : o.take a.length = a ∧ o.drop a.length = b := by subst h; simp
theorem insD_eq (x : Doc) (o : List Doc) : insD x o = o.takeWhile (lessN x.name) ++ x :: o.dropWhile (lessN x.name) := by
  obtain ⟨h1, h2⟩ := split_at (o.takeWhile (lessN x.name)) (o.dropWhile (lessN x.name)) o List.takeWhile_append_dropWhile
  rw [insD, h1, h2]
theorem tw_all (p : Doc → Bool) : ∀ o : List Doc, ∀ y ∈ o.takeWhile p, p y = true
  | [], y, h => by simp at h
  | x :: o, y, h => by
    rw [List.takeWhile_cons] at h
    split at h
    · rename_i hx
      rcases List.mem_cons.1 h with rfl | h
      · exact hx
      · exact tw_all p o y h
    · simp at h
theorem dw_head (p : Doc → Bool) : ∀ (o : List Doc) (h : Doc) (t : List Doc), o.dropWhile p = h :: t → p h = false
  | [], h, t, e => by simp at e
  | x :: o, h, t, e => by
    rw [List.dropWhile_cons] at e
    split at e
    · exact dw_head p o h t e
    · rename_i hx
      cases e
      simpa using hx
theorem insD_P {x : Doc} {o : List Doc} (h : docsP o) (hx : nameOk x.name = true ∧ x.text.size ≤ 400) (hn : ∀ y ∈ o, sameN x.name y = false) : docsP (insD x o) := by
  refine ⟨fun y hy => ?_, ?_⟩
  · rcases mem_insD hy with rfl | hy
    · exact hx
    · exact h.1 y hy
  rw [insD_eq]
  have e : o.takeWhile (lessN x.name) ++ o.dropWhile (lessN x.name) = o := List.takeWhile_append_dropWhile
  have hp := h.2
  rw [← e] at hp
  obtain ⟨p1, p2, p3⟩ := List.pairwise_append.1 hp
  have hd : ∀ y ∈ o.dropWhile (lessN x.name), Go.Op.bytesLess x.name.toList y.name.toList = true := by
    cases hdw : o.dropWhile (lessN x.name) with
    | nil => simp
    | cons z t =>
      have hz := dw_head _ o z t hdw
      have hzm : z ∈ o := by rw [← e, hdw]; simp
      have hzn := hn z hzm
      have hxz : Go.Op.bytesLess x.name.toList z.name.toList = true := bl_tri hz (by simpa [sameN] using hzn)
      rw [hdw] at p2
      intro y hy
      rcases List.mem_cons.1 hy with rfl | hy
      · exact hxz
      · exact bl_trans hxz ((List.pairwise_cons.1 p2).1 y hy)
  refine List.pairwise_append.2 ⟨p1, List.pairwise_cons.2 ⟨hd, p2⟩, fun a ha b hb => ?_⟩
  have hax : Go.Op.bytesLess a.name.toList x.name.toList = true := tw_all (lessN x.name) o a ha
  rcases List.mem_cons.1 hb with rfl | hb
  · exact hax
  · exact p3 a ha b hb
theorem putD_P {x : Doc} {l : List Doc} (h : docsP l) (hx : nameOk x.name = true ∧ x.text.size ≤ 400) : docsP (putD l x) := by
  unfold putD
  split
  · exact h
  · exact insD_P (noD_P h _) hx fun y hy => noD_not hy
def textN (n : ByteArray) : List Doc → ByteArray
  | [] => ⟨#[]⟩
  | x :: l => if sameN n x then x.text else textN n l
theorem textN_skip {n : ByteArray} : ∀ (pre l : List Doc), (∀ y ∈ pre, sameN n y = false) → textN n (pre ++ l) = textN n l
  | [], _, _ => rfl
  | x :: pre, l, h => by
    rw [List.cons_append, textN, h x (by simp)]
    simpa using textN_skip pre l fun y hy => h y (List.mem_cons_of_mem _ hy)
theorem textN_at {n : ByteArray} {l : List Doc} : (0 ≤ docIx n l → textAt l (docIx n l) = textN n l) ∧ (¬ 0 ≤ docIx n l → textN n l = ⟨#[]⟩ ∧ ∀ y ∈ l, sameN n y = false) := by
  rcases idx_cases (sameN n) l 0 with ⟨pre, x, rest, e, h2, h1, e2⟩ | ⟨h1, e2⟩
  · have e2 : docIx n l = (pre.length : Int) := by unfold docIx; rw [e2]; omega
    refine ⟨fun _ => ?_, fun h => by omega⟩
    rw [e2, e, textN_skip pre _ h1, textN, h2]
    simp [textAt]
  · have e2 : docIx n l = -1 := e2
    refine ⟨fun h => by omega, fun _ => ⟨?_, h1⟩⟩
    have := textN_skip l [] h1
    rwa [List.append_nil] at this
theorem docIx_has {n : ByteArray} {l : List Doc} {y : Doc} (hy : y ∈ l) (h : sameN n y = true) : 0 ≤ docIx n l := by
  by_cases k : 0 ≤ docIx n l
  · exact k
  · have := (textN_at.2 k).2 y hy
    rw [h] at this; cases this
theorem load_text (d : Disk) : loadF d = textN lockB (docsNowF d) := by
  unfold loadF
  split
  · rename_i h; exact textN_at.1 h
  · rename_i h; exact (textN_at.2 h).1.symm
theorem textN_mid {n : ByteArray} {x : Doc} (h : sameN n x = false) : ∀ a b : List Doc, textN n (a ++ x :: b) = textN n (a ++ b)
  | [], b => by simp [textN, h]
  | y :: a, b => by simp only [List.cons_append, textN, textN_mid h a b]
theorem textN_ins {n : ByteArray} {x : Doc} (o : List Doc) (h : sameN n x = false) : textN n (insD x o) = textN n o := by
  rw [insD, textN_mid h, List.take_append_drop]
theorem same_self (x : Doc) : sameN x.name x = true := by simp [sameN]
theorem textN_ins_same {x : Doc} {o : List Doc} (h : ∀ y ∈ o, sameN x.name y = false) : textN x.name (insD x o) = x.text := by
  rw [insD, textN_skip _ _ fun y hy => h y (List.mem_of_mem_take hy), textN, same_self]; rfl
theorem textN_noD {m n : ByteArray} (h : m.toList ≠ n.toList) : ∀ l : List Doc, textN m (noD n l) = textN m l
  | [] => rfl
  | x :: l => by
    have ih := textN_noD h l
    unfold noD at ih ⊢
    rw [List.filter_cons]
    by_cases k : sameN n x = true
    · have k2 : sameN m x = false := by
        simp only [sameN, beq_iff_eq] at k
        simp only [sameN, beq_eq_false_iff_ne, ne_eq, k]
        exact fun e => h e.symm
      simp [k, textN, k2, ih]
    · have k : sameN n x = false := by simpa using k
      simp [k, textN, ih]
theorem not_same {m : ByteArray} {x : Doc} (h : m.toList ≠ x.name.toList) : sameN m x = false := by
  simp only [sameN, beq_eq_false_iff_ne, ne_eq]
  exact fun e => h e.symm
theorem textN_put {m : ByteArray} {l : List Doc} {x : Doc} (h : m.toList ≠ x.name.toList) : textN m (putD l x) = textN m l := by
  unfold putD
  split
  · rfl
  · rw [textN_ins _ (not_same h), textN_noD h]
theorem textN_put_same {l : List Doc} {x : Doc} (h : (noD x.name l).length < 6) : textN x.name (putD l x) = x.text := by
  unfold putD
  rw [if_neg (by omega)]
  exact textN_ins_same fun y hy => noD_not hy
theorem mem_ins_of {x y : Doc} {o : List Doc} (h : y ∈ o) : y ∈ insD x o := by
  rw [← List.take_append_drop (o.takeWhile (lessN x.name)).length o] at h
  unfold insD
  rcases List.mem_append.1 h with h | h
  · exact List.mem_append.2 (.inl h)
  · exact List.mem_append.2 (.inr (List.mem_cons_of_mem _ h))
theorem self_ins {x : Doc} {o : List Doc} : x ∈ insD x o := by unfold insD; simp
theorem mem_noD_of {n : ByteArray} {y : Doc} {l : List Doc} (h : y ∈ l) (hn : sameN n y = false) : y ∈ noD n l := List.mem_filter.2 ⟨h, by simp [hn]⟩
theorem mem_put_of {x y : Doc} {l : List Doc} (h : y ∈ l) (hn : sameN x.name y = false) : y ∈ putD l x := by
  unfold putD
  split
  · exact h
  · exact mem_ins_of (mem_noD_of h hn)
theorem noD_ins_len {x : Doc} {o : List Doc} : (noD x.name (insD x o)).length ≤ o.length := by
  unfold noD insD
  rw [List.filter_append, List.filter_cons]
  simp only [same_self, Bool.not_true, Bool.false_eq_true, if_false]
  rw [← List.filter_append, List.take_append_drop]
  exact List.length_filter_le _ _
theorem doD_P {l : List Doc} {o : Op} (h : docsP l) (ho : opOkB o = true) : docsP (doD l o) := by
  unfold opOkB at ho
  unfold doD
  split
  · rename_i k1
    rw [if_pos k1] at ho
    simp only [Bool.and_eq_true, decide_eq_true_eq] at ho
    exact putD_P h ⟨ho.1, by simp only; omega⟩
  · rename_i k1
    rw [if_neg k1] at ho
    split
    · rename_i k2
      rw [if_pos k2.1] at ho
      simp only [Bool.and_eq_true] at ho
      obtain ⟨pre, x, rest, e, _, ht⟩ := docIx_at k2.2
      have hx := h.1 x (by rw [e]; simp)
      exact putD_P (noD_P h _) ⟨ho.1.2, by simp only; rw [ht]; exact hx.2⟩
    · exact h
theorem docsF_P (want : Nat → Bool) : ∀ (os : List Op) (i : Nat) (l : List Doc), (∀ o ∈ os, opOkB o = true) → docsP l → docsP (docsF want os i l)
  | [], _, _, _, h => h
  | o :: os, i, l, ho, h => by
    rw [docsF]
    exact docsF_P want os (i + 1) _ (fun o' h' => ho o' (List.mem_cons_of_mem _ h')) (by split; exact doD_P h (ho o (by simp)); exact h)
theorem diskOk_iff (d : Disk) : diskOk d = true ↔ docsP d.sure ∧ (∀ o ∈ d.pend, opOkB o = true) ∧ d.sure.length ≤ 6 ∧ d.pend.length ≤ 10 := by
  unfold diskOk
  simp only [Bool.and_eq_true, decide_eq_true_eq, List.all_eq_true, docsL_iff]
  constructor
  · rintro ⟨⟨⟨⟨h1, _⟩, h2⟩, h3⟩, h4⟩
    exact ⟨h1, h2, by omega, by omega⟩
  · rintro ⟨h1, h2, h3, h4⟩
    exact ⟨⟨⟨⟨h1, fun q hq => by cases hq⟩, h2⟩, by omega⟩, by omega⟩
theorem settled_ok {d : Disk} (h : diskOk d = true) (want : Nat → Bool) : diskOk ⟨docsF want d.pend 0 d.sure, []⟩ = true := by
  obtain ⟨h1, h2, h3, h4⟩ := (diskOk_iff d).1 h
  refine (diskOk_iff _).2 ⟨docsF_P want _ _ _ h2 h1, by simp, ?_, by simp⟩
  have := docsF_len want d.pend 0 d.sure
  simp only
  omega
theorem settleF_okB {d : Disk} (h : diskOk d = true) : diskOk (settleF d) = true ∧ (settleF d).pend = [] := by
  unfold settleF
  rw [if_pos h]
  exact ⟨settled_ok h _, rfl⟩
theorem opOkB2 (a b : ByteArray) : opOkB ⟨2, a, b⟩ = (nameOk a && nameOk b && !(a.data.toList == b.data.toList)) := by
  unfold opOkB
  rw [if_neg (by simp), if_pos rfl, ByteArray.toList_eq, ByteArray.toList_eq]
theorem nl_ne : newB.toList ≠ lockB.toList := by rw [ByteArray.toList_eq, ByteArray.toList_eq]; decide
/-- what stands behind a text that is saved: as it was, or the new text is kept aside, or all is done -/
theorem saved {l : List Doc} (hl : l.length ≤ 6) (t : ByteArray) :
    let l1 := putD l ⟨newB, t⟩
    let l2 := doD l1 ⟨2, newB, lockB⟩
    textN lockB l1 = textN lockB l ∧ (textN lockB l2 = t ∨ (l2 = l ∧ 5 ≤ l.length)) ∧ (∀ x ∈ l, sameN newB x = false → x ∈ l1) ∧ ∀ x ∈ l, sameN newB x = false → sameN lockB x = false → x ∈ l2 := by
  intro l1 l2
  have h1 : ∀ x ∈ l, sameN newB x = false → x ∈ l1 := fun x hx hn => mem_put_of hx hn
  refine ⟨textN_put (x := ⟨newB, t⟩) (fun e => nl_ne e.symm), ?_, h1, ?_⟩
  · by_cases hr : (noD newB l).length < 6
    · left
      have e1 : l1 = insD ⟨newB, t⟩ (noD newB l) := by
        show putD l ⟨newB, t⟩ = _
        unfold putD
        rw [if_neg (by simp only; omega)]
      have hix : 0 ≤ docIx newB l1 := docIx_has (y := ⟨newB, t⟩) (by rw [e1]; exact self_ins) (same_self ⟨newB, t⟩)
      have e2 : l2 = putD (noD newB l1) ⟨lockB, textAt l1 (docIx newB l1)⟩ := by
        show doD l1 ⟨2, newB, lockB⟩ = _
        unfold doD
        rw [if_neg (by simp), if_pos ⟨rfl, hix⟩]
      have e3 : textAt l1 (docIx newB l1) = t := by
        rw [textN_at.1 hix]
        exact textN_put_same (x := ⟨newB, t⟩) hr
      have e4 : (noD newB l1).length < 6 := by
        rw [e1]
        exact Nat.lt_of_le_of_lt (noD_ins_len (x := ⟨newB, t⟩)) hr
      rw [e2, e3]
      exact textN_put_same (x := ⟨lockB, t⟩) (Nat.lt_of_le_of_lt (noD_len _ _) e4)
    · right
      have e1 : l1 = l := by
        show putD l ⟨newB, t⟩ = _
        unfold putD
        rw [if_pos (by simp only; omega)]
      have hll := noD_len newB l
      have hno : ∀ y ∈ l, sameN newB y = false := by
        have hf : noD newB l = l := List.filter_sublist.eq_of_length (by unfold noD at hr hll; omega)
        intro y hy
        rw [← hf] at hy
        exact noD_not hy
      refine ⟨?_, by omega⟩
      show doD l1 ⟨2, newB, lockB⟩ = l
      rw [e1]
      unfold doD
      rw [if_neg (by simp), if_neg]
      rintro ⟨_, hix⟩
      obtain ⟨pre, x, rest, e, h2, _⟩ := docIx_at hix
      rcases idx_cases (sameN newB) l 0 with ⟨pre, x, rest, e, h3, _, _⟩ | ⟨_, e2⟩
      · have := hno x (by rw [e]; simp)
        rw [h3] at this; cases this
      · have e2 : docIx newB l = -1 := e2
        simp only at hix
        omega
  · intro x hx hn hk
    show x ∈ doD l1 ⟨2, newB, lockB⟩
    unfold doD
    rw [if_neg (by simp)]
    split
    · exact mem_put_of (mem_noD_of (h1 x hx hn) hn) hk
    · exact h1 x hx hn

/-- the law: a text that is saved when all falls is there whole, or the old one is -/
theorem whole_is {d : Disk} (hd : diskOk d = true) (hp : d.pend = []) {t : ByteArray} (ht : t.size ≤ 400) {s : Int} (h0 : 0 ≤ s) (h4 : s ≤ 4) (keep : Int) :
    ∃ y, y = crashF (saveF d t s) keep ∧ diskOk y = true ∧ y.pend = [] ∧ (∀ x ∈ d.sure, sameN newB x = false → sameN lockB x = false → x ∈ docsNowF y) ∧ (loadF y = loadF d ∨ (loadF y = t ∧ 3 ≤ s)) ∧ (s < 4 ∨ 5 ≤ d.sure.length ∨ loadF y = t) := by
  obtain ⟨l, ps⟩ := d
  simp only at hp
  subst hp
  obtain ⟨hl1, _, hl2, _⟩ := (diskOk_iff _).1 hd
  simp only at hl1 hl2
  obtain ⟨a1, a2, a3, a4⟩ := saved hl2 t
  have hload : ∀ m : List Doc, loadF ⟨m, []⟩ = textN lockB m := fun m => load_text ⟨m, []⟩
  have hS : saveF ⟨l, []⟩ t s = saveGo t s.toNat 0 ⟨l, []⟩ := by
    unfold saveF stepsN
    rw [if_pos ⟨hd, by simp, ht⟩, if_pos ⟨h0, h4⟩]
  rw [hS]
  have hw : opOkB ⟨1, newB, t⟩ = true := by
    unfold opOkB
    rw [if_pos rfl]
    simp only [Bool.and_eq_true, decide_eq_true_eq]
    exact ⟨by decide, by omega⟩
  have hr : opOkB ⟨2, newB, lockB⟩ = true := by rw [opOkB2]; decide
  have k1 : diskOk ⟨l, [⟨1, newB, t⟩]⟩ = true := (diskOk_iff _).2 ⟨hl1, by simpa using hw, hl2, by simp⟩
  have k2 : diskOk ⟨putD l ⟨newB, t⟩, []⟩ = true := settled_ok k1 fun _ => true
  obtain ⟨p1, _, p2, _⟩ := (diskOk_iff _).1 k2
  have k3 : diskOk ⟨putD l ⟨newB, t⟩, [⟨2, newB, lockB⟩]⟩ = true := (diskOk_iff _).2 ⟨p1, by simpa using hr, p2, by simp⟩
  have k4 : diskOk ⟨doD (putD l ⟨newB, t⟩) ⟨2, newB, lockB⟩, []⟩ = true := settled_ok k3 fun _ => true
  have s1 : saveGo t 1 0 ⟨l, []⟩ = ⟨l, [⟨1, newB, t⟩]⟩ := rfl
  have s2 : saveGo t 2 0 ⟨l, []⟩ = ⟨putD l ⟨newB, t⟩, []⟩ := by
    show settleF ⟨l, [⟨1, newB, t⟩]⟩ = _
    unfold settleF
    rw [if_pos k1]; rfl
  have s3 : saveGo t 3 0 ⟨l, []⟩ = ⟨putD l ⟨newB, t⟩, [⟨2, newB, lockB⟩]⟩ := by
    show stepS t 2 (settleF ⟨l, [⟨1, newB, t⟩]⟩) = _
    unfold settleF
    rw [if_pos k1]; rfl
  have s4 : saveGo t 4 0 ⟨l, []⟩ = ⟨doD (putD l ⟨newB, t⟩) ⟨2, newB, lockB⟩, []⟩ := by
    show settleF (saveGo t 3 0 ⟨l, []⟩) = _
    rw [s3]
    unfold settleF
    rw [if_pos k3]; rfl
  have cr0 : ∀ m : List Doc, diskOk ⟨m, []⟩ = true → crashF ⟨m, []⟩ keep = ⟨m, []⟩ := fun m h => by unfold crashF; rw [if_pos h]; rfl
  have cr1 : ∀ (m : List Doc) (o : Op), diskOk ⟨m, [o]⟩ = true → crashF ⟨m, [o]⟩ keep = ⟨if bitK keep 0 then doD m o else m, []⟩ := fun m o h => by unfold crashF; rw [if_pos h]; rfl
  have hs : s = 0 ∨ s = 1 ∨ s = 2 ∨ s = 3 ∨ s = 4 := by omega
  refine ⟨_, rfl, ?_⟩
  rcases hs with rfl | rfl | rfl | rfl | rfl
  · have e : crashF (saveGo t (0 : Int).toNat 0 ⟨l, []⟩) keep = ⟨l, []⟩ := cr0 l hd
    rw [e]
    exact ⟨hd, rfl, fun x hx _ _ => hx, .inl rfl, .inl (by omega)⟩
  · have e : crashF (saveGo t (1 : Int).toNat 0 ⟨l, []⟩) keep = ⟨if bitK keep 0 then doD l ⟨1, newB, t⟩ else l, []⟩ := by
      show crashF (saveGo t 1 0 ⟨l, []⟩) keep = _
      rw [s1, cr1 _ _ k1]
    rw [e]
    cases bitK keep 0
    · exact ⟨hd, rfl, fun x hx _ _ => hx, .inl rfl, .inl (by omega)⟩
    · exact ⟨k2, rfl, fun x hx hn _ => a3 x hx hn, .inl ((hload _).trans (a1.trans (hload _).symm)), .inl (by omega)⟩
  · have e : crashF (saveGo t (2 : Int).toNat 0 ⟨l, []⟩) keep = ⟨putD l ⟨newB, t⟩, []⟩ := by
      show crashF (saveGo t 2 0 ⟨l, []⟩) keep = _
      rw [s2, cr0 _ k2]
    rw [e]
    exact ⟨k2, rfl, fun x hx hn _ => a3 x hx hn, .inl ((hload _).trans (a1.trans (hload _).symm)), .inl (by omega)⟩
  · have e : crashF (saveGo t (3 : Int).toNat 0 ⟨l, []⟩) keep = ⟨if bitK keep 0 then doD (putD l ⟨newB, t⟩) ⟨2, newB, lockB⟩ else putD l ⟨newB, t⟩, []⟩ := by
      show crashF (saveGo t 3 0 ⟨l, []⟩) keep = _
      rw [s3, cr1 _ _ k3]
    rw [e]
    cases bitK keep 0
    · exact ⟨k2, rfl, fun x hx hn _ => a3 x hx hn, .inl ((hload _).trans (a1.trans (hload _).symm)), .inl (by omega)⟩
    · refine ⟨k4, rfl, fun x hx hn hk => a4 x hx hn hk, ?_, .inl (by omega)⟩
      rcases a2 with a2 | ⟨a2, _⟩
      · exact .inr ⟨(hload _).trans a2, by omega⟩
      · exact .inl ((hload _).trans (by simp only [if_true]; rw [a2, hload]))
  · have e : crashF (saveGo t (4 : Int).toNat 0 ⟨l, []⟩) keep = ⟨doD (putD l ⟨newB, t⟩) ⟨2, newB, lockB⟩, []⟩ := by
      show crashF (saveGo t 4 0 ⟨l, []⟩) keep = _
      rw [s4, cr0 _ k4]
    rw [e]
    refine ⟨k4, rfl, fun x hx hn hk => a4 x hx hn hk, ?_, ?_⟩
    · rcases a2 with a2 | ⟨a2, _⟩
      · exact .inr ⟨(hload _).trans a2, by omega⟩
      · exact .inl ((hload _).trans (by rw [a2, hload]))
    · rcases a2 with a2 | ⟨_, a2⟩
      · exact .inr (.inr ((hload _).trans a2))
      · exact .inr (.inl a2)
end Go.Proofs.YtadoadomogceiaaDoor.Am
