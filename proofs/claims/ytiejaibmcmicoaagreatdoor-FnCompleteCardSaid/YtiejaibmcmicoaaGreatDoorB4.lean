/- The small machine and the contracts of the functions, part 4 (Needs, DrawReg, L8Draw, L9Picks, At, SameK, NewestLaw, LawNewest); no condition. -/
import Derived.Test.YtiejaibmcmicoaaGreatDoorProg
import Derived.Test.YtiejaibmcmicoaaGreatDoorAmH
import Derived.Test.YtiejaibmcmicoaaGreatDoorB1
import Derived.KernelRfl
import Derived.Test.YtiejaibmcmicoaaGreatDoorB3
import Derived.Test.YtiejaibmcmicoaaGreatDoorAmZ
import Derived.Test.YtiejaibmcmicoaaGreatDoorAmP
namespace Go.Proofs.YtiejaibmcmicoaaGreatDoor.Am
open Go Go.Proofs
set_option linter.unusedSimpArgs false
set_option linter.unusedVariables false
attribute [local congr] T_congr callK_congr callWK_congr
attribute [local simp] run_nil run_op0 run_opg run_seq run_cond run_block run_ret run_skip run_skip_after run_skip_blk run_exit run_exit_after run_exit_blk run_loop run_any runS_nil runS_op0 runS_opg runW_nil runW_op0 runW_opg exec_q exec_w exec_c exec_n execW_q execW_w execW_c restW_app hideH_app merge_app wblk rest_app restS_app execS_q execS_c aval dOk upd_app ev_t ev_c setO_some setO_none put_mk pinsOf isIo hasIo sbin endR fin resL one outL out1 clo1 cloL coe coeL shut shut.shutL wantA weff cellsOf fillA deref natOf ρ0_app h0_app plain plain.plainL keep_app keepH_app andThen_normal andThen_ret andThen_exit pop_nil pop_after pop_after_ret pop_after_exit pop_blk pop_blk_ret pop_blk_exit nilA srcOf srcCells keepR_app keepHR_app renA rb toldρ toldH toldT toldB menQ_sc menQ_sl menQ_ref menQ_em menQ_un menQ_roT mens_cons mens_nil toldF merge_nil hideH_nil str_n rows_nil rowsS_len rowsC_len rowsC_fr rowsS_fr Rd_mk Rl_mk menB exQ_exit exQ_ret wrap_i64 bs_size bs_list bs_toList bs_get bs_extract mk_bs bs_eta List.getElem?_cons_zero List.getElem?_cons_succ List.length_cons oLt oNlt oLe oNle nLt nNlt nLe nNle iniρ andThen_normal over
set_option maxRecDepth 100000
def libL : List ByteArray := [(bs [108, 105, 98]), (bs [108, 111, 103]), (bs [110, 101, 116]), (bs [122, 105, 112])]
def rngL : List ByteArray := [(bs [42]), (bs [94, 49, 46, 48, 46, 48]), (bs [126, 49, 46, 49]), (bs [62, 61, 49]), (bs [60, 50]), (bs [49, 46, 120]), (bs [48, 46, 120, 32, 124, 124, 32, 50, 46, 120]), (bs [94, 48, 46, 49, 46, 48])]
def needF (c : Cur) : Need × Cur := (⟨pickS libL c 4, pickS rngL (belowC c 4) 8⟩, belowC (belowC c 4) 8)
theorem needF_ok {c : Cur} (h : c.ok) : (needF c).2.ok := belowC_ok (belowC_ok h 4) 8
theorem R59 (c : Cur) (hc : c.ok) : Ret Tryz.prog 59 [.bx c.cs] (.agg (Need.ty.oc (needF c).1)) [.bx (needF c).2.cs] := by
  have r1 : Ret Tryz.prog 33 [.bx c.cs, .own (rows Ty.str.oc libL) 4 1] (.sc (.string (pickS libL c 4))) [.bx (belowC c 4).cs, .un] := R33 c hc libL (by decide)
  have r2 : Ret Tryz.prog 33 [.bx (belowC c 4).cs, .own (rows Ty.str.oc rngL) 8 1] (.sc (.string (needF c).1.range)) [.bx (needF c).2.cs, .un] := R33 _ (belowC_ok hc 4) rngL (by decide)
  refine Ret.go Tryz.func59 ?_
  simp (disch := omega) [over]
  refine cL 4 r1 ?_
  simp (disch := omega) [over]
  refine cL 7 r2 ?_
  simp (disch := omega) [over, ex1, Cur.frl, ioPos1, Need.oce]
  rfl
def ltN (n x : Need) : Bool := Op.bytesLess x.name.toList n.name.toList
def eqN (n x : Need) : Bool := x.name.toList == n.name.toList
def spotN (n : Need) (l : List Need) : Nat := (l.takeWhile (ltN n)).length
def putN (n : Need) (l : List Need) : List Need := if (l.drop (spotN n l)).head?.any (eqN n) = true then l else l.take (spotN n l) ++ n :: l.drop (spotN n l)
def stepN (c : Cur) (l : List Need) : List Need × Cur := (putN (needF c).1 l, (needF c).2)
def needsF (c : Cur) : List Need × Cur := iterN stepN (nat4 c 3) (belowC c 3) []
theorem spotN_le (n : Need) (l : List Need) : spotN n l ≤ l.length := (List.takeWhile_sublist _).length_le
theorem putN_len (n : Need) (l : List Need) : (putN n l).length ≤ l.length + 1 := by
  unfold putN
  have := spotN_le n l
  split
  · omega
  · simp; omega
theorem spot_lt {n : Need} : ∀ {l : List Need} {i : Nat}, i < spotN n l → ∃ x, l.drop i = x :: l.drop (i + 1) ∧ ltN n x = true
  | [], i, h => by simp [spotN] at h
  | x :: l, i, h => by
    unfold spotN at h
    rw [List.takeWhile_cons] at h
    cases hx : ltN n x
    · simp [hx] at h
    · cases i with
      | zero => exact ⟨x, rfl, hx⟩
      | succ i =>
        simp [hx] at h
        exact spot_lt (l := l) h
theorem spot_at {n : Need} : ∀ (l : List Need), spotN n l = l.length ∨ ∃ x, l.drop (spotN n l) = x :: l.drop (spotN n l + 1) ∧ ltN n x = false ∧ spotN n l < l.length
  | [] => .inl rfl
  | x :: l => by
    have e : spotN n (x :: l) = if ltN n x = true then spotN n l + 1 else 0 := by
      unfold spotN
      rw [List.takeWhile_cons]
      split <;> rfl
    rw [e]
    cases hx : ltN n x
    · exact .inr ⟨x, rfl, hx, by simp⟩
    · rw [if_pos rfl]
      rcases spot_at (n := n) l with h | ⟨y, h1, h2, h3⟩
      · exact .inl (by simp [h])
      · exact .inr ⟨y, by simpa using h1, h2, by simpa using h3⟩
set_option maxHeartbeats 2000000 in
theorem R58 (c : Cur) (hc : c.ok) : Ret Tryz.prog 58 [.bx c.cs] (.own (rows Need.ty.oc (needsF c).1) (needsF c).1.length 2) [.bx (needsF c).2.cs] := by
  obtain ⟨r1, r2⟩ := nat4_eq c (n := 3) (by omega)
  refine Ret.go Tryz.func58 ?_
  simp (disch := omega) []
  refine cB 0 (R55 c hc 3) ?_
  simp (disch := omega) [r1]
  unfold needsF
  generalize nat4 c 3 = m at r2 ⊢
  have hc1 := belowC_ok hc 3
  generalize belowC c 3 = c1 at hc1 ⊢
  generalize hT : iterN stepN m c1 [] = tg
  refine T.forI (fun i : Nat × Cur × List Need => i.1) (fun i => i.2.1.ok ∧ i.2.2.length + i.1 ≤ m ∧ iterN stepN i.1 i.2.1 i.2.2 = tg) (fun i => [(0, .ref 100000 0), (3, .sl 8 0 i.2.2.length 2 false), (4, .sc (.int .i64 i.1))]) (fun i => [(100000, i.2.1.cs), (8, rows Need.ty.oc i.2.2)]) (m, c1, []) ⟨⟨hc1, by simp, hT⟩, Tl.same rfl (by simp) (by simp [mens_idf (Cur.frl _)])⟩ ?_
  rintro ⟨j, d, out⟩ ⟨hd, hl, hE⟩
  simp only at hd hl hE ⊢
  cases j with
  | zero =>
    have e1 : tg = (out, d) := hE.symm
    subst e1
    simp (disch := omega) []
    refine T.on 400 ?_
    simp (disch := omega) [ex1, Cur.frl, ioPos1, Need.ocl, Need.frL]
  | succ j =>
    have rN := R59 d hd
    have hd2 := needF_ok hd
    have hE2 : iterN stepN j (needF d).2 (putN (needF d).1 out) = tg := hE
    have hpl := putN_len (needF d).1 out
    rw [Need.oce] at rN
    generalize (needF d).2 = d2 at *
    generalize (needF d).1 = x at *
    have hfr := Need.frL out
    simp (disch := omega) []
    refine cB 0 rN ?_
    simp (disch := omega) [over]
    refine T.cutL [(0, .ref 100000 0), (3, .sl 8 0 out.length 2 false), (4, .sc (.int .i64 (j + 1 : Nat))), (5, .ref 5 0), (6, .sc (.int .i64 (spotN x out)))] [(100000, d2.cs), (8, rows Need.ty.oc out), (5, [.sc (.string x.name), .sc (.string x.range)])] ?_ ?_
    · refine T.forI (fun i : Nat => out.length - i) (fun i => i ≤ spotN x out) (fun i => [(0, .ref 100000 0), (3, .sl 8 0 out.length 2 false), (4, .sc (.int .i64 (j + 1 : Nat))), (5, .ref 5 0), (6, .sc (.int .i64 i))]) (fun _ => [(100000, d2.cs), (8, rows Need.ty.oc out), (5, [.sc (.string x.name), .sc (.string x.range)])]) 0 ⟨Nat.zero_le _, Tl.same rfl (by simp) (by simp [mens_idf (Cur.frl _), mens_idf hfr])⟩ ?_
      intro i hi
      have hsl := spotN_le x out
      have hdr : List.drop (i * 2) (rows Need.ty.oc out) = rows Need.ty.oc (out.drop i) := Ty.dropO Need.ty out i
      by_cases h : i = spotN x out
      · subst h
        rcases spot_at (n := x) out with h1 | ⟨y, h1, h2, h3⟩
        · simp (disch := omega) [h1]
          refine T.text 400 mixed (by kernel_rfl) (by kernel_rfl) ?_
          simp (disch := omega) [h1]
          exact Tl.same rfl (by simp [h1]) (by simp [mens_idf (Cur.frl _), mens_idf hfr])
        · rw [h1, rows_cons, Need.oce] at hdr
          have h2 : Op.bytesLess y.name.toList x.name.toList = false := h2
          simp (disch := omega) []
          refine T.text 400 mixed (by kernel_rfl) (by kernel_rfl) ?_
          simp (disch := omega) [hdr, h2]
          exact Tl.same rfl (by simp) (by simp [mens_idf (Cur.frl _), mens_idf hfr])
      · obtain ⟨y, h1, h2⟩ := spot_lt (show i < spotN x out by omega)
        rw [h1, rows_cons, Need.oce] at hdr
        have h2 : Op.bytesLess y.name.toList x.name.toList = true := h2
        simp (disch := omega) []
        refine T.text 400 mixed (by kernel_rfl) (by kernel_rfl) ?_
        simp (disch := omega) [hdr, h2]
        exact Ri_mk (i + 1) (by omega) (by omega) (Tl.same rfl (by simp) (by simp [mens_idf (Cur.frl _), mens_idf hfr]))
    · have hdr : List.drop (spotN x out * 2) (rows Need.ty.oc out) = rows Need.ty.oc (out.drop (spotN x out)) := Ty.dropO Need.ty out _
      have htk : List.take (spotN x out * 2) (rows Need.ty.oc out) = rows Need.ty.oc (out.take (spotN x out)) := Ty.takeO Need.ty out _
      have hdl : (rows Need.ty.oc (out.drop (spotN x out))).length = (out.length - spotN x out) * 2 := by rw [Need.ocl, List.length_drop]
      have htl : (rows Need.ty.oc (out.take (spotN x out))).length = spotN x out * 2 := by rw [Need.ocl, List.length_take, Nat.min_eq_left (spotN_le x out)]
      have hsl := spotN_le x out
      have hol := Need.ocl out
      unfold putN at hE2 hpl
      generalize spotN x out = k at *
      by_cases hq : (out.drop k).head?.any (eqN x) = true
      · rw [if_pos hq] at hE2 hpl
        obtain ⟨y, rest, hy, hy2⟩ : ∃ y rest, out.drop k = y :: rest ∧ y.name.toList = x.name.toList := by
          cases h : out.drop k with
          | nil => rw [h] at hq; simp at hq
          | cons y rest => exact ⟨y, rest, rfl, by rw [h] at hq; simpa [eqN] using hq⟩
        have hlt : k < out.length := by
          have := congrArg List.length hy
          simp at this; omega
        rw [hy, rows_cons, Need.oce] at hdr
        have hk2 : ¬ ((k : Int) = out.length) := by omega
        have hk3 : ¬ (k = out.length) := by omega
        simp (disch := omega) []
        refine T.text 400 mixed (by kernel_rfl) (by kernel_rfl) ?_
        simp (disch := omega) [hdr, hy2, hk2, hk3]
        exact Ri_mk (j, d2, out) (by simp) ⟨hd2, by simp; omega, hE2⟩ (Tl.same rfl (by simp) (by simp [mens_idf (Cur.frl _), mens_idf hfr]))
      · rw [if_neg hq] at hE2 hpl
        rw [List.length_append, List.length_cons, List.length_take, List.length_drop] at hpl
        have e1 : ((k : Int) = out.length ∧ out.drop k = []) ∨ (¬ ((k : Int) = out.length) ∧ k ≠ out.length ∧ ∃ y rest, out.drop k = y :: rest ∧ (y.name.toList == x.name.toList) = false) := by
          cases hy : out.drop k with
          | nil =>
            have := congrArg List.length hy
            simp at this
            exact .inl ⟨by omega, rfl⟩
          | cons y rest =>
            have := congrArg List.length hy
            simp at this
            rw [hy] at hq
            exact .inr ⟨by omega, by omega, y, rest, rfl, by simpa [eqN] using hq⟩
        simp (disch := omega) []
        refine T.cutN [(0, .ref 100000 0), (3, .sl 8 0 out.length 2 false), (4, .sc (.int .i64 (j + 1 : Nat))), (5, .ref 5 0), (6, .sc (.int .i64 k)), (46, .sc (.bool true))] [(100000, d2.cs), (8, rows Need.ty.oc out), (5, [.sc (.string x.name), .sc (.string x.range)])] ?_ ?_
        · refine T.text 400 mixed (by kernel_rfl) (by kernel_rfl) ?_
          rcases e1 with ⟨hk, hy⟩ | ⟨hk, hk2, y, rest, hy, hy2⟩
          · simp (disch := omega) [hk, nQ_normal]
            exact Tl.same rfl (by simp) (by simp [mens_idf (Cur.frl _), mens_idf hfr])
          · rw [hy, rows_cons, Need.oce] at hdr
            simp (disch := omega) [hk, hk2, hdr, hy2, nQ_normal]
            exact Tl.same rfl (by simp) (by simp [mens_idf (Cur.frl _), mens_idf hfr])
        · clear e1 hq
          have hp : ∀ l : List Need, plain.plainL (rows Need.ty.oc l) = true := Ty.plC Need.ty
          have ht1 : List.take ((out.length - k) * 2) (rows Need.ty.oc (out.drop k)) = rows Need.ty.oc (out.drop k) := List.take_of_length_le (by omega)
          simp (disch := omega) [over, hdr, ht1, hp]
          refine T.textE [(0, [52]), (4, [56, 52]), (6, [58]), (7, [59, 56]), (9, [61, 59])] ?_ mixed
          have e4 : min k out.length = k := Nat.min_eq_left hsl
          have e5 : (k + 1) * 2 = k * 2 + 2 := by omega
          simp (disch := omega) [over, htk, hp, htl, hdl, ht1, merge_nil, hideH_nil, Need.cse, e5]
          have hf2 := Need.frL (out.take k ++ x :: out.drop k)
          refine Ri_mk (j, d2, out.take k ++ x :: out.drop k) (by simp) ⟨hd2, by simp; omega, hE2⟩ (Tl.ren [(100000, 100000), (61, 8)] rfl ?_)
          rw [rows_append, rows_cons] at hf2
          simp [e4, hf2, rows_append, rows_cons, Need.oce, Cur.frl, idfree, idfree.idfreeL]
          exact ⟨by omega, hf2⟩
set_option maxRecDepth 100000
def verF (c : Cur) : Ver × Cur :=
  let c2 := belowC (belowC c 3) 2
  (⟨belowV c 3, belowV (belowC c 3) 2, 0, if belowV c2 8 == 0 then [(bs [114, 99])] else []⟩, belowC c2 8)
def entryF (c : Cur) : Entry × Cur :=
  let v := verF c
  let ns := needsF (belowC v.2 4)
  (⟨pickS libL v.2 4, v.1, ns.1⟩, ns.2)
def putE (e : Entry) : Bool → List Entry → List Entry
  | done, [] => if done = true then [] else [e]
  | done, x :: l => if (!(done || atE e.name e.v x) && lessE e x) = true then e :: x :: putE e true l else x :: putE e (done || atE e.name e.v x) l
def stepR (c : Cur) (l : List Entry) : List Entry × Cur := (putE (entryF c).1 false l, (entryF c).2)
def regF (c : Cur) : List Entry × Cur := iterN stepR (nat4 c 10) (belowC c 10) []
theorem verF_ok {c : Cur} (h : c.ok) : (verF c).2.ok := belowC_ok (belowC_ok (belowC_ok h 3) 2) 8
theorem needsR_ok {c : Cur} (h : c.ok) : (needsF c).2.ok := (iterN_ok (f := stepN) (fun _ => True) (fun c l h _ => ⟨needF_ok h, trivial⟩) _ _ _ (belowC_ok h 3) trivial).1
theorem entryF_ok {c : Cur} (h : c.ok) : (entryF c).2.ok := needsR_ok (belowC_ok (verF_ok h) 4)
theorem putE_true (e : Entry) : ∀ l : List Entry, putE e true l = l
  | [] => rfl
  | x :: l => by
    rw [putE, if_neg (by simp), Bool.true_or, putE_true e l]
theorem putE_asc {e : Entry} : ∀ {l : List Entry}, AscE l → AscE (putE e false l) ∧ ∀ y ∈ putE e false l, y = e ∨ y ∈ l
  | [], _ => ⟨by rw [putE]; exact List.pairwise_singleton .., fun y hy => by rw [putE] at hy; exact .inl (by simpa using hy)⟩
  | x :: l, h => by
    obtain ⟨h1, h2⟩ := List.pairwise_cons.1 h
    obtain ⟨k1, k2⟩ := putE_asc (e := e) h2
    rw [putE, Bool.false_or]
    cases ha : atE e.name e.v x
    · cases hl : lessE e x
      · rw [if_neg (by simp)]
        have hxe : lessE x e = true := by
          cases hx : lessE x e
          · obtain ⟨a, b⟩ := lessE_tot hx hl
            rw [atE_iff.2 ⟨a, b⟩] at ha; cases ha
          · rfl
        refine ⟨List.pairwise_cons.2 ⟨fun y hy => ?_, k1⟩, fun y hy => ?_⟩
        · rcases k2 y hy with rfl | hy
          · exact hxe
          · exact h1 y hy
        · rcases List.mem_cons.1 hy with rfl | hy
          · exact .inr (by simp)
          · exact (k2 y hy).imp id fun h => List.mem_cons_of_mem _ h
      · rw [if_pos (by simp), putE_true]
        refine ⟨List.pairwise_cons.2 ⟨fun y hy => ?_, h⟩, fun y hy => ?_⟩
        · rcases List.mem_cons.1 hy with rfl | hy
          · exact hl
          · exact lessE_trans hl (h1 y hy)
        · rcases List.mem_cons.1 hy with rfl | hy
          · exact .inl rfl
          · exact .inr hy
    · rw [if_neg (by simp), putE_true]
      exact ⟨h, fun y hy => .inr hy⟩
theorem putE_len {e : Entry} : ∀ {l : List Entry} {d : Bool}, (putE e d l).length ≤ l.length + 1
  | [], d => by rw [putE]; split <;> simp
  | x :: l, d => by
    rw [putE]
    split
    · rw [putE_true]; simp
    · have := putE_len (e := e) (l := l) (d := d || atE e.name e.v x)
      simp only [List.length_cons]; omega
def AscN (l : List Need) : Prop := l.Pairwise fun a b => bL a.name b.name = true
theorem putN_asc {n : Need} {l : List Need} (h : AscN l) : AscN (putN n l) ∧ ∀ y ∈ putN n l, y = n ∨ y ∈ l := by
  unfold putN
  split
  · exact ⟨h, fun y hy => .inr hy⟩
  · rename_i hq
    refine ⟨?_, fun y hy => ?_⟩
    · have ht : ∀ y ∈ l.take (spotN n l), bL y.name n.name = true := fun y hy => by
        obtain ⟨i, hi, rfl⟩ := List.mem_iff_getElem.1 hy
        rw [List.length_take] at hi
        obtain ⟨x, h1, h2⟩ := spot_lt (n := n) (l := l) (i := i) (by omega)
        have : (l.take (spotN n l))[i]'(by rw [List.length_take]; omega) = x := by
          rw [List.getElem_take]
          have h3 := congrArg List.head? h1
          rw [List.head?_drop, List.head?_cons, List.getElem?_eq_getElem (by omega)] at h3
          exact Option.some.inj h3
        rw [this]
        exact h2
      have hs := List.take_append_drop (spotN n l) l
      have hp : AscN (l.take (spotN n l) ++ l.drop (spotN n l)) := by rw [hs]; exact h
      obtain ⟨p1, p2, p3⟩ := List.pairwise_append.1 hp
      have hd : ∀ y ∈ l.drop (spotN n l), bL n.name y.name = true := by
        rcases spot_at (n := n) l with h1 | ⟨x, h1, h2, h3⟩
        · intro y hy; rw [h1, List.drop_length] at hy; cases hy
        · rw [h1] at p2 hq ⊢
          obtain ⟨q1, q2⟩ := List.pairwise_cons.1 p2
          have hnx : bL n.name x.name = true := by
            cases hb : bL n.name x.name
            · have := bL_tot h2 hb
              exact absurd (by simp [eqN, this]) hq
            · rfl
          intro y hy
          rcases List.mem_cons.1 hy with rfl | hy
          · exact hnx
          · exact bL_trans hnx (q1 y hy)
      exact List.pairwise_append.2 ⟨p1, List.pairwise_cons.2 ⟨hd, p2⟩, fun a ha b hb => by
        rcases List.mem_cons.1 hb with rfl | hb
        · exact ht a ha
        · exact p3 a ha b hb⟩
    · rcases List.mem_append.1 hy with hy | hy
      · exact .inr (List.mem_of_mem_take hy)
      · rcases List.mem_cons.1 hy with rfl | hy
        · exact .inl rfl
        · exact .inr (List.mem_of_mem_drop hy)
theorem asc_chainN {l : List Need} (hb : ∀ n ∈ l, needB n = true) (ha : AscN l) : ∀ {p : Option Need}, (∀ q, p = some q → ∀ x ∈ l, bL q.name x.name = true) → chainN p l = true := by
  induction l with
  | nil => intro p _; cases p <;> rfl
  | cons x l ih =>
    intro p hp
    obtain ⟨h1, h2⟩ := List.pairwise_cons.1 ha
    rw [chainN, Bool.and_eq_true]
    refine ⟨?_, ih (fun e he => hb e (List.mem_cons_of_mem _ he)) h2 (fun q hq y hy => by cases hq; exact h1 y hy)⟩
    unfold stepN2
    rw [hb x (by simp), Bool.true_and]
    cases p with
    | none => rfl
    | some q => exact hp q rfl x (by simp)
theorem lib_ok : ∀ n ∈ libL, nameOk n = true ∧ n.size ≤ 3 := by decide
theorem rng_ok : ∀ t ∈ rngL, (rangeO t).isSome = true ∧ t.size ≤ 20 := by
  intro t ht
  simp only [rngL, List.mem_cons, List.not_mem_nil, or_false] at ht
  rcases ht with rfl | rfl | rfl | rfl | rfl | rfl | rfl | rfl <;> exact ⟨by kernel_rfl, by decide⟩
set_option maxRecDepth 100000
theorem putE_mem {e y : Entry} : ∀ {l : List Entry} {d : Bool}, y ∈ putE e d l → y = e ∨ y ∈ l
  | [], d, h => by
    rw [putE] at h
    split at h
    · cases h
    · exact .inl (by simpa using h)
  | x :: l, d, h => by
    rw [putE] at h
    split at h
    · rw [putE_true] at h
      rcases List.mem_cons.1 h with h | h
      · exact .inl h
      · exact .inr h
    · rcases List.mem_cons.1 h with h | h
      · exact .inr (by rw [h]; simp)
      · exact (putE_mem h).imp id fun h => List.mem_cons_of_mem _ h
def NeedD (n : Need) : Prop := n.name ∈ libL ∧ n.range ∈ rngL
structure EntryD (e : Entry) : Prop where
  n : e.name ∈ libL
  a : 0 ≤ e.v.a ∧ e.v.a ≤ 2
  b : 0 ≤ e.v.b ∧ e.v.b ≤ 1
  c : e.v.c = 0
  p : e.v.pre = [] ∨ e.v.pre = [(bs [114, 99])]
  asc : AscN e.needs
  l : e.needs.length ≤ 4
  d : ∀ n ∈ e.needs, NeedD n
theorem needF_D (c : Cur) : NeedD (needF c).1 := ⟨pickS_in (by decide) rfl (by decide) _, pickS_in (by decide) rfl (by decide) _⟩
theorem NeedD.b {n : Need} (h : NeedD n) : needB n = true := by
  obtain ⟨h1, h2⟩ := h
  unfold needB
  rw [(lib_ok _ h1).1, (rng_ok _ h2).1, decide_eq_true (rng_ok _ h2).2]; rfl
theorem NeedD.z {n : Need} (h : NeedD n) : NeedZ n := ⟨by have := (lib_ok _ h.1).2; omega, by have := (rng_ok _ h.2).2; omega⟩
theorem rc_ok : preB ((bs [114, 99])).data.toList = true ∧ ((bs [114, 99])).size ≤ 2 := by decide
theorem EntryD.b' {e : Entry} (h : EntryD e) : entryB e = true := by
  unfold entryB
  have hv : verB e.v = true := by
    unfold verB
    have i1 : inR e.v.a 0 9999 = true := by unfold inR; have := h.a; rw [decide_eq_true (by omega), decide_eq_true (by omega)]; rfl
    have i2 : inR e.v.b 0 9999 = true := by unfold inR; have := h.b; rw [decide_eq_true (by omega), decide_eq_true (by omega)]; rfl
    have i3 : inR e.v.c 0 9999 = true := by rw [h.c]; rfl
    rw [i1, i2, i3]
    rcases h.p with hp | hp
    · rw [hp]; rfl
    · rw [hp]
      simp only [List.all_cons, List.all_nil, rc_ok.1]
      rfl
  have hn : needsB e.needs = true := by
    unfold needsB
    rw [asc_chainN (fun n hn => (h.d n hn).b) h.asc (fun q hq => by cases hq), decide_eq_true h.l]; rfl
  rw [(lib_ok _ h.n).1, hv, hn]; rfl
theorem EntryD.y {e : Entry} (h : EntryD e) : EntryY e := by
  refine ⟨by have := (lib_ok _ h.n).2; omega, ⟨?_, ?_⟩, by have := h.l; omega, fun n hn => (h.d n hn).z⟩
  · rcases h.p with hp | hp <;> rw [hp] <;> decide
  · intro x hx
    rcases h.p with hp | hp
    · rw [hp] at hx; cases hx
    · rw [hp, List.mem_singleton] at hx
      rw [hx]; decide
theorem iterN_len {α : Type} {f : Cur → List α → List α × Cur} (hf : ∀ c l, (f c l).1.length ≤ l.length + 1) : ∀ (n : Nat) (c : Cur) (l : List α), (iterN f n c l).1.length ≤ l.length + n
  | 0, c, l => Nat.le_refl _
  | n + 1, c, l => by
    rw [iterN]
    have h1 := iterN_len hf n (f c l).2 (f c l).1
    have h2 := hf c l
    omega
theorem needsF_D {c : Cur} (h : c.ok) : AscN (needsF c).1 ∧ (∀ n ∈ (needsF c).1, NeedD n) ∧ (needsF c).1.length ≤ 4 := by
  obtain ⟨k1, k2⟩ := (iterN_ok (f := stepN) (fun l => AscN l ∧ ∀ n ∈ l, NeedD n) (fun c l h ⟨i1, i2⟩ => ⟨needF_ok h, (putN_asc i1).1, fun n hn => by
    rcases (putN_asc i1).2 n hn with rfl | hn
    · exact needF_D c
    · exact i2 n hn⟩) (nat4 c 3) _ [] (belowC_ok h 3) ⟨.nil, fun n hn => by cases hn⟩).2
  have h3 := iterN_len (f := stepN) (fun c l => putN_len _ _) (nat4 c 3) (belowC c 3) []
  have h4 := (nat4_eq c (n := 3) (by omega)).2
  refine ⟨k1, k2, ?_⟩
  unfold needsF
  simp only [List.length_nil] at h3
  omega
theorem entryF_D {c : Cur} (h : c.ok) : EntryD (entryF c).1 := by
  have h1 := belowV_rng c (n := 3) (by omega)
  have h2 := belowV_rng (belowC c 3) (n := 2) (by omega)
  obtain ⟨k1, k2, k3⟩ := needsF_D (c := belowC (verF c).2 4) (belowC_ok (verF_ok h) 4)
  refine ⟨pickS_in (by decide) rfl (by decide) _, ⟨h1.1, by show belowV c 3 ≤ 2; omega⟩, ⟨h2.1, by show belowV (belowC c 3) 2 ≤ 1; omega⟩, rfl, ?_, k1, k3, k2⟩
  have he : (entryF c).1.v.pre = if (belowV (belowC (belowC c 3) 2) 8 == 0) = true then [(bs [114, 99])] else [] := rfl
  rw [he]
  split
  · exact .inr rfl
  · exact .inl rfl
theorem regF_D {c : Cur} (h : c.ok) : AscE (regF c).1 ∧ (∀ e ∈ (regF c).1, EntryD e) ∧ (regF c).1.length ≤ 9 ∧ (regF c).2.ok := by
  obtain ⟨k0, k1, k2⟩ := iterN_ok (f := stepR) (fun l => AscE l ∧ ∀ e ∈ l, EntryD e) (fun c l h ⟨i1, i2⟩ => ⟨entryF_ok h, (putE_asc i1).1, fun n hn => by
    rcases (putE_asc i1).2 n hn with rfl | hn
    · exact entryF_D h
    · exact i2 n hn⟩) (nat4 c 10) _ [] (belowC_ok h 10) ⟨.nil, fun n hn => by cases hn⟩
  have h3 := iterN_len (f := stepR) (fun c l => putE_len) (nat4 c 10) (belowC c 10) []
  have h4 := (nat4_eq c (n := 10) (by omega)).2
  refine ⟨k1, k2, ?_, k0⟩
  unfold regF
  simp only [List.length_nil] at h3
  omega
theorem regF_B {c : Cur} (h : c.ok) : regB (regF c).1 = true := by
  obtain ⟨k1, k2, k3, _⟩ := regF_D h
  unfold regB
  rw [asc_chainE (fun e he => (k2 e he).b') k1 (fun q hq => by cases hq), decide_eq_true (by omega)]; rfl
set_option maxHeartbeats 4000000 in
theorem R57 (r : List Entry) (e : Entry) (hr : r.length ≤ 1048576) (hz : ∀ x ∈ r, VerZ x.v) (hv : VerZ e.v) : Ret Tryz.prog 57 [.ro (rows Entry.ty.cs r) r.length, .agg (Entry.ty.cs e)] (.ro (rows Entry.ty.cs (putE e false r)) (putE e false r).length) [.un, .un] := by
  refine Ret.cool (ret := .own (rows Entry.ty.cs (putE e false r)) (putE e false r).length 6) ?_ (cool_own (shutL_of (rows_all Entry.ty.sh _)))
  have fr : ∀ l : List Entry, idfree.idfreeL (rows Entry.ty.cs l) = true := fun l => Entry.ty.frC l
  have Mi : ∀ q (l : List Entry), mens q (rows Entry.ty.cs l) = true := fun q l => mens_idf (fr l)
  have hle := putE_len (e := e) (l := r) (d := false)
  generalize hT : putE e false r = tg at *
  rw [Entry.cse]
  refine Ret.go Tryz.func57 ?_
  simp (disch := omega) []
  refine T.forI (fun i : List Entry × Bool × List Entry × List Entry => i.2.2.2.length) (fun i => i.2.2.1 ++ i.2.2.2 = r ∧ i.1 ++ putE e i.2.1 i.2.2.2 = tg) (fun i => [(0, .ro (rows Entry.ty.cs r) r.length), (3, .ref 3 0), (5, .sl 50 0 i.1.length 6 false), (6, .sc (.bool i.2.1)), (7, .sc (.int .i64 i.2.2.1.length))]) (fun i => [(3, [.sc (.string e.name), .sc (.int .i64 e.v.a), .sc (.int .i64 e.v.b), .sc (.int .i64 e.v.c), .ro (rows Ty.str.cs e.v.pre) e.v.pre.length, .ro (rows Need.ty.cs e.needs) e.needs.length]), (50, rows Entry.ty.cs i.1)]) ([], false, [], r) ⟨⟨rfl, hT⟩, Tl.ren [(3, 3), (8, 50)] rfl (by simp [rows_nil, idfree, idfree.idfreeL])⟩ ?_
  rintro ⟨acc, done, pre, rest⟩ ⟨hx, hG⟩
  simp only at hx hG ⊢
  have hac := Entry.csl acc
  have hal : acc.length ≤ 1048578 := by
    have := congrArg List.length hG
    rw [List.length_append] at this
    omega
  have hadd : ∀ x : Entry, rows Entry.ty.cs (acc ++ [x]) = rows Entry.ty.cs acc ++ [.sc (.string x.name), .sc (.int .i64 x.v.a), .sc (.int .i64 x.v.b), .sc (.int .i64 x.v.c), .ro (rows Ty.str.cs x.v.pre) x.v.pre.length, .ro (rows Need.ty.cs x.needs) x.needs.length] := fun x => by rw [rows_append, rows_one]; rfl
  cases rest with
  | nil =>
    rw [List.append_nil] at hx
    subst hx
    rw [putE] at hG
    cases done
    · rw [if_neg (by decide)] at hG
      subst hG
      have h1 := fr (acc ++ [e])
      have h2 := Entry.csl (acc ++ [e])
      rw [hadd] at h1 h2
      simp (disch := omega) []
      refine T.on 400 ?_
      simp (disch := omega) [hac, hadd, ex1, h1, h2]
    · rw [if_pos rfl, List.append_nil] at hG
      subst hG
      simp (disch := omega) []
      refine T.on 400 ?_
      simp (disch := omega) [hac, ex1, fr]
  | cons x rest =>
    have hd := entCells hx
    have hd1 : List.drop (pre.length * 6 + 1) (rows Entry.ty.cs r) = .sc (.int .i64 x.v.a) :: .sc (.int .i64 x.v.b) :: .sc (.int .i64 x.v.c) :: .ro (rows Ty.str.cs x.v.pre) x.v.pre.length :: .ro (rows Need.ty.cs x.needs) x.needs.length :: rows Entry.ty.cs rest := by rw [← List.drop_drop, hd]; rfl
    have hpl : pre.length < r.length := by rw [← hx]; simp
    have hxz := hz x (by rw [← hx]; simp)
    have rS := R94 x.v e.v hxz.n
    have rL := R78 e x hv hxz
    rw [Ver.cse, Ver.cse] at rS
    rw [Entry.cse, Entry.cse] at rL
    have hat : atE e.name e.v x = (x.name.toList == e.name.toList && sameV x.v e.v) := rfl
    simp (disch := omega) []
    refine T.cutN [(0, .ro (rows Entry.ty.cs r) r.length), (3, .ref 3 0), (5, .sl 50 0 acc.length 6 false), (6, .sc (.bool done)), (7, .sc (.int .i64 pre.length)), (32, .sc (.bool (atE e.name e.v x)))] [(3, [.sc (.string e.name), .sc (.int .i64 e.v.a), .sc (.int .i64 e.v.b), .sc (.int .i64 e.v.c), .ro (rows Ty.str.cs e.v.pre) e.v.pre.length, .ro (rows Need.ty.cs e.needs) e.needs.length]), (50, rows Entry.ty.cs acc)] ?_ ?_
    · refine T.textE [] ?_ mixed
      by_cases h : x.name.toList = e.name.toList
      · rw [beq_iff_eq.2 h, Bool.true_and] at hat
        simp (disch := omega) [hd, hd1, h, merge_nil, hideH_nil]
        refine cWX 900 rS ?_
        simp (disch := omega) [merge_nil, hideH_nil, nQ_normal]
        exact Tl.same rfl (by simp (disch := omega) [hat]) (by simp [Mi])
      · have hat : atE e.name e.v x = false := by rw [hat, beq_eq_false_iff_ne.2 h]; rfl
        simp (disch := omega) [hd, h, merge_nil, hideH_nil, nQ_normal]
        exact Tl.same rfl (by simp (disch := omega) [hat]) (by simp [Mi])
    · have hP : putE e done (x :: rest) = if (!(done || atE e.name e.v x) && lessE e x) = true then e :: x :: putE e true rest else x :: putE e (done || atE e.name e.v x) rest := by rw [putE]
      rw [hP] at hG
      generalize atE e.name e.v x = at1 at *
      have h1 := fr (acc ++ [x])
      have h2 := Entry.csl (acc ++ [x])
      rw [hadd] at h1 h2
      by_cases hd1' : (done || at1) = true
      · rw [hd1', if_neg (by simp)] at hG
        have hfin : (acc ++ [x]) ++ putE e true rest = tg := by simpa using hG
        cases at1
        · have hdn : done = true := by simpa using hd1'
          subst hdn
          simp (disch := omega) []
          refine T.textE [] ?_ mixed
          simp (disch := omega) [hd, merge_nil, hideH_nil, hac]
          exact Ri_mk (acc ++ [x], true, pre ++ [x], rest) (by simp) ⟨by simp [hx], hfin⟩ (Tl.ren [(3, 3), (53, 50)] rfl (by simp [hadd, h1, idfree, idfree.idfreeL]))
        · simp (disch := omega) []
          refine T.textE [] ?_ mixed
          simp (disch := omega) [hd, merge_nil, hideH_nil, hac]
          exact Ri_mk (acc ++ [x], true, pre ++ [x], rest) (by simp) ⟨by simp [hx], hfin⟩ (Tl.ren [(3, 3), (53, 50)] rfl (by simp [hadd, h1, idfree, idfree.idfreeL]))
      · have hd2 : done = false ∧ at1 = false := by cases done <;> cases at1 <;> simp_all
        obtain ⟨rfl, rfl⟩ := hd2
        rw [Bool.or_false, Bool.not_false, Bool.true_and] at hG
        simp (disch := omega) []
        refine T.textE [] ?_ mixed
        simp (disch := omega) [hd, merge_nil, hideH_nil]
        refine cWX 900 rL ?_
        cases hb : lessE e x
        · rw [hb, if_neg (by decide)] at hG
          have hfin : (acc ++ [x]) ++ putE e false rest = tg := by simpa using hG
          simp (disch := omega) [hd, merge_nil, hideH_nil, hac]
          exact Ri_mk (acc ++ [x], false, pre ++ [x], rest) (by simp) ⟨by simp [hx], hfin⟩ (Tl.ren [(3, 3), (53, 50)] rfl (by simp [hadd, h1, idfree, idfree.idfreeL]))
        · rw [hb, if_pos rfl] at hG
          have hfin : (acc ++ [e] ++ [x]) ++ putE e true rest = tg := by simpa using hG
          have h3 := fr (acc ++ [e] ++ [x])
          have h4 : rows Entry.ty.cs (acc ++ [e] ++ [x]) = rows Entry.ty.cs acc ++ [.sc (.string e.name), .sc (.int .i64 e.v.a), .sc (.int .i64 e.v.b), .sc (.int .i64 e.v.c), .ro (rows Ty.str.cs e.v.pre) e.v.pre.length, .ro (rows Need.ty.cs e.needs) e.needs.length] ++ [.sc (.string x.name), .sc (.int .i64 x.v.a), .sc (.int .i64 x.v.b), .sc (.int .i64 x.v.c), .ro (rows Ty.str.cs x.v.pre) x.v.pre.length, .ro (rows Need.ty.cs x.needs) x.needs.length] := by rw [rows_append, hadd, rows_one]; rfl
          rw [h4] at h3
          have h5 : acc.length * 6 + 6 = (acc.length + 1) * 6 := by omega
          simp (disch := omega) [hd, merge_nil, hideH_nil, hac, h5]
          refine Ri_mk (acc ++ [e] ++ [x], true, pre ++ [x], rest) (by simp) ⟨by simp [hx], hfin⟩ (Tl.ren [(3, 3), (53, 50)] rfl ?_)
          have h6 : acc ++ [e] ++ [x] = acc ++ [e, x] := by simp
          rw [h6] at h4
          have h7 := fr (acc ++ [e, x])
          rw [h4] at h7
          simp [h4, idfree, idfree.idfreeL] at h7 ⊢
          exact h7
section
variable {P : Program} {fx a l : AX} {dst : Option Nat} {E A : List Nat} {st : St} {K : St → Prop} {f : FuncId} {len sz : Nat} {c c' : Cur} {cs2 : List AV} {v : Value}
theorem cLW (b2 : Nat) {b : Nat} (hR : Ret P f [.bx c.cs, .own cs2 len sz] (.sc v) [.bx c'.cs, .un]) (hK : K ((⟨st.ρ, merge A st.h ((((⟨st.ρ, hideH A st.h, st.n⟩ : St).put b none).put b2 none).put b (some c'.cs)).h, st.n⟩ : St).setO dst (.sc v))) (ha : a.ev st.ρ = .ref b 0 := by simp <;> rfl) (hb : hideH A st.h b = some (some c.cs) := by simp) (hl : l.ev st.ρ = .sl b2 0 len sz false := by simp <;> rfl)
    (hb2 : hideH A st.h b2 = some (some cs2) := by simp <;> rfl) (hl2 : cs2.length = len * sz := by rfl) (hid2 : idfree.idfreeL cs2 = true := by rfl) (hne : b2 ≠ b := by decide) (hf : fx.ev st.ρ = .clo f [] := by rfl) (hc : callB P f = true := by kernel_rfl) (hE : E.elem b = true ∧ E.elem b2 = true := by decide) : callWK P fx [a, l] dst (E, A) st K :=
  callWK.bm b b2 hf hc ha hb (Cur.frl c) hl hb2 hl2 hid2 hne hR (Cur.leq c c') hE hK
end
theorem roc_refN {h : Hp} {b off : Nat} {cs ys : List AV} (hb : h b = some (some cs)) (hm : cs.mapM (roc h 7) = some ys) : roc h 8 (.ref b off) = some (.rp ys off) := by
  by_cases hs : shut.shutL cs = true
  · rw [mapM_shut hs] at hm
    rw [roc_ref hb hs, Option.some.inj hm]
  · rw [roc, if_neg (by simp [shut])]
    simp only [hb]
    rw [if_neg hs, hm]
    rfl
theorem roc_ver {h : Hp} {b i n : Nat} {x y z : Int} {cs : List AV} (hb : h b = some (some [.sc (.int .i64 x), .sc (.int .i64 y), .sc (.int .i64 z), .sl i 0 n 1 false])) (hi : h i = some (some cs)) (hl : cs.length = n * 1) (hs : shut.shutL cs = true) : roc h 8 (.ref b 0) = some (.rp [.sc (.int .i64 x), .sc (.int .i64 y), .sc (.int .i64 z), .ro cs n] 0) := by
  refine roc_refN hb ?_
  have e : roc h 7 (.sl i 0 n 1 false) = some (.ro cs n) := roc_sl hi hl hs
  simp only [List.mapM_cons, List.mapM_nil, e]
  rfl
set_option maxHeartbeats 4000000 in
theorem R23 (c : Cur) (hc : c.ok) : Ret Tryz.prog 23 [.bx c.cs] (.ro (rows Entry.ty.cs (regF c).1) (regF c).1.length) [.bx (regF c).2.cs] := by
  obtain ⟨r1, r2⟩ := nat4_eq c (n := 10) (by omega)
  have rB := R55 c hc 10
  have hc1 := belowC_ok hc 10
  unfold regF
  generalize belowC c 10 = c1 at *
  generalize nat4 c 10 = m at *
  generalize hT : iterN stepR m c1 [] = tg at *
  have hro : ∀ h : Hp, h 6 = some (some []) → roc h 8 (.sl 6 0 0 6 false) = some (.ro [] 0) := fun h hb => roc_sl hb rfl rfl
  refine Ret.go Tryz.func23 ?_
  simp (disch := omega) []
  refine callK.le (Le.freeze 8 [0, 7] [100000] [(3, .ro [] 0)] (by simp [menB, idfree]) (by simp; exact idfreeL_mem (Cur.frl c)) (by simp [hro, hideH])) ?_
  simp only [frz]
  refine cB 0 (b := 100000) rB ?_ (ha := by simp [keep_app]) (hb := by simp [keepH_app]) (has := by simp [keep_app]) (hi := by rfl)
  simp (disch := omega) [r1]
  refine T.forI (fun i : Nat × Cur × List Entry => i.1) (fun i => i.2.1.ok ∧ i.2.2.length + i.1 ≤ m ∧ (∀ e ∈ i.2.2, EntryD e) ∧ iterN stepR i.1 i.2.1 i.2.2 = tg) (fun i => [(0, .ref 1 0), (3, .ro (rows Entry.ty.cs i.2.2) i.2.2.length), (4, .sc (.int .i64 i.1))]) (fun i => [(1, i.2.1.cs)]) (m, c1, []) ⟨⟨hc1, by simp, (fun e he => by cases he), hT⟩, Tl.ren [(100000, 1)] rfl (by simp [keep_app, keepH_app, rows_nil, idfree, idfree.idfreeL, Cur.frl])⟩ ?_
  rintro ⟨j, d, out⟩ ⟨hd, hl, hoD, hE⟩
  simp only at hd hl hoD hE ⊢
  cases j with
  | zero =>
    have e1 : tg = (out, d) := hE.symm
    subst e1
    simp (disch := omega) []
    refine T.on 400 ?_
    simp (disch := omega) [ex1, Cur.frl, ioPos1]
  | succ j =>
    have hE2 : iterN stepR j (entryF d).2 (putE (entryF d).1 false out) = tg := hE
    have mrp : ∀ q cs n, menQ q (.rp cs n) = true := fun _ _ _ => rfl
    have hsc : ∀ x : ByteArray, Ty.str.cs x = [.sc (.string x)] := fun _ => rfl
    have hD := entryF_D hd
    have hok := entryF_ok hd
    have hpl := putE_len (e := (entryF d).1) (l := out) (d := false)
    have hpD : ∀ e ∈ putE (entryF d).1 false out, EntryD e := fun x hx => (putE_mem hx).elim (fun h => h ▸ hD) (hoD x)
    have rV1 := R55 d hd 3
    have rV2 := R55 _ (belowC_ok hd 3) 2
    have rV3 := R56 _ (belowC_ok (belowC_ok hd 3) 2) 8
    have rSt : Ret Tryz.prog 33 [.bx (verF d).2.cs, .own (rows Ty.str.oc libL) 4 1] (.sc (.string (entryF d).1.name)) [.bx (belowC (verF d).2 4).cs, .un] := R33 _ (verF_ok hd) libL (by decide)
    have rNe : Ret Tryz.prog 58 [.bx (belowC (verF d).2 4).cs] (.ro (rows Need.ty.cs (entryF d).1.needs) (entryF d).1.needs.length) [.bx (entryF d).2.cs] := (R58 _ (belowC_ok (verF_ok hd) 4)).cool (cool_own (needShut _))
    have rPut := R57 out (entryF d).1 (by omega) (fun x hx => (hoD x hx).y.v) hD.y.v
    have hva : (entryF d).1.v.a = belowV d 3 := rfl
    have hvb : (entryF d).1.v.b = belowV (belowC d 3) 2 := rfl
    have hvc : (entryF d).1.v.c = 0 := rfl
    have hvp : (entryF d).1.v.pre = if (belowV (belowC (belowC d 3) 2) 8 == 0) = true then [(bs [114, 99])] else [] := rfl
    have hc3 : belowC (belowC (belowC d 3) 2) 8 = (verF d).2 := rfl
    rw [hc3] at rV3
    rw [Entry.cse] at rPut
    generalize (entryF d).2 = d2 at *
    generalize (verF d).2 = dv at *
    generalize belowC dv 4 = dn at *
    generalize (entryF d).1 = e at *
    generalize (belowV (belowC (belowC d 3) 2) 8 == 0) = once at *
    generalize belowC (belowC d 3) 2 = d4 at *
    rw [← hva] at rV1
    rw [← hvb] at rV2
    generalize belowC d 3 = d3 at *
    simp (disch := omega) []
    refine cB 0 rV1 ?_
    simp (disch := omega) []
    refine cB 0 rV2 ?_
    simp (disch := omega) []
    refine cB 0 rV3 ?_
    cases once
    · rw [if_neg (by decide)] at hvp
      simp (disch := omega) []
      refine T.le (Le.layS 5 3 60 1 (by simp; rfl) rfl (by simp)) ?_
      refine T.le (Le.freeze 8 [0, 3, 4] [1] [(5, .rp [.sc (.int .i64 e.v.a), .sc (.int .i64 e.v.b), .sc (.int .i64 0), .ro [] 0] 0)] (by simp [menB, idfree]) (by simp; exact idfreeL_mem (Cur.frl dv)) (by rintro t y hty; simp at hty; obtain ⟨rfl, rfl⟩ := hty; simp; exact roc_ver (i := 60) (by simp) (by simp) rfl rfl)) ?_
      refine T.le (Tl.same (ts := [(0, .ref 1 0), (3, .ro (rows Entry.ty.cs out) out.length), (4, .sc (.int .i64 (j + 1 : Nat))), (5, .rp [.sc (.int .i64 e.v.a), .sc (.int .i64 e.v.b), .sc (.int .i64 e.v.c), .ro (rows Ty.str.cs e.v.pre) e.v.pre.length] 0)]) (bs := [(1, dv.cs)]) rfl (by simp [frz, keep_app, hvp, hvc, rows_nil, rows_one, mrp, hsc]) (by simp [keepH_app, mens_idf (Cur.frl _)])) ?_
      refine T.textE [(2, [24]), (3, [1, 24]), (6, [1])] ?_ mixed
      simp (disch := omega) [merge_nil, hideH_nil, over]
      refine cLW 24 rSt ?_
      simp (disch := omega) [merge_nil, hideH_nil]
      refine cPW 0 rNe ?_ (hid := Cur.frl _)
      simp (disch := omega) [merge_nil, hideH_nil, over]
      refine cWX 900 rPut ?_
      simp (disch := omega) [merge_nil, hideH_nil]
      exact Ri_mk (j, d2, putE e false out) (by simp) ⟨hok, by simp at hl ⊢; omega, hpD, hE2⟩ (Tl.same rfl (by simp (disch := omega) []) (by simp [mens_idf (Cur.frl _)]))
    · rw [if_pos rfl] at hvp
      simp (disch := omega) [over]
      refine T.le (Le.freeze 8 [0, 3, 4] [1] [(5, .rp [.sc (.int .i64 e.v.a), .sc (.int .i64 e.v.b), .sc (.int .i64 0), .ro [.sc (.string (bs [114, 99]))] 1] 0)] (by simp [menB, idfree]) (by simp; exact idfreeL_mem (Cur.frl dv)) (by rintro t y hty; simp at hty; obtain ⟨rfl, rfl⟩ := hty; simp; exact roc_ver (i := 20) (by simp) (by simp) rfl rfl)) ?_
      refine T.le (Tl.same (ts := [(0, .ref 1 0), (3, .ro (rows Entry.ty.cs out) out.length), (4, .sc (.int .i64 (j + 1 : Nat))), (5, .rp [.sc (.int .i64 e.v.a), .sc (.int .i64 e.v.b), .sc (.int .i64 e.v.c), .ro (rows Ty.str.cs e.v.pre) e.v.pre.length] 0)]) (bs := [(1, dv.cs)]) rfl (by simp [frz, keep_app, hvp, hvc, rows_nil, rows_one, mrp, hsc]) (by simp [keepH_app, mens_idf (Cur.frl _)])) ?_
      refine T.textE [(2, [24]), (3, [1, 24]), (6, [1])] ?_ mixed
      simp (disch := omega) [merge_nil, hideH_nil, over]
      refine cLW 24 rSt ?_
      simp (disch := omega) [merge_nil, hideH_nil]
      refine cPW 0 rNe ?_ (hid := Cur.frl _)
      simp (disch := omega) [merge_nil, hideH_nil, over]
      refine cWX 900 rPut ?_
      simp (disch := omega) [merge_nil, hideH_nil]
      exact Ri_mk (j, d2, putE e false out) (by simp) ⟨hok, by simp at hl ⊢; omega, hpD, hE2⟩ (Tl.same rfl (by simp (disch := omega) []) (by simp [mens_idf (Cur.frl _)]))
set_option maxRecDepth 100000
def OfR (r : List Entry) (p : Pick) : Prop := ∃ e ∈ r, p.name = e.name ∧ p.v = e.v
theorem OfR.y {r : List Entry} {p : Pick} (hr : ∀ e ∈ r, EntryY e) (h : OfR r p) : PickY p := by
  obtain ⟨e, h1, h2, h3⟩ := h
  have := hr e h1
  exact ⟨by rw [h2]; exact this.a, by rw [h3]; exact this.v⟩
end Go.Proofs.YtiejaibmcmicoaaGreatDoor.Am
namespace Go.Proofs.YtiejaibmcmicoaaGreatDoor.Am
open Go Go.Proofs
set_option linter.unusedSimpArgs false
set_option linter.unusedVariables false
attribute [local congr] T_congr callK_congr callWK_congr
attribute [local simp] run_nil run_op0 run_opg run_seq run_cond run_block run_ret run_skip run_skip_after run_skip_blk run_exit run_exit_after run_exit_blk run_loop run_any runS_nil runS_op0 runS_opg runW_nil runW_op0 runW_opg exec_q exec_w exec_c exec_n execW_q execW_w execW_c restW_app hideH_app merge_app wblk rest_app restS_app execS_q execS_c aval dOk upd_app ev_t ev_c setO_some setO_none put_mk pinsOf isIo hasIo sbin endR fin resL one outL out1 clo1 cloL coe coeL shut shut.shutL wantA weff cellsOf fillA deref natOf ρ0_app h0_app plain plain.plainL keep_app keepH_app andThen_normal andThen_ret andThen_exit pop_nil pop_after pop_after_ret pop_after_exit pop_blk pop_blk_ret pop_blk_exit nilA srcOf srcCells keepR_app keepHR_app renA rb
end Go.Proofs.YtiejaibmcmicoaaGreatDoor.Am
namespace Go.Proofs.YtiejaibmcmicoaaGreatDoor.Am
open Go Go.Proofs
set_option linter.unusedSimpArgs false
set_option linter.unusedVariables false
attribute [local congr] T_congr callK_congr callWK_congr
attribute [local simp] run_nil run_op0 run_opg run_seq run_cond run_block run_ret run_skip run_skip_after run_skip_blk run_exit run_exit_after run_exit_blk run_loop run_any runS_nil runS_op0 runS_opg runW_nil runW_op0 runW_opg exec_q exec_w exec_c exec_n execW_q execW_w execW_c restW_app hideH_app merge_app wblk rest_app restS_app execS_q execS_c aval dOk upd_app ev_t ev_c setO_some setO_none put_mk pinsOf isIo hasIo sbin endR fin resL one outL out1 clo1 cloL coe coeL shut shut.shutL wantA weff cellsOf fillA deref natOf ρ0_app h0_app plain plain.plainL keep_app keepH_app andThen_normal andThen_ret andThen_exit pop_nil pop_after pop_after_ret pop_after_exit pop_blk pop_blk_ret pop_blk_exit nilA srcOf srcCells keepR_app keepHR_app renA rb toldρ toldH toldT toldB menQ_sc menQ_sl menQ_ref menQ_em menQ_un menQ_roT mens_cons mens_nil toldF merge_nil hideH_nil str_n rows_nil rowsS_len rowsC_len rowsC_fr rowsS_fr Rd_mk Rl_mk menB exQ_exit exQ_ret wrap_i64 bs_size bs_list bs_toList bs_get bs_extract mk_bs bs_eta List.getElem?_cons_zero List.getElem?_cons_succ List.length_cons oLt oNlt oLe oNle nLt nNlt nLe nNle iniρ andThen_normal over
set_option maxRecDepth 100000
theorem R11 (l : List Pick) (n : ByteArray) (hl : l.length ≤ 1048577) (hz : ∀ p ∈ l, p.v.pre.length ≤ 1048577) : Ret Tryz.prog 11 [.ro (rows Pick.ty.cs l) l.length, .sc (.string n)] (.tup [.agg (Ver.ty.cs ((pickO l n).getD ver0)), .sc (.bool (pickO l n).isSome)]) [.un, .un] := by
  have rP := R34 l n hl
  rcases idx_cases (atP n) l 0 with ⟨pr, p, rs, e1, h2, h1, e2⟩ | ⟨h1, e2⟩
  · have hpo : pickO l n = some p.v := by rw [e1]; exact pickO_mid h1 h2
    have hd2 := pickCells1 e1.symm
    have hlt : pr.length < l.length := by rw [e1]; simp
    have rC := (R35 p.v (hz p (by rw [e1]; simp))).cool (ret' := .agg (Ver.ty.cs p.v)) (cool_ver (strShut _))
    rw [e2, Int.zero_add] at rP
    rw [Ver.cse] at rC
    rw [hpo]
    simp only [Option.getD_some, Option.isSome_some]
    rw [Ver.cse]
    clear e1 e2 h1
    refine Ret.go Tryz.func11 ?_
    simp (disch := omega) []
    refine cX 900 rP ?_
    simp (disch := omega) [hd2]
    refine cX 900 rC ?_
    simp (disch := omega) [ex1]
  · have hpo := pickO_none h1
    rw [e2] at rP
    rw [hpo]
    refine Ret.weakW (ret := .tup [.agg [.sc (.int .i64 0), .sc (.int .i64 0), .sc (.int .i64 0), .em], .sc (.bool false)]) (r1 := .tup [.agg [.sc (.int .i64 0), .sc (.int .i64 0), .sc (.int .i64 0), .em], .sc (.bool false)]) ?_ rfl fun M w v hv => W_tup1 (fun v h => W_aggS (by simp [subC, sub1, ver0, Ver.cse, rows]) h) hv
    refine Ret.go Tryz.func11 ?_
    simp (disch := omega) []
    refine cX 900 rP ?_
    simp (disch := omega) [ex1]
def needs9F (c : Cur) : List Need × Cur := iterN (addN needF) (nat4 c 4) (belowC c 4) []
theorem needs9F_D {c : Cur} (hc : c.ok) : (∀ n ∈ (needs9F c).1, NeedD n) ∧ (needs9F c).1.length ≤ 3 ∧ (needs9F c).2.ok := by
  obtain ⟨k0, k1⟩ := iterN_ok (f := addN needF) (fun l => ∀ n ∈ l, NeedD n) (fun c l h i => ⟨needF_ok h, fun n hn => by
    rcases List.mem_append.1 hn with hn | hn
    · exact i n hn
    · rw [List.mem_singleton.1 hn]; exact needF_D c⟩) (nat4 c 4) _ [] (belowC_ok hc 4) (fun n hn => by cases hn)
  have h3 := addN_len needF (nat4 c 4) (belowC c 4) []
  have h4 := (nat4_eq c (n := 4) (by omega)).2
  simp only [List.length_nil] at h3
  exact ⟨k1, by unfold needs9F; omega, k0⟩
set_option maxHeartbeats 1000000 in
theorem R24 (c : Cur) (hc : c.ok) : Ret Tryz.prog 24 [.bx c.cs] (.ro (rows Need.ty.cs (needs9F c).1) (needs9F c).1.length) [.bx (needs9F c).2.cs] := by
  refine Ret.cool (ret := .own (rows Need.ty.oc (needs9F c).1) (needs9F c).1.length 2) ?_ (cool_own (needShut _))
  obtain ⟨r1, r2⟩ := nat4_eq c (n := 4) (by omega)
  have rB := R55 c hc 4
  have hc1 := belowC_ok hc 4
  have hlen := addN_len needF (nat4 c 4) (belowC c 4) []
  unfold needs9F
  simp only [List.length_nil] at hlen
  generalize belowC c 4 = c1 at *
  generalize nat4 c 4 = m at *
  generalize hT : iterN (addN needF) m c1 [] = tg at *
  refine Ret.go Tryz.func24 ?_
  simp (disch := omega) []
  refine cB 0 rB ?_
  simp (disch := omega) [r1]
  refine T.forI (fun i : Nat × Cur × List Need => i.1) (fun i => i.2.1.ok ∧ i.2.2.length + i.1 = m ∧ iterN (addN needF) i.1 i.2.1 i.2.2 = tg) (fun i => [(0, .ref 100000 0), (3, .sl 9 0 i.2.2.length 2 false), (4, .sc (.int .i64 i.1))]) (fun i => [(100000, i.2.1.cs), (9, rows Need.ty.oc i.2.2)]) (m, c1, []) ⟨⟨hc1, by simp, hT⟩, Tl.ren [(100000, 100000), (5, 9)] rfl (by simp [rows_nil, idfree, idfree.idfreeL, Cur.frl])⟩ ?_
  rintro ⟨j, d, out⟩ ⟨hd, hl, hE⟩
  simp only at hd hl hE ⊢
  have hso := Need.frL out
  have hrl := Need.ocl out
  cases j with
  | zero =>
    have e1 : tg = (out, d) := hE.symm
    subst e1
    simp (disch := omega) []
    refine T.on 400 ?_
    simp (disch := omega) [ex1, Cur.frl, ioPos1, hrl, hso]
  | succ j =>
    have hE2 : iterN (addN needF) j (needF d).2 (out ++ [(needF d).1]) = tg := hE
    have rN := R59 d hd
    have hok := needF_ok hd
    rw [Need.oce] at rN
    generalize (needF d).2 = d2 at *
    generalize (needF d).1 = n at *
    have hrn : rows Need.ty.oc (out ++ [n]) = rows Need.ty.oc out ++ [.sc (.string n.name), .sc (.string n.range)] := by rw [rows_append, rows_one]; rfl
    have hs2 := Need.frL (out ++ [n])
    rw [hrn] at hs2
    simp (disch := omega) []
    refine cB 0 rN ?_
    simp (disch := omega) [hrl, over]
    exact Ri_mk (j, d2, out ++ [n]) (by simp) ⟨hok, by simp at hl ⊢; omega, hE2⟩ (Tl.ren [(100000, 100000), (16, 9)] rfl (by simp [hs2, hrn, Cur.frl, idfree, idfree.idfreeL]))
theorem R7 (code : List Int) (hx : Ty.byte.slice.ok code) : Ret Tryz.prog 7 [.ro (rows B code) code.length] (.tup [.ro (rows Entry.ty.cs (regF (newC code)).1) (regF (newC code)).1.length, .ro (rows Need.ty.cs (needs9F (regF (newC code)).2).1) (needs9F (regF (newC code)).2).1.length]) [.un] := by
  have rN := R22 code hx
  have hc := newC_ok hx
  have rR := R23 _ hc
  have rD := R24 _ (regF_D hc).2.2.2
  generalize newC code = c at *
  generalize (needs9F (regF c).2).2 = c3 at *
  generalize (needs9F (regF c).2).1 = ns at *
  generalize (regF c).2 = c2 at *
  generalize (regF c).1 = r at *
  refine Ret.go Tryz.func7 ?_
  simp (disch := omega) []
  refine cX 7 rN ?_
  simp (disch := omega) []
  refine cB 0 (b := 7) rR ?_
  simp (disch := omega) []
  refine cB 0 (b := 7) rD ?_
  simp (disch := omega) [ex1]
set_option maxRecDepth 100000
theorem lessV_neg {a x y : Ver} (h1 : lessV a y = false) (h2 : lessV y x = false) : lessV a x = false := by
  cases h : lessV a x
  · rfl
  · cases h3 : lessV y a
    · rw [lessV_tot h1 h3] at h
      rw [h2] at h
      cases h
    · rw [lessV_trans h3 h] at h2
      cases h2
def DescE (l : List Entry) : Prop := l.Pairwise fun x y => lessV x.v y.v = false
theorem insQ_desc (x : Entry) : ∀ (A B : List Entry), DescE (A.reverse ++ B) → (∀ b ∈ B, lessV b.v x.v = true) → DescE (insQ ltNw x A B)
  | [], B, h, hB => List.pairwise_cons.2 ⟨fun b hb => lessV_asy (hB b hb), h⟩
  | y :: A, B, h, hB => by
    have e : (y :: A).reverse ++ B = A.reverse ++ y :: B := by simp
    rw [insQ]
    cases hb : ltNw x y
    · rw [if_neg (by decide)]
      have hyx : lessV y.v x.v = false := hb
      rw [e] at h
      obtain ⟨q1, q2, q3⟩ := List.pairwise_append.1 h
      obtain ⟨q4, q5⟩ := List.pairwise_cons.1 q2
      have hr : (y :: A).reverse ++ x :: B = A.reverse ++ (y :: x :: B) := by simp
      rw [hr]
      refine List.pairwise_append.2 ⟨q1, List.pairwise_cons.2 ⟨fun b hb => ?_, List.pairwise_cons.2 ⟨fun b hb => lessV_asy (hB b hb), q5⟩⟩, fun a ha b hb => ?_⟩
      · rcases List.mem_cons.1 hb with rfl | hb
        · exact hyx
        · exact q4 b hb
      · have hay := q3 a ha y (by simp)
        rcases List.mem_cons.1 hb with rfl | hb
        · exact hay
        · rcases List.mem_cons.1 hb with rfl | hb
          · exact lessV_neg hay hyx
          · exact q3 a ha b (List.mem_cons_of_mem _ hb)
    · rw [if_pos rfl]
      rw [e] at h
      refine insQ_desc x A (y :: B) h fun b hb' => ?_
      rcases List.mem_cons.1 hb' with rfl | hb'
      · exact hb
      · exact hB b hb'
theorem newestV_desc (r : List Entry) (n : ByteArray) : DescE (newestV r n) := by
  have key : ∀ (l S : List Entry), DescE S → DescE (l.foldl (insE ltNw) S) := by
    intro l
    induction l with
    | nil => intro S h; exact h
    | cons x l ih =>
      intro S hS
      rw [List.foldl_cons]
      exact ih _ (insQ_desc x S.reverse [] (by simpa using hS) (fun b hb => by cases hb))
  exact key _ [] .nil
theorem tryG_first {rec : List Need → List Pick → Nat → WayR} {put : List Pick → Pick → List Pick} {n : Need} {rest : List Need} {picks l : List Pick} {f' : Nat} {o : Bool} : ∀ (es : List Entry) (f : Nat), tryG rec put n rest picks es f = (some l, f', o) →
    ∃ pre e post g, es = pre ++ e :: post ∧ rec (rest ++ e.needs) (put picks ⟨e.name, e.v⟩) g = (some l, f', o) ∧ takeB n e.v = true ∧ ∀ x ∈ pre, takeB n x.v = true → ∃ g1 g2, rec (rest ++ x.needs) (put picks ⟨x.name, x.v⟩) g1 = (none, g2, false)
  | [], f, h => by cases h
  | e :: es, f, h => by
    cases ht : takeB n e.v
    · rw [tryG_skip ht] at h
      obtain ⟨pre, x, post, g, h1, h2, h3, h4⟩ := tryG_first es f h
      refine ⟨e :: pre, x, post, g, by rw [h1]; rfl, h2, h3, fun y hy hty => ?_⟩
      rcases List.mem_cons.1 hy with rfl | hy
      · rw [ht] at hty; cases hty
      · exact h4 y hy hty
    · by_cases hf : f = 0
      · subst hf; rw [tryG_out ht] at h; cases h
      · rcases hr : rec (rest ++ e.needs) (put picks ⟨e.name, e.v⟩) (f - 1) with ⟨_ | l', g, o'⟩
        · cases o'
          · rw [tryG_next ht hf hr] at h
            obtain ⟨pre, x, post, g', h1, h2, h3, h4⟩ := tryG_first es g h
            refine ⟨e :: pre, x, post, g', by rw [h1]; rfl, h2, h3, fun y hy hty => ?_⟩
            rcases List.mem_cons.1 hy with rfl | hy
            · exact ⟨_, _, hr⟩
            · exact h4 y hy hty
          · rw [tryG_over ht hf hr] at h; cases h
        · rw [tryG_some ht hf hr] at h
          cases h
          exact ⟨[], e, es, f - 1, rfl, hr, ht, fun y hy => by cases hy⟩
def othR (r : List Entry) (n : ByteArray) (w : Ver) : List Entry := r.filter fun e => !(e.name.toList == n.toList) || sameV e.v w
theorem othR_mem {r : List Entry} {n : ByteArray} {w : Ver} {e : Entry} : e ∈ othR r n w ↔ e ∈ r ∧ (e.name = n → e.v = w) := by
  unfold othR
  rw [List.mem_filter]
  refine and_congr_right fun _ => ?_
  rw [Bool.or_eq_true, Bool.not_eq_true']
  constructor
  · rintro (h | h) hn
    · rw [beq_iff_eq.2 (tl_eq.2 hn)] at h; cases h
    · exact sameV_eq h
  · intro h
    cases hb : e.name.toList == n.toList
    · exact .inl rfl
    · rw [h (tl_eq.1 (beq_iff_eq.1 hb))]
      exact .inr (sameV_self w)
theorem othR_ok {r : List Entry} {n : ByteArray} {w : Ver} (h : regB r = true) : regB (othR r n w) = true := by
  have ha := regB_asc h
  have h12 := regB_12 h
  have hb : ∀ e ∈ r, entryB e = true := by
    unfold regB at h
    rw [Bool.and_eq_true] at h
    exact chainE_all h.1
  unfold regB
  rw [asc_chainE (fun e he => hb e (othR_mem.1 he).1) (List.Pairwise.filter _ ha) (fun q hq => by cases hq), decide_eq_true (show (othR r n w).length ≤ 12 from Nat.le_trans (List.length_filter_le _ _) h12)]; rfl
theorem newest_law {r : List Entry} {n : Need} {rest : List Need} {l : List Pick} (hk : okN r (n :: rest) = true) (hs : solveI r (n :: rest) 10000 = (l, 0)) :
    ∃ v, pickO l n.name = some v ∧ newestV r n.name ≠ [] ∧ ∀ e ∈ newestV r n.name, lessV v e.v = true → solveI (othR r n.name e.v) (n :: rest) 10000 = ([], 1) := by
  obtain ⟨hr, hu, hfr⟩ := okN_uni hk
  have e0 : solveI r (n :: rest) 10000 = endI (wayG r addP 13 (n :: rest) [] 10000) := by unfold solveI; rw [if_pos hk]; rfl
  have hD : dropN [] (n :: rest) = some (n :: rest) := rfl
  rw [e0, wayG_cons hD] at hs
  rcases hW : tryG (wayG r addP 12) addP n rest [] (newestV r n.name) 10000 with ⟨_ | l0, f', o⟩
  · rw [hW] at hs; cases o <;> cases hs
  rw [hW] at hs
  cases o
  case true => cases hs
  have hs : sortI ltP l0 = l := (Prod.mk.inj hs).1
  obtain ⟨pre, es, post, g, h1, h2, h3, h4⟩ := tryG_first _ _ hW
  have hes : es ∈ newestV r n.name := by rw [h1]; simp
  obtain ⟨er, en⟩ := newestV_mem.1 hes
  have en := tl_eq.1 en
  have hN1 : Names (addP [] ⟨es.name, es.v⟩) := by unfold Names addP; simp
  obtain ⟨s1, s2, s3, s4⟩ := wayG_sound (r := r) addP_perm 12 _ _ g l0 hN1 (by rw [h2])
  have hpm := (sortI_perm ltP l0).symm
  rw [hs] at hpm
  have hpl : (⟨n.name, es.v⟩ : Pick) ∈ l := hpm.mem_iff.1 (s1 _ (by rw [addP, ← en]; simp))
  have hpo : pickO l n.name = some es.v := pickO_of (p := ⟨n.name, es.v⟩) (s2.perm hpm) hpl
  refine ⟨es.v, hpo, fun e => (by rw [e] at hes; cases hes), fun e he hlt => ?_⟩
  have hkN : okN (othR r n.name e.v) (n :: rest) = true := by
    unfold okN at hk ⊢
    rw [Bool.and_eq_true] at hk
    rw [othR_ok hk.1, hk.2]; rfl
  rcases solveI_all hkN with ⟨L, a, b, c⟩ | ⟨a, b⟩
  · exfalso
    obtain ⟨_, hu', _⟩ := okN_uni hkN
    obtain ⟨c1, c2, c3⟩ := (solvesB_iff hu').1 c
    have hE : ∀ p ∈ L, HasE r L p := fun p hp => by
      obtain ⟨x, x1, x2, x3, x4⟩ := c3 p hp
      exact ⟨x, (othR_mem.1 x1).1, x2, x3, x4⟩
    have hm := c1
    rw [metB_cons, Bool.and_eq_true] at hm
    obtain ⟨w, hw⟩ : ∃ w, pickO L n.name = some w := by
      cases hw : pickO L n.name with
      | some w => exact ⟨w, rfl⟩
      | none => rw [met1_none hw] at hm; cases hm.1
    have hpL := pickO_mem hw
    obtain ⟨x, x1, x2, x3, x4⟩ := c3 _ hpL
    have hx2 : x.name = n.name := x2
    have hxe : x.v = e.v := (othR_mem.1 x1).2 hx2
    have hwe : w = e.v := by rw [← hxe]; exact x3.symm
    obtain ⟨e1, e2⟩ := newestV_mem.1 he
    have e2 := tl_eq.1 e2
    have hxe2 : x = e := hu e e1 x (othR_mem.1 x1).1 (hx2.trans e2.symm) hxe
    subst hxe2
    have htk : takeB n x.v = true := by
      have := hm.1
      rw [met1_some hw, hwe] at this
      exact this
    have hin : x ∈ pre ++ es :: post := by rw [← h1]; exact he
    rcases List.mem_append.1 hin with hin | hin
    · obtain ⟨g1, g2, hg⟩ := h4 x hin htk
      have hpx : (⟨x.name, x.v⟩ : Pick) ∈ L := by rw [hx2, ← hwe]; exact hpL
      have hfl : freeN r (addP [] ⟨x.name, x.v⟩) < freeN r [] := freeN_put e1 rfl (fun q hq => by cases hq) ⟨⟨x.name, x.v⟩, by simp [addP], rfl⟩
      have := wayG_complete (r := r) addP_perm c2 hE 12 (rest ++ x.needs) (addP [] ⟨x.name, x.v⟩) g1 (by unfold Names addP; simp) (by omega) (fun p hp => by
        have : p = ⟨x.name, x.v⟩ := by simpa [addP] using hp
        rw [this]; exact hpx) (by rw [metB_app, hm.2, x4]; rfl) (by rw [hg])
      rw [hg] at this
      cases this
    · rcases List.mem_cons.1 hin with rfl | hin
      · rw [lessV_irr] at hlt; cases hlt
      · have hd := newestV_desc r n.name
        rw [h1] at hd
        have := (List.pairwise_cons.1 (List.pairwise_append.1 hd).2.1).1 x hin
        rw [this] at hlt
        cases hlt
  · exact a
set_option maxRecDepth 100000
theorem R6 (code : List Int) : Ret Tryz.prog 6 [.ro (rows B code) code.length] (.sc (.bool (decide ((1048576 : Int) < code.length)))) [.un] := by
  refine Ret.go Tryz.func6 ?_
  simp (disch := omega) []
set_option maxHeartbeats 2000000 in
theorem R19 (r : List Entry) (n : ByteArray) (w : Ver) (hr : r.length ≤ 1048577) (hz : ∀ e ∈ r, e.v.pre.length ≤ 1048577) : Ret Tryz.prog 19 [.ro (rows Entry.ty.cs r) r.length, .sc (.string n), .agg (Ver.ty.cs w)] (.ro (rows Entry.ty.cs (othR r n w)) (othR r n w).length) [.un, .un, .un] := by
  refine Ret.cool (ret := .own (rows Entry.ty.cs (othR r n w)) (othR r n w).length 6) ?_ (cool_own (shutL_of (rows_all Entry.ty.sh _)))
  obtain ⟨F, hF⟩ : ∃ F : List Entry → List Entry, F = fun l => othR l n w := ⟨_, rfl⟩
  have F0 : F [] = [] := by rw [hF]; rfl
  have F1 : ∀ pre x, F (pre ++ [x]) = if (!(x.name.toList == n.toList) || sameV x.v w) = true then F pre ++ [x] else F pre := fun pre x => by rw [hF]; simp only [othR, List.filter_append]; split <;> simp_all
  have Fl : ∀ l, (F l).length ≤ l.length := fun l => by rw [hF]; exact List.length_filter_le _ _
  rw [show othR r n w = F r by rw [hF]]
  have fr : ∀ l : List Entry, idfree.idfreeL (rows Entry.ty.cs l) = true := fun l => Entry.ty.frC l
  have Mi : ∀ q (l : List Entry), mens q (rows Entry.ty.cs l) = true := fun q l => mens_idf (fr l)
  clear hF
  rw [Ver.cse]
  refine Ret.go Tryz.func19 ?_
  simp (disch := omega) []
  refine T.forR r (fun _ _ => True) (fun pre _ => [(0, .ro (rows Entry.ty.cs r) r.length), (1, .sc (.string n)), (5, .ref 5 0), (7, .sl 50 0 (F pre).length 6 false), (8, .sc (.int .i64 pre.length))]) (fun pre _ => [(5, [.sc (.int .i64 w.a), .sc (.int .i64 w.b), .sc (.int .i64 w.c), .ro (rows Ty.str.cs w.pre) w.pre.length]), (50, rows Entry.ty.cs (F pre))]) ⟨trivial, Tl.ren [(5, 5), (9, 50)] rfl (by simp [F0, rows_nil, idfree, idfree.idfreeL])⟩ ?_ ?_
  · intro _
    have hc := Entry.csl (F r)
    simp (disch := omega) []
    refine T.on 400 ?_
    simp (disch := omega) [ex1, fr, hc]
  · intro pre x rest hx hl2 _
    have hd := entCells hx
    have hd1 : List.drop (pre.length * 6 + 1) (rows Entry.ty.cs r) = .sc (.int .i64 x.v.a) :: .sc (.int .i64 x.v.b) :: .sc (.int .i64 x.v.c) :: .ro (rows Ty.str.cs x.v.pre) x.v.pre.length :: .ro (rows Need.ty.cs x.needs) x.needs.length :: rows Entry.ty.cs rest := by rw [← List.drop_drop, hd]; rfl
    have hac := Entry.csl (F pre)
    have h3 := Fl pre
    have h1 := F1 pre x
    have rS := R48 x.v w (hz x (by rw [← hx]; simp))
    rw [Ver.cse, Ver.cse] at rS
    have hadd : rows Entry.ty.cs (F pre ++ [x]) = rows Entry.ty.cs (F pre) ++ [.sc (.string x.name), .sc (.int .i64 x.v.a), .sc (.int .i64 x.v.b), .sc (.int .i64 x.v.c), .ro (rows Ty.str.cs x.v.pre) x.v.pre.length, .ro (rows Need.ty.cs x.needs) x.needs.length] := by rw [rows_append, rows_one]; rfl
    have hi := fr (F pre ++ [x])
    rw [hadd] at hi
    by_cases h : x.name.toList = n.toList
    · rw [beq_iff_eq.2 h, Bool.not_true, Bool.false_or] at h1
      cases hs : sameV x.v w
      · rw [hs] at rS
        rw [hs, if_neg (by decide)] at h1
        simp (disch := omega) []
        refine T.textE [] ?_ mixed
        simp (disch := omega) [hd, hd1, h, merge_nil, hideH_nil]
        refine cWX 900 rS ?_
        simp (disch := omega) [merge_nil, hideH_nil, h1]
        exact Tl.same rfl (by simp (disch := omega) [h1]) (by simp [Mi, h1])
      · rw [hs] at rS
        rw [hs, if_pos rfl] at h1
        simp (disch := omega) []
        refine T.textE [] ?_ mixed
        simp (disch := omega) [hd, hd1, h, merge_nil, hideH_nil]
        refine cWX 900 rS ?_
        simp (disch := omega) [merge_nil, hideH_nil, hd, hac, h1]
        exact Tl.ren [(5, 5), (38, 50)] rfl (by simp [h1, hadd, hi, idfree, idfree.idfreeL])
    · rw [beq_eq_false_iff_ne.2 h, Bool.not_false, Bool.true_or, if_pos rfl] at h1
      simp (disch := omega) []
      refine T.textE [] ?_ mixed
      simp (disch := omega) [hd, h, merge_nil, hideH_nil, hac, h1]
      exact Tl.ren [(5, 5), (38, 50)] rfl (by simp [h1, hadd, hi, idfree, idfree.idfreeL])
theorem SolveZ.oth {r : List Entry} {needs : List Need} {n : ByteArray} {w : Ver} (h : SolveZ r needs) : SolveZ (othR r n w) needs :=
  ⟨Nat.le_trans (List.length_filter_le _ _) h.rl, fun e he => h.rz e (othR_mem.1 he).1, h.nl, h.nz⟩
set_option maxHeartbeats 8000000 in
theorem R4 (code : List Int) (hx : Ty.byte.slice.ok code) : Ret Tryz.prog 4 [.ro (rows Ty.byte.cs code) code.length] (.sc (.bool true)) [.un] := by
  change Ret Tryz.prog 4 [.ro (rows B code) code.length] (.sc (.bool true)) [.un]
  have rBig := R6 code
  have rD := R7 code hx
  have hc := newC_ok hx
  obtain ⟨k1, k2, k3, k4⟩ := regF_D hc
  have kB := regF_B hc
  obtain ⟨n1, n2, n3⟩ := needs9F_D k4
  have hok : okN (regF (newC code)).1 (needs9F (regF (newC code)).2).1 = true := by
    unfold okN
    rw [kB, Bool.true_and]
    exact List.all_eq_true.2 fun n hn => (n1 n hn).b
  have hsz : SolveZ (regF (newC code)).1 (needs9F (regF (newC code)).2).1 := ⟨by omega, fun e he => (k2 e he).y, by omega, fun n hn => (n1 n hn).z⟩
  have h12 : (regF (newC code)).1.length ≤ 12 := by omega
  generalize (needs9F (regF (newC code)).2).1 = needs at *
  generalize (regF (newC code)).1 = r at *
  have rS1 := (R8 r needs 10000 hsz).cool (cool_tup (cool_own (shutL_of (rows_all Pick.ty.sh _))) rfl)
  have rSS := R16 r needs 10000 hsz
  obtain ⟨z1, z2⟩ := solveI_Z hsz 10000
  rw [← solve_IS] at rSS
  obtain ⟨l, ci, e1, hci⟩ : ∃ (l : List Pick) (ci : Int), solveI r needs 10000 = (l, ci) ∧ (ci = 0 ∨ ci = 1) := by
    rcases solveI_all hok with ⟨l, a, b, c⟩ | ⟨a, b⟩
    · exact ⟨l, 0, a, .inl rfl⟩
    · exact ⟨[], 1, a, .inr rfl⟩
  have hlaw := fun n rest (h : needs = n :: rest) (h0 : ci = 0) => newest_law (r := r) (n := n) (rest := rest) (l := l) (by rw [← h]; exact hok) (by rw [← h, e1, h0])
  rw [e1] at rS1 z1 z2 rSS
  simp only at rS1 z1 z2 rSS
  clear k1 k2 k3 k4 kB n1 n2 n3
  refine Ret.go Tryz.func4 ?_
  simp (disch := omega) []
  refine cX 900 rBig ?_
  by_cases hbig : (1048576 : Int) < code.length
  · simp (disch := omega) [hbig]
  simp (disch := omega) [hbig]
  refine cX 900 rD ?_
  simp (disch := omega) []
  refine cX 900 rS1 ?_
  rcases hci with rfl | rfl
  case inr =>
    simp (disch := omega) []
    refine cX 900 rSS ?_
    simp (disch := omega) []
  cases needs with
  | nil =>
    simp (disch := omega) [rows_nil]
    refine cX 900 rSS ?_
    simp (disch := omega) []
  | cons n rest =>
    obtain ⟨v, hv1, hv2, hv3⟩ := hlaw n rest rfl rfl
    have rPI := R11 l n.name (by omega) (fun p hp => (z2 p hp).v.n)
    have rN := R17 r n.name h12 hsz.rz
    have vz : VerZ v := by
      obtain ⟨p, h1, rfl⟩ := Option.map_eq_some_iff.1 hv1
      exact (z2 p (List.mem_of_find?_eq_some h1)).v
    have hEY : ∀ e ∈ newestV r n.name, EntryY e := fun e he => hsz.rz e (newestV_mem.1 he).1
    have hln : (newestV r n.name).length ≤ 12 := by
      rw [newestV, sortI_len]
      exact Nat.le_trans (List.length_filter_le _ _) h12
    rw [hv1] at rPI
    simp only [Option.getD_some, Option.isSome_some] at rPI
    rw [Ver.cse] at rPI
    have hpos : 0 < (newestV r n.name).length := List.length_pos_iff.2 hv2
    have hrn : rows Need.ty.cs (n :: rest) = .sc (.string n.name) :: .sc (.string n.range) :: rows Need.ty.cs rest := by rw [rows_cons, Need.cse]; rfl
    have hn0 : ¬ ((rest.length : Int) + 1 = 0) := by omega
    have hn1 : (0 : Int) < (rest.length : Int) + 1 := by omega
    have rOt := fun w => R19 r n.name w (by omega) (fun e he => (hsz.rz e he).v.n)
    have rSo := fun (e : Entry) (h : solveI (othR r n.name e.v) (n :: rest) 10000 = ([], 1)) => (R8 (othR r n.name e.v) (n :: rest) 10000 hsz.oth).cool (cool_tup (cool_own (shutL_of (rows_all Pick.ty.sh _))) rfl)
    generalize newestV r n.name = all at *
    simp (disch := omega) [hrn, hn0, hn1]
    refine cX 900 rPI ?_
    simp (disch := omega) []
    refine cX 900 rN ?_
    simp (disch := omega) []
    refine T.forL all (fun _ _ => True) (fun pre _ => [(3, .ro (rows Entry.ty.cs r) r.length), (4, .ro (.sc (.string n.name) :: .sc (.string n.range) :: rows Need.ty.cs rest) (rest.length + 1)), (9, .ref 9 0), (10, .sc (.bool true)), (11, .ro (rows Entry.ty.cs all) all.length), (12, .sc (.int .i64 pre.length))]) (fun _ _ => [(9, [.sc (.int .i64 v.a), .sc (.int .i64 v.b), .sc (.int .i64 v.c), .ro (rows Ty.str.cs v.pre) v.pre.length])]) (by simp) ?_ ?_
    · intro _
      have hpi : (0 : Int) < all.length := by omega
      simp (disch := omega) []
      refine T.on 400 ?_
      simp (disch := omega) [hpi]
    · intro pre e es hx2 hl2 _
      have hem : e ∈ all := by rw [← hx2]; simp
      have hde1 : List.drop (pre.length * 6 + 1) (rows Entry.ty.cs all) = .sc (.int .i64 e.v.a) :: .sc (.int .i64 e.v.b) :: .sc (.int .i64 e.v.c) :: .ro (rows Ty.str.cs e.v.pre) e.v.pre.length :: .ro (rows Need.ty.cs e.needs) e.needs.length :: rows Entry.ty.cs es := by rw [← List.drop_drop, entCells hx2]; rfl
      have ey := hEY e hem
      have rL := R18 v e.v vz.n ey.v.n vz.z ey.v.z
      rw [Ver.cse, Ver.cse] at rL
      have rO := rOt e.v
      rw [Ver.cse] at rO
      cases hlt : lessV v e.v
      · rw [hlt] at rL
        simp (disch := omega) []
        refine T.textE [] ?_ mixed
        simp (disch := omega) [hde1, merge_nil, hideH_nil]
        refine cWX 900 rL ?_
        simp (disch := omega) [merge_nil, hideH_nil]
      · rw [hlt] at rL
        have hno := hv3 e hem hlt
        have rS := rSo e hno
        rw [hno, hrn] at rS
        simp only [rows_nil, List.length_nil, List.length_cons] at rS
        simp (disch := omega) []
        refine T.textE [] ?_ mixed
        simp (disch := omega) [hde1, merge_nil, hideH_nil]
        refine cWX 900 rL ?_
        simp (disch := omega) [merge_nil, hideH_nil]
        refine T.textE [] ?_ mixed
        simp (disch := omega) [hde1, hn1, merge_nil, hideH_nil]
        refine cWX 900 rO ?_
        simp (disch := omega) [merge_nil, hideH_nil]
        refine cWX 900 rS ?_
        simp (disch := omega) [merge_nil, hideH_nil]
end Go.Proofs.YtiejaibmcmicoaaGreatDoor.Am
