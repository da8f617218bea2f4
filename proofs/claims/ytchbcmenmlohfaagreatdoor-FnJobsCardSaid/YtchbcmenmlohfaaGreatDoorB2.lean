/- The small machine and the contracts of the functions, part 2 (Needs, DrawPacks, DrawPacks2, DrawMarks, Num, DrawMades, DrawFiles, Picked, Packs, Texts, Itoa, Parse, Rules, Sorted, GlobS, Compact, SrtI, Told, WaitI, DrawJobOf, GlobS2, GlobS3, PickedS, JobOf, SortEq, OnS); no condition. -/
import Derived.Test.YtchbcmenmlohfaaGreatDoorProg
import Derived.Test.YtchbcmenmlohfaaGreatDoorAmH
import Derived.Test.YtchbcmenmlohfaaGreatDoorB1
import Derived.KernelRfl
import Derived.Test.YtchbcmenmlohfaaGreatDoorAmZ
import Derived.Test.YtchbcmenmlohfaaGreatDoorAmP
import Derived.Test.YtchbcmenmlohfaaGreatDoorAmM
import Derived.Test.YtchbcmenmlohfaaGreatDoorAmD
import Derived.Test.YtchbcmenmlohfaaGreatDoorAmL
import Derived.Test.YtchbcmenmlohfaaGreatDoorAmQ
namespace Go.Proofs.YtchbcmenmlohfaaGreatDoor.Am
open Go Go.Proofs
set_option linter.unusedSimpArgs false
set_option linter.unusedVariables false
attribute [local congr] T_congr callK_congr callWK_congr
attribute [local simp] run_nil run_op0 run_opg run_seq run_cond run_block run_ret run_skip run_skip_after run_skip_blk run_exit run_exit_after run_exit_blk run_loop run_any runS_nil runS_op0 runS_opg runW_nil runW_op0 runW_opg exec_q exec_w exec_c exec_n execW_q execW_w execW_c restW_app hideH_app merge_app wblk rest_app restS_app execS_q execS_c aval dOk upd_app ev_t ev_c setO_some setO_none put_mk pinsOf isIo hasIo sbin endR fin resL one outL out1 clo1 cloL coe coeL shut shut.shutL wantA weff cellsOf fillA deref natOf ρ0_app h0_app plain plain.plainL keep_app keepH_app andThen_normal andThen_ret andThen_exit pop_nil pop_after pop_after_ret pop_after_exit pop_blk pop_blk_ret pop_blk_exit nilA srcOf srcCells keepR_app keepHR_app renA rb toldρ toldH toldT toldB menQ_sc menQ_sl menQ_ref menQ_em menQ_un menQ_roT mens_cons mens_nil toldF merge_nil hideH_nil str_n rows_nil rowsS_len rowsC_len rowsC_fr rowsS_fr Rd_mk Rl_mk menB exQ_exit exQ_ret wrap_i64 bs_size bs_list bs_toList bs_get bs_extract mk_bs bs_eta List.getElem?_cons_zero List.getElem?_cons_succ List.length_cons oLt oNlt oLe oNle nLt nNlt nLe nNle iniρ andThen_normal over
set_option maxRecDepth 100000
def libL : List ByteArray := [(bs [108, 105, 98]), (bs [108, 111, 103]), (bs [110, 101, 116]), (bs [122, 105, 112])]
def rngL : List ByteArray := [(bs [42]), (bs [94, 49, 46, 48, 46, 48]), (bs [126, 49, 46, 49]), (bs [62, 61, 49]), (bs [60, 50]), (bs [49, 46, 120]), (bs [48, 46, 120, 32, 124, 124, 32, 50, 46, 120]), (bs [94, 48, 46, 49, 46, 48])]
def needF (c : Cur) : Need × Cur := (⟨pickS libL c 4, pickS rngL (belowC c 4) 8⟩, belowC (belowC c 4) 8)
theorem needF_ok {c : Cur} (h : c.ok) : (needF c).2.ok := belowC_ok (belowC_ok h 4) 8
theorem R115 (c : Cur) (hc : c.ok) : Ret Tryz.prog 115 [.bx c.cs] (.agg (Need.ty.oc (needF c).1)) [.bx (needF c).2.cs] := by
  have r1 : Ret Tryz.prog 18 [.bx c.cs, .own (rows Ty.str.oc libL) 4 1] (.sc (.string (pickS libL c 4))) [.bx (belowC c 4).cs, .un] := R18 c hc libL (by decide)
  have r2 : Ret Tryz.prog 18 [.bx (belowC c 4).cs, .own (rows Ty.str.oc rngL) 8 1] (.sc (.string (needF c).1.range)) [.bx (needF c).2.cs, .un] := R18 _ (belowC_ok hc 4) rngL (by decide)
  refine Ret.go Tryz.func115 ?_
  simp (disch := omega) [over]
  refine cL 4 r1 ?_
  simp (disch := omega) [over]
  refine cL 7 r2 ?_
  simp (disch := omega) [over, ex1, Cur.frl, ioPos1, Need.oce]
  rfl
def ltN (n x : Need) : Bool := Op.bytesLess x.name.toList n.name.toList
def eqN (n x : Need) : Bool := x.name.toList == n.name.toList
def spotN (n : Need) (l : List Need) : Nat := (l.takeWhile (ltN n)).length
def putN (n : Need) (l : List Need) : List Need := if (l.drop (spotN n l)).head?.any (eqN n) = true then l else l.take (spotN n l) ++ n :: l.drop (spotN n l)
def stepN (c : Cur) (l : List Need) : List Need × Cur := (putN (needF c).1 l, (needF c).2)
def needsF (c : Cur) : List Need × Cur := iterN stepN (nat4 c 3) (belowC c 3) []
theorem spotN_le (n : Need) (l : List Need) : spotN n l ≤ l.length := (List.takeWhile_sublist _).length_le
theorem putN_len (n : Need) (l : List Need) : (putN n l).length ≤ l.length + 1 := by
  unfold putN
  have := spotN_le n l
  split
  · omega
  · simp; omega
theorem spot_lt {n : Need} : ∀ {l : List Need} {i : Nat}, i < spotN n l → ∃ x, l.drop i = x :: l.drop (i + 1) ∧ ltN n x = true
  | [], i, h => by simp [spotN] at h
  | x :: l, i, h => by
    unfold spotN at h
    rw [List.takeWhile_cons] at h
    cases hx : ltN n x
    · simp [hx] at h
    · cases i with
      | zero => exact ⟨x, rfl, hx⟩
      | succ i =>
        simp [hx] at h
        exact spot_lt (l := l) h
theorem spot_at {n : Need} : ∀ (l : List Need), spotN n l = l.length ∨ ∃ x, l.drop (spotN n l) = x :: l.drop (spotN n l + 1) ∧ ltN n x = false ∧ spotN n l < l.length
  | [] => .inl rfl
  | x :: l => by
    have e : spotN n (x :: l) = if ltN n x = true then spotN n l + 1 else 0 := by
      unfold spotN
      rw [List.takeWhile_cons]
      split <;> rfl
    rw [e]
    cases hx : ltN n x
    · exact .inr ⟨x, rfl, hx, by simp⟩
    · rw [if_pos rfl]
      rcases spot_at (n := n) l with h | ⟨y, h1, h2, h3⟩
      · exact .inl (by simp [h])
      · exact .inr ⟨y, by simpa using h1, h2, by simpa using h3⟩
set_option maxHeartbeats 2000000 in
theorem R96 (c : Cur) (hc : c.ok) : Ret Tryz.prog 96 [.bx c.cs] (.own (rows Need.ty.oc (needsF c).1) (needsF c).1.length 2) [.bx (needsF c).2.cs] := by
  obtain ⟨r1, r2⟩ := nat4_eq c (n := 3) (by omega)
  refine Ret.go Tryz.func96 ?_
  simp (disch := omega) []
  refine cB 0 (R16 c hc 3) ?_
  simp (disch := omega) [r1]
  unfold needsF
  generalize nat4 c 3 = m at r2 ⊢
  have hc1 := belowC_ok hc 3
  generalize belowC c 3 = c1 at hc1 ⊢
  generalize hT : iterN stepN m c1 [] = tg
  refine T.forI (fun i : Nat × Cur × List Need => i.1) (fun i => i.2.1.ok ∧ i.2.2.length + i.1 ≤ m ∧ iterN stepN i.1 i.2.1 i.2.2 = tg) (fun i => [(0, .ref 100000 0), (3, .sl 8 0 i.2.2.length 2 false), (4, .sc (.int .i64 i.1))]) (fun i => [(100000, i.2.1.cs), (8, rows Need.ty.oc i.2.2)]) (m, c1, []) ⟨⟨hc1, by simp, hT⟩, Tl.same rfl (by simp) (by simp [mens_idf (Cur.frl _)])⟩ ?_
  rintro ⟨j, d, out⟩ ⟨hd, hl, hE⟩
  simp only at hd hl hE ⊢
  cases j with
  | zero =>
    have e1 : tg = (out, d) := hE.symm
    subst e1
    simp (disch := omega) []
    refine T.on 400 ?_
    simp (disch := omega) [ex1, Cur.frl, ioPos1, Need.ocl, Need.frL]
  | succ j =>
    have rN := R115 d hd
    have hd2 := needF_ok hd
    have hE2 : iterN stepN j (needF d).2 (putN (needF d).1 out) = tg := hE
    have hpl := putN_len (needF d).1 out
    rw [Need.oce] at rN
    generalize (needF d).2 = d2 at *
    generalize (needF d).1 = x at *
    have hfr := Need.frL out
    simp (disch := omega) []
    refine cB 0 rN ?_
    simp (disch := omega) [over]
    refine T.cutL [(0, .ref 100000 0), (3, .sl 8 0 out.length 2 false), (4, .sc (.int .i64 (j + 1 : Nat))), (5, .ref 5 0), (6, .sc (.int .i64 (spotN x out)))] [(100000, d2.cs), (8, rows Need.ty.oc out), (5, [.sc (.string x.name), .sc (.string x.range)])] ?_ ?_
    · refine T.forI (fun i : Nat => out.length - i) (fun i => i ≤ spotN x out) (fun i => [(0, .ref 100000 0), (3, .sl 8 0 out.length 2 false), (4, .sc (.int .i64 (j + 1 : Nat))), (5, .ref 5 0), (6, .sc (.int .i64 i))]) (fun _ => [(100000, d2.cs), (8, rows Need.ty.oc out), (5, [.sc (.string x.name), .sc (.string x.range)])]) 0 ⟨Nat.zero_le _, Tl.same rfl (by simp) (by simp [mens_idf (Cur.frl _), mens_idf hfr])⟩ ?_
      intro i hi
      have hsl := spotN_le x out
      have hdr : List.drop (i * 2) (rows Need.ty.oc out) = rows Need.ty.oc (out.drop i) := Ty.dropO Need.ty out i
      by_cases h : i = spotN x out
      · subst h
        rcases spot_at (n := x) out with h1 | ⟨y, h1, h2, h3⟩
        · simp (disch := omega) [h1]
          refine T.text 400 mixed (by kernel_rfl) (by kernel_rfl) ?_
          simp (disch := omega) [h1]
          exact Tl.same rfl (by simp [h1]) (by simp [mens_idf (Cur.frl _), mens_idf hfr])
        · rw [h1, rows_cons, Need.oce] at hdr
          have h2 : Op.bytesLess y.name.toList x.name.toList = false := h2
          simp (disch := omega) []
          refine T.text 400 mixed (by kernel_rfl) (by kernel_rfl) ?_
          simp (disch := omega) [hdr, h2]
          exact Tl.same rfl (by simp) (by simp [mens_idf (Cur.frl _), mens_idf hfr])
      · obtain ⟨y, h1, h2⟩ := spot_lt (show i < spotN x out by omega)
        rw [h1, rows_cons, Need.oce] at hdr
        have h2 : Op.bytesLess y.name.toList x.name.toList = true := h2
        simp (disch := omega) []
        refine T.text 400 mixed (by kernel_rfl) (by kernel_rfl) ?_
        simp (disch := omega) [hdr, h2]
        exact Ri_mk (i + 1) (by omega) (by omega) (Tl.same rfl (by simp) (by simp [mens_idf (Cur.frl _), mens_idf hfr]))
    · have hdr : List.drop (spotN x out * 2) (rows Need.ty.oc out) = rows Need.ty.oc (out.drop (spotN x out)) := Ty.dropO Need.ty out _
      have htk : List.take (spotN x out * 2) (rows Need.ty.oc out) = rows Need.ty.oc (out.take (spotN x out)) := Ty.takeO Need.ty out _
      have hdl : (rows Need.ty.oc (out.drop (spotN x out))).length = (out.length - spotN x out) * 2 := by rw [Need.ocl, List.length_drop]
      have htl : (rows Need.ty.oc (out.take (spotN x out))).length = spotN x out * 2 := by rw [Need.ocl, List.length_take, Nat.min_eq_left (spotN_le x out)]
      have hsl := spotN_le x out
      have hol := Need.ocl out
      unfold putN at hE2 hpl
      generalize spotN x out = k at *
      by_cases hq : (out.drop k).head?.any (eqN x) = true
      · rw [if_pos hq] at hE2 hpl
        obtain ⟨y, rest, hy, hy2⟩ : ∃ y rest, out.drop k = y :: rest ∧ y.name.toList = x.name.toList := by
          cases h : out.drop k with
          | nil => rw [h] at hq; simp at hq
          | cons y rest => exact ⟨y, rest, rfl, by rw [h] at hq; simpa [eqN] using hq⟩
        have hlt : k < out.length := by
          have := congrArg List.length hy
          simp at this; omega
        rw [hy, rows_cons, Need.oce] at hdr
        have hk2 : ¬ ((k : Int) = out.length) := by omega
        have hk3 : ¬ (k = out.length) := by omega
        simp (disch := omega) []
        refine T.text 400 mixed (by kernel_rfl) (by kernel_rfl) ?_
        simp (disch := omega) [hdr, hy2, hk2, hk3]
        exact Ri_mk (j, d2, out) (by simp) ⟨hd2, by simp; omega, hE2⟩ (Tl.same rfl (by simp) (by simp [mens_idf (Cur.frl _), mens_idf hfr]))
      · rw [if_neg hq] at hE2 hpl
        rw [List.length_append, List.length_cons, List.length_take, List.length_drop] at hpl
        have e1 : ((k : Int) = out.length ∧ out.drop k = []) ∨ (¬ ((k : Int) = out.length) ∧ k ≠ out.length ∧ ∃ y rest, out.drop k = y :: rest ∧ (y.name.toList == x.name.toList) = false) := by
          cases hy : out.drop k with
          | nil =>
            have := congrArg List.length hy
            simp at this
            exact .inl ⟨by omega, rfl⟩
          | cons y rest =>
            have := congrArg List.length hy
            simp at this
            rw [hy] at hq
            exact .inr ⟨by omega, by omega, y, rest, rfl, by simpa [eqN] using hq⟩
        simp (disch := omega) []
        refine T.cutN [(0, .ref 100000 0), (3, .sl 8 0 out.length 2 false), (4, .sc (.int .i64 (j + 1 : Nat))), (5, .ref 5 0), (6, .sc (.int .i64 k)), (46, .sc (.bool true))] [(100000, d2.cs), (8, rows Need.ty.oc out), (5, [.sc (.string x.name), .sc (.string x.range)])] ?_ ?_
        · refine T.text 400 mixed (by kernel_rfl) (by kernel_rfl) ?_
          rcases e1 with ⟨hk, hy⟩ | ⟨hk, hk2, y, rest, hy, hy2⟩
          · simp (disch := omega) [hk, nQ_normal]
            exact Tl.same rfl (by simp) (by simp [mens_idf (Cur.frl _), mens_idf hfr])
          · rw [hy, rows_cons, Need.oce] at hdr
            simp (disch := omega) [hk, hk2, hdr, hy2, nQ_normal]
            exact Tl.same rfl (by simp) (by simp [mens_idf (Cur.frl _), mens_idf hfr])
        · clear e1 hq
          have hp : ∀ l : List Need, plain.plainL (rows Need.ty.oc l) = true := Ty.plC Need.ty
          have ht1 : List.take ((out.length - k) * 2) (rows Need.ty.oc (out.drop k)) = rows Need.ty.oc (out.drop k) := List.take_of_length_le (by omega)
          simp (disch := omega) [over, hdr, ht1, hp]
          refine T.textE [(0, [52]), (4, [56, 52]), (6, [58]), (7, [59, 56]), (9, [61, 59])] ?_ mixed
          have e4 : min k out.length = k := Nat.min_eq_left hsl
          have e5 : (k + 1) * 2 = k * 2 + 2 := by omega
          simp (disch := omega) [over, htk, hp, htl, hdl, ht1, merge_nil, hideH_nil, Need.cse, e5]
          have hf2 := Need.frL (out.take k ++ x :: out.drop k)
          refine Ri_mk (j, d2, out.take k ++ x :: out.drop k) (by simp) ⟨hd2, by simp; omega, hE2⟩ (Tl.ren [(100000, 100000), (61, 8)] rfl ?_)
          rw [rows_append, rows_cons] at hf2
          simp [e4, hf2, rows_append, rows_cons, Need.oce, Cur.frl, idfree, idfree.idfreeL]
          exact ⟨by omega, hf2⟩
set_option maxRecDepth 100000
def catA (p : ByteArray) : ByteArray := (bs [99, 97, 116, 32]) ++ p
def pactL (p : ByteArray) : List ByteArray := [(bs [112, 117, 116, 32, 104, 105, 32, 62, 32, 111]), catA p ++ (bs [47, 120, 32, 62, 32, 111]), catA p ++ (bs [47, 120, 32]) ++ p ++ (bs [47, 121, 32, 62, 32, 112]), (bs [101, 110, 118, 32, 109, 111, 100, 101, 32, 62, 32, 101]), (bs [117, 115, 101, 32, 97, 35, 98, 117, 105, 108, 100, 32, 111, 32, 62, 32, 113]), (bs [117, 115, 101, 32, 98, 35, 98, 117, 105, 108, 100, 32, 111, 32, 62, 32, 113]), (bs [108, 111, 103, 32, 100, 111, 110, 101]), (bs [108, 111, 103, 32, 120, 32, 121]), (bs [102, 97, 105, 108]), (bs [119, 104, 97, 116]), (bs [112, 117, 116, 32, 62, 32, 114])]
def actF (p : ByteArray) (c : Cur) : ByteArray × Cur := (pickS (pactL p) c 11, belowC c 11)
def act0L (p t : ByteArray) : List ByteArray := [(bs [112, 117, 116, 32, 104, 105, 32, 62, 32, 111]), catA p ++ (bs [47, 120, 32, 62, 32, 111]), (bs [108, 111, 103, 32]) ++ t]
def cmdF (p t : ByteArray) (c : Cur) : Cmd × Cur :=
  let d := belowC c 3
  let r := iterN (addN (actF p)) (nat4 d 3) (belowC d 3) [pickS (act0L p t) c 3]
  (⟨t, r.1⟩, r.2)
theorem actF_ok (p : ByteArray) {c : Cur} (h : c.ok) : (actF p c).2.ok := belowC_ok h 11
theorem R116 (c : Cur) (hc : c.ok) (p : ByteArray) (hp : p.size ≤ 1048576) : Ret Tryz.prog 116 [.bx c.cs, .sc (.string p)] (.sc (.string (actF p c).1)) [.bx (actF p c).2.cs, .un] := by
  have r1 : Ret Tryz.prog 18 [.bx c.cs, .own (rows Ty.str.oc (pactL p)) 11 1] (.sc (.string (actF p c).1)) [.bx (actF p c).2.cs, .un] := R18 c hc (pactL p) (Nat.succ_pos _)
  refine Ret.go Tryz.func116 ?_
  simp (disch := omega) [over, ByteArray.size_append]
  refine cL 15 r1 ?_
  simp (disch := omega) [ex1, Cur.frl, ioPos1]
set_option maxHeartbeats 2000000 in
theorem R97 (c : Cur) (hc : c.ok) (p t : ByteArray) (hp : p.size ≤ 1048576) (ht : t.size ≤ 1048576) : Ret Tryz.prog 97 [.bx c.cs, .sc (.string p), .sc (.string t)] (.agg (Cmd.ty.oc (cmdF p t c).1)) [.bx (cmdF p t c).2.cs, .un, .un] := by
  have r1 : Ret Tryz.prog 18 [.bx c.cs, .own (rows Ty.str.oc (act0L p t)) 3 1] (.sc (.string (pickS (act0L p t) c 3))) [.bx (belowC c 3).cs, .un] := R18 c hc (act0L p t) (Nat.succ_pos _)
  have hc1 := belowC_ok hc 3
  unfold cmdF
  generalize belowC c 3 = c1 at *
  generalize pickS (act0L p t) c 3 = a0 at *
  obtain ⟨r2, r3⟩ := nat4_eq c1 (n := 3) (by omega)
  refine Ret.go Tryz.func97 ?_
  simp (disch := omega) [over, ByteArray.size_append]
  refine cL 16 r1 ?_
  simp (disch := omega) [over]
  refine cB 0 (R16 c1 hc1 3) ?_
  simp (disch := omega) [r2]
  have hc2 := belowC_ok hc1 3
  generalize belowC c1 3 = c2 at *
  generalize nat4 c1 3 = m at r3 ⊢
  generalize hT : iterN (addN (actF p)) m c2 [a0] = tg
  refine T.forT (fun i : Nat × Cur × List ByteArray => i.1) (fun i => i.2.1.ok ∧ i.2.2.length + i.1 ≤ 4 ∧ iterN (addN (actF p)) i.1 i.2.1 i.2.2 = tg) (fun i => [(0, .ref 100000 0), (1, .sc (.string p)), (6, .ref 6 0), (7, .ref 7 0), (8, .sc (.int .i64 i.1))]) (fun i => [(100000, i.2.1.cs), (6, [.sc (.string (bs [])), .em]), (7, Cmd.ty.oc ⟨t, i.2.2⟩)]) (m, c2, [a0]) ⟨⟨hc2, by simp; omega, hT⟩, ?_⟩ ?_
  · refine Tl.pk 7 [18] [] [.sc (.string t), .sl 18 0 1 1 false] (Cmd.ty.oc ⟨t, [a0]⟩) (by simp) (by simp [pkL, pk1, Cmd.oce, rowsS_one, idfree, idfree.idfreeL]) fun h' e1 e2 => ?_
    exact Tl.same rfl (by simp) (by simp [e1, e2, mens_idf (Cur.frl _), mens_idf (Cmd.ty.frX _)])
  rintro ⟨j, d, out⟩ ⟨hd, hl, hE⟩
  simp only at hd hl hE ⊢
  have hso := Ty.str.frL out
  have hrl := rowsS_len out
  refine T.le (Le.open 7 1 18 (cs := Cmd.ty.oc ⟨t, out⟩) (by simp) rfl (by simp) hso) (run_ok (n := 1000) ?_)
  rw [Cmd.oce]
  cases j with
  | zero =>
    have e1 : tg = (out, d) := hE.symm
    subst e1
    simp (disch := omega) []
    refine T.on 400 ?_
    simp (disch := omega) [over, ex1, Cmd.oce, Cur.frl, ioPos1, hrl, hso]
  | succ j =>
    have rA := R116 d hd p hp
    have hd2 := actF_ok p hd
    have hE2 : iterN (addN (actF p)) j (actF p d).2 (out ++ [(actF p d).1]) = tg := hE
    generalize (actF p d).2 = d2 at *
    generalize (actF p d).1 = a at *
    simp (disch := omega) []
    refine T.textE [(4, [100000]), (5, [31]), (6, [32, 18, 31]), (8, [7])] ?_ mixed
    simp (disch := omega) []
    refine cBW 0 rA ?_
    simp (disch := omega) [over, merge_nil, hideH_nil, hrl, Cmd.oce]
    have hs2 := Ty.str.frL (out ++ [a])
    rw [rowsS_snoc] at hs2
    refine Ri_mk (j, d2, out ++ [a]) (by simp) ⟨hd2, by simp; omega, hE2⟩ (Tl.pk 7 [32] [] [.sc (.string t), .sl 32 0 (out.length + 1) 1 false] (Cmd.ty.oc ⟨t, out ++ [a]⟩) (by simp) (by simp [pkL, pk1, Cmd.oce, rowsS_snoc, hrl, hs2]) fun h' e1 e2 => ?_)
    exact Tl.same rfl (by simp) (by simp [e1, e2, mens_idf (Cur.frl _), Cmd.oce, menQ_own, rowsS_snoc, hs2])
theorem cmdF_ok {p t : ByteArray} {c : Cur} (h : c.ok) : (cmdF p t c).2.ok := (iterN_ok (f := addN (actF p)) (fun _ => True) (fun c l h _ => ⟨actF_ok p h, trivial⟩) _ _ _ (belowC_ok (belowC_ok h 3) 3) trivial).1
def cmdL : List ByteArray := [(bs [98, 117, 105, 108, 100]), (bs [108, 105, 110, 116]), (bs [116, 101, 115, 116])]
def packS (p : ByteArray) (i : Nat) (c : Cur) (l : List Cmd) : List Cmd × Cur :=
  if belowV c 2 = 0 ∨ i = 0 then (l ++ [(cmdF p (cmdL[i]?.getD default) (belowC c 2)).1], (cmdF p (cmdL[i]?.getD default) (belowC c 2)).2) else (l, belowC c 2)
def packN (p : ByteArray) : Nat → Nat → Cur → List Cmd → List Cmd × Cur
  | 0, _, c, l => (l, c)
  | n + 1, i, c, l => packN p n (i + 1) (packS p i c l).2 (packS p i c l).1
def packF (p : ByteArray) (c : Cur) : Pack × Cur := (⟨p, [], (needsF c).1, (packN p 3 0 (needsF c).2 []).1⟩, (packN p 3 0 (needsF c).2 []).2)
theorem packS_ok {p : ByteArray} {i : Nat} {c : Cur} {l : List Cmd} (h : c.ok) : (packS p i c l).2.ok := by
  unfold packS
  split
  · exact cmdF_ok (belowC_ok h 2)
  · exact belowC_ok h 2
theorem packS_len {p : ByteArray} {i : Nat} {c : Cur} {l : List Cmd} : (packS p i c l).1.length ≤ l.length + 1 := by
  unfold packS
  split <;> simp
theorem packN_ok {p : ByteArray} : ∀ {n i : Nat} {c : Cur} {l : List Cmd}, c.ok → (packN p n i c l).2.ok
  | 0, _, _, _, h => h
  | n + 1, _, _, _, h => packN_ok (n := n) (packS_ok h)
theorem needsF_ok {c : Cur} (h : c.ok) : (needsF c).2.ok := (iterN_ok (f := stepN) (fun _ => True) (fun c l h _ => ⟨needF_ok h, trivial⟩) _ _ _ (belowC_ok h 3) trivial).1
set_option maxHeartbeats 2000000 in
theorem R71 (c : Cur) (hc : c.ok) (p : ByteArray) (hp : p.size ≤ 1000) : Ret Tryz.prog 71 [.bx c.cs, .sc (.string p)] (.agg (Pack.ty.oc (packF p c).1)) [.bx (packF p c).2.cs, .un] := by
  have rN := R96 c hc
  have hc1 := needsF_ok hc
  unfold packF
  generalize (needsF c).2 = c1 at *
  generalize (needsF c).1 = ns at *
  generalize hT : packN p 3 0 c1 [] = tg
  have hnf := Need.frL ns
  have hnl := Need.ocl ns
  refine Ret.go Tryz.func71 ?_
  simp (disch := omega) [over]
  refine cB 10 rN ?_
  simp (disch := omega) [over]
  refine T.forT (fun i : Nat × Cur × List Cmd => 3 - i.1) (fun i => i.2.1.ok ∧ i.1 ≤ 3 ∧ i.2.2.length ≤ i.1 ∧ packN p (3 - i.1) i.1 i.2.1 i.2.2 = tg) (fun i => [(0, .ref 100000 0), (1, .sc (.string p)), (4, .ref 4 0), (5, .ref 5 0), (6, .sc (.int .i64 i.1))]) (fun i => [(100000, i.2.1.cs), (4, [.sc (.string (bs [])), .em, .em, .em]), (10, rows Need.ty.oc ns), (5, [.sc (.string p), .em, .sl 10 0 ns.length 2 false, .own (rows Cmd.ty.oc i.2.2) i.2.2.length 2])]) (0, c1, []) ⟨⟨hc1, by simp, by simp, hT⟩, ?_⟩ ?_
  · refine Tl.pk 5 [] [.sc (.string p), .em, .sl 10 0 ns.length 2 false] [.em] [.own (rows Cmd.ty.oc []) 0 2] (by simp) (by simp [pkL, pk1, rows_nil]) fun h' e1 e2 => ?_
    exact Tl.same rfl (by simp) (by simp [e1, e2, mens_idf (Cur.frl _), mens_idf hnf, menQ_own, idfree.idfreeL])
  rintro ⟨i, d, out⟩ ⟨hd, hi, hl, hE⟩
  simp only at hd hi hl hE ⊢
  have hso := Cmd.frL out
  have hrl := Cmd.ocl out
  refine T.le (Le.open 5 3 12 (cs := [.sc (.string p), .em, .sl 10 0 ns.length 2 false, .own (rows Cmd.ty.oc out) out.length 2]) (by simp) rfl (by simp) hso) (run_ok (n := 1000) ?_)
  by_cases h3 : i = 3
  · subst h3
    have e1 : tg = (out, d) := hE.symm
    subst e1
    simp (disch := omega) []
    refine T.on 400 ?_
    simp (disch := omega) [over, ex1, Pack.oce, Cur.frl, ioPos1, hrl, hso, hnl, hnf, rows_nil]
  · obtain ⟨j, hj⟩ : ∃ j, 3 - i = j + 1 := ⟨2 - i, by omega⟩
    have hj2 : 3 - (i + 1) = j := by omega
    rw [hj] at hE
    have hE2 : packN p j (i + 1) (packS p i d out).2 (packS p i d out).1 = tg := hE
    have hpk := packS_len (p := p) (i := i) (c := d) (l := out)
    have hps := packS_ok (p := p) (i := i) (l := out) hd
    have hd2 := belowC_ok hd 2
    have hcs : (cmdL[i]?.getD default).size ≤ 1048576 := by
      have : i = 0 ∨ i = 1 ∨ i = 2 := by omega
      rcases this with rfl | rfl | rfl <;> decide
    have rC := R97 _ hd2 p (cmdL[i]?.getD default) (by omega) hcs
    have rO := R72 d hd 2
    have hdi : List.drop i [AV.sc (.string (bs [98, 117, 105, 108, 100])), .sc (.string (bs [108, 105, 110, 116])), .sc (.string (bs [116, 101, 115, 116]))] = .sc (.string (cmdL[i]?.getD default)) :: List.drop (i + 1) [AV.sc (.string (bs [98, 117, 105, 108, 100])), .sc (.string (bs [108, 105, 110, 116])), .sc (.string (bs [116, 101, 115, 116]))] := by
      have : i = 0 ∨ i = 1 ∨ i = 2 := by omega
      rcases this with rfl | rfl | rfl <;> rfl
    unfold packS at hE2 hpk hps
    simp (disch := omega) [hdi]
    refine cB 0 rO ?_
    by_cases hB : belowV d 2 = 0 ∨ i = 0
    · rw [if_pos hB] at hE2 hpk hps
      have hB1 : (belowV d 2 == 0) = true ∨ ((belowV d 2 == 0) = false ∧ ((i : Int) == 0) = true) := by
        by_cases e : belowV d 2 = 0
        · exact .inl (by simp [e])
        · exact .inr ⟨by simp [e], by simpa [e] using hB⟩
      simp only at hE2 hps
      generalize (cmdF p (cmdL[i]?.getD default) (belowC d 2)).2 = d3 at *
      generalize (cmdF p (cmdL[i]?.getD default) (belowC d 2)).1 = x at *
      rw [Cmd.oce] at rC
      have ha1 := Ty.str.frL x.acts
      have ha2 := rowsS_len x.acts
      have hf2 := Cmd.frL (out ++ [x])
      rw [rows_append, rows_one, Cmd.oce] at hf2
      rcases hB1 with h | ⟨h, h'⟩
      all_goals
        first | (simp (disch := omega) [h, h']) | (simp (disch := omega) [h])
        refine T.textE [(5, [100000, 1001]), (6, [32]), (7, [33, 12]), (9, [5])] ?_ mixed
        simp (disch := omega) []
        refine cBW 0 rC ?_
        simp (disch := omega) [merge_nil, hideH_nil, hrl]
        refine Ri_mk (i + 1, d3, out ++ [x]) (by simp; omega) ⟨hps, by omega, by simp; omega, by rw [hj2]; exact hE2⟩ (Tl.pk 33 [1001] (rows Cmd.ty.oc out) [.sc (.string x.task), .sl 1001 0 x.acts.length 1 false] [.sc (.string x.task), .own (rows Ty.str.oc x.acts) x.acts.length 1] (by simp) (by simp [pkL, pk1, ha1, ha2]) fun h1 e1 e2 => ?_)
        refine Tl.pk 5 [33] [.sc (.string p), .em, .sl 10 0 ns.length 2 false] [.sl 33 0 (out.length + 1) 2 false] [.own (rows Cmd.ty.oc out ++ [.sc (.string x.task), .own (rows Ty.str.oc x.acts) x.acts.length 1]) (out.length + 1) 2] (by simp [e2]) (by simp [pkL, pk1, e1, hrl, hf2]; omega) fun h' e3 e4 => ?_
        exact Tl.same rfl (by simp) (by simp [e2, e3, e4, mens_idf (Cur.frl _), mens_idf hnf, menQ_own, rows_append, rows_one, Cmd.oce, hf2])
    · rw [if_neg hB] at hE2 hpk hps
      have hB1 : ¬ belowV d 2 = 0 := fun e => hB (.inl e)
      have hB2 : ¬ i = 0 := fun e => hB (.inr e)
      simp (disch := omega) [hB1, hB2]
      refine Ri_mk (i + 1, belowC d 2, out) (by simp; omega) ⟨hd2, by omega, by simp; omega, by rw [hj2]; exact hE2⟩ (Tl.pk 5 [12] [.sc (.string p), .em, .sl 10 0 ns.length 2 false] [.sl 12 0 out.length 2 false] [.own (rows Cmd.ty.oc out) out.length 2] (by simp) (by simp [pkL, pk1, hso, hrl]) fun h' e1 e2 => ?_)
      exact Tl.same rfl (by simp) (by simp [e1, e2, mens_idf (Cur.frl _), mens_idf hnf, menQ_own, hso])
set_option maxRecDepth 100000
def pkNmL : List ByteArray := [(bs [97]), (bs [98]), (bs [99]), (bs [100])]
def pkNm (k : Nat) : ByteArray := pkNmL[k]?.getD default
def usesS (i k : Nat) (c : Cur) (l : List ByteArray) : List ByteArray × Cur := if k < i then (if belowV c 2 = 0 then l ++ [pkNm k] else l, belowC c 2) else (l, c)
def usesN (i : Nat) : Nat → Nat → Cur → List ByteArray → List ByteArray × Cur
  | 0, _, c, l => (l, c)
  | n + 1, k, c, l => usesN i n (k + 1) (usesS i k c l).2 (usesS i k c l).1
def onePk (m i : Nat) (c : Cur) : Pack × Cur :=
  ({ (packF (pkNm i) c).1 with uses := (usesN i m 0 (packF (pkNm i) c).2 []).1 }, (usesN i m 0 (packF (pkNm i) c).2 []).2)
def packsN (m : Nat) : Nat → Nat → Cur → List Pack → List Pack × Cur
  | 0, _, c, l => (l, c)
  | n + 1, i, c, l => packsN m n (i + 1) (onePk m i c).2 (l ++ [(onePk m i c).1])
def packsF (c : Cur) : List Pack × Cur := packsN (nat4 c 4 + 1) (nat4 c 4 + 1) 0 (belowC c 4) []
theorem usesS_ok {i k : Nat} {c : Cur} {l : List ByteArray} (h : c.ok) : (usesS i k c l).2.ok := by
  unfold usesS
  split
  · exact belowC_ok h 2
  · exact h
theorem usesN_ok {i : Nat} : ∀ {n k : Nat} {c : Cur} {l : List ByteArray}, c.ok → (usesN i n k c l).2.ok
  | 0, _, _, _, h => h
  | n + 1, _, _, _, h => usesN_ok (n := n) (usesS_ok h)
theorem packF_ok {p : ByteArray} {c : Cur} (h : c.ok) : (packF p c).2.ok := packN_ok (needsF_ok h)
theorem onePk_ok {m i : Nat} {c : Cur} (h : c.ok) : (onePk m i c).2.ok := usesN_ok (packF_ok h)
theorem packsN_ok {m : Nat} : ∀ {n i : Nat} {c : Cur} {l : List Pack}, c.ok → (packsN m n i c l).2.ok
  | 0, _, _, _, h => h
  | n + 1, _, _, _, h => packsN_ok (n := n) (onePk_ok h)
theorem packsF_ok {c : Cur} (h : c.ok) : (packsF c).2.ok := packsN_ok (belowC_ok h 4)
theorem pkNm_size (k : Nat) : (pkNm k).size ≤ 1 := by
  unfold pkNm
  cases h : pkNmL[k]? with
  | none => decide
  | some x =>
    have := List.mem_of_getElem? h
    revert x
    intro x _ hx
    simp only [pkNmL, List.mem_cons, List.not_mem_nil, or_false] at hx
    rcases hx with rfl | rfl | rfl | rfl <;> decide
def pkNmC : List AV := [.sc (.string (bs [97])), .sc (.string (bs [98])), .sc (.string (bs [99])), .sc (.string (bs [100]))]
theorem pkNm_drop {k : Nat} (h : k < 4) : List.drop k pkNmC = .sc (.string (pkNm k)) :: List.drop (k + 1) pkNmC := by
  have : k = 0 ∨ k = 1 ∨ k = 2 ∨ k = 3 := by omega
  rcases this with rfl | rfl | rfl | rfl <;> rfl
set_option maxHeartbeats 4000000 in
theorem R41 (c : Cur) (hc : c.ok) : Ret Tryz.prog 41 [.bx c.cs, .sc (.bool false)] (.own (rows Pack.ty.oc (packsF c).1) (packsF c).1.length 4) [.bx (packsF c).2.cs, .un] := by
  obtain ⟨r1, r2⟩ := nat4_eq c (n := 4) (by omega)
  have hc1 := belowC_ok hc 4
  have rB := R16 c hc 4
  unfold packsF
  generalize belowC c 4 = c1 at *
  generalize nat4 c 4 = m at *
  generalize hT : packsN (m + 1) (m + 1) 0 c1 [] = tg
  refine Ret.go Tryz.func41 ?_
  simp (disch := omega) []
  refine cB 0 rB ?_
  have hm1 : (1 : Int) + m = (m + 1 : Nat) := by omega
  simp (disch := omega) [r1, hm1]
  refine T.forT (fun i : Nat × Cur × List Pack => m + 1 - i.1) (fun i => i.2.1.ok ∧ i.1 ≤ m + 1 ∧ i.2.2.length = i.1 ∧ packsN (m + 1) (m + 1 - i.1) i.1 i.2.1 i.2.2 = tg) (fun i => [(0, .ref 100000 0), (1, .sc (.bool false)), (5, .sl 10 0 (m + 1) 1 false), (6, .sl 15 0 i.2.2.length 4 false), (7, .sc (.int .i64 i.1))]) (fun i => [(100000, i.2.1.cs), (10, pkNmC), (15, rows Pack.ty.oc i.2.2)]) (0, c1, []) ⟨⟨hc1, by simp, rfl, hT⟩, Tl.same rfl (by simp) (by simp [mens_idf (Cur.frl _), pkNmC])⟩ ?_
  rintro ⟨i, d, out⟩ ⟨hd, hi, hl, hE⟩
  simp only at hd hi hl hE ⊢
  have hso := Pack.frL out
  have hrl := Pack.ocl out
  refine run_ok (n := 1000) ?_
  by_cases h3 : i = m + 1
  · subst h3
    have e1 : tg = (out, d) := by rw [← hE, Nat.sub_self]; rfl
    subst e1
    simp (disch := omega) [hl]
    refine T.on 400 ?_
    simp (disch := omega) [ex1, Cur.frl, ioPos1, hrl, hso, hl]
  · obtain ⟨j, hj⟩ : ∃ j, m + 1 - i = j + 1 := ⟨m - i, by omega⟩
    have hj2 : m + 1 - (i + 1) = j := by omega
    rw [hj] at hE
    have hE2 : packsN (m + 1) j (i + 1) (onePk (m + 1) i d).2 (out ++ [(onePk (m + 1) i d).1]) = tg := hE
    have rP := R71 d hd (pkNm i) (Nat.le_trans (pkNm_size i) (by decide))
    have hd2 := packF_ok (p := pkNm i) hd
    have hdi := pkNm_drop (show i < 4 by omega)
    have huse : (packF (pkNm i) d).1.uses = [] := rfl
    unfold onePk at hE2
    generalize (packF (pkNm i) d).2 = d2 at *
    generalize (packF (pkNm i) d).1 = x at *
    obtain ⟨pn, pu, pns, pc⟩ := x
    simp only at huse hE2
    subst huse
    rw [Pack.oce] at rP
    simp only [rows_nil] at rP
    simp (disch := omega) [hl, hdi]
    refine cB 0 rP ?_
    simp (disch := omega) []
    have hd3 := usesN_ok (i := i) (n := m + 1) (k := 0) (l := []) hd2
    generalize hU : usesN i (m + 1) 0 d2 [] = tu at *
    have hn1 := Need.frL pns
    have hn2 := Need.ocl pns
    have hc1 := Cmd.frL pc
    have hc2 := Cmd.ocl pc
    have hu1 := Ty.str.frL tu.1
    have hu2 := rowsS_len tu.1
    have hst : pn = pn := rfl
    refine T.cutL [(0, .ref 100000 0), (1, .sc (.bool false)), (5, .sl 10 0 (m + 1) 1 false), (6, .sl 15 0 i 4 false), (7, .sc (.int .i64 i)), (8, .ref 8 0)] [(100000, tu.2.cs), (10, pkNmC), (15, rows Pack.ty.oc out), (1001, rows Ty.str.oc tu.1), (1002, rows Need.ty.oc pns), (1003, rows Cmd.ty.oc pc), (8, [.sc (.string pn), .sl 1001 0 tu.1.length 1 false, .sl 1002 0 pns.length 2 false, .sl 1003 0 pc.length 2 false])] ?_ ?_
    · refine T.forT (fun k : Nat × Cur × List ByteArray => m + 1 - k.1) (fun k => k.2.1.ok ∧ k.1 ≤ m + 1 ∧ k.2.2.length ≤ k.1 ∧ usesN i (m + 1 - k.1) k.1 k.2.1 k.2.2 = tu) (fun k => [(0, .ref 100000 0), (1, .sc (.bool false)), (5, .sl 10 0 (m + 1) 1 false), (6, .sl 15 0 i 4 false), (7, .sc (.int .i64 i)), (8, .ref 8 0), (9, .sc (.int .i64 k.1))]) (fun k => [(100000, k.2.1.cs), (10, pkNmC), (15, rows Pack.ty.oc out), (1002, rows Need.ty.oc pns), (1003, rows Cmd.ty.oc pc), (8, [.sc (.string pn), .own (rows Ty.str.oc k.2.2) k.2.2.length 1, .sl 1002 0 pns.length 2 false, .sl 1003 0 pc.length 2 false])]) (0, d2, []) ⟨⟨hd2, by simp, by simp, hU⟩, ?_⟩ ?_
      · refine Tl.pk 8 [1001] [.sc (.string pn)] [.sl 1001 0 0 1 false, .sl 1002 0 pns.length 2 false, .sl 1003 0 pc.length 2 false] [.own (rows Ty.str.oc []) 0 1, .sl 1002 0 pns.length 2 false, .sl 1003 0 pc.length 2 false] (by simp) (by simp [pkL, pk1, rows_nil, idfree.idfreeL]) fun h' e1 e2 => ?_
        exact Tl.same rfl (by simp) (by simp [e1, e2, mens_idf (Cur.frl _), mens_idf hn1, mens_idf hc1, mens_idf hso, menQ_own, idfree.idfreeL, pkNmC])
      rintro ⟨k, d3, us⟩ ⟨hd3, hk, hlu, hEu⟩
      simp only at hd3 hk hlu hEu ⊢
      have hv1 := Ty.str.frL us
      have hv2 := rowsS_len us
      have hst := rowsS_snoc us (pkNm k)
      have hv3 := Ty.str.frL (us ++ [pkNm k])
      rw [hst] at hv3
      refine T.le (Le.open 8 1 1001 (cs := [.sc (.string pn), .own (rows Ty.str.oc us) us.length 1, .sl 1002 0 pns.length 2 false, .sl 1003 0 pc.length 2 false]) (by simp) rfl (by simp) hv1) (run_ok (n := 1000) ?_)
      by_cases hkm : k = m + 1
      · subst hkm
        have e1 : tu = (us, d3) := by rw [← hEu, Nat.sub_self]; rfl
        subst e1
        simp (disch := omega) []
        exact Tl.same rfl (by simp) (by simp [mens_idf (Cur.frl _), mens_idf hn1, mens_idf hc1, mens_idf hso, mens_idf hv1, pkNmC])
      · obtain ⟨q, hq⟩ : ∃ q, m + 1 - k = q + 1 := ⟨m - k, by omega⟩
        have hq2 : m + 1 - (k + 1) = q := by omega
        rw [hq] at hEu
        have hEu2 : usesN i q (k + 1) (usesS i k d3 us).2 (usesS i k d3 us).1 = tu := hEu
        have hdk := pkNm_drop (show k < 4 by omega)
        have hO := belowC_ok hd3 2
        have rO := R72 d3 hd3 2
        unfold usesS at hEu2
        by_cases hki : k < i
        · rw [if_pos hki] at hEu2
          simp (disch := omega) []
          refine cB 0 rO ?_
          by_cases hz : belowV d3 2 = 0
          · rw [if_pos hz] at hEu2
            have hz2 : (belowV d3 2 == 0) = true := by simp [hz]
            simp (disch := omega) [hz2]
            refine T.textE [(6, [59]), (7, [60, 1001]), (9, [8])] ?_ mixed
            simp (disch := omega) [hdk, merge_nil, hideH_nil, hv2]
            refine Ri_mk (k + 1, belowC d3 2, us ++ [pkNm k]) (by simp; omega) ⟨hO, by simp; omega, by simp; omega, by rw [hq2]; exact hEu2⟩ (Tl.pk 8 [60] [.sc (.string pn)] [.sl 60 0 (us.length + 1) 1 false, .sl 1002 0 pns.length 2 false, .sl 1003 0 pc.length 2 false] [.own (rows Ty.str.oc us ++ [.sc (.string (pkNm k))]) (us.length + 1) 1, .sl 1002 0 pns.length 2 false, .sl 1003 0 pc.length 2 false] (by simp) (by simp [pkL, pk1, hv3, hv2]) fun h' e1 e2 => ?_)
            exact Tl.same rfl (by simp) (by simp [e1, e2, hst, mens_idf (Cur.frl _), mens_idf hn1, mens_idf hc1, mens_idf hso, menQ_own, hv3, pkNmC])
          · rw [if_neg hz] at hEu2
            have hz2 : (belowV d3 2 == 0) = false := by simp [hz]
            simp (disch := omega) [hz2]
            refine Ri_mk (k + 1, belowC d3 2, us) (by simp; omega) ⟨hO, by simp; omega, by simp; omega, by rw [hq2]; exact hEu2⟩ (Tl.pk 8 [1001] [.sc (.string pn)] [.sl 1001 0 us.length 1 false, .sl 1002 0 pns.length 2 false, .sl 1003 0 pc.length 2 false] [.own (rows Ty.str.oc us) us.length 1, .sl 1002 0 pns.length 2 false, .sl 1003 0 pc.length 2 false] (by simp) (by simp [pkL, pk1, hv1, hv2]) fun h' e1 e2 => ?_)
            exact Tl.same rfl (by simp) (by simp [e1, e2, mens_idf (Cur.frl _), mens_idf hn1, mens_idf hc1, mens_idf hso, menQ_own, hv1, pkNmC])
        · rw [if_neg hki] at hEu2
          simp (disch := omega) []
          refine Ri_mk (k + 1, d3, us) (by simp; omega) ⟨hd3, by simp; omega, by simp; omega, by rw [hq2]; exact hEu2⟩ (Tl.pk 8 [1001] [.sc (.string pn)] [.sl 1001 0 us.length 1 false, .sl 1002 0 pns.length 2 false, .sl 1003 0 pc.length 2 false] [.own (rows Ty.str.oc us) us.length 1, .sl 1002 0 pns.length 2 false, .sl 1003 0 pc.length 2 false] (by simp) (by simp [pkL, pk1, hv1, hv2]) fun h' e1 e2 => ?_)
          exact Tl.same rfl (by simp) (by simp [e1, e2, mens_idf (Cur.frl _), mens_idf hn1, mens_idf hc1, mens_idf hso, menQ_own, hv1, pkNmC])
    · have hf2 := Pack.frL (out ++ [⟨pn, tu.1, pns, pc⟩])
      rw [rows_append, rows_one, Pack.oce] at hf2
      simp (disch := omega) [hrl, hl]
      refine Ri_mk (i + 1, tu.2, out ++ [⟨pn, tu.1, pns, pc⟩]) (by simp; omega) ⟨hd3, by simp; omega, by simp [hl], by rw [hj2]; exact hE2⟩ (Tl.pk 65 [1001, 1002, 1003] (rows Pack.ty.oc out) [.sc (.string pn), .sl 1001 0 tu.1.length 1 false, .sl 1002 0 pns.length 2 false, .sl 1003 0 pc.length 2 false] (Pack.ty.oc ⟨pn, tu.1, pns, pc⟩) (by simp) (by simp [pkL, pk1, Pack.oce, hn1, hn2, hc1, hc2, hu1, hu2]) fun h' e1 e2 => ?_)
      refine Tl.ren [(100000, 100000), (10, 10), (65, 15)] rfl ?_
      simp [e1, e2, hl, rows_append, rows_one, Pack.oce, hf2, Cur.frl, pkNmC, idfree, idfree.idfreeL]
end Go.Proofs.YtchbcmenmlohfaaGreatDoor.Am
namespace Go.Proofs.YtchbcmenmlohfaaGreatDoor.Am
open Go Go.Proofs
set_option linter.unusedSimpArgs false
set_option linter.unusedVariables false
attribute [local congr] T_congr callK_congr callWK_congr
attribute [local simp] run_nil run_op0 run_opg run_seq run_cond run_block run_ret run_skip run_skip_after run_skip_blk run_exit run_exit_after run_exit_blk run_loop run_any runS_nil runS_op0 runS_opg runW_nil runW_op0 runW_opg exec_q exec_w exec_c exec_n execW_q execW_w execW_c restW_app hideH_app merge_app wblk rest_app restS_app execS_q execS_c aval dOk upd_app ev_t ev_c setO_some setO_none put_mk pinsOf isIo hasIo sbin endR fin resL one outL out1 clo1 cloL coe coeL shut shut.shutL wantA weff cellsOf fillA deref natOf ρ0_app h0_app plain plain.plainL keep_app keepH_app andThen_normal andThen_ret andThen_exit pop_nil pop_after pop_after_ret pop_after_exit pop_blk pop_blk_ret pop_blk_exit nilA srcOf srcCells keepR_app keepHR_app renA rb
def digC (n : Int) : ByteArray := strOfNums [IntKind.u8.wrap (48 + n)]
def numF : Nat → Nat → ByteArray → ByteArray
  | 0, _, a => a
  | k + 1, n, a => if 9 < n then numF k (n / 10) (digC ((n : Int) / 10 % 10) ++ a) else a
def numT (n : Nat) : ByteArray := numF n n (digC ((n : Int) % 10))
def A60 : AC := (.seq (.ops [yw 1 (.box (.t 0)), yw 2 (.alloc [(.sc (.string ⟨#[]⟩)), .em, (.sc (.string ⟨#[]⟩))])])
  (.seq (.any [(yq 3 (.fadr 0 (.t 1)), []), (yq 4 (.load false 1 (.t 3)), [0]), (yw 5 (.bsl 2 0 [] []), []), (yq 6 (.fadr 1 (.t 1)), []), (yq 7 (.load false 1 (.t 6)), [3]), (yw 8 (.app 2 32 false (.t 5) (.t 7)), [2, 4]), (yq 9 (.fadr 2 (.t 1)), []), (yq 10 (.load false 1 (.t 9)), [6]), (yw 11 (.build [(.sc (.string ⟨#[]⟩)), .em, (.sc (.string ⟨#[]⟩))] [(0, 1, (.t 4)), (1, 1, (.t 8)), (2, 1, (.t 10))]), [1, 5, 7]), (yn (.store 3 (.t 2) (.t 11)), [8, 5, 0, 1, 2, 3, 4, 5, 6, 7, 8])])
  .ret))
theorem K60 : yK Tryz.prog Tryz.f60 A60 12 [.load true 3 (.t 2)] := ⟨by kernel_rfl, by kernel_rfl, by kernel_rfl⟩
theorem R60 (m : Made) (hm : Made.ty.ok m) : Ret Tryz.prog 60 [.agg (Made.ty.cs m)] (.agg (Made.ty.oc m)) [.un] := by
  have hb : m.outs.length * 32 ≤ 140737488351232 := hm.2.1.1
  have hcap : m.outs.length * 32 ≤ 140737488355328 := by omega
  have hsc := fileSc m.outs
  have hfe : rows File.ty.cs m.outs = rows File.ty.oc m.outs := rfl
  refine Ret.run Tryz.func60 K60 (by simp) rfl rfl 900 ?_
  simp [A60, iniρ, Made.cse, over]
  refine T.textW 400 [([], [5, 8]), ([], [5, 8]), ([5], []), ([], [5]), ([], [5]), ([5, 8], []), ([], [5, 8]), ([], [5, 8]), ([], []), ([2], [])] mixed (by kernel_rfl) (by kernel_rfl) ?_
  simp [over, hcap, hsc, hfe, File.ocl, merge_nil, hideH_nil, ex1, File.frL, Made.oce]
def doneL : List ByteArray := [⟨#[]⟩, ⟨#[100, 111, 110, 101, 10]⟩, ⟨#[120, 32, 121, 10]⟩]
def opqL : List ByteArray := [⟨#[111]⟩, ⟨#[112]⟩, ⟨#[113]⟩]
def hiTL : List ByteArray := [⟨#[]⟩, ⟨#[104, 105]⟩, ⟨#[104, 101, 108, 108, 111]⟩]
def oneOut (c : Cur) : File := ⟨pickS opqL c 3, pickS hiTL (belowC c 3) 3⟩
def puts : Nat → Cur → List File → List File × Cur
  | 0, c, l => (l, c)
  | n + 1, c, l => puts n (belowC (belowC c 3) 3) (putFile l (oneOut c)).1
def madeP (c : Cur) : List File × Cur := puts (belowV (belowC c 3) 3).toNat (belowC (belowC c 3) 3) []
def madeV (c : Cur) (t : ByteArray) : Made := ⟨t, (madeP c).1, pickS doneL c 3⟩
def madeC (c : Cur) : Cur := (madeP c).2
theorem putFile_len (xs : List File) (f : File) : (putFile xs f).1.length ≤ xs.length + 1 := by
  unfold putFile
  split
  · exact putF_len f xs false
  · exact Nat.le_succ _
theorem putFile_mem (xs : List File) (f : File) : ∀ x ∈ (putFile xs f).1, x = f ∨ x ∈ xs := by
  unfold putFile
  split
  · exact putF_mem f xs false
  · exact fun x h => .inr h
theorem oneOut_size (c : Cur) : (oneOut c).path.size ≤ 5 ∧ (oneOut c).text.size ≤ 5 := ⟨pick_size (by decide) _ _, pick_size (by decide) _ _⟩
def A17 : AC := (.seq (.ops [yw 4 (.alloc [(.sc (.string ⟨#[]⟩)), .em, (.sc (.string ⟨#[]⟩))])])
  (.seq (.ops [yq 7 (.mov (.t 1)), yq 8 (.mov (.t 0)), yw 9 (.bsl 1 3 [(.sc (.string ⟨#[]⟩)), (.sc (.string ⟨#[]⟩)), (.sc (.string ⟨#[]⟩))] [(0, 1, (.c (.sc (.string ⟨#[]⟩)))), (1, 1, (.c (.sc (.string ⟨#[100, 111, 110, 101, 10]⟩)))), (2, 1, (.c (.sc (.string ⟨#[120, 32, 121, 10]⟩))))]), yc 10 18 [.t 8, .t 9], yw 11 (.build [(.sc (.string ⟨#[]⟩)), .em, (.sc (.string ⟨#[]⟩))] [(0, 1, (.t 7)), (2, 1, (.t 10))]), yw 5 (.alloc [(.sc (.string ⟨#[]⟩)), .em, (.sc (.string ⟨#[]⟩))]), yn (.store 3 (.t 5) (.t 11))])
  (.seq (.seq (.ops [yq 12 (.mov (.t 0)), yc 13 16 [.t 12, yi 3], yq 6 (.mov (.t 13))])
  (.block 0 (.loop (.seq (.seq (.ops [yq 14 (.mov (.t 6)), yq 15 (.bin .gtr (.t 14) (yi 0))])
  (.cond (.t 15) .skip
  (.exit 0)))
  (.seq (.block 1 (.any [(yq 19 (.fadr 1 (.t 5)), []), (yq 20 (.load false 1 (.t 19)), [0]), (yq 21 (.mov (.t 0)), []), (yw 22 (.bsl 1 3 [(.sc (.string ⟨#[]⟩)), (.sc (.string ⟨#[]⟩)), (.sc (.string ⟨#[]⟩))] [(0, 1, (.c (.sc (.string ⟨#[111]⟩)))), (1, 1, (.c (.sc (.string ⟨#[112]⟩)))), (2, 1, (.c (.sc (.string ⟨#[113]⟩))))]), []), (yc 23 18 [.t 21, .t 22], [2, 3]), (yq 24 (.mov (.t 0)), []), (yw 25 (.bsl 1 3 [(.sc (.string ⟨#[]⟩)), (.sc (.string ⟨#[]⟩)), (.sc (.string ⟨#[]⟩))] [(0, 1, (.c (.sc (.string ⟨#[]⟩)))), (1, 1, (.c (.sc (.string ⟨#[104, 105]⟩)))), (2, 1, (.c (.sc (.string ⟨#[104, 101, 108, 108, 111]⟩))))]), []), (yc 26 18 [.t 24, .t 25], [5, 6, 4]), (yw 27 (.build [(.sc (.string ⟨#[]⟩)), (.sc (.string ⟨#[]⟩))] [(0, 1, (.t 23)), (1, 1, (.t 26))]), [4, 7]), (yc 28 45 [.t 20, .t 27], [1, 8, 7]), (yq 18 (.mov (.t 28)), [9]), (yq 29 (.ext (.t 18) 0), [10]), (yq 30 (.ext (.t 18) 1), [10]), (yq 31 (.fadr 1 (.t 5)), [0, 1, 2, 3, 4, 5, 6, 7, 8, 9, 10, 11]), (yn (.store 1 (.t 31) (.t 29)), [13, 11, 9, 0, 1, 2, 3, 4, 5, 6, 7, 8, 9, 10, 11])]))
  (.ops [yq 16 (.mov (.t 6)), yq 17 (.bin .sub (.t 16) (yi 1)), yq 6 (.mov (.t 17))]))))))
  (.seq (.ops [yq 32 (.load true 3 (.t 5)), yn (.store 3 (.t 4) (.t 32))])
  .ret))))
theorem K17 : yK Tryz.prog Tryz.f17 A17 33 [.load true 3 (.t 4)] := ⟨by kernel_rfl, by kernel_rfl, by kernel_rfl⟩
set_option maxHeartbeats 2000000 in
theorem R17 (c : Cur) (hc : c.ok) (t : ByteArray) : Ret Tryz.prog 17 [.bx c.cs, .sc (.string t)] (.agg (Made.ty.oc (madeV c t))) [.bx (madeC c).cs, .un] := by
  have fr : ∀ c : Cur, idfree.idfreeL c.cs = true := fun c => rfl
  have r1 : Ret Tryz.prog 18 [.bx c.cs, .own (rows Ty.str.oc doneL) 3 1] (.sc (.string (pickS doneL c 3))) [.bx (belowC c 3).cs, .un] := R18 c hc doneL (by decide)
  refine Ret.run Tryz.func17 K17 (by simp) rfl rfl 900 ?_
  simp [A17, iniρ, over]
  refine callK.bm 100000 9 (len := 3) (sz := 1) rfl (by kernel_rfl) (by simp [upd_app]) (by simp [upd_app]) (fr c) (by simp [upd_app]) (by simp [upd_app]; rfl) (by rfl) (by rfl) (by decide) r1 rfl rfl ?_
  simp [over]
  refine callK.bx (b := 100000) 0 rfl (by kernel_rfl) (by simp [upd_app]) (by simp [upd_app]) (fr _) (by simp [upd_app]) (by simp) (R16 _ (belowC_ok hc 3) 3) rfl (by rfl) rfl ?_
  obtain ⟨q1, q2⟩ := belowV_rng (belowC c 3) (n := 3) (by omega)
  obtain ⟨m, hm⟩ : ∃ m : Nat, belowV (belowC c 3) 3 = m := ⟨(belowV (belowC c 3) 3).toNat, by omega⟩
  have hP : puts m (belowC (belowC c 3) 3) [] = ((madeV c t).outs, madeC c) := by simp [madeV, madeC, madeP, hm]
  rw [hm] at q2 ⊢
  simp
  refine T.le (Le.layC 5 1 2 (by simp [upd_app]; rfl) rfl) ?_
  refine T.rounds (μ := fun i : Nat × Cur × List File => i.1)
    (fun i s => i.2.1.ok ∧ i.2.2.length + i.1 ≤ 3 ∧ (∀ x ∈ i.2.2, x.path.size ≤ 5 ∧ x.text.size ≤ 5) ∧ puts i.1 i.2.1 i.2.2 = ((madeV c t).outs, madeC c) ∧ s.ρ 0 = .ref 100000 0 ∧ s.ρ 4 = .ref 4 0 ∧ s.ρ 5 = .ref 5 0 ∧ s.ρ 6 = .sc (.int .i64 i.1) ∧ s.h 100000 = some (some i.2.1.cs) ∧
      s.h 4 = some (some [.sc (.string ⟨#[]⟩), .em, .sc (.string ⟨#[]⟩)]) ∧ s.h 5 = some (some [.sc (.string t), .own (rows File.ty.oc i.2.2) i.2.2.length 2, .sc (.string (pickS doneL c 3))]) ∧ s.h 60 = none ∧ s.h 22 = none ∧ s.h 25 = none ∧ s.h 29000 = none ∧ s.n = 33) (m, belowC (belowC c 3) 3, []) (by simp [upd_app, rows_nil, hP, belowC_ok, hc]; omega) ?_
  rintro ⟨j, d, out⟩ ⟨ρ, hh, n⟩ ⟨hd, hj, hs, hE, h0', h4', h5', h6', kc, k4, k5, f1, f2, f3, f4, rfl⟩
  simp only at hd hj hs hE h0' h4' h5' h6' kc k4 k5 f1 f2 f3 f4
  refine T.le (Le.open 5 1 60 k5 rfl f1 (File.frL _)) ?_
  refine run_ok (n := 400) ?_
  cases j with
  | zero =>
    simp only [puts] at hE
    have hE1 : out = (madeV c t).outs := by rw [← (Prod.mk.inj hE).1]
    have hE2 : d = madeC c := (Prod.mk.inj hE).2
    simp [h6']
    refine T.on 400 ?_
    simp [h0', h4', h5', k4, kc, over, ex1, File.ocl, File.frL, fr, ioPos1, Made.oce, hE1, hE2]
    exact ⟨rfl, rfl⟩
  | succ j =>
    have hw : IntKind.i64.wrap (j : Int) = j := wrap_i64 (by omega) (by omega)
    have hpos : (0 : Int) < (j : Int) + 1 := by omega
    have ra : Ret Tryz.prog 18 [.bx d.cs, .own (rows Ty.str.oc opqL) 3 1] (.sc (.string (oneOut d).path)) [.bx (belowC d 3).cs, .un] := R18 d hd opqL (by decide)
    have rb : Ret Tryz.prog 18 [.bx (belowC d 3).cs, .own (rows Ty.str.oc hiTL) 3 1] (.sc (.string (oneOut d).text)) [.bx (belowC (belowC d 3) 3).cs, .un] := R18 _ (belowC_ok hd 3) hiTL (by decide)
    have hok : File.ty.slice.ok out := ⟨show out.length * 32 ≤ 140737488351232 by omega, fun x hx => ⟨show x.path.size ≤ 140737488351232 by have := hs x hx; omega, show x.text.size ≤ 140737488351232 by have := hs x hx; omega, trivial⟩⟩
    have rp := R45 out (oneOut d) hok (fun x hx => by have := hs x hx; omega) (by have := oneOut_size d; omega)
    simp [h6', hpos]
    refine T.textW 400 [([], [22, 25, 100000]), ([], [22, 25, 100000]), ([], [22, 25]), ([22], [25]), ([100000, 22], [25]), ([], [22, 25, 100000]), ([25], [22, 100000]), ([100000, 25], []), ([], []), ([29000], []), ([], []), ([], []), ([], [5]), ([], []), ([5], [])] mixed (by kernel_rfl) (by kernel_rfl) ?_
    simp [h0', h5', f2, f3, over]
    refine callWK.bm 100000 22 (len := 3) (sz := 1) rfl (by kernel_rfl) (by simp [upd_app, h0']) (by simp [upd_app, kc]) (fr d) (by simp [upd_app]) (by simp [upd_app]; rfl) (by rfl) (by rfl) (by decide) ra rfl (by decide) ?_
    simp [h0', h5', f2, f3, over, merge_nil, hideH_nil]
    refine callWK.bm 100000 25 (len := 3) (sz := 1) rfl (by kernel_rfl) (by simp [upd_app, h0']) (by simp [upd_app, kc]) (fr _) (by simp [upd_app]) (by simp [upd_app]; rfl) (by rfl) (by rfl) (by decide) rb rfl (by decide) ?_
    simp [h0', h5', f2, f3, over, merge_nil, hideH_nil]
    refine callWK.ro 28 rfl (by kernel_rfl) (by simp [roc_agg, File.roc8, File.cse, upd_app]) rp (by simpa [flt, flt.fltL] using fltL_of (rows_all (q := flt) (fun x c hc => (File.ty.ow x c hc).fl) _)) (by simp [inst, instL, upd_app, f4]; exact ⟨rfl, rfl⟩) (by rfl) ?_
    simp [h0', h5', h6', f2, f3, f4, over, merge_nil, hideH_nil, hw]
    refine ⟨j, by omega, belowC (belowC d 3) 3, (putFile out (oneOut d)).1, _, Le.trans (Le.pack 5 1 (i := 29000) (len := (putFile out (oneOut d)).1.length) (sz := 2) (cs' := rows File.ty.oc (putFile out (oneOut d)).1) (by simp [upd_app, merge_app]; rfl) (by rfl) (by simp [upd_app, merge_app]) (by decide) (by simp [File.ocl]) (File.frL _)) (Le.reseat [0, 4, 5, 6] [(100000, 100000), (4, 4), (5, 5)] (by simp) (by simp [upd_app, menB, idfree, h0', h4', h5']) ?_), ?_⟩
    · intro b hb cs hcs
      simp at hb
      rcases hb with rfl | rfl | rfl
      · simp [upd_app, merge_app] at hcs
        subst hcs
        intro y hy
        simp [Cur.cs] at hy
        rcases hy with rfl | rfl | rfl <;> rfl
      · simp [upd_app, merge_app, hideH_app, k4] at hcs
        subst hcs
        simp [idfree]
      · simp [upd_app, merge_app] at hcs
        subst hcs
        have hf := File.frL (putFile out (oneOut d)).1
        simp [idfree, hf]
    · have hl := putFile_len out (oneOut d)
      have hz := oneOut_size d
      simp [upd_app, merge_app, hideH_app, h0', h4', h5', k4, belowC_ok, hd]
      refine ⟨by omega, fun x hx => (putFile_mem out (oneOut d) x hx).elim (fun e => e ▸ hz) (hs x), hE⟩
theorem puts_ok : ∀ (n : Nat) (c : Cur) (l : List File), c.ok → (∀ x ∈ l, x.path.size ≤ 5 ∧ x.text.size ≤ 5) → (puts n c l).2.ok ∧ (puts n c l).1.length ≤ l.length + n ∧ ∀ x ∈ (puts n c l).1, x.path.size ≤ 5 ∧ x.text.size ≤ 5
  | 0, c, l, hc, h => ⟨hc, Nat.le_refl _, h⟩
  | n + 1, c, l, hc, h => by
    have hl := putFile_len l (oneOut c)
    obtain ⟨h1, h2, h3⟩ := puts_ok n (belowC (belowC c 3) 3) (putFile l (oneOut c)).1 (belowC_ok (belowC_ok hc 3) 3) (fun x hx => (putFile_mem l (oneOut c) x hx).elim (fun e => e ▸ oneOut_size c) (h x))
    exact ⟨h1, Nat.le_trans h2 (by omega), h3⟩
theorem madeP_ok {c : Cur} (hc : c.ok) : (madeC c).ok ∧ (madeP c).1.length ≤ 2 ∧ ∀ x ∈ (madeP c).1, x.path.size ≤ 5 ∧ x.text.size ≤ 5 := by
  obtain ⟨q1, q2⟩ := belowV_rng (belowC c 3) (n := 3) (by omega)
  obtain ⟨h1, h2, h3⟩ := puts_ok (belowV (belowC c 3) 3).toNat (belowC (belowC c 3) 3) [] (belowC_ok (belowC_ok hc 3) 3) (by simp)
  refine ⟨h1, Nat.le_trans h2 ?_, h3⟩
  simp only [List.length_nil]
  omega
def abxL : List ByteArray := [⟨#[97, 35, 98, 117, 105, 108, 100]⟩, ⟨#[98, 35, 116, 101, 115, 116]⟩, ⟨#[120]⟩, ⟨#[]⟩]
def abzL : List ByteArray := [⟨#[97, 47, 98]⟩, ⟨#[]⟩, ⟨#[97]⟩, ⟨#[122, 122]⟩]
def zF (i : Nat) : File := ⟨⟨#[122]⟩ ++ numT i, ⟨#[]⟩⟩
def zFs : Nat → List File
  | 0 => []
  | n + 1 => zFs n ++ [zF n]
def anyP (c : Cur) : Made × Cur :=
  let t := pickS abxL c 4
  let m := madeV (belowC c 4) t
  let c2 := madeC (belowC c 4)
  let c3 := belowC c2 8
  if belowV c2 8 = 0 then (⟨m.task, m.outs ++ [⟨pickS abzL c3 4, ⟨#[]⟩⟩], m.log⟩, belowC c3 4)
  else if belowV c2 8 = 1 then (⟨m.task, m.outs, strOfNums (List.replicate (200 + belowV c3 2).toNat 0)⟩, belowC c3 2)
  else if belowV c2 8 = 2 then (⟨m.task, m.outs ++ zFs 6, m.log⟩, c3)
  else (m, c3)
end Go.Proofs.YtchbcmenmlohfaaGreatDoor.Am
namespace Go.Proofs.YtchbcmenmlohfaaGreatDoor.Am
open Go Go.Proofs
set_option linter.unusedSimpArgs false
set_option linter.unusedVariables false
attribute [local congr] T_congr callK_congr callWK_congr
attribute [local simp] run_nil run_op0 run_opg run_seq run_cond run_block run_ret run_skip run_skip_after run_skip_blk run_exit run_exit_after run_exit_blk run_loop run_any runS_nil runS_op0 runS_opg runW_nil runW_op0 runW_opg exec_q exec_w exec_c exec_n execW_q execW_w execW_c restW_app hideH_app merge_app wblk rest_app restS_app execS_q execS_c aval dOk upd_app ev_t ev_c setO_some setO_none put_mk pinsOf isIo hasIo sbin endR fin resL one outL out1 clo1 cloL coe coeL shut shut.shutL wantA weff cellsOf fillA deref natOf ρ0_app h0_app plain plain.plainL keep_app keepH_app andThen_normal andThen_ret andThen_exit pop_nil pop_after pop_after_ret pop_after_exit pop_blk pop_blk_ret pop_blk_exit nilA srcOf srcCells keepR_app keepHR_app renA rb toldρ toldH toldT toldB menQ_sc menQ_sl menQ_ref menQ_em menQ_un menQ_roT mens_cons mens_nil toldF merge_nil hideH_nil str_n rows_nil rowsS_len rowsC_len rowsC_fr rowsS_fr Rd_mk Rl_mk menB exQ_exit exQ_ret wrap_i64 bs_size bs_list bs_toList bs_get bs_extract mk_bs bs_eta List.getElem?_cons_zero List.getElem?_cons_succ List.length_cons oLt oNlt oLe oNle nLt nNlt nLe nNle iniρ andThen_normal over
set_option maxRecDepth 100000
def dpathL : List ByteArray := [(bs [97, 47, 120]), (bs [97, 47, 121]), (bs [97, 47, 115, 114, 99, 47, 109]), (bs [98, 47, 120]), (bs [98, 47, 116, 46, 109, 100]), (bs [99, 47, 120]), (bs [99, 47, 115, 114, 99, 47, 110, 46, 103, 111]), (bs [116, 111, 112])]
def dtextL : List ByteArray := [(bs []), (bs [49]), (bs [104, 101, 108, 108, 111]), (bs [116, 119, 111, 10])]
def dfileF (c : Cur) : File × Cur := (⟨pickS dpathL c 8, pickS dtextL (belowC c 8) 4⟩, belowC (belowC c 8) 4)
def dstepF (c : Cur) (l : List File) : List File × Cur := ((putFile l (dfileF c).1).1, (dfileF c).2)
def dfilesF (c : Cur) : List File × Cur := iterN dstepF (nat4 c 9) (belowC c 9) []
theorem dfile_size (c : Cur) : (dfileF c).1.path.size ≤ 10 ∧ (dfileF c).1.text.size ≤ 10 := ⟨pick_size (by decide) _ _, pick_size (by decide) _ _⟩
theorem dfilesF_ok {c : Cur} (h : c.ok) : (dfilesF c).2.ok ∧ ∀ x ∈ (dfilesF c).1, x.path.size ≤ 10 ∧ x.text.size ≤ 10 :=
  iterN_ok (f := dstepF) (fun l => ∀ x ∈ l, x.path.size ≤ 10 ∧ x.text.size ≤ 10) (fun c l h i => ⟨belowC_ok (belowC_ok h 8) 4, fun x hx => (putFile_mem l (dfileF c).1 x hx).elim (fun e => e ▸ dfile_size c) (i x)⟩) _ _ _ (belowC_ok h 9) (fun x hx => by simp at hx)
theorem dfilesP_len : ∀ (n : Nat) (c : Cur) (l : List File), (iterN dstepF n c l).1.length ≤ l.length + n
  | 0, _, _ => Nat.le_refl _
  | n + 1, c, l => by
    have h1 := dfilesP_len n (dfileF c).2 (putFile l (dfileF c).1).1
    have h2 := putFile_len l (dfileF c).1
    show (iterN dstepF n (dfileF c).2 (putFile l (dfileF c).1).1).1.length ≤ _
    omega
theorem dfilesF_len (c : Cur) : (dfilesF c).1.length ≤ 8 := by
  have h1 := dfilesP_len (nat4 c 9) (belowC c 9) []
  have h2 := (nat4_eq c (n := 9) (by omega)).2
  have h3 : (dfilesF c).1.length ≤ ([] : List File).length + nat4 c 9 := h1
  simp at h3
  omega
theorem R74 (c : Cur) (hc : c.ok) : Ret Tryz.prog 74 [.bx c.cs] (.sc (.string (pickS dpathL c 8))) [.bx (belowC c 8).cs] := by
  have r1 : Ret Tryz.prog 18 [.bx c.cs, .own (rows Ty.str.oc dpathL) 8 1] (.sc (.string (pickS dpathL c 8))) [.bx (belowC c 8).cs, .un] := R18 c hc dpathL (by decide)
  refine Ret.go Tryz.func74 ?_
  simp (disch := omega) []
  refine cL 4 r1 ?_
  simp (disch := omega) [ex1, Cur.frl, ioPos1]
set_option maxHeartbeats 1000000 in
theorem R43 (c : Cur) (hc : c.ok) : Ret Tryz.prog 43 [.bx c.cs] (.own (rows File.ty.oc (dfilesF c).1) (dfilesF c).1.length 2) [.bx (dfilesF c).2.cs] := by
  obtain ⟨r1, r2⟩ := nat4_eq c (n := 9) (by omega)
  have rB := R16 c hc 9
  have hc1 := belowC_ok hc 9
  unfold dfilesF
  generalize belowC c 9 = c1 at *
  generalize nat4 c 9 = m at *
  generalize hT : iterN dstepF m c1 [] = tg
  refine Ret.go Tryz.func43 ?_
  simp (disch := omega) []
  refine cB 0 rB ?_
  simp (disch := omega) [r1]
  refine T.forI (fun i : Nat × Cur × List File => i.1) (fun i => i.2.1.ok ∧ i.2.2.length + i.1 ≤ m ∧ (∀ x ∈ i.2.2, x.path.size ≤ 10 ∧ x.text.size ≤ 10) ∧ iterN dstepF i.1 i.2.1 i.2.2 = tg) (fun i => [(0, .ref 100000 0), (3, .sl 5 0 i.2.2.length 2 false), (4, .sc (.int .i64 i.1))]) (fun i => [(100000, i.2.1.cs), (5, rows File.ty.oc i.2.2)]) (m, c1, []) ⟨⟨hc1, by simp, by simp, hT⟩, Tl.same rfl (by simp) (by simp [mens_idf (Cur.frl _)])⟩ ?_
  rintro ⟨j, d, out⟩ ⟨hd, hl, hs, hE⟩
  simp only at hd hl hs hE ⊢
  have hso := File.frL out
  have hrl := File.ocl out
  cases j with
  | zero =>
    have e1 : tg = (out, d) := hE.symm
    subst e1
    simp (disch := omega) []
    refine T.on 400 ?_
    simp (disch := omega) [ex1, Cur.frl, ioPos1, hrl, hso]
  | succ j =>
    have hE2 : iterN dstepF j (dfileF d).2 (putFile out (dfileF d).1).1 = tg := hE
    have rp0 := R74 d hd
    have hd1 := belowC_ok hd 8
    have rt : Ret Tryz.prog 18 [.bx (belowC d 8).cs, .own (rows Ty.str.oc dtextL) 4 1] (.sc (.string (pickS dtextL (belowC d 8) 4))) [.bx (belowC (belowC d 8) 4).cs, .un] := R18 _ hd1 dtextL (by decide)
    have hd2 := belowC_ok hd1 4
    have hfs := dfile_size d
    unfold dfileF at hE2 hfs
    generalize belowC (belowC d 8) 4 = d2 at *
    generalize pickS dtextL (belowC d 8) 4 = b at *
    generalize belowC d 8 = d1 at *
    generalize pickS dpathL d 8 = a at *
    simp only at hE2 hfs
    have hok : File.ty.slice.ok out := ⟨show out.length * 32 ≤ 140737488351232 by omega, fun x hx => ⟨show x.path.size ≤ 140737488351232 by have := hs x hx; omega, show x.text.size ≤ 140737488351232 by have := hs x hx; omega, trivial⟩⟩
    have rP := R45 out ⟨a, b⟩ hok (fun x hx => by have := hs x hx; omega) (by show a.size ≤ _; omega)
    have hpl := putFile_len out ⟨a, b⟩
    have hpm := putFile_mem out ⟨a, b⟩
    rw [File.cse] at rP
    generalize putFile out ⟨a, b⟩ = q at *
    have hq1 := File.frL q.1
    simp (disch := omega) []
    refine cB 0 rp0 ?_
    simp (disch := omega) []
    refine cL 17 rt ?_
    simp (disch := omega) []
    refine cR rP ?_ (hys := by simp [roc_agg, File.roc8, shut.shutL, shut]) (hfl := by simpa [flt, flt.fltL] using File.ty.flo q.1)
    simp (disch := omega) []
    refine Ri_mk (j, d2, q.1) (by simp) ⟨hd2, by simp; omega, fun x hx => (hpm x hx).elim (fun e => e ▸ hfs) (hs x), hE2⟩ (Tl.ren [(100000, 100000), (1000, 5)] rfl ?_)
    simp [hq1, Cur.frl, idfree, idfree.idfreeL]
end Go.Proofs.YtchbcmenmlohfaaGreatDoor.Am
namespace Go.Proofs.YtchbcmenmlohfaaGreatDoor.Am
open Go Go.Proofs
set_option linter.unusedSimpArgs false
set_option linter.unusedVariables false
attribute [local congr] T_congr callK_congr callWK_congr
attribute [local simp] run_nil run_op0 run_opg run_seq run_cond run_block run_ret run_skip run_skip_after run_skip_blk run_exit run_exit_after run_exit_blk run_loop run_any runS_nil runS_op0 runS_opg runW_nil runW_op0 runW_opg exec_q exec_w exec_c exec_n execW_q execW_w execW_c restW_app hideH_app merge_app wblk rest_app restS_app execS_q execS_c aval dOk upd_app ev_t ev_c setO_some setO_none put_mk pinsOf isIo hasIo sbin endR fin resL one outL out1 clo1 cloL coe coeL shut shut.shutL wantA weff cellsOf fillA deref natOf ρ0_app h0_app plain plain.plainL keep_app keepH_app andThen_normal andThen_ret andThen_exit pop_nil pop_after pop_after_ret pop_after_exit pop_blk pop_blk_ret pop_blk_exit nilA srcOf srcCells keepR_app keepHR_app renA rb toldρ toldH toldT toldB menQ_sc menQ_sl menQ_ref menQ_em menQ_un menQ_roT mens_cons mens_nil toldF merge_nil hideH_nil str_n rows_nil rowsS_len rowsC_len rowsC_fr rowsS_fr Rd_mk Rl_mk menB exQ_exit exQ_ret wrap_i64 bs_size bs_list bs_toList bs_get bs_extract mk_bs bs_eta List.getElem?_cons_zero List.getElem?_cons_succ List.length_cons oLt oNlt oLe oNle nLt nNlt nLe nNle iniρ andThen_normal
set_option maxRecDepth 100000
theorem split_small {s : ByteArray} (hs : s.size ≤ 1048576) : (splitS s 47).length ≤ 1048577 ∧ ∀ x ∈ splitS s 47, x.size ≤ 1048577 := by
  have h1 : ∀ x ∈ splitS s 47, x.size ≤ s.size := splitP_size s 47 _ 0 0
  have h2 : (splitS s 47).length ≤ s.size + 1 := splitP_len s 47 s.data.toList 0 0
  exact ⟨by omega, fun x hx => by have := h1 x hx; omega⟩
theorem rowsF_drop {pre rest : List File} {x : File} : List.drop (pre.length * 2) (rows File.ty.cs (pre ++ x :: rest)) = .sc (.string x.path) :: .sc (.string x.text) :: rows File.ty.cs rest := rows_drop File.ty.csn pre (x :: rest)
theorem R40 (g s : ByteArray) (hg : g.size ≤ 1048576) (hs : s.size ≤ 1048576) : Ret Tryz.prog 40 [.sc (.string g), .sc (.string s)] (.sc (.bool (matchB g s))) [.un, .un] := by
  have rg := R70 g 47 hg
  have rs := R70 s 47 hs
  rw [show (((47 : UInt8).toNat : Nat) : Int) = 47 from rfl] at rg rs
  obtain ⟨zg1, zg2⟩ := split_small hg
  obtain ⟨zs1, zs2⟩ := split_small hs
  refine Ret.go Tryz.func40 ?_
  simp
  refine cR (R67 g hg) ?_
  cases h1 : globB g
  · simp [matchB, h1]
  simp
  refine cR (R68 s hs) ?_
  cases h2 : pathOk s
  · simp [matchB, h1, h2]
  simp
  have hk : piecesB (splitS g 47) = true := by rw [globB, Bool.and_eq_true] at h1; exact h1.1
  refine cO 13 rg ?_ (Ty.str.flo _)
  simp
  refine cO 15 rs ?_ (Ty.str.flo _)
  simp
  refine cR (R69 _ _ hk zg1 zs1 zg2 zs2) ?_ (hys := by simp [rocS])
  simp [matchB, h1, h2]
set_option maxHeartbeats 1000000 in
theorem R13 (l : List File) (gs : List ByteArray) (hl : l.length ≤ 1048577) (hg : gs.length ≤ 1048577) (zl : ∀ x ∈ l, x.path.size ≤ 1048576) (zg : ∀ x ∈ gs, x.size ≤ 1048576) :
    Ret Tryz.prog 13 [.ro (rows File.ty.cs l) l.length, .ro (rows Ty.str.cs gs) gs.length] (.own (rows File.ty.oc (l.filter (pickB gs))) (l.filter (pickB gs)).length 2) [.un, .un] := by
  obtain ⟨F, hF⟩ : ∃ F : List File → List File, F = fun l => l.filter (pickB gs) := ⟨_, rfl⟩
  have F0 : F [] = [] := by rw [hF]; rfl
  have F1 : ∀ pre x, F (pre ++ [x]) = if pickB gs x = true then F pre ++ [x] else F pre := fun pre x => by rw [hF]; simp only [List.filter_append]; split <;> simp [*]
  have Fl : ∀ l, (F l).length ≤ l.length := fun l => by rw [hF]; exact List.length_filter_le _ _
  have Fi : ∀ l, idfree.idfreeL (rows File.ty.oc (F l)) = true := fun l => File.frL _
  rw [show l.filter (pickB gs) = F l by rw [hF]]
  have Mi : ∀ q l, mens q (rows File.ty.oc (F l)) = true := fun q l => mens_idf (Fi l)
  clear hF
  refine Ret.go Tryz.func13 ?_
  simp
  refine T.le (Le.lay 5 50 2 (by simp) (by simp)) ?_
  refine T.forR l (fun _ _ => True) (fun pre _ => [(1, .ro (rows Ty.str.cs gs) gs.length), (5, .sl 50 0 (F pre).length 2 false), (10, .ro (rows File.ty.cs l) l.length), (11, .sc (.int .i64 l.length)), (12, .sc (.int .i64 pre.length))]) (fun pre _ => [(50, rows File.ty.oc (F pre))]) ⟨trivial, Tl.same rfl (by simp [F0]) (by simp [F0, rows])⟩ ?_ ?_
  · intro _
    simp
    refine T.on 400 ?_
    simp [ex1, Fi, File.ocl]
  · intro pre x rest hx hl2 _
    have hd : List.drop (pre.length * 2) (rows File.ty.cs l) = .sc (.string x.path) :: .sc (.string x.text) :: rows File.ty.cs rest := by rw [← hx, rowsF_drop]
    have h3 := Fl pre
    have hxz := zl x (by rw [← hx]; simp)
    simp (disch := omega) [hd, over]
    refine T.cutB [(1, .ro (rows Ty.str.cs gs) gs.length), (5, .sl 50 0 (F (pre ++ [x])).length 2 false), (10, .ro (rows File.ty.cs l) l.length), (11, .sc (.int .i64 l.length)), (12, .sc (.int .i64 pre.length))] [(50, rows File.ty.oc (F (pre ++ [x])))] ?_ ?_
    · refine T.forL gs (fun p _ => p.any (fun g => matchB g x.path) = false) (fun p _ => [(1, .ro (rows Ty.str.cs gs) gs.length), (5, .sl 50 0 (F pre).length 2 false), (7, .ref 7 0), (10, .ro (rows File.ty.cs l) l.length), (11, .sc (.int .i64 l.length)), (12, .sc (.int .i64 pre.length)), (16, .ro (rows Ty.str.cs gs) gs.length), (17, .sc (.int .i64 gs.length)), (18, .sc (.int .i64 p.length))])
        (fun _ _ => [(7, [.sc (.string x.path), .sc (.string x.text)]), (50, rows File.ty.oc (F pre))]) (by simp [Mi]) ?_ ?_
      · intro hJ
        have e : F (pre ++ [x]) = F pre := by rw [F1, if_neg (by simp [pickB, hJ])]
        rw [e]
        simp
        exact Tl.same rfl (by simp) (by simp [Mi])
      · intro p g r hx2 hl3 hJ
        have hgz := zg g (by rw [← hx2]; simp)
        have hd2 : List.drop p.length (rows Ty.str.cs gs) = .sc (.string g) :: rows Ty.str.cs r := by rw [rowsC_drop, ← hx2, drop_pre, rowsC_cons]
        simp at hJ
        simp (disch := omega) [hd2]
        refine cR (R40 g x.path hgz hxz) ?_
        cases hb : matchB g x.path
        · simp (disch := omega) [hb, Mi]
          exact hJ
        · have e : F (pre ++ [x]) = F pre ++ [x] := by rw [F1, if_pos (by rw [pickB, ← hx2]; simp [hb])]
          have hr : rows File.ty.oc (F (pre ++ [x])) = rows File.ty.oc (F pre) ++ [.sc (.string x.path), .sc (.string x.text)] := by rw [e, rows_append, rows_one]; rfl
          have hi := Fi (pre ++ [x])
          have hL := congrArg List.length e
          simp at hL
          rw [hr] at hi
          simp (disch := omega) [over, File.ocl, hL]
          exact Tl.ren [(29, 50)] rfl (by simp [idfree, hr, hi])
    · simp (disch := omega) []
      exact Tl.same rfl (by simp (disch := omega) []) (by simp [Mi])
set_option maxRecDepth 100000
def sameP (n : ByteArray) (x : Pack) : Bool := x.name.toList == n.toList
def sameK (n : ByteArray) (x : Cmd) : Bool := x.task.toList == n.toList
def pIx (n : ByteArray) (l : List Pack) : Int := idx (sameP n) l 0
def cmdO (l : List Pack) (p t : ByteArray) : Option Cmd := (l.find? (sameP p)).bind fun x => x.cmds.find? (sameK t)
def cmdA : Option Cmd → AV
  | some c => .tup [.agg (Cmd.ty.cs c), .sc (.bool true)]
  | none => .tup [.agg [.sc (.string ⟨#[]⟩), .em], .sc (.bool false)]
theorem idx_cs {α : Type} (f : α → Bool) : ∀ (l : List α) (n : Int), (idx f l n = -1 ∧ ∀ x ∈ l, f x = false) ∨ ∃ pre x rest, l = pre ++ x :: rest ∧ (∀ y ∈ pre, f y = false) ∧ f x = true ∧ idx f l n = pre.length + n
  | [], n => .inl ⟨rfl, by simp⟩
  | x :: l, n => by
    cases h : f x
    · rcases idx_cs f l (n + 1) with ⟨e, h2⟩ | ⟨pre, y, rest, e, h2, h3, h4⟩
      · refine .inl ⟨by simp [idx, h, e], fun y hy => ?_⟩
        rcases List.mem_cons.1 hy with rfl | hy
        · exact h
        · exact h2 y hy
      · refine .inr ⟨x :: pre, y, rest, by rw [e]; rfl, fun z hz => ?_, h3, ?_⟩
        · rcases List.mem_cons.1 hz with rfl | hz
          · exact h
          · exact h2 z hz
        · simp only [idx, h, Bool.false_eq_true, if_false, h4, List.length_cons]
          omega
    · exact .inr ⟨[], x, l, rfl, by simp, h, by simp [idx, h]⟩
theorem pIx_cases (n : ByteArray) (l : List Pack) : (pIx n l = -1 ∧ l.find? (sameP n) = none) ∨ ∃ pre x rest, l = pre ++ x :: rest ∧ (∀ y ∈ pre, sameP n y = false) ∧ sameP n x = true ∧ pIx n l = pre.length ∧ l.find? (sameP n) = some x := by
  rcases idx_cs (sameP n) l 0 with ⟨e, h⟩ | ⟨pre, x, rest, e, h1, h2, h3⟩
  · exact .inl ⟨e, List.find?_eq_none.2 fun y hy => by simp [h y hy]⟩
  · refine .inr ⟨pre, x, rest, e, h1, h2, h3.trans (Int.add_zero _), ?_⟩
    rw [e, List.find?_append, List.find?_eq_none.2 fun y hy => by simp [h1 y hy]]
    simp [h2]
theorem rowsP_drop {pre rest : List Pack} {x : Pack} : List.drop (pre.length * 4) (rows Pack.ty.cs (pre ++ x :: rest)) = Pack.ty.cs x ++ rows Pack.ty.cs rest := rows_drop Pack.ty.csn pre (x :: rest)
theorem rowsC2_drop {pre rest : List Cmd} {x : Cmd} : List.drop (pre.length * 2) (rows Cmd.ty.cs (pre ++ x :: rest)) = .sc (.string x.task) :: .ro (rows Ty.str.cs x.acts) x.acts.length :: rows Cmd.ty.cs rest := rows_drop Cmd.ty.csn pre (x :: rest)
theorem R78 (n : ByteArray) (x : Pack) : Ret Tryz.prog 78 [.agg (Pack.ty.cs x), .rp [.sc (.string n)] 0] (.sc (.bool (sameP n x))) [.un, .un] := by
  refine Ret.go Tryz.func78 ?_
  simp [Pack.cse, sameP]
theorem R77 (g : FuncId) (caps : List AV) (f : Pack → Bool) (hg : callB Tryz.prog g = true) (hsh : shut.shutL caps = true) (xs : List Pack) (hR : ∀ x ∈ xs, Ret Tryz.prog g (el true (Pack.ty.cs x) :: caps) (.sc (.bool (f x))) (.un :: caps.map fun _ => .un)) (hb : xs.length < 4611686018427387904) :
    Ret Tryz.prog 77 [.ro (rows Pack.ty.cs xs) xs.length, .clo g caps] (.sc (.int .i64 (idx f xs 0))) [.un, .un] :=
  Ret.indexFunc Pack.ty (agg := true) Tryz.func77 ⟨by kernel_rfl, by kernel_rfl, by kernel_rfl⟩ (fun h => by cases h) g caps f hg hsh xs hR hb
theorem R46 (xs : List Pack) (n : ByteArray) (hb : xs.length ≤ 1048577) : Ret Tryz.prog 46 [.ro (rows Pack.ty.cs xs) xs.length, .sc (.string n)] (.sc (.int .i64 (pIx n xs))) [.un, .un] := by
  refine Ret.go Tryz.func46 ?_
  simp
  refine cR (ys := [.ro (rows Pack.ty.cs xs) xs.length, .clo 78 [.rp [.sc (.string n)] 0]]) (R77 78 [.rp [.sc (.string n)] 0] (sameP n) (by kernel_rfl) rfl xs (fun x _ => R78 n x) (by omega)) ?_ (hys := by simp [roc_ro, roc])
  simp [pIx]
theorem R55 (xs : List Pack) (n : ByteArray) (hb : xs.length ≤ 1048577) : Ret Tryz.prog 55 [.ro (rows Pack.ty.cs xs) xs.length, .sc (.string n)] (.sc (.int .i64 (pIx n xs))) [.un, .un] := by
  refine Ret.go Tryz.func55 ?_
  simp (disch := omega) []
  refine T.forL xs (fun pre _ => ∀ y ∈ pre, sameP n y = false) (fun pre _ => [(0, .ro (rows Pack.ty.cs xs) xs.length), (1, .sc (.string n)), (5, .sc (.int .i64 pre.length))]) (fun _ _ => []) (by simp) ?_ ?_
  · intro hJ
    have e : pIx n xs = -1 := by
      rcases pIx_cases n xs with ⟨e, _⟩ | ⟨pre, x, rest, e, _, h2, _⟩
      · exact e
      · have := hJ x (by rw [e]; simp)
        rw [this] at h2; cases h2
    simp (disch := omega) []
    refine T.on 400 ?_
    simp [e]
  · intro pre x rest hx hl hJ
    have hd : List.drop (pre.length * 4) (rows Pack.ty.cs xs) = Pack.ty.cs x ++ rows Pack.ty.cs rest := by rw [← hx, rowsP_drop]
    by_cases h : x.name.toList = n.toList
    · have e : pIx n xs = pre.length := by
        have : ∀ (p : List Pack) (k : Int), (∀ y ∈ p, sameP n y = false) → idx (sameP n) (p ++ x :: rest) k = p.length + k := by
          intro p
          induction p with
          | nil => intro k _; simp [idx, sameP, h]
          | cons y p ih => intro k hy; simp only [List.cons_append, idx, hy y (List.mem_cons_self ..), Bool.false_eq_true, if_false, ih (k + 1) (fun z hz => hy z (List.mem_cons_of_mem _ hz)), List.length_cons]; omega
        rw [pIx, ← hx, this pre 0 hJ, Int.add_zero]
      simp (disch := omega) [hd, Pack.cse, h, e]
    · simp (disch := omega) [hd, Pack.cse, h]
      intro y hy
      rcases hy with hy | rfl
      · exact hJ y hy
      · simp [sameP, h]
theorem find_pre {α : Type} {f : α → Bool} {pre rest : List α} {x : α} (h1 : ∀ y ∈ pre, f y = false) (h2 : f x = true) : (pre ++ x :: rest).find? f = some x := by
  rw [List.find?_append, List.find?_eq_none.2 fun y hy => by simp [h1 y hy]]
  simp [h2]
theorem R20 (xs : List Pack) (p t : ByteArray) (hb : xs.length ≤ 1048577) (hc : ∀ x ∈ xs, x.cmds.length ≤ 1048577) : Ret Tryz.prog 20 [.ro (rows Pack.ty.cs xs) xs.length, .sc (.string p), .sc (.string t)] (cmdA (cmdO xs p t)) [.un, .un, .un] := by
  refine Ret.go Tryz.func20 ?_
  simp
  refine cR (R46 xs p hb) ?_
  rcases pIx_cases p xs with ⟨e, hn⟩ | ⟨pre, x, rest, e, _, _, hi, hn⟩
  · simp (disch := omega) [e, cmdO, hn, cmdA, over]
  rw [cmdO, hn, Option.bind_some, hi]
  have hxc := hc x (by rw [e]; simp)
  have hlt : pre.length < xs.length := by rw [e]; simp
  have hd : List.drop (pre.length * 4) (rows Pack.ty.cs xs) = Pack.ty.cs x ++ rows Pack.ty.cs rest := by rw [e, rowsP_drop]
  have hd3 := congrArg (List.drop 3) hd
  rw [List.drop_drop] at hd3
  simp (disch := omega) [hd3, Pack.cse]
  refine T.forL x.cmds (fun pre _ => ∀ y ∈ pre, sameK t y = false) (fun pre _ => [(2, .sc (.string t)), (6, .ref 6 0), (21, .ro (rows Cmd.ty.cs x.cmds) x.cmds.length), (22, .sc (.int .i64 x.cmds.length)), (23, .sc (.int .i64 pre.length))]) (fun _ _ => [(6, [.sc (.string ⟨#[]⟩), .em])]) (by simp) ?_ ?_
  · intro hJ
    have e : x.cmds.find? (sameK t) = none := List.find?_eq_none.2 fun y hy => by simp [hJ y hy]
    simp (disch := omega) [e, cmdA]
    refine T.on 400 ?_
    simp [over]
  · intro q c r hx hl hJ
    have hd2 : List.drop (q.length * 2) (rows Cmd.ty.cs x.cmds) = .sc (.string c.task) :: .ro (rows Ty.str.cs c.acts) c.acts.length :: rows Cmd.ty.cs r := by rw [← hx, rowsC2_drop]
    by_cases h : c.task.toList = t.toList
    · have e : x.cmds.find? (sameK t) = some c := by rw [← hx]; exact find_pre hJ (by simp [sameK, h])
      simp (disch := omega) [hd2, h, e, over, cmdA, Cmd.cse]
    · simp (disch := omega) [hd2, h, over]
      intro y hy
      rcases hy with hy | rfl
      · exact hJ y hy
      · simp [sameK, h]
theorem R48 (xs : List Pack) (p t : ByteArray) (hb : xs.length ≤ 1048577) (hc : ∀ x ∈ xs, x.cmds.length ≤ 1048577) : Ret Tryz.prog 48 [.ro (rows Pack.ty.cs xs) xs.length, .sc (.string p), .sc (.string t)] (.sc (.bool (cmdO xs p t).isSome)) [.un, .un, .un] := by
  refine Ret.go Tryz.func48 ?_
  simp
  refine cR (R46 xs p hb) ?_
  rcases pIx_cases p xs with ⟨e, hn⟩ | ⟨pre, x, rest, e, _, _, hi, hn⟩
  · simp (disch := omega) [e, cmdO, hn]
  rw [cmdO, hn, Option.bind_some, hi]
  have hxc := hc x (by rw [e]; simp)
  have hlt : pre.length < xs.length := by rw [e]; simp
  have hd : List.drop (pre.length * 4) (rows Pack.ty.cs xs) = Pack.ty.cs x ++ rows Pack.ty.cs rest := by rw [e, rowsP_drop]
  have hd3 := congrArg (List.drop 3) hd
  rw [List.drop_drop] at hd3
  simp (disch := omega) [hd3, Pack.cse]
  refine T.forL x.cmds (fun pre _ => ∀ y ∈ pre, sameK t y = false) (fun pre _ => [(2, .sc (.string t)), (19, .ro (rows Cmd.ty.cs x.cmds) x.cmds.length), (20, .sc (.int .i64 x.cmds.length)), (21, .sc (.int .i64 pre.length))]) (fun _ _ => []) (by simp) ?_ ?_
  · intro hJ
    have e : x.cmds.find? (sameK t) = none := List.find?_eq_none.2 fun y hy => by simp [hJ y hy]
    rw [e]
    simp (disch := omega) []
    refine T.on 400 ?_
    simp
  · intro q c r hx hl hJ
    have hd2 : List.drop (q.length * 2) (rows Cmd.ty.cs x.cmds) = .sc (.string c.task) :: .ro (rows Ty.str.cs c.acts) c.acts.length :: rows Cmd.ty.cs r := by rw [← hx, rowsC2_drop]
    by_cases h : c.task.toList = t.toList
    · have e : x.cmds.find? (sameK t) = some c := by rw [← hx]; exact find_pre hJ (by simp [sameK, h])
      rw [e]
      simp (disch := omega) [hd2, h, over]
    · simp (disch := omega) [hd2, h, over]
      intro y hy
      rcases hy with hy | rfl
      · exact hJ y hy
      · simp [sameK, h]
theorem R27 (xs : List Pack) (p t : ByteArray) (hb : xs.length ≤ 1048577) (hc : ∀ x ∈ xs, x.cmds.length ≤ 1048577) : Ret Tryz.prog 27 [.ro (rows Pack.ty.cs xs) xs.length, .sc (.string p), .sc (.string t)] (cmdA (cmdO xs p t)) [.un, .un, .un] := by
  refine Ret.go Tryz.func27 ?_
  simp
  refine cR (R55 xs p hb) ?_
  rcases pIx_cases p xs with ⟨e, hn⟩ | ⟨pre, x, rest, e, _, _, hi, hn⟩
  · have h0 : ¬ (0 : Int) ≤ -1 := by omega
    simp (disch := omega) [e, cmdO, hn, cmdA]
    refine T.forI (fun _ : Nat => 0) (fun _ => True) (fun _ => [(6, .ref 6 0), (8, .sc (.int .i64 (-1)))]) (fun _ => [(6, [.sc (.string ⟨#[]⟩), .em])]) 0 ⟨trivial, Tl.same rfl (by simp) (by simp)⟩ ?_
    intro i _
    simp (disch := omega) [h0]
    refine T.on 400 ?_
    simp [over]
  rw [cmdO, hn, Option.bind_some, hi]
  have hxc := hc x (by rw [e]; simp)
  have hlt : pre.length < xs.length := by rw [e]; simp
  have hd : List.drop (pre.length * 4) (rows Pack.ty.cs xs) = Pack.ty.cs x ++ rows Pack.ty.cs rest := by rw [e, rowsP_drop]
  have hd3 := congrArg (List.drop 3) hd
  rw [List.drop_drop] at hd3
  simp (disch := omega) []
  refine T.forL x.cmds (fun pre _ => ∀ y ∈ pre, sameK t y = false) (fun q _ => [(0, .ro (rows Pack.ty.cs xs) xs.length), (2, .sc (.string t)), (6, .ref 6 0), (8, .sc (.int .i64 pre.length)), (9, .sc (.int .i64 q.length))]) (fun _ _ => [(6, [.sc (.string ⟨#[]⟩), .em])]) (by simp) ?_ ?_
  · intro hJ
    have e : x.cmds.find? (sameK t) = none := List.find?_eq_none.2 fun y hy => by simp [hJ y hy]
    simp (disch := omega) [e, cmdA, hd3, Pack.cse]
    refine T.on 400 ?_
    simp [over]
  · intro q c r hx hl hJ
    have hd2 : List.drop (q.length * 2) (rows Cmd.ty.cs x.cmds) = .sc (.string c.task) :: .ro (rows Ty.str.cs c.acts) c.acts.length :: rows Cmd.ty.cs r := by rw [← hx, rowsC2_drop]
    by_cases h : c.task.toList = t.toList
    · have e : x.cmds.find? (sameK t) = some c := by rw [← hx]; exact find_pre hJ (by simp [sameK, h])
      simp (disch := omega) [hd3, hd2, h, e, over, cmdA, Cmd.cse, Pack.cse]
    · simp (disch := omega) [hd3, hd2, h, over, Pack.cse]
      intro y hy
      rcases hy with hy | rfl
      · exact hJ y hy
      · simp [sameK, h]
theorem R89 (xs : List Pack) (p t : ByteArray) (hb : xs.length ≤ 1048577) (hc : ∀ x ∈ xs, x.cmds.length ≤ 1048577) : Ret Tryz.prog 89 [.ro (rows Pack.ty.cs xs) xs.length, .sc (.string p), .sc (.string t)] (.sc (.bool (cmdO xs p t).isSome)) [.un, .un, .un] := by
  have hR := R27 xs p t hb hc
  refine Ret.go Tryz.func89 ?_
  cases h : cmdO xs p t with
  | none =>
    rw [h] at hR
    simp
    refine cR hR ?_
    simp [over]
  | some c =>
    rw [h] at hR
    simp
    refine cX 0 hR ?_
    simp [over, Cmd.cse]
theorem R19 (p t : ByteArray) (hp : p.size ≤ 1048576) (ht : t.size ≤ 1048576) : Ret Tryz.prog 19 [.sc (.string p), .sc (.string t)] (.sc (.string (p ++ bs [35] ++ t))) [.un, .un] := by
  refine Ret.go Tryz.func19 ?_
  have h1 : p.size + 1 ≤ 9223372036854775807 := by omega
  have h2 : p.size + 1 + t.size ≤ 9223372036854775807 := by omega
  simp (disch := omega) [ByteArray.size_append]
end Go.Proofs.YtchbcmenmlohfaaGreatDoor.Am
namespace Go.Proofs.YtchbcmenmlohfaaGreatDoor.Am
open Go Go.Proofs
set_option linter.unusedSimpArgs false
set_option linter.unusedVariables false
attribute [local congr] T_congr callK_congr callWK_congr
attribute [local simp] run_nil run_op0 run_opg run_seq run_cond run_block run_ret run_skip run_skip_after run_skip_blk run_exit run_exit_after run_exit_blk run_loop run_any runS_nil runS_op0 runS_opg runW_nil runW_op0 runW_opg exec_q exec_w exec_c exec_n execW_q execW_w execW_c restW_app hideH_app merge_app wblk rest_app restS_app execS_q execS_c aval dOk upd_app ev_t ev_c setO_some setO_none put_mk pinsOf isIo hasIo sbin endR fin resL one outL out1 clo1 cloL coe coeL shut shut.shutL wantA weff cellsOf fillA deref natOf ρ0_app h0_app plain plain.plainL keep_app keepH_app andThen_normal andThen_ret andThen_exit pop_nil pop_after pop_after_ret pop_after_exit pop_blk pop_blk_ret pop_blk_exit nilA srcOf srcCells keepR_app keepHR_app renA rb
def parseT (s : ByteArray) : Option (ByteArray × ByteArray) :=
  if nameOk (cutF s 35).1 = true ∧ nameOk (cutF s 35).2.1 = true then some ((cutF s 35).1, (cutF s 35).2.1) else none
def taskA : Option (ByteArray × ByteArray) → AV
  | some (a, b) => .tup [.sc (.string a), .sc (.string b), .sc (.bool true)]
  | none => .tup [.sc (.string ⟨#[]⟩), .sc (.string ⟨#[]⟩), .sc (.bool false)]
theorem cutF_size (s : ByteArray) (c : UInt8) : (cutF s c).1.size ≤ s.size ∧ (cutF s c).2.1.size ≤ s.size := by
  unfold cutF
  split
  · exact ⟨by rw [ByteArray.size_extract]; omega, by rw [ByteArray.size_extract]; omega⟩
  · exact ⟨Nat.le_refl _, Nat.zero_le _⟩
theorem nameC35 (i : Nat) : nameC i 35 = false := by
  have e : ((35 : UInt8).toNat : Int) = 35 := rfl
  simp [nameC, e, smallI, figI]
theorem nameL35 : ∀ (l : List UInt8) (i : Nat), (35 : UInt8) ∈ l → nameL l i = false
  | [], i, h => by simp at h
  | x :: l, i, h => by
    rcases List.mem_cons.1 h with rfl | h
    · rw [nameL, nameC35]; rfl
    · rw [nameL, nameL35 l _ h, Bool.and_false]
theorem name35 {s : ByteArray} (h : (35 : UInt8) ∈ s.data.toList) : nameOk s = false := by
  rw [nameOk, nameL35 _ _ h]; rfl
theorem nameE : nameOk ⟨#[]⟩ = false := rfl
theorem parseT_split (s : ByteArray) : parseT s = match splitS s 35 with
    | [a, b] => if nameOk a = true ∧ nameOk b = true then some (a, b) else none
    | _ => none := by
  have e35 : ((35 : UInt8).toNat : Int) = 35 := rfl
  unfold parseT splitS
  rcases ixB_cases 35 s.data.toList with ⟨e, hn⟩ | ⟨p, q, e, hn, e2⟩
  · have h := splitP_miss s 35 0 s.data.toList 0 hn
    rw [e35] at h
    rw [h]
    have hc : (cutF s 35).2.1 = ⟨#[]⟩ := by unfold cutF; rw [e]; rfl
    rw [hc, nameE]
    simp
  · have h := splitP_hit s 35 0 q p 0 hn
    rw [← e, e35] at h
    rw [h]
    have hsz := str_len e.symm
    simp only [List.length_append, List.length_cons] at hsz
    have hc : cutF s 35 = (s.extract 0 p.length, s.extract (p.length + 1) s.size, true) := by unfold cutF; rw [e2]; simp
    have hq : (s.extract (p.length + 1) s.size).data.toList = q := by
      rw [drop_str, e, show p.length + 1 = (p ++ [(35 : UInt8)]).length by simp, show p ++ (35 : UInt8) :: q = (p ++ [35]) ++ q by simp, List.drop_left]
    rw [hc]
    simp only [Nat.zero_add]
    by_cases hm : (35 : UInt8) ∈ q
    · have hf : nameOk (s.extract (p.length + 1) s.size) = false := name35 (by rw [hq]; exact hm)
      rw [hf]
      obtain ⟨p2, q2, e3, hn2⟩ : ∃ p2 q2, q = p2 ++ (35 : UInt8) :: q2 ∧ (35 : UInt8) ∉ p2 := by
        rcases ixB_cases 35 q with ⟨_, h⟩ | ⟨p2, q2, h, h2, _⟩
        · exact absurd hm h
        · exact ⟨p2, q2, h, h2⟩
      have h2 := splitP_hit s 35 (p.length + 1) q2 p2 (p.length + 1) hn2
      rw [e35] at h2
      rw [e3, h2]
      cases q3 : splitP s 35 (p.length + 1 + p2.length + 1) (p.length + 1 + p2.length + 1) q2 with
      | nil =>
        have h3 := splitP_cnt s 35 q2 (p.length + 1 + p2.length + 1) (p.length + 1 + p2.length + 1)
        rw [e35, q3] at h3
        simp at h3
      | cons x l => simp
    · have h2 := splitP_miss s 35 (p.length + 1) q (p.length + 1) hm
      rw [e35] at h2
      rw [h2, show p.length + 1 + q.length = s.size by omega]
def A9 : AC := (.seq (.ops [yq 2 (.mov (.c (.sc (.string ⟨#[]⟩)))), yq 3 (.mov (.c (.sc (.string ⟨#[]⟩)))), yq 4 (.mov (.c (.sc (.bool false))))])
  (.seq (.ops [yq 9 (.mov (.t 0)), yc 10 37 [.t 9, (.c (.sc (.string ⟨#[35]⟩)))], yq 8 (.mov (.t 10)), yq 11 (.ext (.t 8) 0), yq 12 (.ext (.t 8) 1), yq 13 (.ext (.t 8) 2), yq 5 (.mov (.t 11)), yq 6 (.mov (.t 12)), yq 7 (.mov (.t 13))])
  (.seq (.seq (.ops [yq 14 (.mov (.t 5)), yc 15 38 [.t 14], yq 16 (.not (.t 15)), yq 17 (.mov (.t 16)), yg 18 17 false (.mov (.t 6)), yh 19 17 false 38 [.t 18], yg 20 17 false (.not (.t 19)), yq 21 (.pick (.t 17) (.c (.sc (.bool true))) (.t 20))])
  (.cond (.t 21) (.seq (.ops [yq 2 (.mov (.c (.sc (.string ⟨#[]⟩)))), yq 3 (.mov (.c (.sc (.string ⟨#[]⟩)))), yq 4 (.mov (.c (.sc (.bool false))))])
  .ret)
  .skip))
  (.seq (.ops [yq 22 (.mov (.t 5)), yq 23 (.mov (.t 6)), yq 2 (.mov (.t 22)), yq 3 (.mov (.t 23)), yq 4 (.mov (.c (.sc (.bool true))))])
  .ret))))
theorem K9 : yK Tryz.prog Tryz.f9 A9 24 [.mov (.t 2), .mov (.t 3), .mov (.t 4)] := ⟨by kernel_rfl, by kernel_rfl, by kernel_rfl⟩
theorem R9 (s : ByteArray) (hs : s.size ≤ 140737488351232) : Ret Tryz.prog 9 [.sc (.string s)] (taskA (parseT s)) [.un] := by
  obtain ⟨c1, c2⟩ := cutF_size s 35
  have hp : parseT s = if nameOk (cutF s 35).1 = true ∧ nameOk (cutF s 35).2.1 = true then some ((cutF s 35).1, (cutF s 35).2.1) else none := rfl
  obtain ⟨x, hx⟩ : ∃ x, x = cutF s 35 := ⟨_, rfl⟩
  have rc := R37 s 35 hs
  rw [← hx] at c1 c2 hp rc
  rw [hp]
  refine Ret.run Tryz.func9 K9 (by simp) rfl rfl 500 ?_
  simp [A9, iniρ]
  refine callK.ro 0 rfl (by kernel_rfl) (by simp [roc_sc]) rc rfl (by simp [cutRes, inst, instL, shut]; exact ⟨rfl, rfl⟩) rfl ?_
  simp
  refine callK.ro 0 rfl (by kernel_rfl) (by simp [roc_sc]) (R38 x.1 (by omega)) rfl rfl rfl ?_
  cases h1 : nameOk x.1
  case false => simp [taskA]
  simp
  refine callK.ro 0 rfl (by kernel_rfl) (by simp [roc_sc]) (R38 x.2.1 (by omega)) rfl rfl rfl ?_
  cases h2 : nameOk x.2.1
  case false => simp [taskA]
  simp [taskA]
def A26 : AC := (.seq (.ops [yq 2 (.mov (.c (.sc (.string ⟨#[]⟩)))), yq 3 (.mov (.c (.sc (.string ⟨#[]⟩)))), yq 4 (.mov (.c (.sc (.bool false))))])
  (.seq (.ops [yq 6 (.mov (.t 0)), yc 7 53 [.t 6, (.c (.sc (.int .u8 35)))], yq 5 (.mov (.t 7))])
  (.seq (.seq (.ops [yq 8 (.mov (.t 5)), yq 9 (.llen (.t 8)), yq 10 (.bin .neq (.t 9) (yi 2)), yq 11 (.mov (.t 10)), yg 12 11 false (.mov (.t 5)), yg 13 11 false (.iadr 1 (.t 12) (yi 0)), yg 14 11 false (.load false 1 (.t 13)), yh 15 11 false 54 [.t 14], yg 16 11 false (.not (.t 15)), yq 17 (.pick (.t 11) (.c (.sc (.bool true))) (.t 16)), yq 18 (.mov (.t 17)), yg 19 18 false (.mov (.t 5)), yg 20 18 false (.iadr 1 (.t 19) (yi 1)), yg 21 18 false (.load false 1 (.t 20)), yh 22 18 false 54 [.t 21], yg 23 18 false (.not (.t 22)), yq 24 (.pick (.t 18) (.c (.sc (.bool true))) (.t 23))])
  (.cond (.t 24) (.seq (.ops [yq 2 (.mov (.c (.sc (.string ⟨#[]⟩)))), yq 3 (.mov (.c (.sc (.string ⟨#[]⟩)))), yq 4 (.mov (.c (.sc (.bool false))))])
  .ret)
  .skip))
  (.seq (.any [(yq 25 (.mov (.t 5)), []), (yq 26 (.iadr 1 (.t 25) (yi 0)), [0]), (yq 27 (.load false 1 (.t 26)), [1]), (yq 28 (.mov (.t 5)), []), (yq 29 (.iadr 1 (.t 28) (yi 1)), [3]), (yq 30 (.load false 1 (.t 29)), [4]), (yq 2 (.mov (.t 27)), [2, 0, 1, 2]), (yq 3 (.mov (.t 30)), [5, 6, 0, 1, 2, 3, 4, 5, 6]), (yq 4 (.mov (.c (.sc (.bool true)))), [7, 0, 1, 2, 3, 4, 5, 6, 7])])
  .ret))))
theorem K26 : yK Tryz.prog Tryz.f26 A26 31 [.mov (.t 2), .mov (.t 3), .mov (.t 4)] := ⟨by kernel_rfl, by kernel_rfl, by kernel_rfl⟩
set_option maxHeartbeats 1000000 in
theorem R26 (s : ByteArray) (hs : s.size ≤ 1048576) : Ret Tryz.prog 26 [.sc (.string s)] (taskA (parseT s)) [.un] := by
  have hp := parseT_split s
  have hz : ∀ x ∈ splitS s 35, x.size ≤ s.size := splitP_size s 35 _ 0 0
  obtain ⟨ps, hps⟩ : ∃ ps, ps = splitS s 35 := ⟨_, rfl⟩
  have rs := R53 s 35 hs
  rw [← hps] at hz rs hp
  have rest : ∀ (l : List ByteArray), ps = l → l.length ≠ 2 → parseT s = none := fun l h1 h2 => by
    rw [hp, h1]
    match l, h2 with
    | [], _ => rfl
    | [_], _ => rfl
    | _ :: _ :: _ :: _, _ => rfl
    | [_, _], h2 => exact absurd rfl h2
  refine Ret.run Tryz.func26 K26 (by simp) rfl rfl 500 ?_
  simp [A26, iniρ]
  refine callK.own 7 rfl (by kernel_rfl) (by simp [roc_sc]) rs (Ty.str.flo ps) (by simp) rfl ?_
  by_cases hl : ps.length = 2
  case neg =>
    have hl' : ¬ ((ps.length : Int) = 2) := by omega
    rw [rest ps rfl hl]
    simp [hl, hl', taskA]
  obtain ⟨a, b, rfl⟩ : ∃ a b, ps = [a, b] := by
    match ps, hl with
    | [a, b], _ => exact ⟨a, b, rfl⟩
  have ha := hz a (by simp)
  have hb := hz b (by simp)
  have er : rows Ty.str.oc [a, b] = [.sc (.string a), .sc (.string b)] := rfl
  simp only at hp
  rw [hp]
  simp [er]
  refine callK.ro 0 rfl (by kernel_rfl) (by simp [roc_sc, upd_app]) (R54 a (by omega)) rfl rfl rfl ?_
  cases h1 : nameOk a
  case false => simp [taskA]
  simp [er]
  refine callK.ro 0 rfl (by kernel_rfl) (by simp [roc_sc, upd_app]) (R54 b (by omega)) rfl rfl rfl ?_
  cases h2 : nameOk b
  case false => simp [taskA]
  simp
  refine T.text 400 mixed (by kernel_rfl) (by kernel_rfl) ?_
  simp [er, taskA]
end Go.Proofs.YtchbcmenmlohfaaGreatDoor.Am
namespace Go.Proofs.YtchbcmenmlohfaaGreatDoor.Am
open Go Go.Proofs
set_option linter.unusedSimpArgs false
set_option linter.unusedVariables false
attribute [local congr] T_congr callK_congr callWK_congr
attribute [local simp] run_nil run_op0 run_opg run_seq run_cond run_block run_ret run_skip run_skip_after run_skip_blk run_exit run_exit_after run_exit_blk run_loop run_any runS_nil runS_op0 runS_opg runW_nil runW_op0 runW_opg exec_q exec_w exec_c exec_n execW_q execW_w execW_c restW_app hideH_app merge_app wblk rest_app restS_app execS_q execS_c aval dOk upd_app ev_t ev_c setO_some setO_none put_mk pinsOf isIo hasIo sbin endR fin resL one outL out1 clo1 cloL coe coeL shut shut.shutL wantA weff cellsOf fillA deref natOf ρ0_app h0_app plain plain.plainL keep_app keepH_app andThen_normal andThen_ret andThen_exit pop_nil pop_after pop_after_ret pop_after_exit pop_blk pop_blk_ret pop_blk_exit nilA srcOf srcCells keepR_app keepHR_app renA rb toldρ toldH toldT toldB menQ_sc menQ_sl menQ_ref menQ_em menQ_un menQ_roT mens_cons mens_nil toldF merge_nil hideH_nil str_n rows_nil rowsS_len rowsC_len rowsC_fr rowsS_fr Rd_mk Rl_mk menB exQ_exit exQ_ret wrap_i64 bs_size bs_list bs_toList bs_get bs_extract mk_bs bs_eta List.getElem?_cons_zero List.getElem?_cons_succ List.length_cons oLt oNlt oLe oNle nLt nNlt nLe nNle iniρ andThen_normal
set_option maxRecDepth 100000
def sameR (t : ByteArray) (x : Rule) : Bool := x.task.toList == t.toList
def ruleO (l : List Rule) (t : ByteArray) : Rule := (l.find? (sameR t)).getD ⟨t, [], [], [], false⟩
def hasR (l : List Rule) (t : ByteArray) : Bool := (l.find? (sameR t)).isSome
structure RL (r : Rule) : Prop where
  o : r.on.length ≤ 1048577
  i : r.ins.length ≤ 1048577
  e : r.envs.length ≤ 1048577
theorem R21 (xs : List ByteArray) (hb : xs.length ≤ 4398046511104) : Ret Tryz.prog 21 [.ro (rows Ty.str.cs xs) xs.length] (.own (rows Ty.str.oc xs) xs.length 1) [.un] := Ret.clone Ty.str rfl (bytes := 16) Tryz.func21 ⟨by kernel_rfl, by kernel_rfl, by kernel_rfl⟩ xs (by omega)
theorem R39 (r : Rule) (h : RL r) : Ret Tryz.prog 39 [.agg (Rule.ty.cs r)] (.agg (Rule.ty.oc r)) [.un] := by
  refine Ret.go Tryz.func39 ?_
  simp [Rule.cse, over]
  refine T.textE [(2, [5]), (5, [8]), (8, [11]), (10, [1]), (12, [1]), (14, [1])] ?_ mixed
  simp
  refine cW 5 (R21 r.on (Nat.le_trans h.o (by decide))) ?_ (Ty.str.flo _)
  simp
  refine cW 8 (R21 r.ins (Nat.le_trans h.i (by decide))) ?_ (Ty.str.flo _)
  simp
  refine cW 11 (R21 r.envs (Nat.le_trans h.e (by decide))) ?_ (Ty.str.flo _)
  simp [over, ex1, Rule.oce]
theorem R10 (l : List Rule) (t : ByteArray) (hl : l.length ≤ 1048577) (hr : ∀ x ∈ l, RL x) : Ret Tryz.prog 10 [.ro (rows Rule.ty.cs l) l.length, .sc (.string t)] (.tup [.agg (Rule.ty.oc (ruleO l t)), .sc (.bool (hasR l t))]) [.un, .un] := by
  refine Ret.go Tryz.func10 ?_
  simp
  refine T.forL l (fun pre _ => ∀ y ∈ pre, sameR t y = false) (fun pre _ => [(1, .sc (.string t)), (4, .ref 4 0), (8, .ro (rows Rule.ty.cs l) l.length), (9, .sc (.int .i64 l.length)), (10, .sc (.int .i64 pre.length))]) (fun _ _ => [(4, [.sc (.string ⟨#[]⟩), .em, .em, .em, .sc (.bool false)])]) (by simp) ?_ ?_
  · intro hJ
    have e : l.find? (sameR t) = none := List.find?_eq_none.2 fun y hy => by simp [hJ y hy]
    simp
    refine T.on 400 ?_
    simp [over, ruleO, hasR, e, Rule.oce, ex1]
  · intro q r rest hx hl2 hJ
    have hd : List.drop (q.length * 5) (rows Rule.ty.cs l) = Rule.ty.cs r ++ rows Rule.ty.cs rest := by rw [← hx]; exact rows_drop Rule.ty.csn q (r :: rest)
    by_cases h : r.task.toList = t.toList
    · have e : l.find? (sameR t) = some r := by rw [← hx]; exact find_pre hJ (by simp [sameR, h])
      simp (disch := omega) [hd, Rule.cse, over, h]
      refine cR (R39 r (hr r (by rw [← hx]; simp))) ?_ (hys := by simp [roc_agg, Rule.cse]) (hfl := Rule.ty.flL r)
      simp [over, ruleO, hasR, e, Rule.oce, ex1]
    · simp (disch := omega) [hd, Rule.cse, over, h]
      intro y hy
      rcases hy with hy | rfl
      · exact hJ y hy
      · simp [sameR, h]
theorem R56 (r : Rule) (h : RL r) : Ret Tryz.prog 56 [.agg (Rule.ty.cs r)] (.agg (Rule.ty.oc r)) [.un] := by
  obtain ⟨h1, h2, h3⟩ := h
  refine Ret.go Tryz.func56 ?_
  simp [Rule.cse, over]
  refine T.textE [(2, [5]), (5, [8, 5]), (6, [9]), (9, [12, 9]), (10, [13]), (13, [16, 13]), (17, [2])] ?_ mixed
  simp (disch := omega) [over, ex1, Rule.oce]
  exact ⟨rfl, rfl, rfl⟩
theorem R28 (l : List Rule) (t : ByteArray) (hl : l.length ≤ 1048577) (hr : ∀ x ∈ l, RL x) : Ret Tryz.prog 28 [.ro (rows Rule.ty.cs l) l.length, .sc (.string t)] (.tup [.agg (Rule.ty.oc (ruleO l t)), .sc (.bool (hasR l t))]) [.un, .un] := by
  refine Ret.go Tryz.func28 ?_
  simp
  refine T.forL l (fun pre _ => ∀ y ∈ pre, sameR t y = false) (fun pre _ => [(0, .ro (rows Rule.ty.cs l) l.length), (1, .sc (.string t)), (4, .ref 4 0), (6, .sc (.int .i64 pre.length))]) (fun _ _ => [(4, [.sc (.string ⟨#[]⟩), .em, .em, .em, .sc (.bool false)])]) (by simp) ?_ ?_
  · intro hJ
    have e : l.find? (sameR t) = none := List.find?_eq_none.2 fun y hy => by simp [hJ y hy]
    simp
    refine T.on 400 ?_
    simp [over, ruleO, hasR, e, Rule.oce, ex1]
  · intro q r rest hx hl2 hJ
    have hd : List.drop (q.length * 5) (rows Rule.ty.cs l) = Rule.ty.cs r ++ rows Rule.ty.cs rest := by rw [← hx]; exact rows_drop Rule.ty.csn q (r :: rest)
    by_cases h : r.task.toList = t.toList
    · have e : l.find? (sameR t) = some r := by rw [← hx]; exact find_pre hJ (by simp [sameR, h])
      simp (disch := omega) [hd, Rule.cse, h]
      refine cR (R56 r (hr r (by rw [← hx]; simp))) ?_ (hys := by simp [roc_agg, Rule.cse]) (hfl := Rule.ty.flL r)
      simp [over, ruleO, hasR, e, Rule.oce, ex1]
    · simp (disch := omega) [hd, Rule.cse, h]
      intro y hy
      rcases hy with hy | rfl
      · exact hJ y hy
      · simp [sameR, h]
set_option maxRecDepth 100000
def eqS (s y : ByteArray) : Bool := y.toList == s.toList
def hasB (l : List ByteArray) (s : ByteArray) : Bool := l.any (eqS s)
def gtS (x y : ByteArray) : Bool := Op.bytesLess x.toList y.toList
def sufN (x : ByteArray) (o : List ByteArray) : Nat := (o.reverse.takeWhile (gtS x)).length
def posN (x : ByteArray) (o : List ByteArray) : Nat := o.length - sufN x o
def insB (x : ByteArray) (o : List ByteArray) : List ByteArray := o.take (posN x o) ++ x :: o.drop (posN x o)
def insU (o : List ByteArray) (x : ByteArray) : List ByteArray := if hasB o x = true then o else insB x o
def sortedV (l : List ByteArray) : List ByteArray := l.foldl insU []
theorem insB_len (x : ByteArray) (o : List ByteArray) : (insB x o).length = o.length + 1 := by
  unfold insB
  have : posN x o ≤ o.length := Nat.sub_le ..
  simp
  omega
theorem insU_len (o : List ByteArray) (x : ByteArray) : (insU o x).length ≤ o.length + 1 := by
  unfold insU
  split
  · omega
  · rw [insB_len]; omega
theorem sortedV_len : ∀ (l o : List ByteArray), (l.foldl insU o).length ≤ o.length + l.length
  | [], o => Nat.le_refl _
  | x :: l, o => by
    have h1 := sortedV_len l (insU o x)
    have h2 := insU_len o x
    simp only [List.foldl_cons, List.length_cons]
    omega
theorem sortedV_snoc (l : List ByteArray) (x : ByteArray) : sortedV (l ++ [x]) = insU (sortedV l) x := by simp [sortedV]
theorem posN_stop {x : ByteArray} {o : List ByteArray} {k : Nat} (hk : k ≤ o.length) (h1 : ∀ y ∈ o.drop k, gtS x y = true) (h2 : k = 0 ∨ ∃ y, o[k - 1]? = some y ∧ gtS x y = false) : posN x o = k := by
  have e : o.reverse = (o.drop k).reverse ++ (o.take k).reverse := by rw [← List.reverse_append, List.take_append_drop]
  have hs : sufN x o = o.length - k := by
    unfold sufN
    rw [e, List.takeWhile_append_of_pos (fun y hy => h1 y (List.mem_reverse.1 hy))]
    have : ((o.take k).reverse.takeWhile (gtS x)) = [] := by
      rcases h2 with rfl | ⟨y, hy, hg⟩
      · simp
      · cases k with
        | zero => simp
        | succ k =>
          have hl : k < o.length := by omega
          have : o.take (k + 1) = o.take k ++ [y] := by
            rw [List.take_add_one, show o[k]? = some y from hy]; rfl
          rw [this, List.reverse_append]
          simp [hg]
    rw [this]
    simp
  unfold posN
  omega
theorem overS {M R : List AV} {a x : AV} {k : Nat} (h : M.length = k) : over (M ++ a :: R) k [x] = M ++ x :: R := by
  subst h
  simp [over, List.set_append]
theorem R90 (l : List ByteArray) (s : ByteArray) (hl : l.length ≤ 4398046511104) : Ret Tryz.prog 90 [.ro (rows Ty.str.cs l) l.length, .sc (.string s)] (.sc (.bool (hasB l s))) [.un, .un] := by
  refine Ret.go Tryz.func90 ?_
  simp
  refine T.forL l (fun pre _ => hasB pre s = false) (fun pre _ => [(0, .ro (rows Ty.str.cs l) l.length), (1, .sc (.string s)), (5, .sc (.int .i64 pre.length))]) (fun _ _ => []) (by simp [hasB]) ?_ ?_
  · intro hJ
    simp [hJ]
    refine T.on 400 ?_
    simp
  · intro pre y rest hx hl2 hJ
    have hd : List.drop pre.length (rows Ty.str.cs l) = .sc (.string y) :: rows Ty.str.cs rest := by rw [rowsC_drop, ← hx, drop_pre, rowsC_cons]
    by_cases h : y.toList = s.toList
    · have : hasB l s = true := by rw [← hx]; simp [hasB, eqS, h]
      simp (disch := omega) [hd, h, this]
    · simp (disch := omega) [hd, h]
      simp [hasB] at hJ ⊢
      exact ⟨hJ, by simp [eqS, h]⟩
set_option maxHeartbeats 2000000 in
theorem R59 (l : List ByteArray) (hl : l.length ≤ 4398046511104) : Ret Tryz.prog 59 [.ro (rows Ty.str.cs l) l.length] (.own (rows Ty.str.oc (sortedV l)) (sortedV l).length 1) [.un] := by
  have hM : ∀ q (l : List ByteArray), mens q (rows Ty.str.oc l) = true := fun q l => mens_idf (Ty.str.frL l)
  have hM2 : ∀ q (l : List ByteArray), mens q (rows Ty.str.cs l) = true := fun q l => mens_idf (Ty.str.frL l)
  refine Ret.go Tryz.func59 ?_
  simp
  refine T.forR l (fun _ _ => True) (fun pre _ => [(0, .ro (rows Ty.str.cs l) l.length), (3, .sl 6 0 (sortedV pre).length 1 false), (4, .sc (.int .i64 pre.length))]) (fun pre _ => [(6, rows Ty.str.oc (sortedV pre))]) ⟨trivial, Tl.same rfl (by simp [sortedV]) (by simp [sortedV])⟩ ?_ ?_
  · intro _
    simp
    refine T.on 400 ?_
    simp [ex1]
  · intro pre x rest hx hl2 _
    have hd : List.drop pre.length (rows Ty.str.cs l) = .sc (.string x) :: rows Ty.str.cs rest := by rw [rowsC_drop, ← hx, drop_pre, rowsC_cons]
    have ho := sortedV_len pre []
    rw [show pre.foldl insU [] = sortedV pre from rfl] at ho
    simp only [List.length_nil] at ho
    rw [sortedV_snoc]
    generalize sortedV pre = o at ho ⊢
    simp (disch := omega) [hd]
    refine cR (R90 o x (by omega)) ?_ (hys := by simp [rocS, roc_sc])
    cases h : hasB o x
    case true =>
      have e : insU o x = o := by rw [insU, if_pos h]
      simp (disch := omega) [h, e]
      exact Tl.same rfl (by simp (disch := omega) []) (by simp [hM])
    have e : insU o x = insB x o := by rw [insU, if_neg (by simp [h])]
    have hbl := insB_len x o
    rw [e]
    simp (disch := omega) [h, hd, over]
    have eqR : ∀ k (c : ByteArray), rows Ty.str.oc (o.take k ++ c :: o.drop k) = rows Ty.str.oc (o.take k) ++ .sc (.string c) :: rows Ty.str.oc (o.drop k) := fun k c => by rw [rows_append, rowsO_cons]
    have hMk : ∀ q k (c : ByteArray), mens q (rows Ty.str.oc (o.take k) ++ .sc (.string c) :: rows Ty.str.oc (o.drop k)) = true := fun q k c => by rw [← eqR]; exact hM _ _
    have hMo : ∀ q, mens q (rows Ty.str.oc o ++ [.sc (.string x)]) = true := fun q => by have := hMk q o.length x; rwa [List.take_length, List.drop_length] at this
    refine T.forI (fun i : Nat × ByteArray => i.1) (fun i => i.1 ≤ o.length ∧ ∀ y ∈ o.drop i.1, gtS x y = true) (fun i => [(0, .ro (rows Ty.str.cs l) l.length), (3, .sl 25 0 (o.length + 1) 1 false), (4, .sc (.int .i64 pre.length)), (5, .sc (.int .i64 i.1))])
      (fun i => [(25, rows Ty.str.oc (o.take i.1) ++ .sc (.string i.2) :: rows Ty.str.oc (o.drop i.1))]) (o.length, x) ⟨by simp, Tl.same rfl (by simp (disch := omega) []) (by simp [hMo, List.take_length])⟩ ?_
    rintro ⟨k, c⟩ ⟨hk, hJ⟩
    simp only at hk hJ
    have hlk : (rows Ty.str.oc (o.take k)).length = k := by rw [rowsS_len, List.length_take]; omega
    have hst : ∀ z : ByteArray, over (rows Ty.str.oc (o.take k) ++ .sc (.string c) :: rows Ty.str.oc (o.drop k)) k [.sc (.string z)] = rows Ty.str.oc (o.take k) ++ .sc (.string z) :: rows Ty.str.oc (o.drop k) := fun z => overS hlk
    generalize hA : rows Ty.str.oc (o.take k) ++ AV.sc (.string c) :: rows Ty.str.oc (o.drop k) = A at hst
    have hAl : A.length = o.length + 1 := by rw [← hA, List.length_append, hlk, List.length_cons, rowsS_len, List.length_drop]; omega
    by_cases h0 : k = 0
    · have hp := posN_stop (x := x) (by omega) hJ (.inl h0)
      have hB : rows Ty.str.oc (insB x o) = rows Ty.str.oc (o.take k) ++ .sc (.string x) :: rows Ty.str.oc (o.drop k) := by rw [insB, hp, eqR]
      have hi := rowsS_fr (insB x o)
      rw [hB] at hi
      subst h0
      have hi2 := hi
      simp at hi2
      simp (disch := omega) [hA]
      refine T.text 400 mixed (by kernel_rfl) (by kernel_rfl) ?_
      simp (disch := omega) []
      refine T.on 400 ?_
      simp (disch := omega) [hd, hAl, hst]
      exact Tl.ren [(25, 6)] rfl (by simp [idfree, hbl, hB, hi2])
    · obtain ⟨y, hy⟩ : ∃ y, o[k - 1]? = some y := ⟨_, List.getElem?_eq_getElem (by omega)⟩
      have et : o.take k = o.take (k - 1) ++ [y] := by
        have : k = k - 1 + 1 := by omega
        rw [this, List.take_add_one, hy]; rfl
      have ed : o.drop (k - 1) = y :: o.drop k := by
        have h1 : k - 1 < o.length := by omega
        rw [List.drop_eq_getElem_cons h1, show k - 1 + 1 = k by omega]
        congr 1
        exact Option.some.inj ((List.getElem?_eq_getElem h1).symm.trans hy)
      have hAd : List.drop (k - 1) A = .sc (.string y) :: .sc (.string c) :: rows Ty.str.oc (o.drop k) := by
        rw [← hA, et, rows_append, rows_one, List.append_assoc]
        exact List.drop_left' (by rw [rowsS_len, List.length_take]; omega)
      have hk1 : ((k : Int) - 1).toNat = k - 1 := by omega
      have hbt := bl_tot y.toList x.toList
      simp (disch := omega) [hA]
      refine T.text 400 mixed (by kernel_rfl) (by kernel_rfl) ?_
      cases hg : gtS x y
      · have hp := posN_stop (x := x) (by omega) hJ (.inr ⟨y, hy, hg⟩)
        have hB : rows Ty.str.oc (insB x o) = rows Ty.str.oc (o.take k) ++ .sc (.string x) :: rows Ty.str.oc (o.drop k) := by rw [insB, hp, eqR]
        have hi := rowsS_fr (insB x o)
        rw [hB] at hi
        rw [show Op.bytesLess x.toList y.toList = false from hg] at hbt
        cases hb1 : Op.bytesLess y.toList x.toList
        · have hb2 : y.toList = x.toList := by simpa [hb1] using hbt
          simp (disch := omega) [hd, hk1, hAl, hAd, hb1, hb2]
          refine T.on 400 ?_
          simp (disch := omega) [hd, hAl, hst]
          exact Tl.ren [(25, 6)] rfl (by simp [idfree, hbl, hB, hi])
        · simp (disch := omega) [hd, hk1, hAl, hAd, hb1]
          refine T.on 400 ?_
          simp (disch := omega) [hd, hAl, hst]
          exact Tl.ren [(25, 6)] rfl (by simp [idfree, hbl, hB, hi])
      · rw [show Op.bytesLess x.toList y.toList = true from hg] at hbt
        simp at hbt
        obtain ⟨hb1, hb2⟩ := hbt
        simp (disch := omega) [hd, hk1, hAl, hAd, hb1, hb2, hst]
        have e2 : rows Ty.str.oc (o.take k) ++ AV.sc (.string y) :: rows Ty.str.oc (o.drop k) = rows Ty.str.oc (o.take (k - 1)) ++ .sc (.string y) :: rows Ty.str.oc (o.drop (k - 1)) := by rw [ed, et, rows_append, rows_one, rowsO_cons, List.append_assoc]; rfl
        exact Ri_mk (k - 1, y) (by simp; omega) ⟨by simp; omega, fun z hz => by
          simp only at hz
          rw [ed] at hz
          rcases List.mem_cons.1 hz with rfl | hz
          · exact hg
          · exact hJ z hz⟩ (Tl.same rfl (by simp (disch := omega) []; try omega) (by simp [e2, hMk]))
end Go.Proofs.YtchbcmenmlohfaaGreatDoor.Am
namespace Go.Proofs.YtchbcmenmlohfaaGreatDoor.Am
open Go Go.Proofs
set_option linter.unusedSimpArgs false
set_option linter.unusedVariables false
attribute [local congr] T_congr callK_congr callWK_congr
attribute [local simp] run_nil run_op0 run_opg run_seq run_cond run_block run_ret run_skip run_skip_after run_skip_blk run_exit run_exit_after run_exit_blk run_loop run_any runS_nil runS_op0 runS_opg runW_nil runW_op0 runW_opg exec_q exec_w exec_c exec_n execW_q execW_w execW_c restW_app hideH_app merge_app wblk rest_app restS_app execS_q execS_c aval dOk upd_app ev_t ev_c setO_some setO_none put_mk pinsOf isIo hasIo sbin endR fin resL one outL out1 clo1 cloL coe coeL shut shut.shutL wantA weff cellsOf fillA deref natOf ρ0_app h0_app plain plain.plainL keep_app keepH_app andThen_normal andThen_ret andThen_exit pop_nil pop_after pop_after_ret pop_after_exit pop_blk pop_blk_ret pop_blk_exit nilA srcOf srcCells keepR_app keepHR_app renA rb toldρ toldH toldT toldB menQ_sc menQ_sl menQ_ref menQ_em menQ_un menQ_roT mens_cons mens_nil toldF merge_nil hideH_nil str_n rows_nil rowsS_len rowsC_len rowsC_fr rowsS_fr Rd_mk Rl_mk menB exQ_exit exQ_ret wrap_i64 bs_size bs_list bs_toList bs_get bs_extract mk_bs bs_eta List.getElem?_cons_zero List.getElem?_cons_succ List.length_cons oLt oNlt oLe oNle nLt nNlt nLe nNle iniρ andThen_normal over
set_option maxRecDepth 100000
def clsT (q : List UInt8) (c : UInt8) : Bool := (decide (c ∈ q) && !((c.toNat : Int) == 33)) != decide (q.head? = some 33)
theorem getGl {α : Type} {l : List α} {n : Nat} (h : n < l.length) : ∃ y, l[n]? = some y ∧ (∀ h, l[n]'h = y) ∧ l.drop n = y :: l.drop (n + 1) :=
  ⟨l[n], List.getElem?_eq_getElem h, fun _ => rfl, List.drop_eq_getElem_cons h⟩
set_option maxHeartbeats 1000000 in
theorem R129 (l : List UInt8) (a : Nat) (ha : a < l.length) (hl : l.length ≤ 1048577) : Ret Tryz.prog 129 [.sc (.string (bs l)), .sc (.int .i64 a)] (.sc (.int .i64 (if clsN (l.drop (a + 1)) = 0 then -1 else a + clsN (l.drop (a + 1))))) [.un, .un] := by
  obtain ⟨k, hk⟩ : ∃ k, k = clsK (l.drop (a + 1)) := ⟨_, rfl⟩
  obtain ⟨m, hm⟩ : ∃ m, m = a + 1 + k := ⟨_, rfl⟩
  obtain ⟨M, hM⟩ : ∃ M, M = runN (l.drop m) := ⟨_, rfl⟩
  have hC : clsN (l.drop (a + 1)) = if inR M 1 5 = true ∧ l[m + M]? = some 93 then M + k + 2 else 0 := by
    rw [clsN, ← hk, List.drop_drop, ← hm, ← hM, List.getElem?_drop]
  have hkk : k = if l[a + 1]? = some 33 then 1 else 0 := by rw [hk, clsK, List.head?_drop]
  have hml : m ≤ l.length := by
    by_cases h : l[a + 1]? = some 33
    · rw [if_pos h] at hkk
      have := (List.getElem?_eq_some_iff.1 h).1
      omega
    · rw [if_neg h] at hkk
      omega
  have hMl : m + M ≤ l.length := by have := runN_le (l.drop m); rw [List.length_drop] at this; omega
  have hres : (if clsN (l.drop (a + 1)) = 0 then (-1 : Int) else a + clsN (l.drop (a + 1))) = if inR M 1 5 = true ∧ l[m + M]? = some 93 then ((m + M + 1 : Nat) : Int) else -1 := by
    rw [hC]
    split
    · rename_i h
      rw [if_neg (by omega)]
      omega
    · simp
  rw [hres]
  clear hres hC hk
  refine Ret.go Tryz.func129 ?_
  by_cases h1 : a + 1 < l.length
  case neg =>
    have e1 : l[a + 1]? = none := List.getElem?_eq_none (by omega)
    rw [e1] at hkk
    simp at hkk
    have hma : m = a + 1 := by omega
    have hM0 : M = 0 := by rw [hM, List.drop_of_length_le (by omega)]; rfl
    subst hM0
    simp (disch := omega) []
    refine T.forI (fun _ : Nat => 0) (fun _ => True) (fun _ => [(0, .sc (.string (bs l))), (5, .sc (.int .i64 (a + 1 : Nat))), (6, .sc (.int .i64 0))]) (fun _ => []) 0 ⟨trivial, Tl.same rfl (by simp (disch := omega) []) (by simp)⟩ ?_
    intro i _
    simp (disch := omega) []
    refine T.on 400 ?_
    simp
    refine cR (R85 0 1 5) ?_
    simp [inR]
  obtain ⟨y, hy, hy2, _⟩ := getGl h1
  rw [hy] at hkk
  have hk3 : k = if (y.toNat : Int) = 33 then 1 else 0 := by
    rw [hkk]
    by_cases h : y = 33
    · simp [h]
    · have : ¬ (y.toNat : Int) = 33 := fun e => h (u8_eq.1 e)
      simp [h, this]
  by_cases h2 : (y.toNat : Int) = 33 <;> simp [h2] at hk3 <;> simp (disch := omega) [hy, hy2, h2]
  all_goals
    refine T.cutL [(0, .sc (.string (bs l))), (5, .sc (.int .i64 (m + M : Nat))), (6, .sc (.int .i64 M))] [] (T.forI (fun i => l.length - (m + i)) (fun i => m + i ≤ l.length ∧ i + runN (l.drop (m + i)) = M) (fun i => [(0, .sc (.string (bs l))), (5, .sc (.int .i64 (m + i : Nat))), (6, .sc (.int .i64 i))]) (fun _ => []) 0 ⟨⟨hml, by simpa using hM.symm⟩, Tl.same rfl (by simp (disch := omega) [hm, hk3]; try omega) (by simp)⟩ ?_) ?_
    · rintro i ⟨h6, h7⟩
      generalize hn : m + i = n at h6 h7 ⊢
      by_cases h8 : n < l.length
      · obtain ⟨z, hz, hz2, hd⟩ := getGl h8
        rw [hd, runN_cons] at h7
        simp (disch := omega) [hz, hz2]
        refine cR (R83 z) ?_
        cases g1 : smallI (z.toNat : Int)
        · simp (disch := omega) [hz, hz2]
          refine cR (R84 z) ?_
          cases g2 : figI (z.toNat : Int)
          · have : i = M := by rw [← h7]; simp [sfB, g1, g2]
            simp (disch := omega) []
            exact Tl.same rfl (by simp [← hn, this]) (by simp)
          · simp [sfB, g2] at h7
            simp (disch := omega) []
            exact Ri_mk (i + 1) (by omega) ⟨by omega, by rw [show m + (i + 1) = n + 1 by omega]; omega⟩ (Tl.same rfl (by simp (disch := omega) [← hn]; omega) (by simp))
        · simp [sfB, g1] at h7
          simp (disch := omega) []
          exact Ri_mk (i + 1) (by omega) ⟨by omega, by rw [show m + (i + 1) = n + 1 by omega]; omega⟩ (Tl.same rfl (by simp (disch := omega) [← hn]; omega) (by simp))
      · have : i = M := by rw [← h7, List.drop_of_length_le (by omega)]; simp [runN]
        simp (disch := omega) []
        exact Tl.same rfl (by simp [← hn, this]) (by simp)
    · generalize hn : m + M = n at hMl ⊢
      simp
      refine cR (R85 M 1 5) ?_
      cases g1 : inR (M : Int) 1 5
      · simp
      · by_cases g2 : n < l.length
        · obtain ⟨z, hz, hz2, _⟩ := getGl g2
          by_cases g4 : (z.toNat : Int) = 93
          · have e : z = 93 := u8_eq.1 g4
            simp (disch := omega) [hz, hz2, g4, e]
            omega
          · have e : ¬ z = 93 := fun h => g4 (by rw [h]; rfl)
            simp (disch := omega) [hz, hz2, g4, e]
        · have g4 : l[n]? = none := List.getElem?_eq_none (by omega)
          simp (disch := omega) [g4]
set_option maxRecDepth 100000
def compF (o : List ByteArray) (y : ByteArray) : List ByteArray := if (o.getLast?.any fun z => z.toList == y.toList) = true then o else o ++ [y]
def compactV (l : List ByteArray) : List ByteArray := l.foldl compF []
theorem compF_last (o : List ByteArray) (y : ByteArray) : ((compF o y).getLast?.map (·.toList)) = some y.toList := by
  unfold compF
  split
  · rename_i h
    cases hl : o.getLast? with
    | none => rw [hl] at h; simp at h
    | some z => rw [hl] at h; simp at h ⊢; exact h
  · simp
theorem compact_snoc (l : List ByteArray) (y : ByteArray) : compactV (l ++ [y]) = compF (compactV l) y := by simp [compactV]
theorem compact_last (l : List ByteArray) : (compactV l).getLast?.map (·.toList) = l.getLast?.map (·.toList) := by
  rcases List.eq_nil_or_concat l with rfl | ⟨k, y, rfl⟩
  · rfl
  · rw [List.concat_eq_append, compact_snoc, compF_last]; simp
theorem compact_step {l : List ByteArray} {i : Nat} {x y : ByteArray} (hi : 0 < i) (hx : l[i - 1]? = some x) (hy : l[i]? = some y) : compactV (l.take (i + 1)) = if x.toList = y.toList then compactV (l.take i) else compactV (l.take i) ++ [y] := by
  have e : l.take (i + 1) = l.take i ++ [y] := by rw [List.take_add_one, hy]; rfl
  have hl : (l.take i).getLast? = some x := by
    have hlt := (List.getElem?_eq_some_iff.1 hy).1
    rw [List.getLast?_eq_getElem?, List.length_take, Nat.min_eq_left (by omega), List.getElem?_take_of_lt (by omega), hx]
  have h2 := compact_last (l.take i)
  rw [hl] at h2
  rw [e, compact_snoc, compF]
  cases hc : (compactV (l.take i)).getLast? with
  | none => rw [hc] at h2; simp at h2
  | some z =>
    rw [hc] at h2
    simp at h2
    simp [h2]
theorem compact_len (l : List ByteArray) : (compactV l).length ≤ l.length := by
  have : ∀ (l o : List ByteArray), (l.foldl compF o).length ≤ o.length + l.length := by
    intro l
    induction l with
    | nil => intro o; exact Nat.le_refl _
    | cons x l ih =>
      intro o
      have h1 := ih (compF o x)
      have h2 : (compF o x).length ≤ o.length + 1 := by unfold compF; split <;> simp
      simp only [List.foldl_cons, List.length_cons]
      omega
  simpa [compactV] using this l []
theorem Ret.goL {P : Program} {f : FuncId} {fn : Func} {c : AC} {n : Nat} {args ys : List AV} {ρ1 ρ2 : Nat → AV} {h1 : Nat → Option (Option (List AV))} {rs : List QOp} {ret : AV} {outs : List AV} {m : Nat} (hf : P.funcs[f]? = some fn)
    (h : Am.run P (pinsOf args 0) 3000 c [] (leR (endR args ret outs rs)) ⟨ρ2, h1, n⟩) (hc : Cd P fn = (some c, n, some rs) := by conv => lhs; cbv)
    (hl : args.length ≤ n := by simp) (hent : entL 100000 args ⟨fun _ => .un, h0, n⟩ = some (ys, ⟨ρ1, h1, m⟩) := by rfl) (hρ : iniρ ys 0 = ρ2 := by rfl) : Ret P f args ret outs := by
  unfold Cd at hc
  simp only [Prod.mk.injEq] at hc
  exact Ret.runT hf hc hl hent hρ (run_ok h)
set_option maxHeartbeats 2000000 in
theorem R82 (l : List ByteArray) (hl : l.length ≤ 4398046511104) : Ret Tryz.prog 82 [.own (rows Ty.str.oc l) l.length 1] (.own (rows Ty.str.oc (compactV l)) (compactV l).length 1) [.un] := by
  have hM : ∀ q (l : List ByteArray), mens q (rows Ty.str.oc l) = true := fun q l => mens_idf (Ty.str.frL l)
  refine Ret.goL Tryz.func82 ?_
  by_cases h2 : l.length < 2
  · have e : compactV l = l := by
      match l, h2 with
      | [], _ => rfl
      | [x], _ => rfl
    simp (disch := omega) [leR_app]
    refine ⟨_, Le.refl _, ?_⟩
    simp (disch := omega) [ex1, e]
  simp (disch := omega) []
  refine T.forI (fun k => l.length - k) (fun k => 1 ≤ k ∧ k ≤ l.length ∧ compactV (l.take k) = l.take k) (fun k => [(0, .sl 100000 0 l.length 1 false), (3, .sc (.int .i64 k))]) (fun _ => [(100000, rows Ty.str.oc l)]) 1 ⟨⟨by omega, by omega, by match l, h2 with | x :: l, _ => rfl⟩, Tl.same rfl (by simp) (by simp [hM])⟩ ?_
  rintro k ⟨hk1, hk2, hJ⟩
  by_cases h8 : k < l.length
  case neg =>
    have e : compactV l = l := by rwa [List.take_of_length_le (by omega)] at hJ
    simp (disch := omega) []
    refine T.on 400 ?_
    simp [leR_app]
    refine ⟨_, Le.refl _, ?_⟩
    simp [ex1, e]
  obtain ⟨y, hy, _, hd⟩ := getGl h8
  obtain ⟨x, hx, _, hd1⟩ := getGl (show k - 1 < l.length by omega)
  have hst := compact_step hk1 hx hy
  have hdr : List.drop k (rows Ty.str.oc l) = .sc (.string y) :: rows Ty.str.oc (l.drop (k + 1)) := by rw [rowsO_drop, hd, rowsO_cons]
  have hdr1 : List.drop (k - 1) (rows Ty.str.oc l) = .sc (.string x) :: rows Ty.str.oc (l.drop (k - 1 + 1)) := by rw [rowsO_drop, hd1, rowsO_cons]
  have hk3 : ((k : Int) - 1).toNat = k - 1 := by omega
  simp (disch := omega) []
  refine T.text 400 mixed (by kernel_rfl) (by kernel_rfl) ?_
  by_cases hxy : x.toList = y.toList
  case neg =>
    have hyx : ¬ y.toList = x.toList := fun e => hxy e.symm
    rw [if_neg hxy, hJ] at hst
    simp (disch := omega) [hdr, hdr1, hk3, hyx]
    exact Ri_mk (k + 1) (by omega) ⟨by omega, by omega, by rw [hst, List.take_add_one, hy]; rfl⟩ (Tl.same rfl (by simp (disch := omega) []) (by simp [hM]))
  rw [if_pos hxy, hJ] at hst
  have hyx : y.toList = x.toList := hxy.symm
  simp (disch := omega) [hdr, hdr1, hk3, hyx]
  refine T.forI (fun j => l.length - k - j) (fun j => 1 ≤ j ∧ k + j ≤ l.length ∧ (compactV (l.take (k + j))).length + 1 ≤ k + j) (fun j => [(0, .sl 100000 0 l.length 1 false), (3, .sc (.int .i64 (compactV (l.take (k + j))).length)), (4, .sl 100000 k (l.length - k) 1 false), (5, .sc (.int .i64 j))]) (fun j => [(100000, rows Ty.str.oc (compactV (l.take (k + j)) ++ l.drop (compactV (l.take (k + j))).length))]) 1 ⟨⟨by omega, by omega, by rw [hst, List.length_take]; omega⟩, Tl.same rfl (by rw [hst]; simp; omega) (by rw [hst]; simp [hM, Nat.min_eq_left hk2])⟩ ?_
  rintro j ⟨hj1, hj2, hjL⟩
  obtain ⟨C, hC⟩ : ∃ C, compactV (l.take (k + j)) = C := ⟨_, rfl⟩
  rw [hC] at hjL
  have hCl := hjL
  have hRl : (rows Ty.str.oc (C ++ l.drop C.length)).length = l.length := by rw [show (rows Ty.str.oc (C ++ l.drop C.length)).length = _ from rowsS_len _, List.length_append, List.length_drop]; omega
  have hjn : (j : Int) < ((l.length - k : Nat) : Int) ↔ k + j < l.length := by omega
  by_cases h9 : k + j < l.length
  case neg =>
    have e : compactV l = C := by rw [← hC, List.take_of_length_le (by omega)]
    simp (disch := omega) [hC, h9, hjn, hRl]
    refine T.on 400 ?_
    have hpt : List.take C.length (putX (rows Ty.str.oc (C ++ l.drop C.length)) C.length (List.replicate (l.length - C.length) (.sc (.string (bs []))))) = rows Ty.str.oc C := by
      rw [rows_append, putX_at (show (rows Ty.str.oc C).length = _ from rowsS_len C), ← show (rows Ty.str.oc C).length = _ from rowsS_len C, List.take_left']
      rfl
    have hfr := Ty.str.frL C
    have hrc : (rows Ty.str.oc C).length = C.length := rowsS_len C
    simp (disch := omega) [hRl, dstA, leR_app]
    refine ⟨_, Le.trim 100000 C.length (by simp; rfl), ?_⟩
    simp [ex1, hrc, hfr, hpt, e]
  obtain ⟨y', hy', _, hd'⟩ := getGl h9
  obtain ⟨x', hx', _, hd1'⟩ := getGl (show k + j - 1 < l.length by omega)
  have hst' := compact_step (by omega) hx' hy'
  have hD : ∀ i, C.length ≤ i → List.drop i (rows Ty.str.oc (C ++ l.drop C.length)) = rows Ty.str.oc (l.drop i) := fun i hi => by
    rw [rowsO_drop, List.drop_append, List.drop_eq_nil_of_le hi, List.nil_append, List.drop_drop]
    congr 2; omega
  have hdr2 : List.drop (k + j) (rows Ty.str.oc (C ++ l.drop C.length)) = .sc (.string y') :: rows Ty.str.oc (l.drop (k + j + 1)) := by rw [hD _ (by omega), hd', rowsO_cons]
  have hdr3 : List.drop (k + (j - 1)) (rows Ty.str.oc (C ++ l.drop C.length)) = .sc (.string x') :: rows Ty.str.oc (l.drop (k + j - 1 + 1)) := by rw [hD _ (by omega), show k + (j - 1) = k + j - 1 by omega, hd1', rowsO_cons]
  have hj3 : ((j : Int) - 1).toNat = j - 1 := by omega
  simp (disch := omega) [hC, h9, hjn]
  refine T.text 400 mixed (by kernel_rfl) (by kernel_rfl) ?_
  rw [hC] at hst'
  by_cases hxy2 : x'.toList = y'.toList
  case pos =>
    rw [if_pos hxy2] at hst'
    simp (disch := omega) [hdr2, hdr3, hj3, hxy2]
    exact Ri_mk (j + 1) (by omega) ⟨by omega, by omega, by rw [show k + (j + 1) = k + j + 1 by omega, hst']; omega⟩ (Tl.same rfl (by rw [show k + (j + 1) = k + j + 1 by omega, hst']; simp (disch := omega) []) (by rw [show k + (j + 1) = k + j + 1 by omega, hst']; simp [hM]))
  have hyx2 : ¬ y'.toList = x'.toList := fun e => hxy2 e.symm
  rw [if_neg hxy2] at hst'
  simp (disch := omega) [hdr2, hdr3, hj3, hyx2]
  have hset : over (rows Ty.str.oc (C ++ l.drop C.length)) C.length [.sc (.string y')] = rows Ty.str.oc (C ++ [y'] ++ l.drop (C ++ [y']).length) := by
    have hc : C.length < l.length := by omega
    rw [List.drop_eq_getElem_cons hc, rows_append, rowsO_cons, overS (rowsS_len C), rows_append, rows_append, List.length_append, rowsO_cons, List.append_assoc]
    rfl
  simp only [over] at hset
  exact Ri_mk (j + 1) (by omega) ⟨by omega, by omega, by rw [show k + (j + 1) = k + j + 1 by omega, hst', List.length_append]; simp; omega⟩ (Tl.same rfl (by rw [show k + (j + 1) = k + j + 1 by omega, hst', List.length_append]; simp (disch := omega) []) (by rw [show k + (j + 1) = k + j + 1 by omega, hst']; simp [hM, hset]))
set_option maxRecDepth 100000
theorem R118 : Ret Tryz.prog 118 [.ro [] 0, .sc (.int .i64 0), .sc (.int .i64 0)] (.tup []) [.un, .un, .un] := by
  refine Ret.go Tryz.func118 ?_
  simp (disch := omega) []
  refine T.forI (fun _ : Unit => 0) (fun _ => True) (fun _ => [(2, .sc (.int .i64 0)), (6, .sc (.int .i64 1))]) (fun _ => []) () ⟨trivial, Tl.same rfl (by simp (disch := omega) []) (by simp)⟩ ?_
  rintro _ _
  simp (disch := omega) []
theorem R128 : Ret Tryz.prog 128 [.sc (.int .u64 0)] (.sc (.int .i64 0)) [.un] := by
  refine Ret.go Tryz.func128 ?_
  simp (disch := omega) [show IntKind.u8.wrap 0 = 0 from rfl]
theorem R101 : Ret Tryz.prog 101 [.sc (.int .u64 0)] (.sc (.int .i64 0)) [.un] := by
  refine Ret.go Tryz.func101 ?_
  simp (disch := omega) []
  refine cR R128 ?_
  simp (disch := omega) []
theorem R100 : Ret Tryz.prog 100 [.ro [] 0, .sc (.int .i64 0), .sc (.int .i64 0), .sc (.int .i64 0)] (.tup []) [.un, .un, .un, .un] := by
  refine Ret.go Tryz.func100 ?_
  simp (disch := omega) []
  refine T.forI (fun _ : Unit => 0) (fun _ => True) (fun _ => [(0, .ro [] 0), (1, .sc (.int .i64 0)), (2, .sc (.int .i64 0))]) (fun _ => []) () ⟨trivial, Tl.same rfl (by simp (disch := omega) []) (by simp)⟩ ?_
  rintro _ _
  simp (disch := omega) []
  refine cR R118 ?_
  simp (disch := omega) []
theorem R80E : Ret Tryz.prog 80 [.ro [] 0] (.tup []) [.un] := by
  refine Ret.go Tryz.func80 ?_
  simp (disch := omega) [show IntKind.u64.wrap 0 = 0 from rfl]
  refine cR R101 ?_
  simp (disch := omega) []
  refine cR R100 ?_
  simp (disch := omega) []
theorem R81 (xs : List ByteArray) : Ret Tryz.prog 81 [.own (rows Ty.str.oc xs) xs.length 1] (.own (rows Ty.str.oc xs) xs.length 1) [.un] := Ret.clip Ty.str Tryz.func81 ⟨by kernel_rfl, by kernel_rfl, by kernel_rfl⟩ xs
theorem srt {P : Program} {p : List Nat} {fx a : AX} {dst : Option Nat} {st : St} {K : St → Prop} {f : FuncId} {b : Nat} {l : List ByteArray} (hE : Ret P f [.ro [] 0] (.tup []) [.un]) (hR : l ≠ [] → Ret P f [.io (rows Ty.str.oc l) l.length 1] (.tup []) [.io (rows Ty.str.oc (sortM l)) (sortM l).length 1]) (hf : fx.ev st.ρ = .clo f []) (hc : callB P f = true)
    (ha : a.ev st.ρ = .sl b 0 l.length 1 false) (hb : st.h b = some (some (rows Ty.str.oc l))) (hd : dOk p dst st.n = true) (hK : K ((st.put b (some (rows Ty.str.oc (sortM l)))).setO dst (.tup []))) : callK P p fx [a] dst st K := by
  have hl := rowsS_len l
  have hi := Ty.str.frL l
  have hl' := rowsS_len (sortM l)
  have hs := sortM_len l
  by_cases h0 : l = []
  · subst h0
    have e : st.put b (some (rows Ty.str.oc (sortM []))) = st := by
      have : rows Ty.str.oc (sortM []) = rows Ty.str.oc [] := by
        have : sortM [] = [] := List.length_eq_zero_iff.1 hs
        rw [this]
      rw [this]
      cases st
      simp only [St.put] at hb ⊢
      congr 1
      funext i
      by_cases ei : i = b
      · subst ei; rw [upd_same, hb]
      · rw [upd_ne _ _ ei]
    rw [e] at hK
    refine callK.ro 0 (st3 := st) (y := .tup []) hf hc (ys := [.ro [] 0]) ?_ hE rfl rfl hd hK
    have e1 : roc st.h 8 (.sl b 0 0 1 false) = some (.ro [] 0) := roc_sl hb hl (by rfl)
    have ha' : a.ev st.ρ = .sl b 0 0 1 false := ha
    simp [ha', e1]
  · refine callK.gen [.io] 0 (st1 := st.put b none) (fl := [(.io, .sl b 0 l.length 1 false)]) (r := [(some (.io (rows Ty.str.oc l) l.length 1), some b)]) (yl := [.io (rows Ty.str.oc l) l.length 1]) (ys := [.io (rows Ty.str.oc l) l.length 1]) (ol := [.io (rows Ty.str.oc (sortM l)) (sortM l).length 1]) (st2 := st.put b (some (rows Ty.str.oc (sortM l)))) (st3 := st.put b (some (rows Ty.str.oc (sortM l)))) hf hc rfl ?_ ?_ ?_ rfl (hR h0) rfl ⟨by rfl, ?_⟩ ?_ (by rfl) ?_ hK
    · simp [ha]; rfl
    · simp [exL, ex1, hb, hi]
    · simp [shutArgs]
    · simpa [flt.fltL, flt] using Ty.str.flo (sortM l)
    · have eg : ((st.put b none).put b (some (rows Ty.str.oc (sortM l)))) = st.put b (some (rows Ty.str.oc (sortM l))) := by
        simp only [St.put]
        congr 1
        funext i
        by_cases ei : i = b
        · subst ei; rw [upd_same, upd_same]
        · rw [upd_ne _ _ ei, upd_ne _ _ ei, upd_ne _ _ ei]
      have ig : isGone ((st.put b none).h b) = true := by simp only [St.put]; rw [upd_same]; rfl
      simp [backL, hs, ig, eg]
    · exact hd
theorem R49 (l : List ByteArray) (hl : l.length ≤ 4398046511104) : Ret Tryz.prog 49 [.ro (rows Ty.str.cs l) l.length] (.own (rows Ty.str.oc (compactV (sortM l))) (compactV (sortM l)).length 1) [.un] := by
  refine Ret.go Tryz.func49 ?_
  simp (disch := omega) []
  refine cO 5 (R21 l hl) ?_ (Ty.str.flo _)
  simp (disch := omega) []
  refine srt (b := 5) (l := l) R80E (fun h => Ret.sortOf Tryz.laysSort rfl l h (by omega)) rfl (by kernel_rfl) (by simp) (by simp) (by rfl) ?_
  simp (disch := omega) []
  have h2 := compact_len (sortM l)
  have h3 := sortM_len l
  have hi := Ty.str.frL (sortM l)
  have hi2 := Ty.str.frL (compactV (sortM l))
  refine callK.mv1 (len := (sortM l).length) (sz := 1) 9 5 rfl (by kernel_rfl) (by simp [h3]) (by simp) (by rw [rowsS_len]; omega) hi rfl (R82 (sortM l) (by omega)) (Ty.str.flo _) rfl rfl ?_
  simp (disch := omega) []
  refine callK.mv1 (len := (compactV (sortM l)).length) (sz := 1) 10 9 rfl (by kernel_rfl) (by simp) (by simp) (by rw [rowsS_len]; omega) hi2 rfl (R81 (compactV (sortM l))) (Ty.str.flo _) rfl rfl ?_
  simp (disch := omega) [ex1, hi2]
set_option maxRecDepth 100000
def hatB (o : ByteArray) : Bool := Lib.hasPrefix o.data.toList [94]
def unC (o : ByteArray) : ByteArray := bs (Lib.trimPrefix o.data.toList [94])
def usesD (x : List ByteArray) (t : ByteArray) : List Doc := x.map fun d => ⟨d, t⟩
def toldV (ws : List Pack) (p on : ByteArray) : List Doc :=
  if (cutF on 35).2.2 = true then [⟨(cutF on 35).1, (cutF on 35).2.1⟩] else if hatB on = true then (match ws.find? (sameP p) with | some x => usesD x.uses (unC on) | none => []) else [⟨p, unC on⟩]
def growA (b n sz : Nat) : AV := if n = 0 then .em else .sl b 0 n sz false
def growB (b n : Nat) (cs : List AV) : List (Nat × List AV) := if n = 0 then [] else [(b, cs)]
theorem growA_0 (b sz : Nat) : growA b 0 sz = .em := rfl
theorem growA_s (b n sz : Nat) : growA b (n + 1) sz = .sl b 0 (n + 1) sz false := rfl
theorem growB_0 (b : Nat) (cs : List AV) : growB b 0 cs = [] := rfl
theorem growB_s (b n : Nat) (cs : List AV) : growB b (n + 1) cs = [(b, cs)] := rfl
set_option maxHeartbeats 2000000 in
theorem R47 (ws : List Pack) (p on : ByteArray) (hw : ws.length ≤ 1048577) (ho : on.size ≤ 1048576) (hu : ∀ x ∈ ws, x.uses.length ≤ 1048577) : Ret Tryz.prog 47 [.ro (rows Pack.ty.cs ws) ws.length, .sc (.string p), .sc (.string on)] (.own (rows Doc.ty.oc (toldV ws p on)) (toldV ws p on).length 2) [.un, .un, .un] := by
  have rp : Ret Tryz.prog 79 [.sc (.string on), .sc (.string ⟨#[94]⟩)] (.tup [.sc (.string (unC on)), .sc (.bool (hatB on))]) [.un, .un] := R79 on.data.toList [94]
  have hV : toldV ws p on = if (cutF on 35).2.2 = true then [⟨(cutF on 35).1, (cutF on 35).2.1⟩] else if hatB on = true then (match ws.find? (sameP p) with | some x => usesD x.uses (unC on) | none => []) else [⟨p, unC on⟩] := rfl
  have rc := R37 on 35 (by omega)
  rw [hV]
  clear hV
  generalize cutF on 35 = c at *
  generalize unC on = t at *
  refine Ret.go Tryz.func47 ?_
  simp (disch := omega) []
  refine cR rc ?_
  simp (disch := omega) []
  cases h1 : c.2.2
  case true =>
    simp (disch := omega) [h1, ex1, over, rows_one, Doc.oce, idfree, idfree.idfreeL]
  simp (disch := omega) [h1]
  refine cR rp ?_
  simp (disch := omega) []
  cases h2 : hatB on
  case false =>
    simp (disch := omega) [h2, ex1, over, rows_one, Doc.oce, idfree, idfree.idfreeL]
  simp (disch := omega) [h2]
  refine cR (R46 ws p hw) ?_
  simp (disch := omega) []
  rcases pIx_cases p ws with ⟨e, hn⟩ | ⟨pre, x, rest, hx, _, _, e, hn⟩
  · simp (disch := omega) [e, hn, ex1]
  have hd : List.drop (pre.length * 4) (rows Pack.ty.cs ws) = Pack.ty.cs x ++ rows Pack.ty.cs rest := by rw [hx]; exact rowsP_drop
  have hd1 : List.drop (pre.length * 4 + 1) (rows Pack.ty.cs ws) = .ro (rows Ty.str.cs x.uses) x.uses.length :: .ro (rows Need.ty.cs x.needs) x.needs.length :: .ro (rows Cmd.ty.cs x.cmds) x.cmds.length :: rows Pack.ty.cs rest := by rw [← List.drop_drop, hd]; rfl
  have hl : pre.length < ws.length := by rw [hx]; simp
  have hux := hu x (by rw [hx]; simp)
  have hM : ∀ q (l : List Doc), mens q (rows Doc.ty.oc l) = true := fun q l => mens_idf (Doc.frL l)
  have hG : ∀ l : List ByteArray, (usesD l t).length = l.length := fun l => List.length_map ..
  have hU : ∀ (l : List ByteArray) (d : ByteArray), rows Doc.ty.oc (usesD (l ++ [d]) t) = rows Doc.ty.oc (usesD l t) ++ [.sc (.string d), .sc (.string t)] := fun l d => by rw [usesD, List.map_append, rows_append]; rfl
  have hrl : ∀ l : List ByteArray, (rows Doc.ty.oc (usesD l t)).length = l.length * 2 := fun l => by rw [Doc.ocl, hG]
  simp (disch := omega) [e, hn, hd1]
  generalize x.uses = us at hux ⊢
  refine T.forR us (fun _ _ => True) (fun pre _ => [(10, .sc (.string t)), (12, growA 12 pre.length 2), (47, .ro (rows Ty.str.cs us) us.length), (48, .sc (.int .i64 us.length)), (49, .sc (.int .i64 pre.length))]) (fun pre _ => growB 12 pre.length (rows Doc.ty.oc (usesD pre t))) ⟨trivial, Tl.same rfl (by simp [growA_0, growB_0]) (by simp [growB_0])⟩ ?_ ?_
  · intro _
    have hi := Doc.frL (usesD us t)
    have hg := hG us
    have hr := hrl us
    cases us with
    | nil =>
      simp [growA_0, growB_0]
      refine T.on 400 ?_
      simp [ex1, usesD]
    | cons d us =>
      simp only [List.length_cons] at hg hr
      simp [growA_s, growB_s]
      refine T.on 400 ?_
      simp [ex1, hi, hg, hr]
  · intro pre' d rest' hx' hl2 _
    have hdd : List.drop pre'.length (rows Ty.str.cs us) = .sc (.string d) :: rows Ty.str.cs rest' := by rw [rowsC_drop, ← hx', drop_pre, rowsC_cons]
    have hr := hrl pre'
    rw [hU pre' d]
    have hf := Doc.frL (usesD (pre' ++ [d]) t)
    rw [hU pre' d] at hf
    cases pre' with
    | nil =>
      have hdd0 : rows Ty.str.cs us = .sc (.string d) :: rows Ty.str.cs rest' := hdd
      simp (disch := omega) [hdd0, growA_0, growB_0, growA_s, growB_s, over, usesD]
      exact Tl.ren [(58, 12)] rfl (by simp [idfree, idfree.idfreeL, hdd0])
    | cons d' pre' =>
      simp only [List.length_cons] at hr hdd hl2
      simp (disch := omega) [hdd, growA_s, growB_s, over, hr]
      exact Tl.ren [(58, 12)] rfl (by simp [idfree, hf])
set_option maxRecDepth 100000
def nmT (p t : ByteArray) : ByteArray := p ++ ⟨#[35]⟩ ++ t
def isD (p t : ByteArray) (d : Doc) : Bool := d.name.toList == p.toList && d.text.toList == t.toList
def okD (ws : List Pack) (p t : ByteArray) (d : Doc) : Bool := !isD p t d && (cmdO ws d.name d.text).isSome
def nmD (d : Doc) : ByteArray := nmT d.name d.text
def pickD (ws : List Pack) (p t : ByteArray) (l : List Doc) : List ByteArray := (l.filter (okD ws p t)).map nmD
def waitL (ws : List Pack) (p t : ByteArray) (l : List ByteArray) : List ByteArray := l.flatMap fun o => pickD ws p t (toldV ws p o)
def waitI (ws : List Pack) (rs : List Rule) (p t : ByteArray) : List ByteArray := compactV (sortM (waitL ws p t (ruleO rs t).on))
theorem rowsD_drop {pre rest : List Doc} {x : Doc} : List.drop (pre.length * 2) (rows Doc.ty.oc (pre ++ x :: rest)) = Doc.ty.oc x ++ rows Doc.ty.oc rest := rows_drop Doc.ty.ocn pre (x :: rest)
theorem toldV_len {ws : List Pack} (hu : ∀ x ∈ ws, x.uses.length ≤ 1048577) (p o : ByteArray) : (toldV ws p o).length ≤ 1048577 := by
  unfold toldV
  split
  · simp
  split
  · cases h : ws.find? (sameP p) with
    | none => simp
    | some x =>
      have := hu x (List.mem_of_find?_eq_some h)
      simp [usesD, this]
  · simp
theorem toldV_sz {ws : List Pack} {p o : ByteArray} (hp : p.size ≤ 1048576) (ho : o.size ≤ 1048576) (hu : ∀ x ∈ ws, ∀ y ∈ x.uses, y.size ≤ 1048576) : ∀ d ∈ toldV ws p o, d.name.size ≤ 1048576 ∧ d.text.size ≤ 1048576 := by
  have hc := cutF_size o 35
  have ht : (unC o).size ≤ 1048576 := by
    have : (unC o).size = (Lib.trimPrefix o.data.toList [94]).length := bs_size _
    rw [this]
    have h2 : o.data.toList.length = o.size := rfl
    unfold Lib.trimPrefix
    split
    · rw [List.length_drop]; omega
    · omega
  intro d hd
  unfold toldV at hd
  split at hd
  · simp at hd
    subst hd
    simp only
    omega
  split at hd
  · cases h : ws.find? (sameP p) with
    | none => rw [h] at hd; simp at hd
    | some x =>
      rw [h] at hd
      simp only [usesD, List.mem_map] at hd
      obtain ⟨y, hy, rfl⟩ := hd
      exact ⟨hu x (List.mem_of_find?_eq_some h) y hy, ht⟩
  · simp at hd
    subst hd
    exact ⟨hp, ht⟩
theorem waitL_snoc (ws : List Pack) (p t : ByteArray) (l : List ByteArray) (o : ByteArray) : waitL ws p t (l ++ [o]) = waitL ws p t l ++ pickD ws p t (toldV ws p o) := by simp [waitL]
theorem waitL_len {ws : List Pack} (hu : ∀ x ∈ ws, x.uses.length ≤ 1048577) (p t : ByteArray) : ∀ l : List ByteArray, (waitL ws p t l).length ≤ l.length * 1048577
  | [] => Nat.zero_le _
  | o :: l => by
    have h1 := waitL_len hu p t l
    have h2 := toldV_len hu p o
    have h3 : (pickD ws p t (toldV ws p o)).length ≤ (toldV ws p o).length := by rw [pickD, List.length_map]; exact List.length_filter_le ..
    have e : waitL ws p t (o :: l) = pickD ws p t (toldV ws p o) ++ waitL ws p t l := by simp [waitL]
    rw [e, List.length_append, List.length_cons]
    omega
theorem pickD_snoc (ws : List Pack) (p t : ByteArray) (l : List Doc) (d : Doc) : pickD ws p t (l ++ [d]) = if okD ws p t d = true then pickD ws p t l ++ [nmD d] else pickD ws p t l := by
  rw [pickD, List.filter_append]
  cases h : okD ws p t d <;> simp [h, pickD]
theorem pickD_len (ws : List Pack) (p t : ByteArray) (l : List Doc) : (pickD ws p t l).length ≤ l.length := by rw [pickD, List.length_map]; exact List.length_filter_le ..
theorem ruleFl (r : Rule) (b : Bool) : flt (.tup [.agg (Rule.ty.oc r), .sc (.bool b)]) = true := by
  have h1 := Ty.str.flo r.on
  have h2 := Ty.str.flo r.ins
  have h3 := Ty.str.flo r.envs
  simp only [flt] at h1 h2 h3
  simp [Rule.oce, flt, flt.fltL, h1, h2, h3]
set_option maxHeartbeats 4000000 in
theorem R23 (ws : List Pack) (rs : List Rule) (p t : ByteArray) (hp : p.size ≤ 1048576) (hw : ws.length ≤ 1048577) (hu : ∀ x ∈ ws, x.uses.length ≤ 1048577) (huz : ∀ x ∈ ws, ∀ y ∈ x.uses, y.size ≤ 1048576) (hc : ∀ x ∈ ws, x.cmds.length ≤ 1048577) (hr : rs.length ≤ 1048577) (hR : ∀ x ∈ rs, RL x) (hO : ∀ x ∈ rs, ∀ y ∈ x.on, y.size ≤ 1048576) :
    Ret Tryz.prog 23 [.ro (rows Pack.ty.cs ws) ws.length, .ro (rows Rule.ty.cs rs) rs.length, .sc (.string p), .sc (.string t)] (.own (rows Ty.str.oc (waitI ws rs p t)) (waitI ws rs p t).length 1) [.un, .un, .un, .un] := by
  have hM : ∀ q (l : List ByteArray), mens q (rows Ty.str.oc l) = true := fun q l => mens_idf (Ty.str.frL l)
  have hMD : ∀ q (l : List Doc), mens q (rows Doc.ty.oc l) = true := fun q l => mens_idf (Doc.frL l)
  have rR := R10 rs t hr hR
  unfold waitI
  generalize hr0 : ruleO rs t = r at *
  refine Ret.go Tryz.func23 ?_
  simp (disch := omega) []
  refine callK.ro 19 rfl (by kernel_rfl) (by simp [roc_sc, roc_ro]) rR (ruleFl _ _) rfl rfl ?_
  simp (disch := omega) [over, Rule.cse]
  clear rR
  have hro : r.on.length ≤ 1048577 ∧ ∀ y ∈ r.on, y.size ≤ 1048576 := by
    rw [← hr0, ruleO]
    cases h : rs.find? (sameR t) with
    | none => simp
    | some x => exact ⟨(hR x (List.mem_of_find?_eq_some h)).o, hO x (List.mem_of_find?_eq_some h)⟩
  obtain ⟨hn, hz⟩ := hro
  generalize r.on = os at hn hz ⊢
  refine T.forR os (fun _ _ => True) (fun pre _ => [(0, .ro (rows Pack.ty.cs ws) ws.length), (2, .sc (.string p)), (3, .sc (.string t)), (11, growA 11 (waitL ws p t pre).length 1), (23, .sl 20001001 0 os.length 1 false), (24, .sc (.int .i64 os.length)), (25, .sc (.int .i64 pre.length))]) (fun pre _ => (20001001, rows Ty.str.oc os) :: growB 11 (waitL ws p t pre).length (rows Ty.str.oc (waitL ws p t pre))) ⟨trivial, Tl.same rfl (by simp [growA_0, growB_0, waitL]) (by simp [growB_0, waitL, hM])⟩ ?_ ?_
  · intro _
    have hl := waitL_len hu p t os
    generalize waitL ws p t os = acc at hl ⊢
    cases acc with
    | nil =>
      simp [growA_0, growB_0]
      refine T.on 400 ?_
      simp
      refine cO 63 (Ret.sub (args' := [.em]) (R49 [] (by simp)) ⟨.inr ⟨rfl, rfl⟩, trivial⟩) ?_ (Ty.str.flo _) (hys := by simp [roc_em])
      simp [ex1, Ty.str.frL]
    | cons a acc =>
      simp [growA_s, growB_s]
      refine T.on 400 ?_
      simp
      have hl' : (a :: acc).length ≤ 4398046511104 := by omega
      have e1 : ∀ h : Hp, h 11 = some (some (rows Ty.str.oc (a :: acc))) → roc h 8 (.sl 11 0 (acc.length + 1) 1 false) = some (.ro (rows Ty.str.cs (a :: acc)) (acc.length + 1)) := fun h hb => rocS (xs := a :: acc) hb
      refine cO 63 (R49 (a :: acc) hl') ?_ (Ty.str.flo _) (hys := by simp [e1])
      have hi := Ty.str.frL (compactV (sortM (a :: acc)))
      have hrl := rowsS_len (compactV (sortM (a :: acc)))
      simp [ex1, hi, hrl]
  · intro pre o rest hx hl2 _
    have hdd : List.drop pre.length (rows Ty.str.oc os) = .sc (.string o) :: rows Ty.str.oc rest := by rw [rowsO_drop, ← hx, drop_pre, rowsO_cons]
    have hoz : o.size ≤ 1048576 := hz o (by rw [← hx]; simp)
    have hwl := waitL_len hu p t pre
    rw [waitL_snoc]
    generalize waitL ws p t pre = acc at hwl ⊢
    have ht1 := toldV_len hu p o
    have ht2 := toldV_sz hp hoz huz
    have rT := R47 ws p o hw hoz hu
    generalize toldV ws p o = tv at rT ht1 ht2 ⊢
    obtain ⟨G, hG0, hGs, hGl, hGe⟩ : ∃ G : List Doc → List ByteArray, G [] = acc ∧ (∀ l d, G (l ++ [d]) = if okD ws p t d = true then G l ++ [nmD d] else G l) ∧ (∀ l, (G l).length ≤ acc.length + l.length) ∧ acc ++ pickD ws p t tv = G tv :=
      ⟨fun l => acc ++ pickD ws p t l, by simp [pickD], fun l d => by
        show acc ++ pickD ws p t (l ++ [d]) = if okD ws p t d = true then (acc ++ pickD ws p t l) ++ [nmD d] else acc ++ pickD ws p t l
        rw [pickD_snoc]
        split <;> simp, fun l => by
        have := pickD_len ws p t l
        show (acc ++ pickD ws p t l).length ≤ _
        rw [List.length_append]; omega, rfl⟩
    rw [hGe]
    simp (disch := omega) [hdd]
    refine cO 32 rT ?_ (Doc.ty.flo tv) (hys := by simp [roc_ro, roc_sc]) (hh := by cases acc <;> simp [growB_0, growB_s])
    simp (disch := omega) []
    refine T.forR tv (fun _ _ => True) (fun q _ => [(0, .ro (rows Pack.ty.cs ws) ws.length), (2, .sc (.string p)), (3, .sc (.string t)), (11, growA 11 (G q).length 1), (23, .sl 20001001 0 os.length 1 false), (24, .sc (.int .i64 os.length)), (25, .sc (.int .i64 pre.length)), (32, .sl 32 0 tv.length 2 false), (33, .sc (.int .i64 tv.length)), (34, .sc (.int .i64 q.length))]) (fun q _ => (20001001, rows Ty.str.oc os) :: (32, rows Doc.ty.oc tv) :: growB 11 (G q).length (rows Ty.str.oc (G q))) ⟨trivial, Tl.same rfl (by rw [hG0]; cases acc <;> simp [growA_0, growB_0, growA_s, growB_s]) (by rw [hG0]; cases acc <;> simp [growB_0, growB_s, hM, hMD])⟩ ?_ ?_
    · intro _
      generalize G tv = A
      have hA : ∀ q, mens q (rows Ty.str.oc A) = true := fun q => hM q A
      cases A with
      | nil =>
        simp (disch := omega) [growA_0, growB_0]
        refine T.on 400 ?_
        simp (disch := omega) []
        exact Tl.same rfl (by simp (disch := omega) []) (by simp [hM])
      | cons a A =>
        simp (disch := omega) [growA_s, growB_s]
        refine T.on 400 ?_
        simp (disch := omega) []
        exact Tl.same rfl (by simp (disch := omega) []) (by simp [hM])
    · intro q d r2 hx2 hl3 _
      have hd2 : List.drop (q.length * 2) (rows Doc.ty.oc tv) = .sc (.string d.name) :: .sc (.string d.text) :: rows Doc.ty.oc r2 := by rw [← hx2, rowsD_drop]; rfl
      obtain ⟨z1, z2⟩ := ht2 d (by rw [← hx2]; simp)
      have hgl := hGl q
      rw [hGs]
      generalize G q = A at hgl ⊢
      by_cases hD : d.name.toList = p.toList ∧ d.text.toList = t.toList
      · have ho : okD ws p t d = false := by simp [okD, isD, hD.1, hD.2]
        rw [ho]
        cases A with
        | nil =>
          simp (disch := omega) [hd2, over, hD.1, hD.2, growA_0, growB_0, eqOff, seq1]
          exact Tl.same rfl (by simp (disch := omega) []) (by simp [hM, hMD])
        | cons a A =>
          simp (disch := omega) [hd2, over, hD.1, hD.2, growA_s, growB_s, eqOff, seq1]
          exact Tl.same rfl (by simp (disch := omega) []) (by simp [hM, hMD])
      have ho : okD ws p t d = (cmdO ws d.name d.text).isSome := by
        have : isD p t d = false := by
          simp [isD]
          exact fun e => fun e2 => hD ⟨e, e2⟩
        simp [okD, this]
      have hb : (d.name.toList == p.toList && d.text.toList == t.toList) = false := by
        cases h1 : (d.name.toList == p.toList) <;> cases h2 : (d.text.toList == t.toList) <;> simp at h1 h2 ⊢
        exact hD ⟨h1, h2⟩
      rw [ho]
      have rH := R48 ws d.name d.text hw hc
      have hs1 : d.name.size + 1 ≤ 9223372036854775807 := by omega
      have hs2 : d.name.size + 1 + d.text.size ≤ 9223372036854775807 := by omega
      have hnm : nmD d = d.name ++ bs [35] ++ d.text := rfl
      have hAl : A.length ≤ 1099513724928 := by
        have : pre.length * 1048577 ≤ 1048577 * 1048577 - 1048577 := by omega
        omega
      cases A with
      | nil =>
        simp (disch := omega) [hd2, over, growA_0, growB_0, eqOff, seq1, hb]
        refine cR rH ?_ (hys := by simp [roc_ro, roc_sc])
        cases hT : (cmdO ws d.name d.text).isSome
        case false =>
          simp (disch := omega) [growA_0, growB_0]
          exact Tl.same rfl (by simp (disch := omega) []) (by simp [hM, hMD])
        simp (disch := omega) [growA_s, growB_s, over, rows_one, ByteArray.size_append, hs1, hs2]
        exact Tl.ren [(20001001, 20001001), (32, 32), (59, 11)] rfl (by simp [idfree, idfree.idfreeL, rows_one, hnm, Ty.str.frL, Doc.frL]; exact ⟨rfl, rfl⟩)
      | cons a A =>
        simp only [List.length_cons] at hAl
        have hf := Ty.str.frL (a :: (A ++ [nmD d]))
        have hrl := rowsS_len (a :: A)
        have hra : rows Ty.str.oc (a :: (A ++ [nmD d])) = rows Ty.str.oc (a :: A) ++ [.sc (.string (d.name ++ bs [35] ++ d.text))] := by rw [show a :: (A ++ [nmD d]) = (a :: A) ++ [nmD d] from rfl, rows_append]; rfl
        rw [hra] at hf
        simp (disch := omega) [hd2, over, growA_s, growB_s, eqOff, seq1, hb]
        refine cR rH ?_ (hys := by simp [roc_ro, roc_sc])
        cases hT : (cmdO ws d.name d.text).isSome
        case false =>
          simp (disch := omega) [growA_s, growB_s]
          exact Tl.same rfl (by simp (disch := omega) []) (by simp [hM, hMD])
        rw [if_pos rfl, hra]
        simp (disch := omega) [growA_s, growB_s, over, ByteArray.size_append, hs1, hs2, hrl]
        exact Tl.ren [(20001001, 20001001), (32, 32), (59, 11)] rfl (by simp [idfree, hf, Ty.str.frL, Doc.frL])
set_option maxRecDepth 100000
def wmodeL : List ByteArray := [(bs [102, 97, 115, 116]), (bs [])]
structure Wd where
  ps : List Pack
  rs : List Rule
  fs : List File
  es : List Env
def worldF (c : Cur) : Wd × Cur :=
  let a := packsF c
  let b := rulesF a.2
  let f := dfilesF b.2
  (⟨a.1, b.1, f.1, [⟨(bs [109, 111, 100, 101]), pickS wmodeL f.2 2⟩]⟩, belowC f.2 2)
theorem worldF_ok {c : Cur} (h : c.ok) : (worldF c).2.ok := by
  simp only [worldF]
  exact belowC_ok (dfilesF_ok (rulesF_ok (packsF_ok h))).1 2
set_option maxHeartbeats 1000000 in
theorem R15 (c : Cur) (hc : c.ok) : Ret Tryz.prog 15 [.bx c.cs] (.tup [.own (rows Pack.ty.oc (worldF c).1.ps) (worldF c).1.ps.length 4, .own (rows Rule.ty.oc (worldF c).1.rs) (worldF c).1.rs.length 5, .own (rows File.ty.oc (worldF c).1.fs) (worldF c).1.fs.length 2, .own (rows Env.ty.oc (worldF c).1.es) (worldF c).1.es.length 2]) [.bx (worldF c).2.cs] := by
  have r1 := R41 c hc
  have h1 := packsF_ok hc
  simp only [worldF]
  generalize packsF c = a at *
  have r2 := R42 a.2 h1
  have h2 := rulesF_ok h1
  generalize rulesF a.2 = b at *
  have r3 := R43 b.2 h2
  have h3 := (dfilesF_ok h2).1
  generalize dfilesF b.2 = f at *
  have r4 : Ret Tryz.prog 18 [.bx f.2.cs, .own (rows Ty.str.oc wmodeL) 2 1] (.sc (.string (pickS wmodeL f.2 2))) [.bx (belowC f.2 2).cs, .un] := R18 _ h3 wmodeL (by decide)
  generalize belowC f.2 2 = d at *
  generalize pickS wmodeL f.2 2 = v at *
  have f1 := Pack.frL a.1
  have f2 := Rule.frL b.1
  have f3 := File.frL f.1
  have l1 := Pack.ocl a.1
  have l2 := Rule.ocl b.1
  have l3 := File.ocl f.1
  refine Ret.go Tryz.func15 ?_
  simp (disch := omega) []
  refine cB 9 r1 ?_
  simp (disch := omega) []
  refine cB 11 r2 ?_
  simp (disch := omega) []
  refine cB 15 r3 ?_
  simp (disch := omega) []
  refine cL 17 r4 ?_
  simp (disch := omega) [ex1, Cur.frl, ioPos1, f1, f2, f3, l1, l2, l3, rows_one, Env.oce, idfree, idfree.idfreeL]
def jmadeL : List ByteArray := [(bs [97, 35, 98, 117, 105, 108, 100]), (bs [98, 35, 98, 117, 105, 108, 100]), (bs [97, 35, 108, 105, 110, 116]), (bs [98, 35, 116, 101, 115, 116])]
def jpackL : List ByteArray := [(bs [97]), (bs [98]), (bs [99]), (bs [113])]
def jtaskL : List ByteArray := [(bs [98, 117, 105, 108, 100]), (bs [116, 101, 115, 116]), (bs [108, 105, 110, 116])]
def jmadeS (c : Cur) (l : List Made) : List Made × Cur := (l ++ [madeV (belowC c 4) (pickS jmadeL c 4)], madeC (belowC c 4))
structure Jd where
  w : Wd
  ms : List Made
  p : ByteArray
  t : ByteArray
def jobDF (code : List Int) : Jd :=
  let w := worldF (newC code)
  let m := iterN jmadeS (nat4 w.2 4) (belowC w.2 4) []
  ⟨w.1, m.1, pickS jpackL m.2 4, pickS jtaskL (belowC m.2 4) 3⟩
theorem jmadeS_ok {c : Cur} (l : List Made) (h : c.ok) : (jmadeS c l).2.ok := (madeP_ok (belowC_ok h 4)).1
set_option maxHeartbeats 2000000 in
theorem R5 (code : List Int) (hx : Ty.byte.slice.ok code) : Ret Tryz.prog 5 [.ro (rows B code) code.length] (.tup [.own (rows Pack.ty.oc (jobDF code).w.ps) (jobDF code).w.ps.length 4, .own (rows Rule.ty.oc (jobDF code).w.rs) (jobDF code).w.rs.length 5, .own (rows File.ty.oc (jobDF code).w.fs) (jobDF code).w.fs.length 2, .own (rows Env.ty.oc (jobDF code).w.es) (jobDF code).w.es.length 2, .own (rows Made.ty.oc (jobDF code).ms) (jobDF code).ms.length 3, .sc (.string (nmT (jobDF code).p (jobDF code).t))]) [.un] := by
  have r0 := R14 code hx
  have h0 := newC_ok hx
  simp only [jobDF]
  generalize newC code = c0 at *
  have r1 := R15 c0 h0
  have h1 := worldF_ok h0
  generalize worldF c0 = w at *
  obtain ⟨r2, r3⟩ := nat4_eq w.2 (n := 4) (by omega)
  have rB := R16 w.2 h1 4
  have h2 := belowC_ok h1 4
  generalize belowC w.2 4 = c2 at *
  generalize nat4 w.2 4 = m at *
  have hfin : (iterN jmadeS m c2 []).2.ok := (iterN_ok (f := jmadeS) (fun _ => True) (fun c l h _ => ⟨jmadeS_ok l h, trivial⟩) _ _ _ h2 trivial).1
  generalize hT : iterN jmadeS m c2 [] = tg at *
  have f1 := Pack.frL w.1.ps
  have f2 := Rule.frL w.1.rs
  have f3 := File.frL w.1.fs
  have f4 := Env.frL w.1.es
  have l1 := Pack.ocl w.1.ps
  have l2 := Rule.ocl w.1.rs
  have l3 := File.ocl w.1.fs
  have l5 := Env.ocl w.1.es
  refine Ret.go Tryz.func5 ?_
  simp (disch := omega) []
  refine cX 16 r0 ?_
  simp (disch := omega) []
  refine cB 0 r1 ?_
  simp (disch := omega) []
  refine cB 0 rB ?_
  simp (disch := omega) [r2]
  refine T.cutL [(8, .ref 16 0), (9, .sl 1000 0 w.1.ps.length 4 false), (10, .sl 1001 0 w.1.rs.length 5 false), (11, .sl 1002 0 w.1.fs.length 2 false), (12, .sl 1003 0 w.1.es.length 2 false), (13, .sl 24 0 tg.1.length 3 false)] [(16, tg.2.cs), (1000, rows Pack.ty.oc w.1.ps), (1001, rows Rule.ty.oc w.1.rs), (1002, rows File.ty.oc w.1.fs), (1003, rows Env.ty.oc w.1.es), (24, rows Made.ty.oc tg.1)] ?_ ?_
  · refine T.forI (fun i : Nat × Cur × List Made => i.1) (fun i => i.2.1.ok ∧ i.2.2.length + i.1 ≤ m ∧ iterN jmadeS i.1 i.2.1 i.2.2 = tg) (fun i => [(8, .ref 16 0), (9, .sl 1000 0 w.1.ps.length 4 false), (10, .sl 1001 0 w.1.rs.length 5 false), (11, .sl 1002 0 w.1.fs.length 2 false), (12, .sl 1003 0 w.1.es.length 2 false), (13, .sl 24 0 i.2.2.length 3 false), (14, .sc (.int .i64 i.1))]) (fun i => [(16, i.2.1.cs), (1000, rows Pack.ty.oc w.1.ps), (1001, rows Rule.ty.oc w.1.rs), (1002, rows File.ty.oc w.1.fs), (1003, rows Env.ty.oc w.1.es), (24, rows Made.ty.oc i.2.2)]) (m, c2, []) ⟨⟨h2, by simp, hT⟩, Tl.same rfl (by simp) (by simp [mens_idf (Cur.frl _), mens_idf f1, mens_idf f2, mens_idf f3, mens_idf f4])⟩ ?_
    rintro ⟨j, d, out⟩ ⟨hd, hl, hE⟩
    simp only at hd hl hE ⊢
    have hso := Made.frL out
    have hrl := Made.ocl out
    cases j with
    | zero =>
      have e1 : tg = (out, d) := hE.symm
      subst e1
      simp (disch := omega) []
      exact Tl.same rfl (by simp) (by simp [mens_idf (Cur.frl _), mens_idf f1, mens_idf f2, mens_idf f3, mens_idf f4, mens_idf hso])
    | succ j =>
      have hE2 : iterN jmadeS j (madeC (belowC d 4)) (out ++ [madeV (belowC d 4) (pickS jmadeL d 4)]) = tg := hE
      have rS : Ret Tryz.prog 18 [.bx d.cs, .own (rows Ty.str.oc jmadeL) 4 1] (.sc (.string (pickS jmadeL d 4))) [.bx (belowC d 4).cs, .un] := R18 d hd jmadeL (by decide)
      have hd1 := belowC_ok hd 4
      have rM := R17 (belowC d 4) hd1 (pickS jmadeL d 4)
      have hd2 := (madeP_ok hd1).1
      generalize madeC (belowC d 4) = d2 at *
      generalize madeV (belowC d 4) (pickS jmadeL d 4) = x at *
      generalize pickS jmadeL d 4 = y at *
      generalize belowC d 4 = d1 at *
      rw [Made.oce] at rM
      have ha := File.frL x.outs
      have hb := File.ocl x.outs
      have hf2 := Made.frL (out ++ [x])
      rw [rows_append, rows_one, Made.oce] at hf2
      simp (disch := omega) []
      refine cL 34 rS ?_
      simp (disch := omega) []
      refine cB 5 rM ?_
      simp (disch := omega) [hrl]
      refine Ri_mk (j, d2, out ++ [x]) (by simp) ⟨hd2, by simp; omega, hE2⟩ (Tl.pk 38 [6001] (rows Made.ty.oc out) [.sc (.string x.task), .sl 6001 0 x.outs.length 2 false, .sc (.string x.log)] (Made.ty.oc x) (by simp) (by simp [pkL, pk1, Made.oce, ha, hb]) fun h' e1 e2 => ?_)
      refine Tl.ren [(16, 16), (1000, 1000), (1001, 1001), (1002, 1002), (1003, 1003), (38, 24)] rfl ?_
      simp [e1, e2, rows_append, rows_one, Made.oce, hf2, f1, f2, f3, f4, Cur.frl, idfree, idfree.idfreeL]
  · have f5 := Made.frL tg.1
    have l6 := Made.ocl tg.1
    have rp : Ret Tryz.prog 18 [.bx tg.2.cs, .own (rows Ty.str.oc jpackL) 4 1] (.sc (.string (pickS jpackL tg.2 4))) [.bx (belowC tg.2 4).cs, .un] := R18 _ hfin jpackL (by decide)
    have rt : Ret Tryz.prog 18 [.bx (belowC tg.2 4).cs, .own (rows Ty.str.oc jtaskL) 3 1] (.sc (.string (pickS jtaskL (belowC tg.2 4) 3))) [.bx (belowC (belowC tg.2 4) 3).cs, .un] := R18 _ (belowC_ok hfin 4) jtaskL (by decide)
    have rN := R19 (pickS jpackL tg.2 4) (pickS jtaskL (belowC tg.2 4) 3) (pick_size (by decide) _ _) (pick_size (by decide) _ _)
    generalize pickS jpackL tg.2 4 = p at *
    generalize pickS jtaskL (belowC tg.2 4) 3 = t at *
    simp (disch := omega) []
    refine cL 45 rp ?_
    simp (disch := omega) []
    refine cL 48 rt ?_
    simp (disch := omega) []
    refine cR rN ?_
    simp (disch := omega) [ex1, f1, f2, f3, f4, f5, l1, l2, l3, l5, l6, nmT]
set_option maxRecDepth 100000
theorem R102 (l : List UInt8) (hl : l.length ≤ 1048577) : Ret Tryz.prog 102 [.sc (.string (bs l))] (.sc (.bool (pieceB l))) [.un] := by
  refine Ret.go Tryz.func102 ?_
  simp (disch := omega) []
  refine T.forI (fun i : Nat × Nat => l.length - i.2) (fun i => i.2 ≤ l.length ∧ i.1 ≤ i.2 ∧ (unitsF l.length l = (unitsF (l.length - i.2) (l.drop i.2)).map (· + i.1))) (fun i => [(0, .sc (.string (bs l))), (3, .sc (.int .i64 i.1)), (4, .sc (.int .i64 i.2))]) (fun _ => []) (0, 0) ⟨by simp, Tl.same rfl (by simp) (by simp)⟩ ?_
  rintro ⟨n, i⟩ ⟨h1, h2, h3⟩
  simp only at h1 h2 h3
  by_cases h8 : i < l.length
  case neg =>
    have e : pieceB l = inR n 1 12 := by rw [pieceB, h3, List.drop_of_length_le (by omega)]; simp [unitsF]
    simp (disch := omega) []
    refine T.on 400 ?_
    simp
    refine cR (R85 n 1 12) ?_
    simp [e]
  obtain ⟨c, hc, hc2, hd⟩ := getGl h8
  obtain ⟨t, ht⟩ : ∃ t, t = l.drop (i + 1) := ⟨_, rfl⟩
  rw [← ht] at hd
  have hle : l.length - i = t.length + 1 := by rw [ht, List.length_drop]; omega
  rw [hd, hle, unitsF] at h3
  have hu := unitN_le (c :: t)
  simp at hu
  have nx : ∀ u, unitN (c :: t) = u → u ≠ 0 → i + u ≤ l.length ∧ unitsF l.length l = (unitsF (l.length - (i + u)) (l.drop (i + u))).map (· + (n + 1)) := fun u hu2 h0 => by
    rw [hu2] at h3 hu
    refine ⟨by omega, ?_⟩
    rw [h3, if_neg h0, ← hd, List.drop_drop, unitsF_fuel _ _ (by rw [List.length_drop]; omega) (l.length - (i + u)) (by rw [List.length_drop]; omega)]
    cases unitsF (l.length - (i + u)) (l.drop (i + u)) <;> simp
    omega
  have no : unitN (c :: t) = 0 → pieceB l = false := fun h0 => by rw [pieceB, h3, if_pos h0]; rfl
  by_cases h4 : (c.toNat : Int) = 91
  · have hC : unitN (c :: t) = clsN t := by
      have e : c = 91 := u8_eq.1 h4
      rw [e]; rfl
    have hR := R129 l i h8 hl
    rw [← ht] at hR
    simp (disch := omega) [hc, hc2, h4]
    refine cR hR ?_
    by_cases h0 : clsN t = 0
    · simp (disch := omega) [h0, no (hC.trans h0)]
    · obtain ⟨n1, n2⟩ := nx _ hC h0
      simp (disch := omega) [h0]
      exact Ri_mk (n + 1, i + clsN t) (by simp; omega) ⟨n1, by omega, n2⟩ (Tl.same rfl (by simp (disch := omega) []) (by simp))
  · have hO : unitN (c :: t) = if oneU c = true then 1 else 0 := by
      show (if oneU c = true then 1 else if (c.toNat : Int) = 91 then clsN t else 0) = _
      rw [if_neg h4]
    simp (disch := omega) [hc, hc2, h4]
    refine cR (R130 c) ?_
    cases h5 : lttI (c.toNat : Int)
    · by_cases h6 : (c.toNat : Int) = 63
      · obtain ⟨n1, n2⟩ := nx 1 (by rw [hO]; simp [oneU, h5, h6]) (by decide)
        simp (disch := omega) [hc, hc2, h6]
        exact Ri_mk (n + 1, i + 1) (by simp; omega) ⟨n1, by omega, n2⟩ (Tl.same rfl (by simp (disch := omega) []) (by simp))
      · by_cases h7 : (c.toNat : Int) = 42
        · obtain ⟨n1, n2⟩ := nx 1 (by rw [hO]; simp [oneU, h5, h6, h7]) (by decide)
          simp (disch := omega) [hc, hc2, h6, h7]
          exact Ri_mk (n + 1, i + 1) (by simp; omega) ⟨n1, by omega, n2⟩ (Tl.same rfl (by simp (disch := omega) []) (by simp))
        · simp (disch := omega) [hc, hc2, h6, h7, no (by rw [hO]; simp [oneU, h5, h6, h7])]
    · obtain ⟨n1, n2⟩ := nx 1 (by rw [hO]; simp [oneU, h5]) (by decide)
      simp (disch := omega) []
      exact Ri_mk (n + 1, i + 1) (by simp; omega) ⟨n1, by omega, n2⟩ (Tl.same rfl (by simp (disch := omega) []) (by simp))
theorem R86 (s : ByteArray) (hs : s.size ≤ 1048576) : Ret Tryz.prog 86 [.sc (.string s)] (.sc (.bool (globB s))) [.un] := by
  have rs := R53 s 47 hs
  have hz : ∀ x ∈ splitS s 47, x.size ≤ s.size := splitP_size s 47 _ 0 0
  have hl : (splitS s 47).length ≤ s.size + 1 := splitP_len s 47 s.data.toList 0 0
  have hE : globB s = (piecesB (splitS s 47) && decide ((splitS s 47).length ≤ 4)) := rfl
  rw [hE]
  generalize splitS s 47 = ps at rs hz hl hE ⊢
  have hfr : idfree.idfreeL (rows Ty.str.oc ps) = true := Ty.str.frL _
  have hM : ∀ q, mens q (rows Ty.str.oc ps) = true := fun q => mens_idf hfr
  refine Ret.go Tryz.func86 ?_
  simp
  refine cO 6 rs ?_ (Ty.str.flo _)
  simp
  refine T.forL ps (fun pre _ => piecesB pre = true) (fun pre _ => [(3, .sl 6 0 ps.length 1 false), (4, .sc (.int .i64 pre.length))]) (fun _ _ => [(6, rows Ty.str.oc ps)]) (by simp [piecesB, hM]) ?_ ?_
  · intro hJ
    simp [hJ]
    refine T.on 400 ?_
    simp
    omega
  · intro pre x rest hx hl2 hJ
    have hxz := hz x (by rw [← hx]; simp)
    have hd : List.drop pre.length (rows Ty.str.oc ps) = .sc (.string x) :: rows Ty.str.oc rest := by rw [rowsO_drop, ← hx, drop_pre, rowsO_cons]
    have e1 : x.toList = x.data.toList := Lib.toList_data x
    by_cases h1 : x.data.toList = [42, 42]
    · have hb : pieceB x.data.toList = true := by rw [h1]; rfl
      simp (disch := omega) [hd, e1, h1, hM]
      simpa [piecesB, hb] using hJ
    · simp (disch := omega) [hd, e1, h1]
      refine cR (R102 x.data.toList (by rw [show x.data.toList.length = x.size from rfl]; omega)) ?_
      cases hb : pieceB x.data.toList
      · have : piecesB ps = false := by rw [← hx]; simp [piecesB, hb]
        simp [h1, this]
      · simp (disch := omega) [hM, h1]
        simpa [piecesB, hb] using hJ
theorem R131 (q : List UInt8) (c : UInt8) (hl : q.length ≤ 1048577) : Ret Tryz.prog 131 [.sc (.string (bs q)), .sc (.int .u8 c.toNat)] (.sc (.bool (clsT q c))) [.un, .un] := by
  refine Ret.go Tryz.func131 ?_
  obtain ⟨b, hb⟩ : ∃ b, b = decide (q.head? = some 33) := ⟨_, rfl⟩
  have hT : clsT q c = ((decide (c ∈ q) && !((c.toNat : Int) == 33)) != b) := by rw [hb]; rfl
  rw [hT]
  have main : ∀ r, r = q → b = b → True := fun _ _ _ => trivial
  cases q with
  | nil =>
    simp at hb
    subst hb
    simp (disch := omega) []
    refine T.forI (fun _ : Nat => 0) (fun _ => True) (fun _ => [(0, .sc (.string (bs []))), (5, .sc (.bool false)), (6, .sc (.int .i64 0))]) (fun _ => []) 0 ⟨trivial, Tl.same rfl (by simp (disch := omega) []) (by simp)⟩ ?_
    intro i _
    simp (disch := omega) []
    refine T.on 400 ?_
    simp
  | cons x r =>
    have hb2 : b = ((x.toNat : Int) == 33) := by
      rw [hb]
      by_cases h : x = 33
      · simp [h]
      · have : ¬ (x.toNat : Int) = 33 := fun e => h (u8_eq.1 e)
        simp [h, this]
    generalize hq : x :: r = q at hl
    have hx0 : q[0]? = some x := by rw [← hq]; rfl
    have hx1 : ∀ h, q[0]'h = x := fun h => by subst hq; rfl
    have hq0 : 0 < q.length := by rw [← hq]; simp
    simp (disch := omega) [hx0, hx1]
    refine T.forL q (fun pre _ => (decide (c ∈ pre) && !((c.toNat : Int) == 33)) = false) (fun pre _ => [(0, .sc (.string (bs q))), (1, .sc (.int .u8 c.toNat)), (5, .sc (.bool b)), (6, .sc (.int .i64 pre.length))]) (fun _ _ => []) (by simp [hb2]) ?_ ?_
    · intro hJ
      rw [hJ]
      simp
      refine T.on 400 ?_
      simp
    · intro pre y rest hx hl2 hJ
      have hy : q[pre.length]? = some y := by rw [← hx]; simp
      have hy2 : ∀ h, q[pre.length]'h = y := fun h => Option.some.inj ((List.getElem?_eq_getElem h).symm.trans hy)
      by_cases h1 : y = c
      · subst h1
        by_cases h2 : (y.toNat : Int) = 33
        · simp (disch := omega) [hy, hy2, h2]
        · have : y ∈ q := by rw [← hx]; simp
          have h3 : ((y.toNat : Int) == 33) = false := by simpa using h2
          simp (disch := omega) [hy, hy2, h2, h3, this]
      · have h1' : ¬ (y.toNat : Int) = c.toNat := fun e => h1 (u8_eq.1 e)
        have h1'' : ¬ c = y := fun e => h1 e.symm
        simp (disch := omega) [hy, hy2, h1']
        simpa [h1''] using hJ
set_option maxRecDepth 100000
theorem ixB_ge (l : List UInt8) (c : UInt8) : decide (0 ≤ Lib.indexByte l c) = decide (c ∈ l) := by
  rcases ixB_cases c l with ⟨e, hn⟩ | ⟨p, q, e, hn, e2⟩
  · rw [e]; simp [hn]
  · rw [e2, e]; simp
theorem run_sf : ∀ (t : List UInt8) (d : UInt8), d ∈ t.take (runN t) → (d.toNat : Int) ≠ 33
  | [], d, h => by simp at h
  | y :: t, d, h => by
    rw [runN_cons] at h
    split at h
    · rename_i hy
      rw [List.take_succ_cons] at h
      rcases List.mem_cons.1 h with rfl | h
      · intro e
        rw [(u8_eq (c := 33)).1 e] at hy
        exact absurd hy (by decide)
      · exact run_sf t d h
    · simp at h
theorem takes_cls {t : List UInt8} {d : UInt8} (h : clsN t ≠ 0) : takesU ((91 :: t).take (clsN t)) d = clsT (((91 :: t).take (clsN t - 1)).tail) d := by
  obtain ⟨n, hn⟩ : ∃ n, n = clsN t := ⟨_, rfl⟩
  have hle := clsN_le t
  obtain ⟨k, hk⟩ : ∃ k, k = clsK t := ⟨_, rfl⟩
  have hs : n = runN (t.drop k) + k + 2 ∧ 1 ≤ runN (t.drop k) := by
    rw [hn, hk]
    unfold clsN at h ⊢
    split
    · rename_i g
      refine ⟨rfl, ?_⟩
      have g1 := g.1
      simp [inR] at g1
      omega
    · rename_i g; rw [if_neg g] at h; exact absurd rfl h
  rw [← hn] at hle ⊢
  obtain ⟨m, hm⟩ : ∃ m, n = m + 3 := ⟨n - 3, by omega⟩
  have e0 : (91 :: t).take n = 91 :: t.take (m + 2) := by rw [hm]; rfl
  have hl : ((91 :: t).take n).length = m + 3 := by rw [List.length_take]; simp; omega
  have e1 : inU ((91 :: t).take n) = t.take (m + 1) := by
    rw [inU, hl, List.take_take, show min (m + 3 - 1) n = m + 2 by omega]; rfl
  have e2 : ((91 :: t).take (n - 1)).tail = t.take (m + 1) := by rw [hm]; rfl
  rw [takesU, if_neg (by rw [e0]; simp), if_neg (by omega), e1, e2, ixB_ge, hp33, clsT]
  have hd : (t.take (m + 1)).head? = t.head? := by cases t <;> rfl
  rw [hd]
  by_cases h5 : t.head? = some 33
  · have hk1 : k = 1 := by rw [hk, clsK, if_pos h5]
    obtain ⟨t', rfl⟩ : ∃ t', t = 33 :: t' := by
      cases t with
      | nil => cases h5
      | cons x t' => exact ⟨t', by simp at h5; rw [h5]⟩
    have e3 : Lib.trimPrefix ((33 :: t').take (m + 1)) [33] = t'.take m := by simp [Lib.trimPrefix, Lib.hasPrefix, List.isPrefixOf]
    rw [e3]
    congr 1
    rw [hk1] at hs
    have hm2 : m = runN t' := by have := hs.1; simp at this; omega
    have hne : d ∈ t'.take m → (d.toNat : Int) ≠ 33 := by rw [hm2]; exact run_sf t' d
    by_cases hd : d ∈ t'.take m
    · simp [hd, hne hd]
    · simp [hd]
      intro e
      rw [e]; rfl
  · have hk0 : k = 0 := by rw [hk, clsK, if_neg h5]
    have e3 : Lib.trimPrefix (t.take (m + 1)) [33] = t.take (m + 1) := by rw [Lib.trimPrefix, hp33, hd]; simp [h5]
    rw [e3]
    congr 1
    rw [hk0] at hs
    have hm2 : m + 1 = runN t := by have := hs.1; simp at this; omega
    have hne : d ∈ t.take (m + 1) → (d.toNat : Int) ≠ 33 := by rw [hm2]; exact run_sf t d
    by_cases hd : d ∈ t.take (m + 1)
    · simp [hd, hne hd]
    · simp [hd]
set_option maxHeartbeats 2000000 in
theorem R104 : ∀ (k f : Nat) (p s : List UInt8), unitsF f p = some k → p.length ≤ 1048577 → s.length ≤ 1048577 → Ret Tryz.prog 104 [.sc (.string (bs p)), .sc (.string (bs s))] (.sc (.bool (nameM k p s))) [.un, .un]
  | k, f, [], s, hk, hp, hs => by
    obtain rfl : k = 0 := by cases f <;> (unfold unitsF at hk; cases hk; rfl)
    refine Ret.go Tryz.func104 ?_
    simp [nameM]
  | k, 0, c :: t, s, hk, hp, hs => by cases hk
  | k, f + 1, c :: t, s, hk, hp, hs => by
    unfold unitsF at hk
    split at hk
    · cases hk
    rename_i h0
    obtain ⟨k, hk2, rfl⟩ := Option.map_eq_some_iff.1 hk
    clear hk
    have hu := unitN_le (c :: t)
    obtain ⟨n, hn⟩ : ∃ n, n = unitN (c :: t) := ⟨_, rfl⟩
    have hnm : nameM (k + 1) (c :: t) s = if c = 42 then (List.range (s.length + 1)).any fun i => nameM k t (s.drop i) else stepM (nameM k ((c :: t).drop n)) ((c :: t).take n) s := by rw [nameM, ← hn]; simp
    have IH := fun (s : List UInt8) (h : s.length ≤ 1048577) => R104 k f ((c :: t).drop n) s (by rw [hn]; exact hk2) (by rw [List.length_drop]; omega) h
    rw [hnm]
    rw [← hn] at h0 hu
    have hn1 : n ≤ t.length + 1 := hu
    obtain ⟨p, hpe⟩ : ∃ p, p = c :: t := ⟨_, rfl⟩
    have hpl : p.length = t.length + 1 := by rw [hpe]; rfl
    have hpn : ¬ p = [] := by rw [hpe]; simp
    have hp0 : p[0]? = some c := by rw [hpe]; rfl
    have hp00 : ∀ h, p[0]'h = c := fun h => by subst hpe; rfl
    have hp1 : p.tail = t := by rw [hpe]; rfl
    rw [← hpe] at IH hp ⊢
    have hq : p.take p.length = p := List.take_length
    refine Ret.go Tryz.func104 ?_
    by_cases h1 : c = 42
    · have h1' : (c.toNat : Int) = 42 := by rw [h1]; rfl
      have hn2 : n = 1 := by rw [hn, h1]; rfl
      subst hn2
      have e2 : p.drop 1 = t := by rw [hpe]; rfl
      rw [e2] at IH
      rw [if_pos h1]
      simp (disch := omega) [hpn, hp0, hp00, h1']
      refine T.forI (fun i => s.length + 1 - i) (fun i => i ≤ s.length + 1 ∧ ∀ x, x < i → nameM k t (s.drop x) = false) (fun i => [(0, .sc (.string (bs p))), (1, .sc (.string (bs s))), (5, .sc (.int .i64 i))]) (fun _ => []) 0 ⟨by simp, Tl.same rfl (by simp) (by simp)⟩ ?_
      rintro i ⟨hi, hJ⟩
      by_cases h8 : i ≤ s.length
      · have hq2 : s.take s.length = s := List.take_length
        simp (disch := omega) []
        refine T.text 400 mixed (by kernel_rfl) (by kernel_rfl) ?_
        simp (disch := omega) [hq2, hq, hp1]
        refine callSK.by rfl (by kernel_rfl) (by simp [roc_sc]) (IH (s.drop i) (by rw [List.length_drop]; omega)) ?_
        cases hb : nameM k t (s.drop i)
        · simp (disch := omega) []
          exact Ri_mk (i + 1) (by omega) ⟨by omega, fun x hx => (Nat.lt_or_eq_of_le (Nat.le_of_lt_succ hx)).elim (hJ x) fun e => e ▸ hb⟩ (Tl.same rfl (by simp (disch := omega) []) (by simp))
        · have : (List.range (s.length + 1)).any (fun i => nameM k t (s.drop i)) = true := List.any_eq_true.2 ⟨i, List.mem_range.2 (by omega), hb⟩
          simp [this]
      · obtain rfl : i = s.length + 1 := by omega
        have hJ : (List.range (s.length + 1)).any (fun i => nameM k t (s.drop i)) = false := by simpa using hJ
        rw [hJ]
        simp (disch := omega) []
        refine T.on 400 ?_
        simp
    have h1' : ¬ (c.toNat : Int) = 42 := fun e => h1 (u8_eq.1 e)
    rw [if_neg h1]
    cases s with
    | nil => simp (disch := omega) [hpn, hp0, hp00, h1', stepM]
    | cons d s =>
      have hs2 : s.length ≤ 1048577 := by simp at hs; omega
      have hq2 : (d :: s).take (s.length + 1) = d :: s := List.take_of_length_le (by simp)
      by_cases h2 : c = 63
      · have h2' : (c.toNat : Int) = 63 := by rw [h2]; rfl
        have hn2 : n = 1 := by rw [hn, h2]; rfl
        subst hn2
        have e2 : p.drop 1 = t := by rw [hpe]; rfl
        have e3 : takesU (p.take 1) d = true := by rw [hpe, h2]; rfl
        rw [e2] at IH
        simp (disch := omega) [hpn, hp0, hp00, h1', h2', stepM, e3]
        refine T.text 400 mixed (by kernel_rfl) (by kernel_rfl) ?_
        simp (disch := omega) [hq, hq2, hp1]
        refine callSK.by rfl (by kernel_rfl) (by simp [roc_sc]) (IH s hs2) ?_
        simp [hp1, e2]
      have h2' : ¬ (c.toNat : Int) = 63 := fun e => h2 (u8_eq.1 e)
      by_cases h3 : c = 91
      · have h3' : (c.toNat : Int) = 91 := by rw [h3]; rfl
        have hC : unitN (c :: t) = clsN t := by rw [h3]; rfl
        have hR := R129 p 0 (by omega) hp
        have hd1 : p.drop (0 + 1) = t := by rw [hpe]; rfl
        rw [hd1, ← hC, ← hn, if_neg h0] at hR
        have hT : takesU (p.take n) d = clsT (p.take (n - 1)).tail d := by rw [hpe, h3, hn, hC]; exact takes_cls (by rw [← hC, ← hn]; exact h0)
        have g1 : ((n : Int) - 1).toNat = n - 1 := by omega
        simp (disch := omega) [hpn, hp0, hp00, h1', h2', h3', stepM, hT]
        refine cR hR ?_
        simp
        refine T.text 400 mixed (by kernel_rfl) (by kernel_rfl) ?_
        have g2 : 1 ≤ n - 1 := by
          have := takes_cls (t := t) (d := d)
          have hcc : clsN t ≠ 1 := fun e => by
            unfold clsN at e
            split at e <;> omega
          omega
        simp (disch := omega) [g1, g2]
        refine callSK.by rfl (by kernel_rfl) (by simp [roc_sc]) (R131 (p.take (n - 1)).tail d (by simp; omega)) ?_
        cases hb : clsT (p.take (n - 1)).tail d
        · simp
        · simp (disch := omega) [hq, hq2]
          refine callSK.by rfl (by kernel_rfl) (by simp [roc_sc]) (IH s hs2) ?_
          simp
      · have h3' : ¬ (c.toNat : Int) = 91 := fun e => h3 (u8_eq.1 e)
        have hn2 : n = 1 := by
          have : unitN (c :: t) = if oneU c = true then 1 else 0 := by
            show (if oneU c = true then 1 else if (c.toNat : Int) = 91 then clsN t else 0) = _
            rw [if_neg h3']
          rw [hn] at h0 ⊢
          rw [this] at h0 ⊢
          split at h0 <;> simp_all
        subst hn2
        have e2 : p.drop 1 = t := by rw [hpe]; rfl
        have e3 : takesU (p.take 1) d = (c == d) := by
          rw [hpe]
          show takesU [c] d = _
          rw [takesU, if_neg (by simp [h2]), if_pos (show [c].length = 1 from rfl)]
          by_cases h : c = d <;> simp [h]
        have e4 : ((c.toNat : Int) == d.toNat) = (c == d) := by
          by_cases h : c = d
          · simp [h]
          · have : ¬ (c.toNat : Int) = d.toNat := fun e => h (u8_eq.1 e)
            rw [beq_eq_false_iff_ne.2 this, beq_eq_false_iff_ne.2 h]
        rw [e2] at IH
        simp (disch := omega) [hpn, hp0, hp00, h1', h2', h3', stepM, e3]
        refine T.text 400 mixed (by kernel_rfl) (by kernel_rfl) ?_
        cases hb : c == d
        · rw [hb] at e4
          simp (disch := omega) [hp0, hp00, e4]
        · rw [hb] at e4
          simp (disch := omega) [hp0, hp00, e4, hq, hq2, hp1]
          refine callSK.by rfl (by kernel_rfl) (by simp [roc_sc]) (IH s hs2) ?_
          simp [hp1, e2]
set_option maxRecDepth 100000
set_option maxHeartbeats 2000000 in
theorem R88 : ∀ (ps l : List ByteArray), piecesB ps = true → ps.length ≤ 1048577 → l.length ≤ 1048577 → (∀ x ∈ ps, x.size ≤ 1048577) → (∀ x ∈ l, x.size ≤ 1048577) → Ret Tryz.prog 88 [.ro (rows Ty.str.cs ps) ps.length, .ro (rows Ty.str.cs l) l.length] (.sc (.bool (globM ps l))) [.un, .un]
  | [], l, hk, hp, hl, zp, zl => by
    have e : ((l.length : Int) == 0) = (l == []) := by cases l <;> simp; omega
    refine Ret.go Tryz.func88 ?_
    simp [globM, e]
  | p :: ps, l, hk, hp, hl, zp, zl => by
    simp [piecesB] at hk hp
    obtain ⟨hk1, hk2⟩ := hk
    have IH := fun (i : Nat) => R88 ps (l.drop i) (by simpa [piecesB] using hk2) (by omega) (by rw [List.length_drop]; omega) (fun x h => zp x (List.mem_cons_of_mem _ h)) (fun x h => zl x (List.mem_of_mem_drop h))
    have hne : ¬ (ps.length : Int) + 1 = 0 := by omega
    have hpt := zp p (List.mem_cons_self ..)
    have c1 := rowsC_take ps
    have e1 : p.toList = p.data.toList := Lib.toList_data p
    have hR := R104 (kU p) p.data.toList.length p.data.toList
    have hg : globM (p :: ps) l = if p.data.toList = [42, 42] then (List.range (l.length + 1)).any fun i => globM ps (l.drop i) else stepG (globM ps) p l := rfl
    rw [hg]
    refine Ret.go Tryz.func88 ?_
    by_cases h1 : p.data.toList = [42, 42]
    · rw [if_pos h1]
      simp (disch := omega) [hne, rowsC_cons, e1, h1]
      refine T.forI (fun i => l.length + 1 - i) (fun i => i ≤ l.length + 1 ∧ ∀ x, x < i → globM ps (l.drop x) = false) (fun i => [(0, .ro (.sc (.string p) :: rows Ty.str.cs ps) (ps.length + 1)), (1, .ro (rows Ty.str.cs l) l.length), (5, .sc (.int .i64 i))]) (fun _ => []) 0 ⟨by simp, Tl.same rfl (by simp) (by simp)⟩ ?_
      rintro i ⟨hi, hJ⟩
      by_cases h8 : i ≤ l.length
      · have e2 := rowsC_take (l.drop i)
        rw [List.length_drop] at e2
        have IH := IH i
        rw [List.length_drop] at IH
        simp (disch := omega) []
        refine T.text 400 mixed (by kernel_rfl) (by kernel_rfl) ?_
        simp (disch := omega) [c1, rowsC_drop, e2]
        refine callSK.by rfl (by kernel_rfl) (by simp [roc_sc, roc_ro]) IH ?_
        cases hb : globM ps (l.drop i)
        · simp (disch := omega) []
          exact Ri_mk (i + 1) (by omega) ⟨by omega, fun x hx => (Nat.lt_or_eq_of_le (Nat.le_of_lt_succ hx)).elim (hJ x) fun e => e ▸ hb⟩ (Tl.same rfl (by simp (disch := omega) []) (by simp))
        · have : (List.range (l.length + 1)).any (fun i => globM ps (l.drop i)) = true := List.any_eq_true.2 ⟨i, List.mem_range.2 (by omega), hb⟩
          simp [this]
      · obtain rfl : i = l.length + 1 := by omega
        have hJ : (List.range (l.length + 1)).any (fun i => globM ps (l.drop i)) = false := by simpa using hJ
        rw [hJ]
        simp (disch := omega) []
        refine T.on 400 ?_
        simp
    · rw [if_neg h1]
      simp (disch := omega) [hne, rowsC_cons, e1, h1]
      refine T.text 400 mixed (by kernel_rfl) (by kernel_rfl) ?_
      cases l with
      | nil => simp (disch := omega) [stepG]
      | cons n l =>
        have hln : 0 < (l.length : Int) + 1 := by omega
        have IH := IH 1
        simp at IH hl
        have c2 := rowsC_take l
        simp (disch := omega) [rowsC_cons, hln, stepG]
        refine callSK.by rfl (by kernel_rfl) (by simp [roc_sc, roc_ro]) (hR n.data.toList (units_of hk1) hpt (zl n (List.mem_cons_self ..))) ?_
        cases hb : nameM (kU p) p.data.toList n.data.toList
        · simp (disch := omega) [rowsC_cons, hln, stepG, hb]
        · simp (disch := omega) [rowsC_cons, hln, stepG, hb, c1, c2]
          refine callSK.by rfl (by kernel_rfl) (by simp [roc_sc, roc_ro]) IH ?_
          simp
theorem R57 (g s : ByteArray) (hg : g.size ≤ 1048576) (hs : s.size ≤ 1048576) : Ret Tryz.prog 57 [.sc (.string g), .sc (.string s)] (.sc (.bool (matchB g s))) [.un, .un] := by
  have rg := R53 g 47 hg
  have rs := R53 s 47 hs
  obtain ⟨zg1, zg2⟩ := split_small hg
  obtain ⟨zs1, zs2⟩ := split_small hs
  refine Ret.go Tryz.func57 ?_
  simp
  refine cR (R86 g hg) ?_
  cases h1 : globB g
  · simp [matchB, h1]
  simp
  refine cR (R87 s hs) ?_
  cases h2 : pathOk s
  · simp [matchB, h1, h2]
  simp
  have hk : piecesB (splitS g 47) = true := by rw [globB, Bool.and_eq_true] at h1; exact h1.1
  refine cO 13 rg ?_ (Ty.str.flo _)
  simp
  refine cO 15 rs ?_ (Ty.str.flo _)
  simp
  refine cR (R88 _ _ hk zg1 zs1 zg2 zs2) ?_ (hys := by simp [rocS])
  simp [matchB, h1, h2]
set_option maxHeartbeats 1000000 in
theorem R29 (l : List File) (gs : List ByteArray) (hl : l.length ≤ 1048577) (hg : gs.length ≤ 1048577) (zl : ∀ x ∈ l, x.path.size ≤ 1048576) (zg : ∀ x ∈ gs, x.size ≤ 1048576) :
    Ret Tryz.prog 29 [.ro (rows File.ty.cs l) l.length, .ro (rows Ty.str.cs gs) gs.length] (.own (rows File.ty.oc (l.filter (pickB gs))) (l.filter (pickB gs)).length 2) [.un, .un] := by
  obtain ⟨F, hF⟩ : ∃ F : List File → List File, F = fun l => l.filter (pickB gs) := ⟨_, rfl⟩
  have F0 : F [] = [] := by rw [hF]; rfl
  have F1 : ∀ pre x, F (pre ++ [x]) = if pickB gs x = true then F pre ++ [x] else F pre := fun pre x => by rw [hF]; simp only [List.filter_append]; split <;> simp [*]
  have Fl : ∀ l, (F l).length ≤ l.length := fun l => by rw [hF]; exact List.length_filter_le _ _
  have Fi : ∀ l, idfree.idfreeL (rows File.ty.oc (F l)) = true := fun l => File.frL _
  rw [show l.filter (pickB gs) = F l by rw [hF]]
  have Mi : ∀ q l, mens q (rows File.ty.oc (F l)) = true := fun q l => mens_idf (Fi l)
  clear hF
  refine Ret.go Tryz.func29 ?_
  simp
  refine T.forR l (fun _ _ => True) (fun pre _ => [(0, .ro (rows File.ty.cs l) l.length), (1, .ro (rows Ty.str.cs gs) gs.length), (5, .sl 8 0 (F pre).length 2 false), (6, .sc (.int .i64 pre.length))]) (fun pre _ => [(8, rows File.ty.oc (F pre))]) ⟨trivial, Tl.same rfl (by simp [F0]) (by simp [F0, rows])⟩ ?_ ?_
  · intro _
    simp
    refine T.on 400 ?_
    simp [ex1, Fi, File.ocl]
  · intro pre x rest hx hl2 _
    have hd : List.drop (pre.length * 2) (rows File.ty.cs l) = .sc (.string x.path) :: .sc (.string x.text) :: rows File.ty.cs rest := by rw [← hx, rowsF_drop]
    have h3 := Fl pre
    have hxz := zl x (by rw [← hx]; simp)
    simp (disch := omega) []
    refine T.cutB [(0, .ro (rows File.ty.cs l) l.length), (1, .ro (rows Ty.str.cs gs) gs.length), (5, .sl 8 0 (F (pre ++ [x])).length 2 false), (6, .sc (.int .i64 pre.length))] [(8, rows File.ty.oc (F (pre ++ [x])))] ?_ ?_
    · refine T.forL gs (fun p _ => p.any (fun g => matchB g x.path) = false) (fun p _ => [(0, .ro (rows File.ty.cs l) l.length), (1, .ro (rows Ty.str.cs gs) gs.length), (5, .sl 8 0 (F pre).length 2 false), (6, .sc (.int .i64 pre.length)), (7, .sc (.int .i64 p.length))])
        (fun _ _ => [(8, rows File.ty.oc (F pre))]) (by simp [Mi]) ?_ ?_
      · intro hJ
        have e : F (pre ++ [x]) = F pre := by rw [F1, if_neg (by simp [pickB, hJ])]
        rw [e]
        simp
        exact Tl.same rfl (by simp) (by simp [Mi])
      · intro p g r hx2 hl3 hJ
        have hgz := zg g (by rw [← hx2]; simp)
        have hd2 : List.drop p.length (rows Ty.str.cs gs) = .sc (.string g) :: rows Ty.str.cs r := by rw [rowsC_drop, ← hx2, drop_pre, rowsC_cons]
        simp at hJ
        simp (disch := omega) []
        refine T.text 400 mixed (by kernel_rfl) (by kernel_rfl) ?_
        simp (disch := omega) [hd, hd2]
        refine callSK.by rfl (by kernel_rfl) (by simp [roc_sc]) (R57 g x.path hgz hxz) ?_
        cases hb : matchB g x.path
        · simp (disch := omega) [hb, Mi]
          exact hJ
        · have e : F (pre ++ [x]) = F pre ++ [x] := by rw [F1, if_pos (by rw [pickB, ← hx2]; simp [hb])]
          have hr : rows File.ty.oc (F (pre ++ [x])) = rows File.ty.oc (F pre) ++ [.sc (.string x.path), .sc (.string x.text)] := by rw [e, rows_append, rows_one]; rfl
          have hi := Fi (pre ++ [x])
          have hL := congrArg List.length e
          simp at hL
          rw [hr] at hi
          simp (disch := omega) [over, File.ocl, hL, hd]
          exact Tl.ren [(37, 8)] rfl (by simp [idfree, hr, hi])
    · simp (disch := omega) []
      exact Tl.same rfl (by simp (disch := omega) []) (by simp [Mi])
set_option maxRecDepth 100000
def sameM (t : ByteArray) (m : Made) : Bool := m.task.toList == t.toList
def sameE (t : ByteArray) (m : Env) : Bool := m.name.toList == t.toList
def mIx (n : ByteArray) (l : List Made) : Int := idx (sameM n) l 0
def getE (l : List Env) (n : ByteArray) : ByteArray × Bool := match l.find? (sameE n) with | some x => (x.val, true) | none => (bs [], false)
theorem R51 (n : ByteArray) (x : Made) : Ret Tryz.prog 51 [.agg (Made.ty.cs x), .rp [.sc (.string n)] 0] (.sc (.bool (sameM n x))) [.un, .un] := by
  refine Ret.go Tryz.func51 ?_
  simp (disch := omega) [Made.cse, sameM]
theorem R50 (g : FuncId) (caps : List AV) (f : Made → Bool) (hg : callB Tryz.prog g = true) (hsh : shut.shutL caps = true) (xs : List Made) (hR : ∀ x ∈ xs, Ret Tryz.prog g (el true (Made.ty.cs x) :: caps) (.sc (.bool (f x))) (.un :: caps.map fun _ => .un)) (hb : xs.length < 4611686018427387904) :
    Ret Tryz.prog 50 [.ro (rows Made.ty.cs xs) xs.length, .clo g caps] (.sc (.int .i64 (idx f xs 0))) [.un, .un] :=
  Ret.indexFunc Made.ty (agg := true) Tryz.func50 ⟨by kernel_rfl, by kernel_rfl, by kernel_rfl⟩ (fun h => by cases h) g caps f hg hsh xs hR hb
theorem R24 (xs : List Made) (n : ByteArray) (hb : xs.length < 4611686018427387904) : Ret Tryz.prog 24 [.ro (rows Made.ty.cs xs) xs.length, .sc (.string n)] (.sc (.int .i64 (mIx n xs))) [.un, .un] := by
  refine Ret.go Tryz.func24 ?_
  simp (disch := omega) []
  refine cR (ys := [.ro (rows Made.ty.cs xs) xs.length, .clo 51 [.rp [.sc (.string n)] 0]]) (R50 51 [.rp [.sc (.string n)] 0] (sameM n) (by kernel_rfl) rfl xs (fun x _ => R51 n x) hb) ?_ (hys := by simp [roc_ro, upd_app, roc])
  simp [mIx]
theorem R22 (xs : List Env) (n : ByteArray) (hb : xs.length < 4611686018427387904) : Ret Tryz.prog 22 [.ro (rows Env.ty.cs xs) xs.length, .sc (.string n)] (.tup [.sc (.string (getE xs n).1), .sc (.bool (getE xs n).2)]) [.un, .un] := by
  unfold getE
  refine Ret.go Tryz.func22 ?_
  simp (disch := omega) []
  refine T.forL xs (fun pre _ => ∀ y ∈ pre, sameE n y = false) (fun pre _ => [(1, .sc (.string n)), (8, .ro (rows Env.ty.cs xs) xs.length), (9, .sc (.int .i64 xs.length)), (10, .sc (.int .i64 pre.length))]) (fun _ _ => []) (by simp) ?_ ?_
  · intro hJ
    have e : xs.find? (sameE n) = none := List.find?_eq_none.2 fun y hy => by simp [hJ y hy]
    simp (disch := omega) [e]
    refine T.on 400 ?_
    simp (disch := omega) []
  · intro q x r hx hl hJ
    have hd : List.drop (q.length * 2) (rows Env.ty.cs xs) = .sc (.string x.name) :: .sc (.string x.val) :: rows Env.ty.cs r := by rw [← hx]; exact rows_drop Env.ty.csn q (x :: r)
    by_cases h : x.name.toList = n.toList
    · have e : xs.find? (sameE n) = some x := by rw [← hx]; exact find_pre hJ (by simp [sameE, h])
      simp (disch := omega) [hd, h, e]
    · simp (disch := omega) [hd, h]
      intro y hy
      rcases hy with hy | rfl
      · exact hJ y hy
      · simp [sameE, h]
theorem R52 (xs : List File) (hb : xs.length * 32 ≤ 140737488355328) : Ret Tryz.prog 52 [.ro (rows File.ty.cs xs) xs.length] (.own (rows File.ty.oc xs) xs.length 2) [.un] := Ret.clone File.ty rfl (bytes := 32) Tryz.func52 ⟨by kernel_rfl, by kernel_rfl, by kernel_rfl⟩ xs hb
theorem R25 (m : Made) (hb : m.outs.length * 32 ≤ 140737488355328) : Ret Tryz.prog 25 [.agg (Made.ty.cs m)] (.agg (Made.ty.oc m)) [.un] := by
  refine Ret.go Tryz.func25 ?_
  simp (disch := omega) [Made.cse]
  refine cO 5 (R52 m.outs hb) ?_ (File.ty.flo m.outs)
  simp (disch := omega) [ex1, File.ocl, File.frL, Made.oce]
def envA : Option Env → AV
  | some e => .tup [.agg (Env.ty.cs e), .sc (.bool true)]
  | none => .tup [.agg [.sc (.string (bs [])), .sc (.string (bs []))], .sc (.bool false)]
def madeOA : Option Made → AV
  | some m => .tup [.agg (Made.ty.oc m), .sc (.bool true)]
  | none => .tup [.agg [.sc (.string (bs [])), .em, .sc (.string (bs []))], .sc (.bool false)]
theorem R30 (xs : List Env) (n : ByteArray) (hb : xs.length ≤ 1048577) : Ret Tryz.prog 30 [.ro (rows Env.ty.cs xs) xs.length, .sc (.string n)] (envA (xs.find? (sameE n))) [.un, .un] := by
  refine Ret.go Tryz.func30 ?_
  simp (disch := omega) []
  refine T.forL xs (fun pre _ => ∀ y ∈ pre, sameE n y = false) (fun pre _ => [(0, .ro (rows Env.ty.cs xs) xs.length), (1, .sc (.string n)), (4, .ref 4 0), (6, .sc (.int .i64 pre.length))]) (fun _ _ => [(4, [.sc (.string (bs [])), .sc (.string (bs []))])]) (by simp) ?_ ?_
  · intro hJ
    have e : xs.find? (sameE n) = none := List.find?_eq_none.2 fun y hy => by simp [hJ y hy]
    simp (disch := omega) [e, envA]
    refine T.on 400 ?_
    simp (disch := omega) []
  · intro q x r hx hl hJ
    have hd : List.drop (q.length * 2) (rows Env.ty.cs xs) = .sc (.string x.name) :: .sc (.string x.val) :: rows Env.ty.cs r := by rw [← hx]; exact rows_drop Env.ty.csn q (x :: r)
    by_cases h : x.name.toList = n.toList
    · have e : xs.find? (sameE n) = some x := by rw [← hx]; exact find_pre hJ (by simp [sameE, h])
      simp (disch := omega) [hd, h, e, envA, Env.cse]
    · simp (disch := omega) [hd, h]
      intro y hy
      rcases hy with hy | rfl
      · exact hJ y hy
      · simp [sameE, h]
theorem R32 (xs : List Made) (n : ByteArray) (hb : xs.length ≤ 1048577) (ho : ∀ m ∈ xs, Made.ty.ok m) : Ret Tryz.prog 32 [.ro (rows Made.ty.cs xs) xs.length, .sc (.string n)] (madeOA (xs.find? (sameM n))) [.un, .un] := by
  refine Ret.go Tryz.func32 ?_
  simp (disch := omega) []
  refine T.forL xs (fun pre _ => ∀ y ∈ pre, sameM n y = false) (fun pre _ => [(0, .ro (rows Made.ty.cs xs) xs.length), (1, .sc (.string n)), (4, .ref 4 0), (6, .sc (.int .i64 pre.length))]) (fun _ _ => [(4, [.sc (.string (bs [])), .em, .sc (.string (bs []))])]) (by simp) ?_ ?_
  · intro hJ
    have e : xs.find? (sameM n) = none := List.find?_eq_none.2 fun y hy => by simp [hJ y hy]
    simp (disch := omega) [e, madeOA]
    refine T.on 400 ?_
    simp (disch := omega) [ex1]
  · intro q x r hx hl hJ
    have hd : List.drop (q.length * 3) (rows Made.ty.cs xs) = .sc (.string x.task) :: .ro (rows File.ty.cs x.outs) x.outs.length :: .sc (.string x.log) :: rows Made.ty.cs r := by rw [← hx]; exact rows_drop Made.ty.csn q (x :: r)
    by_cases h : x.task.toList = n.toList
    · have e : xs.find? (sameM n) = some x := by rw [← hx]; exact find_pre hJ (by simp [sameM, h])
      have rC := R60 x (ho x (by rw [← hx]; simp))
      rw [Made.oce, Made.cse] at rC
      have f1 := File.frL x.outs
      have f2 := File.ocl x.outs
      simp (disch := omega) [hd, h]
      refine cR rC ?_ (hfl := by simpa [flt, flt.fltL] using File.ty.flo x.outs)
      simp (disch := omega) [e, madeOA, Made.oce, ex1, f1, f2]
    · simp (disch := omega) [hd, h]
      intro y hy
      rcases hy with hy | rfl
      · exact hJ y hy
      · simp [sameM, h]
def noJob : Job := ⟨bs [], [], [], [], []⟩
def envsV (es : List Env) (l : List ByteArray) : List Env := l.filterMap fun x => es.find? (sameE x)
def depsV (ms : List Made) (l : List ByteArray) : List Made := l.filterMap fun x => ms.find? (sameM x)
def jobOfV (wt : ByteArray × ByteArray → List ByteArray) (ws : List Pack) (rs : List Rule) (fs : List File) (es : List Env) (ms : List Made) (task : ByteArray) : Job :=
  match parseT task with
  | none => noJob
  | some q => match cmdO ws q.1 q.2 with
    | none => noJob
    | some c => ⟨task, c.acts, fs.filter (pickB (ruleO rs q.2).ins), envsV es (ruleO rs q.2).envs, depsV ms (wt q)⟩
structure JB (ws : List Pack) (rs : List Rule) (fs : List File) (es : List Env) (ms : List Made) : Prop where
  w : ws.length ≤ 1048577
  c : ∀ x ∈ ws, x.cmds.length ≤ 1048577
  a : ∀ x ∈ ws, ∀ y ∈ x.cmds, y.acts.length ≤ 1048577
  r : rs.length ≤ 1048577
  rl : ∀ x ∈ rs, RL x
  iz : ∀ x ∈ rs, ∀ y ∈ x.ins, y.size ≤ 1048576
  f : fs.length ≤ 1048577
  fz : ∀ x ∈ fs, x.path.size ≤ 1048576
  e : es.length ≤ 1048577
  m : ms.length ≤ 1048577
  mo : ∀ x ∈ ms, Made.ty.ok x
theorem cmdO_mem {ws : List Pack} {p t : ByteArray} {c : Cmd} (h : cmdO ws p t = some c) : ∃ x ∈ ws, c ∈ x.cmds := by
  unfold cmdO at h
  obtain ⟨x, h1, h2⟩ := Option.bind_eq_some_iff.1 h
  exact ⟨x, List.mem_of_find?_eq_some h1, List.mem_of_find?_eq_some h2⟩
theorem ruleO_ok {rs : List Rule} {t : ByteArray} {Q : Rule → Prop} (h : ∀ x ∈ rs, Q x) (h0 : Q ⟨t, [], [], [], false⟩) : Q (ruleO rs t) := by
  unfold ruleO
  cases e : rs.find? (sameR t) with
  | none => exact h0
  | some x => exact h x (List.mem_of_find?_eq_some e)
theorem envsV_snoc (es : List Env) (l : List ByteArray) (x : ByteArray) : envsV es (l ++ [x]) = match es.find? (sameE x) with | some e => envsV es l ++ [e] | none => envsV es l := by
  unfold envsV
  rw [List.filterMap_append]
  cases h : es.find? (sameE x) <;> simp [h]
theorem depsV_snoc (ms : List Made) (l : List ByteArray) (x : ByteArray) : depsV ms (l ++ [x]) = match ms.find? (sameM x) with | some e => depsV ms l ++ [e] | none => depsV ms l := by
  unfold depsV
  rw [List.filterMap_append]
  cases h : ms.find? (sameM x) <;> simp [h]
theorem envsV_len (es : List Env) (l : List ByteArray) : (envsV es l).length ≤ l.length := List.length_filterMap_le ..
theorem depsV_len (ms : List Made) (l : List ByteArray) : (depsV ms l).length ≤ l.length := List.length_filterMap_le ..
set_option maxRecDepth 100000
theorem asc_eq {α : Type} {lt : α → α → Prop} (irr : ∀ x, ¬ lt x x) (asy : ∀ x y, lt x y → ¬ lt y x) : ∀ (l m : List α), l.Pairwise lt → m.Pairwise lt → (∀ x, x ∈ l ↔ x ∈ m) → l = m
  | [], [], _, _, _ => rfl
  | [], y :: m, _, _, h => absurd ((h y).2 (List.mem_cons_self ..)) (by simp)
  | x :: l, [], _, _, h => absurd ((h x).1 (List.mem_cons_self ..)) (by simp)
  | x :: l, y :: m, hl, hm, h => by
    rw [List.pairwise_cons] at hl hm
    have e : x = y := by
      rcases List.mem_cons.1 ((h x).1 (List.mem_cons_self ..)) with e | h1
      · exact e
      rcases List.mem_cons.1 ((h y).2 (List.mem_cons_self ..)) with e | h2
      · exact e.symm
      exact absurd (hl.1 y h2) (asy _ _ (hm.1 x h1))
    subst e
    rw [asc_eq irr asy l m hl.2 hm.2 fun z => ⟨fun hz => ?_, fun hz => ?_⟩]
    · rcases List.mem_cons.1 ((h z).1 (List.mem_cons_of_mem _ hz)) with rfl | h1
      · exact absurd (hl.1 _ hz) (irr _)
      · exact h1
    · rcases List.mem_cons.1 ((h z).2 (List.mem_cons_of_mem _ hz)) with rfl | h1
      · exact absurd (hm.1 _ hz) (irr _)
      · exact h1
theorem compF_mem (o : List ByteArray) (y x : ByteArray) : x ∈ compF o y ↔ x ∈ o ∨ x = y := by
  unfold compF
  split
  · rename_i h
    refine ⟨.inl, fun h2 => ?_⟩
    rcases h2 with h2 | rfl
    · exact h2
    cases hl : o.getLast? with
    | none => rw [hl] at h; simp at h
    | some z =>
      rw [hl] at h
      simp at h
      have hz : z = x := by
        have h3 : z.data.toList = x.data.toList := by rw [← Lib.toList_data, ← Lib.toList_data, h]
        exact ByteArray.ext (Array.ext' h3)
      rw [← hz]
      exact List.mem_of_getLast? hl
  · simp
theorem compactV_mem (l : List ByteArray) (x : ByteArray) : x ∈ compactV l ↔ x ∈ l := by
  have : ∀ (l o : List ByteArray), x ∈ l.foldl compF o ↔ x ∈ o ∨ x ∈ l := by
    intro l
    induction l with
    | nil => intro o; simp
    | cons y l ih => intro o; rw [List.foldl_cons, ih, compF_mem, List.mem_cons, or_assoc]
  rw [compactV, this]
  simp
theorem hasB_mem {o : List ByteArray} {x : ByteArray} : hasB o x = true ↔ x ∈ o := by
  unfold hasB
  rw [List.any_eq_true]
  constructor
  · rintro ⟨y, hy, he⟩
    simp [eqS] at he
    have hz : y = x := by
      have h3 : y.data.toList = x.data.toList := by rw [← Lib.toList_data, ← Lib.toList_data, he]
      exact ByteArray.ext (Array.ext' h3)
    rwa [← hz]
  · intro h
    exact ⟨x, h, by simp [eqS]⟩
theorem insB_mem (o : List ByteArray) (y x : ByteArray) : x ∈ insB y o ↔ x ∈ o ∨ x = y := by
  unfold insB
  rw [List.mem_append, List.mem_cons]
  have : x ∈ o ↔ x ∈ o.take (posN y o) ∨ x ∈ o.drop (posN y o) := by rw [← List.mem_append, List.take_append_drop]
  rw [this]
  constructor
  · rintro (h | h | h)
    · exact .inl (.inl h)
    · exact .inr h
    · exact .inl (.inr h)
  · rintro ((h | h) | h)
    · exact .inl h
    · exact .inr (.inr h)
    · exact .inr (.inl h)
theorem insU_mem (o : List ByteArray) (y x : ByteArray) : x ∈ insU o y ↔ x ∈ o ∨ x = y := by
  unfold insU
  split
  · rename_i h
    exact ⟨.inl, fun h2 => h2.elim id fun e => e ▸ hasB_mem.1 h⟩
  · exact insB_mem o y x
theorem sortedV_mem (l : List ByteArray) (x : ByteArray) : x ∈ sortedV l ↔ x ∈ l := by
  have : ∀ (l o : List ByteArray), x ∈ l.foldl insU o ↔ x ∈ o ∨ x ∈ l := by
    intro l
    induction l with
    | nil => intro o; simp
    | cons y l ih => intro o; rw [List.foldl_cons, ih, insU_mem, List.mem_cons, or_assoc]
  rw [sortedV, this]
  simp
theorem sortM_mem (l : List ByteArray) (x : ByteArray) : x ∈ sortM l ↔ x ∈ l := by
  have hb : ∀ z : ByteArray, bs z.toList = z := fun z => by rw [Lib.toList_data]; rfl
  unfold sortM
  rw [List.mem_map]
  constructor
  · rintro ⟨y, hy, rfl⟩
    rw [List.mem_mergeSort] at hy
    simp only [bytesL, List.mem_map] at hy
    obtain ⟨z, hz, rfl⟩ := hy
    first | rwa [hb] | exact hz
  · intro h
    refine ⟨x.toList, ?_, hb x⟩
    rw [List.mem_mergeSort]
    first | exact List.mem_map.2 ⟨x, h, rfl⟩ | exact List.mem_map.2 ⟨x, h, (Lib.toList_data x).symm⟩
def ltS (x y : ByteArray) : Prop := x.toList < y.toList
theorem gtS_lt {x y : ByteArray} : gtS x y = true ↔ ltS x y := by
  unfold gtS ltS
  rw [Go.Proofs.bytesLess_eq]
  simp
theorem ltS_irr (x : ByteArray) : ¬ ltS x x := List.lt_irrefl _
theorem ltS_tr {x y z : ByteArray} (h1 : ltS x y) (h2 : ltS y z) : ltS x z := List.lt_trans h1 h2
theorem ltS_asy (x y : ByteArray) (h1 : ltS x y) : ¬ ltS y x := fun h2 => ltS_irr x (ltS_tr h1 h2)
theorem ltS_tot {x y : ByteArray} (h1 : ¬ ltS x y) (h2 : x ≠ y) : ltS y x := by
  have h3 : y.toList ≤ x.toList := List.not_lt.1 h1
  rcases List.le_iff_lt_or_eq.1 h3 with h | h
  · exact h
  · exfalso
    have h4 : x.data.toList = y.data.toList := by rw [← Lib.toList_data, ← Lib.toList_data, h]
    exact h2 (ByteArray.ext (Array.ext' h4))
theorem insB_eq (x : ByteArray) (o : List ByteArray) : insB x o = (o.reverse.dropWhile (gtS x)).reverse ++ x :: (o.reverse.takeWhile (gtS x)).reverse := by
  have e : o = (o.reverse.dropWhile (gtS x)).reverse ++ (o.reverse.takeWhile (gtS x)).reverse := by
    rw [← List.reverse_append, List.takeWhile_append_dropWhile, List.reverse_reverse]
  have hp : posN x o = (o.reverse.dropWhile (gtS x)).reverse.length := by
    have h := congrArg List.length e
    rw [List.length_append, List.length_reverse, List.length_reverse] at h
    rw [posN, sufN, List.length_reverse]
    omega
  have h1 : o.take (posN x o) = (o.reverse.dropWhile (gtS x)).reverse := by
    rw [hp]
    conv => lhs; rw [e]
    simp
  have h2 : o.drop (posN x o) = (o.reverse.takeWhile (gtS x)).reverse := by
    rw [hp]
    conv => lhs; rw [e]
    simp
  rw [insB, h1, h2]
theorem insB_asc {x : ByteArray} {o : List ByteArray} (ho : o.Pairwise ltS) (hx : x ∉ o) : (insB x o).Pairwise ltS := by
  rw [insB_eq]
  have e : o = (o.reverse.dropWhile (gtS x)).reverse ++ (o.reverse.takeWhile (gtS x)).reverse := by
    rw [← List.reverse_append, List.takeWhile_append_dropWhile, List.reverse_reverse]
  have hd : ∀ z ∈ o.reverse.dropWhile (gtS x), ltS z x := by
    have hr : (o.reverse.dropWhile (gtS x)).reverse.Pairwise ltS := by
      rw [e] at ho
      exact (List.pairwise_append.1 ho).1
    have hm : ∀ z ∈ o.reverse.dropWhile (gtS x), z ∈ o := fun z hz => List.mem_reverse.1 ((List.dropWhile_sublist _).subset hz)
    have hh : ∀ z, (o.reverse.dropWhile (gtS x)).head? = some z → gtS x z = false := fun z hz => by
      have := List.head?_dropWhile_not (p := gtS x) (l := o.reverse)
      rw [hz] at this
      simpa using this
    cases hD : o.reverse.dropWhile (gtS x) with
    | nil => intro z hz; cases hz
    | cons y l =>
      rw [hD] at hr hm hh
      have hy : ltS y x := ltS_tot (fun h => by have := hh y rfl; rw [gtS_lt.2 h] at this; cases this) (fun h => hx (h ▸ hm y (List.mem_cons_self ..)))
      intro z hz
      rcases List.mem_cons.1 hz with rfl | hz
      · exact hy
      · rw [List.reverse_cons] at hr
        exact ltS_tr ((List.pairwise_append.1 hr).2.2 z (List.mem_reverse.2 hz) y (List.mem_cons_self ..)) hy
  have ht : ∀ z ∈ o.reverse.takeWhile (gtS x), ltS x z := fun z hz => gtS_lt.1 (List.all_eq_true.1 List.all_takeWhile z hz)
  rw [e] at ho
  obtain ⟨p1, p2, p3⟩ := List.pairwise_append.1 ho
  rw [List.pairwise_append, List.pairwise_cons]
  refine ⟨p1, ⟨fun z hz => ht z (List.mem_reverse.1 hz), p2⟩, fun z hz w hw => ?_⟩
  rcases List.mem_cons.1 hw with rfl | hw
  · exact hd z (List.mem_reverse.1 hz)
  · exact p3 z hz w hw
theorem sortedV_asc (l : List ByteArray) : (sortedV l).Pairwise ltS := by
  have : ∀ (l o : List ByteArray), o.Pairwise ltS → (l.foldl insU o).Pairwise ltS := by
    intro l
    induction l with
    | nil => intro o h; exact h
    | cons y l ih =>
      intro o h
      refine ih _ ?_
      unfold insU
      split
      · exact h
      · rename_i h2
        exact insB_asc h fun h3 => h2 (hasB_mem.2 h3)
  exact this l [] List.Pairwise.nil
theorem compact_asc : ∀ (l o : List ByteArray), o.Pairwise ltS → l.Pairwise (fun x y => x = y ∨ ltS x y) → (∀ x ∈ o, ∀ y ∈ l, x = y ∨ ltS x y) → (l.foldl compF o).Pairwise ltS
  | [], o, h, _, _ => h
  | y :: l, o, h, hl, hol => by
    rw [List.pairwise_cons] at hl
    refine compact_asc l (compF o y) ?_ hl.2 ?_
    · unfold compF
      split
      · exact h
      · rename_i hn
        rw [List.pairwise_append]
        refine ⟨h, List.pairwise_singleton .., fun x hx z hz => ?_⟩
        rw [List.mem_singleton.1 hz]
        rcases List.eq_nil_or_concat o with rfl | ⟨k, w, rfl⟩
        · cases hx
        rw [List.concat_eq_append] at *
        have hw : ltS w y := by
          rcases hol w (by simp) y (List.mem_cons_self ..) with e | h2
          · exact absurd (by simp [e]) hn
          · exact h2
        rcases List.mem_append.1 hx with h3 | h3
        · exact ltS_tr ((List.pairwise_append.1 h).2.2 x h3 w (by simp)) hw
        · rw [List.mem_singleton.1 h3]; exact hw
    · intro x hx z hz
      rcases (compF_mem o y x).1 hx with h2 | rfl
      · exact hol x h2 z (List.mem_cons_of_mem _ hz)
      · exact hl.1 z hz
theorem sortM_asc (l : List ByteArray) : (sortM l).Pairwise fun x y => x = y ∨ ltS x y := by
  have hs : ((bytesL l).mergeSort fun x y => decide (x ≤ y)).Pairwise fun x y => (decide (x ≤ y)) = true :=
    List.pairwise_mergeSort (fun a b c h1 h2 => by simp at h1 h2 ⊢; exact List.le_trans h1 h2) (fun a b => by simp; exact List.le_total a b) _
  unfold sortM
  rw [List.pairwise_map]
  refine hs.imp fun {x y} h => ?_
  simp at h
  rcases List.le_iff_lt_or_eq.1 h with h | h
  · exact .inr (by unfold ltS; rw [bs_toList, bs_toList]; exact h)
  · exact .inl (by rw [h])
theorem sort_eq (l : List ByteArray) : compactV (sortM l) = sortedV l :=
  asc_eq ltS_irr ltS_asy _ _ (compact_asc (sortM l) [] List.Pairwise.nil (sortM_asc l) (by simp)) (sortedV_asc l) fun x => by rw [compactV_mem, sortM_mem, sortedV_mem]
set_option maxRecDepth 100000
def onU (ws : List Pack) (t : ByteArray) (l : List ByteArray) : List ByteArray := (l.filter fun d => (cmdO ws d t).isSome).map fun d => nmT d t
def onP (ws : List Pack) (q : ByteArray × ByteArray) : List ByteArray := if (cmdO ws q.1 q.2).isSome = true then [nmT q.1 q.2] else []
def onV (ws : List Pack) (p o : ByteArray) : List ByteArray :=
  match o.data.toList with
  | 94 :: tl => (match ws.find? (sameP p) with | some x => onU ws (bs tl) x.uses | none => [])
  | _ => onP ws ((parseT o).getD (p, o))
theorem onU_snoc (ws : List Pack) (t : ByteArray) (l : List ByteArray) (d : ByteArray) : onU ws t (l ++ [d]) = if (cmdO ws d t).isSome = true then onU ws t l ++ [nmT d t] else onU ws t l := by
  unfold onU
  rw [List.filter_append]
  cases h : (cmdO ws d t).isSome <;> simp [h]
theorem onV_not {ws : List Pack} {p o : ByteArray} (h : ¬ ∃ tl, o.data.toList = 94 :: tl) : onV ws p o = onP ws ((parseT o).getD (p, o)) := by
  unfold onV
  split
  · rename_i tl e
    exact (h ⟨tl, e⟩).elim
  · rfl
set_option maxHeartbeats 2000000 in
theorem R58 (ws : List Pack) (p o : ByteArray) (hw : ws.length ≤ 1048577) (hp : p.size ≤ 1048576) (ho : o.size ≤ 1048576) (hu : ∀ x ∈ ws, x.uses.length ≤ 1048577) (huz : ∀ x ∈ ws, ∀ y ∈ x.uses, y.size ≤ 1048576) (hc : ∀ x ∈ ws, x.cmds.length ≤ 1048577) :
    Ret Tryz.prog 58 [.ro (rows Pack.ty.cs ws) ws.length, .sc (.string p), .sc (.string o)] (.own (rows Ty.str.oc (onV ws p o)) (onV ws p o).length 1) [.un, .un, .un] := by
  have rP := R26 o ho
  have hoe : o = bs o.data.toList := rfl
  have hol : o.data.toList.length = o.size := rfl
  by_cases h94 : ∃ tl, o.data.toList = 94 :: tl
  · obtain ⟨tl, he⟩ := h94
    unfold onV
    rw [he] at hoe hol ⊢
    simp only
    simp only [List.length_cons] at hol
    rw [hoe]
    have rF := R55 ws p hw
    refine Ret.go Tryz.func58 ?_
    simp (disch := omega) []
    refine cR rF ?_
    rcases pIx_cases p ws with ⟨e, hn⟩ | ⟨pre, x, rest, hx, _, _, e, hn⟩
    · simp (disch := omega) [e, hn]
      refine T.forI (fun _ : Unit => 0) (fun _ => True) (fun _ => [(0, .ro (rows Pack.ty.cs ws) ws.length), (7, .sl 13 0 0 1 false), (8, .sc (.int .i64 (-1))), (9, .sc (.int .i64 0))]) (fun _ => [(13, [])]) () ⟨trivial, Tl.same rfl (by simp) (by simp)⟩ ?_
      intro _ _
      simp (disch := omega) []
      refine T.on 400 ?_
      simp (disch := omega) [ex1, rows_nil, idfree.idfreeL]
    · have hd : List.drop (pre.length * 4) (rows Pack.ty.cs ws) = Pack.ty.cs x ++ rows Pack.ty.cs rest := by rw [hx]; exact rowsP_drop
      have hd1 : List.drop (pre.length * 4 + 1) (rows Pack.ty.cs ws) = .ro (rows Ty.str.cs x.uses) x.uses.length :: .ro (rows Need.ty.cs x.needs) x.needs.length :: .ro (rows Cmd.ty.cs x.cmds) x.cmds.length :: rows Pack.ty.cs rest := by rw [← List.drop_drop, hd]; rfl
      have hl : pre.length < ws.length := by rw [hx]; simp
      have hux := hu x (by rw [hx]; simp)
      have huzx := huz x (by rw [hx]; simp)
      simp (disch := omega) [e, hn]
      generalize x.uses = us at *
      have hU : ∀ l d, onU ws (bs tl) (l ++ [d]) = if (cmdO ws d (bs tl)).isSome = true then onU ws (bs tl) l ++ [nmT d (bs tl)] else onU ws (bs tl) l := fun l d => onU_snoc ws (bs tl) l d
      have hUl : ∀ l, (onU ws (bs tl) l).length ≤ l.length := fun l => by unfold onU; rw [List.length_map]; exact List.length_filter_le ..
      have hU0 : onU ws (bs tl) [] = [] := rfl
      generalize onU ws (bs tl) = F at *
      refine T.forR us (fun _ _ => True) (fun q _ => [(0, .ro (rows Pack.ty.cs ws) ws.length), (2, .sc (.string (bs (94 :: tl)))), (7, .sl 13 0 (F q).length 1 false), (8, .sc (.int .i64 pre.length)), (9, .sc (.int .i64 q.length))]) (fun q _ => [(13, rows Ty.str.oc (F q))]) ⟨trivial, Tl.same rfl (by simp [hU0]) (by simp [hU0, rows_nil])⟩ ?_ ?_
      · intro _
        have hf := Ty.str.frL (F us)
        have hr := rowsS_len (F us)
        simp (disch := omega) [hd1]
        refine T.on 400 ?_
        simp (disch := omega) [ex1, hf, hr]
      · intro q d rest' hx' hl2 _
        have hdd : List.drop q.length (rows Ty.str.cs us) = .sc (.string d) :: rows Ty.str.cs rest' := by rw [rowsC_drop, ← hx', drop_pre, rowsC_cons]
        have hdz : d.size ≤ 1048576 := huzx d (by rw [← hx']; simp)
        have htz : (bs tl).size ≤ 1048576 := by rw [bs_size]; omega
        have rT := R89 ws d (bs tl) hw hc
        have rN := R19 d (bs tl) hdz htz
        have hFl := hUl q
        rw [hU q d]
        have hf := Ty.str.frL (F q ++ [d ++ bs [35] ++ bs tl])
        have hf1 := Ty.str.frL (F q)
        have hr := rowsS_len (F q)
        rw [rowsS_snoc] at hf
        simp (disch := omega) [hd1]
        refine T.text 400 mixed (by kernel_rfl) (by kernel_rfl) ?_
        simp (disch := omega) [hd1, hdd]
        refine callSK.by rfl (by kernel_rfl) (by simp [roc_sc, roc_ro]) rT ?_
        cases h : (cmdO ws d (bs tl)).isSome
        · simp (disch := omega) [h]
          exact Tl.same rfl (by simp) (by simp [mens_idf hf1])
        · simp (disch := omega) [h]
          refine T.textE [(12, [63]), (13, [64, 13])] ?_ mixed
          simp (disch := omega) [hd1, hdd]
          refine cW 0 rN ?_
          simp (disch := omega) [merge_nil, hideH_nil, hr]
          exact Tl.ren [(64, 13)] rfl (by simp [rowsS_snoc, hf, nmT, idfree])
  · rw [onV_not h94]
    obtain ⟨q1, q2, hqe, hz1, hz2, hA⟩ : ∃ q1 q2, (parseT o).getD (p, o) = (q1, q2) ∧ q1.size ≤ 1048576 ∧ q2.size ≤ 1048576 ∧ (parseT o = none ∧ q1 = p ∧ q2 = o ∨ parseT o = some (q1, q2)) := by
      have hcs := cutF_size o 35
      cases h : parseT o with
      | none => exact ⟨p, o, rfl, hp, ho, .inl ⟨rfl, rfl, rfl⟩⟩
      | some q =>
        refine ⟨q.1, q.2, rfl, ?_, ?_, .inr rfl⟩
        all_goals
          unfold parseT at h
          split at h <;> simp at h
          rw [← h]
          simp only
          omega
    rw [hqe]
    have rT := R89 ws q1 q2 hw hc
    have rN := R19 q1 q2 hz1 hz2
    have hcase : o.size = 0 ∨ ∃ b tl, o = bs (b :: tl) ∧ ¬ b.toNat = 94 ∧ ¬ (b.toNat : Int) = 94 := by
      cases h : o.data.toList with
      | nil => exact .inl (by rw [← hol, h]; rfl)
      | cons b tl =>
        have h3 : ¬ b.toNat = 94 := fun e => h94 ⟨tl, by rw [h, show b = 94 from UInt8.toNat_inj.1 e]⟩
        exact .inr ⟨b, tl, by rw [← h]; rfl, h3, by omega⟩
    unfold onP
    simp only
    have fin : ∀ x : ByteArray, idfree.idfreeL [AV.sc (.string x)] = true := fun x => rfl
    clear hoe hol hqe h94
    cases hT : (cmdO ws q1 q2).isSome
    all_goals
      rw [hT] at rT
      rcases hcase with h2 | ⟨b, tl, rfl, h3, h4⟩ <;> rcases hA with ⟨hA, rfl, rfl⟩ | hA
      all_goals
        rw [hA, taskA] at rP
        refine Ret.go Tryz.func58 ?_
        first | (simp (disch := omega) [h2]) | (simp (disch := omega) [h3, h4])
        refine cR rP ?_
        simp (disch := omega) []
        refine cR rT ?_
        simp (disch := omega) [ex1, rows_nil, idfree.idfreeL]
        try
          refine cR rN ?_
          simp (disch := omega) [ex1, rows_one, nmT, fin]
          rfl
end Go.Proofs.YtchbcmenmlohfaaGreatDoor.Am
