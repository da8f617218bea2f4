/- The small machine and the contracts of the functions, part 3 (MayTake, RegOk, SortKit, Sorts, Entry, Newest, LookS, Meets, Solves, SortPick, Concat, L9Pick, Way, WayI, NewestS, WayS, Solve, Order, WayLaw, WaySound, SolveLaw); no condition. -/
import Derived.Test.YtiejaibmcmicoaaGreatDoorProg
import Derived.Test.YtiejaibmcmicoaaGreatDoorAmH
import Derived.Test.YtiejaibmcmicoaaGreatDoorB2
import Derived.KernelRfl
import Derived.Test.YtiejaibmcmicoaaGreatDoorB1
namespace Go.Proofs.YtiejaibmcmicoaaGreatDoor.Am
open Go Go.Proofs
set_option linter.unusedSimpArgs false
set_option linter.unusedVariables false
attribute [local congr] T_congr callK_congr callWK_congr
attribute [local simp] run_nil run_op0 run_opg run_seq run_cond run_block run_ret run_skip run_skip_after run_skip_blk run_exit run_exit_after run_exit_blk run_loop run_any runS_nil runS_op0 runS_opg runW_nil runW_op0 runW_opg exec_q exec_w exec_c exec_n execW_q execW_w execW_c restW_app hideH_app merge_app wblk rest_app restS_app execS_q execS_c aval dOk upd_app ev_t ev_c setO_some setO_none put_mk pinsOf isIo hasIo sbin endR fin resL one outL out1 clo1 cloL coe coeL shut shut.shutL wantA weff cellsOf fillA deref natOf ρ0_app h0_app plain plain.plainL keep_app keepH_app andThen_normal andThen_ret andThen_exit pop_nil pop_after pop_after_ret pop_after_exit pop_blk pop_blk_ret pop_blk_exit nilA srcOf srcCells keepR_app keepHR_app renA rb toldρ toldH toldT toldB menQ_sc menQ_sl menQ_ref menQ_em menQ_un menQ_roT mens_cons mens_nil toldF merge_nil hideH_nil str_n rows_nil rowsS_len rowsC_len rowsC_fr rowsS_fr Rd_mk Rl_mk menB exQ_exit exQ_ret wrap_i64 bs_size bs_list bs_toList bs_get bs_extract mk_bs bs_eta List.getElem?_cons_zero List.getElem?_cons_succ List.length_cons oLt oNlt oLe oNle nLt nNlt nLe nNle iniρ andThen_normal over
set_option maxRecDepth 100000
theorem listI_ok {t : ByteArray} (ht : t.size ≤ 1048576) (h : (listI (wordsB t)).2 = true) : (listI (wordsB t)).1.length ≤ 2097160 ∧ ∀ c ∈ (listI (wordsB t)).1, VerZ c.v := by
  obtain ⟨_, j2, j3, j4⟩ := listJ_I (wordsB t)
  have := (wordsB_b t ht).1
  rw [j2 h]
  exact ⟨by omega, fun c hc => (j4 c hc).verZ⟩
theorem rangeL_ok : ∀ {ts : List ByteArray} {r : List (List Cmp)}, (∀ t ∈ ts, t.size ≤ 1048576) → rangeL ts = some r → ∀ l ∈ r, l.length ≤ 2097160 ∧ ∀ c ∈ l, VerZ c.v := by
  intro ts
  obtain ⟨n, hn⟩ : ∃ n, n = ts.length := ⟨_, rfl⟩
  induction n generalizing ts with
  | zero =>
    intro r _ h l hl
    rw [List.length_eq_zero_iff.1 hn.symm] at h
    cases h
    cases hl
  | succ n ih =>
    intro r hz h l hl
    rcases List.eq_nil_or_concat ts with rfl | ⟨pre, x, rfl⟩
    · simp at hn
    · rw [List.concat_eq_append] at *
      rw [List.length_append, List.length_singleton] at hn
      rw [rangeL_snoc] at h
      unfold rangeS at h
      split at h
      · rename_i y hy
        split at h
        · rename_i hok
          cases h
          rcases List.mem_append.1 hl with hl | hl
          · exact ih (by omega) (fun t ht => hz t (List.mem_append_left _ ht)) hy l hl
          · rw [List.mem_singleton.1 hl]
            exact listI_ok (hz x (by simp)) hok
        · cases h
      · cases h
theorem rangeO_ok {t : ByteArray} (ht : t.size ≤ 1048576) : RangeZ ((rangeO t).getD []) := by
  unfold rangeO
  split
  · rename_i h4
    cases h : rangeL (sidesP t) with
    | none => exact ⟨by simp, fun l hl => by cases hl⟩
    | some r =>
      have hs : ∀ x ∈ sidesP t, x.size ≤ 1048576 := fun x hx => by
        have := barP_size t.data.toList _ _ _ x hx
        have e : t.size = t.data.toList.length := rfl
        omega
      exact ⟨by have := rangeL_len h; show r.length ≤ _; omega, fun l hl => rangeL_ok hs h l hl⟩
  · exact ⟨by simp, fun l hl => by cases hl⟩
def takeB (n : Need) (v : Ver) : Bool := (rangeO n.range).isSome && rangeB ((rangeO n.range).getD []) v
theorem R66 (n : Need) (v : Ver) (hr : n.range.size ≤ 1048576) (hv : VerZ v) : Ret Tryz.prog 66 [.agg (Need.ty.cs n), .agg (Ver.ty.cs v)] (.sc (.bool (takeB n v))) [.un, .un] := by
  have rR := R64 n.range hr
  have rI := R102 ((rangeO n.range).getD []) v (rangeO_ok hr) hv
  unfold rangeA at rR
  unfold takeB
  generalize (rangeO n.range).isSome = ok at *
  generalize (rangeO n.range).getD [] = rr at *
  generalize rangeB rr v = b at *
  rw [Ver.cse] at rI
  rw [Need.cse, Ver.cse]
  obtain ⟨na, nr⟩ := n
  obtain ⟨va, vb, vc, vp⟩ := v
  simp only at *
  refine Ret.go Tryz.func66 ?_
  simp (disch := omega) []
  refine cX 900 rR ?_
  cases ok
  · simp (disch := omega) []
  · simp (disch := omega) []
    refine cX 900 rI ?_
    simp (disch := omega) []
theorem R80 (n : Need) (v : Ver) (hr : n.range.size ≤ 1048576) (hv : VerZ v) : Ret Tryz.prog 80 [.agg (Need.ty.cs n), .agg (Ver.ty.cs v)] (.sc (.bool (takeB n v))) [.un, .un] := by
  have rR := R116 n.range hr
  have rI := R117 ((rangeO n.range).getD []) v (rangeO_ok hr) hv
  unfold rangeA at rR
  unfold takeB
  generalize (rangeO n.range).isSome = ok at *
  generalize (rangeO n.range).getD [] = rr at *
  generalize rangeB rr v = b at *
  rw [Ver.cse] at rI
  rw [Need.cse, Ver.cse]
  obtain ⟨na, nr⟩ := n
  obtain ⟨va, vb, vc, vp⟩ := v
  simp only at *
  refine Ret.go Tryz.func80 ?_
  simp (disch := omega) []
  refine cX 900 rR ?_
  cases ok
  · simp (disch := omega) []
  · simp (disch := omega) []
    refine cX 900 rI ?_
    simp (disch := omega) []
def lessE (x y : Entry) : Bool := bL x.name y.name || (x.name.toList == y.name.toList && lessV x.v y.v)
theorem R63 (x y : Entry) (hx : VerZ x.v) (hy : VerZ y.v) : Ret Tryz.prog 63 [.agg (Entry.ty.cs x), .agg (Entry.ty.cs y)] (.sc (.bool (lessE x y))) [.un, .un] := by
  have rL := R18 x.v y.v hx.n hy.n hx.z hy.z
  unfold lessE
  have hir := bL_irr
  rw [Ver.cse, Ver.cse] at rL
  rw [Entry.cse, Entry.cse]
  generalize lessV x.v y.v = lv at *
  obtain ⟨xn, ⟨xa, xb, xc, xp⟩, xs⟩ := x
  obtain ⟨yn, ⟨ya, yb, yc, yp⟩, ys⟩ := y
  simp only at *
  unfold bL at *
  by_cases h2 : xn.toList = yn.toList
  · have := tl_eq.1 h2
    subst this
    have h3 := hir xn
    rw [h3]
    refine Ret.go Tryz.func63 ?_
    simp (maxSteps := 2000000) (disch := omega) [h3]
    refine cX 900 rL ?_
    simp (maxSteps := 2000000) (disch := omega) [h3]
  · cases h1 : Op.bytesLess xn.toList yn.toList
    · refine Ret.go Tryz.func63 ?_
      simp (maxSteps := 2000000) (disch := omega) [h1, h2]
    · refine Ret.go Tryz.func63 ?_
      simp (maxSteps := 2000000) (disch := omega) [h1]
theorem R78 (x y : Entry) (hx : VerZ x.v) (hy : VerZ y.v) : Ret Tryz.prog 78 [.agg (Entry.ty.cs x), .agg (Entry.ty.cs y)] (.sc (.bool (lessE x y))) [.un, .un] := by
  have rL := R91 x.v y.v hx.n hy.n hx.z hy.z
  unfold lessE
  have hir := bL_irr
  rw [Ver.cse, Ver.cse] at rL
  rw [Entry.cse, Entry.cse]
  generalize lessV x.v y.v = lv at *
  obtain ⟨xn, ⟨xa, xb, xc, xp⟩, xs⟩ := x
  obtain ⟨yn, ⟨ya, yb, yc, yp⟩, ys⟩ := y
  simp only at *
  unfold bL at *
  by_cases h2 : xn.toList = yn.toList
  · have := tl_eq.1 h2
    subst this
    have h3 := hir xn
    refine Ret.go Tryz.func78 ?_
    simp (disch := omega) [h3]
    refine cX 900 rL ?_
    simp (disch := omega) [h3]
  · cases h1 : Op.bytesLess xn.toList yn.toList
    · refine Ret.go Tryz.func78 ?_
      simp (disch := omega) [h1, h2]
    · refine Ret.go Tryz.func78 ?_
      simp (disch := omega) [h1, h2]
set_option maxRecDepth 100000
def entryB (e : Entry) : Bool := nameOk e.name && (verB e.v && needsB e.needs)
def stepE (p : Option Entry) (e : Entry) : Bool := entryB e && match p with
  | none => true
  | some q => lessE q e
def chainE : Option Entry → List Entry → Bool
  | _, [] => true
  | p, e :: l => stepE p e && chainE (some e) l
def regB (l : List Entry) : Bool := chainE none l && decide (l.length ≤ 12)
structure EntryZ (e : Entry) : Prop where
  a : e.name.size ≤ 140737488351232
  v : VerZ e.v
  l : e.needs.length ≤ 140737488351232
  z : ∀ n ∈ e.needs, NeedZ n
theorem chainE_not {p : Option Entry} {n : Entry} {l : List Entry} (h : stepE p n = false) : chainE p (n :: l) = false := by rw [chainE, h]; rfl
theorem chainE_yes {p : Option Entry} {n : Entry} {l : List Entry} (h : stepE p n = true) : chainE p (n :: l) = chainE (some n) l := by rw [chainE, h]; rfl
set_option maxHeartbeats 8000000 in
theorem R25 (l : List Entry) (hl : l.length ≤ 140737488351232) (hz : ∀ e ∈ l, EntryZ e) : Ret Tryz.prog 25 [.ro (rows Entry.ty.cs l) l.length] (.sc (.bool (regB l))) [.un] := by
  unfold regB
  generalize hC : chainE none l = tg
  refine Ret.go Tryz.func25 ?_
  simp (disch := omega) []
  refine T.forL l (fun pre rest => chainE pre.getLast? rest = tg) (fun pre _ => [(0, .ro (rows Entry.ty.cs l) l.length), (5, .ro (rows Entry.ty.cs l) l.length), (6, .sc (.int .i64 l.length)), (7, .sc (.int .i64 pre.length))]) (fun _ _ => []) ⟨hC, by simp⟩ ?_ ?_
  · intro hJ
    have : tg = true := hJ.symm
    subst this
    simp (disch := omega) []
    refine T.on 400 ?_
    simp (disch := omega) []
    try omega
  · intro pre e rest hx hl2 hJ
    have ez := hz e (by rw [← hx]; simp)
    have rN := R60 e.name ez.a
    have rV := R61 e.v ez.v.n ez.v.z
    have rD := R62 e.needs ez.l ez.z
    have hd : List.drop (pre.length * 6) (rows Entry.ty.cs l) = .sc (.string e.name) :: .sc (.int .i64 e.v.a) :: .sc (.int .i64 e.v.b) :: .sc (.int .i64 e.v.c) :: .ro (rows Ty.str.cs e.v.pre) e.v.pre.length :: .ro (rows Need.ty.cs e.needs) e.needs.length :: rows Entry.ty.cs rest := by
      have := rows_drop Entry.ty.csn pre (e :: rest)
      rw [hx, rows_cons, Entry.cse] at this
      exact this
    have hd1 : List.drop (pre.length * 6 + 1) (rows Entry.ty.cs l) = List.drop 1 (.sc (.string e.name) :: .sc (.int .i64 e.v.a) :: .sc (.int .i64 e.v.b) :: .sc (.int .i64 e.v.c) :: .ro (rows Ty.str.cs e.v.pre) e.v.pre.length :: .ro (rows Need.ty.cs e.needs) e.needs.length :: rows Entry.ty.cs rest) := by rw [← List.drop_drop, hd]
    have hd5 : List.drop (pre.length * 6 + 5) (rows Entry.ty.cs l) = List.drop 5 (.sc (.string e.name) :: .sc (.int .i64 e.v.a) :: .sc (.int .i64 e.v.b) :: .sc (.int .i64 e.v.c) :: .ro (rows Ty.str.cs e.v.pre) e.v.pre.length :: .ro (rows Need.ty.cs e.needs) e.needs.length :: rows Entry.ty.cs rest) := by rw [← List.drop_drop, hd]
    simp only [List.drop_succ_cons, List.drop_zero] at hd1 hd5
    rw [Ver.cse] at rV
    have hen : entryB e = (nameOk e.name && (verB e.v && needsB e.needs)) := rfl
    simp (disch := omega) [hd]
    refine T.textE [] ?_ mixed
    simp (disch := omega) [merge_nil, hideH_nil]
    refine cWX 900 rN ?_
    cases h1 : nameOk e.name
    · rw [chainE_not (by unfold stepE; rw [hen, h1]; simp)] at hJ
      subst hJ
      simp (disch := omega) [merge_nil, hideH_nil]
    simp (disch := omega) [merge_nil, hideH_nil]
    refine cWX 900 rV ?_
    cases h2 : verB e.v
    · rw [chainE_not (by unfold stepE; rw [hen, h1, h2]; simp)] at hJ
      subst hJ
      simp (disch := omega) [merge_nil, hideH_nil]
    simp (disch := omega) [merge_nil, hideH_nil]
    refine cWX 900 rD ?_
    cases h3 : needsB e.needs
    · rw [chainE_not (by unfold stepE; rw [hen, h1, h2, h3]; simp)] at hJ
      subst hJ
      simp (disch := omega) [merge_nil, hideH_nil]
    rw [h1, h2, h3, Bool.true_and, Bool.true_and] at hen
    rcases List.eq_nil_or_concat pre with rfl | ⟨pr, q, rfl⟩
    · rw [chainE_yes (by unfold stepE; rw [hen]; simp)] at hJ
      simp (disch := omega) [merge_nil, hideH_nil]
      exact hJ
    · rw [List.concat_eq_append] at *
      have hq : List.drop (pr.length * 6) (rows Entry.ty.cs l) = .sc (.string q.name) :: .sc (.int .i64 q.v.a) :: .sc (.int .i64 q.v.b) :: .sc (.int .i64 q.v.c) :: .ro (rows Ty.str.cs q.v.pre) q.v.pre.length :: .ro (rows Need.ty.cs q.needs) q.needs.length :: rows Entry.ty.cs (e :: rest) := by
        have := rows_drop Entry.ty.csn pr (q :: e :: rest)
        rw [show pr ++ q :: e :: rest = l by rw [← hx]; simp, rows_cons, Entry.cse] at this
        exact this
      have rL := R63 q e (hz q (by rw [← hx]; simp)).v ez.v
      rw [Entry.cse, Entry.cse] at rL
      have z1 : (0 : Int) < (pr.length : Int) + 1 := by omega
      have z2 : IntKind.i64.wrap ((pr.length : Int) + 1 - 1) = pr.length := by rw [show (pr.length : Int) + 1 - 1 = pr.length by omega]; exact wrap_i64 (by omega) (by simp at hl2; omega)
      have z3 : (pr.length : Int) < l.length := by simp at hl2; omega
      have z4 : (pr.length : Int) + 1 < l.length := by simp at hl2; omega
      have hd6 : List.drop ((pr.length + 1) * 6) (rows Entry.ty.cs l) = .sc (.string e.name) :: .sc (.int .i64 e.v.a) :: .sc (.int .i64 e.v.b) :: .sc (.int .i64 e.v.c) :: .ro (rows Ty.str.cs e.v.pre) e.v.pre.length :: .ro (rows Need.ty.cs e.needs) e.needs.length :: rows Entry.ty.cs rest := by rw [← hd, List.length_append, List.length_singleton]
      rw [show (pr ++ [q]).getLast? = some q by simp] at hJ
      simp (disch := omega) [hq, hd6, z1, z2, z3, z4, merge_nil, hideH_nil]
      refine cWX 900 rL ?_
      cases hc : lessE q e
      · rw [chainE_not (by unfold stepE; rw [hen]; exact hc)] at hJ
        subst hJ
        simp (disch := omega) [merge_nil, hideH_nil]
      · rw [chainE_yes (by unfold stepE; rw [hen]; exact hc)] at hJ
        simp (disch := omega) [merge_nil, hideH_nil]
        exact hJ
set_option maxHeartbeats 8000000 in
theorem R40 (l : List Entry) (hl : l.length ≤ 140737488351232) (hz : ∀ e ∈ l, EntryZ e) : Ret Tryz.prog 40 [.ro (rows Entry.ty.cs l) l.length] (.sc (.bool (regB l))) [.un] := by
  unfold regB
  generalize hC : chainE none l = tg
  refine Ret.go Tryz.func40 ?_
  simp (disch := omega) []
  refine T.forL l (fun pre rest => chainE pre.getLast? rest = tg) (fun pre _ => [(0, .ro (rows Entry.ty.cs l) l.length), (3, .sc (.int .i64 pre.length))]) (fun _ _ => []) ⟨hC, by simp⟩ ?_ ?_
  · intro hJ
    have : tg = true := hJ.symm
    subst this
    simp (disch := omega) []
    refine T.on 400 ?_
    simp (disch := omega) []
    try omega
  · intro pre e rest hx hl2 hJ
    have ez := hz e (by rw [← hx]; simp)
    have rN := R75 e.name ez.a
    have rV := R76 e.v ez.v.n ez.v.z
    have rD := R77 e.needs ez.l ez.z
    have hd : List.drop (pre.length * 6) (rows Entry.ty.cs l) = .sc (.string e.name) :: .sc (.int .i64 e.v.a) :: .sc (.int .i64 e.v.b) :: .sc (.int .i64 e.v.c) :: .ro (rows Ty.str.cs e.v.pre) e.v.pre.length :: .ro (rows Need.ty.cs e.needs) e.needs.length :: rows Entry.ty.cs rest := by
      have := rows_drop Entry.ty.csn pre (e :: rest)
      rw [hx, rows_cons, Entry.cse] at this
      exact this
    have hd1 : List.drop (pre.length * 6 + 1) (rows Entry.ty.cs l) = List.drop 1 (.sc (.string e.name) :: .sc (.int .i64 e.v.a) :: .sc (.int .i64 e.v.b) :: .sc (.int .i64 e.v.c) :: .ro (rows Ty.str.cs e.v.pre) e.v.pre.length :: .ro (rows Need.ty.cs e.needs) e.needs.length :: rows Entry.ty.cs rest) := by rw [← List.drop_drop, hd]
    have hd5 : List.drop (pre.length * 6 + 5) (rows Entry.ty.cs l) = List.drop 5 (.sc (.string e.name) :: .sc (.int .i64 e.v.a) :: .sc (.int .i64 e.v.b) :: .sc (.int .i64 e.v.c) :: .ro (rows Ty.str.cs e.v.pre) e.v.pre.length :: .ro (rows Need.ty.cs e.needs) e.needs.length :: rows Entry.ty.cs rest) := by rw [← List.drop_drop, hd]
    simp only [List.drop_succ_cons, List.drop_zero] at hd1 hd5
    rw [Ver.cse] at rV
    have hen : entryB e = (nameOk e.name && (verB e.v && needsB e.needs)) := rfl
    simp (disch := omega) [hd]
    refine T.textE [] ?_ mixed
    simp (disch := omega) [hd, hd1, hd5, merge_nil, hideH_nil]
    refine cWX 900 rN ?_
    cases h1 : nameOk e.name
    · rw [chainE_not (by unfold stepE; rw [hen, h1]; simp)] at hJ
      subst hJ
      simp (disch := omega) [hd, hd1, hd5, merge_nil, hideH_nil]
    simp (disch := omega) [hd, hd1, hd5, merge_nil, hideH_nil]
    refine cWX 900 rV ?_
    cases h2 : verB e.v
    · rw [chainE_not (by unfold stepE; rw [hen, h1, h2]; simp)] at hJ
      subst hJ
      simp (disch := omega) [hd, hd1, hd5, merge_nil, hideH_nil]
    simp (disch := omega) [hd, hd1, hd5, merge_nil, hideH_nil]
    refine cWX 900 rD ?_
    cases h3 : needsB e.needs
    · rw [chainE_not (by unfold stepE; rw [hen, h1, h2, h3]; simp)] at hJ
      subst hJ
      simp (disch := omega) [hd, hd1, hd5, merge_nil, hideH_nil]
    rw [h1, h2, h3, Bool.true_and, Bool.true_and] at hen
    rcases List.eq_nil_or_concat pre with rfl | ⟨pr, q, rfl⟩
    · rw [chainE_yes (by unfold stepE; rw [hen]; simp)] at hJ
      simp (disch := omega) [hd, hd1, hd5, merge_nil, hideH_nil]
      exact hJ
    · rw [List.concat_eq_append] at *
      have hq : List.drop (pr.length * 6) (rows Entry.ty.cs l) = .sc (.string q.name) :: .sc (.int .i64 q.v.a) :: .sc (.int .i64 q.v.b) :: .sc (.int .i64 q.v.c) :: .ro (rows Ty.str.cs q.v.pre) q.v.pre.length :: .ro (rows Need.ty.cs q.needs) q.needs.length :: rows Entry.ty.cs (e :: rest) := by
        have := rows_drop Entry.ty.csn pr (q :: e :: rest)
        rw [show pr ++ q :: e :: rest = l by rw [← hx]; simp, rows_cons, Entry.cse] at this
        exact this
      have rL := R78 q e (hz q (by rw [← hx]; simp)).v ez.v
      rw [Entry.cse, Entry.cse] at rL
      have z1 : (0 : Int) < (pr.length : Int) + 1 := by omega
      have z2 : IntKind.i64.wrap ((pr.length : Int) + 1 - 1) = pr.length := by rw [show (pr.length : Int) + 1 - 1 = pr.length by omega]; exact wrap_i64 (by omega) (by simp at hl2; omega)
      have z3 : (pr.length : Int) < l.length := by simp at hl2; omega
      have z4 : (pr.length : Int) + 1 < l.length := by simp at hl2; omega
      have hd6 : List.drop ((pr.length + 1) * 6) (rows Entry.ty.cs l) = .sc (.string e.name) :: .sc (.int .i64 e.v.a) :: .sc (.int .i64 e.v.b) :: .sc (.int .i64 e.v.c) :: .ro (rows Ty.str.cs e.v.pre) e.v.pre.length :: .ro (rows Need.ty.cs e.needs) e.needs.length :: rows Entry.ty.cs rest := by rw [← hd, List.length_append, List.length_singleton]
      rw [show (pr ++ [q]).getLast? = some q by simp] at hJ
      simp (disch := omega) [hq, hd6, z1, z2, z3, z4, hd, hd1, hd5, merge_nil, hideH_nil]
      refine cWX 900 rL ?_
      cases hc : lessE q e
      · rw [chainE_not (by unfold stepE; rw [hen]; exact hc)] at hJ
        subst hJ
        simp (disch := omega) [hd, hd1, hd5, merge_nil, hideH_nil]
      · rw [chainE_yes (by unfold stepE; rw [hen]; exact hc)] at hJ
        simp (disch := omega) [hd, hd1, hd5, merge_nil, hideH_nil]
        exact hJ
set_option maxRecDepth 100000
section
variable {P : Program} {p : List Nat} {fx a l : AX} {ax : List AX} {dst : Option Nat} {st st3 : St} {K : St → Prop} {f : FuncId} {b len sz : Nat} {cs cs' : List AV} {vs : List AV} {ret y : AV}
def IRet (P : Program) (f : FuncId) (cs : List AV) (len sz : Nat) (vs cs' : List AV) : Prop :=
  (0 < len → Ret P f (.io cs len sz :: vs) (.tup []) (.io cs' len sz :: vs.map fun _ => .un)) ∧ (len = 0 → Ret P f (.ro [] 0 :: vs) (.tup []) (.un :: vs.map fun _ => .un))
theorem cI (b : Nat) (hR : IRet P f cs len sz vs cs') (hK : K ((st.put b (some cs')).setO dst (.tup []))) (hl : cs.length = len * sz) (hl' : cs'.length = cs.length) (hid : idfree.idfreeL cs = true) (ha : a.ev st.ρ = .sl b 0 len sz false := by simp <;> rfl) (hb : st.h b = some (some cs) := by simp) (has : ax.map (·.ev st.ρ) = vs := by simp)
    (hvs : ∀ v ∈ vs, shut v = true := by simp [shut, shut.shutL]) (hf : fx.ev st.ρ = .clo f [] := by rfl) (hc : callB P f = true := by kernel_rfl) (hd : dOk p dst st.n = true := by rfl) : callK P p fx (a :: ax) dst st K := by
  obtain ⟨h1, h2, h3, h4, h5, h6, h7, _⟩ := ros vs hvs
  have hlen : vs.length = ax.length := by rw [← has]; simp
  by_cases h0 : len = 0
  · subst h0
    have e1 : cs = [] := List.length_eq_zero_iff.1 (by omega)
    subst e1
    have e2 : cs' = [] := List.length_eq_zero_iff.1 (by simpa using hl')
    subst e2
    have e : st.put b (some []) = st := by
      cases st
      simp only [St.put] at hb ⊢
      congr 1
      funext i
      by_cases ei : i = b
      · subst ei; rw [upd_same, hb]
      · rw [upd_ne _ _ ei]
    rw [e] at hK
    have hr : roc st.h 8 (.sl b 0 0 sz false) = some (.ro [] 0) := roc_sl hb hl (by rfl)
    refine callK.ro 0 (st3 := st) (y := .tup []) hf hc (ys := .ro [] 0 :: vs) ?_ (hR.2 rfl) rfl rfl hd hK
    simp only [List.append_nil, List.map_cons, ha, has, List.mapM_cons, hr]
    have : ∀ ws : List AV, (∀ v ∈ ws, shut v = true) → ws.mapM (roc st.h 8) = some ws := by
      intro ws
      induction ws with
      | nil => intro _; rfl
      | cons w ws ih => intro h; rw [List.mapM_cons, roc_sh (h w (by simp)), ih fun v hv => h v (by simp [hv])]; rfl
    rw [this vs hvs]
    rfl
  · refine callK.cut (.io :: vs.map fun _ => Md.ro) 0 (fl := (.io, .sl b 0 len sz false) :: (vs.map fun _ => Md.ro).zip vs) (r := (some (.io cs len sz), some b) :: vs.map fun _ => (none, none)) (st1 := st.put b none) (yl := .io cs len sz :: vs) (ys := .io cs len sz :: vs) (ol := .io cs' len sz :: vs.map fun _ => .un) (st2 := (st.put b none).put b (some cs')) (st3 := (st.put b none).put b (some cs')) (y := .tup []) hf hc (by simp [hlen]) ?_ ?_ ?_ ?_ ?_ (hR.1 (by omega)) ?_ ?_ (by rfl) hd ?_
    · simp only [List.append_nil, List.map_cons, List.zip_cons_cons, has, ha, flatL, flat1, h1]; rfl
    · simp only [exL, ex1, hb, hl, hid, and_self, if_true, h2, Option.map_some]
    · simp only [closedB, h3]; rfl
    · simp only [shutArgs, h4, Option.map_some]
    · simp only [asm, h5, Option.map_some]
    · simp only [outF, h6, Option.map_some]
    · have ig : isGone ((st.put b none).h b) = true := by simp only [St.put]; rw [upd_same]; rfl
      simp only [backL, hl', ig, and_self, if_true, h7]
    · have e : (st.put b none).put b (some cs') = st.put b (some cs') := by
        simp only [St.put]
        congr 1
        funext i
        by_cases ei : i = b
        · subst ei; rw [upd_same, upd_same]
        · rw [upd_ne _ _ ei, upd_ne _ _ ei, upd_ne _ _ ei]
      rw [e]
      exact hK
end
theorem over_mid (xs : List AV) : ∀ (A B ys : List AV), xs.length = ys.length → over (A ++ (xs ++ B)) A.length ys = A ++ (ys ++ B) := by
  induction xs with
  | nil => intro A B ys h; rw [List.length_eq_zero_iff.1 (show ys.length = 0 by rw [← h]; rfl)]; rfl
  | cons x xs ih =>
    intro A B ys h
    cases ys with
    | nil => simp at h
    | cons y ys =>
      have e : (A ++ (x :: xs ++ B)).set A.length y = (A ++ [y]) ++ (xs ++ B) := by simp
      show over ((A ++ (x :: xs ++ B)).set A.length y) (A.length + 1) ys = _
      rw [e, show A.length + 1 = (A ++ [y]).length by simp, ih (A ++ [y]) B ys (by simpa using h)]
      simp
theorem over_rows {α : Type} (t : Ty α) (pre post : List α) (x y : α) : over (rows t.cs (pre ++ y :: post)) (pre.length * t.n) (t.cs x) = rows t.cs (pre ++ x :: post) := by
  rw [rows_append, rows_cons, rows_append, rows_cons, ← rows_length t.csn pre]
  exact over_mid _ _ _ _ (by rw [t.csn, t.csn])
def insQ {α : Type} (lt : α → α → Bool) (x : α) : List α → List α → List α
  | [], B => x :: B
  | y :: A, B => if lt x y = true then insQ lt x A (y :: B) else (y :: A).reverse ++ x :: B
def insE {α : Type} (lt : α → α → Bool) (S : List α) (x : α) : List α := insQ lt x S.reverse []
def sortI {α : Type} (lt : α → α → Bool) (l : List α) : List α := l.foldl (insE lt) []
theorem insQ_perm {α : Type} (lt : α → α → Bool) (x : α) : ∀ A B : List α, (insQ lt x A B).Perm (x :: (A ++ B))
  | [], B => .refl _
  | y :: A, B => by
    rw [insQ]
    split
    · refine (insQ_perm lt x A (y :: B)).trans ?_
      exact .cons x (List.perm_middle)
    · refine List.perm_middle.trans (.cons x ?_)
      exact (List.reverse_perm _).append_right B
theorem insE_perm {α : Type} (lt : α → α → Bool) (S : List α) (x : α) : (insE lt S x).Perm (x :: S) := by
  refine (insQ_perm lt x _ _).trans (.cons x ?_)
  rw [List.append_nil]
  exact List.reverse_perm S
theorem foldI_perm {α : Type} (lt : α → α → Bool) : ∀ (l S : List α), (l.foldl (insE lt) S).Perm (S ++ l)
  | [], S => by simp
  | x :: l, S => by
    rw [List.foldl_cons]
    refine (foldI_perm lt l _).trans ?_
    refine ((insE_perm lt S x).append_right l).trans ?_
    exact List.perm_middle.symm
theorem sortI_perm {α : Type} (lt : α → α → Bool) (l : List α) : (sortI lt l).Perm l := foldI_perm lt l []
theorem sortI_len {α : Type} (lt : α → α → Bool) (l : List α) : (sortI lt l).length = l.length := (sortI_perm lt l).length_eq
set_option maxRecDepth 100000
theorem Ty.frC {α : Type} (t : Ty α) (l : List α) : idfree.idfreeL (rows t.cs l) = true := shutL_idfree _ (shutL_of (rows_all t.sh l))
theorem R118E (g : FuncId) : Ret Tryz.prog 118 [.ro [] 0, .sc (.int .i64 0), .sc (.int .i64 0), .clo g []] (.tup []) [.un, .un, .un, .un] := by
  refine Ret.go Tryz.func118 ?_
  simp (disch := omega) []
  refine T.forI (fun _ : Unit => 0) (fun _ => True) (fun _ => [(2, .sc (.int .i64 0)), (8, .sc (.int .i64 1))]) (fun _ => []) () ⟨trivial, Tl.same rfl (by simp (disch := omega) []) (by simp)⟩ ?_
  rintro _ _
  simp (disch := omega) []
set_option maxHeartbeats 4000000 in
theorem R118N (l : List Entry) (hl : l.length ≤ 1048577) (hl0 : l ≠ []) (g : FuncId) (c : Entry → Entry → Int) (hg : callB Tryz.prog g = true) (hR : ∀ x ∈ l, ∀ y ∈ l, Ret Tryz.prog g [.agg (Entry.ty.cs x), .agg (Entry.ty.cs y)] (.sc (.int .i64 (c x y))) [.un, .un]) :
    Ret Tryz.prog 118 [.io (rows Entry.ty.cs l) l.length 6, .sc (.int .i64 0), .sc (.int .i64 l.length), .clo g []] (.tup []) [.io (rows Entry.ty.cs (sortI (fun x y => decide (c x y < 0)) l)) l.length 6, .un, .un, .un] := by
  obtain ⟨x0, tl, rfl⟩ : ∃ x0 tl, l = x0 :: tl := by cases l with | nil => exact absurd rfl hl0 | cons x t => exact ⟨x, t, rfl⟩
  have hlen := sortI_len (fun x y => decide (c x y < 0)) (x0 :: tl)
  have hmem : ∀ (S : List Entry) x, (∀ y ∈ S, y ∈ x0 :: tl) → x ∈ x0 :: tl → ∀ y ∈ insE (fun x y => decide (c x y < 0)) S x, y ∈ x0 :: tl := fun S x h1 h2 y hy => by
    rcases List.mem_cons.1 ((insE_perm _ S x).mem_iff.1 hy) with rfl | hy
    · exact h2
    · exact h1 y hy
  have hil : ∀ S x, (insE (fun x y : Entry => decide (c x y < 0)) S x).length = S.length + 1 := fun S x => (insE_perm _ S x).length_eq
  have hEd : ∀ S x, insE (fun x y : Entry => decide (c x y < 0)) S x = insQ (fun x y : Entry => decide (c x y < 0)) x S.reverse [] := fun _ _ => rfl
  have hB0 : ∀ x B, insQ (fun x y : Entry => decide (c x y < 0)) x [] B = x :: B := fun _ _ => rfl
  have hB1 : ∀ x y A B, c x y < 0 → insQ (fun x y : Entry => decide (c x y < 0)) x (y :: A) B = insQ (fun x y : Entry => decide (c x y < 0)) x A (y :: B) := fun x y A B h => by rw [insQ, if_pos (by simpa using h)]
  have hB2 : ∀ x y A B, ¬ c x y < 0 → insQ (fun x y : Entry => decide (c x y < 0)) x (y :: A) B = (y :: A).reverse ++ x :: B := fun x y A B h => by rw [insQ, if_neg (by simpa using h)]
  have hF : sortI (fun x y : Entry => decide (c x y < 0)) (x0 :: tl) = tl.foldl (insE (fun x y : Entry => decide (c x y < 0))) [x0] := rfl
  generalize hlt : sortI (fun x y : Entry => decide (c x y < 0)) (x0 :: tl) = tg at *
  generalize insE (fun x y : Entry => decide (c x y < 0)) = iE at *
  generalize insQ (fun x y : Entry => decide (c x y < 0)) = iB at *
  clear hlt
  have fr : ∀ l : List Entry, idfree.idfreeL (rows Entry.ty.cs l) = true := fun l => Entry.ty.frC l
  have Mi : ∀ q (l : List Entry), mens q (rows Entry.ty.cs l) = true := fun q l => mens_idf (fr l)
  have hl' : tl.length ≤ 1048576 := by simp at hl; omega
  have Mc : ∀ q, menQ q (.clo g []) = true := fun _ => rfl
  refine Ret.go Tryz.func118 ?_
  simp (disch := omega) []
  refine T.forI (fun i : List Entry × List Entry => i.2.length) (fun i => i.2.foldl iE i.1 = tg ∧ i.1.length + i.2.length = tl.length + 1 ∧ i.1 ≠ [] ∧ (∀ y ∈ i.1 ++ i.2, y ∈ x0 :: tl)) (fun i => [(0, .sl 100000 0 (tl.length + 1) 6 false), (1, .sc (.int .i64 0)), (2, .sc (.int .i64 (tl.length + 1))), (3, .clo g []), (8, .sc (.int .i64 i.1.length))]) (fun i => [(100000, rows Entry.ty.cs (i.1 ++ i.2))]) ([x0], tl) ⟨⟨hF.symm, by simp; omega, by simp, by simp⟩, Tl.same rfl (by simp (disch := omega) [Mc]) (by simp [Mi])⟩ ?_
  rintro ⟨S, rest⟩ ⟨hT, hsl, hS0, hm⟩
  simp only at hT hsl hS0 hm ⊢
  cases rest with
  | nil =>
    simp only [List.foldl_nil] at hT
    subst hT
    have hc := Entry.csl S
    simp only [List.length_nil] at hsl
    simp (disch := omega) [hsl]
    simp (disch := omega) [ex1, fr, hc, ioPos1, hsl, hlen]
  | cons x rest =>
    simp only [List.foldl_cons] at hT
    simp only [List.length_cons] at hsl
    have hxm := hm x (by simp)
    have k1 := hmem S x (fun y hy => hm y (by simp [hy])) hxm
    have k2 := hil S x
    rw [hEd] at hT k1 k2
    generalize hI : iB x S.reverse [] = I at *
    simp (disch := omega) []
    refine T.cutB [(0, .sl 100000 0 (tl.length + 1) 6 false), (1, .sc (.int .i64 0)), (2, .sc (.int .i64 (tl.length + 1))), (3, .clo g []), (8, .sc (.int .i64 S.length))] [(100000, rows Entry.ty.cs (I ++ rest))] ?_ ?_
    · refine T.forI (fun i : List Entry × List Entry => i.1.length) (fun i => iB x i.1 i.2 = I ∧ i.1.length + i.2.length = S.length ∧ (∀ y ∈ i.1, y ∈ x0 :: tl)) (fun i => [(0, .sl 100000 0 (tl.length + 1) 6 false), (1, .sc (.int .i64 0)), (2, .sc (.int .i64 (tl.length + 1))), (3, .clo g []), (8, .sc (.int .i64 S.length)), (9, .sc (.int .i64 i.1.length))]) (fun i => [(100000, rows Entry.ty.cs (i.1.reverse ++ x :: (i.2 ++ rest)))]) (S.reverse, []) ⟨⟨hI, by simp, fun y hy => hm y (by simp at hy; simp [hy])⟩, Tl.same rfl (by simp (disch := omega) [Mc]) (by simp [Mi])⟩ ?_
      rintro ⟨A, B⟩ ⟨hA, hab, hAm⟩
      simp only at hA hab hAm ⊢
      cases A with
      | nil =>
        rw [hB0] at hA
        subst hA
        simp (disch := omega) []
        refine T.textE [] ?_ mixed
        simp (disch := omega) [merge_nil, hideH_nil]
        exact Tl.same rfl (by simp (disch := omega) [Mc]) (by simp [Mi])
      | cons y A =>
        have rc := hR x hxm y (hAm y (by simp))
        have hlA : A.length + 1 ≤ S.length := by rw [← hab]; simp
        have hd1 : List.drop ((A.length + 1) * 6) (rows Entry.ty.cs ((y :: A).reverse ++ x :: (B ++ rest))) = .sc (.string x.name) :: .sc (.int .i64 x.v.a) :: .sc (.int .i64 x.v.b) :: .sc (.int .i64 x.v.c) :: .ro (rows Ty.str.cs x.v.pre) x.v.pre.length :: .ro (rows Need.ty.cs x.needs) x.needs.length :: rows Entry.ty.cs (B ++ rest) := by
          have := rows_drop Entry.ty.csn (y :: A).reverse (x :: (B ++ rest))
          rw [rows_cons, Entry.cse, List.length_reverse] at this
          exact this
        have hd2 : List.drop (A.length * 6) (rows Entry.ty.cs ((y :: A).reverse ++ x :: (B ++ rest))) = .sc (.string y.name) :: .sc (.int .i64 y.v.a) :: .sc (.int .i64 y.v.b) :: .sc (.int .i64 y.v.c) :: .ro (rows Ty.str.cs y.v.pre) y.v.pre.length :: .ro (rows Need.ty.cs y.needs) y.needs.length :: rows Entry.ty.cs (x :: (B ++ rest)) := by
          have := rows_drop Entry.ty.csn A.reverse (y :: x :: (B ++ rest))
          rw [rows_cons, Entry.cse, List.length_reverse, show A.reverse ++ y :: x :: (B ++ rest) = (y :: A).reverse ++ x :: (B ++ rest) by simp] at this
          exact this
        have hO1 : over (rows Entry.ty.cs ((y :: A).reverse ++ x :: (B ++ rest))) ((A.length + 1) * 6) [.sc (.string y.name), .sc (.int .i64 y.v.a), .sc (.int .i64 y.v.b), .sc (.int .i64 y.v.c), .ro (rows Ty.str.cs y.v.pre) y.v.pre.length, .ro (rows Need.ty.cs y.needs) y.needs.length] = rows Entry.ty.cs ((y :: A).reverse ++ y :: (B ++ rest)) := by
          have := over_rows Entry.ty (y :: A).reverse (B ++ rest) y x
          rw [Entry.cse, List.length_reverse] at this
          exact this
        have hO2 : over (rows Entry.ty.cs ((y :: A).reverse ++ y :: (B ++ rest))) (A.length * 6) [.sc (.string x.name), .sc (.int .i64 x.v.a), .sc (.int .i64 x.v.b), .sc (.int .i64 x.v.c), .ro (rows Ty.str.cs x.v.pre) x.v.pre.length, .ro (rows Need.ty.cs x.needs) x.needs.length] = rows Entry.ty.cs (A.reverse ++ x :: (y :: B ++ rest)) := by
          have := over_rows Entry.ty A.reverse (y :: (B ++ rest)) x y
          rw [Entry.cse, List.length_reverse, show A.reverse ++ y :: y :: (B ++ rest) = (y :: A).reverse ++ y :: (B ++ rest) by simp] at this
          exact this
        have hcl : (rows Entry.ty.cs ((y :: A).reverse ++ x :: (B ++ rest))).length = (tl.length + 1) * 6 := by
          rw [Entry.csl]
          congr 1
          simp only [List.length_append, List.length_reverse, List.length_cons] at hab ⊢
          omega
        have hcl2 : (rows Entry.ty.cs ((y :: A).reverse ++ y :: (B ++ rest))).length = (tl.length + 1) * 6 := by
          rw [Entry.csl]
          congr 1
          simp only [List.length_append, List.length_reverse, List.length_cons] at hab ⊢
          omega
        have z1 : (0 : Int) < (A.length : Int) + 1 := by omega
        have z2 : IntKind.i64.wrap ((A.length : Int) + 1 - 1) = A.length := by rw [show (A.length : Int) + 1 - 1 = A.length by omega]; exact wrap_i64 (by omega) (by simp at hl; omega)
        have z3 : A.length < tl.length + 1 := by omega
        have z4 : A.length + 1 < tl.length + 1 := by omega
        have z5 : (A.length : Int) < (tl.length : Int) + 1 := by omega
        have z6 : (A.length : Int) + 1 < (tl.length : Int) + 1 := by omega
        rw [Entry.cse, Entry.cse] at rc
        have hrev : (y :: A).reverse = A.reverse ++ [y] := List.reverse_cons
        generalize hR0 : rows Entry.ty.cs ((y :: A).reverse ++ x :: (B ++ rest)) = R0 at *
        generalize hR1 : rows Entry.ty.cs ((y :: A).reverse ++ y :: (B ++ rest)) = R1 at *
        have fR0 : ∀ q, mens q R0 = true := fun q => by rw [← hR0]; exact Mi _ _
        simp (disch := omega) [-List.reverse_cons, hR0]
        refine T.textE [] ?_ mixed
        simp (disch := omega) [-List.reverse_cons, z1, z2, z3, z4, z5, z6, hd1, hd2, hcl, merge_nil, hideH_nil]
        refine cWX 900 rc ?_ (hc := hg)
        by_cases hc : c x y < 0
        · rw [hB1 x y A B hc] at hA
          simp (disch := omega) [hc, merge_nil, hideH_nil]
          refine T.textE (es := [([], []), ([], []), ([], [100000]), ([], [100000]), ([], [100000]), ([], []), ([], []), ([], []), ([], []), ([], []), ([], []), ([], []), ([], []), ([], []), ([], []), ([100000], []), ([], []), ([100000], [])]) [(15, [100000]), (17, [100000])] ?_ mixed (he := by kernel_rfl)
          simp (disch := omega) [-over, z1, z2, z3, z4, z5, z6, hd1, hd2, hcl, hcl2, hO1, hO2, merge_nil, hideH_nil]
          refine Ri_mk (A, y :: B) (by simp) ⟨hA, by simp at hab ⊢; omega, fun z hz => by simpa using hAm z (by simp [hz])⟩ (Tl.same rfl (by simp (disch := omega) [Mc]) (by simp [Mi]))
        · rw [hB2 x y A B hc] at hA
          subst hA
          simp (disch := omega) [hc, merge_nil, hideH_nil]
          exact Tl.same rfl (by simp (disch := omega) [Mc]) (by simp [Mi, ← hR0])
    · simp (disch := omega) []
      refine Ri_mk (I, rest) (by simp) ⟨hT, by show I.length + rest.length = _; omega, fun e => by have e : I = [] := e; rw [e] at k2; simp at k2, fun z hz => ?_⟩ (Tl.same rfl (by simp (disch := omega) [k2, Mc]) (by simp [Mi]))
      rcases hz with hz | hz
      · simpa using k1 z hz
      · simpa using hm z (by simp [hz])
theorem R118 (l : List Entry) (hl : l.length ≤ 1048577) (g : FuncId) (c : Entry → Entry → Int) (hg : callB Tryz.prog g = true) (hR : ∀ x ∈ l, ∀ y ∈ l, Ret Tryz.prog g [.agg (Entry.ty.cs x), .agg (Entry.ty.cs y)] (.sc (.int .i64 (c x y))) [.un, .un]) :
    IRet Tryz.prog 118 (rows Entry.ty.cs l) l.length 6 [.sc (.int .i64 0), .sc (.int .i64 l.length), .clo g []] (rows Entry.ty.cs (sortI (fun x y => decide (c x y < 0)) l)) :=
  ⟨fun h => R118N l hl (fun e => by rw [e] at h; simp at h) g c hg hR, fun h => by rw [h]; exact R118E g⟩
theorem R103E (g : FuncId) : Ret Tryz.prog 103 [.ro [] 0, .sc (.int .i64 0), .sc (.int .i64 0), .clo g []] (.tup []) [.un, .un, .un, .un] := by
  refine Ret.go Tryz.func103 ?_
  simp (disch := omega) []
  refine T.forI (fun _ : Unit => 0) (fun _ => True) (fun _ => [(2, .sc (.int .i64 0)), (8, .sc (.int .i64 1))]) (fun _ => []) () ⟨trivial, Tl.same rfl (by simp (disch := omega) []) (by simp)⟩ ?_
  rintro _ _
  simp (disch := omega) []
set_option maxHeartbeats 4000000 in
theorem R103N (l : List Pick) (hl : l.length ≤ 1048577) (hl0 : l ≠ []) (g : FuncId) (c : Pick → Pick → Int) (hg : callB Tryz.prog g = true) (hR : ∀ x ∈ l, ∀ y ∈ l, Ret Tryz.prog g [.agg (Pick.ty.cs x), .agg (Pick.ty.cs y)] (.sc (.int .i64 (c x y))) [.un, .un]) :
    Ret Tryz.prog 103 [.io (rows Pick.ty.cs l) l.length 5, .sc (.int .i64 0), .sc (.int .i64 l.length), .clo g []] (.tup []) [.io (rows Pick.ty.cs (sortI (fun x y => decide (c x y < 0)) l)) l.length 5, .un, .un, .un] := by
  obtain ⟨x0, tl, rfl⟩ : ∃ x0 tl, l = x0 :: tl := by cases l with | nil => exact absurd rfl hl0 | cons x t => exact ⟨x, t, rfl⟩
  have hlen := sortI_len (fun x y => decide (c x y < 0)) (x0 :: tl)
  have hmem : ∀ (S : List Pick) x, (∀ y ∈ S, y ∈ x0 :: tl) → x ∈ x0 :: tl → ∀ y ∈ insE (fun x y => decide (c x y < 0)) S x, y ∈ x0 :: tl := fun S x h1 h2 y hy => by
    rcases List.mem_cons.1 ((insE_perm _ S x).mem_iff.1 hy) with rfl | hy
    · exact h2
    · exact h1 y hy
  have hil : ∀ S x, (insE (fun x y : Pick => decide (c x y < 0)) S x).length = S.length + 1 := fun S x => (insE_perm _ S x).length_eq
  have hEd : ∀ S x, insE (fun x y : Pick => decide (c x y < 0)) S x = insQ (fun x y : Pick => decide (c x y < 0)) x S.reverse [] := fun _ _ => rfl
  have hB0 : ∀ x B, insQ (fun x y : Pick => decide (c x y < 0)) x [] B = x :: B := fun _ _ => rfl
  have hB1 : ∀ x y A B, c x y < 0 → insQ (fun x y : Pick => decide (c x y < 0)) x (y :: A) B = insQ (fun x y : Pick => decide (c x y < 0)) x A (y :: B) := fun x y A B h => by rw [insQ, if_pos (by simpa using h)]
  have hB2 : ∀ x y A B, ¬ c x y < 0 → insQ (fun x y : Pick => decide (c x y < 0)) x (y :: A) B = (y :: A).reverse ++ x :: B := fun x y A B h => by rw [insQ, if_neg (by simpa using h)]
  have hF : sortI (fun x y : Pick => decide (c x y < 0)) (x0 :: tl) = tl.foldl (insE (fun x y : Pick => decide (c x y < 0))) [x0] := rfl
  generalize hlt : sortI (fun x y : Pick => decide (c x y < 0)) (x0 :: tl) = tg at *
  generalize insE (fun x y : Pick => decide (c x y < 0)) = iE at *
  generalize insQ (fun x y : Pick => decide (c x y < 0)) = iB at *
  clear hlt
  have fr : ∀ l : List Pick, idfree.idfreeL (rows Pick.ty.cs l) = true := fun l => Pick.ty.frC l
  have Mi : ∀ q (l : List Pick), mens q (rows Pick.ty.cs l) = true := fun q l => mens_idf (fr l)
  have hl' : tl.length ≤ 1048576 := by simp at hl; omega
  have Mc : ∀ q, menQ q (.clo g []) = true := fun _ => rfl
  refine Ret.go Tryz.func103 ?_
  simp (disch := omega) []
  refine T.forI (fun i : List Pick × List Pick => i.2.length) (fun i => i.2.foldl iE i.1 = tg ∧ i.1.length + i.2.length = tl.length + 1 ∧ i.1 ≠ [] ∧ (∀ y ∈ i.1 ++ i.2, y ∈ x0 :: tl)) (fun i => [(0, .sl 100000 0 (tl.length + 1) 5 false), (1, .sc (.int .i64 0)), (2, .sc (.int .i64 (tl.length + 1))), (3, .clo g []), (8, .sc (.int .i64 i.1.length))]) (fun i => [(100000, rows Pick.ty.cs (i.1 ++ i.2))]) ([x0], tl) ⟨⟨hF.symm, by simp; omega, by simp, by simp⟩, Tl.same rfl (by simp (disch := omega) [Mc]) (by simp [Mi])⟩ ?_
  rintro ⟨S, rest⟩ ⟨hT, hsl, hS0, hm⟩
  simp only at hT hsl hS0 hm ⊢
  cases rest with
  | nil =>
    simp only [List.foldl_nil] at hT
    subst hT
    have hc := Pick.csl S
    simp only [List.length_nil] at hsl
    simp (disch := omega) [hsl]
    simp (disch := omega) [ex1, fr, hc, ioPos1, hsl, hlen]
  | cons x rest =>
    simp only [List.foldl_cons] at hT
    simp only [List.length_cons] at hsl
    have hxm := hm x (by simp)
    have k1 := hmem S x (fun y hy => hm y (by simp [hy])) hxm
    have k2 := hil S x
    rw [hEd] at hT k1 k2
    generalize hI : iB x S.reverse [] = I at *
    simp (disch := omega) []
    refine T.cutB [(0, .sl 100000 0 (tl.length + 1) 5 false), (1, .sc (.int .i64 0)), (2, .sc (.int .i64 (tl.length + 1))), (3, .clo g []), (8, .sc (.int .i64 S.length))] [(100000, rows Pick.ty.cs (I ++ rest))] ?_ ?_
    · refine T.forI (fun i : List Pick × List Pick => i.1.length) (fun i => iB x i.1 i.2 = I ∧ i.1.length + i.2.length = S.length ∧ (∀ y ∈ i.1, y ∈ x0 :: tl)) (fun i => [(0, .sl 100000 0 (tl.length + 1) 5 false), (1, .sc (.int .i64 0)), (2, .sc (.int .i64 (tl.length + 1))), (3, .clo g []), (8, .sc (.int .i64 S.length)), (9, .sc (.int .i64 i.1.length))]) (fun i => [(100000, rows Pick.ty.cs (i.1.reverse ++ x :: (i.2 ++ rest)))]) (S.reverse, []) ⟨⟨hI, by simp, fun y hy => hm y (by simp at hy; simp [hy])⟩, Tl.same rfl (by simp (disch := omega) [Mc]) (by simp [Mi])⟩ ?_
      rintro ⟨A, B⟩ ⟨hA, hab, hAm⟩
      simp only at hA hab hAm ⊢
      cases A with
      | nil =>
        rw [hB0] at hA
        subst hA
        simp (disch := omega) []
        refine T.textE [] ?_ mixed
        simp (disch := omega) [merge_nil, hideH_nil]
        exact Tl.same rfl (by simp (disch := omega) [Mc]) (by simp [Mi])
      | cons y A =>
        have rc := hR x hxm y (hAm y (by simp))
        have hlA : A.length + 1 ≤ S.length := by rw [← hab]; simp
        have hd1 : List.drop ((A.length + 1) * 5) (rows Pick.ty.cs ((y :: A).reverse ++ x :: (B ++ rest))) = .sc (.string x.name) :: .sc (.int .i64 x.v.a) :: .sc (.int .i64 x.v.b) :: .sc (.int .i64 x.v.c) :: .ro (rows Ty.str.cs x.v.pre) x.v.pre.length :: rows Pick.ty.cs (B ++ rest) := by
          have := rows_drop Pick.ty.csn (y :: A).reverse (x :: (B ++ rest))
          rw [rows_cons, Pick.cse, List.length_reverse] at this
          exact this
        have hd2 : List.drop (A.length * 5) (rows Pick.ty.cs ((y :: A).reverse ++ x :: (B ++ rest))) = .sc (.string y.name) :: .sc (.int .i64 y.v.a) :: .sc (.int .i64 y.v.b) :: .sc (.int .i64 y.v.c) :: .ro (rows Ty.str.cs y.v.pre) y.v.pre.length :: rows Pick.ty.cs (x :: (B ++ rest)) := by
          have := rows_drop Pick.ty.csn A.reverse (y :: x :: (B ++ rest))
          rw [rows_cons, Pick.cse, List.length_reverse, show A.reverse ++ y :: x :: (B ++ rest) = (y :: A).reverse ++ x :: (B ++ rest) by simp] at this
          exact this
        have hO1 : over (rows Pick.ty.cs ((y :: A).reverse ++ x :: (B ++ rest))) ((A.length + 1) * 5) [.sc (.string y.name), .sc (.int .i64 y.v.a), .sc (.int .i64 y.v.b), .sc (.int .i64 y.v.c), .ro (rows Ty.str.cs y.v.pre) y.v.pre.length] = rows Pick.ty.cs ((y :: A).reverse ++ y :: (B ++ rest)) := by
          have := over_rows Pick.ty (y :: A).reverse (B ++ rest) y x
          rw [Pick.cse, List.length_reverse] at this
          exact this
        have hO2 : over (rows Pick.ty.cs ((y :: A).reverse ++ y :: (B ++ rest))) (A.length * 5) [.sc (.string x.name), .sc (.int .i64 x.v.a), .sc (.int .i64 x.v.b), .sc (.int .i64 x.v.c), .ro (rows Ty.str.cs x.v.pre) x.v.pre.length] = rows Pick.ty.cs (A.reverse ++ x :: (y :: B ++ rest)) := by
          have := over_rows Pick.ty A.reverse (y :: (B ++ rest)) x y
          rw [Pick.cse, List.length_reverse, show A.reverse ++ y :: y :: (B ++ rest) = (y :: A).reverse ++ y :: (B ++ rest) by simp] at this
          exact this
        have hcl : (rows Pick.ty.cs ((y :: A).reverse ++ x :: (B ++ rest))).length = (tl.length + 1) * 5 := by
          rw [Pick.csl]
          congr 1
          simp only [List.length_append, List.length_reverse, List.length_cons] at hab ⊢
          omega
        have hcl2 : (rows Pick.ty.cs ((y :: A).reverse ++ y :: (B ++ rest))).length = (tl.length + 1) * 5 := by
          rw [Pick.csl]
          congr 1
          simp only [List.length_append, List.length_reverse, List.length_cons] at hab ⊢
          omega
        have z1 : (0 : Int) < (A.length : Int) + 1 := by omega
        have z2 : IntKind.i64.wrap ((A.length : Int) + 1 - 1) = A.length := by rw [show (A.length : Int) + 1 - 1 = A.length by omega]; exact wrap_i64 (by omega) (by simp at hl; omega)
        have z3 : A.length < tl.length + 1 := by omega
        have z4 : A.length + 1 < tl.length + 1 := by omega
        have z5 : (A.length : Int) < (tl.length : Int) + 1 := by omega
        have z6 : (A.length : Int) + 1 < (tl.length : Int) + 1 := by omega
        rw [Pick.cse, Pick.cse] at rc
        have hrev : (y :: A).reverse = A.reverse ++ [y] := List.reverse_cons
        generalize hR0 : rows Pick.ty.cs ((y :: A).reverse ++ x :: (B ++ rest)) = R0 at *
        generalize hR1 : rows Pick.ty.cs ((y :: A).reverse ++ y :: (B ++ rest)) = R1 at *
        have fR0 : ∀ q, mens q R0 = true := fun q => by rw [← hR0]; exact Mi _ _
        simp (disch := omega) [-List.reverse_cons, hR0]
        refine T.textE [] ?_ mixed
        simp (disch := omega) [-List.reverse_cons, z1, z2, z3, z4, z5, z6, hd1, hd2, hcl, merge_nil, hideH_nil]
        refine cWX 900 rc ?_ (hc := hg)
        by_cases hc : c x y < 0
        · rw [hB1 x y A B hc] at hA
          simp (disch := omega) [hc, merge_nil, hideH_nil]
          refine T.textE (es := [([], []), ([], []), ([], [100000]), ([], [100000]), ([], [100000]), ([], []), ([], []), ([], []), ([], []), ([], []), ([], []), ([], []), ([], []), ([], []), ([], []), ([100000], []), ([], []), ([100000], [])]) [(15, [100000]), (17, [100000])] ?_ mixed (he := by kernel_rfl)
          simp (disch := omega) [-over, z1, z2, z3, z4, z5, z6, hd1, hd2, hcl, hcl2, hO1, hO2, merge_nil, hideH_nil]
          refine Ri_mk (A, y :: B) (by simp) ⟨hA, by simp at hab ⊢; omega, fun z hz => by simpa using hAm z (by simp [hz])⟩ (Tl.same rfl (by simp (disch := omega) [Mc]) (by simp [Mi]))
        · rw [hB2 x y A B hc] at hA
          subst hA
          simp (disch := omega) [hc, merge_nil, hideH_nil]
          exact Tl.same rfl (by simp (disch := omega) [Mc]) (by simp [Mi, ← hR0])
    · simp (disch := omega) []
      refine Ri_mk (I, rest) (by simp) ⟨hT, by show I.length + rest.length = _; omega, fun e => by have e : I = [] := e; rw [e] at k2; simp at k2, fun z hz => ?_⟩ (Tl.same rfl (by simp (disch := omega) [k2, Mc]) (by simp [Mi]))
      rcases hz with hz | hz
      · simpa using k1 z hz
      · simpa using hm z (by simp [hz])
theorem R103 (l : List Pick) (hl : l.length ≤ 1048577) (g : FuncId) (c : Pick → Pick → Int) (hg : callB Tryz.prog g = true) (hR : ∀ x ∈ l, ∀ y ∈ l, Ret Tryz.prog g [.agg (Pick.ty.cs x), .agg (Pick.ty.cs y)] (.sc (.int .i64 (c x y))) [.un, .un]) :
    IRet Tryz.prog 103 (rows Pick.ty.cs l) l.length 5 [.sc (.int .i64 0), .sc (.int .i64 l.length), .clo g []] (rows Pick.ty.cs (sortI (fun x y => decide (c x y < 0)) l)) :=
  ⟨fun h => R103N l hl (fun e => by rw [e] at h; simp at h) g c hg hR, fun h => by rw [h]; exact R103E g⟩
set_option maxRecDepth 100000
def atE (n : ByteArray) (v : Ver) (e : Entry) : Bool := e.name.toList == n.toList && sameV e.v v
def atP (n : ByteArray) (p : Pick) : Bool := p.name.toList == n.toList
structure EntryY (e : Entry) : Prop where
  a : e.name.size ≤ 1048577
  v : VerZ e.v
  l : e.needs.length ≤ 1048577
  z : ∀ n ∈ e.needs, NeedZ n
theorem EntryY.z2 {e : Entry} (h : EntryY e) : EntryZ e := ⟨by have := h.a; omega, h.v, by have := h.l; omega, h.z⟩
structure PickY (p : Pick) : Prop where
  a : p.name.size ≤ 1048577
  v : VerZ p.v
theorem needShut (l : List Need) : shut.shutL (rows Need.ty.oc l) = true := shutL_of (rows_all Need.ty.sh l)
theorem R81 (xs : List Need) (hb : xs.length ≤ 1048577) : Ret Tryz.prog 81 [.ro (rows Need.ty.cs xs) xs.length] (.own (rows Need.ty.oc xs) xs.length 2) [.un] := Ret.clone Need.ty rfl (bytes := 32) Tryz.func81 ⟨by kernel_rfl, by kernel_rfl, by kernel_rfl⟩ xs (by omega)
theorem R44 (e : Entry) (hv : e.v.pre.length ≤ 1048577) (hn : e.needs.length ≤ 1048577) : Ret Tryz.prog 44 [.agg (Entry.ty.cs e)] (.agg (Entry.ty.cs e)) [.un] := by
  have rC := (R35 e.v hv).cool (ret' := .agg (Ver.ty.cs e.v)) (cool_ver (strShut _))
  have rN := (R81 e.needs hn).cool (ret' := .ro (rows Need.ty.cs e.needs) e.needs.length) (cool_own (needShut _))
  rw [Ver.cse] at rC
  rw [Entry.cse]
  obtain ⟨na, ⟨a, b, c, p⟩, ns⟩ := e
  simp only at *
  refine Ret.go Tryz.func44 ?_
  simp (disch := omega) []
  refine cX 900 rC ?_
  simp (disch := omega) []
  refine cX 900 rN ?_
  simp (disch := omega) []
theorem R72 (n : ByteArray) (p : Pick) : Ret Tryz.prog 72 [el true (Pick.ty.cs p), .rp [.sc (.string n)] 0] (.sc (.bool (atP n p))) [.un, .un] := by
  unfold atP
  rw [show el true (Pick.ty.cs p) = .agg (Pick.ty.cs p) from rfl, Pick.cse]
  refine Ret.go Tryz.func72 ?_
  simp (disch := omega) []
theorem R71 (g : FuncId) (caps : List AV) (f : Pick → Bool) (hg : callB Tryz.prog g = true) (hsh : shut.shutL caps = true) (xs : List Pick) (hR : ∀ x ∈ xs, Ret Tryz.prog g (el true (Pick.ty.cs x) :: caps) (.sc (.bool (f x))) (.un :: caps.map fun _ => .un)) (hb : xs.length < 4611686018427387904) :
    Ret Tryz.prog 71 [.ro (rows Pick.ty.cs xs) xs.length, .clo g caps] (.sc (.int .i64 (idx f xs 0))) [.un, .un] :=
  Ret.indexFunc Pick.ty (agg := true) Tryz.func71 ⟨by kernel_rfl, by kernel_rfl, by kernel_rfl⟩ (fun h => by cases h) g caps f hg hsh xs hR hb
theorem R34 (xs : List Pick) (n : ByteArray) (hb : xs.length ≤ 1048577) : Ret Tryz.prog 34 [.ro (rows Pick.ty.cs xs) xs.length, .sc (.string n)] (.sc (.int .i64 (idx (atP n) xs 0))) [.un, .un] := by
  refine Ret.go Tryz.func34 ?_
  simp (disch := omega) []
  refine cR (ys := [.ro (rows Pick.ty.cs xs) xs.length, .clo 72 [.rp [.sc (.string n)] 0]]) (R71 72 [.rp [.sc (.string n)] 0] (atP n) (by kernel_rfl) rfl xs (fun x _ => R72 n x) (by omega)) ?_ (hys := by simp [roc_ro, roc])
  simp (disch := omega) []
set_option maxRecDepth 100000
def ltNw (x y : Entry) : Bool := lessV y.v x.v
def newestV (r : List Entry) (n : ByteArray) : List Entry := sortI ltNw (r.filter fun e => e.name.toList == n.toList)
theorem newestV_mem {r : List Entry} {n : ByteArray} {e : Entry} : e ∈ newestV r n ↔ e ∈ r ∧ e.name.toList = n.toList := by
  rw [newestV, (sortI_perm _ _).mem_iff, List.mem_filter, beq_iff_eq]
theorem R82 (l : List Entry) (hl : l.length ≤ 12) (g : FuncId) (c : Entry → Entry → Int) (hg : callB Tryz.prog g = true) (hR : ∀ x ∈ l, ∀ y ∈ l, Ret Tryz.prog g [.agg (Entry.ty.cs x), .agg (Entry.ty.cs y)] (.sc (.int .i64 (c x y))) [.un, .un]) :
    IRet Tryz.prog 82 (rows Entry.ty.cs l) l.length 6 [.sc (.int .i64 l.length), .clo g []] (rows Entry.ty.cs (sortI (fun x y => decide (c x y < 0)) l)) := by
  have rI := R118 l (by omega) g c hg hR
  have h1 := Entry.csl l
  have h2 := Entry.csl (sortI (fun x y => decide (c x y < 0)) l)
  rw [sortI_len] at h2
  have i1 := Entry.ty.frC l
  have i2 := Entry.ty.frC (sortI (fun x y => decide (c x y < 0)) l)
  generalize rows Entry.ty.cs (sortI (fun x y => decide (c x y < 0)) l) = D at *
  generalize rows Entry.ty.cs l = C at *
  generalize l.length = n at *
  have Mc : ∀ q, menQ q (.clo g []) = true := fun _ => rfl
  constructor
  · intro h0
    refine Ret.go Tryz.func82 ?_
    simp (disch := omega) []
    refine T.cutL [(0, .sl 100000 0 n 6 false), (1, .sc (.int .i64 n)), (2, .clo g []), (6, .sc (.int .i64 20)), (7, .sc (.int .i64 0))] [(100000, C)] ?_ ?_
    · refine T.forI (fun _ : Unit => 0) (fun _ => True) (fun _ => [(0, .sl 100000 0 n 6 false), (1, .sc (.int .i64 n)), (2, .clo g []), (6, .sc (.int .i64 20)), (7, .sc (.int .i64 0)), (8, .sc (.int .i64 20))]) (fun _ => [(100000, C)]) () ⟨trivial, Tl.same rfl (by simp (disch := omega) [Mc]) (by simp [mens_idf i1])⟩ ?_
      rintro _ _
      simp (disch := omega) []
      exact Tl.same rfl (by simp (disch := omega) [Mc]) (by simp [mens_idf i1])
    · simp (disch := omega) []
      refine cI 100000 rI ?_ h1 (by rw [h1, h2]) i1
      simp (disch := omega) []
      refine T.forI (fun _ : Unit => 0) (fun _ => True) (fun _ => [(0, .sl 100000 0 n 6 false), (1, .sc (.int .i64 n)), (2, .clo g []), (6, .sc (.int .i64 20))]) (fun _ => [(100000, D)]) () ⟨trivial, Tl.same rfl (by simp (disch := omega) [Mc]) (by simp [mens_idf i2])⟩ ?_
      rintro _ _
      simp (disch := omega) [ex1, i2, h2, ioPos1]
  · rintro rfl
    have r0 := rI.2 rfl
    refine Ret.go Tryz.func82 ?_
    simp (disch := omega) []
    refine T.cutL [(0, .ro [] 0), (1, .sc (.int .i64 0)), (2, .clo g []), (6, .sc (.int .i64 20)), (7, .sc (.int .i64 0))] [] ?_ ?_
    · refine T.forI (fun _ : Unit => 0) (fun _ => True) (fun _ => [(0, .ro [] 0), (1, .sc (.int .i64 0)), (2, .clo g []), (6, .sc (.int .i64 20)), (7, .sc (.int .i64 0)), (8, .sc (.int .i64 20))]) (fun _ => []) () ⟨trivial, Tl.same rfl (by simp (disch := omega) [Mc]) (by simp)⟩ ?_
      rintro _ _
      simp (disch := omega) []
      exact Tl.same rfl (by simp (disch := omega) [Mc]) (by simp)
    · simp (disch := omega) []
      refine cX 900 r0 ?_
      simp (disch := omega) []
      refine T.forI (fun _ : Unit => 0) (fun _ => True) (fun _ => [(0, .ro [] 0), (1, .sc (.int .i64 0)), (2, .clo g []), (6, .sc (.int .i64 20))]) (fun _ => []) () ⟨trivial, Tl.same rfl (by simp (disch := omega) [Mc]) (by simp)⟩ ?_
      rintro _ _
      simp (disch := omega) [ex1, ioPos1]
theorem R45 (l : List Entry) (hl : l.length ≤ 12) (g : FuncId) (c : Entry → Entry → Int) (hg : callB Tryz.prog g = true) (hR : ∀ x ∈ l, ∀ y ∈ l, Ret Tryz.prog g [.agg (Entry.ty.cs x), .agg (Entry.ty.cs y)] (.sc (.int .i64 (c x y))) [.un, .un]) :
    IRet Tryz.prog 45 (rows Entry.ty.cs l) l.length 6 [.clo g []] (rows Entry.ty.cs (sortI (fun x y => decide (c x y < 0)) l)) := by
  have rI := R82 l hl g c hg hR
  have h1 := Entry.csl l
  have h2 := Entry.csl (sortI (fun x y => decide (c x y < 0)) l)
  rw [sortI_len] at h2
  have i1 := Entry.ty.frC l
  have i2 := Entry.ty.frC (sortI (fun x y => decide (c x y < 0)) l)
  generalize rows Entry.ty.cs (sortI (fun x y => decide (c x y < 0)) l) = D at *
  generalize rows Entry.ty.cs l = C at *
  generalize l.length = n at *
  constructor
  · intro h0
    refine Ret.go Tryz.func45 ?_
    simp (disch := omega) []
    refine cI 100000 rI ?_ h1 (by rw [h1, h2]) i1
    simp (disch := omega) [ex1, i2, h2, ioPos1]
  · rintro rfl
    have r0 := rI.2 rfl
    refine Ret.go Tryz.func45 ?_
    simp (disch := omega) []
    refine cX 900 r0 ?_
    simp (disch := omega) [ex1, ioPos1]
theorem R46 (x y : Entry) (hx : VerZ x.v) (hy : VerZ y.v) : Ret Tryz.prog 46 [.agg (Entry.ty.cs x), .agg (Entry.ty.cs y)] (.sc (.int .i64 (cmpV y.v x.v))) [.un, .un] := by
  have rC := R47 y.v x.v hy.n hx.n hy.z hx.z
  rw [Ver.cse, Ver.cse] at rC
  rw [Entry.cse, Entry.cse]
  generalize cmpV y.v x.v = k at *
  obtain ⟨xn, ⟨xa, xb, xc, xp⟩, xs⟩ := x
  obtain ⟨yn, ⟨ya, yb, yc, yp⟩, ys⟩ := y
  simp only at *
  refine Ret.go Tryz.func46 ?_
  simp (disch := omega) []
  refine cX 900 rC ?_
  simp (disch := omega) []
set_option maxHeartbeats 4000000 in
theorem R17 (r : List Entry) (n : ByteArray) (hr : r.length ≤ 12) (hz : ∀ e ∈ r, EntryY e) : Ret Tryz.prog 17 [.ro (rows Entry.ty.cs r) r.length, .sc (.string n)] (.ro (rows Entry.ty.cs (newestV r n)) (newestV r n).length) [.un, .un] := by
  refine Ret.cool (ret := .own (rows Entry.ty.cs (newestV r n)) (newestV r n).length 6) ?_ (cool_own (shutL_of (rows_all Entry.ty.sh _)))
  obtain ⟨F, hF⟩ : ∃ F : List Entry → List Entry, F = fun l => l.filter fun e => e.name.toList == n.toList := ⟨_, rfl⟩
  have F0 : F [] = [] := by rw [hF]; rfl
  have F1 : ∀ pre x, F (pre ++ [x]) = if x.name.toList = n.toList then F pre ++ [x] else F pre := fun pre x => by rw [hF]; simp only [List.filter_append]; split <;> simp [*]
  have Fl : ∀ l, (F l).length ≤ l.length := fun l => by rw [hF]; exact List.length_filter_le _ _
  have Fi : ∀ l, idfree.idfreeL (rows Entry.ty.cs (F l)) = true := fun l => Entry.ty.frC _
  have Fm : ∀ e ∈ F r, EntryY e := fun e h => hz e (by rw [hF] at h; exact (List.mem_filter.1 h).1)
  have rS := R45 (F r) (by have := Fl r; omega) 46 (fun x y => cmpV y.v x.v) (by kernel_rfl) (fun x hx y hy => R46 x y (Fm x hx).v (Fm y hy).v)
  have hV : sortI (fun x y : Entry => decide (cmpV y.v x.v < 0)) (F r) = newestV r n := by rw [hF]; rfl
  have hVl : (newestV r n).length = (F r).length := by rw [← hV, sortI_len]
  rw [hV] at rS
  have hc1 := Entry.csl (F r)
  have hc2 := Entry.csl (newestV r n)
  have i2 := Entry.ty.frC (newestV r n)
  rw [hVl] at hc2 ⊢
  generalize newestV r n = V at *
  have Mi : ∀ q l, mens q (rows Entry.ty.cs (F l)) = true := fun q l => mens_idf (Fi l)
  clear hF hV Fm
  refine Ret.go Tryz.func17 ?_
  simp (disch := omega) []
  refine T.le (Le.lay 5 50 6 (by simp) (by simp)) ?_
  refine T.forR r (fun _ _ => True) (fun pre _ => [(1, .sc (.string n)), (5, .sl 50 0 (F pre).length 6 false), (8, .ro (rows Entry.ty.cs r) r.length), (9, .sc (.int .i64 r.length)), (10, .sc (.int .i64 pre.length))]) (fun pre _ => [(50, rows Entry.ty.cs (F pre))]) ⟨trivial, Tl.same rfl (by simp [F0]) (by simp [F0, rows])⟩ ?_ ?_
  · intro _
    simp (disch := omega) []
    refine T.on 400 ?_
    simp (disch := omega) []
    refine cI 50 rS ?_ hc1 (by rw [hc1, hc2]) (Fi r)
    simp (disch := omega) [ex1, i2, hc2]
  · intro pre x rest hx hl2 _
    have hxz := hz x (by rw [← hx]; simp)
    have rC := R44 x hxz.v.n hxz.l
    have hd : List.drop (pre.length * 6) (rows Entry.ty.cs r) = .sc (.string x.name) :: .sc (.int .i64 x.v.a) :: .sc (.int .i64 x.v.b) :: .sc (.int .i64 x.v.c) :: .ro (rows Ty.str.cs x.v.pre) x.v.pre.length :: .ro (rows Need.ty.cs x.needs) x.needs.length :: rows Entry.ty.cs rest := by
      have := rows_drop Entry.ty.csn pre (x :: rest)
      rw [hx, rows_cons, Entry.cse] at this
      exact this
    have h3 := Fl pre
    have hcp := Entry.csl (F pre)
    have h1 := F1 pre x
    rw [Entry.cse] at rC
    by_cases h : x.name.toList = n.toList
    · rw [if_pos h] at h1
      have hL := congrArg List.length h1
      rw [List.length_append, List.length_singleton] at hL
      have hi := Fi (pre ++ [x])
      have hrw : rows Entry.ty.cs (F (pre ++ [x])) = rows Entry.ty.cs (F pre) ++ [.sc (.string x.name), .sc (.int .i64 x.v.a), .sc (.int .i64 x.v.b), .sc (.int .i64 x.v.c), .ro (rows Ty.str.cs x.v.pre) x.v.pre.length, .ro (rows Need.ty.cs x.needs) x.needs.length] := by rw [h1, rows_append, rows_one]; rfl
      rw [hrw] at hi
      simp (disch := omega) [hd, h]
      refine cX 900 rC ?_
      simp (disch := omega) [hcp, hL]
      exact Tl.ren [(22, 50)] rfl (by simp [idfree, hrw, hi, hL])
    · rw [if_neg h] at h1
      simp (disch := omega) [hd, h, h1]
      exact Tl.same rfl (by simp (disch := omega) [h1]) (by simp [Mi, h1])
set_option maxRecDepth 100000
def pickO (l : List Pick) (n : ByteArray) : Option Ver := (l.find? (atP n)).map (·.v)
def entryO (r : List Entry) (n : ByteArray) (v : Ver) : Option Entry := r.find? (atE n v)
def metB (needs : List Need) (l : List Pick) : Bool := needs.all fun n => match pickO l n.name with
  | some v => takeB n v
  | none => false
theorem findN {α : Type} {p : α → Bool} {l : List α} (h : ∀ y ∈ l, p y = false) : l.find? p = none := List.find?_eq_none.2 fun y hy => by simp [h y hy]
theorem find_mid {α : Type} {p : α → Bool} {pre rest : List α} {x : α} (h : ∀ y ∈ pre, p y = false) (hx : p x = true) : (pre ++ x :: rest).find? p = some x := by
  rw [List.find?_append, findN h, List.find?_cons_of_pos hx]; rfl
theorem entCells {r pre rest : List Entry} {x : Entry} (hx : pre ++ x :: rest = r) : List.drop (pre.length * 6) (rows Entry.ty.cs r) = .sc (.string x.name) :: .sc (.int .i64 x.v.a) :: .sc (.int .i64 x.v.b) :: .sc (.int .i64 x.v.c) :: .ro (rows Ty.str.cs x.v.pre) x.v.pre.length :: .ro (rows Need.ty.cs x.needs) x.needs.length :: rows Entry.ty.cs rest := by
  have := rows_drop Entry.ty.csn pre (x :: rest)
  rw [hx, rows_cons, Entry.cse] at this
  exact this
theorem pickCells {r pre rest : List Pick} {x : Pick} (hx : pre ++ x :: rest = r) : List.drop (pre.length * 5) (rows Pick.ty.cs r) = .sc (.string x.name) :: .sc (.int .i64 x.v.a) :: .sc (.int .i64 x.v.b) :: .sc (.int .i64 x.v.c) :: .ro (rows Ty.str.cs x.v.pre) x.v.pre.length :: rows Pick.ty.cs rest := by
  have := rows_drop Pick.ty.csn pre (x :: rest)
  rw [hx, rows_cons, Pick.cse] at this
  exact this
theorem pickCells1 {r pre rest : List Pick} {x : Pick} (hx : pre ++ x :: rest = r) : List.drop (pre.length * 5 + 1) (rows Pick.ty.cs r) = .sc (.int .i64 x.v.a) :: .sc (.int .i64 x.v.b) :: .sc (.int .i64 x.v.c) :: .ro (rows Ty.str.cs x.v.pre) x.v.pre.length :: rows Pick.ty.cs rest := by
  rw [← List.drop_drop, pickCells hx]; rfl
theorem W_aggS {M : Nat → Prop} {w : Go.World} {v : Value} {xs ys : List AV} (hs : subC xs ys) (h : W M w (.agg xs) v) : W M w (.agg ys) v := by
  obtain ⟨e1, e2⟩ := subC_get hs
  cases h with
  | agg _ us h1 ho h =>
    refine .agg ys us (by omega) ho fun j y u hy hu => ?_
    obtain ⟨x, hx, hxy⟩ := e2 j y hy
    exact W_sub1 hxy (h j x u hx hu)
theorem W_tup1 {M : Nat → Prop} {w : Go.World} {v : Value} {x y : AV} {l : List AV} (hs : ∀ v, W M w x v → W M w y v) (h : W M w (.tup (x :: l)) v) : W M w (.tup (y :: l)) v := by
  cases h with
  | tup _ us h1 h =>
    refine .tup _ us h1 fun j z u hz hu => ?_
    cases j with
    | zero =>
      cases hz
      exact hs u (h 0 x u rfl hu)
    | succ j => exact h (j + 1) z u hz hu
theorem cool_ent {k : Nat} {n : ByteArray} {a b c : Int} {ps cs : List AV} {m len sz : Nat} (h : shut.shutL cs = true) : roc noH (k + 2) (.agg [.sc (.string n), .sc (.int .i64 a), .sc (.int .i64 b), .sc (.int .i64 c), .ro ps m, .own cs len sz]) = some (.agg [.sc (.string n), .sc (.int .i64 a), .sc (.int .i64 b), .sc (.int .i64 c), .ro ps m, .ro cs len]) := by
  rw [roc_ag (by simp [shut, shut.shutL])]
  simp only [List.mapM_cons, List.mapM_nil, cool_own h]
  rfl
theorem cool_tup {x y z : AV} (h : roc noH 8 x = some y) (hz : shut z = true) : coolT (.tup [x, z]) = some (.tup [y, z]) := by
  unfold coolT
  simp only [List.mapM_cons, List.mapM_nil, h, roc_sh hz]
  rfl
theorem needCells {r pre rest : List Need} {x : Need} (hx : pre ++ x :: rest = r) : List.drop (pre.length * 2) (rows Need.ty.cs r) = .sc (.string x.name) :: .sc (.string x.range) :: rows Need.ty.cs rest := by
  have := rows_drop Need.ty.csn pre (x :: rest)
  rw [hx, rows_cons, Need.cse] at this
  exact this
theorem R90 (e : Entry) (hv : e.v.pre.length ≤ 1048577) (hn : e.needs.length ≤ 1048577) : Ret Tryz.prog 90 [.agg (Entry.ty.cs e)] (.agg (Entry.ty.cs e)) [.un] := by
  have rC := (R36 e.v hv).cool (ret' := .agg (Ver.ty.cs e.v)) (cool_ver (strShut _))
  refine Ret.cool (ret := .agg [.sc (.string e.name), .sc (.int .i64 e.v.a), .sc (.int .i64 e.v.b), .sc (.int .i64 e.v.c), .ro (rows Ty.str.cs e.v.pre) e.v.pre.length, .own (rows Need.ty.cs e.needs) e.needs.length 2]) ?_ ?_
  · rw [Ver.cse] at rC
    rw [Entry.cse]
    have hcl := Need.csl e.needs
    have hid := Need.ty.frC e.needs
    obtain ⟨na, ⟨a, b, c, p⟩, ns⟩ := e
    simp only at *
    have hpl : plain.plainL (rows Need.ty.cs ns) = true := Need.ty.plC ns
    generalize rows Need.ty.cs ns = N at *
    refine Ret.go Tryz.func90 ?_
    simp (disch := omega) []
    refine T.textE [(5, [8]), (8, [8, 11]), (10, [2])] ?_ mixed
    simp (disch := omega) [merge_nil, hideH_nil, hcl, hid, hpl]
    refine cWX 900 rC ?_
    simp (disch := omega) [merge_nil, hideH_nil, hcl, hid, hpl, ex1]
  · exact cool_ent (needShut _)
theorem R12 (l : List Pick) (n : ByteArray) (hl : l.length ≤ 1048577) (hz : ∀ p ∈ l, p.v.pre.length ≤ 1048577) : Ret Tryz.prog 12 [.ro (rows Pick.ty.cs l) l.length, .sc (.string n)] (.tup [.agg (Ver.ty.cs ((pickO l n).getD ver0)), .sc (.bool (pickO l n).isSome)]) [.un, .un] := by
  have rW : ∀ ret', (pickO l n = none → ret' = .tup [.agg [.sc (.int .i64 0), .sc (.int .i64 0), .sc (.int .i64 0), .em], .sc (.bool false)]) → (∀ v, pickO l n = some v → ret' = .tup [.agg (Ver.ty.cs v), .sc (.bool true)]) → Ret Tryz.prog 12 [.ro (rows Pick.ty.cs l) l.length, .sc (.string n)] ret' [.un, .un] := by
    intro ret' h1 h2
    refine Ret.go Tryz.func12 ?_
    simp (disch := omega) []
    refine T.forL l (fun pre _ => ∀ y ∈ pre, atP n y = false) (fun pre _ => [(0, .ro (rows Pick.ty.cs l) l.length), (1, .sc (.string n)), (4, .ref 4 0), (6, .sc (.int .i64 pre.length))]) (fun _ _ => [(4, [.sc (.int .i64 0), .sc (.int .i64 0), .sc (.int .i64 0), .em])]) (by simp) ?_ ?_
    · intro hJ
      rw [h1 (by rw [pickO, findN hJ]; rfl)]
      simp (disch := omega) []
      refine T.on 400 ?_
      simp (disch := omega) []
    · intro pre x rest hx hl2 hJ
      have hd := pickCells hx
      have hd1 := pickCells1 hx
      have rC := (R36 x.v (hz x (by rw [← hx]; simp))).cool (ret' := .agg (Ver.ty.cs x.v)) (cool_ver (strShut _))
      rw [Ver.cse] at rC
      by_cases h : x.name.toList = n.toList
      · rw [h2 x.v (by rw [pickO, ← hx, find_mid hJ (by unfold atP; simp [h])]; rfl), Ver.cse]
        simp (disch := omega) [hd, hd1, h]
        refine cX 900 rC ?_
        simp (disch := omega) [ex1]
      · simp (disch := omega) [hd, h]
        intro y hy
        rcases hy with hy | rfl
        · exact hJ y hy
        · simp [atP, h]
  cases h : pickO l n with
  | none =>
    refine Ret.weakW (rW _ (fun _ => rfl) (fun v e => by rw [h] at e; cases e)) (r1 := .tup [.agg [.sc (.int .i64 0), .sc (.int .i64 0), .sc (.int .i64 0), .em], .sc (.bool false)]) rfl fun M w v hv => W_tup1 (fun v h => W_aggS (by simp [subC, sub1, ver0, Ver.cse, rows]) h) hv
  | some v => exact rW _ (fun e => by rw [h] at e; cases e) (fun u e => by rw [h] at e; cases e; rfl)
set_option maxRecDepth 100000
def met1 (l : List Pick) (n : Need) : Bool := match pickO l n.name with
  | some v => takeB n v
  | none => false
theorem met1_some {l : List Pick} {n : Need} {v : Ver} (h : pickO l n.name = some v) : met1 l n = takeB n v := by unfold met1; rw [h]
theorem met1_none {l : List Pick} {n : Need} (h : pickO l n.name = none) : met1 l n = false := by unfold met1; rw [h]
theorem metB_eq (needs : List Need) (l : List Pick) : metB needs l = needs.all (met1 l) := rfl
theorem pickO_none {l : List Pick} {n : ByteArray} (h : ∀ y ∈ l, atP n y = false) : pickO l n = none := by rw [pickO, findN h]; rfl
theorem pickO_mid {pre rest : List Pick} {p : Pick} {n : ByteArray} (h : ∀ y ∈ pre, atP n y = false) (hp : atP n p = true) : pickO (pre ++ p :: rest) n = some p.v := by rw [pickO, find_mid h hp]; rfl
set_option maxRecDepth 100000
def okP (r : List Entry) (l : List Pick) (p : Pick) : Bool := match entryO r p.name p.v with
  | some e => metB e.needs l
  | none => false
def noName (pre : List Pick) (n : ByteArray) : Bool := pre.all fun q => !atP n q
def stepSo (r : List Entry) (l pre : List Pick) (p : Pick) : Bool := okP r l p && noName pre p.name
def solvesL (r : List Entry) (l : List Pick) : List Pick → List Pick → Bool
  | _, [] => true
  | pre, p :: rest => stepSo r l pre p && solvesL r l (pre ++ [p]) rest
def solvesB (r : List Entry) (needs : List Need) (l : List Pick) : Bool := metB needs l && solvesL r l [] l
theorem solvesL_yes {r : List Entry} {l pre rest : List Pick} {p : Pick} (h : stepSo r l pre p = true) : solvesL r l pre (p :: rest) = solvesL r l (pre ++ [p]) rest := by rw [solvesL, h]; rfl
theorem okP_some {r : List Entry} {l : List Pick} {p : Pick} {e : Entry} (h : entryO r p.name p.v = some e) : okP r l p = metB e.needs l := by unfold okP; rw [h]
theorem okP_none {r : List Entry} {l : List Pick} {p : Pick} (h : entryO r p.name p.v = none) : okP r l p = false := by unfold okP; rw [h]
theorem noName_f {pre : List Pick} {n : ByteArray} {q : Pick} (hq : q ∈ pre) (h : atP n q = true) : noName pre n = false := by
  cases hb : noName pre n
  · rfl
  · have := List.all_eq_true.1 hb q hq
    rw [h] at this
    cases this
set_option maxRecDepth 100000
def lenT (n : Nat) : Int := ([0, 1, 2, 2, 3, 3, 3, 3, 4, 4, 4, 4, 4].getD n 0 : Nat)
theorem to12 {n : Nat} (h : n ≤ 12) : n = 0 ∨ n = 1 ∨ n = 2 ∨ n = 3 ∨ n = 4 ∨ n = 5 ∨ n = 6 ∨ n = 7 ∨ n = 8 ∨ n = 9 ∨ n = 10 ∨ n = 11 ∨ n = 12 := by omega
theorem wrap12 {n : Nat} (h : n ≤ 12) : IntKind.u64.wrap n = n := by
  rcases to12 h with rfl | rfl | rfl | rfl | rfl | rfl | rfl | rfl | rfl | rfl | rfl | rfl | rfl <;> rfl
theorem R112n (n : Nat) (h : n ≤ 12) : Ret Tryz.prog 112 [.sc (.int .u64 n)] (.sc (.int .i64 (lenT n))) [.un] := by
  rcases to12 h with rfl | rfl | rfl | rfl | rfl | rfl | rfl | rfl | rfl | rfl | rfl | rfl | rfl
  all_goals
    refine Ret.go Tryz.func112 ?_
    simp (disch := omega) [lenT, show IntKind.u8.wrap 0 = 0 from rfl, show IntKind.u8.wrap 1 = 1 from rfl, show IntKind.u8.wrap 2 = 2 from rfl, show IntKind.u8.wrap 3 = 3 from rfl, show IntKind.u8.wrap 4 = 4 from rfl, show IntKind.u8.wrap 5 = 5 from rfl, show IntKind.u8.wrap 6 = 6 from rfl, show IntKind.u8.wrap 7 = 7 from rfl, show IntKind.u8.wrap 8 = 8 from rfl, show IntKind.u8.wrap 9 = 9 from rfl, show IntKind.u8.wrap 10 = 10 from rfl, show IntKind.u8.wrap 11 = 11 from rfl, show IntKind.u8.wrap 12 = 12 from rfl]
theorem R68n (n : Nat) (h : n ≤ 12) : Ret Tryz.prog 68 [.sc (.int .u64 n)] (.sc (.int .i64 (lenT n))) [.un] := by
  refine Ret.go Tryz.func68 ?_
  simp (disch := omega) []
  refine cX 900 (R112n n h) ?_
  simp (disch := omega) []
theorem R67 (l : List Pick) (hl : l.length ≤ 12) (k : Int) (g : FuncId) (c : Pick → Pick → Int) (hg : callB Tryz.prog g = true) (hR : ∀ x ∈ l, ∀ y ∈ l, Ret Tryz.prog g [.agg (Pick.ty.cs x), .agg (Pick.ty.cs y)] (.sc (.int .i64 (c x y))) [.un, .un]) :
    IRet Tryz.prog 67 (rows Pick.ty.cs l) l.length 5 [.sc (.int .i64 0), .sc (.int .i64 l.length), .sc (.int .i64 k), .clo g []] (rows Pick.ty.cs (sortI (fun x y => decide (c x y < 0)) l)) := by
  have rI := R103 l (by omega) g c hg hR
  have h1 := Pick.csl l
  have h2 := Pick.csl (sortI (fun x y => decide (c x y < 0)) l)
  rw [sortI_len] at h2
  have i1 := Pick.ty.frC l
  have i2 := Pick.ty.frC (sortI (fun x y => decide (c x y < 0)) l)
  generalize rows Pick.ty.cs (sortI (fun x y => decide (c x y < 0)) l) = D at *
  generalize rows Pick.ty.cs l = C at *
  generalize l.length = n at *
  have Mc : ∀ q, menQ q (.clo g []) = true := fun _ => rfl
  constructor
  · intro h0
    refine Ret.go Tryz.func67 ?_
    simp (disch := omega) []
    refine T.forI (fun _ : Unit => 0) (fun _ => True) (fun _ => [(0, .sl 100000 0 n 5 false), (1, .sc (.int .i64 0)), (2, .sc (.int .i64 n)), (4, .clo g [])]) (fun _ => [(100000, C)]) () ⟨trivial, Tl.same rfl (by simp (disch := omega) [Mc]) (by simp [mens_idf i1])⟩ ?_
    rintro _ _
    simp (disch := omega) []
    refine cI 100000 rI ?_ h1 (by rw [h1, h2]) i1
    simp (disch := omega) [ex1, i2, h2, ioPos1]
  · rintro rfl
    have r0 := rI.2 rfl
    refine Ret.go Tryz.func67 ?_
    simp (disch := omega) []
    refine T.forI (fun _ : Unit => 0) (fun _ => True) (fun _ => [(0, .ro [] 0), (1, .sc (.int .i64 0)), (2, .sc (.int .i64 0)), (4, .clo g [])]) (fun _ => []) () ⟨trivial, Tl.same rfl (by simp (disch := omega) [Mc]) (by simp)⟩ ?_
    rintro _ _
    simp (disch := omega) []
    refine cX 900 r0 ?_
    simp (disch := omega) [ex1, ioPos1]
theorem R29 (l : List Pick) (hl : l.length ≤ 12) (g : FuncId) (c : Pick → Pick → Int) (hg : callB Tryz.prog g = true) (hR : ∀ x ∈ l, ∀ y ∈ l, Ret Tryz.prog g [.agg (Pick.ty.cs x), .agg (Pick.ty.cs y)] (.sc (.int .i64 (c x y))) [.un, .un]) :
    IRet Tryz.prog 29 (rows Pick.ty.cs l) l.length 5 [.clo g []] (rows Pick.ty.cs (sortI (fun x y => decide (c x y < 0)) l)) := by
  have rI := R67 l hl (lenT l.length) g c hg hR
  have rB := R68n l.length hl
  have hw := wrap12 hl
  have h1 := Pick.csl l
  have h2 := Pick.csl (sortI (fun x y => decide (c x y < 0)) l)
  rw [sortI_len] at h2
  have i1 := Pick.ty.frC l
  have i2 := Pick.ty.frC (sortI (fun x y => decide (c x y < 0)) l)
  generalize rows Pick.ty.cs (sortI (fun x y => decide (c x y < 0)) l) = D at *
  generalize rows Pick.ty.cs l = C at *
  generalize l.length = n at *
  constructor
  · intro h0
    refine Ret.go Tryz.func29 ?_
    simp (disch := omega) [hw]
    refine cX 900 rB ?_
    simp (disch := omega) []
    refine cI 100000 rI ?_ h1 (by rw [h1, h2]) i1
    simp (disch := omega) [ex1, i2, h2, ioPos1]
  · rintro rfl
    have r0 := rI.2 rfl
    refine Ret.go Tryz.func29 ?_
    simp (disch := omega) [show IntKind.u64.wrap 0 = 0 from rfl]
    refine cX 900 rB ?_
    simp (disch := omega) []
    refine cX 900 r0 ?_
    simp (disch := omega) [ex1, ioPos1]
theorem R30 (x y : Pick) : Ret Tryz.prog 30 [.agg (Pick.ty.cs x), .agg (Pick.ty.cs y)] (.sc (.int .i64 (cmpS x.name y.name))) [.un, .un] := by
  have rC := R31 x.name y.name
  rw [Pick.cse, Pick.cse]
  generalize cmpS x.name y.name = k at *
  obtain ⟨xn, ⟨xa, xb, xc, xp⟩⟩ := x
  obtain ⟨yn, ⟨ya, yb, yc, yp⟩⟩ := y
  simp only at *
  refine Ret.go Tryz.func30 ?_
  simp (disch := omega) []
  refine cX 900 rC ?_
  simp (disch := omega) []
theorem R100 (xs : List Pick) (hb : xs.length ≤ 1048577) : Ret Tryz.prog 100 [.ro (rows Pick.ty.cs xs) xs.length] (.own (rows Pick.ty.cs xs) xs.length 5) [.un] := by
  have hcl := Pick.csl xs
  have hid := Pick.ty.frC xs
  have hpl : plain.plainL (rows Pick.ty.cs xs) = true := Pick.ty.plC xs
  by_cases h0 : xs.length = 0
  · have : xs = [] := List.length_eq_zero_iff.1 h0
    subst this
    refine Ret.go Tryz.func100 ?_
    simp (disch := omega) [ex1, rows_nil, idfree.idfreeL]
  · have h1 : 0 < xs.length := by omega
    refine Ret.go Tryz.func100 ?_
    simp (disch := omega) [h0, ex1, hcl, hid, hpl]
set_option maxRecDepth 100000
theorem Le.layP {ρ : Nat → AV} {h : Nat → Option (Option (List AV))} {n : Nat} (t b sz : Nat) (h1 : ρ t = .em) (h2 : h b = none) : Le ⟨ρ, h, n⟩ ⟨upd ρ t (.pf b 0 0 0 sz), upd h b (some (some [])), n⟩ := by
  rintro E tm w ⟨φ, M, L, I⟩
  have hne : ∀ b' cs, b' ≠ b → upd h b (some (some [])) b' = some (some cs) → h b' = some (some cs) := fun b' cs e k => by rwa [upd_ne _ _ e] at k
  refine ⟨φ, M, upd L b [], I.size, fun t' => ?_, fun b' cs hb => ?_, fun b' hb => ?_, fun b' cs hb => ?_, fun b1 b2 c1 c2 hd k1 k2 g hg => ?_, fun b' cs hb g hg => ?_, fun b' cs hb g hg => ?_, I.bound, I.m0, I.m1, fun b' cs hb g hg => ?_, I.os, I.tape, I.output, I.grown, I.frame, I.keep⟩
  · by_cases e : t' = t
    · subst e
      show V φ M w (upd ρ t' _ t') _ []
      rw [upd_same]
      have := I.env t'
      rw [show (St.mk ρ h n).ρ t' = .em from h1] at this
      obtain ⟨A, e⟩ := vem this
      rw [e]
      exact .pfz _ _ _ _
    · show V φ M w (upd ρ t _ t') _ []
      rw [upd_ne _ _ e]; exact I.env t'
  · by_cases e : b' = b
    · subst e
      have : cs = [] := by
        have hb' : upd h b' (some (some [])) b' = some (some cs) := hb
        rw [upd_same] at hb'; cases hb'; rfl
      subst this
      exact .inl ⟨rfl, I.fresh b' h2, upd_same _ _ _⟩
    · rw [upd_ne _ _ e]; exact I.root b' cs (hne b' cs e hb)
  · by_cases e : b' = b
    · subst e; exact I.fresh b' h2
    · have hb' : upd h b (some (some [])) b' = none := hb
      rw [upd_ne _ _ e] at hb'; exact I.fresh b' hb'
  · by_cases e : b' = b
    · subst e; rw [upd_same]; simp
    · rw [upd_ne _ _ e]; exact I.nodup b' cs (hne b' cs e hb)
  · by_cases e : b1 = b
    · subst e; rw [upd_same] at hg; simp at hg
    · rw [upd_ne _ _ e] at hg
      by_cases e' : b2 = b
      · subst e'; rw [upd_same]; simp
      · rw [upd_ne _ _ e']; exact I.disj b1 b2 c1 c2 hd (hne b1 c1 e k1) (hne b2 c2 e' k2) g hg
  · by_cases e : b' = b
    · subst e; rw [upd_same] at hg; simp at hg
    · rw [upd_ne _ _ e] at hg; exact I.notM b' cs (hne b' cs e hb) g hg
  · by_cases e : b' = b
    · subst e; rw [upd_same] at hg; simp at hg
    · rw [upd_ne _ _ e] at hg; exact I.low b' cs (hne b' cs e hb) g hg
  · by_cases e : b' = b
    · subst e; rw [upd_same] at hg; simp at hg
    · rw [upd_ne _ _ e] at hg; exact I.own b' cs (hne b' cs e hb) g hg
theorem Ret.goT {P : Program} {f : FuncId} {fn : Func} {c : AC} {n : Nat} {args ys : List AV} {ρ1 ρ2 : Nat → AV} {h1 : Nat → Option (Option (List AV))} {rs : List QOp} {ret : AV} {outs : List AV} {m : Nat} (hf : P.funcs[f]? = some fn)
    (h : T P (pinsOf args 0) c ⟨ρ2, h1, n⟩ (leR (endR args ret outs rs))) (hc : Cd P fn = (some c, n, some rs) := by conv => lhs; cbv)
    (hl : args.length ≤ n := by simp) (hent : entL 100000 args ⟨fun _ => .un, h0, n⟩ = some (ys, ⟨ρ1, h1, m⟩) := by rfl) (hρ : iniρ ys 0 = ρ2 := by rfl) : Ret P f args ret outs := by
  unfold Cd at hc
  simp only [Prod.mk.injEq] at hc
  exact Ret.runT hf hc hl hent hρ h
theorem R138 (n : Nat) (hn : n ≤ 4194304) : Ret Tryz.prog 138 [.em, .sc (.int .i64 n)] (.own [] 0 2) [.un, .un] := by
  refine Ret.goT Tryz.func138 ?_
  refine T.le (Le.layP 0 50 2 (by rfl) (by rfl)) ?_
  by_cases h0 : n = 0
  · subst h0
    refine run_ok (n := 1000) ?_
    simp (disch := omega) [ex1, leR_app]
    refine ⟨_, Le.unpf (b := 50) (off := 0) (len := 0) (cap := 0) (sz := 2) 4 (by simp), ?_⟩
    simp [ex1, idfree.idfreeL]
  · have h1 : 0 < n := by omega
    refine run_ok (n := 1000) ?_
    simp (disch := omega) [h0, ex1, leR_app]
    refine ⟨_, Le.trim 22 0 (by simp; rfl), ?_⟩
    simp [ex1, idfree.idfreeL]
set_option maxHeartbeats 1000000 in
theorem R101 (xs ys : List Need) (h1 : xs.length ≤ 2097152) (h2 : ys.length ≤ 1048577) : Ret Tryz.prog 101 [.ro [.ro (rows Need.ty.cs xs) xs.length, .ro (rows Need.ty.cs ys) ys.length] 2] (.ro (rows Need.ty.cs (xs ++ ys)) (xs ++ ys).length) [.un] := by
  refine Ret.cool (ret := .own (rows Need.ty.cs (xs ++ ys)) (xs ++ ys).length 2) ?_ (cool_own (shutL_of (rows_all Need.ty.sh _)))
  have rG := R138 (xs.length + ys.length) (by omega)
  have c1 := Need.csl xs
  have c2 := Need.csl ys
  have i1 := Need.ty.frC xs
  have i2 := Need.ty.frC (xs ++ ys)
  have p1 : plain.plainL (rows Need.ty.cs xs) = true := Need.ty.plC xs
  have p2 : plain.plainL (rows Need.ty.cs ys) = true := Need.ty.plC ys
  rw [List.length_append]
  rw [rows_append] at *
  generalize rows Need.ty.cs xs = X at *
  generalize rows Need.ty.cs ys = Y at *
  generalize xs.length = m at *
  generalize ys.length = n at *
  refine Ret.go Tryz.func101 ?_
  simp (disch := omega) []
  refine T.loopN 4 (rdN_go ?_)
  refine run_ok (n := 1000) ?_
  simp (disch := omega) []
  refine rdN_go (run_ok (n := 1000) ?_)
  simp (disch := omega) []
  refine rdN_go (run_ok (n := 1000) ?_)
  simp (disch := omega) []
  refine T.on 1000 ?_
  simp (disch := omega) []
  refine cX 900 rG ?_
  simp (disch := omega) []
  refine T.loopN 4 (rdN_go ?_)
  refine run_ok (n := 1000) ?_
  simp (disch := omega) [p1, p2, c1, c2]
  refine rdN_go (T.le (Tl.ren (ts := [(25, .ro [.ro X m, .ro Y n] 2), (26, .sc (.int .i64 2)), (27, .sc (.int .i64 1)), (6, .sl 60 0 m 2 false)]) (bs := [(60, X)]) [(33, 60)] rfl (by simp [i1, idfree])) (run_ok (n := 1000) ?_))
  simp (disch := omega) [p1, p2, c1, c2]
  refine rdN_go (run_ok (n := 1000) ?_)
  simp (disch := omega) []
  refine T.on 1000 ?_
  simp (disch := omega) [ex1, i2, c1, c2, show m * 2 + n * 2 = (m + n) * 2 by omega]
set_option maxRecDepth 100000
def ltP (x y : Pick) : Bool := bL x.name y.name
def pickP (l : List Pick) (p : Pick) : List Pick := insE ltP l p
theorem cmpS_ltP (x y : Pick) : decide (cmpS x.name y.name < 0) = ltP x y := by
  cases h : ltP x y
  · exact decide_eq_false fun h2 => by rw [ltP, (cmpS_lt _ _).1 h2] at h; cases h
  · exact decide_eq_true ((cmpS_lt _ _).2 h)
theorem gtr_bL (a b : ByteArray) : (Op.bytesLess b.toList a.toList = false ∧ ¬ b.toList = a.toList) = (bL a b = true) := by
  have h := leq_bL b a
  refine propext ⟨fun ⟨h1, h2⟩ => ?_, fun h1 => ?_⟩
  · rw [h1, beq_eq_false_iff_ne.2 h2] at h
    cases hb : bL a b
    · rw [hb] at h; cases h
    · rfl
  · rw [h1] at h
    cases h3 : Op.bytesLess b.toList a.toList
    · rw [h3] at h
      exact ⟨rfl, fun e => by rw [beq_iff_eq.2 e] at h; cases h⟩
    · rw [h3] at h; cases h
set_option maxHeartbeats 4000000 in
theorem R70 (l : List Pick) (x : Pick) (hl : l.length ≤ 1048576) : Ret Tryz.prog 70 [.ro (rows Pick.ty.cs l) l.length, .agg (Pick.ty.cs x)] (.ro (rows Pick.ty.cs (pickP l x)) (pickP l x).length) [.un, .un] := by
  refine Ret.cool (ret := .own (rows Pick.ty.cs (pickP l x)) (pickP l x).length 5) ?_ (cool_own (shutL_of (rows_all Pick.ty.sh _)))
  have hpl : (pickP l x).length = l.length + 1 := (insE_perm _ l x).length_eq
  have hE : pickP l x = insQ ltP x l.reverse [] := rfl
  rw [hpl]
  have hB0 : ∀ B, insQ ltP x [] B = x :: B := fun _ => rfl
  have hB1 : ∀ y A B, bL x.name y.name = true → insQ ltP x (y :: A) B = insQ ltP x A (y :: B) := fun y A B h => by rw [insQ, if_pos (show ltP x y = true from h)]
  have hB2 : ∀ y A B, bL x.name y.name = false → insQ ltP x (y :: A) B = (y :: A).reverse ++ x :: B := fun y A B h => by rw [insQ, if_neg (by unfold ltP; rw [h]; decide)]
  generalize pickP l x = tg at *
  generalize insQ ltP x = iB at *
  have fr : ∀ l : List Pick, idfree.idfreeL (rows Pick.ty.cs l) = true := fun l => Pick.ty.frC l
  have Mi : ∀ q (l : List Pick), mens q (rows Pick.ty.cs l) = true := fun q l => mens_idf (fr l)
  have hpl1 : plain.plainL (rows Pick.ty.cs l) = true := Pick.ty.plC l
  have hcl := Pick.csl l
  have hrx : rows Pick.ty.cs (l ++ [x]) = rows Pick.ty.cs l ++ [.sc (.string x.name), .sc (.int .i64 x.v.a), .sc (.int .i64 x.v.b), .sc (.int .i64 x.v.c), .ro (rows Ty.str.cs x.v.pre) x.v.pre.length] := by rw [rows_append, rows_one]; rfl
  have hrl := Pick.csl (l ++ [x])
  rw [hrx] at hrl
  rw [Pick.cse]
  refine Ret.go Tryz.func70 ?_
  simp (disch := omega) []
  refine T.textE [(0, [7]), (2, [7, 9]), (4, [11]), (5, [9, 12])] ?_ mixed
  simp (disch := omega) [merge_nil, hideH_nil, hpl1, hcl]
  have z2 : IntKind.i64.wrap ((l.length : Int) + 1 - 1) = l.length := by rw [show (l.length : Int) + 1 - 1 = l.length by omega]; exact wrap_i64 (by omega) (by omega)
  refine T.forI (fun i : List Pick × Pick × List Pick => i.1.length) (fun i => iB i.1 i.2.2 = tg ∧ i.1.length + i.2.2.length = l.length) (fun i => [(3, .ref 3 0), (5, .sl 12 0 (l.length + 1) 5 false), (6, .sc (.int .i64 i.1.length))]) (fun i => [(3, [.sc (.string x.name), .sc (.int .i64 x.v.a), .sc (.int .i64 x.v.b), .sc (.int .i64 x.v.c), .ro (rows Ty.str.cs x.v.pre) x.v.pre.length]), (12, rows Pick.ty.cs (i.1.reverse ++ i.2.1 :: i.2.2))]) (l.reverse, x, []) ⟨⟨hE.symm, by simp⟩, Tl.same rfl (by simp (disch := omega) [z2]) (by simp [← hrx, Mi])⟩ ?_
  rintro ⟨A, z, B⟩ ⟨hA, hab⟩
  simp only at hA hab ⊢
  have hOx : over (rows Pick.ty.cs (A.reverse ++ z :: B)) (A.length * 5) [.sc (.string x.name), .sc (.int .i64 x.v.a), .sc (.int .i64 x.v.b), .sc (.int .i64 x.v.c), .ro (rows Ty.str.cs x.v.pre) x.v.pre.length] = rows Pick.ty.cs (A.reverse ++ x :: B) := by
    have := over_rows Pick.ty A.reverse B x z
    rw [Pick.cse, List.length_reverse] at this
    exact this
  have hc0 : (rows Pick.ty.cs (A.reverse ++ z :: B)).length = (l.length + 1) * 5 := by
    rw [Pick.csl]
    congr 1
    simp only [List.length_append, List.length_reverse, List.length_cons]
    omega
  have hc1 : (rows Pick.ty.cs (A.reverse ++ x :: B)).length = (l.length + 1) * 5 := by
    rw [Pick.csl]
    congr 1
    simp only [List.length_append, List.length_reverse, List.length_cons]
    omega
  have y1 : A.length * 5 + 5 ≤ (l.length + 1) * 5 := by omega
  cases A with
  | nil =>
    rw [hB0] at hA
    subst hA
    simp only [List.reverse_nil, List.nil_append, List.length_nil, Nat.zero_mul] at hOx hc0 hc1 y1 ⊢
    generalize hR0 : rows Pick.ty.cs (z :: B) = R0 at *
    simp (disch := omega) [hR0]
    refine T.textE [] ?_ mixed
    simp (disch := omega) [merge_nil, hideH_nil]
    refine T.on 400 ?_
    simp (disch := omega) [-over, hOx, hc0, hc1, ex1, fr]
  | cons y A =>
    have hlA : A.length + 1 ≤ l.length := by rw [← hab]; simp
    have hd2 : List.drop (A.length * 5) (rows Pick.ty.cs ((y :: A).reverse ++ z :: B)) = .sc (.string y.name) :: .sc (.int .i64 y.v.a) :: .sc (.int .i64 y.v.b) :: .sc (.int .i64 y.v.c) :: .ro (rows Ty.str.cs y.v.pre) y.v.pre.length :: rows Pick.ty.cs (z :: B) := by
      have := pickCells (r := (y :: A).reverse ++ z :: B) (pre := A.reverse) (x := y) (rest := z :: B) (by simp)
      rw [List.length_reverse] at this
      exact this
    have hOy : over (rows Pick.ty.cs ((y :: A).reverse ++ z :: B)) ((A.length + 1) * 5) [.sc (.string y.name), .sc (.int .i64 y.v.a), .sc (.int .i64 y.v.b), .sc (.int .i64 y.v.c), .ro (rows Ty.str.cs y.v.pre) y.v.pre.length] = rows Pick.ty.cs (A.reverse ++ y :: y :: B) := by
      have := over_rows Pick.ty (y :: A).reverse B y z
      rw [Pick.cse, List.length_reverse, show (y :: A).reverse ++ y :: B = A.reverse ++ y :: y :: B by simp] at this
      exact this
    have hbl := gtr_bL x.name y.name
    rw [List.length_cons] at hOx y1
    have z3 : (A.length : Int) < (l.length : Int) + 1 := by omega
    have z4 : (A.length : Int) + 1 < (l.length : Int) + 1 := by omega
    generalize hR0 : rows Pick.ty.cs ((y :: A).reverse ++ z :: B) = R0 at *
    simp (disch := omega) [-List.reverse_cons, hR0]
    refine T.textE [] ?_ mixed
    cases hb : bL x.name y.name
    · rw [hB2 y A B hb] at hA
      subst hA
      simp (disch := omega) [-List.reverse_cons, hbl, hb, hd2, hc0, y1, z3, z4, merge_nil, hideH_nil]
      refine T.on 400 ?_
      simp (disch := omega) [-List.reverse_cons, -over, hOx, hc0, hc1, y1, z3, z4, ex1, fr]
    · rw [hB1 y A B hb] at hA
      simp (disch := omega) [-List.reverse_cons, -over, hbl, hb, hd2, hOy, hc0, y1, z3, z4, merge_nil, hideH_nil]
      exact Ri_mk (A, y, y :: B) (by simp) ⟨hA, by simp at hab ⊢; omega⟩ (Tl.same rfl (by simp (disch := omega) []) (by simp [Mi]))
set_option maxRecDepth 100000
section
variable {P : Program} {p : List Nat} {fx a l n : AX} {ax : List AX} {dst : Option Nat} {st st3 : St} {K : St → Prop} {f : FuncId} {b b2 len sz : Nat} {cs cs' cs2 vs : List AV} {v ret y : AV} {E A : List Nat}
theorem cP (d : Nat) {b : Nat} (hR : Ret P f (.bx cs :: vs) ret (.bx cs' :: vs.map fun _ => .un)) (hK : K (st3.setO dst y)) (ha : a.ev st.ρ = .ref b 0 := by simp <;> rfl) (hb : st.h b = some (some cs) := by simp) (hid : idfree.idfreeL cs = true := by rfl) (hl : cs'.length = cs.length := by rfl) (has : ax.map (·.ev st.ρ) = vs := by simp)
    (hvs : ∀ v ∈ vs, shut v = true := by simp [shut]) (hi : inst 64 d ret (st.put b (some cs')) = some (y, st3) := by rfl) (hf : fx.ev st.ρ = .clo f [] := by rfl) (hc : callB P f = true := by kernel_rfl) (hd : dOk p dst st3.n = true := by rfl) : callK P p fx (a :: ax) dst st K :=
  callK.bx d hf hc ha hb hid has hvs hR hl hi hd hK
theorem cYW (d : Nat) {caps ys : List AV} (hR : Ret P f ys ret (ys.map fun _ => .un)) (hK : K ((⟨st.ρ, merge A st.h st3.h, st.n⟩ : St).setO dst y)) (hf : fx.ev st.ρ = .clo f caps := by rfl) (hc : callB P f = true := by kernel_rfl)
    (hys : ax.map (·.ev st.ρ) ++ caps = ys := by simp [mk_bs]) (hsh : shut.shutL ys = true := by rfl) (hi : inst 64 d ret ⟨st.ρ, hideH A st.h, st.n⟩ = some (y, st3) := by rfl) (hE : (instB 64 d ret).all (fun b => E.elem b) = true := by rfl) : callWK P fx ax dst (E, A) st K := by
  obtain ⟨h1, h2, h3, h4, h5, h6, h7, h8⟩ := ros ys (shutL_mem hsh)
  have hlen : ys.length = ax.length + caps.length := by rw [← hys]; simp
  refine callWK.cut (ys.map fun _ => Md.ro) d (fl := (ys.map fun _ => Md.ro).zip ys) (r := ys.map fun _ => (none, none)) (st1 := ⟨st.ρ, hideH A st.h, st.n⟩) (yl := ys) (ys := ys) (ol := ys.map fun _ => .un) (st2 := ⟨st.ρ, hideH A st.h, st.n⟩) hf hc (by simp [hlen]) ?_ (h2 _) h3 (h4 _) h5 hR h6 (h7 _) hi (by rw [h8, List.nil_append]; exact hE) hK
  rw [hys]
  exact h1
theorem cPW (d : Nat) {b : Nat} (hR : Ret P f (.bx cs :: vs) ret (.bx cs' :: vs.map fun _ => .un)) (hK : K ((⟨st.ρ, merge A st.h st3.h, st.n⟩ : St).setO dst y)) (ha : a.ev st.ρ = .ref b 0 := by simp <;> rfl) (hb : hideH A st.h b = some (some cs) := by simp) (hid : idfree.idfreeL cs = true := by rfl) (hl : cs'.length = cs.length := by rfl) (has : ax.map (·.ev st.ρ) = vs := by simp)
    (hvs : ∀ v ∈ vs, shut v = true := by simp [shut]) (hi : inst 64 d ret ((⟨st.ρ, hideH A st.h, st.n⟩ : St).put b (some cs')) = some (y, st3) := by rfl) (hf : fx.ev st.ρ = .clo f [] := by rfl) (hc : callB P f = true := by kernel_rfl) (hE : (b :: instB 64 d ret).all (fun b => E.elem b) = true := by rfl) : callWK P fx (a :: ax) dst (E, A) st K :=
  callWK.bx d hf hc ha hb hid has hvs hR hl hi hE hK
theorem cVW (d b : Nat) (hR : Ret P f [.own cs len sz] ret [.un]) (hK : K ((⟨st.ρ, merge A st.h st3.h, st.n⟩ : St).setO dst y)) (hl : l.ev st.ρ = .sl b 0 len sz false := by simp <;> rfl) (hb : hideH A st.h b = some (some cs) := by simp) (hl2 : cs.length = len * sz := by rfl) (hid : idfree.idfreeL cs = true := by rfl)
    (hi : inst 64 d ret ((⟨st.ρ, hideH A st.h, st.n⟩ : St).put b none) = some (y, st3) := by rfl) (hf : fx.ev st.ρ = .clo f [] := by rfl) (hc : callB P f = true := by kernel_rfl) (hE : (b :: instB 64 d ret).all (fun b => E.elem b) = true := by rfl) : callWK P fx [l] dst (E, A) st K := by
  refine callWK.cut [.mv sz] d (fl := [(.mv sz, .sl b 0 len sz false)]) (r := [(some (.own cs len sz), none)]) (st1 := (⟨st.ρ, hideH A st.h, st.n⟩ : St).put b none) (yl := [.own cs len sz]) (ys := [.own cs len sz]) (ol := [.un]) (st2 := (⟨st.ρ, hideH A st.h, st.n⟩ : St).put b none) hf hc rfl ?_ ?_ rfl rfl rfl hR rfl rfl hi ?_ hK
  · simp only [List.append_nil, List.map_cons, List.map_nil, List.zip_cons_cons, List.zip_nil_left, hl, flatL, flat1] <;> rfl
  · simp only [exL, ex1, hb, hl2, hid, and_self, if_true, Option.map_some]
  · exact hE
theorem cSW (d : Nat) {b b2 : Nat} (hR : Ret P f [.bx cs, v, .own cs2 len sz] ret [.bx cs', .un, .un]) (hK : K ((⟨st.ρ, merge A st.h st3.h, st.n⟩ : St).setO dst y)) (ha : a.ev st.ρ = .ref b 0 := by simp <;> rfl) (hb : hideH A st.h b = some (some cs) := by simp) (hn : n.ev st.ρ = v := by simp <;> rfl) (hl : l.ev st.ρ = .sl b2 0 len sz false := by simp <;> rfl) (hb2 : hideH A st.h b2 = some (some cs2) := by simp)
    (hl2 : cs2.length = len * sz) (hid2 : idfree.idfreeL cs2 = true) (hid : idfree.idfreeL cs = true := by rfl) (hlc : cs'.length = cs.length := by rfl) (hv : shut v = true := by rfl) (hne : b2 ≠ b := by decide)
    (hi : inst 64 d ret ((((⟨st.ρ, hideH A st.h, st.n⟩ : St).put b none).put b2 none).put b (some cs')) = some (y, st3) := by rfl) (hf : fx.ev st.ρ = .clo f [] := by rfl) (hc : callB P f = true := by kernel_rfl) (hE : (b :: b2 :: instB 64 d ret).all (fun b => E.elem b) = true := by rfl) : callWK P fx [a, n, l] dst (E, A) st K := by
  have e2 : ((⟨st.ρ, hideH A st.h, st.n⟩ : St).put b none).h b2 = some (some cs2) := by simp only [St.put]; rw [upd_ne _ _ hne]; exact hb2
  have ig : isGone ((((⟨st.ρ, hideH A st.h, st.n⟩ : St).put b none).put b2 none).h b) = true := by simp only [St.put]; rw [upd_ne _ _ hne.symm, upd_same]; rfl
  refine callWK.cut [.io, .ro, .mv sz] d (fl := [(.io, .ref b 0), (.ro, v), (.mv sz, .sl b2 0 len sz false)]) (r := [(some (.bx cs), some b), (none, none), (some (.own cs2 len sz), none)]) (st1 := ((⟨st.ρ, hideH A st.h, st.n⟩ : St).put b none).put b2 none) (yl := [.bx cs, v, .own cs2 len sz]) (ys := [.bx cs, v, .own cs2 len sz]) (ol := [.bx cs', .un, .un]) (st2 := (((⟨st.ρ, hideH A st.h, st.n⟩ : St).put b none).put b2 none).put b (some cs')) hf hc rfl ?_ ?_ ?_ ?_ rfl hR rfl ?_ hi ?_ hK
  · simp only [List.append_nil, List.map_cons, List.map_nil, List.zip_cons_cons, List.zip_nil_left, ha, hn, hl, flatL, flat1] <;> rfl
  · simp only [exL, ex1, hb, hid, e2, hl2, hid2, and_self, if_true, Option.map_some]
  · simp only [closedB, hv]; rfl
  · simp only [shutArgs, roc_sh hv, Option.map_some]
  · simp only [backL, hlc, ig, and_self, if_true]
  · exact hE
end
def freeN (r : List Entry) (l : List Pick) : Nat := (r.filter fun e => noName l e.name).length
abbrev WayR := Option (List Pick) × Nat × Bool
def tryG (rec : List Need → List Pick → Nat → WayR) (put : List Pick → Pick → List Pick) (n : Need) (rest : List Need) (picks : List Pick) : List Entry → Nat → WayR
  | [], f => (none, f, false)
  | e :: es, f => if takeB n e.v = true then (if f = 0 then (none, 0, true) else
      match rec (rest ++ e.needs) (put picks ⟨e.name, e.v⟩) (f - 1) with
      | (some l, f', o) => (some l, f', o)
      | (none, f', true) => (none, f', true)
      | (none, f', false) => tryG rec put n rest picks es f')
    else tryG rec put n rest picks es f
def dropN (picks : List Pick) : List Need → Option (List Need)
  | [] => some []
  | n :: rest => match pickO picks n.name with
    | some v => if takeB n v = true then dropN picks rest else none
    | none => some (n :: rest)
def wayG (r : List Entry) (put : List Pick → Pick → List Pick) : Nat → List Need → List Pick → Nat → WayR
  | 0, _, _, f => (none, f, false)
  | d + 1, needs, picks, f => match dropN picks needs with
    | none => (none, f, false)
    | some [] => (some picks, f, false)
    | some (n :: rest) => tryG (wayG r put d) put n rest picks (newestV r n.name) f
section
variable {r : List Entry} {put : List Pick → Pick → List Pick} {d f : Nat} {needs rest : List Need} {picks : List Pick} {n : Need}
theorem wayG_none (h : dropN picks needs = none) : wayG r put (d + 1) needs picks f = (none, f, false) := by rw [wayG, h]
theorem wayG_nil (h : dropN picks needs = some []) : wayG r put (d + 1) needs picks f = (some picks, f, false) := by rw [wayG, h]
theorem wayG_cons (h : dropN picks needs = some (n :: rest)) : wayG r put (d + 1) needs picks f = tryG (wayG r put d) put n rest picks (newestV r n.name) f := by rw [wayG, h]
end
def addP (l : List Pick) (p : Pick) : List Pick := l ++ [p]
def wayA (o : Option (List Pick)) : AV := .tup [.own (rows Pick.ty.cs (o.getD [])) (o.getD []).length 5, .sc (.bool o.isSome)]
def wayB (picks : List Pick) (o : Option (List Pick)) : AV := .tup [.ro (rows Pick.ty.cs (o.getD picks)) (o.getD picks).length, .sc (.bool o.isSome)]
def svA (r : List Entry) (f : Nat) (o : Bool) : List AV := [.ro (rows Entry.ty.cs r) r.length, .sc (.int .i64 f), .sc (.bool o)]
theorem svA_e (r : List Entry) (f : Nat) (o : Bool) : svA r f o = [.ro (rows Entry.ty.cs r) r.length, .sc (.int .i64 f), .sc (.bool o)] := rfl
section
variable {rec : List Need → List Pick → Nat → WayR} {put : List Pick → Pick → List Pick} {n : Need} {rest : List Need} {picks : List Pick} {e : Entry} {es : List Entry} {f f' : Nat}
theorem tryG_skip (h : takeB n e.v = false) : tryG rec put n rest picks (e :: es) f = tryG rec put n rest picks es f := by rw [tryG, if_neg (by rw [h]; decide)]
theorem tryG_out (h : takeB n e.v = true) : tryG rec put n rest picks (e :: es) 0 = (none, 0, true) := by rw [tryG, if_pos h, if_pos rfl]
theorem tryG_some {l : List Pick} {o : Bool} (h : takeB n e.v = true) (hf : f ≠ 0) (hr : rec (rest ++ e.needs) (put picks ⟨e.name, e.v⟩) (f - 1) = (some l, f', o)) : tryG rec put n rest picks (e :: es) f = (some l, f', o) := by rw [tryG, if_pos h, if_neg hf, hr]
theorem tryG_over (h : takeB n e.v = true) (hf : f ≠ 0) (hr : rec (rest ++ e.needs) (put picks ⟨e.name, e.v⟩) (f - 1) = (none, f', true)) : tryG rec put n rest picks (e :: es) f = (none, f', true) := by rw [tryG, if_pos h, if_neg hf, hr]
theorem tryG_next (h : takeB n e.v = true) (hf : f ≠ 0) (hr : rec (rest ++ e.needs) (put picks ⟨e.name, e.v⟩) (f - 1) = (none, f', false)) : tryG rec put n rest picks (e :: es) f = tryG rec put n rest picks es f' := by rw [tryG, if_pos h, if_neg hf, hr]
end
theorem tryG_le {rec : List Need → List Pick → Nat → WayR} {put : List Pick → Pick → List Pick} {n : Need} {rest : List Need} {picks : List Pick} (h : ∀ a b f, (rec a b f).2.1 ≤ f ∧ ((rec a b f).1.isSome = true → (rec a b f).2.2 = false)) : ∀ (es : List Entry) (f : Nat), (tryG rec put n rest picks es f).2.1 ≤ f ∧ ((tryG rec put n rest picks es f).1.isSome = true → (tryG rec put n rest picks es f).2.2 = false) := by
  intro es
  induction es with
  | nil => intro f; exact ⟨Nat.le_refl _, fun _ => rfl⟩
  | cons e es ih =>
    intro f
    cases ht : takeB n e.v
    · rw [tryG_skip ht]; exact ih f
    · by_cases hf : f = 0
      · subst hf; rw [tryG_out ht]; exact ⟨Nat.le_refl _, fun h => by cases h⟩
      · obtain ⟨h1, h2⟩ := h (rest ++ e.needs) (put picks ⟨e.name, e.v⟩) (f - 1)
        rcases hr : rec (rest ++ e.needs) (put picks ⟨e.name, e.v⟩) (f - 1) with ⟨_ | l, f', o⟩
        · rw [hr] at h1
          cases o
          · rw [tryG_next ht hf hr]
            obtain ⟨k1, k2⟩ := ih f'
            exact ⟨by simp only at h1; omega, k2⟩
          · rw [tryG_over ht hf hr]; exact ⟨by simp only at h1 ⊢; omega, fun h => by cases h⟩
        · rw [hr] at h1 h2
          rw [tryG_some ht hf hr]; exact ⟨by simp only at h1 ⊢; omega, fun _ => h2 rfl⟩
theorem wayG_le (r : List Entry) (put : List Pick → Pick → List Pick) : ∀ (d : Nat) (needs : List Need) (picks : List Pick) (f : Nat), (wayG r put d needs picks f).2.1 ≤ f ∧ ((wayG r put d needs picks f).1.isSome = true → (wayG r put d needs picks f).2.2 = false)
  | 0, _, _, _ => ⟨Nat.le_refl _, fun _ => rfl⟩
  | d + 1, needs, picks, f => by
    rw [wayG]
    split
    · exact ⟨Nat.le_refl _, fun _ => rfl⟩
    · exact ⟨Nat.le_refl _, fun _ => rfl⟩
    · exact tryG_le (wayG_le r put d) _ f
theorem noName_iff {l : List Pick} {n : ByteArray} : noName l n = true ↔ ∀ q ∈ l, atP n q = false := by
  unfold noName
  rw [List.all_eq_true]
  exact forall_congr' fun q => forall_congr' fun _ => by cases atP n q <;> simp
theorem pickO_no {l : List Pick} {n : ByteArray} (h : pickO l n = none) : noName l n = true := by
  rw [noName_iff]
  intro q hq
  cases hb : atP n q
  · rfl
  · rw [pickO, Option.map_eq_none_iff, List.find?_eq_none] at h
    exact absurd hb (h q hq)
theorem freeN_put {r : List Entry} {l l' : List Pick} {e : Entry} (he : e ∈ r) (hn : noName l e.name = true) (h1 : ∀ q ∈ l, q ∈ l') (h2 : ∃ q ∈ l', q.name = e.name) : freeN r l' < freeN r l := by
  unfold freeN
  have hsub : ∀ x : Entry, noName l' x.name = true → noName l x.name = true := fun x hx => by
    rw [noName_iff] at hx ⊢
    exact fun q hq => hx q (h1 q hq)
  have hno : noName l' e.name = false := by
    obtain ⟨q, hq, hqe⟩ := h2
    exact noName_f hq (by unfold atP; rw [hqe]; simp)
  obtain ⟨A, B, rfl⟩ := List.append_of_mem he
  rw [List.filter_append, List.filter_append, List.filter_cons_of_neg (by rw [hno]; decide), List.filter_cons_of_pos (by rw [hn]), List.length_append, List.length_append, List.length_cons]
  have hle : ∀ m : List Entry, (m.filter fun e => noName l' e.name).length ≤ (m.filter fun e => noName l e.name).length := by
    intro m
    induction m with
    | nil => exact Nat.le_refl _
    | cons x m ih =>
      cases hx : noName l' x.name
      · rw [List.filter_cons_of_neg (by rw [hx]; decide)]
        refine Nat.le_trans ih ?_
        cases hy : noName l x.name
        · rw [List.filter_cons_of_neg (by rw [hy]; decide)]; exact Nat.le_refl _
        · rw [List.filter_cons_of_pos (by rw [hy])]; simp
      · rw [List.filter_cons_of_pos (by rw [hx]), List.filter_cons_of_pos (by rw [hsub x hx])]
        simpa using ih
  have := hle A
  have := hle B
  omega
theorem dropN_mem {picks : List Pick} : ∀ {needs left : List Need}, dropN picks needs = some left → (∀ n ∈ left, n ∈ needs) ∧ left.length ≤ needs.length
  | [], left, h => by cases h; exact ⟨fun _ h => h, Nat.le_refl _⟩
  | n :: rest, left, h => by
    rw [dropN] at h
    split at h
    · split at h
      · obtain ⟨h1, h2⟩ := dropN_mem h
        exact ⟨fun x hx => List.mem_cons_of_mem _ (h1 x hx), by simp only [List.length_cons]; omega⟩
      · cases h
    · cases h; exact ⟨fun _ h => h, Nat.le_refl _⟩
theorem dropN_no {picks : List Pick} {n : Need} {rest : List Need} : ∀ {needs : List Need}, dropN picks needs = some (n :: rest) → pickO picks n.name = none
  | [], h => by cases h
  | m :: l, h => by
    rw [dropN] at h
    split at h
    · split at h
      · exact dropN_no h
      · cases h
    · rename_i hp; cases h; exact hp
structure WayZ (r : List Entry) (needs : List Need) (picks : List Pick) : Prop where
  r12 : r.length ≤ 12
  ez : ∀ e ∈ r, EntryY e
  n4 : ∀ e ∈ r, e.needs.length ≤ 4
  nb : needs.length + 4 * freeN r picks ≤ 1048700
  nz : ∀ n ∈ needs, NeedZ n
  pb : picks.length + freeN r picks ≤ 12
  pz : ∀ p ∈ picks, PickY p
theorem WayZ.left {r : List Entry} {needs left : List Need} {picks : List Pick} (h : WayZ r needs picks) (hl : dropN picks needs = some left) : WayZ r left picks := by
  obtain ⟨h1, h2⟩ := dropN_mem hl
  exact ⟨h.r12, h.ez, h.n4, by have := h.nb; omega, fun n hn => h.nz n (h1 n hn), h.pb, h.pz⟩
theorem WayZ.tail {r : List Entry} {n : Need} {rest : List Need} {picks : List Pick} (h : WayZ r (n :: rest) picks) : WayZ r rest picks :=
  ⟨h.r12, h.ez, h.n4, by have := h.nb; simp only [List.length_cons] at this; omega, fun n hn => h.nz n (List.mem_cons_of_mem _ hn), h.pb, h.pz⟩
theorem WayZ.more {r : List Entry} {n : Need} {rest : List Need} {picks picks' : List Pick} {e : Entry} (h : WayZ r (n :: rest) picks) (hn : pickO picks n.name = none) (he : e ∈ newestV r n.name) (hp : picks'.Perm (picks ++ [⟨e.name, e.v⟩])) : WayZ r (rest ++ e.needs) picks' ∧ freeN r picks' < freeN r picks := by
  obtain ⟨e1, e2⟩ := newestV_mem.1 he
  have hen : e.name = n.name := tl_eq.1 e2
  have hlt : freeN r picks' < freeN r picks := freeN_put e1 (by rw [hen]; exact pickO_no hn) (fun q hq => hp.mem_iff.2 (by simp [hq])) ⟨⟨e.name, e.v⟩, hp.mem_iff.2 (by simp), rfl⟩
  have ez := h.ez e e1
  have h4 := h.n4 e e1
  have hn' := h.nb
  have hp' := h.pb
  have hl := hp.length_eq
  simp only [List.length_append, List.length_cons, List.length_nil] at hl hn'
  refine ⟨⟨h.r12, h.ez, h.n4, by rw [List.length_append]; omega, fun m hm => ?_, by omega, fun q hq => ?_⟩, hlt⟩
  · rcases List.mem_append.1 hm with hm | hm
    · exact h.nz m (List.mem_cons_of_mem _ hm)
    · exact ez.z m hm
  · rcases List.mem_append.1 (hp.mem_iff.1 hq) with hq | hq
    · exact h.pz q hq
    · rw [List.mem_singleton.1 hq]; exact ⟨ez.a, ez.v⟩
set_option maxRecDepth 100000
set_option maxHeartbeats 8000000 in
theorem R65 (r : List Entry) (d : Nat) (hS : ∀ needs picks f, WayZ r needs picks → freeN r picks < d → f ≤ 10000 → Ret Tryz.prog 28 [.bx (svA r f false), .ro (rows Need.ty.cs needs) needs.length, .own (rows Pick.ty.cs picks) picks.length 5] (wayA (wayG r addP d needs picks f).1) [.bx (svA r (wayG r addP d needs picks f).2.1 (wayG r addP d needs picks f).2.2), .un, .un])
    (n : Need) (rest : List Need) (picks : List Pick) (f : Nat) (hz : WayZ r (n :: rest) picks) (hp : pickO picks n.name = none) (hd : freeN r picks < d + 1) (hf : f ≤ 10000) :
    Ret Tryz.prog 65 [.bx (svA r f false), .ro (rows Need.ty.cs (n :: rest)) (rest.length + 1), .ro (rows Pick.ty.cs picks) picks.length] (wayA (tryG (wayG r addP d) addP n rest picks (newestV r n.name) f).1) [.bx (svA r (tryG (wayG r addP d) addP n rest picks (newestV r n.name) f).2.1 (tryG (wayG r addP d) addP n rest picks (newestV r n.name) f).2.2), .un, .un] := by
  have rN := R17 r n.name hz.r12 hz.ez
  have hmem : ∀ e ∈ newestV r n.name, e ∈ newestV r n.name := fun _ h => h
  have hlen : (newestV r n.name).length ≤ 12 := by
    rw [newestV, sortI_len]
    exact Nat.le_trans (List.length_filter_le _ _) hz.r12
  have nz := hz.nz n (by simp)
  have rC := R100 picks (by have := hz.pb; omega)
  have hpk := Pick.csl picks
  have hpi := Pick.ty.frC picks
  have hpp : plain.plainL (rows Pick.ty.cs picks) = true := Pick.ty.plC picks
  have hpl12 : picks.length ≤ 12 := by have := hz.pb; omega
  generalize hT : tryG (wayG r addP d) addP n rest picks (newestV r n.name) f = tg
  have hMV : ∀ e ∈ newestV r n.name, WayZ r (rest ++ e.needs) (addP picks ⟨e.name, e.v⟩) ∧ freeN r (addP picks ⟨e.name, e.v⟩) < freeN r picks := fun e he => hz.more hp he (.refl _)
  have hEY : ∀ e ∈ newestV r n.name, EntryY e := fun e he => hz.ez e (newestV_mem.1 he).1
  have hrl : rest.length ≤ 2097152 := by have := hz.nb; simp only [List.length_cons] at this; omega
  have hrt : List.take (rest.length * 2) (rows Need.ty.cs rest) = rows Need.ty.cs rest := List.take_of_length_le (by rw [Need.csl]; exact Nat.le_refl _)
  have hrn : rows Need.ty.cs (n :: rest) = .sc (.string n.name) :: .sc (.string n.range) :: rows Need.ty.cs rest := by rw [rows_cons, Need.cse]; rfl
  rw [svA_e, svA_e, hrn]
  have hA : ∀ o, wayA o = .tup [.own (rows Pick.ty.cs (o.getD [])) (o.getD []).length 5, .sc (.bool o.isSome)] := fun _ => rfl
  generalize newestV r n.name = all at *
  refine Ret.go Tryz.func65 ?_
  simp (disch := omega) []
  refine T.textE [] ?_ mixed
  simp (disch := omega) [merge_nil, hideH_nil]
  refine cWX 900 rN ?_
  simp (disch := omega) [merge_nil, hideH_nil]
  refine T.forI (fun i : List Entry × List Entry × Nat => i.2.1.length) (fun i => i.1 ++ i.2.1 = all ∧ tryG (wayG r addP d) addP n rest picks i.2.1 i.2.2 = tg ∧ i.2.2 ≤ 10000) (fun i => [(0, .ref 3 0), (1, .ro (.sc (.string n.name) :: .sc (.string n.range) :: rows Need.ty.cs rest) (rest.length + 1)), (2, .ro (rows Pick.ty.cs picks) picks.length), (8, .ref 8 0), (23, .ro (rows Entry.ty.cs all) all.length), (24, .sc (.int .i64 all.length)), (25, .sc (.int .i64 i.1.length))]) (fun i => [(3, [.ro (rows Entry.ty.cs r) r.length, .sc (.int .i64 i.2.2), .sc (.bool false)]), (8, [.sc (.string n.name), .sc (.string n.range)])]) ([], all, f) ⟨⟨rfl, hT, hf⟩, Tl.ren [(100000, 3), (8, 8)] rfl (by simp [idfree, idfree.idfreeL])⟩ ?_
  rintro ⟨pre, es, g⟩ ⟨hx, hG, hg⟩
  simp only at hx hG hg ⊢
  cases es with
  | nil =>
    rw [tryG] at hG
    subst hG
    rw [List.append_nil] at hx
    subst hx
    simp (disch := omega) []
    refine T.on 400 ?_
    simp (disch := omega) [ex1, ioPos1, svA_e, wayA, idfree, idfree.idfreeL]
  | cons e es =>
    have hem : e ∈ all := by rw [← hx]; simp
    have ey := hEY e hem
    have hde := entCells hx
    have hl2 : pre.length < all.length := by rw [← hx]; simp
    have rT := R66 n e.v nz.r ey.v
    rw [Need.cse, Ver.cse] at rT
    cases ht : takeB n e.v
    · rw [tryG_skip ht] at hG
      rw [ht] at rT
      simp (disch := omega) [hde]
      refine cX 900 rT ?_
      simp (disch := omega) []
      exact Ri_mk (pre ++ [e], es, g) (by simp) ⟨by simp [hx], hG, hg⟩ (Tl.same rfl (by simp (disch := omega) []) (by simp))
    · rw [ht] at rT
      by_cases hg0 : g = 0
      · subst hg0
        rw [tryG_out ht] at hG
        subst hG
        simp (disch := omega) [hde]
        refine cX 900 rT ?_
        simp (disch := omega) [ex1, ioPos1, svA_e, wayA, idfree, idfree.idfreeL]
      · have hgi : ¬ ((g : Int) = 0) := by omega
        have hg1 : IntKind.i64.wrap ((g : Int) - 1) = ((g - 1 : Nat) : Int) := by rw [wrap_i64 (by omega) (by omega)]; omega
        obtain ⟨m1, m2⟩ := hMV e hem
        have rS := hS (rest ++ e.needs) (addP picks ⟨e.name, e.v⟩) (g - 1) m1 (by omega) (by omega)
        have rK := R101 rest e.needs hrl ey.l
        have rK2 : Ret Tryz.prog 101 [.own [.ro (rows Need.ty.cs rest) rest.length, .ro (rows Need.ty.cs e.needs) e.needs.length] 2 1] (.ro (rows Need.ty.cs (rest ++ e.needs)) (rest ++ e.needs).length) [.un] := Ret.thaw 0 rK
        have hao : rows Pick.ty.cs (addP picks ⟨e.name, e.v⟩) = rows Pick.ty.cs picks ++ [.sc (.string e.name), .sc (.int .i64 e.v.a), .sc (.int .i64 e.v.b), .sc (.int .i64 e.v.c), .ro (rows Ty.str.cs e.v.pre) e.v.pre.length] := by rw [addP, rows_append, rows_one]; rfl
        have hal : (addP picks ⟨e.name, e.v⟩).length = picks.length + 1 := by simp [addP]
        have hai := Pick.ty.frC (addP picks ⟨e.name, e.v⟩)
        have hac := Pick.csl (addP picks ⟨e.name, e.v⟩)
        have hle := wayG_le r addP d (rest ++ e.needs) (addP picks ⟨e.name, e.v⟩) (g - 1)
        rw [svA_e, svA_e, hA] at rS
        rw [hao, hal] at rS hac
        rw [hao] at hai
        rcases hW : wayG r addP d (rest ++ e.needs) (addP picks ⟨e.name, e.v⟩) (g - 1) with ⟨w, f', o⟩
        rw [hW] at rS hle
        simp only at rS hle
        have hXi := Pick.ty.frC (w.getD [])
        have hXc := Pick.csl (w.getD [])
        simp (disch := omega) [hde]
        refine cX 900 rT ?_
        simp (disch := omega) [hgi, hg0, hg1]
        refine T.textE [(1, [54]), (7, [60]), (8, [54, 60, 61])] ?_ mixed
        simp (disch := omega) [merge_nil, hideH_nil]
        refine cYW 54 rC ?_
        simp (disch := omega) [merge_nil, hideH_nil, hpk]
        refine T.le (Tl.same (ts := [(0, .ref 3 0), (1, .ro (.sc (.string n.name) :: .sc (.string n.range) :: rows Need.ty.cs rest) (rest.length + 1)), (2, .ro (rows Pick.ty.cs picks) picks.length), (8, .ref 8 0), (10, .ref 10 0), (11, .sl 61 0 (picks.length + 1) 5 false), (23, .ro (rows Entry.ty.cs all) all.length), (24, .sc (.int .i64 all.length)), (25, .sc (.int .i64 pre.length))]) (bs := [(3, [.ro (rows Entry.ty.cs r) r.length, .sc (.int .i64 (g - 1 : Nat)), .sc (.bool false)]), (8, [.sc (.string n.name), .sc (.string n.range)]), (10, [.sc (.string e.name), .sc (.int .i64 e.v.a), .sc (.int .i64 e.v.b), .sc (.int .i64 e.v.c), .ro (rows Ty.str.cs e.v.pre) e.v.pre.length, .ro (rows Need.ty.cs e.needs) e.needs.length]), (61, rows Pick.ty.cs picks ++ [.sc (.string e.name), .sc (.int .i64 e.v.a), .sc (.int .i64 e.v.b), .sc (.int .i64 e.v.c), .ro (rows Ty.str.cs e.v.pre) e.v.pre.length])]) rfl (by simp) (by simp [mens_idf hai])) ?_
        refine T.textE [(5, [68]), (6, [68]), (8, [3, 61, 1000])] ?_ mixed
        simp (disch := omega) [merge_nil, hideH_nil, hrt]
        refine cVW 900 68 rK2 ?_
        simp (disch := omega) [merge_nil, hideH_nil]
        refine cSW 0 rS ?_ (hl2 := hac) (hid2 := hai)
        cases w with
        | some l =>
          have ho : o = false := hle.2 rfl
          subst ho
          rw [tryG_some ht hg0 hW] at hG
          subst hG
          simp only [Option.getD_some, Option.isSome_some] at hXi hXc
          simp (disch := omega) [merge_nil, hideH_nil, ex1, ioPos1, svA_e, wayA, idfree, idfree.idfreeL, hXi, hXc]
        | none =>
          cases o
          · rw [tryG_next ht hg0 hW] at hG
            simp (disch := omega) [merge_nil, hideH_nil]
            exact Ri_mk (pre ++ [e], es, f') (by simp) ⟨by simp [hx], hG, by have h1 : f' ≤ g - 1 := hle.1; show f' ≤ 10000; omega⟩ (Tl.same rfl (by simp (disch := omega) []) (by simp))
          · rw [tryG_over ht hg0 hW] at hG
            subst hG
            simp (disch := omega) [merge_nil, hideH_nil, ex1, ioPos1, svA_e, wayA, idfree, idfree.idfreeL, rows_nil]
set_option maxHeartbeats 8000000 in
theorem R28 (r : List Entry) : ∀ (d : Nat) (needs : List Need) (picks : List Pick) (f : Nat), WayZ r needs picks → freeN r picks < d → f ≤ 10000 → Ret Tryz.prog 28 [.bx (svA r f false), .ro (rows Need.ty.cs needs) needs.length, .own (rows Pick.ty.cs picks) picks.length 5] (wayA (wayG r addP d needs picks f).1) [.bx (svA r (wayG r addP d needs picks f).2.1 (wayG r addP d needs picks f).2.2), .un, .un] := by
  intro d
  induction d with
  | zero => intro needs picks f _ h; omega
  | succ d ih =>
    intro needs picks f hz hd hf
    have hl : picks.length ≤ 1048577 := by have := hz.pb; omega
    have hnl : needs.length ≤ 1048700 := by have := hz.nb; omega
    have hpc := Pick.csl picks
    have hpi := Pick.ty.frC picks
    have hTry := R65 r d ih
    have hPA := fun n => R34 picks n hl
    have hW0 := wayG_none (r := r) (put := addP) (d := d) (f := f) (needs := needs) (picks := picks)
    have hW1 := wayG_nil (r := r) (put := addP) (d := d) (f := f) (needs := needs) (picks := picks)
    have hW2 := fun n rest => wayG_cons (r := r) (put := addP) (d := d) (f := f) (needs := needs) (picks := picks) (n := n) (rest := rest)
    generalize wayG r addP (d + 1) needs picks f = tg at *
    have hro : ∀ h : Hp, h 100002 = some (some (rows Pick.ty.cs picks)) → roc h 8 (.sl 100002 0 picks.length 5 false) = some (.ro (rows Pick.ty.cs picks) picks.length) := fun h hb => roc_sl hb hpc (shutL_of (rows_all Pick.ty.sh _))
    have hA : ∀ o, wayA o = .tup [.own (rows Pick.ty.cs (o.getD [])) (o.getD []).length 5, .sc (.bool o.isSome)] := fun _ => rfl
    rw [svA_e, svA_e]
    refine Ret.go Tryz.func28 ?_
    simp (disch := omega) []
    refine T.forI (fun i : List Need => i.length) (fun i => dropN picks i = dropN picks needs ∧ WayZ r i picks) (fun i => [(0, .ref 100000 0), (1, .ro (rows Need.ty.cs i) i.length), (2, .sl 100002 0 picks.length 5 false), (6, .em), (7, .sc (.bool false))]) (fun _ => [(100000, [.ro (rows Entry.ty.cs r) r.length, .sc (.int .i64 f), .sc (.bool false)]), (100002, rows Pick.ty.cs picks)]) needs ⟨⟨rfl, hz⟩, Tl.same rfl (by simp (disch := omega) []) (by simp [mens_idf hpi])⟩ ?_
    rintro ns ⟨hD, nz⟩
    cases ns with
    | nil =>
      rw [hW1 (by rw [← hD]; rfl)]
      simp (disch := omega) []
      refine T.on 400 ?_
      simp (disch := omega) [ex1, ioPos1, svA_e, wayA, hpi, hpc, idfree, idfree.idfreeL]
    | cons n rest =>
      have hnl2 : rest.length + 1 ≤ 1048700 := by have := nz.nb; simp only [List.length_cons] at this; omega
      have hrn : rows Need.ty.cs (n :: rest) = .sc (.string n.name) :: .sc (.string n.range) :: rows Need.ty.cs rest := by rw [rows_cons, Need.cse]; rfl
      have hrt : List.take (rest.length * 2) (rows Need.ty.cs rest) = rows Need.ty.cs rest := List.take_of_length_le (by rw [Need.csl]; exact Nat.le_refl _)
      have rP := hPA n.name
      rcases idx_cases (atP n.name) picks 0 with ⟨pr, p, rs, e1, h2, h1, e2⟩ | ⟨h1, e2⟩
      · have hpo : pickO picks n.name = some p.v := by rw [e1]; exact pickO_mid h1 h2
        have hD2 : dropN picks (n :: rest) = if takeB n p.v = true then dropN picks rest else none := by rw [dropN, hpo]
        have rT := R66 n p.v (nz.nz n (by simp)).r (nz.pz p (by rw [e1]; simp)).v
        have hd2 := pickCells1 e1.symm
        have hlt : pr.length < picks.length := by rw [e1]; simp
        rw [e2, Int.zero_add] at rP
        rw [hD2] at hD
        clear e1 e2 h1
        rw [Need.cse, Ver.cse] at rT
        simp (disch := omega) [hrn]
        refine cR rP ?_ (hys := by simp [roc_sc, hro])
        simp (disch := omega) []
        refine T.textE [] ?_ mixed
        simp (disch := omega) [hd2, merge_nil, hideH_nil]
        refine cWX 900 rT ?_
        cases ht : takeB n p.v
        · rw [ht, if_neg (by decide)] at hD
          rw [hW0 hD.symm]
          simp (disch := omega) [merge_nil, hideH_nil, ex1, ioPos1, svA_e, wayA, idfree, idfree.idfreeL, rows_nil]
        · rw [ht, if_pos rfl] at hD
          simp (disch := omega) [merge_nil, hideH_nil, hrt]
          exact Ri_mk rest (by simp) ⟨hD, nz.tail⟩ (Tl.same rfl (by simp (disch := omega) []) (by simp [mens_idf hpi]))
      · have hpo := pickO_none h1
        have hD2 : dropN picks (n :: rest) = some (n :: rest) := by rw [dropN, hpo]
        have hW := hW2 n rest (by rw [← hD]; exact hD2)
        have rTr := hTry n rest picks f nz hpo hd hf
        rw [← hW, svA_e, svA_e, hA, hrn] at rTr
        rw [e2] at rP
        simp (disch := omega) [hrn]
        refine cR rP ?_ (hys := by simp [roc_sc, hro])
        simp (disch := omega) []
        refine callK.le (Le.freeze 8 [0, 20, 21] [100000] [(22, .ro (rows Pick.ty.cs picks) picks.length)] (by simp [menB, idfree]) (by simp [idfree]) (by simp [hro, hideH])) ?_
        simp only [frz]
        refine cP 0 (b := 100000) rTr ?_ (ha := by simp [keep_app]) (hb := by simp [keepH_app]) (has := by simp [keep_app]) (hi := by rfl)
        have hXi := Pick.ty.frC (tg.1.getD [])
        have hXc := Pick.csl (tg.1.getD [])
        simp [keep_app, keepH_app, ex1, ioPos1, wayA, hXi, hXc, idfree, idfree.idfreeL]
set_option maxRecDepth 100000
theorem sortI_snoc {α : Type} (lt : α → α → Bool) (l : List α) (x : α) : sortI lt (l ++ [x]) = insE lt (sortI lt l) x := by unfold sortI; rw [List.foldl_append]; rfl
set_option maxHeartbeats 8000000 in
theorem R50 (r : List Entry) (n : ByteArray) (hr : r.length ≤ 12) (hz : ∀ e ∈ r, EntryY e) : Ret Tryz.prog 50 [.ro (rows Entry.ty.cs r) r.length, .sc (.string n)] (.ro (rows Entry.ty.cs (newestV r n)) (newestV r n).length) [.un, .un] := by
  refine Ret.cool (ret := .own (rows Entry.ty.cs (newestV r n)) (newestV r n).length 6) ?_ (cool_own (shutL_of (rows_all Entry.ty.sh _)))
  obtain ⟨F, hF⟩ : ∃ F : List Entry → List Entry, F = fun l => newestV l n := ⟨_, rfl⟩
  have F0 : F [] = [] := by rw [hF]; rfl
  have F1 : ∀ pre x, x.name.toList = n.toList → F (pre ++ [x]) = insE ltNw (F pre) x := fun pre x h => by rw [hF]; simp only [newestV, List.filter_append]; rw [List.filter_cons_of_pos (by simp [h]), List.filter_nil, sortI_snoc]
  have F2 : ∀ pre x, ¬ x.name.toList = n.toList → F (pre ++ [x]) = F pre := fun pre x h => by rw [hF]; simp only [newestV, List.filter_append]; rw [List.filter_cons_of_neg (by simp [h]), List.filter_nil, List.append_nil]
  have Fl : ∀ l, (F l).length ≤ l.length := fun l => by rw [hF]; simp only [newestV, sortI_len]; exact List.length_filter_le _ _
  have Fm : ∀ l, (∀ e ∈ l, e ∈ r) → ∀ e ∈ F l, EntryY e := fun l hl e h => hz e (hl e (by rw [hF] at h; exact (newestV_mem.1 h).1))
  rw [show newestV r n = F r by rw [hF]]
  clear hF
  have fr : ∀ l : List Entry, idfree.idfreeL (rows Entry.ty.cs l) = true := fun l => Entry.ty.frC l
  have Mi : ∀ q (l : List Entry), mens q (rows Entry.ty.cs l) = true := fun q l => mens_idf (fr l)
  refine Ret.go Tryz.func50 ?_
  simp (disch := omega) []
  refine T.forR r (fun _ _ => True) (fun pre _ => [(0, .ro (rows Entry.ty.cs r) r.length), (1, .sc (.string n)), (5, .sl 50 0 (F pre).length 6 false), (6, .sc (.int .i64 pre.length))]) (fun pre _ => [(50, rows Entry.ty.cs (F pre))]) ⟨trivial, Tl.ren [(9, 50)] rfl (by simp [F0, rows_nil, idfree, idfree.idfreeL])⟩ ?_ ?_
  · intro _
    have hc := Entry.csl (F r)
    simp (disch := omega) []
    refine T.on 400 ?_
    simp (disch := omega) [ex1, fr, hc]
  · intro pre x rest hx hl2 _
    have hxz := hz x (by rw [← hx]; simp)
    have rC := R90 x hxz.v.n hxz.l
    have hd := entCells hx
    have h3 := Fl pre
    have hcp := Entry.csl (F pre)
    rw [Entry.cse] at rC
    by_cases h : x.name.toList = n.toList
    case neg =>
      have hE := F2 pre x h
      simp (disch := omega) [hd, h, hE]
      exact Tl.same rfl (by simp (disch := omega) [hE]) (by simp [Mi, hE])
    have hE := F1 pre x h
    have hil : (insE ltNw (F pre) x).length = (F pre).length + 1 := (insE_perm _ _ x).length_eq
    have hEd : insE ltNw (F pre) x = insQ ltNw x (F pre).reverse [] := rfl
    have hB0 : ∀ B, insQ ltNw x [] B = x :: B := fun _ => rfl
    have hB1 : ∀ y A B, lessV y.v x.v = true → insQ ltNw x (y :: A) B = insQ ltNw x A (y :: B) := fun y A B h => by rw [insQ, if_pos (show ltNw x y = true from h)]
    have hB2 : ∀ y A B, lessV y.v x.v = false → insQ ltNw x (y :: A) B = (y :: A).reverse ++ x :: B := fun y A B h => by rw [insQ, if_neg (by unfold ltNw; rw [h]; decide)]
    have hSm := Fm pre (fun e he => by rw [← hx]; simp [he])
    rw [← hE] at hEd hil
    generalize F (pre ++ [x]) = tg at *
    generalize insQ ltNw x = iB at *
    generalize F pre = S at *
    have hrx : rows Entry.ty.cs (S ++ [x]) = rows Entry.ty.cs S ++ [.sc (.string x.name), .sc (.int .i64 x.v.a), .sc (.int .i64 x.v.b), .sc (.int .i64 x.v.c), .ro (rows Ty.str.cs x.v.pre) x.v.pre.length, .ro (rows Need.ty.cs x.needs) x.needs.length] := by rw [rows_append, rows_one]; rfl
    have hrl := Entry.csl (S ++ [x])
    have hdx := entCells (r := S ++ [x]) (pre := S) (rest := []) rfl
    rw [hrx] at hrl hdx
    have z2 : IntKind.i64.wrap ((S.length : Int) + 1 - 1) = S.length := by rw [show (S.length : Int) + 1 - 1 = S.length by omega]; exact wrap_i64 (by omega) (by omega)
    clear hE F0 F1 F2 Fl Fm
    simp (disch := omega) [hd, h]
    refine cX 900 rC ?_
    simp (disch := omega) [hcp, hdx]
    refine T.forI (fun i : List Entry × Entry × List Entry => i.1.length) (fun i => iB i.1 i.2.2 = tg ∧ i.1.length + i.2.2.length = S.length ∧ (∀ e ∈ i.1, EntryY e)) (fun i => [(0, .ro (rows Entry.ty.cs r) r.length), (1, .sc (.string n)), (5, .sl 30 0 (S.length + 1) 6 false), (6, .sc (.int .i64 pre.length)), (7, .sc (.int .i64 i.1.length)), (8, .ref 8 0)]) (fun i => [(8, [.sc (.string x.name), .sc (.int .i64 x.v.a), .sc (.int .i64 x.v.b), .sc (.int .i64 x.v.c), .ro (rows Ty.str.cs x.v.pre) x.v.pre.length, .ro (rows Need.ty.cs x.needs) x.needs.length]), (30, rows Entry.ty.cs (i.1.reverse ++ i.2.1 :: i.2.2))]) (S.reverse, x, []) ⟨⟨hEd.symm, by simp, fun e he => hSm e (by simpa using he)⟩, Tl.same rfl (by simp (disch := omega) [z2]) (by simp [← hrx, Mi])⟩ ?_
    rintro ⟨A, z, B⟩ ⟨hA, hab, hAm⟩
    simp only at hA hab hAm ⊢
    have hOx : over (rows Entry.ty.cs (A.reverse ++ z :: B)) (A.length * 6) [.sc (.string x.name), .sc (.int .i64 x.v.a), .sc (.int .i64 x.v.b), .sc (.int .i64 x.v.c), .ro (rows Ty.str.cs x.v.pre) x.v.pre.length, .ro (rows Need.ty.cs x.needs) x.needs.length] = rows Entry.ty.cs (A.reverse ++ x :: B) := by
      have := over_rows Entry.ty A.reverse B x z
      rw [Entry.cse, List.length_reverse] at this
      exact this
    have hc0 : (rows Entry.ty.cs (A.reverse ++ z :: B)).length = (S.length + 1) * 6 := by
      rw [Entry.csl]
      congr 1
      simp only [List.length_append, List.length_reverse, List.length_cons]
      omega
    have y1 : A.length * 6 + 6 ≤ (S.length + 1) * 6 := by omega
    cases A with
    | nil =>
      rw [hB0] at hA
      subst hA
      simp only [List.reverse_nil, List.nil_append, List.length_nil, Nat.zero_mul] at hOx hc0 y1 ⊢
      have hf := fr (x :: B)
      have hab2 : B.length = S.length := by simpa using hab
      generalize hR1 : rows Entry.ty.cs (x :: B) = R1 at *
      generalize hR0 : rows Entry.ty.cs (z :: B) = R0 at *
      simp (disch := omega) [hR0]
      refine T.textE [] ?_ mixed
      simp (disch := omega) [merge_nil, hideH_nil]
      refine T.on 400 ?_
      simp (disch := omega) [-over, hOx, hc0, hil]
      exact Tl.ren [(30, 50)] rfl (by simp [idfree, hR1, hf, hab2])
    | cons y A =>
      have hlA : A.length + 1 ≤ S.length := by rw [← hab]; simp
      have hd2 : List.drop (A.length * 6 + 1) (rows Entry.ty.cs ((y :: A).reverse ++ z :: B)) = .sc (.int .i64 y.v.a) :: .sc (.int .i64 y.v.b) :: .sc (.int .i64 y.v.c) :: .ro (rows Ty.str.cs y.v.pre) y.v.pre.length :: .ro (rows Need.ty.cs y.needs) y.needs.length :: rows Entry.ty.cs (z :: B) := by
        have := entCells (r := (y :: A).reverse ++ z :: B) (pre := A.reverse) (x := y) (rest := z :: B) (by simp)
        rw [List.length_reverse] at this
        rw [← List.drop_drop, this]; rfl
      have hd3 : List.drop (A.length * 6) (rows Entry.ty.cs ((y :: A).reverse ++ z :: B)) = .sc (.string y.name) :: .sc (.int .i64 y.v.a) :: .sc (.int .i64 y.v.b) :: .sc (.int .i64 y.v.c) :: .ro (rows Ty.str.cs y.v.pre) y.v.pre.length :: .ro (rows Need.ty.cs y.needs) y.needs.length :: rows Entry.ty.cs (z :: B) := by
        have := entCells (r := (y :: A).reverse ++ z :: B) (pre := A.reverse) (x := y) (rest := z :: B) (by simp)
        rw [List.length_reverse] at this
        exact this
      have hOy : over (rows Entry.ty.cs ((y :: A).reverse ++ z :: B)) ((A.length + 1) * 6) [.sc (.string y.name), .sc (.int .i64 y.v.a), .sc (.int .i64 y.v.b), .sc (.int .i64 y.v.c), .ro (rows Ty.str.cs y.v.pre) y.v.pre.length, .ro (rows Need.ty.cs y.needs) y.needs.length] = rows Entry.ty.cs (A.reverse ++ y :: y :: B) := by
        have := over_rows Entry.ty (y :: A).reverse B y z
        rw [Entry.cse, List.length_reverse, show (y :: A).reverse ++ y :: B = A.reverse ++ y :: y :: B by simp] at this
        exact this
      have hyz := hAm y (by simp)
      have rL := R91 y.v x.v hyz.v.n hxz.v.n hyz.v.z hxz.v.z
      rw [Ver.cse, Ver.cse] at rL
      rw [List.length_cons] at hOx y1
      have z3 : (A.length : Int) < (S.length : Int) + 1 := by omega
      have z4 : (A.length : Int) + 1 < (S.length : Int) + 1 := by omega
      have hf := fr tg
      generalize hR0 : rows Entry.ty.cs ((y :: A).reverse ++ z :: B) = R0 at *
      simp (disch := omega) [-List.reverse_cons, hR0]
      refine T.textE [] ?_ mixed
      simp (disch := omega) [-List.reverse_cons, hd2, hc0, y1, z3, z4, merge_nil, hideH_nil]
      refine cWX 900 rL ?_
      cases hb : lessV y.v x.v
      · rw [hB2 y A B hb] at hA
        simp (disch := omega) [-List.reverse_cons, hb, hc0, y1, z3, z4, merge_nil, hideH_nil]
        refine T.on 400 ?_
        rw [hA] at hOx
        simp (disch := omega) [-List.reverse_cons, -over, hOx, hc0, y1, z3, z4, hil]
        exact Tl.ren [(30, 50)] rfl (by simp [idfree, hf, hil])
      · rw [hB1 y A B hb] at hA
        simp (disch := omega) [-List.reverse_cons, -over, hb, hd3, hOy, hc0, y1, z3, z4, merge_nil, hideH_nil]
        exact Ri_mk (A, y, y :: B) (by simp) ⟨hA, by simp at hab ⊢; omega, fun e he => hAm e (by simp [he])⟩ (Tl.same rfl (by simp (disch := omega) []) (by simp [Mi]))
set_option maxRecDepth 100000
set_option maxHeartbeats 8000000 in
theorem R43 (r : List Entry) : ∀ (d : Nat) (needs : List Need) (picks : List Pick) (f : Nat), WayZ r needs picks → freeN r picks < d → f ≤ 10000 → Ret Tryz.prog 43 [.bx (svA r f false), .ro (rows Pick.ty.cs picks) picks.length, .ro (rows Need.ty.cs needs) needs.length] (wayB picks (wayG r pickP d needs picks f).1) [.bx (svA r (wayG r pickP d needs picks f).2.1 (wayG r pickP d needs picks f).2.2), .un, .un] := by
  intro d
  induction d with
  | zero => intro needs picks f _ h; omega
  | succ d ih =>
    intro needs
    have hB : ∀ p o, wayB p o = .tup [.ro (rows Pick.ty.cs (o.getD p)) (o.getD p).length, .sc (.bool o.isSome)] := fun _ _ => rfl
    induction needs with
    | nil =>
      intro picks f hz hd hf
      rw [wayG_nil (rfl : dropN picks [] = some []), hB]
      simp only [svA_e]
      refine Ret.go Tryz.func43 ?_
      simp (disch := omega) [rows_nil, ex1, ioPos1, idfree, idfree.idfreeL]
    | cons n rest ihn =>
      intro picks f hz hd hf
      have hl : picks.length ≤ 1048576 := by have := hz.pb; omega
      have hnl : rest.length + 1 ≤ 1048700 := by have := hz.nb; simp only [List.length_cons] at this; omega
      have hrn : rows Need.ty.cs (n :: rest) = .sc (.string n.name) :: .sc (.string n.range) :: rows Need.ty.cs rest := by rw [rows_cons, Need.cse]; rfl
      have hn0 : ¬ ((rest.length : Int) + 1 = 0) := by omega
      have hrt : List.take (rest.length * 2) (rows Need.ty.cs rest) = rows Need.ty.cs rest := List.take_of_length_le (by rw [Need.csl]; exact Nat.le_refl _)
      have hrc := Need.csl rest
      have hri := Need.ty.frC rest
      have hrp : plain.plainL (rows Need.ty.cs rest) = true := Need.ty.plC rest
      have nz := hz.nz n (by simp)
      have rP := R12 picks n.name (by omega) (fun p hp => (hz.pz p hp).v.n)
      cases hpo : pickO picks n.name with
      | some v =>
        have vz : VerZ v := by
          obtain ⟨p, h1, rfl⟩ := Option.map_eq_some_iff.1 hpo
          exact (hz.pz p (List.mem_of_find?_eq_some h1)).v
        have rT := R80 n v nz.r vz
        have hD : dropN picks (n :: rest) = if takeB n v = true then dropN picks rest else none := by rw [dropN, hpo]
        have rI := ihn picks f hz.tail hd hf
        have hg : takeB n v = true → wayG r pickP (d + 1) (n :: rest) picks f = wayG r pickP (d + 1) rest picks f := fun h => by
          rw [if_pos h] at hD
          rw [wayG, wayG, hD]
        rw [hpo] at rP
        simp only [Option.getD_some, Option.isSome_some] at rP
        rw [Ver.cse] at rP
        rw [Need.cse, Ver.cse] at rT
        cases ht : takeB n v
        · rw [ht, if_neg (by decide)] at hD
          rw [ht] at rT
          rw [wayG_none hD, hB, hrn]
          simp only [svA_e]
          refine Ret.go Tryz.func43 ?_
          simp (disch := omega) [hn0]
          refine cX 900 rP ?_
          simp (disch := omega) []
          refine cX 900 rT ?_
          simp (disch := omega) [ex1, ioPos1, idfree, idfree.idfreeL]
        · rw [ht] at rT
          rw [hg ht, hrn]
          generalize wayG r pickP (d + 1) rest picks f = tg at *
          rw [hB] at rI ⊢
          simp only [svA_e] at rI ⊢
          refine Ret.go Tryz.func43 ?_
          simp (disch := omega) [hn0]
          refine cX 900 rP ?_
          simp (disch := omega) []
          refine cX 900 rT ?_
          simp (disch := omega) [hrt]
          refine cP 0 (b := 100000) rI ?_
          simp (disch := omega) [ex1, ioPos1, idfree, idfree.idfreeL]
      | none =>
        have hW := wayG_cons (r := r) (put := pickP) (d := d) (f := f) (needs := n :: rest) (picks := picks) (n := n) (rest := rest) (by rw [dropN, hpo])
        have rN := R50 r n.name hz.r12 hz.ez
        have hlen : (newestV r n.name).length ≤ 12 := by
          rw [newestV, sortI_len]
          exact Nat.le_trans (List.length_filter_le _ _) hz.r12
        have hMV : ∀ e ∈ newestV r n.name, WayZ r (rest ++ e.needs) (pickP picks ⟨e.name, e.v⟩) ∧ freeN r (pickP picks ⟨e.name, e.v⟩) < freeN r picks := fun e he => hz.more hpo he ((insE_perm _ _ _).trans (List.perm_append_singleton _ _).symm)
        have hEY : ∀ e ∈ newestV r n.name, EntryY e ∧ e.name = n.name := fun e he => ⟨hz.ez e (newestV_mem.1 he).1, tl_eq.1 (newestV_mem.1 he).2⟩
        rw [hpo] at rP
        simp only [Option.getD_none, Option.isSome_none] at rP
        rw [Ver.cse] at rP
        rw [hW]
        generalize hT : tryG (wayG r pickP d) pickP n rest picks (newestV r n.name) f = tg
        rw [hB, hrn]
        simp only [svA_e]
        generalize newestV r n.name = all at *
        clear hW ihn
        refine Ret.go Tryz.func43 ?_
        simp (disch := omega) [hn0]
        refine cX 900 rP ?_
        simp (disch := omega) []
        refine T.textE [] ?_ mixed
        simp (disch := omega) [merge_nil, hideH_nil]
        refine cWX 900 rN ?_
        simp (disch := omega) [merge_nil, hideH_nil]
        refine T.forI (fun i : List Entry × List Entry × Nat => i.2.1.length) (fun i => i.1 ++ i.2.1 = all ∧ tryG (wayG r pickP d) pickP n rest picks i.2.1 i.2.2 = tg ∧ i.2.2 ≤ 10000) (fun i => [(0, .ref 3 0), (1, .ro (rows Pick.ty.cs picks) picks.length), (2, .ro (.sc (.string n.name) :: .sc (.string n.range) :: rows Need.ty.cs rest) (rest.length + 1)), (8, .ref 8 0), (11, .ro (rows Entry.ty.cs all) all.length), (12, .sc (.int .i64 i.1.length))]) (fun i => [(3, [.ro (rows Entry.ty.cs r) r.length, .sc (.int .i64 i.2.2), .sc (.bool false)]), (8, [.sc (.string n.name), .sc (.string n.range)])]) ([], all, f) ⟨⟨rfl, hT, hf⟩, Tl.ren [(100000, 3), (8, 8)] rfl (by simp [idfree, idfree.idfreeL])⟩ ?_
        rintro ⟨pre, es, g⟩ ⟨hx, hG, hg⟩
        simp only at hx hG hg ⊢
        cases es with
        | nil =>
          rw [tryG] at hG
          subst hG
          rw [List.append_nil] at hx
          subst hx
          simp (disch := omega) []
          refine T.on 400 ?_
          simp (disch := omega) [ex1, ioPos1, idfree, idfree.idfreeL]
        | cons e es =>
          have hem : e ∈ all := by rw [← hx]; simp
          obtain ⟨ey, hen⟩ := hEY e hem
          have hde := entCells hx
          have hde1 : List.drop (pre.length * 6 + 1) (rows Entry.ty.cs all) = .sc (.int .i64 e.v.a) :: .sc (.int .i64 e.v.b) :: .sc (.int .i64 e.v.c) :: .ro (rows Ty.str.cs e.v.pre) e.v.pre.length :: .ro (rows Need.ty.cs e.needs) e.needs.length :: rows Entry.ty.cs es := by rw [← List.drop_drop, hde]; rfl
          have hde5 : List.drop (pre.length * 6 + 5) (rows Entry.ty.cs all) = .ro (rows Need.ty.cs e.needs) e.needs.length :: rows Entry.ty.cs es := by rw [← List.drop_drop, hde]; rfl
          have hl2 : pre.length < all.length := by rw [← hx]; simp
          have rT := R80 n e.v nz.r ey.v
          rw [Need.cse, Ver.cse] at rT
          cases ht : takeB n e.v
          · rw [tryG_skip ht] at hG
            rw [ht] at rT
            simp (disch := omega) []
            refine T.textE [] ?_ mixed
            simp (disch := omega) [hde1, merge_nil, hideH_nil]
            refine cWX 900 rT ?_
            simp (disch := omega) [merge_nil, hideH_nil]
            exact Ri_mk (pre ++ [e], es, g) (by simp) ⟨by simp [hx], hG, hg⟩ (Tl.same rfl (by simp (disch := omega) []) (by simp))
          · rw [ht] at rT
            by_cases hg0 : g = 0
            · subst hg0
              rw [tryG_out ht] at hG
              subst hG
              simp (disch := omega) []
              refine T.textE [] ?_ mixed
              simp (disch := omega) [hde1, merge_nil, hideH_nil]
              refine cWX 900 rT ?_
              simp (disch := omega) [merge_nil, hideH_nil, ex1, ioPos1, idfree, idfree.idfreeL]
            · have hgi : ¬ ((g : Int) ≤ 0) := by omega
              have hg1 : IntKind.i64.wrap ((g : Int) - 1) = ((g - 1 : Nat) : Int) := by rw [wrap_i64 (by omega) (by omega)]; omega
              obtain ⟨m1, m2⟩ := hMV e hem
              have rS := ih (rest ++ e.needs) (pickP picks ⟨e.name, e.v⟩) (g - 1) m1 (by omega) (by omega)
              have rK := R70 picks ⟨e.name, e.v⟩ hl
              have hec := Need.csl e.needs
              have hei := Need.ty.frC e.needs
              have hep : plain.plainL (rows Need.ty.cs e.needs) = true := Need.ty.plC e.needs
              have hel := ey.l
              have hai := Need.ty.frC (rest ++ e.needs)
              have hac := Need.csl (rest ++ e.needs)
              have hle := wayG_le r pickP d (rest ++ e.needs) (pickP picks ⟨e.name, e.v⟩) (g - 1)
              have hshn : shut.shutL (rows Need.ty.cs rest ++ rows Need.ty.cs e.needs) = true := by rw [← rows_append]; exact shutL_of (rows_all Need.ty.sh _)
              rw [hB] at rS
              simp only [svA_e] at rS
              rw [rows_append, List.length_append] at rS hac
              rw [rows_append] at hai
              rw [Pick.cse] at rK
              simp only at rK
              rw [hen] at rS rK hle
              rcases hW : wayG r pickP d (rest ++ e.needs) (pickP picks ⟨n.name, e.v⟩) (g - 1) with ⟨w, f', o⟩
              rw [hW] at rS hle
              simp only at rS hle
              simp (disch := omega) []
              refine T.textE [] ?_ mixed
              simp (disch := omega) [hde1, merge_nil, hideH_nil]
              refine cWX 900 rT ?_
              simp (disch := omega) [merge_nil, hideH_nil, hgi, hg0, hg1]
              refine T.textE [(0, [80]), (3, [80, 83]), (9, [83, 89])] ?_ mixed
              simp (disch := omega) [merge_nil, hideH_nil, hrt, hrc, hrp, hec, hep, hde5]
              have hro : ∀ h : Hp, h 89 = some (some (rows Need.ty.cs rest ++ rows Need.ty.cs e.needs)) → roc h 8 (.sl 89 0 (rest.length + e.needs.length) 2 false) = some (.ro (rows Need.ty.cs rest ++ rows Need.ty.cs e.needs) (rest.length + e.needs.length)) := fun h hb => roc_sl hb (by rw [List.length_append, hrc, hec]; omega) hshn
              refine T.le (Le.freeze 8 [0, 1, 2, 8, 11, 12] [3, 8] [(13, .ro (rows Need.ty.cs rest ++ rows Need.ty.cs e.needs) (rest.length + e.needs.length))] (by simp [menB, idfree]) (by simp [idfree]) (by simp [hro, hideH])) ?_
              refine T.le (Tl.same (ts := [(0, .ref 3 0), (1, .ro (rows Pick.ty.cs picks) picks.length), (2, .ro (.sc (.string n.name) :: .sc (.string n.range) :: rows Need.ty.cs rest) (rest.length + 1)), (8, .ref 8 0), (11, .ro (rows Entry.ty.cs all) all.length), (12, .sc (.int .i64 pre.length)), (13, .ro (rows Need.ty.cs rest ++ rows Need.ty.cs e.needs) (rest.length + e.needs.length))]) (bs := [(3, [.ro (rows Entry.ty.cs r) r.length, .sc (.int .i64 (g - 1 : Nat)), .sc (.bool false)]), (8, [.sc (.string n.name), .sc (.string n.range)])]) rfl (by simp [frz, keep_app]) (by simp [keepH_app])) ?_
              refine T.textE [(12, [3])] ?_ mixed
              simp (disch := omega) [merge_nil, hideH_nil, hde1]
              refine cWX 900 rK ?_
              simp (disch := omega) [merge_nil, hideH_nil]
              refine cPW 0 rS ?_
              cases w with
              | some l =>
                have ho : o = false := hle.2 rfl
                subst ho
                rw [tryG_some ht hg0 (by rw [hen]; exact hW)] at hG
                subst hG
                simp (disch := omega) [merge_nil, hideH_nil, ex1, ioPos1, idfree, idfree.idfreeL]
              | none =>
                cases o
                · rw [tryG_next ht hg0 (by rw [hen]; exact hW)] at hG
                  simp (disch := omega) [merge_nil, hideH_nil]
                  exact Ri_mk (pre ++ [e], es, f') (by simp) ⟨by simp [hx], hG, by have h1 : f' ≤ g - 1 := hle.1; show f' ≤ 10000; omega⟩ (Tl.same rfl (by simp (disch := omega) []) (by simp))
                · rw [tryG_over ht hg0 (by rw [hen]; exact hW)] at hG
                  subst hG
                  simp (disch := omega) [merge_nil, hideH_nil, ex1, ioPos1, idfree, idfree.idfreeL]
set_option maxRecDepth 100000
def endI (w : WayR) : List Pick × Int := if w.2.2 = true then ([], 2) else match w.1 with
  | some l => (sortI ltP l, 0)
  | none => ([], 1)
def endS (w : WayR) : List Pick × Int := match w.1 with
  | some l => (l, 0)
  | none => if w.2.2 = true then ([], 2) else ([], 1)
def fuelN (f : Int) : Nat := if inR f 0 10000 = true then f.toNat else 0
theorem fuelN_le (f : Int) : fuelN f ≤ 10000 := by
  unfold fuelN
  split
  · rename_i h
    simp only [inR, Bool.and_eq_true, decide_eq_true_eq] at h
    omega
  · omega
def wayI (r : List Entry) (needs : List Need) (f : Int) : WayR := wayG r addP 13 needs [] (fuelN f)
def wayS (r : List Entry) (needs : List Need) (f : Int) : WayR := wayG r pickP 13 needs [] (fuelN f)
def okN (r : List Entry) (needs : List Need) : Bool := regB r && needs.all needB
def solveI (r : List Entry) (needs : List Need) (f : Int) : List Pick × Int := if okN r needs = true then endI (wayI r needs f) else ([], 3)
def solveS (r : List Entry) (needs : List Need) (f : Int) : List Pick × Int := if okN r needs = true then endS (wayS r needs f) else ([], 3)
structure SolveZ (r : List Entry) (needs : List Need) : Prop where
  rl : r.length ≤ 1048577
  rz : ∀ e ∈ r, EntryY e
  nl : needs.length ≤ 1048577
  nz : ∀ n ∈ needs, NeedZ n
theorem chainE_all : ∀ {p : Option Entry} {l : List Entry}, chainE p l = true → ∀ e ∈ l, entryB e = true
  | _, [], _, e, he => by cases he
  | p, x :: l, h, e, he => by
    rw [chainE, Bool.and_eq_true] at h
    rcases List.mem_cons.1 he with rfl | he
    · have := h.1
      unfold stepE at this
      rw [Bool.and_eq_true] at this
      exact this.1
    · exact chainE_all h.2 e he
theorem regB_12 {r : List Entry} (h : regB r = true) : r.length ≤ 12 := by
  unfold regB at h
  rw [Bool.and_eq_true, decide_eq_true_eq] at h
  exact h.2
theorem regB_4 {r : List Entry} (h : regB r = true) : ∀ e ∈ r, e.needs.length ≤ 4 := fun e he => by
  unfold regB at h
  rw [Bool.and_eq_true] at h
  have h2 := chainE_all h.1 e he
  unfold entryB needsB at h2
  simp only [Bool.and_eq_true, decide_eq_true_eq] at h2
  exact h2.2.2.2
theorem wayG_Z {r : List Entry} {put : List Pick → Pick → List Pick} (hp : ∀ l p, (put l p).Perm (l ++ [p])) : ∀ (d : Nat) (needs : List Need) (picks : List Pick) (f : Nat) (l : List Pick), WayZ r needs picks → (wayG r put d needs picks f).1 = some l → WayZ r [] l
  | 0, _, _, _, _, _, h => by cases h
  | d + 1, needs, picks, f, l, hz, h => by
    cases hD : dropN picks needs with
    | none => rw [wayG_none hD] at h; cases h
    | some left =>
      cases left with
      | nil => rw [wayG_nil hD] at h; cases h; exact hz.left hD
      | cons n rest =>
        rw [wayG_cons hD] at h
        have hno := dropN_no hD
        have hz2 := hz.left hD
        have key : ∀ (es : List Entry) (f : Nat), (∀ e ∈ es, e ∈ newestV r n.name) → (tryG (wayG r put d) put n rest picks es f).1 = some l → WayZ r [] l := by
          intro es
          induction es with
          | nil => intro f _ h; cases h
          | cons e es ih =>
            intro f hm h
            cases ht : takeB n e.v
            · rw [tryG_skip ht] at h; exact ih f (fun x hx => hm x (List.mem_cons_of_mem _ hx)) h
            · by_cases hf : f = 0
              · subst hf; rw [tryG_out ht] at h; cases h
              · rcases hr : wayG r put d (rest ++ e.needs) (put picks ⟨e.name, e.v⟩) (f - 1) with ⟨_ | l', f', o⟩
                · cases o
                  · rw [tryG_next ht hf hr] at h; exact ih f' (fun x hx => hm x (List.mem_cons_of_mem _ hx)) h
                  · rw [tryG_over ht hf hr] at h; cases h
                · rw [tryG_some ht hf hr] at h
                  cases h
                  exact wayG_Z hp d _ _ _ _ (hz2.more hno (hm e (by simp)) (hp _ _)).1 (by rw [hr])
        exact key _ f (fun e he => he) h
theorem SolveZ.way {r : List Entry} {needs : List Need} (h : SolveZ r needs) (hr : regB r = true) : WayZ r needs [] ∧ freeN r [] < 13 := by
  have h12 := regB_12 hr
  have hf : freeN r [] ≤ r.length := List.length_filter_le _ _
  exact ⟨⟨h12, h.rz, regB_4 hr, by have := h.nl; omega, h.nz, by simp; omega, fun p hp => by cases hp⟩, by omega⟩
section
variable {P : Program} {p : List Nat} {fx a l n : AX} {dst : Option Nat} {st st3 : St} {K : St → Prop} {f : FuncId} {b sz : Nat} {cs cs' : List AV} {v ret y : AV}
theorem cSE (d : Nat) {b : Nat} (hR : Ret P f [.bx cs, v, .own [] 0 sz] ret [.bx cs', .un, .un]) (hK : K (st3.setO dst y)) (ha : a.ev st.ρ = .ref b 0 := by simp <;> rfl) (hb : st.h b = some (some cs) := by simp) (hn : n.ev st.ρ = v := by simp <;> rfl) (hl : l.ev st.ρ = .em := by simp <;> rfl)
    (hid : idfree.idfreeL cs = true := by rfl) (hlc : cs'.length = cs.length := by rfl) (hv : shut v = true := by rfl) (hi : inst 64 d ret (st.put b (some cs')) = some (y, st3) := by rfl) (hf : fx.ev st.ρ = .clo f [] := by rfl) (hc : callB P f = true := by kernel_rfl) (hd : dOk p dst st3.n = true := by rfl) : callK P p fx [a, n, l] dst st K := by
  have ig : isGone ((st.put b none).h b) = true := by simp only [St.put]; rw [upd_same]; rfl
  have e : (st.put b none).put b (some cs') = st.put b (some cs') := by
    simp only [St.put]
    congr 1
    funext i
    by_cases ei : i = b
    · subst ei; rw [upd_same, upd_same]
    · rw [upd_ne _ _ ei, upd_ne _ _ ei, upd_ne _ _ ei]
  refine callK.cut [.io, .ro, .mv sz] d (fl := [(.io, .ref b 0), (.ro, v), (.mv sz, .em)]) (r := [(some (.bx cs), some b), (none, none), (some (.own [] 0 sz), none)]) (st1 := st.put b none) (yl := [.bx cs, v, .own [] 0 sz]) (ys := [.bx cs, v, .own [] 0 sz]) (ol := [.bx cs', .un, .un]) (st2 := st.put b (some cs')) hf hc rfl ?_ ?_ ?_ ?_ rfl hR rfl ?_ hi hd hK
  · simp only [List.append_nil, List.map_cons, List.map_nil, List.zip_cons_cons, List.zip_nil_left, ha, hn, hl, flatL, flat1] <;> rfl
  · simp only [exL, ex1, hb, hid, if_true, Option.map_some]
  · simp only [closedB, hv]; rfl
  · simp only [shutArgs, roc_sh hv, Option.map_some]
  · simp only [backL, hlc, ig, and_self, if_true, e]
end
set_option maxHeartbeats 8000000 in
theorem R8 (r : List Entry) (needs : List Need) (f : Int) (h : SolveZ r needs) : Ret Tryz.prog 8 [.ro (rows Entry.ty.cs r) r.length, .ro (rows Need.ty.cs needs) needs.length, .sc (.int .i64 f)] (.tup [.own (rows Pick.ty.cs (solveI r needs f).1) (solveI r needs f).1.length 5, .sc (.int .i64 (solveI r needs f).2)]) [.un, .un, .un] := by
  have rR := R25 r (by have := h.rl; omega) fun e he => (h.rz e he).z2
  cases hr : regB r
  · have e : solveI r needs f = ([], 3) := by unfold solveI okN; rw [if_neg (by rw [hr]; simp)]
    rw [hr] at rR
    rw [e]
    refine Ret.go Tryz.func8 ?_
    simp (disch := omega) []
    refine cX 900 rR ?_
    simp (disch := omega) [ex1, rows_nil]
  · have hnl := h.nl
    obtain ⟨hw, hd⟩ := h.way hr
    rw [hr] at rR
    have hI0 : needs.all needB = false → solveI r needs f = ([], 3) := fun hn => by unfold solveI okN; rw [if_neg (by rw [hn]; simp)]
    have hI1 : needs.all needB = true → solveI r needs f = endI (wayI r needs f) := fun hn => by unfold solveI okN; rw [if_pos (by rw [hr, hn]; rfl)]
    have rF := R27 f 0 10000
    have rS := R28 r 13 needs [] (fuelN f) hw hd (fuelN_le f)
    have hZ := wayG_Z (r := r) (put := addP) (fun l p => .refl _) 13 needs [] (fuelN f)
    have hF : fuelN f = if inR f 0 10000 = true then f.toNat else 0 := rfl
    have hfi : inR f 0 10000 = true → ((f.toNat : Nat) : Int) = f := fun h => by
      simp only [inR, Bool.and_eq_true, decide_eq_true_eq] at h
      omega
    rw [show wayG r addP 13 needs [] (fuelN f) = wayI r needs f from rfl] at rS hZ
    generalize fuelN f = fn at *
    generalize wayI r needs f = W at *
    simp only [svA_e, wayA, rows_nil, List.length_nil] at rS
    have hXi := Pick.ty.frC (W.1.getD [])
    have hXc := Pick.csl (W.1.getD [])
    refine Ret.go Tryz.func8 ?_
    simp (disch := omega) []
    refine cX 900 rR ?_
    simp (disch := omega) []
    refine T.forL needs (fun pre _ => pre.all needB = true) (fun pre _ => [(0, .ro (rows Entry.ty.cs r) r.length), (1, .ro (rows Need.ty.cs needs) needs.length), (2, .sc (.int .i64 f)), (16, .ro (rows Need.ty.cs needs) needs.length), (17, .sc (.int .i64 needs.length)), (18, .sc (.int .i64 pre.length))]) (fun _ _ => []) ⟨rfl, by simp⟩ ?_ ?_
    · intro hJ
      rw [hI1 hJ]
      simp (disch := omega) []
      refine T.on 1000 ?_
      simp (disch := omega) []
      refine cX 900 rF ?_
      have hG : ∀ (P : Int → Prop), (inR f 0 10000 = true → P f) → (inR f 0 10000 = false → P 0) → P fn := fun P h1 h2 => by
        cases hb : inR f 0 10000
        · rw [hF, hb]; exact h2 hb
        · rw [hF, hb]
          show P (f.toNat : Int)
          rw [hfi hb]
          exact h1 hb
      cases hb : inR f 0 10000
      case' false => have hfn : (fn : Int) = 0 := by rw [hF, hb]; rfl
      case' true => have hfn : (fn : Int) = f := by rw [hF, hb]; exact hfi hb
      all_goals
        clear hG hF
        simp (disch := omega) []
        rw [hfn] at rS
        refine cSE 0 (b := 10) rS ?_
        rcases W with ⟨w, f', o⟩
        cases o
        · cases w with
          | none => simp (disch := omega) [endI, ex1, rows_nil]
          | some l =>
            have hl := (hZ l hw rfl).pb
            have rQ := R29 l (by omega) 30 (fun x y => cmpS x.name y.name) (by kernel_rfl) (fun x _ y _ => R30 x y)
            have hsl := sortI_len ltP l
            have hlt : (fun x y : Pick => decide (cmpS x.name y.name < 0)) = ltP := by funext x y; exact cmpS_ltP x y
            simp only [Option.getD_some] at hXi hXc
            have hYi := Pick.ty.frC (sortI ltP l)
            have hYc := Pick.csl (sortI ltP l)
            rw [hlt] at rQ
            rw [hsl] at hYc
            have hE : endI (some l, f', false) = (sortI ltP l, 0) := rfl
            rw [hE]
            generalize sortI ltP l = Y at *
            simp (disch := omega) []
            refine cI 1000 rQ ?_ (by rw [hXc]) (by rw [hYc, hXc]) hXi
            simp (disch := omega) [ex1, hYi, hYc, hsl]
        · simp (disch := omega) [endI, ex1, rows_nil]
    · intro pre n rest hx hl2 hJ
      have hdn := needCells hx
      have rN := R26 n (h.nz n (by rw [← hx]; simp))
      rw [Need.cse] at rN
      cases hb : needB n
      · rw [hI0 (by rw [← hx, List.all_append, List.all_cons, hb]; simp)]
        rw [hb] at rN
        simp (disch := omega) [hdn]
        refine cX 900 rN ?_
        simp (disch := omega) [ex1, rows_nil]
      · rw [hb] at rN
        simp (disch := omega) [hdn]
        refine cX 900 rN ?_
        simp (disch := omega) [hb]
        simpa using hJ
theorem R41 (needs : List Need) (hl : needs.length ≤ 1048577) (hz : ∀ n ∈ needs, NeedZ n) : Ret Tryz.prog 41 [.ro (rows Need.ty.cs needs) needs.length] (.sc (.bool (needs.all needB))) [.un] := by
  have hI0 : needs.all needB = false → ∀ b, needs.all needB = b → b = false := fun h b hb => by rw [← hb, h]
  generalize hC : needs.all needB = tg
  refine Ret.go Tryz.func41 ?_
  simp (disch := omega) []
  refine T.forL needs (fun pre _ => pre.all needB = true) (fun pre _ => [(0, .ro (rows Need.ty.cs needs) needs.length), (3, .sc (.int .i64 pre.length))]) (fun _ _ => []) ⟨rfl, by simp⟩ ?_ ?_
  · intro hJ
    rw [hJ] at hC
    subst hC
    simp (disch := omega) []
    refine T.on 400 ?_
    simp (disch := omega) []
  · intro pre n rest hx hl2 hJ
    have hdn := needCells hx
    have rN := R79 n (hz n (by rw [← hx]; simp))
    rw [Need.cse] at rN
    cases hb : needB n
    · rw [← hx, List.all_append, List.all_cons, hb, Bool.false_and, Bool.and_false] at hC
      subst hC
      rw [hb] at rN
      simp (disch := omega) [hdn]
      refine cX 900 rN ?_
      simp (disch := omega) []
    · rw [hb] at rN
      simp (disch := omega) [hdn]
      refine cX 900 rN ?_
      simp (disch := omega) [hb]
      simpa using hJ
set_option maxHeartbeats 8000000 in
theorem R16 (r : List Entry) (needs : List Need) (f : Int) (h : SolveZ r needs) : Ret Tryz.prog 16 [.ro (rows Entry.ty.cs r) r.length, .ro (rows Need.ty.cs needs) needs.length, .sc (.int .i64 f)] (.tup [.ro (rows Pick.ty.cs (solveS r needs f).1) (solveS r needs f).1.length, .sc (.int .i64 (solveS r needs f).2)]) [.un, .un, .un] := by
  have rR := R40 r (by have := h.rl; omega) fun e he => (h.rz e he).z2
  have rA := R41 needs h.nl h.nz
  cases hk : okN r needs
  · have e : solveS r needs f = ([], 3) := by unfold solveS; rw [if_neg (by rw [hk]; decide)]
    rw [e]
    refine Ret.cool (ret := .tup [.own [] 0 5, .sc (.int .i64 3)]) ?_ rfl
    unfold okN at hk
    generalize regB r = rb at *
    generalize needs.all needB = nb at *
    cases rb
    · refine Ret.go Tryz.func16 ?_
      simp (disch := omega) []
      refine cX 900 rR ?_
      simp (disch := omega) [ex1, idfree.idfreeL]
    · cases nb
      · refine Ret.go Tryz.func16 ?_
        simp (disch := omega) []
        refine cX 900 rR ?_
        simp (disch := omega) []
        refine cX 900 rA ?_
        simp (disch := omega) [ex1, idfree.idfreeL]
      · cases hk
  · have hI1 : solveS r needs f = endS (wayS r needs f) := by unfold solveS; rw [if_pos hk]
    have hk2 : regB r = true ∧ needs.all needB = true := by unfold okN at hk; rwa [Bool.and_eq_true] at hk
    obtain ⟨hw, hd⟩ := h.way hk2.1
    rw [hk2.1] at rR
    rw [hk2.2] at rA
    have rF := R42 f 0 10000
    have rS := R43 r 13 needs [] (fuelN f) hw hd (fuelN_le f)
    have hle := wayG_le r pickP 13 needs [] (fuelN f)
    have hF : fuelN f = if inR f 0 10000 = true then f.toNat else 0 := rfl
    have hfi : inR f 0 10000 = true → ((f.toNat : Nat) : Int) = f := fun h => by
      simp only [inR, Bool.and_eq_true, decide_eq_true_eq] at h
      omega
    rw [hI1]
    rw [show wayG r pickP 13 needs [] (fuelN f) = wayS r needs f from rfl] at rS hle
    generalize fuelN f = fn at *
    generalize wayS r needs f = W at *
    simp only [svA_e, wayB, rows_nil, List.length_nil] at rS
    have hfn : (inR f 0 10000 = false ∧ (fn : Int) = 0) ∨ (inR f 0 10000 = true ∧ (fn : Int) = f) := by
      cases hb : inR f 0 10000
      · exact .inl ⟨rfl, by rw [hF, hb]; rfl⟩
      · exact .inr ⟨rfl, by rw [hF, hb]; exact hfi hb⟩
    clear hF hfi
    rcases W with ⟨w, f', o⟩
    have hro : ∀ h : Hp, h 12 = some (some []) → roc h 8 (.sl 12 0 0 5 false) = some (.ro [] 0) := fun h hb => roc_sl hb rfl rfl
    refine Ret.go Tryz.func16 ?_
    simp (disch := omega) []
    refine cX 900 rR ?_
    simp (disch := omega) []
    refine cX 900 rA ?_
    simp (disch := omega) []
    refine cX 900 rF ?_
    rcases hfn with ⟨hb, hfn⟩ | ⟨hb, hfn⟩
    all_goals
      simp (disch := omega) [hb]
      rw [hfn] at rS
      refine callK.le (Le.freeze 8 [9, 30, 32] [28] [(8, .ro [] 0), (31, .ro [] 0)] (by simp [menB, idfree]) (by simp [idfree]) (by rintro t y hty; simp at hty; rcases hty with ⟨rfl, rfl⟩ | ⟨rfl, rfl⟩ <;> simp [hro, hideH])) ?_
      simp only [frz]
      refine cP 0 (b := 28) rS ?_ (ha := by simp [keep_app]) (hb := by simp [keepH_app]) (has := by simp [keep_app]) (hi := by rfl)
      cases w with
      | some l =>
        have ho : o = false := hle.2 rfl
        subst ho
        simp (disch := omega) [endS, ex1, keep_app]
      | none =>
        cases o <;> simp (disch := omega) [endS, ex1, keep_app, keepH_app, rows_nil]
set_option maxRecDepth 100000
theorem bL_trans {a b c : ByteArray} (h1 : bL a b = true) (h2 : bL b c = true) : bL a c = true := bL_lt.2 (List.lt_trans (bL_lt.1 h1) (bL_lt.1 h2))
theorem partL_trans {a b c : ByteArray} (h1 : partL a b = true) (h2 : partL b c = true) : partL a c = true := by
  unfold partL at *
  cases ha : oneW a <;> cases hb : oneW b <;> cases hc : oneW c <;> simp only [ha, hb, hc, and_self, and_true, true_and, and_false, false_and, if_true, if_false, Bool.false_eq_true, reduceCtorEq, Bool.true_eq_false] at h1 h2 ⊢
  all_goals first
    | exact bL_trans h1 h2
    | skip
  by_cases e1 : a.size = b.size <;> by_cases e2 : b.size = c.size
  · rw [if_pos e1] at h1; rw [if_pos e2] at h2; rw [if_pos (by omega)]; exact bL_trans h1 h2
  · rw [if_neg e2, decide_eq_true_eq] at h2; rw [if_neg (by omega), decide_eq_true_eq]; omega
  · rw [if_neg e1, decide_eq_true_eq] at h1; rw [if_neg (by omega), decide_eq_true_eq]; omega
  · rw [if_neg e1, decide_eq_true_eq] at h1; rw [if_neg e2, decide_eq_true_eq] at h2; rw [if_neg (by omega), decide_eq_true_eq]; omega
theorem cmpW_trans {a b c : ByteArray} (h1 : cmpW a b < 0) (h2 : cmpW b c < 0) : cmpW a c < 0 := by
  have := partL_trans (a := a) (b := b) (c := c) (by rw [partL_eq]; exact decide_eq_true h1) (by rw [partL_eq]; exact decide_eq_true h2)
  rw [partL_eq] at this
  exact of_decide_eq_true this
theorem cmpP_trans : ∀ {a b c : List ByteArray}, cmpP a b < 0 → cmpP b c < 0 → cmpP a c < 0
  | [], [], _, h1, _ => by simp [cmpP] at h1
  | [], _ :: _, [], _, h2 => by simp [cmpP] at h2
  | [], _ :: _, _ :: _, _, _ => by simp [cmpP]
  | _ :: _, [], _, h1, _ => by simp [cmpP] at h1
  | _ :: _, _ :: _, [], _, h2 => by simp [cmpP] at h2
  | x :: xs, y :: ys, z :: zs, h1, h2 => by
    rw [cmpP] at h1 h2 ⊢
    by_cases e1 : cmpW x y = 0
    · rw [if_pos e1] at h1
      rw [cmpW_0.1 e1]
      by_cases e2 : cmpW y z = 0
      · rw [if_pos e2] at h2 ⊢; exact cmpP_trans h1 h2
      · rw [if_neg e2] at h2 ⊢; exact h2
    · rw [if_neg e1] at h1
      by_cases e2 : cmpW y z = 0
      · rw [← cmpW_0.1 e2, if_neg e1]; exact h1
      · rw [if_neg e2] at h2
        have := cmpW_trans h1 h2
        rw [if_neg (by omega)]; exact this
theorem preL_trans {a b c : List ByteArray} (h1 : preL a b = true) (h2 : preL b c = true) : preL a c = true := by
  unfold preL at *
  cases a with
  | nil => simp at h1
  | cons x a =>
    cases c with
    | nil => simp
    | cons z c =>
      cases b with
      | nil => simp at h2
      | cons y b =>
        simp only [reduceCtorEq, or_self, if_false, decide_eq_true_eq] at h1 h2 ⊢
        exact cmpP_trans h1 h2
theorem lessV_iff (v w : Ver) : lessV v w = true ↔ v.a < w.a ∨ v.a = w.a ∧ (v.b < w.b ∨ v.b = w.b ∧ (v.c < w.c ∨ v.c = w.c ∧ preL v.pre w.pre = true)) := by
  rw [lessV_eq]
  by_cases h1 : v.a = w.a
  · by_cases h2 : v.b = w.b
    · by_cases h3 : v.c = w.c
      · simp [h1, h2, h3]
      · simp [h1, h2, h3]
    · simp [h1, h2]
  · simp [h1]
theorem lessV_trans {u v w : Ver} (h1 : lessV u v = true) (h2 : lessV v w = true) : lessV u w = true := by
  rw [lessV_iff] at *
  rcases h1 with h1 | ⟨a1, h1 | ⟨b1, h1 | ⟨c1, h1⟩⟩⟩ <;> rcases h2 with h2 | ⟨a2, h2 | ⟨b2, h2 | ⟨c2, h2⟩⟩⟩
  all_goals first
    | exact .inl (by omega)
    | exact .inr ⟨by omega, .inl (by omega)⟩
    | exact .inr ⟨by omega, .inr ⟨by omega, .inl (by omega)⟩⟩
    | exact .inr ⟨by omega, .inr ⟨by omega, .inr ⟨by omega, preL_trans h1 h2⟩⟩⟩
theorem lessV_irr (v : Ver) : lessV v v = false := by
  unfold lessV
  have := cmpV_neg v v
  exact decide_eq_false (by omega)
theorem lessV_asy {v w : Ver} (h : lessV v w = true) : lessV w v = false := by
  cases h2 : lessV w v
  · rfl
  · have := lessV_trans h h2
    rw [lessV_irr] at this
    cases this
theorem sameV_eq {v w : Ver} (h : sameV v w = true) : v = w := by
  have h0 := h
  rw [sameV_0, decide_eq_true_eq] at h
  have hc : cmpC v w = 0 := by
    unfold sameV at h0
    rw [Bool.and_eq_true] at h0
    exact (cmpC_0 v w).2 h0.1
  have hk := (cmpC_0 v w).1 hc
  unfold cmpV at h
  rw [if_pos hc] at h
  have hp : v.pre = w.pre := by
    split at h
    · exact (cmpP_0 _ _).1 h
    · split at h <;> cases h
  unfold coreV at hk
  simp only [Bool.and_eq_true, decide_eq_true_eq] at hk
  obtain ⟨a, b, c, p⟩ := v
  obtain ⟨a', b', c', p'⟩ := w
  simp only at hk hp
  obtain ⟨rfl, rfl, rfl⟩ := hk
  subst hp
  rfl
theorem sameV_self (v : Ver) : sameV v v = true := by
  rw [sameV_0]
  have := cmpV_neg v v
  exact decide_eq_true (by omega)
theorem lessV_tot {v w : Ver} (h1 : lessV v w = false) (h2 : lessV w v = false) : v = w := by
  unfold lessV at h1 h2
  have := cmpV_neg v w
  simp only [decide_eq_false_iff_not] at h1 h2
  exact sameV_eq (by rw [sameV_0]; exact decide_eq_true (by omega))
theorem lessE_iff (x y : Entry) : lessE x y = true ↔ bL x.name y.name = true ∨ x.name = y.name ∧ lessV x.v y.v = true := by
  unfold lessE
  rw [Bool.or_eq_true, Bool.and_eq_true, beq_iff_eq, tl_eq]
theorem lessE_trans {x y z : Entry} (h1 : lessE x y = true) (h2 : lessE y z = true) : lessE x z = true := by
  rw [lessE_iff] at *
  rcases h1 with h1 | ⟨e1, h1⟩ <;> rcases h2 with h2 | ⟨e2, h2⟩
  · exact .inl (bL_trans h1 h2)
  · exact .inl (by rw [← e2]; exact h1)
  · exact .inl (by rw [e1]; exact h2)
  · exact .inr ⟨e1.trans e2, lessV_trans h1 h2⟩
theorem lessE_same {x y : Entry} (hn : x.name = y.name) (hv : x.v = y.v) : lessE x y = false := by
  cases h : lessE x y
  · rfl
  · rcases (lessE_iff x y).1 h with h | ⟨_, h⟩
    · rw [hn, bL_irr] at h; cases h
    · rw [hv, lessV_irr] at h; cases h
theorem lessE_tot {x y : Entry} (h1 : lessE x y = false) (h2 : lessE y x = false) : x.name = y.name ∧ x.v = y.v := by
  have k1 : ¬ (bL x.name y.name = true ∨ x.name = y.name ∧ lessV x.v y.v = true) := fun h => by rw [(lessE_iff _ _).2 h] at h1; cases h1
  have k2 : ¬ (bL y.name x.name = true ∨ y.name = x.name ∧ lessV y.v x.v = true) := fun h => by rw [(lessE_iff _ _).2 h] at h2; cases h2
  have hn : x.name = y.name := bL_tot (by cases h : bL x.name y.name; rfl; exact absurd (.inl h) k1) (by cases h : bL y.name x.name; rfl; exact absurd (.inl h) k2)
  exact ⟨hn, lessV_tot (by cases h : lessV x.v y.v; rfl; exact absurd (.inr ⟨hn, h⟩) k1) (by cases h : lessV y.v x.v; rfl; exact absurd (.inr ⟨hn.symm, h⟩) k2)⟩
def AscE (l : List Entry) : Prop := l.Pairwise fun x y => lessE x y = true
theorem chainE_asc : ∀ {p : Option Entry} {l : List Entry}, chainE p l = true → AscE l ∧ ∀ q, p = some q → ∀ x ∈ l, lessE q x = true
  | p, [], _ => ⟨.nil, fun _ _ x hx => by cases hx⟩
  | p, x :: l, h => by
    rw [chainE, Bool.and_eq_true] at h
    obtain ⟨h1, h2⟩ := chainE_asc h.2
    have h3 := h2 x rfl
    refine ⟨List.pairwise_cons.2 ⟨h3, h1⟩, fun q hq y hy => ?_⟩
    subst hq
    have hs := h.1
    unfold stepE at hs
    rw [Bool.and_eq_true] at hs
    rcases List.mem_cons.1 hy with rfl | hy
    · exact hs.2
    · exact lessE_trans hs.2 (h3 y hy)
theorem asc_chainE {l : List Entry} (hb : ∀ e ∈ l, entryB e = true) (ha : AscE l) : ∀ {p : Option Entry}, (∀ q, p = some q → ∀ x ∈ l, lessE q x = true) → chainE p l = true := by
  induction l with
  | nil => intro p _; cases p <;> rfl
  | cons x l ih =>
    intro p hp
    obtain ⟨h1, h2⟩ := List.pairwise_cons.1 ha
    rw [chainE, Bool.and_eq_true]
    refine ⟨?_, ih (fun e he => hb e (List.mem_cons_of_mem _ he)) h2 (fun q hq y hy => by cases hq; exact h1 y hy)⟩
    unfold stepE
    rw [hb x (by simp), Bool.true_and]
    cases p with
    | none => rfl
    | some q => exact hp q rfl x (by simp)
theorem pw_cases {α : Type} {R : α → α → Prop} : ∀ {l : List α}, l.Pairwise R → ∀ {x y : α}, x ∈ l → y ∈ l → x = y ∨ R x y ∨ R y x
  | [], _, x, y, hx, _ => by cases hx
  | z :: l, h, x, y, hx, hy => by
    obtain ⟨h1, h2⟩ := List.pairwise_cons.1 h
    rcases List.mem_cons.1 hx with ex | kx <;> rcases List.mem_cons.1 hy with ey | ky
    · exact .inl (ex.trans ey.symm)
    · subst ex; exact .inr (.inl (h1 y ky))
    · subst ey; exact .inr (.inr (h1 x kx))
    · exact pw_cases h2 kx ky
def UniE (r : List Entry) : Prop := ∀ e ∈ r, ∀ x ∈ r, x.name = e.name → x.v = e.v → x = e
theorem AscE.uni {r : List Entry} (h : AscE r) : UniE r := fun e he x hx h1 h2 => by
  rcases pw_cases h hx he with h3 | h3 | h3
  · exact h3
  · rw [lessE_same h1 h2] at h3; cases h3
  · rw [lessE_same h1.symm h2.symm] at h3; cases h3
theorem regB_asc {r : List Entry} (h : regB r = true) : AscE r := by
  unfold regB at h
  rw [Bool.and_eq_true] at h
  exact (chainE_asc h.1).1
theorem atE_iff {n : ByteArray} {v : Ver} {e : Entry} : atE n v e = true ↔ e.name = n ∧ e.v = v := by
  unfold atE
  rw [Bool.and_eq_true, beq_iff_eq, tl_eq]
  exact ⟨fun ⟨h1, h2⟩ => ⟨h1, sameV_eq h2⟩, fun ⟨h1, h2⟩ => ⟨h1, by rw [h2]; exact sameV_self v⟩⟩
theorem entryO_some {r : List Entry} {n : ByteArray} {v : Ver} {e : Entry} (h : entryO r n v = some e) : e ∈ r ∧ e.name = n ∧ e.v = v :=
  ⟨List.mem_of_find?_eq_some h, atE_iff.1 (List.find?_some h)⟩
theorem entryO_of {r : List Entry} (hu : UniE r) {e : Entry} (he : e ∈ r) : entryO r e.name e.v = some e := by
  cases h : entryO r e.name e.v with
  | none =>
    have := List.find?_eq_none.1 h e he
    exact absurd (atE_iff.2 ⟨rfl, rfl⟩) this
  | some x =>
    obtain ⟨h1, h2, h3⟩ := entryO_some h
    rw [hu e he x h1 h2 h3]
set_option maxRecDepth 100000
def Names (l : List Pick) : Prop := (l.map (·.name)).Nodup
theorem atP_iff {n : ByteArray} {p : Pick} : atP n p = true ↔ p.name = n := by unfold atP; rw [beq_iff_eq, tl_eq]
theorem pickO_mem {l : List Pick} {n : ByteArray} {v : Ver} (h : pickO l n = some v) : (⟨n, v⟩ : Pick) ∈ l := by
  obtain ⟨p, h1, rfl⟩ := Option.map_eq_some_iff.1 h
  have h2 := atP_iff.1 (List.find?_some h1)
  have h3 := List.mem_of_find?_eq_some h1
  subst h2
  exact h3
theorem pickO_of : ∀ {l : List Pick}, Names l → ∀ {p : Pick}, p ∈ l → pickO l p.name = some p.v
  | [], _, p, hp => by cases hp
  | q :: l, hl, p, hp => by
    have hl' : (q.name :: l.map (·.name)).Nodup := hl
    obtain ⟨h1, h2⟩ := List.nodup_cons.1 hl'
    rw [pickO]
    rcases List.mem_cons.1 hp with rfl | hp
    · rw [List.find?_cons_of_pos (atP_iff.2 rfl)]; rfl
    · have hne : ¬ atP p.name q = true := fun h => h1 (List.mem_map.2 ⟨p, hp, (atP_iff.1 h).symm⟩)
      rw [List.find?_cons_of_neg hne]
      exact pickO_of h2 hp
theorem Names.perm {l m : List Pick} (h : Names l) (hp : l.Perm m) : Names m := (hp.map _).nodup_iff.1 h
theorem pickO_perm {l m : List Pick} (h : Names l) (hp : l.Perm m) (n : ByteArray) : pickO l n = pickO m n := by
  have hm := h.perm hp
  cases h1 : pickO l n with
  | some v => exact (pickO_of hm (hp.mem_iff.1 (pickO_mem h1))).symm
  | none =>
    cases h2 : pickO m n with
    | none => rfl
    | some v =>
      have := pickO_of h (hp.mem_iff.2 (pickO_mem h2))
      rw [h1] at this
      cases this
theorem noName_mem {l : List Pick} {n : ByteArray} (h : noName l n = true) {p : Pick} (hp : p ∈ l) : p.name ≠ n := fun e => by
  have := noName_iff.1 h p hp
  rw [atP_iff.2 e] at this
  cases this
theorem noName_perm {l m : List Pick} (hp : l.Perm m) (n : ByteArray) : noName l n = noName m n := by
  have : noName l n = true ↔ noName m n = true := by
    rw [noName_iff, noName_iff]
    exact forall_congr' fun q => by rw [hp.mem_iff]
  cases h1 : noName l n <;> cases h2 : noName m n <;> simp_all
theorem Names.put {l m : List Pick} {p : Pick} (h : Names l) (hn : noName l p.name = true) (hp : m.Perm (l ++ [p])) : Names m := by
  refine Names.perm ?_ hp.symm
  show ((l ++ [p]).map (·.name)).Nodup
  rw [List.map_append, List.nodup_append]
  refine ⟨h, by simp, fun a ha b hb e => ?_⟩
  obtain ⟨q, hq, rfl⟩ := List.mem_map.1 ha
  have : b = p.name := by simpa using hb
  exact noName_mem hn hq (by rw [e, this])
theorem dropN_perm {l m : List Pick} (h : Names l) (hp : l.Perm m) : ∀ needs : List Need, dropN l needs = dropN m needs
  | [] => rfl
  | n :: rest => by rw [dropN, dropN, pickO_perm h hp, dropN_perm h hp rest]
def RelW (w1 w2 : WayR) : Prop := w1.2 = w2.2 ∧ match w1.1, w2.1 with
  | some a, some b => a.Perm b ∧ Names a
  | none, none => True
  | _, _ => False
theorem wayG_rel {r : List Entry} {p1 p2 : List Pick → Pick → List Pick} (h1 : ∀ l p, (p1 l p).Perm (l ++ [p])) (h2 : ∀ l p, (p2 l p).Perm (l ++ [p])) : ∀ (d : Nat) (needs : List Need) (l m : List Pick) (f : Nat), Names l → l.Perm m → RelW (wayG r p1 d needs l f) (wayG r p2 d needs m f)
  | 0, _, _, _, _, _, _ => ⟨rfl, trivial⟩
  | d + 1, needs, l, m, f, hl, hp => by
    have hD := dropN_perm hl hp needs
    cases h : dropN l needs with
    | none => rw [wayG_none h, wayG_none (by rw [← hD, h])]; exact ⟨rfl, trivial⟩
    | some left =>
      cases left with
      | nil => rw [wayG_nil h, wayG_nil (by rw [← hD, h])]; exact ⟨rfl, hp, hl⟩
      | cons n rest =>
        rw [wayG_cons h, wayG_cons (by rw [← hD, h])]
        have hno := pickO_no (dropN_no h)
        have key : ∀ (es : List Entry) (f : Nat), (∀ e ∈ es, e.name = n.name) → RelW (tryG (wayG r p1 d) p1 n rest l es f) (tryG (wayG r p2 d) p2 n rest m es f) := by
          intro es
          induction es with
          | nil => intro f _; exact ⟨rfl, trivial⟩
          | cons e es ih =>
            intro f he
            have ih := fun f => ih f fun x hx => he x (List.mem_cons_of_mem _ hx)
            cases ht : takeB n e.v
            · rw [tryG_skip ht, tryG_skip ht]; exact ih f
            · by_cases hf : f = 0
              · subst hf; rw [tryG_out ht, tryG_out ht]; exact ⟨rfl, trivial⟩
              · have hpp : (p1 l ⟨e.name, e.v⟩).Perm (p2 m ⟨e.name, e.v⟩) := (h1 _ _).trans ((hp.append_right _).trans (h2 _ _).symm)
                have hN : Names (p1 l ⟨e.name, e.v⟩) := hl.put (by rw [he e (by simp)]; exact hno) (h1 _ _)
                have hR := wayG_rel (r := r) h1 h2 d (rest ++ e.needs) _ _ (f - 1) hN hpp
                rcases hr1 : wayG r p1 d (rest ++ e.needs) (p1 l ⟨e.name, e.v⟩) (f - 1) with ⟨w1, f1, o1⟩
                rcases hr2 : wayG r p2 d (rest ++ e.needs) (p2 m ⟨e.name, e.v⟩) (f - 1) with ⟨w2, f2, o2⟩
                rw [hr1, hr2] at hR
                obtain ⟨e1, e2⟩ := hR
                have e1 : (f1, o1) = (f2, o2) := e1
                cases e1
                cases w1 with
                | some a =>
                  cases w2 with
                  | none => exact e2.elim
                  | some b => rw [tryG_some ht hf hr1, tryG_some ht hf hr2]; exact ⟨rfl, e2⟩
                | none =>
                  cases w2 with
                  | some b => exact e2.elim
                  | none =>
                    cases o1
                    · rw [tryG_next ht hf hr1, tryG_next ht hf hr2]; exact ih f1
                    · rw [tryG_over ht hf hr1, tryG_over ht hf hr2]; exact ⟨rfl, trivial⟩
        exact key _ f fun e he => tl_eq.1 (newestV_mem.1 he).2
def AscP (l : List Pick) : Prop := l.Pairwise fun p q => bL p.name q.name = true
theorem insQ_asc (x : Pick) : ∀ (A B : List Pick), AscP (A.reverse ++ B) → (∀ b ∈ B, bL x.name b.name = true) → (∀ a ∈ A, a.name ≠ x.name) → AscP (insQ ltP x A B)
  | [], B, h, hB, _ => List.pairwise_cons.2 ⟨hB, h⟩
  | y :: A, B, h, hB, hA => by
    have e : (y :: A).reverse ++ B = A.reverse ++ y :: B := by simp
    rw [insQ]
    cases hb : ltP x y
    · rw [if_neg (by decide)]
      have hyx : bL y.name x.name = true := by
        cases h3 : bL y.name x.name
        · exact absurd (bL_tot h3 hb) (hA y (by simp))
        · rfl
      rw [e] at h
      have hpw := List.pairwise_append.1 h
      obtain ⟨q1, q2, q3⟩ := hpw
      have hr : (y :: A).reverse ++ x :: B = A.reverse ++ (y :: x :: B) := by simp
      rw [hr]
      refine List.pairwise_append.2 ⟨q1, List.pairwise_cons.2 ⟨fun b hb => ?_, List.pairwise_cons.2 ⟨hB, (List.pairwise_cons.1 q2).2⟩⟩, fun a ha b hb => ?_⟩
      · rcases List.mem_cons.1 hb with rfl | hb
        · exact hyx
        · exact bL_trans hyx (hB b hb)
      · have hay := q3 a ha y (by simp)
        rcases List.mem_cons.1 hb with rfl | hb
        · exact hay
        · rcases List.mem_cons.1 hb with rfl | hb
          · exact bL_trans hay hyx
          · exact q3 a ha b (List.mem_cons_of_mem _ hb)
    · rw [if_pos rfl]
      rw [e] at h
      refine insQ_asc x A (y :: B) h (fun b hb' => ?_) fun a ha => hA a (List.mem_cons_of_mem _ ha)
      rcases List.mem_cons.1 hb' with rfl | hb'
      · exact hb
      · exact hB b hb'
theorem pickP_asc {l : List Pick} {p : Pick} (h : AscP l) (hn : noName l p.name = true) : AscP (pickP l p) := by
  refine insQ_asc p l.reverse [] (by simpa using h) (fun b hb => by cases hb) fun a ha => ?_
  exact noName_mem hn (by simpa using ha)
theorem sortI_asc {l : List Pick} (h : Names l) : AscP (sortI ltP l) := by
  have key : ∀ (l S : List Pick), AscP S → Names (S ++ l) → AscP (l.foldl (insE ltP) S) := by
    intro l
    induction l with
    | nil => intro S h _; exact h
    | cons x l ih =>
      intro S hS hN
      rw [List.foldl_cons]
      have hpm : (insE ltP S x ++ l).Perm (S ++ x :: l) := ((insE_perm ltP S x).append_right l).trans List.perm_middle.symm
      refine ih _ (pickP_asc (p := x) hS (noName_iff.2 fun q hq => ?_)) (hN.perm hpm.symm)
      cases hb : atP x.name q
      · rfl
      · have hN' : ((S ++ x :: l).map (·.name)).Nodup := hN
        rw [List.map_append, List.nodup_append] at hN'
        exact absurd (atP_iff.1 hb) (hN'.2.2 q.name (List.mem_map.2 ⟨q, hq, rfl⟩) x.name (by simp))
  exact key l [] .nil (by simpa using h)
theorem asc_perm : ∀ {l m : List Pick}, AscP l → AscP m → l.Perm m → l = m
  | [], m, _, _, hp => (List.nil_perm.1 hp).symm
  | x :: l, [], _, _, hp => absurd hp.length_eq (by simp)
  | x :: l, y :: m, hl, hm, hp => by
    obtain ⟨a1, a2⟩ := List.pairwise_cons.1 hl
    obtain ⟨b1, b2⟩ := List.pairwise_cons.1 hm
    have hxy : x = y := by
      rcases List.mem_cons.1 (hp.mem_iff.1 (List.mem_cons_self (a := x) (l := l))) with h | h
      · exact h
      · rcases List.mem_cons.1 (hp.mem_iff.2 (List.mem_cons_self (a := y) (l := m))) with h2 | h2
        · exact h2.symm
        · have k1 := b1 x h
          rw [bL_asy (a1 y h2)] at k1
          cases k1
    subst hxy
    rw [asc_perm a2 b2 (List.Perm.cons_inv hp)]
theorem wayG_asc {r : List Entry} : ∀ (d : Nat) (needs : List Need) (picks : List Pick) (f : Nat) (l : List Pick), AscP picks → (wayG r pickP d needs picks f).1 = some l → AscP l
  | 0, _, _, _, _, _, h => by cases h
  | d + 1, needs, picks, f, l, ha, h => by
    cases hD : dropN picks needs with
    | none => rw [wayG_none hD] at h; cases h
    | some left =>
      cases left with
      | nil => rw [wayG_nil hD] at h; cases h; exact ha
      | cons n rest =>
        rw [wayG_cons hD] at h
        have hno := pickO_no (dropN_no hD)
        have key : ∀ (es : List Entry) (f : Nat), (∀ e ∈ es, e.name = n.name) → (tryG (wayG r pickP d) pickP n rest picks es f).1 = some l → AscP l := by
          intro es
          induction es with
          | nil => intro f _ h; cases h
          | cons e es ih =>
            intro f hm h
            have ih := fun f => ih f fun x hx => hm x (List.mem_cons_of_mem _ hx)
            cases ht : takeB n e.v
            · rw [tryG_skip ht] at h; exact ih f h
            · by_cases hf : f = 0
              · subst hf; rw [tryG_out ht] at h; cases h
              · rcases hr : wayG r pickP d (rest ++ e.needs) (pickP picks ⟨e.name, e.v⟩) (f - 1) with ⟨_ | l', f', o⟩
                · cases o
                  · rw [tryG_next ht hf hr] at h; exact ih f' h
                  · rw [tryG_over ht hf hr] at h; cases h
                · rw [tryG_some ht hf hr] at h
                  cases h
                  exact wayG_asc d _ _ _ _ (pickP_asc (p := ⟨e.name, e.v⟩) ha (by show noName picks e.name = true; rw [hm e (by simp)]; exact hno)) (by rw [hr])
        exact key _ f (fun e he => tl_eq.1 (newestV_mem.1 he).2) h
theorem addP_perm (l : List Pick) (p : Pick) : (addP l p).Perm (l ++ [p]) := .refl _
theorem pickP_perm (l : List Pick) (p : Pick) : (pickP l p).Perm (l ++ [p]) := (insE_perm _ _ _).trans (List.perm_append_singleton _ _).symm
theorem solve_IS (r : List Entry) (needs : List Need) (f : Int) : solveI r needs f = solveS r needs f := by
  unfold solveI solveS
  split
  · have hR := wayG_rel (r := r) addP_perm pickP_perm 13 needs [] [] (fuelN f) List.nodup_nil (.refl _)
    have hA := wayG_asc (r := r) 13 needs [] (fuelN f)
    have hL := wayG_le r pickP 13 needs [] (fuelN f)
    unfold wayI wayS
    rcases hW1 : wayG r addP 13 needs [] (fuelN f) with ⟨w1, f1, o1⟩
    rcases hW : wayG r pickP 13 needs [] (fuelN f) with ⟨w2, f2, o2⟩
    rw [hW1, hW] at hR
    rw [hW] at hA hL
    obtain ⟨e1, e2⟩ := hR
    have e1 : (f1, o1) = (f2, o2) := e1
    cases e1
    cases w1 with
    | some a =>
      cases w2 with
      | none => exact e2.elim
      | some b =>
        have ho : o1 = false := hL.2 rfl
        subst ho
        obtain ⟨e2, e3⟩ := e2
        have : sortI ltP a = b := asc_perm (sortI_asc e3) (hA b .nil rfl) ((sortI_perm _ _).trans e2)
        show (sortI ltP a, (0 : Int)) = (b, 0)
        rw [this]
    | none =>
      cases w2 with
      | some b => exact e2.elim
      | none => cases o1 <;> rfl
  · rfl
set_option maxRecDepth 100000
def Sup (picks l : List Pick) : Prop := ∀ p ∈ picks, p ∈ l
def HasE (r : List Entry) (l : List Pick) (p : Pick) : Prop := ∃ e ∈ r, e.name = p.name ∧ e.v = p.v ∧ metB e.needs l = true
theorem met1_of {l : List Pick} {n : Need} {v : Ver} (hl : Names l) (h : (⟨n.name, v⟩ : Pick) ∈ l) : met1 l n = takeB n v := met1_some (pickO_of hl h)
theorem metB_cons {n : Need} {rest : List Need} {l : List Pick} : metB (n :: rest) l = (met1 l n && metB rest l) := rfl
theorem metB_app {a b : List Need} {l : List Pick} : metB (a ++ b) l = (metB a l && metB b l) := by rw [metB_eq, metB_eq, metB_eq, List.all_append]
theorem metB_perm {l m : List Pick} (h : Names l) (hp : l.Perm m) (needs : List Need) : metB needs l = metB needs m := by
  rw [metB_eq, metB_eq]
  congr 1
  funext n
  unfold met1
  rw [pickO_perm h hp]
theorem dropN_met {picks l : List Pick} (hl : Names l) (hs : Sup picks l) : ∀ {needs left : List Need}, dropN picks needs = some left → metB needs l = metB left l
  | [], left, h => by cases h; rfl
  | n :: rest, left, h => by
    rw [dropN] at h
    split at h
    · rename_i v hv
      split at h
      · rename_i ht
        rw [metB_cons, met1_of hl (hs _ (pickO_mem hv)), ht, Bool.true_and]
        exact dropN_met hl hs h
      · cases h
    · cases h; rfl
theorem dropN_ex {picks l : List Pick} (hl : Names l) (hs : Sup picks l) : ∀ {needs : List Need}, metB needs l = true → ∃ left, dropN picks needs = some left
  | [], _ => ⟨[], rfl⟩
  | n :: rest, h => by
    rw [metB_cons, Bool.and_eq_true] at h
    rw [dropN]
    split
    · rename_i v hv
      rw [met1_of hl (hs _ (pickO_mem hv))] at h
      rw [if_pos h.1]
      exact dropN_ex hl hs h.2
    · exact ⟨_, rfl⟩
section
variable {r : List Entry} {put : List Pick → Pick → List Pick} (hput : ∀ l p, (put l p).Perm (l ++ [p]))
include hput
theorem wayG_sound : ∀ (d : Nat) (needs : List Need) (picks : List Pick) (f : Nat) (l : List Pick), Names picks → (wayG r put d needs picks f).1 = some l → Sup picks l ∧ Names l ∧ metB needs l = true ∧ ∀ p ∈ l, p ∈ picks ∨ HasE r l p
  | 0, _, _, _, _, _, h => by cases h
  | d + 1, needs, picks, f, l, hN, h => by
    cases hD : dropN picks needs with
    | none => rw [wayG_none hD] at h; cases h
    | some left =>
      cases left with
      | nil =>
        rw [wayG_nil hD] at h
        cases h
        exact ⟨fun p hp => hp, hN, by rw [dropN_met hN (fun p hp => hp) hD]; rfl, fun p hp => .inl hp⟩
      | cons n rest =>
        rw [wayG_cons hD] at h
        have hno := pickO_no (dropN_no hD)
        have key : ∀ (es : List Entry) (f : Nat), (∀ e ∈ es, e ∈ r ∧ e.name = n.name) → (tryG (wayG r put d) put n rest picks es f).1 = some l → Sup picks l ∧ Names l ∧ metB (n :: rest) l = true ∧ ∀ p ∈ l, p ∈ picks ∨ HasE r l p := by
          intro es
          induction es with
          | nil => intro f _ h; cases h
          | cons e es ih =>
            intro f hm h
            have ih := fun f => ih f fun x hx => hm x (List.mem_cons_of_mem _ hx)
            cases ht : takeB n e.v
            · rw [tryG_skip ht] at h; exact ih f h
            · by_cases hf : f = 0
              · subst hf; rw [tryG_out ht] at h; cases h
              · rcases hr : wayG r put d (rest ++ e.needs) (put picks ⟨e.name, e.v⟩) (f - 1) with ⟨_ | l', f', o⟩
                · cases o
                  · rw [tryG_next ht hf hr] at h; exact ih f' h
                  · rw [tryG_over ht hf hr] at h; cases h
                · rw [tryG_some ht hf hr] at h
                  cases h
                  obtain ⟨e1, e2⟩ := hm e (by simp)
                  have hpm := hput picks ⟨e.name, e.v⟩
                  obtain ⟨k1, k2, k3, k4⟩ := wayG_sound d _ _ _ _ (hN.put (by rw [e2]; exact hno) hpm) (by rw [hr])
                  have hpe : (⟨e.name, e.v⟩ : Pick) ∈ l := k1 _ (hpm.mem_iff.2 (by simp))
                  rw [metB_app, Bool.and_eq_true] at k3
                  refine ⟨fun p hp => k1 p (hpm.mem_iff.2 (by simp [hp])), k2, ?_, fun p hp => ?_⟩
                  · rw [metB_cons, met1_of k2 (v := e.v) (by rw [← e2]; exact hpe), ht, k3.1]; rfl
                  · rcases k4 p hp with hp | hp
                    · rcases List.mem_append.1 (hpm.mem_iff.1 hp) with hp | hp
                      · exact .inl hp
                      · rw [List.mem_singleton.1 hp]
                        exact .inr ⟨e, e1, rfl, rfl, k3.2⟩
                    · exact .inr hp
        obtain ⟨k1, k2, k3, k4⟩ := key _ f (fun e he => ⟨(newestV_mem.1 he).1, tl_eq.1 (newestV_mem.1 he).2⟩) h
        exact ⟨k1, k2, by rw [dropN_met k2 k1 hD]; exact k3, k4⟩
theorem wayG_complete {L : List Pick} (hL : Names L) (hE : ∀ p ∈ L, HasE r L p) : ∀ (d : Nat) (needs : List Need) (picks : List Pick) (f : Nat), Names picks → freeN r picks < d → Sup picks L → metB needs L = true → (wayG r put d needs picks f).1 = none → (wayG r put d needs picks f).2.2 = true
  | 0, _, _, _, _, h, _, _, _ => by omega
  | d + 1, needs, picks, f, hN, hfr, hs, hm, h => by
    obtain ⟨left, hD⟩ := dropN_ex hL hs hm
    cases left with
    | nil => rw [wayG_nil hD] at h; cases h
    | cons n rest =>
      rw [wayG_cons hD] at h ⊢
      have hno := pickO_no (dropN_no hD)
      rw [dropN_met hL hs hD, metB_cons, Bool.and_eq_true] at hm
      obtain ⟨v, hv⟩ : ∃ v, pickO L n.name = some v := by
        cases hv : pickO L n.name with
        | some v => exact ⟨v, rfl⟩
        | none => rw [met1_none hv] at hm; cases hm.1
      have hpL := pickO_mem hv
      have htk := hm.1
      rw [met1_some hv] at htk
      obtain ⟨e0, he0, hn0, hv0, hm0⟩ := hE _ hpL
      have key : ∀ (es : List Entry) (f : Nat), (∀ e ∈ es, e.name = n.name) → e0 ∈ es → (tryG (wayG r put d) put n rest picks es f).1 = none → (tryG (wayG r put d) put n rest picks es f).2.2 = true := by
        intro es
        induction es with
        | nil => intro f _ h; cases h
        | cons e es ih =>
          intro f hen hin h
          have ih := fun f => ih f fun x hx => hen x (List.mem_cons_of_mem _ hx)
          by_cases he : e = e0
          · subst he
            have ht : takeB n e.v = true := by rw [hv0]; exact htk
            by_cases hf : f = 0
            · subst hf; rw [tryG_out ht]
            · have hpm := hput picks ⟨e.name, e.v⟩
              have hnn : noName picks e.name = true := by rw [hn0]; exact hno
              have hfl : freeN r (put picks ⟨e.name, e.v⟩) < freeN r picks := freeN_put he0 hnn (fun q hq => hpm.mem_iff.2 (by simp [hq])) ⟨⟨e.name, e.v⟩, hpm.mem_iff.2 (by simp), rfl⟩
              have hsup : Sup (put picks ⟨e.name, e.v⟩) L := fun p hp => by
                rcases List.mem_append.1 (hpm.mem_iff.1 hp) with hp | hp
                · exact hs p hp
                · rw [List.mem_singleton.1 hp, hn0, hv0]; exact hpL
              have hmm : metB (rest ++ e.needs) L = true := by rw [metB_app, hm.2, hm0]; rfl
              have hc := wayG_complete hL hE d (rest ++ e.needs) (put picks ⟨e.name, e.v⟩) (f - 1) (hN.put hnn hpm) (by omega) hsup hmm
              rcases hr : wayG r put d (rest ++ e.needs) (put picks ⟨e.name, e.v⟩) (f - 1) with ⟨_ | l', f', o⟩
              · rw [hr] at hc
                have ho : o = true := hc rfl
                subst ho
                rw [tryG_over ht hf hr]
              · rw [tryG_some ht hf hr] at h; cases h
          · have hin : e0 ∈ es := by
              rcases List.mem_cons.1 hin with h | h
              · exact absurd h.symm he
              · exact h
            cases ht : takeB n e.v
            · rw [tryG_skip ht] at h ⊢; exact ih f hin h
            · by_cases hf : f = 0
              · subst hf; rw [tryG_out ht]
              · rcases hr : wayG r put d (rest ++ e.needs) (put picks ⟨e.name, e.v⟩) (f - 1) with ⟨_ | l', f', o⟩
                · cases o
                  · rw [tryG_next ht hf hr] at h ⊢; exact ih f' hin h
                  · rw [tryG_over ht hf hr]
                · rw [tryG_some ht hf hr] at h; cases h
      exact key _ f (fun e he => tl_eq.1 (newestV_mem.1 he).2) (newestV_mem.2 ⟨he0, by rw [hn0]⟩) h
omit hput in
theorem two_le (m : Nat) : m + 1 ≤ 2 ^ m := by
  induction m with
  | zero => decide
  | succ m ih => rw [Nat.pow_succ]; omega
theorem wayG_fuel : ∀ (d : Nat) (needs : List Need) (picks : List Pick) (f : Nat), freeN r picks < d → 2 ^ freeN r picks ≤ f + 1 → (wayG r put d needs picks f).2.2 = false ∧ f + 1 ≤ (wayG r put d needs picks f).2.1 + 2 ^ freeN r picks
  | 0, _, _, _, h, _ => by omega
  | d + 1, needs, picks, f, hd, hf => by
    have h1 : 1 ≤ 2 ^ freeN r picks := Nat.one_le_two_pow
    cases hD : dropN picks needs with
    | none => rw [wayG_none hD]; exact ⟨rfl, by show f + 1 ≤ f + _; omega⟩
    | some left =>
      cases left with
      | nil => rw [wayG_nil hD]; exact ⟨rfl, by show f + 1 ≤ f + _; omega⟩
      | cons n rest =>
        rw [wayG_cons hD]
        have hno := pickO_no (dropN_no hD)
        have hcount : ∀ v, freeN r (put picks ⟨n.name, v⟩) + (newestV r n.name).length = freeN r picks := fun v => by
          have hpm := hput picks ⟨n.name, v⟩
          rw [newestV, sortI_len]
          unfold freeN
          have hfun : ∀ e : Entry, noName (put picks ⟨n.name, v⟩) e.name = (noName picks e.name && !(e.name.toList == n.name.toList)) := fun e => by
            rw [noName_perm hpm]
            unfold noName
            rw [List.all_append]
            simp only [List.all_cons, List.all_nil, Bool.and_true, atP]
            congr 2
            exact Bool.beq_comm ..
          clear hpm hD hf h1 hd
          induction r with
          | nil => rfl
          | cons e r ih =>
            by_cases he : e.name.toList = n.name.toList
            · have hb : (e.name.toList == n.name.toList) = true := beq_iff_eq.2 he
              have hpn : noName picks e.name = true := by rw [tl_eq.1 he]; exact hno
              rw [List.filter_cons_of_neg (by rw [hfun, hb]; simp), List.filter_cons_of_pos (p := fun e : Entry => e.name.toList == n.name.toList) (by simpa using he), List.filter_cons_of_pos (by rw [hpn]), List.length_cons, List.length_cons]
              omega
            · have hb : (e.name.toList == n.name.toList) = false := beq_eq_false_iff_ne.2 he
              rw [List.filter_cons_of_neg (p := fun e : Entry => e.name.toList == n.name.toList) (by simpa using he)]
              cases hpn : noName picks e.name
              · rw [List.filter_cons_of_neg (by rw [hfun, hpn]; simp), List.filter_cons_of_neg (by rw [hpn]; simp)]
                exact ih
              · rw [List.filter_cons_of_pos (by rw [hfun, hpn, hb]; rfl), List.filter_cons_of_pos (by rw [hpn]), List.length_cons, List.length_cons]
                omega
        generalize hM : (newestV r n.name).length = m at *
        have key : ∀ (es : List Entry) (f : Nat) (B : Nat), (∀ e ∈ es, e ∈ newestV r n.name) → B = 2 ^ (freeN r picks - m) → es.length * B ≤ f → (tryG (wayG r put d) put n rest picks es f).2.2 = false ∧ f ≤ (tryG (wayG r put d) put n rest picks es f).2.1 + es.length * B := by
          intro es
          induction es with
          | nil => intro f B _ _ _; exact ⟨rfl, Nat.le_add_right _ _⟩
          | cons e es ih =>
            intro f B hm hB hle
            have ih := fun f => ih f B (fun x hx => hm x (List.mem_cons_of_mem _ hx)) hB
            have hB1 : 1 ≤ B := by rw [hB]; exact Nat.one_le_two_pow
            have hmul : (e :: es).length * B = es.length * B + B := by rw [List.length_cons, Nat.succ_mul]
            rw [hmul] at hle ⊢
            cases ht : takeB n e.v
            · rw [tryG_skip ht]
              obtain ⟨k1, k2⟩ := ih f (by omega)
              exact ⟨k1, by omega⟩
            · have hf0 : f ≠ 0 := by omega
              have hen : e.name = n.name := tl_eq.1 (newestV_mem.1 (hm e (by simp))).2
              have hc := hcount e.v
              rw [← hen] at hc
              have hmp : 0 < m := by
                rw [← hM]
                exact List.length_pos_of_mem (hm e (by simp))
              have hfe : freeN r (put picks ⟨e.name, e.v⟩) = freeN r picks - m := by omega
              obtain ⟨k1, k2⟩ := wayG_fuel d (rest ++ e.needs) (put picks ⟨e.name, e.v⟩) (f - 1) (by omega) (by rw [hfe, ← hB]; omega)
              rw [hfe, ← hB] at k2
              rcases hr : wayG r put d (rest ++ e.needs) (put picks ⟨e.name, e.v⟩) (f - 1) with ⟨_ | l', f', o⟩
              · rw [hr] at k1 k2
                have ho : o = false := k1
                have k2 : f - 1 + 1 ≤ f' + B := k2
                subst ho
                rw [tryG_next ht hf0 hr]
                obtain ⟨j1, j2⟩ := ih f' (by omega)
                exact ⟨j1, by omega⟩
              · rw [hr] at k1 k2
                have ho : o = false := k1
                have k2 : f - 1 + 1 ≤ f' + B := k2
                subst ho
                rw [tryG_some ht hf0 hr]
                exact ⟨rfl, by show f ≤ f' + _; omega⟩
        have hmN : m ≤ freeN r picks := by have := hcount ⟨0, 0, 0, []⟩; omega
        have hbig : m * 2 ^ (freeN r picks - m) + 1 ≤ 2 ^ freeN r picks := by
          have e : 2 ^ freeN r picks = 2 ^ m * 2 ^ (freeN r picks - m) := by rw [← Nat.pow_add]; congr 1; omega
          have h2 := Nat.mul_le_mul_right (2 ^ (freeN r picks - m)) (two_le m)
          have h3 : 1 ≤ 2 ^ (freeN r picks - m) := Nat.one_le_two_pow
          rw [Nat.succ_mul] at h2
          rw [e]
          omega
        obtain ⟨k1, k2⟩ := key (newestV r n.name) f _ (fun e he => he) rfl (by rw [hM]; omega)
        rw [hM] at k2
        exact ⟨k1, by omega⟩
end
set_option maxRecDepth 100000
theorem okP_iff {r : List Entry} (hu : UniE r) {l : List Pick} {p : Pick} : okP r l p = true ↔ HasE r l p := by
  constructor
  · intro h
    cases ho : entryO r p.name p.v with
    | none => rw [okP_none ho] at h; cases h
    | some e =>
      rw [okP_some ho] at h
      obtain ⟨h1, h2, h3⟩ := entryO_some ho
      exact ⟨e, h1, h2, h3, h⟩
  · rintro ⟨e, h1, h2, h3, h4⟩
    have := entryO_of hu h1
    rw [h2, h3] at this
    rw [okP_some this]
    exact h4
theorem solvesL_of {r : List Entry} {l : List Pick} : ∀ {rest pre : List Pick}, (∀ p ∈ rest, okP r l p = true) → Names (pre ++ rest) → solvesL r l pre rest = true
  | [], _, _, _ => rfl
  | p :: rest, pre, h, hN => by
    have hN' : ((pre ++ p :: rest).map (·.name)).Nodup := hN
    rw [List.map_append, List.nodup_append] at hN'
    have hno : noName pre p.name = true := noName_iff.2 fun q hq => by
      cases hb : atP p.name q
      · rfl
      · exact absurd (atP_iff.1 hb) (hN'.2.2 q.name (List.mem_map.2 ⟨q, hq, rfl⟩) p.name (by simp))
    rw [solvesL_yes (by unfold stepSo; rw [h p (by simp), hno]; rfl)]
    exact solvesL_of (fun q hq => h q (List.mem_cons_of_mem _ hq)) (by simpa using hN)
theorem solvesL_to {r : List Entry} {l : List Pick} : ∀ {rest pre : List Pick}, solvesL r l pre rest = true → Names pre → (∀ p ∈ rest, okP r l p = true) ∧ Names (pre ++ rest)
  | [], pre, _, hN => ⟨(fun p hp => by cases hp), by simpa using hN⟩
  | p :: rest, pre, h, hN => by
    rw [solvesL, Bool.and_eq_true] at h
    have hs := h.1
    unfold stepSo at hs
    rw [Bool.and_eq_true] at hs
    obtain ⟨h1, h2⟩ := solvesL_to h.2 (hN.put hs.2 (.refl _))
    refine ⟨fun q hq => ?_, by simpa using h2⟩
    rcases List.mem_cons.1 hq with rfl | hq
    · exact hs.1
    · exact h1 q hq
theorem solvesB_iff {r : List Entry} (hu : UniE r) {needs : List Need} {l : List Pick} : solvesB r needs l = true ↔ metB needs l = true ∧ Names l ∧ ∀ p ∈ l, HasE r l p := by
  unfold solvesB
  rw [Bool.and_eq_true]
  constructor
  · rintro ⟨h1, h2⟩
    obtain ⟨h3, h4⟩ := solvesL_to h2 List.nodup_nil
    exact ⟨h1, h4, fun p hp => (okP_iff hu).1 (h3 p hp)⟩
  · rintro ⟨h1, h2, h3⟩
    exact ⟨h1, solvesL_of (fun p hp => (okP_iff hu).2 (h3 p hp)) h2⟩
theorem HasE.perm {r : List Entry} {l m : List Pick} {p : Pick} (hl : Names l) (hp : l.Perm m) (h : HasE r l p) : HasE r m p := by
  obtain ⟨e, h1, h2, h3, h4⟩ := h
  exact ⟨e, h1, h2, h3, by rw [← metB_perm hl hp]; exact h4⟩
theorem okN_uni {r : List Entry} {needs : List Need} (h : okN r needs = true) : regB r = true ∧ UniE r ∧ freeN r [] < 13 := by
  unfold okN at h
  rw [Bool.and_eq_true] at h
  have := regB_12 h.1
  have hf : freeN r [] ≤ r.length := List.length_filter_le _ _
  exact ⟨h.1, (regB_asc h.1).uni, by omega⟩
theorem solveI_all {r : List Entry} {needs : List Need} (hk : okN r needs = true) :
    (∃ l, solveI r needs 10000 = (l, 0) ∧ AscP l ∧ solvesB r needs l = true) ∨ (solveI r needs 10000 = ([], 1) ∧ ∀ L, solvesB r needs L = false) := by
  obtain ⟨_, hu, hf⟩ := okN_uni hk
  have e : solveI r needs 10000 = endI (wayG r addP 13 needs [] 10000) := by unfold solveI; rw [if_pos hk]; rfl
  have hp : 2 ^ freeN r [] ≤ 10000 + 1 := Nat.le_trans (Nat.pow_le_pow_right (by omega) (show freeN r [] ≤ 12 by omega)) (by decide)
  obtain ⟨ho, _⟩ := wayG_fuel (r := r) addP_perm 13 needs [] 10000 hf hp
  have hs := wayG_sound (r := r) addP_perm 13 needs [] 10000
  have hc := fun L hL hE => wayG_complete (r := r) addP_perm (L := L) hL hE 13 needs [] 10000 List.nodup_nil hf
  rw [e]
  rcases hW : wayG r addP 13 needs [] 10000 with ⟨_ | l, f', o⟩
  all_goals rw [hW] at ho hs hc
  · have ho : o = false := ho
    subst ho
    refine .inr ⟨rfl, fun L => ?_⟩
    cases hb : solvesB r needs L
    · rfl
    · obtain ⟨h1, h2, h3⟩ := (solvesB_iff hu).1 hb
      have := hc L h2 h3 (fun p hp => by cases hp) h1 rfl
      cases this
  · have ho : o = false := ho
    subst ho
    obtain ⟨_, h2, h3, h4⟩ := hs l List.nodup_nil rfl
    have hpm := (sortI_perm ltP l).symm
    refine .inl ⟨sortI ltP l, rfl, sortI_asc h2, (solvesB_iff hu).2 ⟨by rw [← metB_perm h2 hpm]; exact h3, h2.perm hpm, fun p hp => ?_⟩⟩
    rcases h4 p (hpm.mem_iff.2 hp) with h | h
    · cases h
    · exact h.perm h2 hpm
theorem solveI_Z {r : List Entry} {needs : List Need} (h : SolveZ r needs) (f : Int) : (solveI r needs f).1.length ≤ 12 ∧ ∀ p ∈ (solveI r needs f).1, PickY p := by
  unfold solveI
  split
  · rename_i hk
    obtain ⟨hr, _, _⟩ := okN_uni hk
    have hZ := wayG_Z (r := r) addP_perm 13 needs [] (fuelN f)
    unfold wayI endI
    rcases hW : wayG r addP 13 needs [] (fuelN f) with ⟨_ | l, f', o⟩
    · cases o <;> exact ⟨Nat.zero_le _, fun p hp => by cases hp⟩
    · rw [hW] at hZ
      have hz := hZ l (h.way hr).1 rfl
      cases o
      · have hp := sortI_perm ltP l
        have h1 := hz.pb
        have h2 := hp.length_eq
        exact ⟨by show (sortI ltP l).length ≤ 12; omega, fun p hq => hz.pz p (hp.mem_iff.1 hq)⟩
      · exact ⟨Nat.zero_le _, fun p hp => by cases hp⟩
  · exact ⟨Nat.zero_le _, fun p hp => by cases hp⟩
end Go.Proofs.YtiejaibmcmicoaaGreatDoor.Am
