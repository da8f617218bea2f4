/- The small machine and the contracts of the functions, part 2 (CmpVer, LessS, Range, WordCmps, CmpsOf, Trim, ListOf, RangeS, Make, Read, Word, ListS, L4List, CmpOk, InRange, InRangeB, Sides, ParseRangeS, Bars, Split2, ParseRange, NeedOk, NeedsOk); no condition. -/
import Derived.Test.YtiejaibmcmicoaaGreatDoorProg
import Derived.Test.YtiejaibmcmicoaaGreatDoorAmH
import Derived.Test.YtiejaibmcmicoaaGreatDoorB1
import Derived.KernelRfl
namespace Go.Proofs.YtiejaibmcmicoaaGreatDoor.Am
open Go Go.Proofs
set_option linter.unusedSimpArgs false
set_option linter.unusedVariables false
attribute [local congr] T_congr callK_congr callWK_congr
attribute [local simp] run_nil run_op0 run_opg run_seq run_cond run_block run_ret run_skip run_skip_after run_skip_blk run_exit run_exit_after run_exit_blk run_loop run_any runS_nil runS_op0 runS_opg runW_nil runW_op0 runW_opg exec_q exec_w exec_c exec_n execW_q execW_w execW_c restW_app hideH_app merge_app wblk rest_app restS_app execS_q execS_c aval dOk upd_app ev_t ev_c setO_some setO_none put_mk pinsOf isIo hasIo sbin endR fin resL one outL out1 clo1 cloL coe coeL shut shut.shutL wantA weff cellsOf fillA deref natOf ρ0_app h0_app plain plain.plainL keep_app keepH_app andThen_normal andThen_ret andThen_exit pop_nil pop_after pop_after_ret pop_after_exit pop_blk pop_blk_ret pop_blk_exit nilA srcOf srcCells keepR_app keepHR_app renA rb toldρ toldH toldT toldB menQ_sc menQ_sl menQ_ref menQ_em menQ_un menQ_roT mens_cons mens_nil toldF merge_nil hideH_nil str_n rows_nil rowsS_len rowsC_len rowsC_fr rowsS_fr Rd_mk Rl_mk menB exQ_exit exQ_ret wrap_i64 bs_size bs_list bs_toList bs_get bs_extract mk_bs bs_eta List.getElem?_cons_zero List.getElem?_cons_succ List.length_cons oLt oNlt oLe oNle nLt nNlt nLe nNle iniρ andThen_normal over
set_option maxRecDepth 100000
set_option maxHeartbeats 1000000 in
theorem R85 (xs ys : List ByteArray) (hx : xs.length ≤ 1048577) (hy : ys.length ≤ 1048577) (zx : ∀ x ∈ xs, x.size ≤ 1048577) (zy : ∀ x ∈ ys, x.size ≤ 1048577) : Ret Tryz.prog 85 [.ro (rows Ty.str.cs xs) xs.length, .ro (rows Ty.str.cs ys) ys.length, .clo 86 []] (.sc (.int .i64 (cmpP xs ys))) [.un, .un, .un] := by
  refine Ret.go Tryz.func85 ?_
  simp (disch := omega) []
  refine T.forL xs (fun pre rest => pre.length ≤ ys.length ∧ cmpP rest (ys.drop pre.length) = cmpP xs ys) (fun pre _ => [(0, .ro (rows Ty.str.cs xs) xs.length), (1, .ro (rows Ty.str.cs ys) ys.length), (2, .clo 86 []), (11, .ro (rows Ty.str.cs xs) xs.length), (12, .sc (.int .i64 xs.length)), (13, .sc (.int .i64 pre.length))]) (fun _ _ => []) (by simp [menQ, idfree, idfree.idfreeL]) ?_ ?_
  · rintro ⟨h1, h2⟩
    by_cases h3 : xs.length < ys.length
    · have e : cmpP xs ys = -1 := by
        rw [← h2]
        cases hd : ys.drop xs.length with
        | nil => have := List.drop_eq_nil_iff.1 hd; omega
        | cons y r => rfl
      rw [e]
      simp (disch := omega) []
      refine T.on 400 ?_
      simp (disch := omega) []
    · have e : cmpP xs ys = 0 := by
        rw [← h2, List.drop_eq_nil_of_le (by omega)]; rfl
      rw [e]
      simp (disch := omega) []
      refine T.on 400 ?_
      simp (disch := omega) []
  · rintro pre x rest hxx hl2 ⟨h1, h2⟩
    have hd : List.drop pre.length (rows Ty.str.cs xs) = .sc (.string x) :: rows Ty.str.cs rest := by rw [rowsC_drop, ← hxx, drop_pre, rowsC_cons]
    cases hy2 : ys.drop pre.length with
    | nil =>
      have h3 := List.drop_eq_nil_iff.1 hy2
      rw [hy2] at h2
      rw [← h2]
      simp (disch := omega) [hd, cmpP]
    | cons y r =>
      have h3 : pre.length < ys.length := Nat.lt_of_not_le fun h => by rw [List.drop_eq_nil_iff.2 h] at hy2; cases hy2
      have hdy : List.drop pre.length (rows Ty.str.cs ys) = .sc (.string y) :: rows Ty.str.cs r := by rw [rowsC_drop, hy2, rowsC_cons]
      have hr : ys.drop (pre.length + 1) = r := by rw [← List.drop_drop, hy2]; rfl
      have rW := R86 x y (zx x (by rw [← hxx]; simp)) (zy y (List.mem_of_mem_drop (by rw [hy2]; simp)))
      rw [hy2, cmpP] at h2
      by_cases h0 : cmpW x y = 0
      · rw [if_pos h0] at h2
        simp (disch := omega) [hd, hdy]
        refine cR rW ?_
        simp (disch := omega) [h0, hr]
        exact ⟨h2, rfl⟩
      · rw [if_neg h0] at h2
        rw [← h2]
        simp (disch := omega) [hd, hdy]
        refine cR rW ?_
        simp (disch := omega) [h0]
set_option maxHeartbeats 2000000 in
theorem R47 (v w : Ver) (hx : v.pre.length ≤ 1048577) (hy : w.pre.length ≤ 1048577) (zx : ∀ x ∈ v.pre, x.size ≤ 1048577) (zy : ∀ x ∈ w.pre, x.size ≤ 1048577) : Ret Tryz.prog 47 [.agg (Ver.ty.cs v), .agg (Ver.ty.cs w)] (.sc (.int .i64 (cmpV v w))) [.un, .un] := by
  have rP := R85 v.pre w.pre hx hy zx zy
  have r1 := R84 v.a w.a
  have r2 := R84 v.b w.b
  have r3 := R84 v.c w.c
  unfold cmpV cmpC
  generalize cmpI v.a w.a = a at *
  generalize cmpI v.b w.b = b at *
  generalize cmpI v.c w.c = c at *
  have ro := R83 [a, b, c] (by simp)
  rw [show rows Ty.int.cs [a, b, c] = [.sc (.int .i64 a), .sc (.int .i64 b), .sc (.int .i64 c)] from rfl] at ro
  generalize orV [a, b, c] = o at *
  rw [Ver.cse, Ver.cse]
  obtain ⟨va, vb, vc, vp⟩ := v
  obtain ⟨wa, wb, wc, wp⟩ := w
  simp only at *
  generalize cmpP vp wp = cp at *
  refine Ret.go Tryz.func47 ?_
  simp (disch := omega) []
  refine T.textE [(15, [21])] ?_ mixed
  simp (disch := omega) []
  refine cW 0 r1 ?_
  simp (disch := omega) []
  refine cW 0 r2 ?_
  simp (disch := omega) []
  refine cW 0 r3 ?_
  simp (disch := omega) [merge_nil, hideH_nil]
  refine cW 0 ro ?_ (hys := by simp [roc, shut, shut.shutL, hideH_app])
  by_cases h0 : o = 0
  · simp (disch := omega) [h0, merge_nil, hideH_nil]
    cases vp with
    | nil =>
      cases wp with
      | nil =>
        simp (disch := omega) []
        refine cR rP ?_ (hys := by simp [roc, shut, shut.shutL])
        simp (disch := omega) []
      | cons y wp =>
        have h1 : ¬ ((wp.length : Int) + 1 = 0) := by omega
        have h2 : ((wp.length : Int) + 1 == 0) = false := by simp; omega
        simp (disch := omega) [h1, h2]
    | cons x vp =>
      have h1 : ¬ ((vp.length : Int) + 1 = 0) := by omega
      have h2 : ((vp.length : Int) + 1 == 0) = false := by simp; omega
      cases wp with
      | nil => simp (disch := omega) [h1, h2]
      | cons y wp =>
        have h3 : ((wp.length : Int) + 1 == 0) = false := by simp; omega
        simp (disch := omega) [h2, h3]
        refine cR rP ?_ (hys := by simp [roc, shut, shut.shutL])
        simp (disch := omega) []
  · simp (disch := omega) [h0, merge_nil, hideH_nil]
theorem R18 (v w : Ver) (hx : v.pre.length ≤ 1048577) (hy : w.pre.length ≤ 1048577) (zx : ∀ x ∈ v.pre, x.size ≤ 1048577) (zy : ∀ x ∈ w.pre, x.size ≤ 1048577) : Ret Tryz.prog 18 [.agg (Ver.ty.cs v), .agg (Ver.ty.cs w)] (.sc (.bool (lessV v w))) [.un, .un] := by
  have r := R47 v w hx hy zx zy
  rw [Ver.cse, Ver.cse] at *
  unfold lessV
  generalize cmpV v w = c at *
  obtain ⟨va, vb, vc, vp⟩ := v
  obtain ⟨wa, wb, wc, wp⟩ := w
  refine Ret.go Tryz.func18 ?_
  simp (disch := omega) []
  refine cR r ?_
  simp (disch := omega) []
theorem R48 (v w : Ver) (hx : v.pre.length ≤ 1048577) : Ret Tryz.prog 48 [.agg (Ver.ty.cs v), .agg (Ver.ty.cs w)] (.sc (.bool (sameV v w))) [.un, .un] := by
  have r := R87 v.pre w.pre (by omega)
  rw [Ver.cse, Ver.cse]
  unfold sameV coreV
  generalize eqBy strEq v.pre w.pre = e at *
  obtain ⟨va, vb, vc, vp⟩ := v
  obtain ⟨wa, wb, wc, wp⟩ := w
  simp only at *
  by_cases h1 : va = wa
  case neg =>
    refine Ret.go Tryz.func48 ?_
    simp (disch := omega) [h1]
  by_cases h2 : vb = wb
  case neg =>
    refine Ret.go Tryz.func48 ?_
    simp (disch := omega) [h1, h2]
  by_cases h3 : vc = wc
  case neg =>
    refine Ret.go Tryz.func48 ?_
    simp (disch := omega) [h1, h2, h3]
  refine Ret.go Tryz.func48 ?_
  simp (disch := omega) [h1, h2, h3]
  refine cR r ?_
  simp (disch := omega) []
theorem R35 (v : Ver) (hx : v.pre.length ≤ 1048577) : Ret Tryz.prog 35 [.agg (Ver.ty.cs v)] (.agg (Ver.ty.oc v)) [.un] := by
  have r := R51 v.pre (by omega)
  rw [Ver.cse, Ver.oce]
  obtain ⟨va, vb, vc, vp⟩ := v
  simp only at *
  have h1 := rowsS_fr vp
  have h2 := rowsS_len vp
  refine Ret.go Tryz.func35 ?_
  simp (disch := omega) []
  refine cO 5 r ?_ (Ty.str.flo _)
  simp (disch := omega) [ex1, h1, h2]
set_option maxRecDepth 100000
theorem cmpS_lt (a b : ByteArray) : cmpS a b < 0 ↔ bL a b = true := by
  unfold cmpS
  split
  · rename_i h; simp [h]
  · rename_i h
    split <;> simp [h]
theorem cmpI_lt (a b : Int) : cmpI a b < 0 ↔ a < b := by
  unfold cmpI
  split
  · rename_i h; simp [h]
  · split <;> omega
theorem cmpI_0 {a b : Int} : cmpI a b = 0 ↔ a = b := by
  unfold cmpI
  split
  · omega
  · split <;> omega
theorem tl_eq {a b : ByteArray} : a.toList = b.toList ↔ a = b := ⟨fun h => by rw [Lib.toList_data, Lib.toList_data] at h; exact ba_ext h, fun h => by rw [h]⟩
theorem cmpS_0 {a b : ByteArray} : cmpS a b = 0 ↔ a = b := by
  unfold cmpS
  split
  · rename_i h
    constructor
    · intro e; simp at e
    · rintro rfl; rw [bL_irr] at h; cases h
  · split
    · rename_i h; simp [tl_eq.1 h]
    · rename_i h; simp; exact fun e => h (by rw [e])
def partL (a b : ByteArray) : Bool := if oneW a = true ∧ oneW b = true then (if a.size = b.size then bL a b else decide (a.size < b.size)) else if oneW a = oneW b then bL a b else oneW a
theorem partL_eq (a b : ByteArray) : partL a b = decide (cmpW a b < 0) := by
  unfold partL cmpW
  have h1 := cmpS_lt a b
  have h2 := cmpI_lt a.size b.size
  have h3 := @cmpI_0 a.size b.size
  rw [Bool.eq_iff_iff, decide_eq_true_eq]
  by_cases k : oneW a = true ∧ oneW b = true
  · rw [if_pos k, if_pos k]
    simp only [orV]
    by_cases e : a.size = b.size
    · have z : cmpI a.size b.size = 0 := h3.2 (by omega)
      rw [if_pos e, if_pos z, ← h1]
      by_cases y : cmpS a b = 0 <;> simp [y]
    · have z : cmpI a.size b.size ≠ 0 := fun h => e (by have := h3.1 h; omega)
      rw [if_neg e, if_neg z, decide_eq_true_eq, h2]
      omega
  · rw [if_neg k, if_neg k]
    cases ha : oneW a <;> cases hb : oneW b
    · simp [h1]
    · simp
    · simp
    · exact (k ⟨ha, hb⟩).elim
theorem cmpW_0 {a b : ByteArray} : cmpW a b = 0 ↔ a = b := by
  unfold cmpW
  have h1 := @cmpS_0 a b
  have h3 := @cmpI_0 a.size b.size
  constructor
  · intro h
    by_cases k : oneW a = true ∧ oneW b = true
    · rw [if_pos k] at h
      simp only [orV] at h
      split at h
      · split at h
        · rename_i z; exact h1.1 z
        · rename_i z; exact (z h).elim
      · rename_i z; exact (z h).elim
    · rw [if_neg k] at h
      cases ha : oneW a <;> cases hb : oneW b <;> simp [ha, hb] at h k
      exact h1.1 h
  · rintro rfl
    have e := h1.2 rfl
    have e2 := h3.2 rfl
    cases ha : oneW a <;> simp [orV, e, e2]
theorem cmpI_self (a : Int) : cmpI a a = 0 := cmpI_0.2 rfl
def preL (a b : List ByteArray) : Bool := if a = [] ∨ b = [] then !a.isEmpty && b.isEmpty else decide (cmpP a b < 0)
theorem lessV_eq (v w : Ver) : lessV v w = if v.a ≠ w.a then decide (v.a < w.a) else if v.b ≠ w.b then decide (v.b < w.b) else if v.c ≠ w.c then decide (v.c < w.c) else preL v.pre w.pre := by
  unfold lessV cmpV cmpC preL
  have h1 := cmpI_lt v.a w.a
  have h2 := cmpI_lt v.b w.b
  have h3 := cmpI_lt v.c w.c
  have k1 := @cmpI_0 v.a w.a
  have k2 := @cmpI_0 v.b w.b
  have k3 := @cmpI_0 v.c w.c
  simp only [orV]
  refine Bool.eq_iff_iff.2 (Iff.trans decide_eq_true_iff ?_)
  by_cases e1 : v.a = w.a
  · have z1 := k1.2 e1
    by_cases e2 : v.b = w.b
    · have z2 := k2.2 e2
      by_cases e3 : v.c = w.c
      · have z3 := k3.2 e3
        have z4 : cmpP [] [] = 0 := rfl
        cases hv : v.pre <;> cases hw : w.pre <;> simp [e1, e2, e3, z1, z2, z3, z4, cmpI_self]
      · have z : cmpI v.c w.c ≠ 0 := fun h => e3 (k3.1 h)
        simp [e1, e2, e3, z, cmpI_self, h3]
    · have z : cmpI v.b w.b ≠ 0 := fun h => e2 (k2.1 h)
      simp [e1, e2, z, cmpI_self, h2]
  · have z : cmpI v.a w.a ≠ 0 := fun h => e1 (k1.1 h)
    simp [e1, z, h1]
set_option maxHeartbeats 1000000 in
theorem R153 (a b : ByteArray) (ha : a.size ≤ 1048577) (hb : b.size ≤ 1048577) : Ret Tryz.prog 153 [.sc (.string a), .sc (.string b)] (.sc (.bool (decide (cmpW a b < 0)))) [.un, .un] := by
  rw [← partL_eq]
  have ra := R145 a.data.toList (Nat.le_trans ha (by decide))
  have rb := R145 b.data.toList (Nat.le_trans hb (by decide))
  rw [bs_eta] at ra rb
  unfold partL bL oneW
  cases h1 : figL a.data.toList <;> cases h2 : figL b.data.toList <;> rw [h1] at ra <;> rw [h2] at rb
  all_goals
    refine Ret.go Tryz.func153 ?_
    simp (disch := omega) []
    refine cR ra ?_
    simp (disch := omega) []
    refine cR rb ?_
  · simp (disch := omega) []
  · simp (disch := omega) []
  · simp (disch := omega) []
  · by_cases h3 : a.size = b.size
    · simp (disch := omega) [h3]
    · have h4 : ¬ ((a.size : Int) = b.size) := by omega
      simp (disch := omega) [h3, h4]
set_option maxHeartbeats 2000000 in
theorem R122 (xs ys : List ByteArray) (hx : xs.length ≤ 1048577) (hy : ys.length ≤ 1048577) (zx : ∀ x ∈ xs, x.size ≤ 1048577) (zy : ∀ x ∈ ys, x.size ≤ 1048577) : Ret Tryz.prog 122 [.ro (rows Ty.str.cs xs) xs.length, .ro (rows Ty.str.cs ys) ys.length] (.sc (.bool (preL xs ys))) [.un, .un] := by
  by_cases he : xs = [] ∨ ys = []
  · unfold preL
    rw [if_pos he]
    cases xs with
    | nil =>
      refine Ret.go Tryz.func122 ?_
      simp (disch := omega) []
    | cons x xs =>
      have : ys = [] := by simpa using he
      subst this
      have h1 : ¬ ((xs.length : Int) + 1 = 0) := by omega
      refine Ret.go Tryz.func122 ?_
      simp (disch := omega) [h1]
  · unfold preL
    rw [if_neg he]
    have hx0 : ¬ ((xs.length : Int) = 0) := fun h => he (.inl (List.length_eq_zero_iff.1 (by omega)))
    have hy0 : ¬ ((ys.length : Int) = 0) := fun h => he (.inr (List.length_eq_zero_iff.1 (by omega)))
    have hx1 : ¬ xs = [] := fun h => he (.inl h)
    have hy1 : ¬ ys = [] := fun h => he (.inr h)
    refine Ret.go Tryz.func122 ?_
    simp (disch := omega) [hx0, hy0, hx1, hy1]
    refine T.forL xs (fun pre rest => pre.length ≤ ys.length ∧ cmpP rest (ys.drop pre.length) = cmpP xs ys) (fun pre _ => [(0, .ro (rows Ty.str.cs xs) xs.length), (1, .ro (rows Ty.str.cs ys) ys.length), (5, .sc (.int .i64 pre.length))]) (fun _ _ => []) (by simp) ?_ ?_
    · rintro ⟨h1, h2⟩
      have e : decide (cmpP xs ys < 0) = decide ((xs.length : Int) < ys.length) := by
        rw [← h2]
        by_cases h3 : xs.length < ys.length
        · cases hd : ys.drop xs.length with
          | nil => have := List.drop_eq_nil_iff.1 hd; omega
          | cons y r => simp [cmpP]; exact h3
        · rw [List.drop_eq_nil_of_le (by omega)]
          simp [cmpP]; omega
      rw [e]
      clear e h2
      simp (disch := omega) []
      refine T.on 400 ?_
      simp (disch := omega) []
    · rintro pre x rest hxx hl2 ⟨h1, h2⟩
      have hd : List.drop pre.length (rows Ty.str.cs xs) = .sc (.string x) :: rows Ty.str.cs rest := by rw [rowsC_drop, ← hxx, drop_pre, rowsC_cons]
      cases hy2 : ys.drop pre.length with
      | nil =>
        have h3 := List.drop_eq_nil_iff.1 hy2
        rw [hy2] at h2
        have e : decide (cmpP xs ys < 0) = false := by rw [← h2]; simp [cmpP]
        rw [e]
        have h4 : ¬ (xs.length : Int) < ys.length := by omega
        simp (disch := omega) []
        refine T.on 400 ?_
        simp (disch := omega) [h4]
      | cons y r =>
        have h3 : pre.length < ys.length := Nat.lt_of_not_le fun h => by rw [List.drop_eq_nil_iff.2 h] at hy2; cases hy2
        have hdy : List.drop pre.length (rows Ty.str.cs ys) = .sc (.string y) :: rows Ty.str.cs r := by rw [rowsC_drop, hy2, rowsC_cons]
        have hr : ys.drop (pre.length + 1) = r := by rw [← List.drop_drop, hy2]; rfl
        have rW := R153 x y (zx x (by rw [← hxx]; simp)) (zy y (List.mem_of_mem_drop (by rw [hy2]; simp)))
        rw [hy2, cmpP] at h2
        by_cases h0 : x = y
        · rw [if_pos (cmpW_0.2 h0)] at h2
          subst h0
          simp (disch := omega) []
          refine T.text 400 mixed (by kernel_rfl) (by kernel_rfl) ?_
          simp (disch := omega) [hd, hdy, hr]
          exact h2
        · have h5 : cmpW x y ≠ 0 := fun h => h0 (cmpW_0.1 h)
          have h6 : ¬ x.toList = y.toList := fun h => h0 (tl_eq.1 h)
          rw [if_neg h5] at h2
          rw [← h2]
          simp (disch := omega) []
          refine T.text 400 mixed (by kernel_rfl) (by kernel_rfl) ?_
          simp (disch := omega) [hd, hdy, h6]
          refine T.text 400 mixed (by kernel_rfl) (by kernel_rfl) ?_
          simp (disch := omega) [hd, hdy]
          refine callSK.by rfl (by kernel_rfl) (by simp [roc_sc]) rW ?_
          simp (disch := omega) []
set_option maxHeartbeats 1000000 in
theorem R91 (v w : Ver) (hx : v.pre.length ≤ 1048577) (hy : w.pre.length ≤ 1048577) (zx : ∀ x ∈ v.pre, x.size ≤ 1048577) (zy : ∀ x ∈ w.pre, x.size ≤ 1048577) : Ret Tryz.prog 91 [.agg (Ver.ty.cs v), .agg (Ver.ty.cs w)] (.sc (.bool (lessV v w))) [.un, .un] := by
  have r := R122 v.pre w.pre hx hy zx zy
  rw [lessV_eq, Ver.cse, Ver.cse]
  obtain ⟨va, vb, vc, vp⟩ := v
  obtain ⟨wa, wb, wc, wp⟩ := w
  simp only at *
  by_cases h1 : va = wa
  case neg =>
    refine Ret.go Tryz.func91 ?_
    simp (disch := omega) [h1]
  by_cases h2 : vb = wb
  case neg =>
    refine Ret.go Tryz.func91 ?_
    simp (disch := omega) [h1, h2]
  by_cases h3 : vc = wc
  case neg =>
    refine Ret.go Tryz.func91 ?_
    simp (disch := omega) [h1, h2, h3]
  refine Ret.go Tryz.func91 ?_
  simp (disch := omega) [h1, h2, h3]
  refine cR r ?_
  simp (disch := omega) []
theorem R132 (v w : Ver) : Ret Tryz.prog 132 [.agg (Ver.ty.cs v), .agg (Ver.ty.cs w)] (.sc (.bool (coreV v w))) [.un, .un] := by
  rw [Ver.cse, Ver.cse]
  unfold coreV
  obtain ⟨va, vb, vc, vp⟩ := v
  obtain ⟨wa, wb, wc, wp⟩ := w
  simp only at *
  by_cases h1 : va = wa
  case neg =>
    refine Ret.go Tryz.func132 ?_
    simp (disch := omega) [h1]
  by_cases h2 : vb = wb
  case neg =>
    refine Ret.go Tryz.func132 ?_
    simp (disch := omega) [h1, h2]
  refine Ret.go Tryz.func132 ?_
  simp (disch := omega) [h1, h2]
  by_cases h3 : vc = wc <;> simp [h3]
theorem R94 (v w : Ver) (hx : v.pre.length ≤ 1048577) : Ret Tryz.prog 94 [.agg (Ver.ty.cs v), .agg (Ver.ty.cs w)] (.sc (.bool (sameV v w))) [.un, .un] := by
  have r := R133 v.pre w.pre (by omega)
  have rc := R132 v w
  rw [Ver.cse, Ver.cse] at *
  unfold sameV
  generalize eqBy strEq v.pre w.pre = e at *
  generalize coreV v w = c at *
  obtain ⟨va, vb, vc, vp⟩ := v
  obtain ⟨wa, wb, wc, wp⟩ := w
  simp only at *
  refine Ret.go Tryz.func94 ?_
  simp (disch := omega) []
  refine cR rc ?_
  cases c
  · simp (disch := omega) []
  · simp (disch := omega) []
    refine cR r ?_
    simp (disch := omega) []
theorem R36 (v : Ver) (hx : v.pre.length ≤ 1048577) : Ret Tryz.prog 36 [.agg (Ver.ty.cs v)] (.agg (Ver.ty.oc v)) [.un] := by
  rw [Ver.cse, Ver.oce]
  obtain ⟨va, vb, vc, vp⟩ := v
  simp only at *
  have h1 := rowsS_fr vp
  have h2 := rowsS_len vp
  have h3 : List.take vp.length (rows Ty.str.cs vp) = rows Ty.str.cs vp := takeS vp
  have h4 : (rows Ty.str.cs vp).length = vp.length := h2
  have h5 : rows Ty.str.cs vp = rows Ty.str.oc vp := rfl
  refine Ret.go Tryz.func36 ?_
  simp (disch := omega) [h3, h4]
  simp (disch := omega) [ex1, h1, h2, h5]
set_option maxRecDepth 100000
def rdN (P : Program) (p : List Nat) (x : AC) (Q : AE → St → Prop) : Nat → St → Prop
  | 0, _ => False
  | n + 1, s => T P p x s (andThen (rdN P p x Q n) Q)
theorem T.loopN {P : Program} {p : List Nat} {x : AC} {st : St} {Q : AE → St → Prop} (n : Nat) (h : rdN P p x Q n st) : T P p (.loop x) st Q := by
  refine T.loop (fun m s => rdN P p x Q m s) n h ?_
  intro m s hm
  cases m with
  | zero => exact hm.elim
  | succ m =>
    refine T.mono hm fun e s' he => ?_
    cases e with
    | normal => exact ⟨m, Nat.lt_succ_self m, he⟩
    | exit => exact he
    | ret => exact he
theorem rdN_go {P : Program} {p : List Nat} {x : AC} {Q : AE → St → Prop} {n : Nat} {s : St} (h : T P p x s (andThen (rdN P p x Q n) Q)) : rdN P p x Q (n + 1) s := h
def partN : List ByteArray → Option (Ver × Nat)
  | [a] => (parseN a 9999).map fun x : Nat => (⟨x, 0, 0, []⟩, 1)
  | [a, b] => if b = bs [120] then (parseN a 9999).map fun x : Nat => (⟨x, 0, 0, []⟩, 1) else
    match parseN a 9999, parseN b 9999 with
    | some x, some y => some (⟨x, y, 0, []⟩, 2)
    | _, _ => none
  | [a, b, c] => if c = bs [120] then (if b = bs [120] then (parseN a 9999).map fun x : Nat => (⟨x, 0, 0, []⟩, 1) else
    match parseN a 9999, parseN b 9999 with
    | some x, some y => some (⟨x, y, 0, []⟩, 2)
    | _, _ => none) else none
  | _ => none
def partV (w : ByteArray) : Option (Ver × Nat) :=
  match parseVer w with
  | some v => some (v, 3)
  | none => partN (splitS w 46)
def nextV (v : Ver) (n : Nat) : Ver := if n = 1 then ⟨v.a + 1, 0, 0, []⟩ else if n = 2 then ⟨v.a, v.b + 1, 0, []⟩ else ⟨v.a, v.b, v.c + 1, []⟩
def lowC (v : Ver) : Cmp := ⟨1, ⟨v.a, v.b, v.c, [bs [48]]⟩⟩
def caretV (v : Ver) (n : Nat) : Ver := if v.a ≠ 0 ∨ n = 1 then ⟨v.a + 1, 0, 0, []⟩ else if v.b ≠ 0 ∨ n = 2 then ⟨0, v.b + 1, 0, []⟩ else ⟨0, 0, v.c + 1, []⟩
def mkCmps (op : ByteArray) (v : Ver) (n : Nat) : List Cmp :=
  if op = bs [62, 61] then [⟨4, v⟩] else if op = bs [60] then [⟨1, v⟩] else if op = bs [62] then (if n < 3 then [⟨4, nextV v n⟩] else [⟨3, v⟩])
  else if op = bs [60, 61] then (if n < 3 then [lowC (nextV v n)] else [⟨2, v⟩]) else if op = bs [126] then [⟨4, v⟩, lowC (nextV ⟨v.a, v.b, 0, []⟩ (min n 2))]
  else if op = bs [94] then [⟨4, v⟩, lowC (caretV v n)] else if n < 3 then [⟨4, v⟩, lowC (nextV v n)] else [⟨0, v⟩]
def verR (o : Option Ver) : AV := .tup [.agg (Ver.ty.cs (o.getD ver0)), .sc (.bool o.isSome)]
theorem roc_shutL {h : Hp} {k : Nat} : ∀ {cs : List AV}, shut.shutL cs = true → cs.mapM (roc h k) = some cs
  | [], _ => rfl
  | c :: cs, hs => by
    rw [shut.shutL, Bool.and_eq_true] at hs
    have e : roc h k c = some c := by
      cases k with
      | zero => unfold roc; rw [if_pos hs.1]
      | succ k => unfold roc; rw [if_pos hs.1]
    rw [List.mapM_cons, e, roc_shutL hs.2]
    rfl
theorem cool_own {k : Nat} {cs : List AV} {len sz : Nat} (h : shut.shutL cs = true) : roc noH (k + 1) (.own cs len sz) = some (.ro cs len) := by
  show (if shut (.own cs len sz) = true then _ else _) = _
  rw [if_neg (by simp [shut])]
  show (cs.mapM (roc noH k)).map _ = _
  rw [roc_shutL h]
  rfl
theorem cool_ver {k : Nat} {a b c : Int} {cs : List AV} {len sz : Nat} (h : shut.shutL cs = true) : roc noH (k + 2) (.agg [.sc (.int .i64 a), .sc (.int .i64 b), .sc (.int .i64 c), .own cs len sz]) = some (.agg [.sc (.int .i64 a), .sc (.int .i64 b), .sc (.int .i64 c), .ro cs len]) := by
  rw [roc_ag (by simp [shut, shut.shutL])]
  simp only [List.mapM_cons, List.mapM_nil, cool_own h]
  rfl
theorem strShut (l : List ByteArray) : shut.shutL (rows Ty.str.oc l) = true := shutL_rows (fun x c hc => by cases List.mem_singleton.1 hc; rfl) l
theorem verA_cool (o : Option Ver) : coolT (verA o) = some (verR o) := by
  unfold verA verR coolT
  rw [Ver.oce, Ver.cse]
  simp only [List.mapM_cons, List.mapM_nil]
  rw [cool_ver (strShut _)]
  rfl
def partA (o : Option (Ver × Nat)) : AV := .tup [.agg (Ver.ty.cs ((o.map (·.1)).getD ver0)), .sc (.int .i64 ((o.map (·.2)).getD 0 : Nat)), .sc (.bool o.isSome)]
def partX (o : Option (Ver × Nat)) : AV := .tup [.agg [.sc (.int .i64 ((o.map (·.1)).getD ver0).a), .sc (.int .i64 ((o.map (·.1)).getD ver0).b), .sc (.int .i64 ((o.map (·.1)).getD ver0).c), .own [] 0 1], .sc (.int .i64 ((o.map (·.2)).getD 0 : Nat)), .sc (.bool o.isSome)]
theorem partN_pre (l : List ByteArray) : ((Option.map (·.1) (partN l)).getD ver0).pre = [] := by
  have h1 : ∀ o : Option Nat, ((Option.map (·.1) (o.map fun x : Nat => ((⟨x, 0, 0, []⟩ : Ver), 1))).getD ver0).pre = [] := fun o => by cases o <;> rfl
  have h2 : ∀ o q : Option Nat, ((Option.map (·.1) (match o, q with | some x, some y => some ((⟨x, y, 0, []⟩ : Ver), 2) | _, _ => none)).getD ver0).pre = [] := fun o q => by cases o <;> cases q <;> rfl
  match l with
  | [] => rfl
  | [a] => exact h1 _
  | [a, b] =>
    rw [partN]
    split
    · exact h1 _
    · exact h2 _ _
  | [a, b, c] =>
    rw [partN]
    split
    · split
      · exact h1 _
      · exact h2 _ _
    · rfl
  | _ :: _ :: _ :: _ :: _ => rfl
theorem cool_part (l : List ByteArray) : coolT (partX (partN l)) = some (partA (partN l)) := by
  have h := partN_pre l
  unfold partX partA coolT
  rw [Ver.cse, h]
  simp only [List.mapM_cons, List.mapM_nil]
  rw [cool_ver rfl]
  rfl
theorem R190 (v : Ver) (n : Nat) (hv : verB v = true) : Ret Tryz.prog 190 [.agg (Ver.ty.cs v), .sc (.int .i64 n)] (.agg (Ver.ty.cs (nextV v n))) [.un, .un] := by
  obtain ⟨h1, h2, h3, -⟩ := verB_of hv
  obtain ⟨a, b, c, p⟩ := v
  simp only at h1 h2 h3
  have w1 : IntKind.i64.wrap (a + 1) = a + 1 := wrap_i64 (by omega) (by omega)
  have w2 : IntKind.i64.wrap (b + 1) = b + 1 := wrap_i64 (by omega) (by omega)
  have w3 : IntKind.i64.wrap (c + 1) = c + 1 := wrap_i64 (by omega) (by omega)
  refine Ret.cool (ret := .agg [.sc (.int .i64 (nextV ⟨a, b, c, p⟩ n).a), .sc (.int .i64 (nextV ⟨a, b, c, p⟩ n).b), .sc (.int .i64 (nextV ⟨a, b, c, p⟩ n).c), .own [] 0 1]) ?_ ?_
  · unfold nextV
    rw [Ver.cse]
    by_cases k1 : n = 1
    · subst k1
      refine Ret.go Tryz.func190 ?_
      simp (disch := omega) [w1]
    · by_cases k2 : n = 2
      · subst k2
        refine Ret.go Tryz.func190 ?_
        simp (disch := omega) [w2]
      · have k3 : ((n : Int) == 1) = false := by simp; omega
        have k4 : ((n : Int) == 2) = false := by simp; omega
        refine Ret.go Tryz.func190 ?_
        simp (disch := omega) [w3, k1, k2, k3, k4]
  · have : (nextV ⟨a, b, c, p⟩ n).pre = [] := by
      unfold nextV
      split
      · rfl
      · split <;> rfl
    rw [Ver.cse, this]
    exact cool_ver rfl
theorem R191 (v : Ver) : Ret Tryz.prog 191 [.agg (Ver.ty.cs v)] (.agg (Cmp.ty.cs (lowC v))) [.un] := by
  obtain ⟨a, b, c, p⟩ := v
  refine Ret.cool (ret := .agg [.sc (.int .i64 1), .sc (.int .i64 a), .sc (.int .i64 b), .sc (.int .i64 c), .own [.sc (.string (bs [48]))] 1 1]) ?_ ?_
  · rw [Ver.cse]
    refine Ret.go Tryz.func191 ?_
    simp (disch := omega) [ex1, idfree, idfree.idfreeL]
  · show roc noH 8 _ = _
    rw [roc_ag (by simp [shut, shut.shutL]), Cmp.cse]
    simp only [List.mapM_cons, List.mapM_nil]
    rw [cool_own (by simp [shut, shut.shutL])]
    rfl
theorem R192 (v : Ver) (n : Nat) (hv : verB v = true) : Ret Tryz.prog 192 [.agg (Ver.ty.cs v), .sc (.int .i64 n)] (.agg (Ver.ty.cs (caretV v n))) [.un, .un] := by
  obtain ⟨h1, h2, h3, -⟩ := verB_of hv
  obtain ⟨a, b, c, p⟩ := v
  simp only at h1 h2 h3
  have w1 : IntKind.i64.wrap (a + 1) = a + 1 := wrap_i64 (by omega) (by omega)
  have w2 : IntKind.i64.wrap (b + 1) = b + 1 := wrap_i64 (by omega) (by omega)
  have w3 : IntKind.i64.wrap (c + 1) = c + 1 := wrap_i64 (by omega) (by omega)
  refine Ret.cool (ret := .agg [.sc (.int .i64 (caretV ⟨a, b, c, p⟩ n).a), .sc (.int .i64 (caretV ⟨a, b, c, p⟩ n).b), .sc (.int .i64 (caretV ⟨a, b, c, p⟩ n).c), .own [] 0 1]) ?_ ?_
  · unfold caretV
    rw [Ver.cse]
    have e1 : ((n : Int) == 1) = decide (n = 1) := by by_cases h : n = 1 <;> simp [h]; omega
    have e2 : ((n : Int) == 2) = decide (n = 2) := by by_cases h : n = 2 <;> simp [h]; omega
    by_cases k1 : a = 0
    · by_cases k2 : n = 1
      · refine Ret.go Tryz.func192 ?_
        simp (disch := omega) [w1, e1, k1, k2]
      · by_cases k3 : b = 0
        · by_cases k4 : n = 2
          · refine Ret.go Tryz.func192 ?_
            simp (disch := omega) [w2, e1, e2, k1, k2, k3, k4]
          · refine Ret.go Tryz.func192 ?_
            simp (disch := omega) [w3, e1, e2, k1, k2, k3, k4]
        · refine Ret.go Tryz.func192 ?_
          simp (disch := omega) [w2, e1, e2, k1, k2, k3]
    · refine Ret.go Tryz.func192 ?_
      simp (disch := omega) [w1, k1]
  · have : (caretV ⟨a, b, c, p⟩ n).pre = [] := by
      unfold caretV
      split
      · rfl
      · split <;> rfl
    rw [Ver.cse, this]
    exact cool_ver rfl
set_option maxHeartbeats 4000000 in
theorem R171 (s : ByteArray) (hs : s.size ≤ 1048576) : Ret Tryz.prog 171 [.sc (.string s)] (partA (partV s)) [.un] := by
  have r0 := (R136 s hs).cool (verA_cool _)
  have e46 : ((46 : UInt8).toNat : Int) = 46 := rfl
  have rS := (R98 s 46 hs).cool (cool_own (strShut _))
  rw [e46] at rS
  have h9 : Ty.int.ok 9999 := show (-9223372036854775808 : Int) ≤ 9999 ∧ (9999 : Int) ≤ 9223372036854775807 by omega
  unfold partV
  generalize parseVer s = o at *
  cases o with
  | some v =>
    unfold partA
    rw [verR, Ver.cse] at r0
    rw [Ver.cse]
    refine Ret.go Tryz.func171 ?_
    simp (disch := omega) []
    refine cX 900 r0 ?_
    simp (disch := omega) []
  | none =>
    simp only
    have hl0 := split_ne s 46
    rw [e46] at hl0
    generalize splitS s 46 = l at *
    rw [verR, Ver.cse] at r0
    refine Ret.cool (ret := partX (partN l)) ?_ (cool_part l)
    by_cases h4 : 3 < l.length
    · have hn : partN l = none := by
        match l, h4 with
        | _ :: _ :: _ :: _ :: _, _ => rfl
      have h5 : (3 : Int) < l.length := by omega
      rw [hn]
      refine Ret.go Tryz.func171 ?_
      simp (disch := omega) []
      refine cX 900 r0 ?_
      simp (disch := omega) []
      refine cX 900 rS ?_
      simp (disch := omega) [h5, partX, ver0]
    · have x1 : ∀ b : ByteArray, b ≠ bs [120] → ¬ (b.toList = [120]) := fun b h e => h (ba_ext (by rw [← Lib.toList_data, e]; rfl))
      match l, h4 with
      | [], _ => exact absurd rfl hl0
      | [a], _ =>
        have n1 := R168 a 9999 h9
        rw [show rows Ty.str.oc [a] = [.sc (.string a)] from rfl] at rS
        rw [partN]
        generalize parseN a 9999 = pa at *
        cases pa <;> rw [numA] at n1
        · refine Ret.go Tryz.func171 ?_
          simp (disch := omega) []
          refine cX 900 r0 ?_
          simp (disch := omega) []
          refine cX 900 rS ?_
          simp (disch := omega) []
          refine T.loopN 4 (rdN_go ?_)
          refine run_ok (n := 1000) ?_
          simp (disch := omega) []
          refine T.on 1000 ?_
          simp (disch := omega) []
          refine T.loopN 4 (rdN_go ?_)
          refine run_ok (n := 1000) ?_
          simp (disch := omega) [partX, ver0]
          refine cX 900 n1 ?_
          simp (disch := omega) [partX, ver0]
        · refine Ret.go Tryz.func171 ?_
          simp (disch := omega) []
          refine cX 900 r0 ?_
          simp (disch := omega) []
          refine cX 900 rS ?_
          simp (disch := omega) []
          refine T.loopN 4 (rdN_go ?_)
          refine run_ok (n := 1000) ?_
          simp (disch := omega) []
          refine T.on 1000 ?_
          simp (disch := omega) []
          refine T.loopN 4 (rdN_go ?_)
          refine run_ok (n := 1000) ?_
          simp (disch := omega) [partX, ver0]
          refine cX 900 n1 ?_
          simp (disch := omega) [partX, ver0]
          refine rdN_go (run_ok (n := 1000) ?_)
          simp (disch := omega) [partX, ver0]
          refine T.on 1000 ?_
          simp (disch := omega) [partX, ver0]
      | [a, b], _ =>
        have n1 := R168 a 9999 h9
        have n2 := R168 b 9999 h9
        rw [show rows Ty.str.oc [a, b] = [.sc (.string a), .sc (.string b)] from rfl] at rS
        rw [partN]
        by_cases hb : b = bs [120]
        · subst hb
          rw [if_pos rfl]
          clear n2
          generalize parseN a 9999 = pa at *
          cases pa <;> rw [numA] at n1
          · refine Ret.go Tryz.func171 ?_
            simp (disch := omega) []
            refine cX 900 r0 ?_
            simp (disch := omega) []
            refine cX 900 rS ?_
            simp (disch := omega) []
            refine T.loopN 4 (rdN_go ?_)
            refine run_ok (n := 1000) ?_
            simp (disch := omega) []
            refine rdN_go (run_ok (n := 1000) ?_)
            simp (disch := omega) []
            refine T.on 1000 ?_
            simp (disch := omega) []
            refine T.loopN 4 (rdN_go ?_)
            refine run_ok (n := 1000) ?_
            simp (disch := omega) [partX, ver0]
            refine cX 900 n1 ?_
            simp (disch := omega) [partX, ver0]
          · refine Ret.go Tryz.func171 ?_
            simp (disch := omega) []
            refine cX 900 r0 ?_
            simp (disch := omega) []
            refine cX 900 rS ?_
            simp (disch := omega) []
            refine T.loopN 4 (rdN_go ?_)
            refine run_ok (n := 1000) ?_
            simp (disch := omega) []
            refine rdN_go (run_ok (n := 1000) ?_)
            simp (disch := omega) []
            refine T.on 1000 ?_
            simp (disch := omega) []
            refine T.loopN 4 (rdN_go ?_)
            refine run_ok (n := 1000) ?_
            simp (disch := omega) [partX, ver0]
            refine cX 900 n1 ?_
            simp (disch := omega) [partX, ver0]
            refine rdN_go (run_ok (n := 1000) ?_)
            simp (disch := omega) [partX, ver0]
            refine T.on 1000 ?_
            simp (disch := omega) [partX, ver0]
        · rw [if_neg hb]
          have hb := x1 b hb
          generalize parseN a 9999 = pa at *
          generalize parseN b 9999 = pb at *
          cases pa with
          | none =>
            rw [numA] at n1
            refine Ret.go Tryz.func171 ?_
            simp (disch := omega) []
            refine cX 900 r0 ?_
            simp (disch := omega) []
            refine cX 900 rS ?_
            simp (disch := omega) []
            refine T.loopN 4 (rdN_go ?_)
            refine run_ok (n := 1000) ?_
            simp (disch := omega) [hb]
            refine T.on 1000 ?_
            simp (disch := omega) [hb]
            refine T.loopN 4 (rdN_go ?_)
            refine run_ok (n := 1000) ?_
            simp (disch := omega) [partX, ver0]
            refine cX 900 n1 ?_
            simp (disch := omega) [partX, ver0]
          | some x =>
            rw [numA] at n1
            cases pb with
            | none =>
              rw [numA] at n2
              refine Ret.go Tryz.func171 ?_
              simp (disch := omega) []
              refine cX 900 r0 ?_
              simp (disch := omega) []
              refine cX 900 rS ?_
              simp (disch := omega) []
              refine T.loopN 4 (rdN_go ?_)
              refine run_ok (n := 1000) ?_
              simp (disch := omega) [hb]
              refine T.on 1000 ?_
              simp (disch := omega) [hb]
              refine T.loopN 4 (rdN_go ?_)
              refine run_ok (n := 1000) ?_
              simp (disch := omega) [partX, ver0]
              refine cX 900 n1 ?_
              simp (disch := omega) [partX, ver0]
              refine rdN_go (run_ok (n := 1000) ?_)
              simp (disch := omega) [partX, ver0]
              refine cX 900 n2 ?_
              simp (disch := omega) [partX, ver0]
            | some y =>
              rw [numA] at n2
              refine Ret.go Tryz.func171 ?_
              simp (disch := omega) []
              refine cX 900 r0 ?_
              simp (disch := omega) []
              refine cX 900 rS ?_
              simp (disch := omega) []
              refine T.loopN 4 (rdN_go ?_)
              refine run_ok (n := 1000) ?_
              simp (disch := omega) [hb]
              refine T.on 1000 ?_
              simp (disch := omega) [hb]
              refine T.loopN 4 (rdN_go ?_)
              refine run_ok (n := 1000) ?_
              simp (disch := omega) [partX, ver0]
              refine cX 900 n1 ?_
              simp (disch := omega) [partX, ver0]
              refine rdN_go (run_ok (n := 1000) ?_)
              simp (disch := omega) [partX, ver0]
              refine cX 900 n2 ?_
              simp (disch := omega) [partX, ver0]
              refine rdN_go (run_ok (n := 1000) ?_)
              simp (disch := omega) [partX, ver0]
              refine T.on 1000 ?_
              simp (disch := omega) [partX, ver0]
      | [a, b, c], _ =>
        have n1 := R168 a 9999 h9
        have n2 := R168 b 9999 h9
        rw [show rows Ty.str.oc [a, b, c] = [.sc (.string a), .sc (.string b), .sc (.string c)] from rfl] at rS
        rw [partN]
        by_cases hc : c = bs [120]
        case neg =>
          rw [if_neg hc]
          have hc := x1 c hc
          refine Ret.go Tryz.func171 ?_
          simp (disch := omega) []
          refine cX 900 r0 ?_
          simp (disch := omega) []
          refine cX 900 rS ?_
          simp (disch := omega) []
          refine T.loopN 4 (rdN_go ?_)
          refine run_ok (n := 1000) ?_
          simp (disch := omega) [hc]
          refine T.on 1000 ?_
          simp (disch := omega) [hc, partX, ver0]
        subst hc
        rw [if_pos rfl]
        by_cases hb : b = bs [120]
        · subst hb
          rw [if_pos rfl]
          clear n2
          generalize parseN a 9999 = pa at *
          cases pa <;> rw [numA] at n1
          · refine Ret.go Tryz.func171 ?_
            simp (disch := omega) []
            refine cX 900 r0 ?_
            simp (disch := omega) []
            refine cX 900 rS ?_
            simp (disch := omega) []
            refine T.loopN 4 (rdN_go ?_)
            refine run_ok (n := 1000) ?_
            simp (disch := omega) []
            refine rdN_go (run_ok (n := 1000) ?_)
            simp (disch := omega) []
            refine rdN_go (run_ok (n := 1000) ?_)
            simp (disch := omega) []
            refine T.on 1000 ?_
            simp (disch := omega) []
            refine T.loopN 4 (rdN_go ?_)
            refine run_ok (n := 1000) ?_
            simp (disch := omega) [partX, ver0]
            refine cX 900 n1 ?_
            simp (disch := omega) [partX, ver0]
          · refine Ret.go Tryz.func171 ?_
            simp (disch := omega) []
            refine cX 900 r0 ?_
            simp (disch := omega) []
            refine cX 900 rS ?_
            simp (disch := omega) []
            refine T.loopN 4 (rdN_go ?_)
            refine run_ok (n := 1000) ?_
            simp (disch := omega) []
            refine rdN_go (run_ok (n := 1000) ?_)
            simp (disch := omega) []
            refine rdN_go (run_ok (n := 1000) ?_)
            simp (disch := omega) []
            refine T.on 1000 ?_
            simp (disch := omega) []
            refine T.loopN 4 (rdN_go ?_)
            refine run_ok (n := 1000) ?_
            simp (disch := omega) [partX, ver0]
            refine cX 900 n1 ?_
            simp (disch := omega) [partX, ver0]
            refine rdN_go (run_ok (n := 1000) ?_)
            simp (disch := omega) [partX, ver0]
            refine T.on 1000 ?_
            simp (disch := omega) [partX, ver0]
        · rw [if_neg hb]
          have hb := x1 b hb
          generalize parseN a 9999 = pa at *
          generalize parseN b 9999 = pb at *
          cases pa with
          | none =>
            rw [numA] at n1
            refine Ret.go Tryz.func171 ?_
            simp (disch := omega) []
            refine cX 900 r0 ?_
            simp (disch := omega) []
            refine cX 900 rS ?_
            simp (disch := omega) []
            refine T.loopN 4 (rdN_go ?_)
            refine run_ok (n := 1000) ?_
            simp (disch := omega) [hb]
            refine rdN_go (run_ok (n := 1000) ?_)
            simp (disch := omega) [hb]
            refine T.on 1000 ?_
            simp (disch := omega) [hb]
            refine T.loopN 4 (rdN_go ?_)
            refine run_ok (n := 1000) ?_
            simp (disch := omega) [partX, ver0]
            refine cX 900 n1 ?_
            simp (disch := omega) [partX, ver0]
          | some x =>
            rw [numA] at n1
            cases pb with
            | none =>
              rw [numA] at n2
              refine Ret.go Tryz.func171 ?_
              simp (disch := omega) []
              refine cX 900 r0 ?_
              simp (disch := omega) []
              refine cX 900 rS ?_
              simp (disch := omega) []
              refine T.loopN 4 (rdN_go ?_)
              refine run_ok (n := 1000) ?_
              simp (disch := omega) [hb]
              refine rdN_go (run_ok (n := 1000) ?_)
              simp (disch := omega) [hb]
              refine T.on 1000 ?_
              simp (disch := omega) [hb]
              refine T.loopN 4 (rdN_go ?_)
              refine run_ok (n := 1000) ?_
              simp (disch := omega) [partX, ver0]
              refine cX 900 n1 ?_
              simp (disch := omega) [partX, ver0]
              refine rdN_go (run_ok (n := 1000) ?_)
              simp (disch := omega) [partX, ver0]
              refine cX 900 n2 ?_
              simp (disch := omega) [partX, ver0]
            | some y =>
              rw [numA] at n2
              refine Ret.go Tryz.func171 ?_
              simp (disch := omega) []
              refine cX 900 r0 ?_
              simp (disch := omega) []
              refine cX 900 rS ?_
              simp (disch := omega) []
              refine T.loopN 4 (rdN_go ?_)
              refine run_ok (n := 1000) ?_
              simp (disch := omega) [hb]
              refine rdN_go (run_ok (n := 1000) ?_)
              simp (disch := omega) [hb]
              refine T.on 1000 ?_
              simp (disch := omega) [hb]
              refine T.loopN 4 (rdN_go ?_)
              refine run_ok (n := 1000) ?_
              simp (disch := omega) [partX, ver0]
              refine cX 900 n1 ?_
              simp (disch := omega) [partX, ver0]
              refine rdN_go (run_ok (n := 1000) ?_)
              simp (disch := omega) [partX, ver0]
              refine cX 900 n2 ?_
              simp (disch := omega) [partX, ver0]
              refine rdN_go (run_ok (n := 1000) ?_)
              simp (disch := omega) [partX, ver0]
              refine T.on 1000 ?_
              simp (disch := omega) [partX, ver0]
      | _ :: _ :: _ :: _ :: _, h => simp at h
set_option maxRecDepth 100000
theorem cmpShut (l : List Cmp) : shut.shutL (rows Cmp.ty.cs l) = true := shutL_rows Cmp.ty.sh l
theorem bs_inj (a b : List UInt8) : (bs a = bs b) = (a = b) := eq_iff_iff.2 ⟨fun h => by
  have := congrArg (fun x => x.data.toList) h
  simpa [bs_list] using this, fun h => by rw [h]⟩
def isOp (op : ByteArray) : Prop := op = bs [94] ∨ op = bs [126] ∨ op = bs [62, 61] ∨ op = bs [62] ∨ op = bs [60, 61] ∨ op = bs [60] ∨ op = bs [61] ∨ op = bs []
set_option maxHeartbeats 4000000 in
theorem R172O (op : ByteArray) (v : Ver) (n : Nat) (hop : isOp op) (hv : verB v = true) : Ret Tryz.prog 172 [.sc (.string op), .agg (Ver.ty.cs v), .sc (.int .i64 n)] (.own (rows Cmp.ty.cs (mkCmps op v n)) (mkCmps op v n).length 5) [.un, .un, .un] := by
  have hv2 : verB ⟨v.a, v.b, 0, []⟩ = true := by
    obtain ⟨h1, h2, h3, -⟩ := verB_of hv
    simp [verB, inR, h1, h2]
  have rN := R190 v n hv
  have rB := R191 (nextV v n)
  have rT := R190 ⟨v.a, v.b, 0, []⟩ (min n 2) hv2
  have rTB := R191 (nextV ⟨v.a, v.b, 0, []⟩ (min n 2))
  have rC := R192 v n hv
  have rCB := R191 (caretV v n)
  clear hv hv2
  unfold mkCmps
  generalize nextV ⟨v.a, v.b, 0, []⟩ (min n 2) = tv at *
  generalize nextV v n = nv at *
  generalize caretV v n = cv at *
  generalize lowC nv = nl at *
  generalize lowC tv = tl at *
  generalize lowC cv = cl at *
  obtain ⟨a, b, c, p⟩ := v
  obtain ⟨na, nb, nc, np⟩ := nv
  obtain ⟨ta, tb, tc, tp⟩ := tv
  obtain ⟨ca, cb, cc, cp⟩ := cv
  obtain ⟨no, nlv⟩ := nl
  obtain ⟨tlo, tlv⟩ := tl
  obtain ⟨clo, clv⟩ := cl
  rw [Ver.cse] at rN rB rT rTB rC rCB ⊢
  rw [Ver.cse] at rN rT rC
  rw [Cmp.cse] at rB rTB rCB
  simp only at rN rB rT rTB rC rCB ⊢
  obtain ⟨k, hk⟩ : ∃ k, k = min n 2 := ⟨_, rfl⟩
  rw [← hk] at rT
  have hm : min (n : Int) 2 = (k : Int) := by omega
  replace rT := Ret.sub (args' := [.agg [.sc (.int .i64 a), .sc (.int .i64 b), .sc (.int .i64 0), .em], .sc (.int .i64 k)]) rT ⟨⟨.inl rfl, .inl rfl, .inl rfl, .inr ⟨rfl, rfl⟩, trivial⟩, .inl rfl, trivial⟩
  by_cases hn : n < 3
  · have hn2 : (n : Int) < 3 := by omega
    rcases hop with rfl | rfl | rfl | rfl | rfl | rfl | rfl | rfl
    · refine Ret.go Tryz.func172 ?_
      simp (disch := omega) [hn, hn2]
      refine cX 900 rN ?_
      simp (disch := omega) [hn, hn2, hm, ex1, idfree, idfree.idfreeL, rows_cons, rows_nil, Cmp.cse, bs_inj]
      refine T.textE [(5, [65])] ?_ mixed
      simp (disch := omega) [hm]
      refine cWX 900 rC ?_
      simp (disch := omega) [hm, ex1, idfree, idfree.idfreeL, rows_cons, rows_nil, Cmp.cse, bs_inj]
      refine cWX 900 rCB ?_
      simp (disch := omega) [hm, ex1, idfree, idfree.idfreeL, rows_cons, rows_nil, Cmp.cse, bs_inj]
    · refine Ret.go Tryz.func172 ?_
      simp (disch := omega) [hn, hn2]
      refine cX 900 rN ?_
      simp (disch := omega) [hn, hn2, hm, ex1, idfree, idfree.idfreeL, rows_cons, rows_nil, Cmp.cse, bs_inj]
      refine T.textE [(10, [57])] ?_ mixed
      simp (disch := omega) [hm]
      refine cWX 900 rT ?_ (hys := by simp [mk_bs]; omega)
      simp (disch := omega) [hm, ex1, idfree, idfree.idfreeL, rows_cons, rows_nil, Cmp.cse, bs_inj]
      refine cWX 900 rTB ?_
      simp (disch := omega) [hm, ex1, idfree, idfree.idfreeL, rows_cons, rows_nil, Cmp.cse, bs_inj]
    · refine Ret.go Tryz.func172 ?_
      simp (disch := omega) [hn, hn2]
      refine cX 900 rN ?_
      simp (disch := omega) [hn, hn2, hm, ex1, idfree, idfree.idfreeL, rows_cons, rows_nil, Cmp.cse, bs_inj]
    · refine Ret.go Tryz.func172 ?_
      simp (disch := omega) [hn, hn2]
      refine cX 900 rN ?_
      simp (disch := omega) [hn, hn2, hm, ex1, idfree, idfree.idfreeL, rows_cons, rows_nil, Cmp.cse, bs_inj]
    · refine Ret.go Tryz.func172 ?_
      simp (disch := omega) [hn, hn2]
      refine cX 900 rN ?_
      simp (disch := omega) [hn, hn2, hm, ex1, idfree, idfree.idfreeL, rows_cons, rows_nil, Cmp.cse, bs_inj]
      refine cX 900 rB ?_
      simp (disch := omega) [ex1, idfree, idfree.idfreeL, rows_cons, rows_nil, Cmp.cse, bs_inj]
    · refine Ret.go Tryz.func172 ?_
      simp (disch := omega) [hn, hn2]
      refine cX 900 rN ?_
      simp (disch := omega) [hn, hn2, hm, ex1, idfree, idfree.idfreeL, rows_cons, rows_nil, Cmp.cse, bs_inj]
    · refine Ret.go Tryz.func172 ?_
      simp (disch := omega) [hn, hn2]
      refine cX 900 rN ?_
      simp (disch := omega) [hn, hn2, hm, ex1, idfree, idfree.idfreeL, rows_cons, rows_nil, Cmp.cse, bs_inj]
      refine T.textE [(3, [70])] ?_ mixed
      simp (disch := omega) [hm]
      refine cWX 900 rB ?_
      simp (disch := omega) [hm, ex1, idfree, idfree.idfreeL, rows_cons, rows_nil, Cmp.cse, bs_inj]
    · refine Ret.go Tryz.func172 ?_
      simp (disch := omega) [hn, hn2]
      refine cX 900 rN ?_
      simp (disch := omega) [hn, hn2, hm, ex1, idfree, idfree.idfreeL, rows_cons, rows_nil, Cmp.cse, bs_inj]
      refine T.textE [(3, [70])] ?_ mixed
      simp (disch := omega) [hm]
      refine cWX 900 rB ?_
      simp (disch := omega) [hm, ex1, idfree, idfree.idfreeL, rows_cons, rows_nil, Cmp.cse, bs_inj]
  · have hn2 : ¬ ((n : Int) < 3) := by omega
    rcases hop with rfl | rfl | rfl | rfl | rfl | rfl | rfl | rfl
    · refine Ret.go Tryz.func172 ?_
      simp (disch := omega) [hn, hn2]
      refine cX 900 rN ?_
      simp (disch := omega) [hn, hn2, hm, ex1, idfree, idfree.idfreeL, rows_cons, rows_nil, Cmp.cse, bs_inj]
      refine T.textE [(5, [65])] ?_ mixed
      simp (disch := omega) [hm]
      refine cWX 900 rC ?_
      simp (disch := omega) [hm, ex1, idfree, idfree.idfreeL, rows_cons, rows_nil, Cmp.cse, bs_inj]
      refine cWX 900 rCB ?_
      simp (disch := omega) [hm, ex1, idfree, idfree.idfreeL, rows_cons, rows_nil, Cmp.cse, bs_inj]
    · refine Ret.go Tryz.func172 ?_
      simp (disch := omega) [hn, hn2]
      refine cX 900 rN ?_
      simp (disch := omega) [hn, hn2, hm, ex1, idfree, idfree.idfreeL, rows_cons, rows_nil, Cmp.cse, bs_inj]
      refine T.textE [(10, [57])] ?_ mixed
      simp (disch := omega) [hm]
      refine cWX 900 rT ?_ (hys := by simp [mk_bs]; omega)
      simp (disch := omega) [hm, ex1, idfree, idfree.idfreeL, rows_cons, rows_nil, Cmp.cse, bs_inj]
      refine cWX 900 rTB ?_
      simp (disch := omega) [hm, ex1, idfree, idfree.idfreeL, rows_cons, rows_nil, Cmp.cse, bs_inj]
    · refine Ret.go Tryz.func172 ?_
      simp (disch := omega) [hn, hn2]
      refine cX 900 rN ?_
      simp (disch := omega) [hn, hn2, hm, ex1, idfree, idfree.idfreeL, rows_cons, rows_nil, Cmp.cse, bs_inj]
    · refine Ret.go Tryz.func172 ?_
      simp (disch := omega) [hn, hn2]
      refine cX 900 rN ?_
      simp (disch := omega) [hn, hn2, hm, ex1, idfree, idfree.idfreeL, rows_cons, rows_nil, Cmp.cse, bs_inj]
    · refine Ret.go Tryz.func172 ?_
      simp (disch := omega) [hn, hn2]
      refine cX 900 rN ?_
      simp (disch := omega) [hn, hn2, hm, ex1, idfree, idfree.idfreeL, rows_cons, rows_nil, Cmp.cse, bs_inj]
    · refine Ret.go Tryz.func172 ?_
      simp (disch := omega) [hn, hn2]
      refine cX 900 rN ?_
      simp (disch := omega) [hn, hn2, hm, ex1, idfree, idfree.idfreeL, rows_cons, rows_nil, Cmp.cse, bs_inj]
    · refine Ret.go Tryz.func172 ?_
      simp (disch := omega) [hn, hn2]
      refine cX 900 rN ?_
      simp (disch := omega) [hn, hn2, hm, ex1, idfree, idfree.idfreeL, rows_cons, rows_nil, Cmp.cse, bs_inj]
    · refine Ret.go Tryz.func172 ?_
      simp (disch := omega) [hn, hn2]
      refine cX 900 rN ?_
      simp (disch := omega) [hn, hn2, hm, ex1, idfree, idfree.idfreeL, rows_cons, rows_nil, Cmp.cse, bs_inj]
set_option maxRecDepth 100000
def opsL : List ByteArray := [bs [94], bs [126], bs [62, 61], bs [62], bs [60, 61], bs [60], bs [61], bs []]
def hasP (w o : ByteArray) : Bool := Lib.hasPrefix w.data.toList o.data.toList
def trimP (w o : ByteArray) : ByteArray := bs (Lib.trimPrefix w.data.toList o.data.toList)
def cmpsO (w : ByteArray) : Option (List Cmp) :=
  if w = bs [42] then some [⟨4, ver0⟩] else
  match opsL.find? (hasP w) with
  | some o => (partV (trimP w o)).map fun p => mkCmps o p.1 p.2
  | none => none
def cmpsX (o : Option (List Cmp)) : AV := .tup [.own (rows Cmp.ty.cs (o.getD [])) (o.getD []).length 5, .sc (.bool o.isSome)]
def cmpsA (o : Option (List Cmp)) : AV := .tup [.ro (rows Cmp.ty.cs (o.getD [])) (o.getD []).length, .sc (.bool o.isSome)]
theorem cool_cmps (o : Option (List Cmp)) : coolT (cmpsX o) = some (cmpsA o) := by
  unfold cmpsX cmpsA coolT
  simp only [List.mapM_cons, List.mapM_nil]
  rw [cool_own (cmpShut _)]
  rfl
theorem opsL_is {y : ByteArray} {pre rest : List ByteArray} (h : pre ++ y :: rest = opsL) : isOp y := by
  have : y ∈ opsL := by rw [← h]; simp
  unfold opsL at this
  simpa [isOp] using this
theorem partN_ok {l : List ByteArray} {p : Ver × Nat} (h : partN l = some p) : verB p.1 = true ∧ 1 ≤ p.2 ∧ p.2 ≤ 2 := by
  have hz : ∀ (s : ByteArray) (x : Nat), parseN s 9999 = some x → (x : Int) ≤ 9999 := fun s x h => (numT_of h).2
  have h1 : ∀ a : ByteArray, ((parseN a 9999).map fun x : Nat => ((⟨x, 0, 0, []⟩ : Ver), 1)) = some p → verB p.1 = true ∧ 1 ≤ p.2 ∧ p.2 ≤ 2 := fun a h => by
    obtain ⟨x, hx, rfl⟩ := Option.map_eq_some_iff.1 h
    have := hz a x hx
    exact ⟨by simp [verB, inR]; omega, by simp, by simp⟩
  have h2 : ∀ a b : ByteArray, (match parseN a 9999, parseN b 9999 with | some x, some y => some ((⟨x, y, 0, []⟩ : Ver), 2) | _, _ => none) = some p → verB p.1 = true ∧ 1 ≤ p.2 ∧ p.2 ≤ 2 := fun a b h => by
    split at h
    · rename_i x y hx hy
      cases h
      have := hz a x hx
      have := hz b y hy
      exact ⟨by simp [verB, inR]; omega, by simp, by simp⟩
    · cases h
  match l, h with
  | [a], h => exact h1 a h
  | [a, b], h =>
    rw [partN] at h
    split at h
    · exact h1 a h
    · exact h2 a b h
  | [a, b, c], h =>
    rw [partN] at h
    split at h
    · split at h
      · exact h1 a h
      · exact h2 a b h
    · cases h
theorem parseVer_ok {s : ByteArray} {v : Ver} (h : parseVer s = some v) : verB v = true := by
  unfold parseVer parseVerC at h
  split at h
  · split at h
    · split at h
      · rename_i hv; cases h; exact hv
      · cases h
    · cases h
  · cases h
theorem partV_ok {s : ByteArray} {p : Ver × Nat} (h : partV s = some p) : verB p.1 = true ∧ 1 ≤ p.2 ∧ p.2 ≤ 3 := by
  unfold partV at h
  split at h
  · rename_i v hv; cases h; exact ⟨parseVer_ok hv, by simp, by simp⟩
  · obtain ⟨h1, h2, h3⟩ := partN_ok h
    exact ⟨h1, h2, by omega⟩
theorem trimP_size (w o : ByteArray) : (trimP w o).size ≤ w.size := by
  unfold trimP Lib.trimPrefix
  rw [bs_size]
  have : w.size = w.data.toList.length := rfl
  split <;> (try rw [List.length_drop]) <;> omega
theorem cmpIdf (l : List Cmp) : idfree.idfreeL (rows Cmp.ty.cs l) = true := shutL_idfree _ (cmpShut l)
set_option maxHeartbeats 4000000 in
theorem R137 (w : ByteArray) (hw : w.size ≤ 1048576) : Ret Tryz.prog 137 [.sc (.string w)] (cmpsA (cmpsO w)) [.un] := by
  have x1 : w ≠ bs [42] → ¬ (w.toList = [42]) := fun h e => h (ba_ext (by rw [← Lib.toList_data, e]; rfl))
  by_cases h42 : w = bs [42]
  · subst h42
    rw [show cmpsO (bs [42]) = some [⟨4, ver0⟩] from if_pos rfl]
    unfold cmpsA
    refine Ret.weakW (ret := .tup [.own [.sc (.int .i64 4), .sc (.int .i64 0), .sc (.int .i64 0), .sc (.int .i64 0), .em] 1 5, .sc (.bool true)]) ?_ (r1 := .tup [.ro [.sc (.int .i64 4), .sc (.int .i64 0), .sc (.int .i64 0), .sc (.int .i64 0), .em] 1, .sc (.bool true)]) ?_ ?_
    · refine Ret.go Tryz.func137 ?_
      simp (disch := omega) [ex1, idfree, idfree.idfreeL]
    · unfold coolT
      simp only [List.mapM_cons, List.mapM_nil]
      rw [cool_own (by simp [shut, shut.shutL])]
      rfl
    · intro M w v h
      cases h with
      | tup _ us h1 h2 =>
        refine .tup _ us h1 fun j x u hx hu => ?_
        match j with
        | 0 =>
          cases hx
          exact W_roS (xs := [.sc (.int .i64 4), .sc (.int .i64 0), .sc (.int .i64 0), .sc (.int .i64 0), .em]) (ys := [.sc (.int .i64 4), .sc (.int .i64 0), .sc (.int .i64 0), .sc (.int .i64 0), .ro [] 0]) ⟨.inl rfl, .inl rfl, .inl rfl, .inl rfl, .inr ⟨rfl, rfl⟩, trivial⟩ (h2 0 _ u rfl hu)
        | 1 => exact h2 1 x u hx hu
        | j + 2 => simp at hx
  · refine Ret.cool (ret := cmpsX (cmpsO w)) ?_ (cool_cmps _)
    have h42' := x1 h42
    unfold cmpsO
    rw [if_neg h42]
    refine Ret.go Tryz.func137 ?_
    simp (disch := omega) [h42']
    refine T.forL opsL (fun pre _ => ∀ o ∈ pre, hasP w o = false) (fun pre _ => [(0, .sc (.string w)), (15, .agg (rows Ty.str.oc opsL)), (16, .sc (.int .i64 pre.length))]) (fun _ _ => []) (by rw [show rows Ty.str.oc opsL = [.sc (.string (bs [94])), .sc (.string (bs [126])), .sc (.string (bs [62, 61])), .sc (.string (bs [62])), .sc (.string (bs [60, 61])), .sc (.string (bs [60])), .sc (.string (bs [61])), .sc (.string (bs []))] from rfl]; simp [idfree, idfree.idfreeL, menQ]) ?_ ?_
    · intro hJ
      exact absurd (hJ (bs []) (by simp [opsL])) (by simp [hasP, Lib.hasPrefix, bs_list])
    · intro pre y rest hx hl hJ
      have hop := opsL_is hx
      have hd : List.drop pre.length (rows Ty.str.oc opsL) = .sc (.string y) :: rows Ty.str.oc rest := by
        have := rows_drop Ty.str.ocn pre (y :: rest)
        rwa [hx, show pre.length * Ty.str.n = pre.length from Nat.mul_one _] at this
      have hpl : (pre.length : Int) < 8 := by
        have : pre.length < opsL.length := by omega
        have e : opsL.length = 8 := rfl
        omega
      have rP : Ret Tryz.prog 170 [.sc (.string w), .sc (.string y)] (.tup [.sc (.string (trimP w y)), .sc (.bool (hasP w y))]) [.un, .un] := R170 w.data.toList y.data.toList
      have hts := trimP_size w y
      have rV := R171 (trimP w y) (by omega)
      have hg : (rows Ty.str.oc opsL)[pre.length]? = some (.sc (.string y)) := by
        have := congrArg List.head? hd
        rwa [List.head?_drop] at this
      simp (disch := omega) [hg, hpl]
      refine cX 900 rP ?_
      cases hh : hasP w y
      · simp (disch := omega) [hh]
        exact ⟨fun o ho => ho.elim (hJ o) (fun e => e ▸ hh), rfl⟩
      · have hf : opsL.find? (hasP w) = some y := by
          rw [← hx, List.find?_append, List.find?_eq_none.2 (fun o ho => by rw [hJ o ho]; simp)]
          simp [hh]
        rw [hf]
        simp only
        simp (disch := omega) [hh]
        refine cX 900 rV ?_
        cases hv : partV (trimP w y) with
        | none =>
          simp (disch := omega) [partA, Ver.cse, cmpsX]
        | some p =>
          have rW := R172O y p.1 p.2 hop (partV_ok hv).1
          rw [Ver.cse] at rW
          have hl := Cmp.csl (mkCmps y p.1 p.2)
          have hi := cmpIdf (mkCmps y p.1 p.2)
          simp (disch := omega) [partA, Ver.cse, cmpsX]
          refine cX 900 rW ?_
          simp (disch := omega) [partA, Ver.cse, cmpsX, ex1, hl, hi]
set_option maxRecDepth 100000
def trimLB (c : UInt8) : List UInt8 → List UInt8
  | [] => []
  | x :: l => if x = c then trimLB c l else x :: l
def trimRB (c : UInt8) : List UInt8 → List UInt8
  | [] => []
  | x :: l => if trimRB c l = [] ∧ x = c then [] else x :: trimRB c l
theorem trim_comm (c : UInt8) (l : List UInt8) : trimLB c (trimRB c l) = trimRB c (trimLB c l) := by
  induction l with
  | nil => rfl
  | cons x l ih =>
    rw [trimRB, trimLB]
    by_cases hx : x = c
    · rw [if_pos hx, ← ih]
      by_cases h : trimRB c l = []
      · rw [if_pos ⟨h, hx⟩, h]
      · rw [if_neg (fun k => h k.1), trimLB, if_pos hx]
    · rw [if_neg hx, if_neg (fun k => hx k.2), trimLB, if_neg hx, trimRB, if_neg (fun k => hx k.2)]
theorem trimRB_snoc (c : UInt8) (l : List UInt8) (x : UInt8) : trimRB c (l ++ [x]) = if x = c then trimRB c l else l ++ [x] := by
  induction l with
  | nil =>
    show trimRB c [x] = _
    rw [trimRB]
    by_cases hx : x = c <;> simp [hx, trimRB]
  | cons y l ih =>
    rw [List.cons_append, trimRB, ih]
    by_cases hx : x = c
    · rw [if_pos hx, if_pos hx, trimRB]
    · rw [if_neg hx, if_neg hx, if_neg (by simp)]
theorem trimRB_len (c : UInt8) : ∀ l : List UInt8, (trimRB c l).length ≤ l.length
  | [] => Nat.le_refl _
  | x :: l => by
    have := trimRB_len c l
    rw [trimRB]
    split <;> simp <;> omega
theorem trimLB_len (c : UInt8) : ∀ l : List UInt8, (trimLB c l).length ≤ l.length
  | [] => Nat.le_refl _
  | x :: l => by
    have := trimLB_len c l
    rw [trimLB]
    split <;> simp <;> omega
theorem R160 (l : List UInt8) (c : UInt8) (hl : l.length ≤ 1048576) : Ret Tryz.prog 160 [.sc (.string (bs l)), .sc (.int .u8 c.toNat)] (.sc (.string (bs (trimLB c l)))) [.un, .un] := by
  refine Ret.go Tryz.func160 ?_
  simp (disch := omega) []
  refine T.forI (ι := List UInt8) (fun m => m.length) (fun m => m.length ≤ 1048576 ∧ trimLB c m = trimLB c l) (fun m => [(0, .sc (.string (bs m))), (1, .sc (.int .u8 c.toNat))]) (fun _ => []) l ⟨⟨hl, rfl⟩, Tl.same rfl (by simp) (by simp)⟩ ?_
  rintro m ⟨h1, h2⟩
  cases m with
  | nil =>
    rw [← h2]
    simp (disch := omega) [trimLB]
    refine T.on 400 ?_
    simp (disch := omega) []
  | cons x m =>
    rw [List.length_cons] at h1
    have e1 : (1 : Int) ≤ m.length + 1 := by omega
    by_cases hx : x = c
    · rw [trimLB, if_pos hx] at h2
      subst hx
      simp (disch := omega) [bs_extract, e1]
      exact Ri_mk m (by simp) ⟨by omega, h2⟩ (Tl.same rfl (by simp) (by simp))
    · rw [trimLB, if_neg hx] at h2
      have hx2 : ¬ ((x.toNat : Int) = (c.toNat : Int)) := fun e => hx (u8_eq.1 e)
      rw [← h2]
      simp (disch := omega) [hx, hx2]
      refine T.on 400 ?_
      simp (disch := omega) []
theorem R161 (l : List UInt8) (c : UInt8) (hl : l.length ≤ 1048576) : Ret Tryz.prog 161 [.sc (.string (bs l)), .sc (.int .u8 c.toNat)] (.sc (.string (bs (trimRB c l)))) [.un, .un] := by
  refine Ret.go Tryz.func161 ?_
  simp (disch := omega) []
  refine T.forI (ι := List UInt8) (fun m => m.length) (fun m => m.length ≤ 1048576 ∧ trimRB c m = trimRB c l) (fun m => [(0, .sc (.string (bs m))), (1, .sc (.int .u8 c.toNat))]) (fun _ => []) l ⟨⟨hl, rfl⟩, Tl.same rfl (by simp) (by simp)⟩ ?_
  rintro m ⟨h1, h2⟩
  rcases List.eq_nil_or_concat m with rfl | ⟨m, x, rfl⟩
  · rw [← h2]
    simp (disch := omega) [trimRB]
    refine T.on 400 ?_
    simp (disch := omega) []
  · rw [List.concat_eq_append] at *
    rw [List.length_append, List.length_singleton] at h1
    have e1 : (0 : Int) < m.length + 1 := by omega
    have e2 : IntKind.i64.wrap ((m.length : Int) + 1 - 1) = m.length := by rw [show (m.length : Int) + 1 - 1 = m.length by omega]; exact wrap_i64 (by omega) (by omega)
    have hg : (m ++ [x])[m.length]? = some x := by simp
    rw [trimRB_snoc] at h2
    by_cases hx : x = c
    · rw [if_pos hx] at h2
      subst hx
      simp (disch := omega) [bs_extract, e1, e2, hg]
      exact Ri_mk m (by simp) ⟨by omega, h2⟩ (Tl.same rfl (by simp) (by simp))
    · rw [if_neg hx] at h2
      have hx2 : ¬ ((x.toNat : Int) = (c.toNat : Int)) := fun e => hx (u8_eq.1 e)
      rw [← h2]
      simp (disch := omega) [hx, hx2, e1, e2, hg]
      refine T.on 400 ?_
      simp (disch := omega) []
set_option maxHeartbeats 1000000 in
theorem R135 (l : List UInt8) (c : UInt8) (hl : l.length ≤ 1048576) (hc : c.toNat < 128) : Ret Tryz.prog 135 [.sc (.string (bs l)), .sc (.string (bs [c]))] (.sc (.string (bs (trimLB c (trimRB c l))))) [.un, .un] := by
  have hlen := trimRB_len c l
  have rR := R161 l c hl
  have rL := R160 (trimRB c l) c (by omega)
  have hc2 : (c.toNat : Int) < 128 := by omega
  cases l with
  | nil =>
    refine Ret.go Tryz.func135 ?_
    simp (disch := omega) [trimRB, trimLB]
  | cons x l =>
    generalize trimRB c (x :: l) = r at *
    refine Ret.go Tryz.func135 ?_
    simp (disch := omega) [hc2]
    refine T.textE [] ?_ mixed
    simp (disch := omega) [hc2]
    refine cWX 900 rR ?_
    simp (disch := omega) [hc2]
    refine cWX 900 rL ?_
    simp (disch := omega) []
set_option maxRecDepth 100000
def catS (a : Option (List Cmp)) (w : ByteArray) : Option (List Cmp) :=
  match a, cmpsO w with
  | some x, some y => some (x ++ y)
  | _, _ => none
def catO (ws : List ByteArray) : Option (List Cmp) := ws.foldl catS (some [])
theorem catO_snoc (pre : List ByteArray) (x : ByteArray) : catO (pre ++ [x]) = catS (catO pre) x := by unfold catO; rw [List.foldl_append]; rfl
theorem catS_none (ws : List ByteArray) : ws.foldl catS none = none := by
  induction ws with
  | nil => rfl
  | cons w ws ih => exact ih
theorem catO_none {pre rest : List ByteArray} {x : ByteArray} (h : cmpsO x = none) : catO (pre ++ x :: rest) = none := by
  unfold catO
  rw [List.foldl_append, List.foldl_cons]
  have : catS (pre.foldl catS (some [])) x = none := by unfold catS; rw [h]; split <;> simp_all
  rw [this, catS_none]
structure OkC (x : Cmp) : Prop where
  n : x.v.pre.length ≤ 3
  z : ∀ s ∈ x.v.pre, s.size ≤ 8
theorem okC_ver {o : Int} {v : Ver} (h : verB v = true) : OkC ⟨o, v⟩ := ⟨(verB_of h).2.2.2.1, fun s hs => (preB_size ((verB_of h).2.2.2.2 s hs)).2⟩
theorem okC_low (v : Ver) : OkC (lowC v) := ⟨by simp [lowC], fun s hs => by simp [lowC] at hs; subst hs; decide⟩
theorem okC_next (o : Int) (v : Ver) (n : Nat) : OkC ⟨o, nextV v n⟩ := by
  have : (nextV v n).pre = [] := by unfold nextV; repeat' split <;> try rfl
  exact ⟨by simp [this], fun s hs => by simp [this] at hs⟩
theorem mk_ok {op : ByteArray} {v : Ver} {n : Nat} (h : verB v = true) : (mkCmps op v n).length ≤ 2 ∧ ∀ x ∈ mkCmps op v n, OkC x := by
  unfold mkCmps
  repeat' split
  all_goals simp [okC_ver h, okC_low, okC_next]
theorem cmpsO_ok {w : ByteArray} {l : List Cmp} (h : cmpsO w = some l) : l.length ≤ 2 ∧ ∀ x ∈ l, OkC x := by
  unfold cmpsO at h
  split at h
  · cases h
    refine ⟨by simp, fun x hx => ?_⟩
    rw [List.mem_singleton.1 hx]
    exact ⟨by simp [ver0], by simp [ver0]⟩
  · split at h
    · obtain ⟨p, hp, rfl⟩ := Option.map_eq_some_iff.1 h
      exact mk_ok (partV_ok hp).1
    · cases h
theorem catO_ok : ∀ {ws : List ByteArray} {l : List Cmp}, catO ws = some l → l.length ≤ 2 * ws.length ∧ ∀ x ∈ l, OkC x := by
  intro ws
  obtain ⟨n, hn⟩ : ∃ n, n = ws.length := ⟨_, rfl⟩
  induction n generalizing ws with
  | zero =>
    intro l h
    rw [List.length_eq_zero_iff.1 hn.symm] at h
    cases h
    simp
  | succ n ih =>
    intro l h
    rcases List.eq_nil_or_concat ws with rfl | ⟨pre, x, rfl⟩
    · simp at hn
    · rw [List.concat_eq_append] at *
      rw [catO_snoc] at h
      unfold catS at h
      rw [List.length_append, List.length_singleton] at hn ⊢
      split at h
      · rename_i a b ha hb
        cases h
        obtain ⟨h1, h2⟩ := ih (by omega) ha
        obtain ⟨h3, h4⟩ := cmpsO_ok hb
        refine ⟨by rw [List.length_append]; omega, fun y hy => (List.mem_append.1 hy).elim (h2 y) (h4 y)⟩
      · cases h
def okL (l : List Cmp) : Bool := l.all fun x => verB x.v
theorem okL_snoc (l : List Cmp) (x : Cmp) : okL (l ++ [x]) = (okL l && verB x.v) := by simp [okL]
theorem okL_not {pre rest l : List Cmp} {x : Cmp} (hx : pre ++ x :: rest = l) (h : verB x.v = false) : okL l = false := by rw [← hx]; simp [okL, h]
def listI (ws : List ByteArray) : List Cmp × Bool :=
  match ws with
  | [a, d, b] => if d = bs [45] then ([⟨4, (parseVer a).getD ver0⟩, ⟨2, (parseVer b).getD ver0⟩], (parseVer a).isSome && (parseVer b).isSome) else
    match catO ws with
    | none => ([], false)
    | some l => if okL l = true then (l, decide (l.length ≤ 4)) else ([], false)
  | _ => match catO ws with
    | none => ([], false)
    | some l => if okL l = true then (l, decide (l.length ≤ 4)) else ([], false)
def wordsB (t : ByteArray) : List ByteArray := splitS (bs (trimLB 32 (trimRB 32 t.data.toList))) 32
def listX (p : List Cmp × Bool) : AV := .tup [.own (rows Cmp.ty.cs p.1) p.1.length 5, .sc (.bool p.2)]
def listA (p : List Cmp × Bool) : AV := .tup [.ro (rows Cmp.ty.cs p.1) p.1.length, .sc (.bool p.2)]
theorem cool_list (p : List Cmp × Bool) : coolT (listX p) = some (listA p) := by
  unfold listX listA coolT
  simp only [List.mapM_cons, List.mapM_nil]
  rw [cool_own (cmpShut _)]
  rfl
set_option maxHeartbeats 8000000 in
theorem R99 (t : ByteArray) (ht : t.size ≤ 1048576) : Ret Tryz.prog 99 [.sc (.string t)] (listA (listI (wordsB t))) [.un] := by
  refine Ret.cool (ret := listX (listI (wordsB t))) ?_ (cool_list _)
  have hsz : t.size = t.data.toList.length := rfl
  have z1 := trimRB_len 32 t.data.toList
  have z2 := trimLB_len 32 (trimRB 32 t.data.toList)
  have rT : Ret Tryz.prog 135 [.sc (.string t), .sc (.string (bs [32]))] (.sc (.string (bs (trimLB 32 (trimRB 32 t.data.toList))))) [.un, .un] := R135 t.data.toList 32 (by omega) (by decide)
  have z3 : (bs (trimLB 32 (trimRB 32 t.data.toList))).size ≤ 1048576 := by rw [bs_size]; omega
  obtain ⟨u, hu⟩ : ∃ u, u = bs (trimLB 32 (trimRB 32 t.data.toList)) := ⟨_, rfl⟩
  have hw : wordsB t = splitS u 32 := by rw [hu]; rfl
  rw [← hu] at z3 rT
  have rS : Ret Tryz.prog 98 [.sc (.string u), .sc (.string (bs [32]))] (.ro (rows Ty.str.cs (splitS u 32)) (splitS u 32).length) [.un, .un] := (R98 u 32 z3).cool (cool_own (strShut _))
  obtain ⟨b1, b2⟩ : (splitS u 32).length ≤ u.size + 1 ∧ ∀ x ∈ splitS u 32, x.size ≤ u.size := splitS_bounds u 32
  rw [hw]
  generalize splitS u 32 = ws at *
  clear hw z1 z2 hsz hu
  by_cases hy : ∃ a b, ws = [a, bs [45], b]
  · obtain ⟨a, b, rfl⟩ := hy
    have r1 := (R136 a (by have := b2 a (by simp); omega)).cool (verA_cool _)
    have r2 := (R136 b (by have := b2 b (by simp); omega)).cool (verA_cool _)
    rw [show rows Ty.str.cs [a, bs [45], b] = [.sc (.string a), .sc (.string (bs [45])), .sc (.string b)] from rfl] at rS
    have e : listI [a, bs [45], b] = ([⟨4, (parseVer a).getD ver0⟩, ⟨2, (parseVer b).getD ver0⟩], (parseVer a).isSome && (parseVer b).isSome) := by simp [listI]
    rw [e]
    rw [verR, Ver.cse] at r1 r2
    generalize (parseVer a).getD ver0 = va at *
    generalize (parseVer b).getD ver0 = vb at *
    generalize (parseVer a).isSome = oa at *
    generalize (parseVer b).isSome = ob at *
    refine Ret.go Tryz.func99 ?_
    simp (disch := omega) []
    refine cX 900 rT ?_
    simp (disch := omega) []
    refine cX 900 rS ?_
    simp (disch := omega) []
    refine cX 900 r1 ?_
    simp (disch := omega) []
    refine cX 900 r2 ?_
    cases oa <;> cases ob <;> simp (disch := omega) [ex1, idfree, idfree.idfreeL, rows_cons, rows_nil, Cmp.cse, listX]
  · have e : listI ws = match catO ws with
        | none => ([], false)
        | some l => if okL l = true then (l, decide (l.length ≤ 4)) else ([], false) := by
      unfold listI
      split
      · rename_i a d b
        rw [if_neg (fun e => hy ⟨a, b, by rw [e]⟩)]
      · rfl
    rw [e]
    clear e
    have hg : (((ws.length : Int) = 3) = True ∧ (1 < (ws.length : Int)) = True ∧ ∃ d r, List.drop 1 (rows Ty.str.cs ws) = .sc (.string d) :: r ∧ ¬ (d.toList = [45])) ∨ ((ws.length : Int) = 3) = False := by
      by_cases h3 : ws.length = 3
      · left
        match ws, h3 with
        | [a, d, b], _ => exact ⟨eq_true rfl, eq_true (by simp), d, _, rfl, fun e => hy ⟨a, b, by rw [show d = bs [45] from ba_ext (by rw [← Lib.toList_data, e]; rfl)]⟩⟩
      · right
        exact eq_false (by omega)
    have hwz : ∀ x ∈ ws, x.size ≤ 1048576 := fun x hx => by have := b2 x hx; omega
    have hwn : ws.length ≤ 1048577 := by omega
    clear hy b1 b2 z3
    obtain ⟨F, hF⟩ : ∃ F : List ByteArray → List Cmp, F = fun l => (catO l).getD [] := ⟨_, rfl⟩
    have F0 : F [] = [] := by rw [hF]; rfl
    have F1 : ∀ l a, catO l = some a → F l = a := fun l a h => by rw [hF]; simp [h]
    have Fi : ∀ l, idfree.idfreeL (rows Cmp.ty.cs (F l)) = true := fun l => cmpIdf _
    have Mi : ∀ q l, mens q (rows Cmp.ty.cs (F l)) = true := fun q l => mens_idf (Fi l)
    clear hF
    rcases hg with ⟨g1, g4, d, r, g2, g3⟩ | g1
    case' inl =>
      refine Ret.go Tryz.func99 ?_
      simp (disch := omega) []
      refine cX 900 rT ?_
      simp (disch := omega) []
      refine cX 900 rS ?_
      simp (disch := omega) [g1, g2, g3, g4]
    case' inr =>
      refine Ret.go Tryz.func99 ?_
      simp (disch := omega) []
      refine cX 900 rT ?_
      simp (disch := omega) []
      refine cX 900 rS ?_
      simp (disch := omega) [g1]
    all_goals
      clear g1
      refine T.le (Le.lay 9 50 5 (by simp) (by simp)) ?_
      refine T.forR ws (fun pre _ => ∃ a, catO pre = some a) (fun pre _ => [(9, .sl 50 0 (F pre).length 5 false), (51, .ro (rows Ty.str.cs ws) ws.length), (52, .sc (.int .i64 ws.length)), (53, .sc (.int .i64 pre.length))]) (fun pre _ => [(50, rows Cmp.ty.cs (F pre))]) ⟨⟨[], rfl⟩, Tl.same rfl (by simp [F0]) (by simp [F0, rows])⟩ ?_ ?_
      · rintro ⟨acc, hacc⟩
        rw [hacc, F1 ws acc hacc]
        obtain ⟨al, ac⟩ := catO_ok hacc
        have hi := cmpIdf acc
        have hcl := Cmp.csl acc
        clear hacc F0 F1 Fi Mi
        simp (disch := omega) []
        refine T.on 400 ?_
        simp (disch := omega) []
        refine T.forL acc (fun pre _ => okL pre = true) (fun pre _ => [(9, .sl 50 0 acc.length 5 false), (68, .sl 50 0 acc.length 5 false), (69, .sc (.int .i64 acc.length)), (70, .sc (.int .i64 pre.length))]) (fun _ _ => [(50, rows Cmp.ty.cs acc)]) ⟨rfl, by simp [mens_idf hi]⟩ ?_ ?_
        · intro hJ
          rw [if_pos hJ]
          simp (disch := omega) []
          refine T.on 400 ?_
          simp (disch := omega) [ex1, hi, hcl, listX]
          omega
        · intro pre x rest hx hl2 hJ
          obtain ⟨x1, x2⟩ := ac x (by rw [← hx]; simp)
          have rV := R61 x.v (by omega) (fun s hs => by have := x2 s hs; omega)
          have hd : List.drop (pre.length * 5) (rows Cmp.ty.cs acc) = .sc (.int .i64 x.op) :: .sc (.int .i64 x.v.a) :: .sc (.int .i64 x.v.b) :: .sc (.int .i64 x.v.c) :: .ro (rows Ty.str.cs x.v.pre) x.v.pre.length :: rows Cmp.ty.cs rest := by
            have := rows_drop Cmp.ty.csn pre (x :: rest)
            rw [hx, rows_cons, Cmp.cse] at this
            exact this
          rw [Ver.cse] at rV
          simp (disch := omega) [hd, hcl]
          refine cX 900 rV ?_
          cases hv : verB x.v
          · rw [okL_not hx hv]
            simp (disch := omega) [listX, rows_nil]
          · simp (disch := omega) [okL_snoc, hv, hJ, mens_idf hi]
      · rintro pre x rest hx hl2 ⟨acc, hacc⟩
        have hd : List.drop pre.length (rows Ty.str.cs ws) = .sc (.string x) :: rows Ty.str.cs rest := by rw [rowsC_drop, ← hx, drop_pre, rowsC_cons]
        have rC := R137 x (hwz x (by rw [← hx]; simp))
        have hsn := catO_snoc pre x
        rw [hacc] at hsn
        obtain ⟨al, _⟩ := catO_ok hacc
        have e1 := F1 pre acc hacc
        rw [e1]
        cases hc : cmpsO x with
        | none =>
          have hn : catO ws = none := by rw [← hx]; exact catO_none hc
          rw [hn]
          rw [hc] at rC
          simp (disch := omega) [hd]
          refine cX 900 rC ?_
          simp (disch := omega) [cmpsA, listX, rows_nil]
        | some l =>
          rw [hc] at rC
          obtain ⟨cl, _⟩ := cmpsO_ok hc
          have hs2 : catO (pre ++ [x]) = some (acc ++ l) := by rw [hsn]; unfold catS; rw [hc]
          have e2 := F1 _ _ hs2
          have hr : rows Cmp.ty.cs (F (pre ++ [x])) = rows Cmp.ty.cs acc ++ rows Cmp.ty.cs l := by rw [e2, rows_append]
          have hL : (F (pre ++ [x])).length = acc.length + l.length := by rw [e2, List.length_append]
          have hi := Fi (pre ++ [x])
          rw [hr] at hi
          simp (disch := omega) [hd]
          refine cX 900 rC ?_
          simp (disch := omega) [cmpsA, over, Cmp.csl, hL]
          exact ⟨⟨_, hs2⟩, Tl.ren [(66, 50)] rfl (by simp [idfree, hr, hi])⟩
set_option maxRecDepth 100000
theorem R212 (v : Ver) (n : Nat) (ok : Bool) (hv : verB v = true) (hn : n ≤ 2) (h1 : 1 ≤ n) : Ret Tryz.prog 212 [.agg [.sc (.int .i64 v.a), .sc (.int .i64 v.b), .sc (.int .i64 v.c), .ro (rows Ty.str.cs v.pre) v.pre.length, .sc (.int .i64 n), .sc (.bool ok)]] (.agg (Ver.ty.cs (nextV v n))) [.un] := by
  obtain ⟨z1, z2, z3, -⟩ := verB_of hv
  obtain ⟨a, b, c, p⟩ := v
  simp only at z1 z2 z3
  have w1 : IntKind.i64.wrap (a + 1) = a + 1 := wrap_i64 (by omega) (by omega)
  have w2 : IntKind.i64.wrap (b + 1) = b + 1 := wrap_i64 (by omega) (by omega)
  have hpre : (nextV ⟨a, b, c, p⟩ n).pre = [] := by unfold nextV; repeat' split <;> try rfl
  refine Ret.cool (ret := .agg [.sc (.int .i64 (nextV ⟨a, b, c, p⟩ n).a), .sc (.int .i64 (nextV ⟨a, b, c, p⟩ n).b), .sc (.int .i64 (nextV ⟨a, b, c, p⟩ n).c), .own [] 0 1]) ?_ (by rw [Ver.cse, hpre]; exact cool_ver rfl)
  obtain rfl | rfl : n = 1 ∨ n = 2 := by omega
  · unfold nextV
    refine Ret.go Tryz.func212 ?_
    simp (disch := omega) [w1]
  · unfold nextV
    refine Ret.go Tryz.func212 ?_
    simp (disch := omega) [w2]
theorem R211 (v : Ver) (n : Nat) (ok : Bool) (hv : verB v = true) (h1 : 1 ≤ n) : Ret Tryz.prog 211 [.agg [.sc (.int .i64 v.a), .sc (.int .i64 v.b), .sc (.int .i64 v.c), .ro (rows Ty.str.cs v.pre) v.pre.length, .sc (.int .i64 n), .sc (.bool ok)]] (.agg (Ver.ty.cs (nextV ⟨v.a, v.b, 0, []⟩ (min n 2)))) [.un] := by
  obtain ⟨z1, z2, z3, -⟩ := verB_of hv
  obtain ⟨a, b, c, p⟩ := v
  simp only at z1 z2 z3 ⊢
  have w1 : IntKind.i64.wrap (a + 1) = a + 1 := wrap_i64 (by omega) (by omega)
  have w2 : IntKind.i64.wrap (b + 1) = b + 1 := wrap_i64 (by omega) (by omega)
  have hpre : (nextV ⟨a, b, 0, []⟩ (min n 2)).pre = [] := by unfold nextV; repeat' split <;> try rfl
  refine Ret.cool (ret := .agg [.sc (.int .i64 (nextV ⟨a, b, 0, []⟩ (min n 2)).a), .sc (.int .i64 (nextV ⟨a, b, 0, []⟩ (min n 2)).b), .sc (.int .i64 (nextV ⟨a, b, 0, []⟩ (min n 2)).c), .own [] 0 1]) ?_ (by rw [Ver.cse, hpre]; exact cool_ver rfl)
  by_cases k : n = 1
  · subst k
    unfold nextV
    refine Ret.go Tryz.func211 ?_
    simp (disch := omega) [w1]
  · have e : min n 2 = 2 := by omega
    have k2 : ((n : Int) == 1) = false := by simp; omega
    rw [e]
    unfold nextV
    refine Ret.go Tryz.func211 ?_
    simp (disch := omega) [w2, k, k2]
theorem R208 (v : Ver) (n : Nat) (ok : Bool) : Ret Tryz.prog 208 [.agg [.sc (.int .i64 v.a), .sc (.int .i64 v.b), .sc (.int .i64 v.c), .ro (rows Ty.str.cs v.pre) v.pre.length, .sc (.int .i64 n), .sc (.bool ok)]] (.agg (Cmp.ty.cs ⟨4, v⟩)) [.un] := by
  rw [Cmp.cse]
  refine Ret.go Tryz.func208 ?_
  simp (disch := omega) []
theorem R209 (v : Ver) : Ret Tryz.prog 209 [.agg (Ver.ty.cs v)] (.agg (Cmp.ty.cs (lowC v))) [.un] := by
  obtain ⟨a, b, c, p⟩ := v
  refine Ret.cool (ret := .agg [.sc (.int .i64 1), .sc (.int .i64 a), .sc (.int .i64 b), .sc (.int .i64 c), .own [.sc (.string (bs [48]))] 1 1]) ?_ ?_
  · rw [Ver.cse]
    refine Ret.go Tryz.func209 ?_
    simp (disch := omega) [ex1, idfree, idfree.idfreeL]
  · show roc noH 8 _ = _
    rw [roc_ag (by simp [shut, shut.shutL]), Cmp.cse]
    simp only [List.mapM_cons, List.mapM_nil]
    rw [cool_own (by simp [shut, shut.shutL])]
    rfl
theorem R210 (v : Ver) (n : Nat) (ok : Bool) (hv : verB v = true) : Ret Tryz.prog 210 [.agg [.sc (.int .i64 v.a), .sc (.int .i64 v.b), .sc (.int .i64 v.c), .ro (rows Ty.str.cs v.pre) v.pre.length, .sc (.int .i64 n), .sc (.bool ok)]] (.agg (Ver.ty.cs (caretV v n))) [.un] := by
  obtain ⟨h1, h2, h3, -⟩ := verB_of hv
  obtain ⟨a, b, c, p⟩ := v
  simp only at h1 h2 h3
  have w1 : IntKind.i64.wrap (a + 1) = a + 1 := wrap_i64 (by omega) (by omega)
  have w2 : IntKind.i64.wrap (b + 1) = b + 1 := wrap_i64 (by omega) (by omega)
  have w3 : IntKind.i64.wrap (c + 1) = c + 1 := wrap_i64 (by omega) (by omega)
  refine Ret.cool (ret := .agg [.sc (.int .i64 (caretV ⟨a, b, c, p⟩ n).a), .sc (.int .i64 (caretV ⟨a, b, c, p⟩ n).b), .sc (.int .i64 (caretV ⟨a, b, c, p⟩ n).c), .own [] 0 1]) ?_ ?_
  · unfold caretV
    have e1 : ((n : Int) == 1) = decide (n = 1) := by by_cases h : n = 1 <;> simp [h]; omega
    have e2 : ((n : Int) == 2) = decide (n = 2) := by by_cases h : n = 2 <;> simp [h]; omega
    by_cases k1 : a = 0
    · by_cases k2 : n = 1
      · refine Ret.go Tryz.func210 ?_
        simp (disch := omega) [w1, e1, k1, k2]
      · by_cases k3 : b = 0
        · by_cases k4 : n = 2
          · refine Ret.go Tryz.func210 ?_
            simp (disch := omega) [w2, e1, e2, k1, k2, k3, k4]
          · refine Ret.go Tryz.func210 ?_
            simp (disch := omega) [w3, e1, e2, k1, k2, k3, k4]
        · refine Ret.go Tryz.func210 ?_
          simp (disch := omega) [w2, e1, e2, k1, k2, k3]
    · refine Ret.go Tryz.func210 ?_
      simp (disch := omega) [w1, k1]
  · have : (caretV ⟨a, b, c, p⟩ n).pre = [] := by
      unfold caretV
      split
      · rfl
      · split <;> rfl
    rw [Ver.cse, this]
    exact cool_ver rfl
set_option maxRecDepth 100000
set_option maxHeartbeats 4000000 in
theorem R195 (op : ByteArray) (v : Ver) (n : Nat) (hop : isOp op) (hv : verB v = true) (h1 : 1 ≤ n) (h3 : n ≤ 3) : Ret Tryz.prog 195 [.sc (.string op), .agg [.sc (.int .i64 v.a), .sc (.int .i64 v.b), .sc (.int .i64 v.c), .ro (rows Ty.str.cs v.pre) v.pre.length, .sc (.int .i64 n), .sc (.bool true)]] (.ro (rows Cmp.ty.cs (mkCmps op v n)) (mkCmps op v n).length) [.un, .un] := by
  refine Ret.cool (ret := .own (rows Cmp.ty.cs (mkCmps op v n)) (mkCmps op v n).length 5) ?_ (cool_own (cmpShut _))
  have rF := R208 v n true
  have rN : n ≤ 2 → _ := fun h => R212 v n true hv h h1
  have rB := R209 (nextV v n)
  have rT := R211 v n true hv h1
  have rTB := R209 (nextV ⟨v.a, v.b, 0, []⟩ (min n 2))
  have rC := R210 v n true hv
  have rCB := R209 (caretV v n)
  clear hv
  unfold mkCmps
  generalize nextV ⟨v.a, v.b, 0, []⟩ (min n 2) = tv at *
  generalize nextV v n = nv at *
  generalize caretV v n = cv at *
  generalize lowC nv = nl at *
  generalize lowC tv = tl at *
  generalize lowC cv = cl at *
  obtain ⟨a, b, c, p⟩ := v
  obtain ⟨na, nb, nc, np⟩ := nv
  obtain ⟨ta, tb, tc, tp⟩ := tv
  obtain ⟨ca, cb, cc, cp⟩ := cv
  obtain ⟨no, nlv⟩ := nl
  obtain ⟨tlo, tlv⟩ := tl
  obtain ⟨clo, clv⟩ := cl
  rw [Ver.cse] at rB rT rTB rC rCB
  simp only [Ver.cse] at rN
  rw [Cmp.cse] at rB rTB rCB rF
  simp only at rN rB rT rTB rC rCB rF ⊢
  by_cases hn : n < 3
  · have rN := rN (by omega)
    have hn2 : ((n : Int) == 3) = false := by simp; omega
    rcases hop with rfl | rfl | rfl | rfl | rfl | rfl | rfl | rfl
    · refine Ret.go Tryz.func195 ?_
      simp (disch := omega) [hn, hn2, ex1, idfree, idfree.idfreeL, rows_cons, rows_nil, Cmp.cse, bs_inj]
      refine T.textE [(5, [17])] ?_ mixed
      simp (disch := omega) [hn, hn2]
      refine cWX 900 rF ?_
      simp (disch := omega) [hn, hn2, ex1, idfree, idfree.idfreeL, rows_cons, rows_nil, Cmp.cse, bs_inj]
      refine cWX 900 rC ?_
      simp (disch := omega) [hn, hn2, ex1, idfree, idfree.idfreeL, rows_cons, rows_nil, Cmp.cse, bs_inj]
      refine cWX 900 rCB ?_
      simp (disch := omega) [hn, hn2, ex1, idfree, idfree.idfreeL, rows_cons, rows_nil, Cmp.cse, bs_inj]
    · refine Ret.go Tryz.func195 ?_
      simp (disch := omega) [hn, hn2, ex1, idfree, idfree.idfreeL, rows_cons, rows_nil, Cmp.cse, bs_inj]
      refine T.textE [(5, [26])] ?_ mixed
      simp (disch := omega) [hn, hn2]
      refine cWX 900 rF ?_
      simp (disch := omega) [hn, hn2, ex1, idfree, idfree.idfreeL, rows_cons, rows_nil, Cmp.cse, bs_inj]
      refine cWX 900 rT ?_
      simp (disch := omega) [hn, hn2, ex1, idfree, idfree.idfreeL, rows_cons, rows_nil, Cmp.cse, bs_inj]
      refine cWX 900 rTB ?_
      simp (disch := omega) [hn, hn2, ex1, idfree, idfree.idfreeL, rows_cons, rows_nil, Cmp.cse, bs_inj]
    · refine Ret.go Tryz.func195 ?_
      simp (disch := omega) [hn, hn2, ex1, idfree, idfree.idfreeL, rows_cons, rows_nil, Cmp.cse, bs_inj]
      refine cX 900 rF ?_
      simp (disch := omega) [hn, hn2, ex1, idfree, idfree.idfreeL, rows_cons, rows_nil, Cmp.cse, bs_inj]
    · refine Ret.go Tryz.func195 ?_
      simp (disch := omega) [hn, hn2, ex1, idfree, idfree.idfreeL, rows_cons, rows_nil, Cmp.cse, bs_inj]
      refine cX 900 rN ?_
      simp (disch := omega) [hn, hn2, ex1, idfree, idfree.idfreeL, rows_cons, rows_nil, Cmp.cse, bs_inj]
    · refine Ret.go Tryz.func195 ?_
      simp (disch := omega) [hn, hn2, ex1, idfree, idfree.idfreeL, rows_cons, rows_nil, Cmp.cse, bs_inj]
      refine cX 900 rN ?_
      simp (disch := omega) [hn, hn2, ex1, idfree, idfree.idfreeL, rows_cons, rows_nil, Cmp.cse, bs_inj]
      refine cX 900 rB ?_
      simp (disch := omega) [hn, hn2, ex1, idfree, idfree.idfreeL, rows_cons, rows_nil, Cmp.cse, bs_inj]
    · refine Ret.go Tryz.func195 ?_
      simp (disch := omega) [hn, hn2, ex1, idfree, idfree.idfreeL, rows_cons, rows_nil, Cmp.cse, bs_inj]
    · refine Ret.go Tryz.func195 ?_
      simp (disch := omega) [hn, hn2, ex1, idfree, idfree.idfreeL, rows_cons, rows_nil, Cmp.cse, bs_inj]
      refine T.textE [(5, [85])] ?_ mixed
      simp (disch := omega) [hn, hn2]
      refine cWX 900 rF ?_
      simp (disch := omega) [hn, hn2, ex1, idfree, idfree.idfreeL, rows_cons, rows_nil, Cmp.cse, bs_inj]
      refine cWX 900 rN ?_
      simp (disch := omega) [hn, hn2, ex1, idfree, idfree.idfreeL, rows_cons, rows_nil, Cmp.cse, bs_inj]
      refine cWX 900 rB ?_
      simp (disch := omega) [hn, hn2, ex1, idfree, idfree.idfreeL, rows_cons, rows_nil, Cmp.cse, bs_inj]
    · refine Ret.go Tryz.func195 ?_
      simp (disch := omega) [hn, hn2, ex1, idfree, idfree.idfreeL, rows_cons, rows_nil, Cmp.cse, bs_inj]
      refine T.textE [(5, [85])] ?_ mixed
      simp (disch := omega) [hn, hn2]
      refine cWX 900 rF ?_
      simp (disch := omega) [hn, hn2, ex1, idfree, idfree.idfreeL, rows_cons, rows_nil, Cmp.cse, bs_inj]
      refine cWX 900 rN ?_
      simp (disch := omega) [hn, hn2, ex1, idfree, idfree.idfreeL, rows_cons, rows_nil, Cmp.cse, bs_inj]
      refine cWX 900 rB ?_
      simp (disch := omega) [hn, hn2, ex1, idfree, idfree.idfreeL, rows_cons, rows_nil, Cmp.cse, bs_inj]
  · clear rN
    obtain rfl : n = 3 := by omega
    rcases hop with rfl | rfl | rfl | rfl | rfl | rfl | rfl | rfl
    · refine Ret.go Tryz.func195 ?_
      simp (disch := omega) [hn, ex1, idfree, idfree.idfreeL, rows_cons, rows_nil, Cmp.cse, bs_inj]
      refine T.textE [(5, [17])] ?_ mixed
      simp (disch := omega) [hn]
      refine cWX 900 rF ?_
      simp (disch := omega) [hn, ex1, idfree, idfree.idfreeL, rows_cons, rows_nil, Cmp.cse, bs_inj]
      refine cWX 900 rC ?_
      simp (disch := omega) [hn, ex1, idfree, idfree.idfreeL, rows_cons, rows_nil, Cmp.cse, bs_inj]
      refine cWX 900 rCB ?_
      simp (disch := omega) [hn, ex1, idfree, idfree.idfreeL, rows_cons, rows_nil, Cmp.cse, bs_inj]
    · refine Ret.go Tryz.func195 ?_
      simp (disch := omega) [hn, ex1, idfree, idfree.idfreeL, rows_cons, rows_nil, Cmp.cse, bs_inj]
      refine T.textE [(5, [26])] ?_ mixed
      simp (disch := omega) [hn]
      refine cWX 900 rF ?_
      simp (disch := omega) [hn, ex1, idfree, idfree.idfreeL, rows_cons, rows_nil, Cmp.cse, bs_inj]
      refine cWX 900 rT ?_
      simp (disch := omega) [hn, ex1, idfree, idfree.idfreeL, rows_cons, rows_nil, Cmp.cse, bs_inj]
      refine cWX 900 rTB ?_
      simp (disch := omega) [hn, ex1, idfree, idfree.idfreeL, rows_cons, rows_nil, Cmp.cse, bs_inj]
    · refine Ret.go Tryz.func195 ?_
      simp (disch := omega) [hn, ex1, idfree, idfree.idfreeL, rows_cons, rows_nil, Cmp.cse, bs_inj]
      refine cX 900 rF ?_
      simp (disch := omega) [hn, ex1, idfree, idfree.idfreeL, rows_cons, rows_nil, Cmp.cse, bs_inj]
    · refine Ret.go Tryz.func195 ?_
      simp (disch := omega) [hn, ex1, idfree, idfree.idfreeL, rows_cons, rows_nil, Cmp.cse, bs_inj]
    · refine Ret.go Tryz.func195 ?_
      simp (disch := omega) [hn, ex1, idfree, idfree.idfreeL, rows_cons, rows_nil, Cmp.cse, bs_inj]
    · refine Ret.go Tryz.func195 ?_
      simp (disch := omega) [hn, ex1, idfree, idfree.idfreeL, rows_cons, rows_nil, Cmp.cse, bs_inj]
    · refine Ret.go Tryz.func195 ?_
      simp (disch := omega) [hn, ex1, idfree, idfree.idfreeL, rows_cons, rows_nil, Cmp.cse, bs_inj]
    · refine Ret.go Tryz.func195 ?_
      simp (disch := omega) [hn, ex1, idfree, idfree.idfreeL, rows_cons, rows_nil, Cmp.cse, bs_inj]
set_option maxRecDepth 100000
def p6 (v : Ver) (n : Nat) (ok : Bool) : AV := .agg [.sc (.int .i64 v.a), .sc (.int .i64 v.b), .sc (.int .i64 v.c), .own [] 0 1, .sc (.int .i64 n), .sc (.bool ok)]
def p6c (v : Ver) (n : Nat) (ok : Bool) : AV := .agg [.sc (.int .i64 v.a), .sc (.int .i64 v.b), .sc (.int .i64 v.c), .ro (rows Ty.str.cs v.pre) v.pre.length, .sc (.int .i64 n), .sc (.bool ok)]
theorem cool_p6 (v : Ver) (n : Nat) (ok : Bool) (h : v.pre = []) : coolT (p6 v n ok) = some (p6c v n ok) := by
  unfold p6 p6c
  rw [h]
  show roc noH 8 _ = _
  rw [roc_ag (by simp [shut, shut.shutL])]
  simp only [List.mapM_cons, List.mapM_nil]
  rw [cool_own rfl]
  rfl
theorem parse_x : parseN (bs [120]) 9999 = none := by
  unfold parseN
  rw [if_neg]
  rintro ⟨-, h, -⟩
  revert h
  decide
theorem partN_x2 (b : ByteArray) : partN [bs [120], b] = none := by
  rw [partN, parse_x]
  split <;> rfl
theorem partN_x3 (b c : ByteArray) : partN [bs [120], b, c] = none := by
  rw [partN, parse_x]
  split
  · split <;> rfl
  · rfl
set_option maxHeartbeats 8000000 in
theorem R194 (s : ByteArray) (hs : s.size ≤ 1048576) : ∃ (v : Ver) (n : Nat), Ret Tryz.prog 194 [.sc (.string s)] (p6c v n (partV s).isSome) [.un] ∧ ∀ p, partV s = some p → (v, n) = p := by
  have r0 := (R175 s hs).cool (verA_cool _)
  have rS : Ret Tryz.prog 148 [.sc (.string s), .sc (.int .u8 46)] (.ro (rows Ty.str.cs (splitS s 46)) (splitS s 46).length) [.un, .un] := (R148 s 46 hs).cool (cool_own (strShut _))
  have h9 : Ty.int.ok 9999 := show (-9223372036854775808 : Int) ≤ 9999 ∧ (9999 : Int) ≤ 9223372036854775807 by omega
  have x1 : ∀ b : ByteArray, b ≠ bs [120] → ¬ (b.toList = [120]) := fun b h e => h (ba_ext (by rw [← Lib.toList_data, e]; rfl))
  unfold partV
  generalize parseVer s = o at *
  cases o with
  | some v =>
    refine ⟨v, 3, ?_, fun p hp => by cases hp; rfl⟩
    unfold p6c
    rw [verR, Ver.cse] at r0
    refine Ret.go Tryz.func194 ?_
    simp (disch := omega) []
    refine cX 900 r0 ?_
    simp (disch := omega) []
  | none =>
    simp only
    have hl0 := split_ne s 46
    have b2 : ∀ x ∈ splitS s 46, x.size ≤ s.size := (splitS_bounds s 46).2
    rw [show ((46 : UInt8).toNat : Int) = 46 from rfl] at hl0
    generalize splitS s 46 = l at *
    rw [verR, Ver.cse] at r0
    by_cases h4 : 3 < l.length
    · have hn : partN l = none := by
        match l, h4 with
        | _ :: _ :: _ :: _ :: _, _ => rfl
      have h5 : (3 : Int) < l.length := by omega
      rw [hn]
      refine ⟨ver0, 0, Ret.cool (ret := p6 ver0 0 false) ?_ (cool_p6 _ _ _ rfl), fun p hp => by cases hp⟩
      unfold p6
      refine Ret.go Tryz.func194 ?_
      simp (disch := omega) []
      refine cX 900 r0 ?_
      simp (disch := omega) []
      refine cX 900 rS ?_
      simp (disch := omega) [h5, ver0]
    · match l, h4 with
      | [], _ => exact absurd rfl hl0
      | [a], _ =>
        have n1 := R193 a 9999 h9 (by have := b2 a (by simp); omega)
        rw [show rows Ty.str.cs [a] = [.sc (.string a)] from rfl] at rS
        rw [partN]
        by_cases ha : a = bs [120]
        · subst ha
          clear n1
          rw [parse_x]
          refine ⟨ver0, 0, Ret.cool (ret := p6 ver0 0 false) ?_ (cool_p6 _ _ _ rfl), fun p hp => by cases hp⟩
          have rI := R42 0 1 2
          unfold p6
          refine Ret.go Tryz.func194 ?_
          simp (disch := omega) []
          refine cX 900 r0 ?_
          simp (disch := omega) []
          refine cX 900 rS ?_
          simp (disch := omega) []
          refine T.loopN 5 (rdN_go ?_)
          refine run_ok (n := 1000) ?_
          simp (disch := omega) []
          refine T.on 1000 ?_
          simp (disch := omega) []
          refine T.loopN 5 (rdN_go ?_)
          refine run_ok (n := 1000) ?_
          simp (disch := omega) []
          refine rdN_go (run_ok (n := 1000) ?_)
          simp (disch := omega) []
          refine T.on 1000 ?_
          simp (disch := omega) [over, ver0]
          refine T.textE [(11, [6])] ?_ mixed
          simp (disch := omega) [over, merge_nil, hideH_nil]
          refine cX 900 rI ?_
          simp (disch := omega) [over, inR, ver0]
        · have ha := x1 a ha
          generalize parseN a 9999 = pa at *
          cases pa with
          | none =>
            rw [numA] at n1
            refine ⟨ver0, 0, Ret.cool (ret := p6 ver0 0 false) ?_ (cool_p6 _ _ _ rfl), fun p hp => by cases hp⟩
            have rI := R42 0 1 2
            unfold p6
            refine Ret.go Tryz.func194 ?_
            simp (disch := omega) []
            refine cX 900 r0 ?_
            simp (disch := omega) []
            refine cX 900 rS ?_
            simp (disch := omega) []
            refine T.loopN 5 (rdN_go ?_)
            refine run_ok (n := 1000) ?_
            simp (disch := omega) [ha]
            refine cX 900 n1 ?_
            simp (disch := omega) [ha, ver0]
          | some x =>
            rw [numA] at n1
            refine ⟨⟨x, 0, 0, []⟩, 1, Ret.cool (ret := p6 ⟨x, 0, 0, []⟩ 1 true) ?_ (cool_p6 _ _ _ rfl), fun p hp => by cases hp; rfl⟩
            have rI := R42 1 1 2
            unfold p6
            refine Ret.go Tryz.func194 ?_
            simp (disch := omega) []
            refine cX 900 r0 ?_
            simp (disch := omega) []
            refine cX 900 rS ?_
            simp (disch := omega) []
            refine T.loopN 5 (rdN_go ?_)
            refine run_ok (n := 1000) ?_
            simp (disch := omega) [ha]
            refine cX 900 n1 ?_
            simp (disch := omega) [ha, over]
            refine rdN_go (run_ok (n := 1000) ?_)
            simp (disch := omega) [over]
            refine T.on 1000 ?_
            simp (disch := omega) [over]
            refine T.loopN 5 (rdN_go ?_)
            refine run_ok (n := 1000) ?_
            simp (disch := omega) [over]
            refine T.on 1000 ?_
            simp (disch := omega) [over]
            refine T.textE [(11, [6])] ?_ mixed
            simp (disch := omega) [over, merge_nil, hideH_nil]
            refine cX 900 rI ?_
            simp (disch := omega) [over, inR, ver0]
      | [a, b], _ =>
        have n1 := R193 a 9999 h9 (by have := b2 a (by simp); omega)
        have n2 := R193 b 9999 h9 (by have := b2 b (by simp); omega)
        rw [show rows Ty.str.cs [a, b] = [.sc (.string a), .sc (.string b)] from rfl] at rS
        by_cases ha : a = bs [120]
        · subst ha
          clear n1 n2
          rw [partN_x2]
          by_cases hb : b = bs [120]
          · subst hb
            refine ⟨ver0, 0, Ret.cool (ret := p6 ver0 0 false) ?_ (cool_p6 _ _ _ rfl), fun p hp => by cases hp⟩
            have rI := R42 0 1 2
            unfold p6
            refine Ret.go Tryz.func194 ?_
            simp (disch := omega) []
            refine cX 900 r0 ?_
            simp (disch := omega) []
            refine cX 900 rS ?_
            simp (disch := omega) []
            refine T.loopN 5 (rdN_go ?_)
            refine run_ok (n := 1000) ?_
            simp (disch := omega) []
            refine T.on 1000 ?_
            simp (disch := omega) []
            refine T.loopN 5 (rdN_go ?_)
            refine run_ok (n := 1000) ?_
            simp (disch := omega) []
            refine rdN_go (run_ok (n := 1000) ?_)
            simp (disch := omega) []
            refine rdN_go (run_ok (n := 1000) ?_)
            simp (disch := omega) []
            refine T.on 1000 ?_
            simp (disch := omega) [over, ver0]
            refine T.textE [(11, [6])] ?_ mixed
            simp (disch := omega) [over, merge_nil, hideH_nil]
            refine cX 900 rI ?_
            simp (disch := omega) [over, inR, ver0]
          · have hb := x1 b hb
            refine ⟨ver0, 0, Ret.cool (ret := p6 ver0 0 false) ?_ (cool_p6 _ _ _ rfl), fun p hp => by cases hp⟩
            have rI := R42 0 1 2
            unfold p6
            refine Ret.go Tryz.func194 ?_
            simp (disch := omega) []
            refine cX 900 r0 ?_
            simp (disch := omega) []
            refine cX 900 rS ?_
            simp (disch := omega) []
            refine T.loopN 5 (rdN_go ?_)
            refine run_ok (n := 1000) ?_
            simp (disch := omega) []
            refine T.on 1000 ?_
            simp (disch := omega) []
            refine T.loopN 5 (rdN_go ?_)
            refine run_ok (n := 1000) ?_
            simp (disch := omega) []
            refine rdN_go (run_ok (n := 1000) ?_)
            simp (disch := omega) [hb, ver0]
        · have ha := x1 a ha
          rw [partN]
          by_cases hb : b = bs [120]
          · subst hb
            clear n2
            rw [if_pos rfl]
            generalize parseN a 9999 = pa at *
            cases pa with
            | none =>
              rw [numA] at n1
              refine ⟨ver0, 0, Ret.cool (ret := p6 ver0 0 false) ?_ (cool_p6 _ _ _ rfl), fun p hp => by cases hp⟩
              have rI := R42 0 1 2
              unfold p6
              refine Ret.go Tryz.func194 ?_
              simp (disch := omega) []
              refine cX 900 r0 ?_
              simp (disch := omega) []
              refine cX 900 rS ?_
              simp (disch := omega) []
              refine T.loopN 5 (rdN_go ?_)
              refine run_ok (n := 1000) ?_
              simp (disch := omega) [ha]
              refine cX 900 n1 ?_
              simp (disch := omega) [ha, over, ver0]
            | some x =>
              rw [numA] at n1
              refine ⟨⟨x, 0, 0, []⟩, 1, Ret.cool (ret := p6 ⟨x, 0, 0, []⟩ 1 true) ?_ (cool_p6 _ _ _ rfl), fun p hp => by cases hp; rfl⟩
              have rI := R42 1 1 2
              unfold p6
              refine Ret.go Tryz.func194 ?_
              simp (disch := omega) []
              refine cX 900 r0 ?_
              simp (disch := omega) []
              refine cX 900 rS ?_
              simp (disch := omega) []
              refine T.loopN 5 (rdN_go ?_)
              refine run_ok (n := 1000) ?_
              simp (disch := omega) [ha]
              refine cX 900 n1 ?_
              simp (disch := omega) [ha, over, ver0]
              refine rdN_go (run_ok (n := 1000) ?_)
              simp (disch := omega) [over]
              refine T.on 1000 ?_
              simp (disch := omega) [over]
              refine T.loopN 5 (rdN_go ?_)
              refine run_ok (n := 1000) ?_
              simp (disch := omega) [over]
              refine rdN_go (run_ok (n := 1000) ?_)
              simp (disch := omega) [over]
              refine T.on 1000 ?_
              simp (disch := omega) [over]
              refine T.textE [(11, [6])] ?_ mixed
              simp (disch := omega) [over, merge_nil, hideH_nil]
              refine cX 900 rI ?_
              simp (disch := omega) [over, inR, ver0]
          · have hb0 := hb
            have hb := x1 b hb
            rw [if_neg hb0]
            generalize parseN a 9999 = pa at *
            cases pa with
            | none =>
              rw [numA] at n1
              clear n2
              refine ⟨ver0, 0, Ret.cool (ret := p6 ver0 0 false) ?_ (cool_p6 _ _ _ rfl), fun p hp => by cases hp⟩
              have rI := R42 0 1 2
              unfold p6
              refine Ret.go Tryz.func194 ?_
              simp (disch := omega) []
              refine cX 900 r0 ?_
              simp (disch := omega) []
              refine cX 900 rS ?_
              simp (disch := omega) []
              refine T.loopN 5 (rdN_go ?_)
              refine run_ok (n := 1000) ?_
              simp (disch := omega) [ha]
              refine cX 900 n1 ?_
              simp (disch := omega) [ha, over, ver0]
            | some x =>
              rw [numA] at n1
              generalize parseN b 9999 = pb at *
              cases pb with
              | none =>
                rw [numA] at n2
                refine ⟨ver0, 0, Ret.cool (ret := p6 ver0 0 false) ?_ (cool_p6 _ _ _ rfl), fun p hp => by cases hp⟩
                have rI := R42 0 1 2
                unfold p6
                refine Ret.go Tryz.func194 ?_
                simp (disch := omega) []
                refine cX 900 r0 ?_
                simp (disch := omega) []
                refine cX 900 rS ?_
                simp (disch := omega) []
                refine T.loopN 5 (rdN_go ?_)
                refine run_ok (n := 1000) ?_
                simp (disch := omega) [ha]
                refine cX 900 n1 ?_
                simp (disch := omega) [ha, over, ver0]
                refine rdN_go (run_ok (n := 1000) ?_)
                simp (disch := omega) [hb, over]
                refine cX 900 n2 ?_
                simp (disch := omega) [hb, over, ver0]
              | some y =>
                rw [numA] at n2
                refine ⟨⟨x, y, 0, []⟩, 2, Ret.cool (ret := p6 ⟨x, y, 0, []⟩ 2 true) ?_ (cool_p6 _ _ _ rfl), fun p hp => by cases hp; rfl⟩
                have rI := R42 2 1 2
                unfold p6
                refine Ret.go Tryz.func194 ?_
                simp (disch := omega) []
                refine cX 900 r0 ?_
                simp (disch := omega) []
                refine cX 900 rS ?_
                simp (disch := omega) []
                refine T.loopN 5 (rdN_go ?_)
                refine run_ok (n := 1000) ?_
                simp (disch := omega) [ha]
                refine cX 900 n1 ?_
                simp (disch := omega) [ha, over, ver0]
                refine rdN_go (run_ok (n := 1000) ?_)
                simp (disch := omega) [hb, over]
                refine cX 900 n2 ?_
                simp (disch := omega) [hb, over]
                refine rdN_go (run_ok (n := 1000) ?_)
                simp (disch := omega) [over]
                refine T.on 1000 ?_
                simp (disch := omega) [over]
                refine T.loopN 5 (rdN_go ?_)
                refine run_ok (n := 1000) ?_
                simp (disch := omega) [over]
                refine T.on 1000 ?_
                simp (disch := omega) [over]
                refine T.textE [(11, [6])] ?_ mixed
                simp (disch := omega) [over, merge_nil, hideH_nil]
                refine cX 900 rI ?_
                simp (disch := omega) [over, inR, ver0]
      | [a, b, c], _ =>
        have n1 := R193 a 9999 h9 (by have := b2 a (by simp); omega)
        have n2 := R193 b 9999 h9 (by have := b2 b (by simp); omega)
        have n3 := R193 c 9999 h9 (by have := b2 c (by simp); omega)
        rw [show rows Ty.str.cs [a, b, c] = [.sc (.string a), .sc (.string b), .sc (.string c)] from rfl] at rS
        by_cases ha : a = bs [120]
        · subst ha
          clear n1 n2 n3
          rw [partN_x3]
          by_cases hb : b = bs [120]
          · subst hb
            by_cases hc : c = bs [120]
            · subst hc
              refine ⟨ver0, 0, Ret.cool (ret := p6 ver0 0 false) ?_ (cool_p6 _ _ _ rfl), fun p hp => by cases hp⟩
              have rI := R42 0 1 2
              unfold p6
              refine Ret.go Tryz.func194 ?_
              simp (disch := omega) []
              refine cX 900 r0 ?_
              simp (disch := omega) []
              refine cX 900 rS ?_
              simp (disch := omega) []
              refine T.loopN 5 (rdN_go ?_)
              refine run_ok (n := 1000) ?_
              simp (disch := omega) []
              refine T.on 1000 ?_
              simp (disch := omega) []
              refine T.loopN 5 (rdN_go ?_)
              refine run_ok (n := 1000) ?_
              simp (disch := omega) []
              refine rdN_go (run_ok (n := 1000) ?_)
              simp (disch := omega) []
              refine rdN_go (run_ok (n := 1000) ?_)
              simp (disch := omega) []
              refine rdN_go (run_ok (n := 1000) ?_)
              simp (disch := omega) []
              refine T.on 1000 ?_
              simp (disch := omega) [over, ver0]
              refine T.textE [(11, [6])] ?_ mixed
              simp (disch := omega) [over, merge_nil, hideH_nil]
              refine cX 900 rI ?_
              simp (disch := omega) [over, inR, ver0]
            · have hc := x1 c hc
              refine ⟨ver0, 0, Ret.cool (ret := p6 ver0 0 false) ?_ (cool_p6 _ _ _ rfl), fun p hp => by cases hp⟩
              have rI := R42 0 1 2
              unfold p6
              refine Ret.go Tryz.func194 ?_
              simp (disch := omega) []
              refine cX 900 r0 ?_
              simp (disch := omega) []
              refine cX 900 rS ?_
              simp (disch := omega) []
              refine T.loopN 5 (rdN_go ?_)
              refine run_ok (n := 1000) ?_
              simp (disch := omega) []
              refine T.on 1000 ?_
              simp (disch := omega) []
              refine T.loopN 5 (rdN_go ?_)
              refine run_ok (n := 1000) ?_
              simp (disch := omega) []
              refine rdN_go (run_ok (n := 1000) ?_)
              simp (disch := omega) []
              refine rdN_go (run_ok (n := 1000) ?_)
              simp (disch := omega) [hc, ver0]
          · have hb := x1 b hb
            refine ⟨ver0, 0, Ret.cool (ret := p6 ver0 0 false) ?_ (cool_p6 _ _ _ rfl), fun p hp => by cases hp⟩
            have rI := R42 0 1 2
            unfold p6
            refine Ret.go Tryz.func194 ?_
            simp (disch := omega) []
            refine cX 900 r0 ?_
            simp (disch := omega) []
            refine cX 900 rS ?_
            simp (disch := omega) []
            refine T.loopN 5 (rdN_go ?_)
            refine run_ok (n := 1000) ?_
            simp (disch := omega) []
            refine T.on 1000 ?_
            simp (disch := omega) []
            refine T.loopN 5 (rdN_go ?_)
            refine run_ok (n := 1000) ?_
            simp (disch := omega) []
            refine rdN_go (run_ok (n := 1000) ?_)
            simp (disch := omega) [hb, ver0]
        · have ha := x1 a ha
          rw [partN]
          by_cases hb : b = bs [120]
          · subst hb
            clear n2
            by_cases hc : c = bs [120]
            · subst hc
              clear n3
              rw [if_pos rfl, if_pos rfl]
              generalize parseN a 9999 = pa at *
              cases pa with
              | none =>
                rw [numA] at n1
                refine ⟨ver0, 0, Ret.cool (ret := p6 ver0 0 false) ?_ (cool_p6 _ _ _ rfl), fun p hp => by cases hp⟩
                have rI := R42 0 1 2
                unfold p6
                refine Ret.go Tryz.func194 ?_
                simp (disch := omega) []
                refine cX 900 r0 ?_
                simp (disch := omega) []
                refine cX 900 rS ?_
                simp (disch := omega) []
                refine T.loopN 5 (rdN_go ?_)
                refine run_ok (n := 1000) ?_
                simp (disch := omega) [ha]
                refine cX 900 n1 ?_
                simp (disch := omega) [ha, over, ver0]
              | some x =>
                rw [numA] at n1
                refine ⟨⟨x, 0, 0, []⟩, 1, Ret.cool (ret := p6 ⟨x, 0, 0, []⟩ 1 true) ?_ (cool_p6 _ _ _ rfl), fun p hp => by cases hp; rfl⟩
                have rI := R42 1 1 2
                unfold p6
                refine Ret.go Tryz.func194 ?_
                simp (disch := omega) []
                refine cX 900 r0 ?_
                simp (disch := omega) []
                refine cX 900 rS ?_
                simp (disch := omega) []
                refine T.loopN 5 (rdN_go ?_)
                refine run_ok (n := 1000) ?_
                simp (disch := omega) [ha]
                refine cX 900 n1 ?_
                simp (disch := omega) [ha, over, ver0]
                refine rdN_go (run_ok (n := 1000) ?_)
                simp (disch := omega) [over]
                refine T.on 1000 ?_
                simp (disch := omega) [over]
                refine T.loopN 5 (rdN_go ?_)
                refine run_ok (n := 1000) ?_
                simp (disch := omega) [over]
                refine rdN_go (run_ok (n := 1000) ?_)
                simp (disch := omega) [over]
                refine rdN_go (run_ok (n := 1000) ?_)
                simp (disch := omega) [over]
                refine T.on 1000 ?_
                simp (disch := omega) [over]
                refine T.textE [(11, [6])] ?_ mixed
                simp (disch := omega) [over, merge_nil, hideH_nil]
                refine cX 900 rI ?_
                simp (disch := omega) [over, inR, ver0]
            · have hc0 := hc
              have hc := x1 c hc
              clear n3
              rw [if_neg hc0]
              generalize parseN a 9999 = pa at *
              cases pa with
              | none =>
                rw [numA] at n1
                refine ⟨ver0, 0, Ret.cool (ret := p6 ver0 0 false) ?_ (cool_p6 _ _ _ rfl), fun p hp => by cases hp⟩
                have rI := R42 0 1 2
                unfold p6
                refine Ret.go Tryz.func194 ?_
                simp (disch := omega) []
                refine cX 900 r0 ?_
                simp (disch := omega) []
                refine cX 900 rS ?_
                simp (disch := omega) []
                refine T.loopN 5 (rdN_go ?_)
                refine run_ok (n := 1000) ?_
                simp (disch := omega) [ha]
                refine cX 900 n1 ?_
                simp (disch := omega) [ha, over, ver0]
              | some x =>
                rw [numA] at n1
                refine ⟨ver0, 0, Ret.cool (ret := p6 ver0 0 false) ?_ (cool_p6 _ _ _ rfl), fun p hp => by cases hp⟩
                have rI := R42 0 1 2
                unfold p6
                refine Ret.go Tryz.func194 ?_
                simp (disch := omega) []
                refine cX 900 r0 ?_
                simp (disch := omega) []
                refine cX 900 rS ?_
                simp (disch := omega) []
                refine T.loopN 5 (rdN_go ?_)
                refine run_ok (n := 1000) ?_
                simp (disch := omega) [ha]
                refine cX 900 n1 ?_
                simp (disch := omega) [ha, over, ver0]
                refine rdN_go (run_ok (n := 1000) ?_)
                simp (disch := omega) [over]
                refine T.on 1000 ?_
                simp (disch := omega) [over]
                refine T.loopN 5 (rdN_go ?_)
                refine run_ok (n := 1000) ?_
                simp (disch := omega) [over]
                refine rdN_go (run_ok (n := 1000) ?_)
                simp (disch := omega) [over, hc, ver0]
          · have hb0 := hb
            have hb := x1 b hb
            by_cases hc : c = bs [120]
            · subst hc
              clear n3
              rw [if_pos rfl, if_neg hb0]
              generalize parseN a 9999 = pa at *
              cases pa with
              | none =>
                rw [numA] at n1
                clear n2
                refine ⟨ver0, 0, Ret.cool (ret := p6 ver0 0 false) ?_ (cool_p6 _ _ _ rfl), fun p hp => by cases hp⟩
                have rI := R42 0 1 2
                unfold p6
                refine Ret.go Tryz.func194 ?_
                simp (disch := omega) []
                refine cX 900 r0 ?_
                simp (disch := omega) []
                refine cX 900 rS ?_
                simp (disch := omega) []
                refine T.loopN 5 (rdN_go ?_)
                refine run_ok (n := 1000) ?_
                simp (disch := omega) [ha]
                refine cX 900 n1 ?_
                simp (disch := omega) [ha, over, ver0]
              | some x =>
                rw [numA] at n1
                generalize parseN b 9999 = pb at *
                cases pb with
                | none =>
                  rw [numA] at n2
                  refine ⟨ver0, 0, Ret.cool (ret := p6 ver0 0 false) ?_ (cool_p6 _ _ _ rfl), fun p hp => by cases hp⟩
                  have rI := R42 0 1 2
                  unfold p6
                  refine Ret.go Tryz.func194 ?_
                  simp (disch := omega) []
                  refine cX 900 r0 ?_
                  simp (disch := omega) []
                  refine cX 900 rS ?_
                  simp (disch := omega) []
                  refine T.loopN 5 (rdN_go ?_)
                  refine run_ok (n := 1000) ?_
                  simp (disch := omega) [ha]
                  refine cX 900 n1 ?_
                  simp (disch := omega) [ha, over, ver0]
                  refine rdN_go (run_ok (n := 1000) ?_)
                  simp (disch := omega) [hb, over]
                  refine cX 900 n2 ?_
                  simp (disch := omega) [hb, over, ver0]
                | some y =>
                  rw [numA] at n2
                  refine ⟨⟨x, y, 0, []⟩, 2, Ret.cool (ret := p6 ⟨x, y, 0, []⟩ 2 true) ?_ (cool_p6 _ _ _ rfl), fun p hp => by cases hp; rfl⟩
                  have rI := R42 2 1 2
                  unfold p6
                  refine Ret.go Tryz.func194 ?_
                  simp (disch := omega) []
                  refine cX 900 r0 ?_
                  simp (disch := omega) []
                  refine cX 900 rS ?_
                  simp (disch := omega) []
                  refine T.loopN 5 (rdN_go ?_)
                  refine run_ok (n := 1000) ?_
                  simp (disch := omega) [ha]
                  refine cX 900 n1 ?_
                  simp (disch := omega) [ha, over, ver0]
                  refine rdN_go (run_ok (n := 1000) ?_)
                  simp (disch := omega) [hb, over]
                  refine cX 900 n2 ?_
                  simp (disch := omega) [hb, over]
                  refine rdN_go (run_ok (n := 1000) ?_)
                  simp (disch := omega) [over]
                  refine T.on 1000 ?_
                  simp (disch := omega) [over]
                  refine T.loopN 5 (rdN_go ?_)
                  refine run_ok (n := 1000) ?_
                  simp (disch := omega) [over]
                  refine rdN_go (run_ok (n := 1000) ?_)
                  simp (disch := omega) [over]
                  refine T.on 1000 ?_
                  simp (disch := omega) [over]
                  refine T.textE [(11, [6])] ?_ mixed
                  simp (disch := omega) [over, merge_nil, hideH_nil]
                  refine cX 900 rI ?_
                  simp (disch := omega) [over, inR, ver0]
            · have hc0 := hc
              have hc := x1 c hc
              rw [if_neg hc0]
              generalize parseN a 9999 = pa at *
              cases pa with
              | none =>
                rw [numA] at n1
                clear n2 n3
                refine ⟨ver0, 0, Ret.cool (ret := p6 ver0 0 false) ?_ (cool_p6 _ _ _ rfl), fun p hp => by cases hp⟩
                have rI := R42 0 1 2
                unfold p6
                refine Ret.go Tryz.func194 ?_
                simp (disch := omega) []
                refine cX 900 r0 ?_
                simp (disch := omega) []
                refine cX 900 rS ?_
                simp (disch := omega) []
                refine T.loopN 5 (rdN_go ?_)
                refine run_ok (n := 1000) ?_
                simp (disch := omega) [ha]
                refine cX 900 n1 ?_
                simp (disch := omega) [ha, over, ver0]
              | some x =>
                rw [numA] at n1
                generalize parseN b 9999 = pb at *
                cases pb with
                | none =>
                  rw [numA] at n2
                  clear n3
                  refine ⟨ver0, 0, Ret.cool (ret := p6 ver0 0 false) ?_ (cool_p6 _ _ _ rfl), fun p hp => by cases hp⟩
                  have rI := R42 0 1 2
                  unfold p6
                  refine Ret.go Tryz.func194 ?_
                  simp (disch := omega) []
                  refine cX 900 r0 ?_
                  simp (disch := omega) []
                  refine cX 900 rS ?_
                  simp (disch := omega) []
                  refine T.loopN 5 (rdN_go ?_)
                  refine run_ok (n := 1000) ?_
                  simp (disch := omega) [ha]
                  refine cX 900 n1 ?_
                  simp (disch := omega) [ha, over, ver0]
                  refine rdN_go (run_ok (n := 1000) ?_)
                  simp (disch := omega) [hb, over]
                  refine cX 900 n2 ?_
                  simp (disch := omega) [hb, over, ver0]
                | some y =>
                  rw [numA] at n2
                  generalize parseN c 9999 = pc at *
                  cases pc with
                  | none =>
                    rw [numA] at n3
                    refine ⟨ver0, 0, Ret.cool (ret := p6 ver0 0 false) ?_ (cool_p6 _ _ _ rfl), fun p hp => by cases hp⟩
                    have rI := R42 0 1 2
                    unfold p6
                    refine Ret.go Tryz.func194 ?_
                    simp (disch := omega) []
                    refine cX 900 r0 ?_
                    simp (disch := omega) []
                    refine cX 900 rS ?_
                    simp (disch := omega) []
                    refine T.loopN 5 (rdN_go ?_)
                    refine run_ok (n := 1000) ?_
                    simp (disch := omega) [ha]
                    refine cX 900 n1 ?_
                    simp (disch := omega) [ha, over, ver0]
                    refine rdN_go (run_ok (n := 1000) ?_)
                    simp (disch := omega) [hb, over]
                    refine cX 900 n2 ?_
                    simp (disch := omega) [hb, over]
                    refine rdN_go (run_ok (n := 1000) ?_)
                    simp (disch := omega) [hc, over]
                    refine cX 900 n3 ?_
                    simp (disch := omega) [hc, over, ver0]
                  | some z =>
                    rw [numA] at n3
                    refine ⟨⟨x, y, z, []⟩, 3, Ret.cool (ret := p6 ⟨x, y, z, []⟩ 3 false) ?_ (cool_p6 _ _ _ rfl), fun p hp => by cases hp⟩
                    have rI := R42 3 1 2
                    unfold p6
                    refine Ret.go Tryz.func194 ?_
                    simp (disch := omega) []
                    refine cX 900 r0 ?_
                    simp (disch := omega) []
                    refine cX 900 rS ?_
                    simp (disch := omega) []
                    refine T.loopN 5 (rdN_go ?_)
                    refine run_ok (n := 1000) ?_
                    simp (disch := omega) [ha]
                    refine cX 900 n1 ?_
                    simp (disch := omega) [ha, over, ver0]
                    refine rdN_go (run_ok (n := 1000) ?_)
                    simp (disch := omega) [hb, over]
                    refine cX 900 n2 ?_
                    simp (disch := omega) [hb, over]
                    refine rdN_go (run_ok (n := 1000) ?_)
                    simp (disch := omega) [hc, over]
                    refine cX 900 n3 ?_
                    simp (disch := omega) [hc, over]
                    refine rdN_go (run_ok (n := 1000) ?_)
                    simp (disch := omega) [over]
                    refine T.on 1000 ?_
                    simp (disch := omega) [over]
                    refine T.loopN 5 (rdN_go ?_)
                    refine run_ok (n := 1000) ?_
                    simp (disch := omega) [over]
                    refine T.on 1000 ?_
                    simp (disch := omega) [over]
                    refine T.textE [(11, [6])] ?_ mixed
                    simp (disch := omega) [over, merge_nil, hideH_nil]
                    refine cX 900 rI ?_
                    simp (disch := omega) [over, inR, ver0]
      | _ :: _ :: _ :: _ :: _, h => simp at h
set_option maxRecDepth 100000
theorem hasP_iff (w y : ByteArray) : hasP w y = true ↔ y.size ≤ w.size ∧ (w.extract 0 y.size).toList = y.toList := by
  unfold hasP Lib.hasPrefix
  rw [Lib.toList_data, Lib.toList_data, extract_toList, List.drop_zero]
  have h1 : y.size = y.data.toList.length := rfl
  have h2 : w.size = w.data.toList.length := rfl
  rw [List.isPrefixOf_iff_prefix, List.prefix_iff_eq_take, h1, h2]
  constructor
  · intro h
    refine ⟨?_, h.symm⟩
    have := congrArg List.length h
    rw [List.length_take] at this
    omega
  · rintro ⟨_, h⟩
    exact h.symm
theorem trimP_eq {w y : ByteArray} (h : hasP w y = true) : trimP w y = w.extract y.size w.size := by
  apply ba_ext
  rw [drop_str]
  unfold trimP Lib.trimPrefix
  unfold hasP at h
  rw [if_pos h, bs_list]
  rfl
theorem opsRows : rows Ty.str.oc opsL = [.sc (.string (bs [94])), .sc (.string (bs [126])), .sc (.string (bs [62, 61])), .sc (.string (bs [62])), .sc (.string (bs [60, 61])), .sc (.string (bs [60])), .sc (.string (bs [61])), .sc (.string (bs []))] := rfl
theorem opsLen : (rows Ty.str.oc opsL).length = 8 := rfl
theorem cmpsA_em {M : Nat → Prop} {w : Go.World} {v : Value} (h : W M w (.tup [.ro [.sc (.int .i64 4), .sc (.int .i64 0), .sc (.int .i64 0), .sc (.int .i64 0), .em] 1, .sc (.bool true)]) v) : W M w (cmpsA (some [⟨4, ver0⟩])) v := by
  cases h with
  | tup _ us h1 h2 =>
    refine .tup _ us h1 fun j x u hx hu => ?_
    match j with
    | 0 =>
      cases hx
      exact W_roS (xs := [.sc (.int .i64 4), .sc (.int .i64 0), .sc (.int .i64 0), .sc (.int .i64 0), .em]) (ys := [.sc (.int .i64 4), .sc (.int .i64 0), .sc (.int .i64 0), .sc (.int .i64 0), .ro [] 0]) ⟨.inl rfl, .inl rfl, .inl rfl, .inl rfl, .inr ⟨rfl, rfl⟩, trivial⟩ (h2 0 _ u rfl hu)
    | 1 => exact h2 1 x u hx hu
    | j + 2 => simp at hx
set_option maxHeartbeats 4000000 in
theorem R176 (w : ByteArray) (hw : w.size ≤ 1048576) : Ret Tryz.prog 176 [.sc (.string w)] (cmpsA (cmpsO w)) [.un] := by
  have x1 : w ≠ bs [42] → ¬ (w.toList = [42]) := fun h e => h (ba_ext (by rw [← Lib.toList_data, e]; rfl))
  by_cases h42 : w = bs [42]
  · subst h42
    rw [show cmpsO (bs [42]) = some [⟨4, ver0⟩] from if_pos rfl]
    refine Ret.weakW (ret := .tup [.own [.sc (.int .i64 4), .sc (.int .i64 0), .sc (.int .i64 0), .sc (.int .i64 0), .em] 1 5, .sc (.bool true)]) ?_ (r1 := .tup [.ro [.sc (.int .i64 4), .sc (.int .i64 0), .sc (.int .i64 0), .sc (.int .i64 0), .em] 1, .sc (.bool true)]) ?_ fun M w v h => cmpsA_em h
    · refine Ret.go Tryz.func176 ?_
      simp (disch := omega) [ex1, idfree, idfree.idfreeL]
    · unfold coolT
      simp only [List.mapM_cons, List.mapM_nil]
      rw [cool_own (by simp [shut, shut.shutL])]
      rfl
  · have h42' := x1 h42
    have hall : ∃ ret, coolT ret = some (cmpsA (cmpsO w)) ∧ (∀ l, cmpsO w = some l → ret = cmpsA (some l)) ∧ (cmpsO w = none → ret = cmpsX none) := by
      cases cmpsO w with
      | none => exact ⟨cmpsX none, cool_cmps none, by simp, by simp⟩
      | some l => exact ⟨cmpsA (some l), by unfold cmpsA coolT; simp only [List.mapM_cons, List.mapM_nil]; rfl, fun l' h => by rw [Option.some.inj h], by simp⟩
    obtain ⟨ret, hc, hs, hn⟩ := hall
    refine Ret.cool (ret := ret) ?_ hc
    clear hc
    unfold cmpsO at hs hn
    rw [if_neg h42] at hs hn
    refine Ret.go Tryz.func176 ?_
    simp (disch := omega) [h42']
    refine T.forL opsL (fun pre _ => ∀ o ∈ pre, hasP w o = false) (fun pre _ => [(0, .sc (.string w)), (4, .sl 12 0 8 1 false), (5, .sc (.int .i64 pre.length))]) (fun _ _ => [(12, rows Ty.str.oc opsL)]) (by rw [opsRows]; simp [mens, menQ, idfree]) ?_ ?_
    · intro hJ
      exact absurd (hJ (bs []) (by simp [opsL])) (by simp [hasP, Lib.hasPrefix, bs_list])
    · intro pre y rest hx hl hJ
      have hop := opsL_is hx
      have hd : List.drop pre.length (rows Ty.str.oc opsL) = .sc (.string y) :: rows Ty.str.oc rest := by
        have := rows_drop Ty.str.ocn pre (y :: rest)
        rwa [hx, show pre.length * Ty.str.n = pre.length from Nat.mul_one _] at this
      have hpl : (pre.length : Int) < 8 := by
        have : pre.length < opsL.length := by omega
        have e : opsL.length = 8 := rfl
        omega
      have hts := trimP_size w y
      have hpi := hasP_iff w y
      by_cases hh : hasP w y = true
      · obtain ⟨k1, k2⟩ := hpi.1 hh
        have k3 : (y.size : Int) ≤ w.size := by omega
        have hf : opsL.find? (hasP w) = some y := by
          rw [← hx, List.find?_append, List.find?_eq_none.2 (fun o ho => by rw [hJ o ho]; simp)]
          simp [hh]
        have ht := trimP_eq hh
        rw [hf] at hs hn
        simp only at hs hn
        rw [ht] at hs hn hts
        obtain ⟨v, n, rR, hR⟩ := R194 (w.extract y.size w.size) (by omega)
        simp (disch := omega) [hd, hpl, opsLen]
        refine T.textE [] ?_ mixed
        simp (disch := omega) [hd, hpl, opsLen, k1, k2, k3, merge_nil, hideH_nil]
        unfold p6c at rR
        refine cX 900 rR ?_
        cases hv : partV (w.extract y.size w.size) with
        | none =>
          rw [hv] at hn
          rw [hn rfl]
          simp (disch := omega) [cmpsX, over, rows_nil, idfree.idfreeL, ex1]
        | some p =>
          rw [hv] at hs
          rw [hs _ rfl]
          cases hR p hv
          obtain ⟨q1, q2, q3⟩ := partV_ok hv
          have rM := R195 y v n hop q1 q2 q3
          simp (disch := omega) [over, hd, hpl, opsLen]
          refine T.textE [] ?_ mixed
          simp (disch := omega) [over, hd, hpl, opsLen]
          refine cWX 900 rM ?_
          simp (disch := omega) [cmpsA]
      · have hf : hasP w y = false := by simpa using hh
        simp (disch := omega) [hd, hpl, opsLen]
        refine T.textE [] ?_ mixed
        by_cases k1 : y.size ≤ w.size
        · have k2 : ¬ (w.extract 0 y.size).toList = y.toList := fun e => hh (hpi.2 ⟨k1, e⟩)
          simp (disch := omega) [hd, hpl, opsLen, k1, k2, merge_nil, hideH_nil]
          exact ⟨fun o ho => ho.elim (hJ o) (fun e => e ▸ hf), rfl⟩
        · simp (disch := omega) [hd, hpl, opsLen, k1, merge_nil, hideH_nil]
          exact ⟨fun o ho => ho.elim (hJ o) (fun e => e ▸ hf), rfl⟩
set_option maxRecDepth 100000
theorem R149 (t : ByteArray) (hl : t.size ≤ 1048576) : Ret Tryz.prog 149 [.sc (.string t)] (.sc (.string (bs (trimLB 32 (trimRB 32 t.data.toList))))) [.un] := by
  obtain ⟨l, rfl⟩ : ∃ l, t = bs l := ⟨t.data.toList, rfl⟩
  rw [bs_list, trim_comm]
  rw [bs_size] at hl
  refine Ret.go Tryz.func149 ?_
  simp (disch := omega) []
  refine T.forI (ι := List UInt8) (fun m => m.length) (fun m => m.length ≤ 1048576 ∧ trimLB 32 m = trimLB 32 l) (fun m => [(0, .sc (.string (bs m)))]) (fun _ => []) l ⟨⟨hl, rfl⟩, Tl.same rfl (by simp) (by simp)⟩ ?_
  rintro m ⟨h1, h2⟩
  have second : ∀ (P : Program) (p : List Nat), True := fun _ _ => trivial
  cases m with
  | nil =>
    rw [← h2]
    simp (disch := omega) [trimLB]
    refine T.on 400 ?_
    simp (disch := omega) []
    refine T.loopN 2 (rdN_go ?_)
    refine run_ok (n := 1000) ?_
    simp (disch := omega) []
    refine T.on 400 ?_
    simp (disch := omega) [trimRB]
  | cons x m =>
    rw [List.length_cons] at h1
    have e1 : (1 : Int) ≤ m.length + 1 := by omega
    by_cases hx : x = 32
    · rw [trimLB, if_pos hx] at h2
      subst hx
      simp (disch := omega) [bs_extract, e1]
      exact Ri_mk m (by simp) ⟨by omega, h2⟩ (Tl.same rfl (by simp) (by simp))
    · rw [trimLB, if_neg hx] at h2
      have hx2 : ¬ ((x.toNat : Int) = 32) := fun e => hx (u8_eq.1 (by simpa using e))
      rw [← h2]
      simp (disch := omega) [hx, hx2]
      refine T.on 400 ?_
      simp (disch := omega) []
      obtain ⟨k, hk⟩ : ∃ k, k = x :: m := ⟨_, rfl⟩
      have hkl : k.length ≤ 1048576 := by rw [hk]; simpa using h1
      rw [← hk]
      clear hk h2 hx hx2 h1 e1 hl
      refine T.forI (ι := List UInt8) (fun m => m.length) (fun m => m.length ≤ 1048576 ∧ trimRB 32 m = trimRB 32 k) (fun m => [(0, .sc (.string (bs m)))]) (fun _ => []) k ⟨⟨hkl, rfl⟩, Tl.same rfl (by simp) (by simp)⟩ ?_
      rintro m ⟨h1, h2⟩
      rcases List.eq_nil_or_concat m with rfl | ⟨m, x, rfl⟩
      · rw [← h2]
        simp (disch := omega) [trimRB]
        refine T.on 400 ?_
        simp (disch := omega) []
      · rw [List.concat_eq_append] at *
        rw [List.length_append, List.length_singleton] at h1
        have e1 : (0 : Int) < m.length + 1 := by omega
        have e2 : IntKind.i64.wrap ((m.length : Int) + 1 - 1) = m.length := by rw [show (m.length : Int) + 1 - 1 = m.length by omega]; exact wrap_i64 (by omega) (by omega)
        have hg : (m ++ [x])[m.length]? = some x := by simp
        rw [trimRB_snoc] at h2
        by_cases hx : x = 32
        · rw [if_pos hx] at h2
          subst hx
          simp (disch := omega) [bs_extract, e1, e2, hg]
          exact Ri_mk m (by simp) ⟨by omega, h2⟩ (Tl.same rfl (by simp) (by simp))
        · rw [if_neg hx] at h2
          have hx2 : ¬ ((x.toNat : Int) = 32) := fun e => hx (u8_eq.1 (by simpa using e))
          rw [← h2]
          simp (disch := omega) [hx, hx2, e1, e2, hg]
          refine T.on 400 ?_
          simp (disch := omega) []
theorem R150 (l : List Cmp) (hl : l.length ≤ 2097160) (hc : ∀ x ∈ l, OkC x) : Ret Tryz.prog 150 [.ro (rows Cmp.ty.cs l) l.length] (.sc (.bool (okL l))) [.un] := by
  refine Ret.go Tryz.func150 ?_
  simp (disch := omega) []
  refine T.forL l (fun pre _ => okL pre = true) (fun pre _ => [(0, .ro (rows Cmp.ty.cs l) l.length), (3, .sc (.int .i64 pre.length))]) (fun _ _ => []) ⟨rfl, by simp⟩ ?_ ?_
  · intro hJ
    rw [hJ]
    simp (disch := omega) []
    refine T.on 400 ?_
    simp (disch := omega) []
  · intro pre x rest hx hl2 hJ
    obtain ⟨x1, x2⟩ := hc x (by rw [← hx]; simp)
    have rV := R76 x.v (by omega) (fun s hs => by have := x2 s hs; omega)
    have hd : List.drop (pre.length * 5) (rows Cmp.ty.cs l) = .sc (.int .i64 x.op) :: .sc (.int .i64 x.v.a) :: .sc (.int .i64 x.v.b) :: .sc (.int .i64 x.v.c) :: .ro (rows Ty.str.cs x.v.pre) x.v.pre.length :: rows Cmp.ty.cs rest := by
      have := rows_drop Cmp.ty.csn pre (x :: rest)
      rw [hx, rows_cons, Cmp.cse] at this
      exact this
    have hd1 : List.drop (pre.length * 5 + 1) (rows Cmp.ty.cs l) = .sc (.int .i64 x.v.a) :: .sc (.int .i64 x.v.b) :: .sc (.int .i64 x.v.c) :: .ro (rows Ty.str.cs x.v.pre) x.v.pre.length :: rows Cmp.ty.cs rest := by rw [← List.drop_drop, hd]; rfl
    rw [Ver.cse] at rV
    simp (disch := omega) [hd, hd1]
    refine cX 900 rV ?_
    cases hv : verB x.v
    · rw [okL_not hx hv]
      simp (disch := omega) []
    · simp (disch := omega) [okL_snoc, hv, hJ]
set_option maxRecDepth 100000
def upto : List ByteArray → List Cmp
  | [] => []
  | w :: ws => match cmpsO w with
    | none => []
    | some l => l ++ upto ws
theorem catO_fold (ws : List ByteArray) (a : List Cmp) : ws.foldl catS (some a) = (catO ws).map (a ++ ·) := by
  induction ws generalizing a with
  | nil => simp [catO]
  | cons w ws ih =>
    unfold catO
    rw [List.foldl_cons, List.foldl_cons]
    cases h : cmpsO w with
    | none =>
      have e : ∀ b, catS (some b) w = none := fun b => by unfold catS; rw [h]
      rw [e, e, catS_none]
      rfl
    | some l =>
      have e : ∀ b, catS (some b) w = some (b ++ l) := fun b => by unfold catS; rw [h]
      rw [e, e, ih, ih, List.nil_append, Option.map_map]
      congr 1
      funext x
      simp
theorem upto_all {ws : List ByteArray} {l : List Cmp} (h : catO ws = some l) : upto ws = l := by
  induction ws generalizing l with
  | nil => cases h; rfl
  | cons w ws ih =>
    unfold catO at h
    rw [List.foldl_cons] at h
    rw [upto]
    cases hc : cmpsO w with
    | none =>
      have e : catS (some []) w = none := by unfold catS; rw [hc]
      rw [e, catS_none] at h
      cases h
    | some m =>
      have e : catS (some []) w = some m := by unfold catS; rw [hc]; rfl
      rw [e, catO_fold] at h
      obtain ⟨r, hr, rfl⟩ := Option.map_eq_some_iff.1 h
      rw [ih hr]
theorem upto_ok : ∀ (ws : List ByteArray), (upto ws).length ≤ 2 * ws.length ∧ ∀ x ∈ upto ws, OkC x
  | [] => by simp [upto]
  | w :: ws => by
    obtain ⟨h1, h2⟩ := upto_ok ws
    rw [upto]
    cases hc : cmpsO w with
    | none => simp
    | some l =>
      obtain ⟨h3, h4⟩ := cmpsO_ok hc
      refine ⟨by simp only [List.length_append, List.length_cons]; omega, fun x hx => (List.mem_append.1 hx).elim (h4 x) (h2 x)⟩
def listJ (ws : List ByteArray) : List Cmp × Bool :=
  match ws with
  | [a, d, b] => if d = bs [45] then ([⟨4, (parseVer a).getD ver0⟩, ⟨2, (parseVer b).getD ver0⟩], (parseVer a).isSome && (parseVer b).isSome) else (upto ws, (catO ws).isSome && decide ((upto ws).length ≤ 4))
  | _ => (upto ws, (catO ws).isSome && decide ((upto ws).length ≤ 4))
theorem okC_get (a : ByteArray) (o : Int) : OkC ⟨o, (parseVer a).getD ver0⟩ := by
  cases h : parseVer a with
  | none => exact ⟨by simp [ver0], by simp [ver0]⟩
  | some v => exact okC_ver (parseVer_ok h)
theorem listJ_I (ws : List ByteArray) : (listI ws).2 = ((listJ ws).2 && okL (listJ ws).1) ∧ ((listI ws).2 = true → (listI ws).1 = (listJ ws).1) ∧ (listJ ws).1.length ≤ 2 * ws.length ∧ ∀ x ∈ (listJ ws).1, OkC x := by
  have key : (∀ a d b, ws = [a, d, b] → d ≠ bs [45]) → listI ws = (match catO ws with
      | none => ([], false)
      | some l => if okL l = true then (l, decide (l.length ≤ 4)) else ([], false)) ∧ listJ ws = (upto ws, (catO ws).isSome && decide ((upto ws).length ≤ 4)) := fun h => by
    unfold listI listJ
    split
    · rename_i a d b
      have := h a d b rfl
      exact ⟨if_neg this, if_neg this⟩
    · rename_i hn
      refine ⟨rfl, ?_⟩
      first
      | rfl
      | (split
         · rename_i a d b; exact absurd rfl (hn a d b)
         · rfl)
  by_cases hy : ∃ a b, ws = [a, bs [45], b]
  · obtain ⟨a, b, rfl⟩ := hy
    have e : listI [a, bs [45], b] = ([⟨4, (parseVer a).getD ver0⟩, ⟨2, (parseVer b).getD ver0⟩], (parseVer a).isSome && (parseVer b).isSome) := by simp [listI]
    have e2 : listJ [a, bs [45], b] = ([⟨4, (parseVer a).getD ver0⟩, ⟨2, (parseVer b).getD ver0⟩], (parseVer a).isSome && (parseVer b).isSome) := by simp [listJ]
    rw [e, e2]
    refine ⟨?_, fun _ => rfl, by simp, fun x hx => ?_⟩
    · show _ = (_ && okL [_, _])
      cases ha : parseVer a with
      | none => rfl
      | some v =>
        cases hb : parseVer b with
        | none => rfl
        | some u => simp [okL, parseVer_ok ha, parseVer_ok hb]
    · simp only [List.mem_cons, List.not_mem_nil, or_false] at hx
      rcases hx with rfl | rfl
      · exact okC_get a 4
      · exact okC_get b 2
  · obtain ⟨k1, k2⟩ := key fun a d b h e => hy ⟨a, b, by rw [h, e]⟩
    rw [k1, k2]
    obtain ⟨u1, u2⟩ := upto_ok ws
    cases hc : catO ws with
    | none => exact ⟨rfl, by simp, u1, u2⟩
    | some l =>
      rw [upto_all hc] at u1 u2 ⊢
      simp only [Option.isSome_some, Bool.true_and]
      cases h : okL l
      · exact ⟨by simp, by simp, u1, u2⟩
      · exact ⟨by simp, by simp, u1, u2⟩
set_option maxHeartbeats 8000000 in
theorem R147 (ws : List ByteArray) (hwn : ws.length ≤ 1048577) (hwz : ∀ x ∈ ws, x.size ≤ 1048576) : Ret Tryz.prog 147 [.ro (rows Ty.str.cs ws) ws.length] (listA (listJ ws)) [.un] := by
  refine Ret.cool (ret := listX (listJ ws)) ?_ (cool_list _)
  by_cases hy : ∃ a b, ws = [a, bs [45], b]
  · obtain ⟨a, b, rfl⟩ := hy
    have r1 := (R175 a (hwz a (by simp))).cool (verA_cool _)
    have r2 := (R175 b (hwz b (by simp))).cool (verA_cool _)
    rw [show rows Ty.str.cs [a, bs [45], b] = [.sc (.string a), .sc (.string (bs [45])), .sc (.string b)] from rfl]
    have e : listJ [a, bs [45], b] = ([⟨4, (parseVer a).getD ver0⟩, ⟨2, (parseVer b).getD ver0⟩], (parseVer a).isSome && (parseVer b).isSome) := by simp [listJ]
    rw [e]
    rw [verR, Ver.cse] at r1 r2
    generalize (parseVer a).getD ver0 = va at *
    generalize (parseVer b).getD ver0 = vb at *
    generalize (parseVer a).isSome = oa at *
    generalize (parseVer b).isSome = ob at *
    refine Ret.go Tryz.func147 ?_
    simp (disch := omega) []
    refine cX 900 r1 ?_
    simp (disch := omega) []
    refine cX 900 r2 ?_
    cases oa <;> cases ob <;> simp (disch := omega) [ex1, idfree, idfree.idfreeL, rows_cons, rows_nil, Cmp.cse, listX]
  · have e : listJ ws = (upto ws, (catO ws).isSome && decide ((upto ws).length ≤ 4)) := by
      unfold listJ
      split
      · rename_i a d b
        rw [if_neg (fun e => hy ⟨a, b, by rw [e]⟩)]
      · rfl
    rw [e]
    clear e
    have hg : (((ws.length : Int) = 3) = True ∧ (1 < (ws.length : Int)) = True ∧ ∃ d r, List.drop 1 (rows Ty.str.cs ws) = .sc (.string d) :: r ∧ ¬ (d.toList = [45])) ∨ ((ws.length : Int) = 3) = False := by
      by_cases h3 : ws.length = 3
      · left
        match ws, h3 with
        | [a, d, b], _ => exact ⟨eq_true rfl, eq_true (by simp), d, _, rfl, fun e => hy ⟨a, b, by rw [show d = bs [45] from ba_ext (by rw [← Lib.toList_data, e]; rfl)]⟩⟩
      · right
        exact eq_false (by omega)
    clear hy
    obtain ⟨F, hF⟩ : ∃ F : List ByteArray → List Cmp, F = fun l => (catO l).getD [] := ⟨_, rfl⟩
    have F0 : F [] = [] := by rw [hF]; rfl
    have F1 : ∀ l a, catO l = some a → F l = a := fun l a h => by rw [hF]; simp [h]
    have Fi : ∀ l, idfree.idfreeL (rows Cmp.ty.cs (F l)) = true := fun l => cmpIdf _
    clear hF
    rcases hg with ⟨g1, g4, d, r, g2, g3⟩ | g1
    case' inl =>
      refine Ret.go Tryz.func147 ?_
      simp (disch := omega) [g1, g2, g3, g4]
    case' inr =>
      refine Ret.go Tryz.func147 ?_
      simp (disch := omega) [g1]
    all_goals
      clear g1
      refine T.forR ws (fun pre rest => ∃ a, catO pre = some a ∧ upto ws = a ++ upto rest) (fun pre _ => [(0, .ro (rows Ty.str.cs ws) ws.length), (4, .sl 12 0 (F pre).length 5 false), (9, .sc (.int .i64 pre.length))]) (fun pre _ => [(12, rows Cmp.ty.cs (F pre))]) ⟨⟨[], rfl, rfl⟩, Tl.same rfl (by simp [F0]) (by simp [F0, rows])⟩ ?_ ?_
      · rintro ⟨acc, hacc, hu⟩
        rw [show upto [] = [] from rfl, List.append_nil] at hu
        rw [hacc, hu, F1 ws acc hacc]
        have hi := cmpIdf acc
        have hcl := Cmp.csl acc
        simp (disch := omega) []
        refine T.on 400 ?_
        simp (disch := omega) [ex1, hi, hcl, listX]
        omega
      · rintro pre x rest hx hl2 ⟨acc, hacc, hu⟩
        have hd : List.drop pre.length (rows Ty.str.cs ws) = .sc (.string x) :: rows Ty.str.cs rest := by rw [rowsC_drop, ← hx, drop_pre, rowsC_cons]
        have rC := R176 x (hwz x (by rw [← hx]; simp))
        have hsn := catO_snoc pre x
        rw [hacc] at hsn
        obtain ⟨al, _⟩ := catO_ok hacc
        have e1 := F1 pre acc hacc
        rw [e1]
        rw [upto] at hu
        cases hc : cmpsO x with
        | none =>
          have hn : catO ws = none := by rw [← hx]; exact catO_none hc
          rw [hc] at rC hu
          simp only [List.append_nil] at hu
          have hi := cmpIdf acc
          have hcl := Cmp.csl acc
          rw [hn, hu]
          simp (disch := omega) [hd]
          refine cX 900 rC ?_
          simp (disch := omega) [cmpsA, listX, rows_nil, ex1, hi, hcl]
        | some l =>
          rw [hc] at rC hu
          simp only at hu
          obtain ⟨cl, _⟩ := cmpsO_ok hc
          have hs2 : catO (pre ++ [x]) = some (acc ++ l) := by rw [hsn]; unfold catS; rw [hc]
          have e2 := F1 _ _ hs2
          have hr : rows Cmp.ty.cs (F (pre ++ [x])) = rows Cmp.ty.cs acc ++ rows Cmp.ty.cs l := by rw [e2, rows_append]
          have hL : (F (pre ++ [x])).length = acc.length + l.length := by rw [e2, List.length_append]
          have hi := Fi (pre ++ [x])
          rw [hr] at hi
          simp (disch := omega) [hd]
          refine cX 900 rC ?_
          simp (disch := omega) [cmpsA, over, Cmp.csl, hL]
          exact ⟨⟨_, hs2, by rw [hu, List.append_assoc]⟩, Tl.ren [(64, 12)] rfl (by simp [idfree, hr, hi])⟩
set_option maxRecDepth 100000
theorem cmpI_neg (a b : Int) : cmpI a b = -cmpI b a := by
  unfold cmpI
  repeat' split
  all_goals omega
theorem cmpS_neg (a b : ByteArray) : cmpS a b = -cmpS b a := by
  unfold cmpS
  cases h1 : bL a b
  · cases h2 : bL b a
    · have := bL_tot h1 h2
      subst this
      simp
    · have hne : ¬ a.toList = b.toList := fun e => by rw [tl_eq.1 e, bL_irr] at h2; cases h2
      simp [hne]
  · have h2 := bL_asy h1
    have hne : ¬ b.toList = a.toList := fun e => by rw [tl_eq.1 e, bL_irr] at h1; cases h1
    simp [h2, hne]
theorem orV_neg (x y : Int) : orV [x, y] = -orV [-x, -y] := by
  by_cases h : x = 0 <;> by_cases h2 : y = 0 <;> simp [orV, h, h2]
theorem orV3_neg (x y z : Int) : orV [x, y, z] = -orV [-x, -y, -z] := by
  by_cases h : x = 0 <;> by_cases h2 : y = 0 <;> by_cases h3 : z = 0 <;> simp [orV, h, h2, h3]
theorem cmpW_neg (a b : ByteArray) : cmpW a b = -cmpW b a := by
  unfold cmpW
  have h1 := cmpS_neg a b
  have h2 := cmpI_neg a.size b.size
  cases ha : oneW a <;> cases hb : oneW b
  · simpa using h1
  · simp
  · simp
  · simp only [and_self, if_true]
    rw [h1, h2, orV_neg]
    simp
theorem cmpP_neg : ∀ (a b : List ByteArray), cmpP a b = -cmpP b a
  | [], [] => rfl
  | [], _ :: _ => rfl
  | _ :: _, [] => rfl
  | x :: xs, y :: ys => by
    have h := cmpW_neg x y
    have ih := cmpP_neg xs ys
    rw [cmpP, cmpP]
    by_cases h0 : cmpW x y = 0
    · rw [if_pos h0, if_pos (by omega), ih]
    · rw [if_neg h0, if_neg (by omega), h]
theorem cmpP_0 : ∀ (a b : List ByteArray), cmpP a b = 0 ↔ a = b
  | [], [] => by simp [cmpP]
  | [], _ :: _ => by simp [cmpP]
  | _ :: _, [] => by simp [cmpP]
  | x :: xs, y :: ys => by
    have h := @cmpW_0 x y
    have ih := cmpP_0 xs ys
    rw [cmpP]
    by_cases h0 : cmpW x y = 0
    · rw [if_pos h0, ih]
      simp [h.1 h0]
    · rw [if_neg h0]
      have : x ≠ y := fun e => h0 (h.2 e)
      simp [h0, this]
theorem cmpC_neg (a b : Ver) : cmpC a b = -cmpC b a := by
  unfold cmpC
  rw [cmpI_neg a.a, cmpI_neg a.b, cmpI_neg a.c, orV3_neg]
  simp
theorem cmpC_0 (a b : Ver) : cmpC a b = 0 ↔ coreV a b = true := by
  unfold cmpC coreV
  have h1 := @cmpI_0 a.a b.a
  have h2 := @cmpI_0 a.b b.b
  have h3 := @cmpI_0 a.c b.c
  simp only [Bool.and_eq_true, decide_eq_true_eq, orV]
  by_cases k1 : cmpI a.a b.a = 0
  · rw [if_pos k1]
    by_cases k2 : cmpI a.b b.b = 0
    · rw [if_pos k2]
      by_cases k3 : cmpI a.c b.c = 0
      · rw [if_pos k3]; exact ⟨fun _ => ⟨h1.1 k1, h2.1 k2, h3.1 k3⟩, fun _ => rfl⟩
      · rw [if_neg k3]; exact ⟨fun e => absurd e k3, fun e => absurd (h3.2 e.2.2) k3⟩
    · rw [if_neg k2]; exact ⟨fun e => absurd e k2, fun e => absurd (h2.2 e.2.1) k2⟩
  · rw [if_neg k1]; exact ⟨fun e => absurd e k1, fun e => absurd (h1.2 e.1) k1⟩
theorem cmpV_neg (a b : Ver) : cmpV a b = -cmpV b a := by
  unfold cmpV
  have h := cmpC_neg a b
  have hp := cmpP_neg a.pre b.pre
  by_cases h0 : cmpC a b = 0
  · have h1 : cmpC b a = 0 := by omega
    rw [if_pos h0, if_pos h1]
    by_cases k : (a.pre = [] ↔ b.pre = [])
    · rw [if_pos k, if_pos k.symm]; exact hp
    · rw [if_neg k, if_neg (c := (b.pre = [] ↔ a.pre = [])) (fun e => k e.symm)]
      by_cases k1 : a.pre = []
      · rw [if_pos k1, if_neg (fun e => k ⟨fun _ => e, fun _ => k1⟩)]; rfl
      · by_cases k2 : b.pre = []
        · rw [if_neg k1, if_pos k2]
        · exact absurd ⟨fun e => absurd e k1, fun e => absurd e k2⟩ k
  · have h1 : ¬ cmpC b a = 0 := by omega
    rw [if_neg h0, if_neg h1]; exact h
theorem eqS_iff : ∀ (a b : List ByteArray), eqBy strEq a b = true ↔ a = b
  | [], [] => by simp [eqBy]
  | [], _ :: _ => by simp [eqBy]
  | _ :: _, [] => by simp [eqBy]
  | x :: xs, y :: ys => by
    have ih := eqS_iff xs ys
    rw [eqBy]
    simp only [Bool.and_eq_true, ih, List.cons.injEq]
    refine and_congr ?_ Iff.rfl
    unfold strEq
    rw [beq_iff_eq]
    exact tl_eq
theorem sameV_0 (a b : Ver) : sameV a b = decide (cmpV a b = 0) := by
  rw [Bool.eq_iff_iff, decide_eq_true_eq]
  unfold sameV cmpV
  rw [Bool.and_eq_true, ← cmpC_0, eqS_iff]
  have hp := cmpP_0 a.pre b.pre
  by_cases h0 : cmpC a b = 0
  · rw [if_pos h0]
    by_cases k : (a.pre = [] ↔ b.pre = [])
    · rw [if_pos k, hp]
      exact ⟨fun h => h.2, fun h => ⟨h0, h⟩⟩
    · rw [if_neg k]
      have : a.pre ≠ b.pre := fun e => k (by rw [e])
      by_cases k1 : a.pre = []
      · rw [if_pos k1]; exact ⟨fun h => absurd h.2 this, fun h => by cases h⟩
      · rw [if_neg k1]; exact ⟨fun h => absurd h.2 this, fun h => by cases h⟩
  · rw [if_neg h0]
    exact ⟨fun h => absurd h.1 h0, fun h => absurd h h0⟩
def cmpB (c : Cmp) (v : Ver) : Bool :=
  if c.op = 0 then decide (cmpV v c.v = 0) else if c.op = 1 then decide (cmpV v c.v < 0) else if c.op = 2 then decide (cmpV v c.v ≤ 0)
  else if c.op = 3 then decide (0 < cmpV v c.v) else if c.op = 4 then decide (0 ≤ cmpV v c.v) else false
set_option maxHeartbeats 1000000 in
theorem R173 (c : Cmp) (v : Ver) (hx : v.pre.length ≤ 1048577) (hy : c.v.pre.length ≤ 1048577) (zx : ∀ x ∈ v.pre, x.size ≤ 1048577) (zy : ∀ x ∈ c.v.pre, x.size ≤ 1048577) : Ret Tryz.prog 173 [.agg (Cmp.ty.cs c), .agg (Ver.ty.cs v)] (.sc (.bool (cmpB c v))) [.un, .un] := by
  have rV := R47 v c.v hx hy zx zy
  unfold cmpB
  rw [Ver.cse, Ver.cse] at rV
  rw [Ver.cse, Cmp.cse]
  generalize cmpV v c.v = k at *
  obtain ⟨o, va, vb, vc, vp⟩ := c
  obtain ⟨wa, wb, wc, wp⟩ := v
  simp only at *
  by_cases h0 : o = 0
  · refine Ret.go Tryz.func173 ?_
    simp (disch := omega) []
    refine cX 900 rV ?_
    simp (disch := omega) [h0, show (k == 0) = decide (k = 0) from by by_cases h : k = 0 <;> simp [h]]
  by_cases h1 : o = 1
  · refine Ret.go Tryz.func173 ?_
    simp (disch := omega) []
    refine cX 900 rV ?_
    simp (disch := omega) [h0, h1]
  by_cases h2 : o = 2
  · refine Ret.go Tryz.func173 ?_
    simp (disch := omega) []
    refine cX 900 rV ?_
    simp (disch := omega) [h0, h1, h2]
  by_cases h3 : o = 3
  · refine Ret.go Tryz.func173 ?_
    simp (disch := omega) []
    refine cX 900 rV ?_
    simp (disch := omega) [h0, h1, h2, h3]
  by_cases h4 : o = 4
  · refine Ret.go Tryz.func173 ?_
    simp (disch := omega) []
    refine cX 900 rV ?_
    simp (disch := omega) [h0, h1, h2, h3, h4]
  · refine Ret.go Tryz.func173 ?_
    simp (disch := omega) []
    refine cX 900 rV ?_
    simp (disch := omega) [h0, h1, h2, h3, h4]
set_option maxHeartbeats 1000000 in
theorem R151 (c : Cmp) (v : Ver) (hx : v.pre.length ≤ 1048577) (hy : c.v.pre.length ≤ 1048577) (zx : ∀ x ∈ v.pre, x.size ≤ 1048577) (zy : ∀ x ∈ c.v.pre, x.size ≤ 1048577) : Ret Tryz.prog 151 [.agg (Cmp.ty.cs c), .agg (Ver.ty.cs v)] (.sc (.bool (cmpB c v))) [.un, .un] := by
  have rS := R94 c.v v hy
  have rL := R91 v c.v hx hy zx zy
  have rG := R91 c.v v hy hx zy zx
  have hn := cmpV_neg c.v v
  rw [sameV_0] at rS
  unfold lessV at rL rG
  unfold cmpB
  rw [hn] at rS rG
  rw [Ver.cse, Ver.cse] at rS rL rG
  rw [Ver.cse, Cmp.cse]
  clear hn
  generalize cmpV v c.v = k at *
  obtain ⟨o, va, vb, vc, vp⟩ := c
  obtain ⟨wa, wb, wc, wp⟩ := v
  simp only at *
  have e1 : decide (-k = 0) = decide (k = 0) := by simp
  have e2 : decide (-k < 0) = decide (0 < k) := by rw [Bool.eq_iff_iff, decide_eq_true_eq, decide_eq_true_eq]; omega
  rw [e1] at rS
  rw [e2] at rG
  have e3 : (!decide (0 < k)) = decide (k ≤ 0) := by rw [Bool.eq_iff_iff]; simp
  have e4 : (!decide (k < 0)) = decide (0 ≤ k) := by rw [Bool.eq_iff_iff]; simp
  by_cases h0 : o = 0
  · refine Ret.go Tryz.func151 ?_
    simp (disch := omega) [h0]
    refine cX 900 rS ?_
    simp (disch := omega) [h0]
  by_cases h1 : o = 1
  · refine Ret.go Tryz.func151 ?_
    simp (disch := omega) [h0, h1]
    refine cX 900 rL ?_
    simp (disch := omega) [h0, h1]
  by_cases h2 : o = 2
  · refine Ret.go Tryz.func151 ?_
    simp (disch := omega) [h0, h1, h2]
    refine cX 900 rG ?_
    simp (disch := omega) [h0, h1, h2, e3]
  by_cases h3 : o = 3
  · refine Ret.go Tryz.func151 ?_
    simp (disch := omega) [h0, h1, h2, h3]
    refine cX 900 rG ?_
    simp (disch := omega) [h0, h1, h2, h3]
  by_cases h4 : o = 4
  · refine Ret.go Tryz.func151 ?_
    simp (disch := omega) [h0, h1, h2, h3, h4]
    refine cX 900 rL ?_
    simp (disch := omega) [h0, h1, h2, h3, h4, e4]
  · refine Ret.go Tryz.func151 ?_
    simp (disch := omega) [h0, h1, h2, h3, h4]
set_option maxRecDepth 100000
def preT (v : Ver) (l : List Cmp) : Bool := v.pre.isEmpty || l.any fun c => !c.v.pre.isEmpty && coreV c.v v
def allT (v : Ver) (l : List Cmp) : Bool := l.all fun c => cmpB c v
def takesB (l : List Cmp) (v : Ver) : Bool := allT v l && preT v l
def rangeB (r : List (List Cmp)) (v : Ver) : Bool := verB v && r.any fun l => takesB l v
theorem preT_snoc (v : Ver) (l : List Cmp) (c : Cmp) : preT v (l ++ [c]) = (preT v l || (!c.v.pre.isEmpty && coreV c.v v)) := by
  unfold preT
  rw [List.any_append, List.any_cons, List.any_nil, Bool.or_false, Bool.or_assoc]
theorem allT_snoc (v : Ver) (l : List Cmp) (c : Cmp) : allT v (l ++ [c]) = (allT v l && cmpB c v) := by simp [allT]
theorem allT_not {v : Ver} {pre rest l : List Cmp} {c : Cmp} (hx : pre ++ c :: rest = l) (h : cmpB c v = false) : allT v l = false := by rw [← hx]; simp [allT, h]
def anyT (v : Ver) (r : List (List Cmp)) : Bool := r.any fun l => takesB l v
theorem anyT_snoc (v : Ver) (r : List (List Cmp)) (l : List Cmp) : anyT v (r ++ [l]) = (anyT v r || takesB l v) := by simp [anyT]
theorem anyT_yes {v : Ver} {pre rest r : List (List Cmp)} {l : List Cmp} (hx : pre ++ l :: rest = r) (h : takesB l v = true) : anyT v r = true := by rw [← hx]; simp [anyT, h]
structure VerZ (v : Ver) : Prop where
  n : v.pre.length ≤ 1048577
  z : ∀ x ∈ v.pre, x.size ≤ 1048577
theorem OkC.verZ {c : Cmp} (h : OkC c) : VerZ c.v := ⟨by have := h.n; omega, fun x hx => by have := h.z x hx; omega⟩
set_option maxHeartbeats 4000000 in
theorem R139 (l : List Cmp) (v : Ver) (hl : l.length ≤ 2097160) (hc : ∀ c ∈ l, VerZ c.v) (hv : VerZ v) : Ret Tryz.prog 139 [.ro (rows Cmp.ty.cs l) l.length, .agg (Ver.ty.cs v)] (.sc (.bool (takesB l v))) [.un, .un] := by
  obtain ⟨F, hF⟩ : ∃ F : List Cmp → Bool, F = preT v := ⟨_, rfl⟩
  have F1 : ∀ pre c, F (pre ++ [c]) = (F pre || (!c.v.pre.isEmpty && coreV c.v v)) := fun pre c => by rw [hF]; exact preT_snoc v pre c
  have F0 : F [] = v.pre.isEmpty := by rw [hF]; simp [preT]
  unfold takesB
  rw [← hF]
  have hRC : ∀ c ∈ l, Ret Tryz.prog 173 [.agg (Cmp.ty.cs c), .agg (Ver.ty.cs v)] (.sc (.bool (cmpB c v))) [.un, .un] := fun c h => R173 c v hv.n (hc c h).n hv.z (hc c h).z
  have hn := @allT_not v
  have hs := allT_snoc v
  have h0 : allT v [] = true := rfl
  generalize allT v = A at *
  have hcb : ∃ B : Cmp → Bool, B = fun c => cmpB c v := ⟨_, rfl⟩
  obtain ⟨B, hB⟩ := hcb
  have hb : ∀ c, cmpB c v = B c := fun c => by rw [hB]
  simp only [hb] at hRC hn hs
  clear hb hB hF hc hv
  obtain ⟨wa, wb, wc, wp⟩ := v
  simp only [Ver.cse] at hRC
  rw [Ver.cse]
  have e0 : ((wp.length : Int) == 0) = wp.isEmpty := by cases wp <;> simp; omega
  simp only at *
  refine Ret.go Tryz.func139 ?_
  simp (disch := omega) [e0]
  refine T.forL l (fun pre _ => A pre = true) (fun pre _ => [(0, .ro (rows Cmp.ty.cs l) l.length), (3, .ref 3 0), (5, .sc (.bool (F pre))), (12, .ro (rows Cmp.ty.cs l) l.length), (13, .sc (.int .i64 l.length)), (14, .sc (.int .i64 pre.length))]) (fun _ _ => [(3, [.sc (.int .i64 wa), .sc (.int .i64 wb), .sc (.int .i64 wc), .ro (rows Ty.str.cs wp) wp.length])]) ⟨h0, by simp [F0, mens, menQ, idfree, e0]⟩ ?_ ?_
  · intro hJ
    rw [hJ]
    simp (disch := omega) []
    refine T.on 400 ?_
    simp (disch := omega) []
  · intro pre c rest hx hl2 hJ
    have rC := hRC c (by rw [← hx]; simp)
    have hd : List.drop (pre.length * 5) (rows Cmp.ty.cs l) = .sc (.int .i64 c.op) :: .sc (.int .i64 c.v.a) :: .sc (.int .i64 c.v.b) :: .sc (.int .i64 c.v.c) :: .ro (rows Ty.str.cs c.v.pre) c.v.pre.length :: rows Cmp.ty.cs rest := by
      have := rows_drop Cmp.ty.csn pre (c :: rest)
      rw [hx, rows_cons, Cmp.cse] at this
      exact this
    have f1 := F1 pre c
    rw [Cmp.cse] at rC
    cases hb : B c
    · rw [hn hx hb]
      simp (disch := omega) [hd]
      refine cX 900 rC ?_
      simp (disch := omega) [hb]
    · have hs2 := hs pre c
      rw [hJ, hb] at hs2
      rw [hb] at rC
      simp (disch := omega) [hd]
      refine cX 900 rC ?_
      unfold coreV at f1
      cases hf : F pre
      · rw [hf] at f1
        cases hp : c.v.pre with
        | nil => 
          rw [hp] at f1
          simp (disch := omega) [hf, hp, f1, hs2, mens, menQ, idfree]
        | cons p q =>
          rw [hp] at f1
          have z1 : (0 : Int) < (q.length : Int) + 1 := by omega
          by_cases k1 : c.v.a = wa
          · by_cases k2 : c.v.b = wb
            · by_cases k3 : c.v.c = wc
              · simp (disch := omega) [hf, hp, f1, hs2, z1, k1, k2, k3, mens, menQ, idfree]
              · simp (disch := omega) [hf, hp, f1, hs2, z1, k1, k2, k3, mens, menQ, idfree]
            · simp (disch := omega) [hf, hp, f1, hs2, z1, k1, k2, mens, menQ, idfree]
          · simp (disch := omega) [hf, hp, f1, hs2, z1, k1, mens, menQ, idfree]
      · rw [hf] at f1
        simp (disch := omega) [hf, f1, hs2, mens, menQ, idfree]
set_option maxRecDepth 100000
theorem Range.cse (l : List Cmp) : Cmp.ty.slice.cs l = [.ro (rows Cmp.ty.cs l) l.length] := rfl
theorem Range.drop {r pre rest : List (List Cmp)} {l : List Cmp} (hx : pre ++ l :: rest = r) : List.drop pre.length (rows Cmp.ty.slice.cs r) = .ro (rows Cmp.ty.cs l) l.length :: rows Cmp.ty.slice.cs rest := by
  have := rows_drop Cmp.ty.slice.csn pre (l :: rest)
  rw [hx, rows_cons, Range.cse, show pre.length * Cmp.ty.slice.n = pre.length from Nat.mul_one _] at this
  exact this
structure RangeZ (r : List (List Cmp)) : Prop where
  n : r.length ≤ 1048577
  z : ∀ l ∈ r, l.length ≤ 2097160 ∧ ∀ c ∈ l, VerZ c.v
set_option maxHeartbeats 2000000 in
theorem R102 (r : List (List Cmp)) (v : Ver) (hr : RangeZ r) (hv : VerZ v) : Ret Tryz.prog 102 [.ro (rows Cmp.ty.slice.cs r) r.length, .agg (Ver.ty.cs v)] (.sc (.bool (rangeB r v))) [.un, .un] := by
  have hrn := hr.n
  have rV := R61 v hv.n hv.z
  have hT : ∀ l ∈ r, Ret Tryz.prog 139 [.ro (rows Cmp.ty.cs l) l.length, .agg (Ver.ty.cs v)] (.sc (.bool (takesB l v))) [.un, .un] := fun l h => R139 l v (hr.z l h).1 (hr.z l h).2 hv
  have e : rangeB r v = (verB v && anyT v r) := rfl
  have hs := anyT_snoc v
  have hy := @anyT_yes v
  have h0 : anyT v [] = false := rfl
  rw [e]
  generalize anyT v = A at *
  obtain ⟨B, hB⟩ : ∃ B : List Cmp → Bool, B = fun l => takesB l v := ⟨_, rfl⟩
  have hb : ∀ l, takesB l v = B l := fun l => by rw [hB]
  simp only [hb] at hT hs hy
  clear hb hB hr hv e
  generalize verB v = ok at *
  obtain ⟨wa, wb, wc, wp⟩ := v
  simp only [Ver.cse] at hT rV
  rw [Ver.cse]
  simp only at *
  cases ok
  · refine Ret.go Tryz.func102 ?_
    simp (disch := omega) []
    refine cX 900 rV ?_
    simp (disch := omega) []
  · refine Ret.go Tryz.func102 ?_
    simp (disch := omega) []
    refine cX 900 rV ?_
    simp (disch := omega) []
    refine T.forL r (fun pre _ => A pre = false) (fun pre _ => [(3, .ref 3 0), (10, .ro (rows Cmp.ty.slice.cs r) r.length), (11, .sc (.int .i64 r.length)), (12, .sc (.int .i64 pre.length))]) (fun _ _ => [(3, [.sc (.int .i64 wa), .sc (.int .i64 wb), .sc (.int .i64 wc), .ro (rows Ty.str.cs wp) wp.length])]) ⟨h0, by simp [mens, menQ, idfree]⟩ ?_ ?_
    · intro hJ
      rw [hJ]
      simp (disch := omega) []
      refine T.on 400 ?_
      simp (disch := omega) []
    · intro pre l rest hx hl2 hJ
      have rT := hT l (by rw [← hx]; simp)
      have hd := Range.drop hx
      have hs2 := hs pre l
      rw [hJ] at hs2
      simp (disch := omega) [hd]
      refine cX 900 rT ?_
      cases hb : B l
      · rw [hb] at hs2
        simp (disch := omega) [hb, hs2, mens, menQ, idfree]
      · rw [hy hx hb]
        simp (disch := omega) [hb]
set_option maxHeartbeats 4000000 in
theorem R117 (r : List (List Cmp)) (v : Ver) (hr : RangeZ r) (hv : VerZ v) : Ret Tryz.prog 117 [.ro (rows Cmp.ty.slice.cs r) r.length, .agg (Ver.ty.cs v)] (.sc (.bool (rangeB r v))) [.un, .un] := by
  have hrn := hr.n
  have rV := R76 v hv.n hv.z
  have hT : ∀ l ∈ r, l.length ≤ 2097160 ∧ ∀ c ∈ l, Ret Tryz.prog 151 [.agg (Cmp.ty.cs c), .agg (Ver.ty.cs v)] (.sc (.bool (cmpB c v))) [.un, .un] ∧ Ret Tryz.prog 132 [.agg (Ver.ty.cs c.v), .agg (Ver.ty.cs v)] (.sc (.bool (coreV c.v v))) [.un, .un] :=
    fun l h => ⟨(hr.z l h).1, fun c hc => ⟨R151 c v hv.n ((hr.z l h).2 c hc).n hv.z ((hr.z l h).2 c hc).z, R132 c.v v⟩⟩
  have e : rangeB r v = (verB v && anyT v r) := rfl
  have hs := anyT_snoc v
  have hy := @anyT_yes v
  have h0 : anyT v [] = false := rfl
  rw [e]
  obtain ⟨D, hD⟩ : ∃ D : List Cmp → Bool, D = allT v := ⟨_, rfl⟩
  obtain ⟨F, hF⟩ : ∃ F : List Cmp → Bool, F = preT v := ⟨_, rfl⟩
  have ht : ∀ l, takesB l v = (D l && F l) := fun l => by rw [hD, hF]; rfl
  have D1 : ∀ pre c, D (pre ++ [c]) = (D pre && cmpB c v) := fun pre c => by rw [hD]; exact allT_snoc v pre c
  have F1 : ∀ pre c, F (pre ++ [c]) = (F pre || (!c.v.pre.isEmpty && coreV c.v v)) := fun pre c => by rw [hF]; exact preT_snoc v pre c
  have F0 : F [] = v.pre.isEmpty := by rw [hF]; simp [preT]
  have D0 : D [] = true := by rw [hD]; rfl
  simp only [ht] at hs hy
  clear hD hF ht e
  generalize anyT v = A at *
  obtain ⟨B, hB⟩ : ∃ B : Cmp → Bool, B = fun c => cmpB c v := ⟨_, rfl⟩
  have hb : ∀ c, cmpB c v = B c := fun c => by rw [hB]
  obtain ⟨S, hS⟩ : ∃ S : Cmp → Bool, S = fun c => coreV c.v v := ⟨_, rfl⟩
  have hs3 : ∀ c : Cmp, coreV c.v v = S c := fun c => by rw [hS]
  simp only [hb, hs3] at hT D1 F1
  clear hb hB hr hv hS hs3
  generalize verB v = ok at *
  obtain ⟨wa, wb, wc, wp⟩ := v
  simp only [Ver.cse] at hT rV
  rw [Ver.cse]
  have e0 : ((wp.length : Int) == 0) = wp.isEmpty := by cases wp <;> simp; omega
  simp only at *
  refine Ret.go Tryz.func117 ?_
  simp (disch := omega) []
  refine T.forL r (fun pre _ => (ok && A pre) = false) (fun pre _ => [(0, .ro (rows Cmp.ty.slice.cs r) r.length), (3, .ref 3 0), (5, .sc (.int .i64 pre.length))]) (fun _ _ => [(3, [.sc (.int .i64 wa), .sc (.int .i64 wb), .sc (.int .i64 wc), .ro (rows Ty.str.cs wp) wp.length])]) ⟨by rw [h0, Bool.and_false], by simp [mens, menQ, idfree]⟩ ?_ ?_
  · intro hJ
    rw [hJ]
    simp (disch := omega) []
    refine T.on 400 ?_
    simp (disch := omega) []
  · intro pre l rest hx hl2 hJ
    obtain ⟨ll, hc⟩ := hT l (by rw [← hx]; simp)
    have hd := Range.drop hx
    have hs2 := hs pre l
    have hyx := hy hx
    simp (disch := omega) [hd]
    refine cX 900 rV ?_
    simp (disch := omega) [e0]
    refine T.forL l (fun _ _ => True) (fun p _ => [(0, .ro (rows Cmp.ty.slice.cs r) r.length), (3, .ref 3 0), (5, .sc (.int .i64 pre.length)), (6, .sc (.bool (ok && D p))), (7, .sc (.bool (F p))), (8, .sc (.int .i64 p.length))]) (fun _ _ => [(3, [.sc (.int .i64 wa), .sc (.int .i64 wb), .sc (.int .i64 wc), .ro (rows Ty.str.cs wp) wp.length])]) ⟨trivial, by simp [F0, D0, mens, menQ, idfree, e0]⟩ ?_ ?_
    · intro _
      simp (disch := omega) [hd]
      refine T.on 400 ?_
      cases h1 : (ok && D l)
      · have h3 : (ok && A (pre ++ [l])) = false := by
          rw [hs2, Bool.and_or_distrib_left, hJ, Bool.false_or, ← Bool.and_assoc, h1]; rfl
        simp (disch := omega) [h1, h3, mens, menQ, idfree]
        exact fun hk => by rw [hk, Bool.true_and] at h3; exact h3
      · cases h2 : F l
        · have h3 : (ok && A (pre ++ [l])) = false := by
            rw [hs2, Bool.and_or_distrib_left, hJ, Bool.false_or, ← Bool.and_assoc, h1, h2]; rfl
          simp (disch := omega) [h1, h2, h3, mens, menQ, idfree]
          exact fun hk => by rw [hk, Bool.true_and] at h3; exact h3
        · have h4 : (ok && A r) = true := by
            rw [Bool.and_eq_true] at h1
            rw [h1.1, hyx (by rw [h1.2, h2]; rfl)]; rfl
          rw [h4]
          simp (disch := omega) [h1, h2, mens, menQ, idfree]
    · intro p c rest2 hx2 hl3 _
      obtain ⟨rC, rS⟩ := hc c (by rw [← hx2]; simp)
      have d1 := D1 p c
      have f1 := F1 p c
      have hd2 : List.drop (p.length * 5) (rows Cmp.ty.cs l) = .sc (.int .i64 c.op) :: .sc (.int .i64 c.v.a) :: .sc (.int .i64 c.v.b) :: .sc (.int .i64 c.v.c) :: .ro (rows Ty.str.cs c.v.pre) c.v.pre.length :: rows Cmp.ty.cs rest2 := by
        have := rows_drop Cmp.ty.csn p (c :: rest2)
        rw [hx2, rows_cons, Cmp.cse] at this
        exact this
      have hd3 : List.drop (p.length * 5 + 1) (rows Cmp.ty.cs l) = .sc (.int .i64 c.v.a) :: .sc (.int .i64 c.v.b) :: .sc (.int .i64 c.v.c) :: .ro (rows Ty.str.cs c.v.pre) c.v.pre.length :: rows Cmp.ty.cs rest2 := by rw [← List.drop_drop, hd2]; rfl
      have hd4 : List.drop (p.length * 5 + 4) (rows Cmp.ty.cs l) = .ro (rows Ty.str.cs c.v.pre) c.v.pre.length :: rows Cmp.ty.cs rest2 := by rw [← List.drop_drop, hd2]; rfl
      rw [Cmp.cse] at rC
      cases h1 : (ok && D p)
      · have h3 : (ok && D (p ++ [c])) = false := by rw [d1, ← Bool.and_assoc, h1]; rfl
        simp (disch := omega) [hd, hd2]
        refine T.textE [] ?_ mixed
        simp (disch := omega) [h1, hd, hd2, merge_nil, hideH_nil]
        cases hf : F p
        · rw [hf, Bool.false_or] at f1
          cases hp : c.v.pre with
          | nil =>
            rw [hp] at f1
            simp only [List.isEmpty_nil, Bool.not_true, Bool.false_and] at f1
            refine T.textE [] ?_ mixed
            simp (disch := omega) [h1, hf, hd, hd2, hd3, hd4, hp, f1, h3, merge_nil, hideH_nil, mens, menQ, idfree]
          | cons x q =>
            have z1 : (0 : Int) < (q.length : Int) + 1 := by omega
            rw [hp] at f1
            simp only [List.isEmpty_cons, Bool.not_false, Bool.true_and] at f1
            rw [hp] at rS
            refine T.textE [] ?_ mixed
            simp (disch := omega) [h1, hf, hd, hd2, hd3, hd4, hp, z1, merge_nil, hideH_nil]
            refine cWX 900 rS ?_
            simp (disch := omega) [h1, f1, h3, merge_nil, hideH_nil, mens, menQ, idfree]
        · rw [hf, Bool.true_or] at f1
          refine T.textE [] ?_ mixed
          simp (disch := omega) [h1, hf, hd, hd2, f1, h3, merge_nil, hideH_nil, mens, menQ, idfree]
      · have h3 : (ok && D (p ++ [c])) = B c := by rw [d1, ← Bool.and_assoc, h1]; rfl
        simp (disch := omega) [hd, hd2]
        refine T.textE [] ?_ mixed
        simp (disch := omega) [h1, hd, hd2, merge_nil, hideH_nil]
        refine cWX 900 rC ?_
        simp (disch := omega) [h1, hd, hd2, merge_nil, hideH_nil]
        cases hf : F p
        · rw [hf, Bool.false_or] at f1
          cases hp : c.v.pre with
          | nil =>
            rw [hp] at f1
            simp only [List.isEmpty_nil, Bool.not_true, Bool.false_and] at f1
            refine T.textE [] ?_ mixed
            simp (disch := omega) [h1, hf, hd, hd2, hd3, hd4, hp, f1, h3, merge_nil, hideH_nil, mens, menQ, idfree]
          | cons x q =>
            have z1 : (0 : Int) < (q.length : Int) + 1 := by omega
            rw [hp] at f1
            simp only [List.isEmpty_cons, Bool.not_false, Bool.true_and] at f1
            rw [hp] at rS
            refine T.textE [] ?_ mixed
            simp (disch := omega) [h1, hf, hd, hd2, hd3, hd4, hp, z1, merge_nil, hideH_nil]
            refine cWX 900 rS ?_
            simp (disch := omega) [h1, f1, h3, merge_nil, hideH_nil, mens, menQ, idfree]
        · rw [hf, Bool.true_or] at f1
          refine T.textE [] ?_ mixed
          simp (disch := omega) [h1, hf, hd, hd2, f1, h3, merge_nil, hideH_nil, mens, menQ, idfree]
set_option maxRecDepth 100000
def barP (L : List UInt8) : Nat → Nat → List UInt8 → List ByteArray
  | f, i, a :: b :: l => if a = 124 ∧ b = 124 then bs ((L.take i).drop f) :: barP L (i + 2) (i + 2) l else barP L f (i + 1) (b :: l)
  | f, _, _ => [bs (L.drop f)]
def sidesP (t : ByteArray) : List ByteArray := barP t.data.toList 0 0 t.data.toList
theorem barP_len (L : List UInt8) : ∀ (l : List UInt8) (f i : Nat), (barP L f i l).length ≤ l.length + 1
  | [], _, _ => by simp [barP]
  | [_], _, _ => by simp [barP]
  | a :: b :: l, f, i => by
    rw [barP]
    split
    · have := barP_len L l (i + 2) (i + 2)
      simp only [List.length_cons]; omega
    · have := barP_len L (b :: l) f (i + 1)
      simp only [List.length_cons] at this ⊢; omega
theorem barP_size (L : List UInt8) : ∀ (l : List UInt8) (f i : Nat), ∀ x ∈ barP L f i l, x.size ≤ L.length
  | [], f, _, x, hx => by simp [barP] at hx; subst hx; rw [bs_size, List.length_drop]; omega
  | [_], f, _, x, hx => by simp [barP] at hx; subst hx; rw [bs_size, List.length_drop]; omega
  | a :: b :: l, f, i, x, hx => by
    rw [barP] at hx
    split at hx
    · rcases List.mem_cons.1 hx with rfl | hx
      · rw [bs_size, List.length_drop, List.length_take]; omega
      · exact barP_size L l _ _ x hx
    · exact barP_size L (b :: l) _ _ x hx
set_option maxHeartbeats 2000000 in
theorem R146 (t : ByteArray) (ht : t.size ≤ 1048576) : Ret Tryz.prog 146 [.sc (.string t)] (.ro (rows Ty.str.cs (sidesP t)) (sidesP t).length) [.un] := by
  refine Ret.cool (ret := .own (rows Ty.str.oc (sidesP t)) (sidesP t).length 1) ?_ (cool_own (strShut _))
  obtain ⟨L, rfl⟩ : ∃ L, t = bs L := ⟨t.data.toList, rfl⟩
  unfold sidesP
  rw [bs_list]
  rw [bs_size] at ht
  generalize hT : barP L 0 0 L = tg
  refine Ret.go Tryz.func146 ?_
  simp (disch := omega) []
  refine T.forI (ι := List ByteArray × Nat × Nat × List UInt8) (fun i => i.2.2.2.length) (fun i => L.drop i.2.2.1 = i.2.2.2 ∧ i.2.1 ≤ i.2.2.1 ∧ i.2.2.1 ≤ L.length ∧ i.1.length ≤ i.2.2.1 ∧ i.1 ++ barP L i.2.1 i.2.2.1 i.2.2.2 = tg) (fun i => [(0, .sc (.string (bs L))), (3, .sl 6 0 i.1.length 1 false), (4, .sc (.int .i64 i.2.1)), (5, .sc (.int .i64 i.2.2.1))]) (fun i => [(6, rows Ty.str.oc i.1)]) ([], 0, 0, L) ⟨⟨rfl, Nat.le_refl _, Nat.zero_le _, Nat.le_refl _, hT⟩, Tl.same rfl (by simp) (by simp [rows_nil])⟩ ?_
  rintro ⟨done, f, i, l⟩ ⟨h1, h2, h3, h4, h5⟩
  simp only at h1 h2 h3 h4 h5 ⊢
  have hlen := congrArg List.length h1
  rw [List.length_drop] at hlen
  have hrl := rowsS_len done
  have hfr := rowsS_fr done
  have w1 : IntKind.i64.wrap ((i : Int) + 1) = i + 1 := wrap_i64 (by omega) (by omega)
  have w2 : IntKind.i64.wrap ((i : Int) + 2) = i + 2 := wrap_i64 (by omega) (by omega)
  have w3 : IntKind.i64.wrap ((i : Int) + 1 + 1) = i + 2 := by rw [show (i : Int) + 1 + 1 = i + 2 by omega]; exact w2
  have hfi := rowsS_fr (done ++ [bs ((L.take i).drop f)])
  rw [rowsS_snoc] at hfi
  have last : l.length < 2 → barP L f i l = [bs (L.drop f)] := fun h => by
    match l, h with
    | [], _ => rfl
    | [_], _ => rfl
  by_cases hl : l.length < 2
  · have n1 : ¬ ((i : Int) + 1 < L.length) := by omega
    rw [last hl] at h5
    have hfi2 := rowsS_fr (done ++ [bs (L.drop f)])
    rw [rowsS_snoc] at hfi2
    have hfL : f ≤ L.length := by omega
    rw [← h5, rowsS_snoc]
    simp (disch := omega) [w1, n1]
    refine T.on 400 ?_
    simp (disch := omega) [over, bs_extract, hrl, ex1, hfi2, hfL]
  · match l, hl with
    | [], h => simp at h
    | [_], h => simp at h
    | a :: b :: l, _ =>
      simp only [List.length_cons] at hlen
      have n1 : (i : Int) + 1 < L.length := by omega
      have ga : L[i]? = some a := by
        have := congrArg List.head? h1
        rwa [List.head?_drop] at this
      have gb : L[i + 1]? = some b := by
        have := congrArg (fun x : List UInt8 => x[1]?) h1
        simpa [List.getElem?_drop] using this
      have ga2 : L[i]'(by omega) = a := (List.getElem?_eq_some_iff.1 ga).2
      have gb2 : L[i + 1]'(by omega) = b := (List.getElem?_eq_some_iff.1 gb).2
      have d1 : L.drop (i + 1) = b :: l := by rw [← List.drop_drop, h1]; rfl
      have d2 : L.drop (i + 2) = l := by rw [← List.drop_drop, h1]; rfl
      rw [barP] at h5
      by_cases ka : a = 124
      · by_cases kb : b = 124
        · rw [if_pos ⟨ka, kb⟩] at h5
          subst ka
          subst kb
          have h6 : (done ++ [bs ((L.take i).drop f)]) ++ barP L (i + 2) (i + 2) l = tg := by rw [← h5]; simp
          simp (disch := omega) [w1, n1, ga2, gb2, w2, w3, over, bs_extract, hrl, h2, h3]
          refine Ri_mk (done ++ [bs ((L.take i).drop f)], i + 2, i + 2, l) (by simp; omega) ⟨d2, Nat.le_refl _, show i + 2 ≤ L.length by omega, show (done ++ [_]).length ≤ i + 2 by rw [List.length_append, List.length_singleton]; omega, h6⟩ (Tl.ren [(31, 6)] rfl (by simp [idfree, rowsS_snoc, hfi]))
        · rw [if_neg (fun h => kb h.2)] at h5
          have kb2 : ¬ ((b.toNat : Int) = 124) := fun e => kb (u8_eq.1 (by simpa using e))
          subst ka
          simp (disch := omega) [w1, n1, ga2, gb2, kb, kb2]
          refine Ri_mk (done, f, i + 1, b :: l) (by simp) ⟨d1, show f ≤ i + 1 by omega, show i + 1 ≤ L.length by omega, show done.length ≤ i + 1 by omega, h5⟩ (Tl.same rfl (by simp) (by simp [mens_idf hfr]))
      · rw [if_neg (fun h => ka h.1)] at h5
        have ka2 : ¬ ((a.toNat : Int) = 124) := fun e => ka (u8_eq.1 (by simpa using e))
        simp (disch := omega) [w1, n1, ga2, gb2, ka, ka2]
        refine Ri_mk (done, f, i + 1, b :: l) (by simp) ⟨d1, show f ≤ i + 1 by omega, show i + 1 ≤ L.length by omega, show done.length ≤ i + 1 by omega, h5⟩ (Tl.same rfl (by simp) (by simp [mens_idf hfr]))
set_option maxRecDepth 100000
def rangeS (a : Option (List (List Cmp))) (t : ByteArray) : Option (List (List Cmp)) :=
  match a with
  | some x => if (listI (wordsB t)).2 = true then some (x ++ [(listI (wordsB t)).1]) else none
  | none => none
def rangeL (ts : List ByteArray) : Option (List (List Cmp)) := ts.foldl rangeS (some [])
theorem rangeL_snoc (pre : List ByteArray) (x : ByteArray) : rangeL (pre ++ [x]) = rangeS (rangeL pre) x := by unfold rangeL; rw [List.foldl_append]; rfl
theorem rangeS_none (ts : List ByteArray) : ts.foldl rangeS none = none := by
  induction ts with
  | nil => rfl
  | cons w ws ih => exact ih
theorem rangeL_none {pre rest : List ByteArray} {x : ByteArray} (h : (listI (wordsB x)).2 = false) : rangeL (pre ++ x :: rest) = none := by
  unfold rangeL
  rw [List.foldl_append, List.foldl_cons]
  have : rangeS (pre.foldl rangeS (some [])) x = none := by unfold rangeS; split <;> simp [h]
  rw [this, rangeS_none]
theorem rangeL_len : ∀ {ts : List ByteArray} {r : List (List Cmp)}, rangeL ts = some r → r.length = ts.length := by
  intro ts
  obtain ⟨n, hn⟩ : ∃ n, n = ts.length := ⟨_, rfl⟩
  induction n generalizing ts with
  | zero =>
    intro r h
    rw [List.length_eq_zero_iff.1 hn.symm] at h ⊢
    cases h
    rfl
  | succ n ih =>
    intro r h
    rcases List.eq_nil_or_concat ts with rfl | ⟨pre, x, rfl⟩
    · simp at hn
    · rw [List.concat_eq_append] at *
      rw [List.length_append, List.length_singleton] at hn
      rw [rangeL_snoc] at h
      unfold rangeS at h
      split at h
      · rename_i y hy
        split at h
        · cases h
          rw [List.length_append, List.length_append, ih (by omega) hy]
          rfl
        · cases h
      · cases h
def rangeO (t : ByteArray) : Option (List (List Cmp)) := if (sidesP t).length ≤ 4 then rangeL (sidesP t) else none
def rangeX (o : Option (List (List Cmp))) : AV := .tup [.own (rows Cmp.ty.slice.cs (o.getD [])) (o.getD []).length 1, .sc (.bool o.isSome)]
def rangeA (o : Option (List (List Cmp))) : AV := .tup [.ro (rows Cmp.ty.slice.cs (o.getD [])) (o.getD []).length, .sc (.bool o.isSome)]
theorem rngShut (l : List (List Cmp)) : shut.shutL (rows Cmp.ty.slice.cs l) = true := shutL_rows Cmp.ty.slice.sh l
theorem rngIdf (l : List (List Cmp)) : idfree.idfreeL (rows Cmp.ty.slice.cs l) = true := shutL_idfree _ (rngShut l)
theorem rngLen (l : List (List Cmp)) : (rows Cmp.ty.slice.cs l).length = l.length := by rw [rows_length Cmp.ty.slice.csn]; exact Nat.mul_one _
theorem cool_range (o : Option (List (List Cmp))) : coolT (rangeX o) = some (rangeA o) := by
  unfold rangeX rangeA coolT
  simp only [List.mapM_cons, List.mapM_nil]
  rw [cool_own (rngShut _)]
  rfl
theorem wordsB_b (t : ByteArray) (ht : t.size ≤ 1048576) : (wordsB t).length ≤ 1048577 ∧ ∀ x ∈ wordsB t, x.size ≤ 1048576 := by
  have hsz : t.size = t.data.toList.length := rfl
  have z1 := trimRB_len 32 t.data.toList
  have z2 := trimLB_len 32 (trimRB 32 t.data.toList)
  have hu : (bs (trimLB 32 (trimRB 32 t.data.toList))).size ≤ 1048576 := by rw [bs_size]; omega
  obtain ⟨b1, b2⟩ : (wordsB t).length ≤ (bs (trimLB 32 (trimRB 32 t.data.toList))).size + 1 ∧ ∀ x ∈ wordsB t, x.size ≤ (bs (trimLB 32 (trimRB 32 t.data.toList))).size := splitS_bounds (bs (trimLB 32 (trimRB 32 t.data.toList))) 32
  exact ⟨by omega, fun x hx => by have := b2 x hx; omega⟩
set_option maxHeartbeats 4000000 in
theorem R116 (t : ByteArray) (ht : t.size ≤ 1048576) : Ret Tryz.prog 116 [.sc (.string t)] (rangeA (rangeO t)) [.un] := by
  refine Ret.cool (ret := rangeX (rangeO t)) ?_ (cool_range _)
  have rS := R146 t (by omega)
  have b1 : (sidesP t).length ≤ t.size + 1 := barP_len _ _ _ _
  have b2 : ∀ x ∈ sidesP t, x.size ≤ t.size := barP_size t.data.toList _ _ _
  unfold rangeO
  generalize sidesP t = ts at *
  obtain ⟨F, hF⟩ : ∃ F : List ByteArray → List (List Cmp), F = fun l => (rangeL l).getD [] := ⟨_, rfl⟩
  have F0 : F [] = [] := by rw [hF]; rfl
  have F1 : ∀ l a, rangeL l = some a → F l = a := fun l a h => by rw [hF]; simp [h]
  have Fi : ∀ l, idfree.idfreeL (rows Cmp.ty.slice.cs (F l)) = true := fun l => rngIdf _
  clear hF
  refine Ret.go Tryz.func116 ?_
  simp (disch := omega) []
  refine cX 900 rS ?_
  simp (disch := omega) []
  refine T.forR ts (fun pre rest => ∃ a, rangeL pre = some a) (fun pre _ => [(4, .sl 9 0 (F pre).length 1 false), (5, .ro (rows Ty.str.cs ts) ts.length), (6, .sc (.int .i64 pre.length))]) (fun pre _ => [(9, rows Cmp.ty.slice.cs (F pre))]) ⟨⟨[], rfl⟩, Tl.same rfl (by simp [F0]) (by simp [F0, rows])⟩ ?_ ?_
  · rintro ⟨acc, hacc⟩
    have hlen := rangeL_len hacc
    rw [hacc, F1 ts acc hacc]
    have hi := rngIdf acc
    have hcl := rngLen acc
    have w0 : IntKind.i64.wrap (acc.length : Int) = acc.length := wrap_i64 (by omega) (by omega)
    by_cases h4 : ts.length ≤ 4
    · have n4 : ¬ ((4 : Int) < acc.length) := by omega
      rw [if_pos h4]
      simp (disch := omega) []
      refine T.on 400 ?_
      simp (disch := omega) [ex1, hi, hcl, rangeX, n4]
    · have n4 : (4 : Int) < acc.length := by omega
      rw [if_neg h4]
      simp (disch := omega) []
      refine T.on 400 ?_
      simp (disch := omega) [ex1, rangeX, n4, rows_nil, idfree.idfreeL]
  · rintro pre x rest hx hl2 ⟨acc, hacc⟩
    have hd : List.drop pre.length (rows Ty.str.cs ts) = .sc (.string x) :: rows Ty.str.cs rest := by rw [rowsC_drop, ← hx, drop_pre, rowsC_cons]
    have hxs : x.size ≤ 1048576 := by have := b2 x (by rw [← hx]; simp); omega
    have rT := R149 x hxs
    obtain ⟨wb1, wb2⟩ := wordsB_b x hxs
    have hsz : x.size = x.data.toList.length := rfl
    have z1 := trimRB_len 32 x.data.toList
    have z2 := trimLB_len 32 (trimRB 32 x.data.toList)
    have z3 : (bs (trimLB 32 (trimRB 32 x.data.toList))).size ≤ 1048576 := by rw [bs_size]; omega
    have rW : Ret Tryz.prog 148 [.sc (.string (bs (trimLB 32 (trimRB 32 x.data.toList)))), .sc (.int .u8 32)] (.ro (rows Ty.str.cs (wordsB x)) (wordsB x).length) [.un, .un] := (R148 (bs (trimLB 32 (trimRB 32 x.data.toList))) 32 z3).cool (cool_own (strShut _))
    have rL := R147 (wordsB x) wb1 wb2
    obtain ⟨j1, j2, j3, j4⟩ := listJ_I (wordsB x)
    have rG := R150 (listJ (wordsB x)).1 (by omega) j4
    have hsn := rangeL_snoc pre x
    rw [hacc] at hsn
    have al := rangeL_len hacc
    have e1 := F1 pre acc hacc
    rw [e1]
    unfold listA at rL
    have bad : (listI (wordsB x)).2 = false → rangeL ts = none := fun h => by rw [← hx]; exact rangeL_none h
    have good : (listI (wordsB x)).2 = true → rangeL (pre ++ [x]) = some (acc ++ [(listI (wordsB x)).1]) := fun h => by rw [hsn]; exact if_pos h
    clear hsn
    generalize bs (trimLB 32 (trimRB 32 x.data.toList)) = u at *
    generalize wordsB x = ws at *
    generalize listI ws = I at *
    generalize listJ ws = J at *
    obtain ⟨I1, I2⟩ := I
    obtain ⟨J1, J2⟩ := J
    simp only at j1 j2 j3 j4 rL rG bad good
    simp (disch := omega) [hd]
    refine cX 900 rT ?_
    simp (disch := omega) []
    refine cX 900 rW ?_
    simp (disch := omega) []
    refine cX 900 rL ?_
    cases J2
    · rw [bad (by rw [j1]; rfl), ite_self]
      simp (disch := omega) [rangeX, rows_nil, ex1, idfree.idfreeL]
    · simp (disch := omega) []
      refine cX 900 rG ?_
      cases hg : okL J1
      · rw [bad (by rw [j1, hg]; rfl), ite_self]
        simp (disch := omega) [rangeX, rows_nil, ex1, idfree.idfreeL]
      · have hI : I2 = true := by rw [j1, hg]; rfl
        have hs2 := good hI
        rw [j2 hI] at hs2
        have e2 := F1 _ _ hs2
        have hr : rows Cmp.ty.slice.cs (F (pre ++ [x])) = rows Cmp.ty.slice.cs acc ++ [.ro (rows Cmp.ty.cs J1) J1.length] := by rw [e2, rows_append]; rfl
        have hL : (F (pre ++ [x])).length = acc.length + 1 := by rw [e2, List.length_append]; rfl
        have hi := Fi (pre ++ [x])
        rw [hr] at hi
        have hal := rngLen acc
        simp (disch := omega) [over, hal, hL]
        exact ⟨⟨_, hs2⟩, Tl.ren [(39, 9)] rfl (by simp [idfree, hr, hi])⟩
set_option maxRecDepth 100000
theorem barP_ix (L : List UInt8) : ∀ (l : List UInt8) (f i : Nat), L.drop i = l →
    (Lib.index l [124, 124] = -1 ∧ barP L f i l = [bs (L.drop f)]) ∨
    ∃ k : Nat, Lib.index l [124, 124] = k ∧ k + 2 ≤ l.length ∧ barP L f i l = bs ((L.take (i + k)).drop f) :: barP L (i + k + 2) (i + k + 2) (l.drop (k + 2))
  | [], f, i, _ => .inl ⟨rfl, by simp [barP]⟩
  | [a], f, i, _ => by
    left
    refine ⟨?_, by simp [barP]⟩
    simp [Lib.index, List.isPrefixOf]
  | a :: b :: l, f, i, h => by
    rw [barP]
    by_cases hab : a = 124 ∧ b = 124
    · right
      obtain ⟨rfl, rfl⟩ := hab
      refine ⟨0, ?_, by simp, by simp⟩
      rw [Lib.index]
      simp [List.isPrefixOf]
    · rw [if_neg hab]
      have hd : L.drop (i + 1) = b :: l := by rw [← List.drop_drop, h]; rfl
      have hix : Lib.index (a :: b :: l) [124, 124] = if Lib.index (b :: l) [124, 124] == -1 then -1 else Lib.index (b :: l) [124, 124] + 1 := by
        rw [Lib.index, if_neg]
        intro h2
        simp only [List.isPrefixOf, Bool.and_eq_true, beq_iff_eq] at h2
        exact hab ⟨h2.1.symm, h2.2.1.symm⟩
      rcases barP_ix L (b :: l) f (i + 1) hd with ⟨h1, h2⟩ | ⟨k, h1, h2, h3⟩
      · left
        exact ⟨by rw [hix, h1]; rfl, h2⟩
      · right
        refine ⟨k + 1, ?_, by simp only [List.length_cons] at h2 ⊢; omega, ?_⟩
        · rw [hix, h1]
          have : ((k : Int) == -1) = false := by simp
          rw [this]
          simp
        · rw [h3]
          simp only [List.drop_succ_cons, show i + 1 + k = i + (k + 1) by omega]
theorem barP_cnt (L : List UInt8) : ∀ (n : Nat) (l : List UInt8) (f i : Nat), l.length ≤ n → L.drop i = l → (barP L f i l).length = Lib.count l [124, 124] + 1 := by
  intro n
  induction n with
  | zero =>
    intro l f i hl h
    rw [List.length_eq_zero_iff.1 (Nat.le_zero.1 hl)]
    simp [barP, Lib.count, Lib.countFrom, Lib.index]
  | succ n ih =>
    intro l f i hl h
    rcases barP_ix L l f i h with ⟨h1, h2⟩ | ⟨k, h1, h2, h3⟩
    · rw [h2, Lib.count_miss h1]; rfl
    · rw [h3, Lib.count_hit (by simp) h1, List.length_cons, ih (l.drop (k + 2)) (i + k + 2) (i + k + 2) (by rw [List.length_drop]; omega) (by rw [← h, List.drop_drop]; congr 1)]
      simp
      omega
set_option maxRecDepth 100000
theorem R1582 (L : List UInt8) (hs : L.length ≤ 1048576) : Ret Tryz.prog 158 [.sc (.string (bs L)), .sc (.string (bs [124, 124]))] (.sc (.int .i64 (Lib.count L [124, 124]))) [.un, .un] :=
  Ret.twoOfM rfl rfl rfl fun w h => by
    obtain ⟨m, hm⟩ := h 0 (by unfold ints; exact List.mem_singleton.2 rfl)
    exact Any.strings_Count Tryz.lays138 (bs L) (bs [124, 124]) m w (by rw [bs_size]; omega) hm (by decide)
theorem R1592 (L : List UInt8) (hs : L.length ≤ 1048576) : Ret Tryz.prog 159 [.sc (.string (bs L)), .sc (.string (bs [124, 124]))] (.sc (.int .i64 (Lib.index L [124, 124]))) [.un, .un] :=
  Ret.twoOfM rfl rfl rfl fun w h => by
    obtain ⟨m, hm⟩ := h 0 (by unfold ints; exact List.mem_singleton.2 rfl)
    exact Any.strings_Index Tryz.lays143 (bs L) (bs [124, 124]) m w (by rw [bs_size]; omega) hm
set_option maxHeartbeats 4000000 in
theorem R1342 (L : List UInt8) (hs : L.length ≤ 1048576) : Ret Tryz.prog 134 [.sc (.string (bs L)), .sc (.string (bs [124, 124])), .sc (.int .i64 0), .sc (.int .i64 (-1))] (.own (rows Ty.str.oc (barP L 0 0 L)) (barP L 0 0 L).length 1) [.un, .un, .un, .un] := by
  have hC := R1582 L hs
  have hI := fun f : Nat => R1592 (L.drop f) (by rw [List.length_drop]; omega)
  have hlen := barP_cnt L L.length L 0 0 (Nat.le_refl _) rfl
  have hle := barP_len L L 0 0
  have hbx := barP_ix L
  generalize Lib.count L [124, 124] = N at *
  generalize hT : barP L 0 0 L = tg at *
  have hne : ¬ ((bs [124, 124]).toList = []) := by rw [Lib.toList_data]; simp
  have hsz : (bs [124, 124]).size = 2 := rfl
  have w1 : IntKind.i64.wrap ((N : Int) + 1) = N + 1 := wrap_i64 (by omega) (by omega)
  have w2 : IntKind.i64.wrap ((L.length : Int) + 1) = L.length + 1 := wrap_i64 (by omega) (by omega)
  have w3 : IntKind.i64.wrap ((N : Int) + 1 - 1) = N := by rw [show (N : Int) + 1 - 1 = N by omega]; exact wrap_i64 (by omega) (by omega)
  have hmin : min ((N : Int) + 1) (L.length + 1) = N + 1 := by omega
  have n5 : ((N : Int) + 1).toNat = N + 1 := by omega
  refine Ret.go Tryz.func134 ?_
  simp (disch := omega) [hne]
  refine cX 900 hC ?_
  simp (disch := omega) [w1, w2, w3, hmin, n5]
  have hfr : ∀ l : List ByteArray, idfree.idfreeL (rows Ty.str.oc l) = true := rowsS_fr
  refine T.forI (ι := List ByteArray × Nat) (fun i => L.length + 1 - i.2) (fun i => i.2 ≤ L.length ∧ i.1.length ≤ N ∧ i.1 ++ barP L i.2 i.2 (L.drop i.2) = tg) (fun i => [(0, .sc (.string (bs (L.drop i.2)))), (1, .sc (.string (bs [124, 124]))), (2, .sc (.int .i64 0)), (3, .sc (.int .i64 N)), (9, .sl 31 0 (N + 1) 1 false), (10, .sc (.int .i64 i.1.length))])
    (fun i => [(31, rows Ty.str.oc (i.1 ++ List.replicate (N + 1 - i.1.length) (bs [])))]) ([], 0) ⟨⟨Nat.zero_le _, Nat.zero_le _, hT⟩, Tl.same rfl (by simp) (by simp [rows_repl, mens, menQ, idfree])⟩ ?_
  rintro ⟨done, f⟩ ⟨h1, h2, h3⟩
  simp only at h1 h2 h3 ⊢
  have hn2 := congrArg List.length h3
  rw [List.length_append, hlen] at hn2
  have hov := fun (x : ByteArray) => over_str done (N - done.length) x
  rw [show N - done.length + 1 = N + 1 - done.length by omega, show N - done.length = N + 1 - (done.length + 1) by omega] at hov
  have hrl : (rows Ty.str.oc (done ++ List.replicate (N + 1 - done.length) (bs []))).length = N + 1 := by rw [rowsS_len]; simp; omega
  obtain ⟨R, hR⟩ : ∃ R, R = rows Ty.str.oc (done ++ List.replicate (N + 1 - done.length) (bs [])) := ⟨_, rfl⟩
  have hRf : idfree.idfreeL R = true := by rw [hR]; exact hfr _
  have hov : ∀ x : ByteArray, R.set done.length (.sc (.string x)) = rows Ty.str.oc ((done ++ [x]) ++ List.replicate (N + 1 - (done.length + 1)) (bs [])) := fun x => by rw [hR]; exact hov x
  rw [← hR] at hrl ⊢
  have hIf := hI f
  have wd : IntKind.i64.wrap ((done.length : Int) + 1) = done.length + 1 := wrap_i64 (by omega) (by omega)
  rcases hbx (L.drop f) f f rfl with ⟨i1, i2⟩ | ⟨k, i1, i2, i3⟩
  · have hd : done.length = N := by rw [i2] at hn2; simp at hn2; omega
    rw [i2] at h3
    have n1 : ¬ ((done.length : Int) < N) := by omega
    have hx := hov (bs (L.drop f))
    rw [show N + 1 - (done.length + 1) = 0 by omega, List.replicate_zero, List.append_nil, h3] at hx
    rw [hd] at hx
    have hi := hfr tg
    have htl := rowsS_len tg
    simp (disch := omega) [n1]
    refine T.on 400 ?_
    simp (disch := omega) [hrl, hx, wd, ex1, hi, htl, hlen, hd]
  · have hpos : 1 ≤ (barP L (f + k + 2) (f + k + 2) ((L.drop f).drop (k + 2))).length := by
      rw [barP_cnt L _ _ _ _ (Nat.le_refl _) (by rw [List.drop_drop]; congr 1)]
      omega
    have hd : done.length < N := by
      rw [i3, List.length_cons] at hn2
      omega
    have n1 : (done.length : Int) < N := by omega
    have n2 : ¬ ((k : Int) < 0) := by omega
    rw [List.length_drop] at i2
    have e1 : (L.take (f + k)).drop f = (L.drop f).take k := by rw [List.drop_take]; congr 1; omega
    have e2 : (L.drop f).drop (k + 2) = L.drop (f + k + 2) := by rw [List.drop_drop]; congr 1
    rw [i3, e1, e2] at h3
    have h4 : (done ++ [bs ((L.drop f).take k)]) ++ barP L (f + k + 2) (f + k + 2) (L.drop (f + k + 2)) = tg := by rw [← h3]; simp
    have hx := hov (bs ((L.drop f).take k))
    have hi := hfr ((done ++ [bs ((L.drop f).take k)]) ++ List.replicate (N + 1 - (done.length + 1)) (bs []))
    rw [i1] at hIf
    have wk : IntKind.i64.wrap (k : Int) = k := wrap_i64 (by omega) (by omega)
    have wk2 : IntKind.i64.wrap ((k : Int) + 2) = k + 2 := wrap_i64 (by omega) (by omega)
    have b1 : (k : Int) ≤ (L.length - f : Nat) := by omega
    have b2 : (k : Int) + 2 ≤ (L.length - f : Nat) := by omega
    simp (disch := omega) [n1]
    refine cX 900 hIf ?_
    simp (disch := omega) [n2, wk, wk2, wd, bs_extract, hsz, hrl, hx, b1, b2, hd]
    have tk : ((L.drop f).take (L.length - f)).drop (k + 2) = L.drop (f + k + 2) := by rw [List.take_of_length_le (by rw [List.length_drop]; omega), e2]
    have kf : f + k + 2 = f + (k + 2) := by omega
    refine Ri_mk (done ++ [bs ((L.drop f).take k)], f + k + 2) (show L.length + 1 - (f + k + 2) < L.length + 1 - f by omega) ⟨show f + k + 2 ≤ L.length by omega, show (done ++ [_]).length ≤ N by rw [List.length_append, List.length_singleton]; omega, h4⟩ (Tl.same rfl ?_ ?_)
    · simp [kf]
      rw [show ((k : Int) + 2).toNat = k + 2 by omega, tk, kf]
    · simp
      exact mens_idf (hfr _)
theorem R982 (t : ByteArray) (hs : t.size ≤ 1048576) : Ret Tryz.prog 98 [.sc (.string t), .sc (.string (bs [124, 124]))] (.ro (rows Ty.str.cs (sidesP t)) (sidesP t).length) [.un, .un] := by
  refine Ret.cool (ret := .own (rows Ty.str.oc (sidesP t)) (sidesP t).length 1) ?_ (cool_own (strShut _))
  obtain ⟨L, rfl⟩ : ∃ L, t = bs L := ⟨t.data.toList, rfl⟩
  rw [bs_size] at hs
  have rG := R1342 L hs
  unfold sidesP
  rw [bs_list]
  have hl := rowsS_len (barP L 0 0 L)
  have hi := rowsS_fr (barP L 0 0 L)
  refine Ret.go Tryz.func98 ?_
  simp (disch := omega) []
  refine cX 900 rG ?_
  simp (disch := omega) [ex1, hl, hi]
set_option maxRecDepth 100000
set_option maxHeartbeats 4000000 in
theorem R64 (t : ByteArray) (ht : t.size ≤ 1048576) : Ret Tryz.prog 64 [.sc (.string t)] (rangeA (rangeO t)) [.un] := by
  refine Ret.cool (ret := rangeX (rangeO t)) ?_ (cool_range _)
  have rS := R982 t (by omega)
  have b1 : (sidesP t).length ≤ t.size + 1 := barP_len _ _ _ _
  have b2 : ∀ x ∈ sidesP t, x.size ≤ t.size := barP_size t.data.toList _ _ _
  unfold rangeO
  generalize sidesP t = ts at *
  by_cases h4 : ts.length ≤ 4
  case neg =>
    rw [if_neg h4]
    have n4 : (4 : Int) < ts.length := by omega
    refine Ret.go Tryz.func64 ?_
    simp (disch := omega) []
    refine cX 900 rS ?_
    simp (disch := omega) [n4, rangeX, rows_nil]
  rw [if_pos h4]
  have n4 : ¬ ((4 : Int) < ts.length) := by omega
  obtain ⟨F, hF⟩ : ∃ F : List ByteArray → List (List Cmp), F = fun l => (rangeL l).getD [] := ⟨_, rfl⟩
  have F0 : F [] = [] := by rw [hF]; rfl
  have F1 : ∀ l a, rangeL l = some a → F l = a := fun l a h => by rw [hF]; simp [h]
  have Fi : ∀ l, idfree.idfreeL (rows Cmp.ty.slice.cs (F l)) = true := fun l => rngIdf _
  clear hF
  refine Ret.go Tryz.func64 ?_
  simp (disch := omega) []
  refine cX 900 rS ?_
  simp (disch := omega) [n4]
  refine T.le (Le.lay 5 50 1 (by simp) (by simp)) ?_
  refine T.forR ts (fun pre rest => ∃ a, rangeL pre = some a) (fun pre _ => [(5, .sl 50 0 (F pre).length 1 false), (15, .ro (rows Ty.str.cs ts) ts.length), (16, .sc (.int .i64 ts.length)), (17, .sc (.int .i64 pre.length))]) (fun pre _ => [(50, rows Cmp.ty.slice.cs (F pre))]) ⟨⟨[], rfl⟩, Tl.same rfl (by simp [F0]) (by simp [F0, rows])⟩ ?_ ?_
  · rintro ⟨acc, hacc⟩
    rw [hacc, F1 ts acc hacc]
    have hi := rngIdf acc
    have hcl := rngLen acc
    simp (disch := omega) []
    refine T.on 400 ?_
    simp (disch := omega) [ex1, hi, hcl, rangeX]
  · rintro pre x rest hx hl2 ⟨acc, hacc⟩
    have hd : List.drop pre.length (rows Ty.str.cs ts) = .sc (.string x) :: rows Ty.str.cs rest := by rw [rowsC_drop, ← hx, drop_pre, rowsC_cons]
    have hxs : x.size ≤ 1048576 := by have := b2 x (by rw [← hx]; simp); omega
    have rL := R99 x hxs
    have hsn := rangeL_snoc pre x
    rw [hacc] at hsn
    have al := rangeL_len hacc
    have e1 := F1 pre acc hacc
    rw [e1]
    unfold listA at rL
    have bad : (listI (wordsB x)).2 = false → rangeL ts = none := fun h => by rw [← hx]; exact rangeL_none h
    have good : (listI (wordsB x)).2 = true → rangeL (pre ++ [x]) = some (acc ++ [(listI (wordsB x)).1]) := fun h => by rw [hsn]; exact if_pos h
    clear hsn
    generalize listI (wordsB x) = I at *
    obtain ⟨I1, I2⟩ := I
    simp only at rL bad good
    simp (disch := omega) [hd]
    refine cX 900 rL ?_
    cases I2
    · rw [bad rfl]
      simp (disch := omega) [rangeX, rows_nil, ex1, idfree.idfreeL]
    · have hs2 := good rfl
      have e2 := F1 _ _ hs2
      have hr : rows Cmp.ty.slice.cs (F (pre ++ [x])) = rows Cmp.ty.slice.cs acc ++ [.ro (rows Cmp.ty.cs I1) I1.length] := by rw [e2, rows_append]; rfl
      have hL : (F (pre ++ [x])).length = acc.length + 1 := by rw [e2, List.length_append]; rfl
      have hi := Fi (pre ++ [x])
      rw [hr] at hi
      have hal := rngLen acc
      simp (disch := omega) [over, hal, hL]
      exact ⟨⟨_, hs2⟩, Tl.ren [(31, 50)] rfl (by simp [idfree, hr, hi])⟩
set_option maxRecDepth 100000
def needB (n : Need) : Bool := nameOk n.name && (decide (n.range.size ≤ 20) && (rangeO n.range).isSome)
structure NeedZ (n : Need) : Prop where
  a : n.name.size ≤ 140737488351232
  r : n.range.size ≤ 1048576
def stepN2 (p : Option Need) (n : Need) : Bool := needB n && match p with
  | none => true
  | some q => bL q.name n.name
def chainN : Option Need → List Need → Bool
  | _, [] => true
  | p, n :: l => stepN2 p n && chainN (some n) l
def needsB (l : List Need) : Bool := chainN none l && decide (l.length ≤ 4)
theorem R26 (n : Need) (hz : NeedZ n) : Ret Tryz.prog 26 [.agg (Need.ty.cs n)] (.sc (.bool (needB n))) [.un] := by
  have rR := R64 n.range hz.r
  have rN := R60 n.name hz.a
  unfold rangeA at rR
  unfold needB
  rw [Need.cse]
  obtain ⟨a, r⟩ := n
  simp only at *
  generalize (rangeO r).isSome = ok at *
  generalize (rangeO r).getD [] = rr at *
  generalize nameOk a = na at *
  refine Ret.go Tryz.func26 ?_
  simp (disch := omega) []
  refine cX 900 rR ?_
  cases ok
  · simp (disch := omega) []
  · simp (disch := omega) []
    refine cX 900 rN ?_
    cases na
    · simp (disch := omega) []
    · simp (disch := omega) []
      try omega
theorem R79 (n : Need) (hz : NeedZ n) : Ret Tryz.prog 79 [.agg (Need.ty.cs n)] (.sc (.bool (needB n))) [.un] := by
  have rR := R116 n.range hz.r
  have rN := R75 n.name hz.a
  unfold rangeA at rR
  unfold needB
  rw [Need.cse]
  obtain ⟨a, r⟩ := n
  simp only at *
  generalize (rangeO r).isSome = ok at *
  generalize (rangeO r).getD [] = rr at *
  generalize nameOk a = na at *
  refine Ret.go Tryz.func79 ?_
  simp (disch := omega) []
  refine cX 900 rR ?_
  simp (disch := omega) []
  refine cX 900 rN ?_
  cases na
  · simp (disch := omega) []
  · by_cases h : r.size ≤ 20
    · have h2 : (r.size : Int) ≤ 20 := by omega
      cases ok <;> simp (disch := omega) [h, h2]
    · have h2 : ¬ (r.size : Int) ≤ 20 := by omega
      cases ok <;> simp (disch := omega) [h, h2]
set_option maxRecDepth 100000
theorem leq_bL (a b : ByteArray) : (Op.bytesLess a.toList b.toList || a.toList == b.toList) = !bL b a := by
  show (bL a b || _) = _
  cases h1 : bL a b
  · cases h2 : bL b a
    · have := bL_tot h1 h2
      subst this
      simp
    · have hne : (a.toList == b.toList) = false := by
        cases h : a.toList == b.toList
        · rfl
        · rw [beq_iff_eq] at h
          rw [tl_eq.1 h, bL_irr] at h2
          cases h2
      rw [hne]; rfl
  · rw [bL_asy h1]; rfl
theorem chain_not {p : Option Need} {n : Need} {l : List Need} (h : stepN2 p n = false) : chainN p (n :: l) = false := by rw [chainN, h]; rfl
theorem chain_yes {p : Option Need} {n : Need} {l : List Need} (h : stepN2 p n = true) : chainN p (n :: l) = chainN (some n) l := by rw [chainN, h]; rfl
set_option maxHeartbeats 4000000 in
theorem R62 (l : List Need) (hl : l.length ≤ 140737488351232) (hz : ∀ n ∈ l, NeedZ n) : Ret Tryz.prog 62 [.ro (rows Need.ty.cs l) l.length] (.sc (.bool (needsB l))) [.un] := by
  unfold needsB
  generalize hC : chainN none l = tg
  refine Ret.go Tryz.func62 ?_
  simp (disch := omega) []
  refine T.forL l (fun pre rest => chainN pre.getLast? rest = tg) (fun pre _ => [(0, .ro (rows Need.ty.cs l) l.length), (5, .ro (rows Need.ty.cs l) l.length), (6, .sc (.int .i64 l.length)), (7, .sc (.int .i64 pre.length))]) (fun _ _ => []) ⟨hC, by simp⟩ ?_ ?_
  · intro hJ
    have : tg = true := hJ.symm
    subst this
    simp (disch := omega) []
    refine T.on 400 ?_
    simp (disch := omega) []
    try omega
  · intro pre n rest hx hl2 hJ
    have rN := R26 n (hz n (by rw [← hx]; simp))
    have hd : List.drop (pre.length * 2) (rows Need.ty.cs l) = .sc (.string n.name) :: .sc (.string n.range) :: rows Need.ty.cs rest := by
      have := rows_drop Need.ty.csn pre (n :: rest)
      rw [hx, rows_cons, Need.cse] at this
      exact this
    rw [Need.cse] at rN
    have hgl : (pre ++ [n]).getLast? = some n := by simp
    simp (disch := omega) [hd]
    refine T.textE [] ?_ mixed
    simp (disch := omega) [merge_nil, hideH_nil]
    refine cWX 900 rN ?_
    cases hb : needB n
    · rw [chain_not (by unfold stepN2; rw [hb]; rfl)] at hJ
      subst hJ
      simp (disch := omega) [hb, merge_nil, hideH_nil]
    · rcases List.eq_nil_or_concat pre with rfl | ⟨pr, q, rfl⟩
      · rw [chain_yes (by unfold stepN2; rw [hb]; rfl)] at hJ
        simp (disch := omega) [hb, merge_nil, hideH_nil]
        exact hJ
      · rw [List.concat_eq_append] at *
        have hq : List.drop (pr.length * 2) (rows Need.ty.cs l) = .sc (.string q.name) :: .sc (.string q.range) :: rows Need.ty.cs (n :: rest) := by
          have := rows_drop Need.ty.csn pr (q :: n :: rest)
          rw [show pr ++ q :: n :: rest = l by rw [← hx]; simp, rows_cons, Need.cse] at this
          exact this
        have z1 : (0 : Int) < (pr.length : Int) + 1 := by omega
        have z2 : IntKind.i64.wrap ((pr.length : Int) + 1 - 1) = pr.length := by rw [show (pr.length : Int) + 1 - 1 = pr.length by omega]; exact wrap_i64 (by omega) (by simp at hl2; omega)
        rw [show (pr ++ [q]).getLast? = some q by simp] at hJ
        have hle := leq_bL n.name q.name
        have z3 : (pr.length : Int) < l.length := by simp at hl2; omega
        cases hc : bL q.name n.name
        · rw [chain_not (by unfold stepN2; rw [hb]; exact hc)] at hJ
          subst hJ
          rw [hc] at hle
          simp (disch := omega) [hb, hq, z1, z2, z3, hle, merge_nil, hideH_nil]
        · rw [chain_yes (by unfold stepN2; rw [hb]; exact hc)] at hJ
          rw [hc] at hle
          simp (disch := omega) [hb, hq, z1, z2, z3, hle, merge_nil, hideH_nil]
          exact hJ
set_option maxHeartbeats 4000000 in
theorem R77 (l : List Need) (hl : l.length ≤ 140737488351232) (hz : ∀ n ∈ l, NeedZ n) : Ret Tryz.prog 77 [.ro (rows Need.ty.cs l) l.length] (.sc (.bool (needsB l))) [.un] := by
  unfold needsB
  generalize hC : chainN none l = tg
  refine Ret.go Tryz.func77 ?_
  simp (disch := omega) []
  refine T.forL l (fun pre rest => chainN pre.getLast? rest = tg) (fun pre _ => [(0, .ro (rows Need.ty.cs l) l.length), (3, .sc (.int .i64 pre.length))]) (fun _ _ => []) ⟨hC, by simp⟩ ?_ ?_
  · intro hJ
    have : tg = true := hJ.symm
    subst this
    simp (disch := omega) []
    refine T.on 400 ?_
    simp (disch := omega) []
    try omega
  · intro pre n rest hx hl2 hJ
    have rN := R79 n (hz n (by rw [← hx]; simp))
    have hd : List.drop (pre.length * 2) (rows Need.ty.cs l) = .sc (.string n.name) :: .sc (.string n.range) :: rows Need.ty.cs rest := by
      have := rows_drop Need.ty.csn pre (n :: rest)
      rw [hx, rows_cons, Need.cse] at this
      exact this
    rw [Need.cse] at rN
    simp (disch := omega) [hd]
    refine T.textE [] ?_ mixed
    simp (disch := omega) [hd, merge_nil, hideH_nil]
    refine cWX 900 rN ?_
    cases hb : needB n
    · rw [chain_not (by unfold stepN2; rw [hb]; rfl)] at hJ
      subst hJ
      simp (disch := omega) [hb, merge_nil, hideH_nil]
    · rcases List.eq_nil_or_concat pre with rfl | ⟨pr, q, rfl⟩
      · rw [chain_yes (by unfold stepN2; rw [hb]; rfl)] at hJ
        simp (disch := omega) [hb, merge_nil, hideH_nil]
        exact hJ
      · rw [List.concat_eq_append] at *
        have hq : List.drop (pr.length * 2) (rows Need.ty.cs l) = .sc (.string q.name) :: .sc (.string q.range) :: rows Need.ty.cs (n :: rest) := by
          have := rows_drop Need.ty.csn pr (q :: n :: rest)
          rw [show pr ++ q :: n :: rest = l by rw [← hx]; simp, rows_cons, Need.cse] at this
          exact this
        have z1 : (0 : Int) < (pr.length : Int) + 1 := by omega
        have z2 : IntKind.i64.wrap ((pr.length : Int) + 1 - 1) = pr.length := by rw [show (pr.length : Int) + 1 - 1 = pr.length by omega]; exact wrap_i64 (by omega) (by simp at hl2; omega)
        rw [show (pr ++ [q]).getLast? = some q by simp] at hJ
        have z3 : (pr.length : Int) < l.length := by simp at hl2; omega
        have z4 : (pr.length : Int) + 1 < l.length := by simp at hl2; omega
        have hd5 : List.drop ((pr.length + 1) * 2) (rows Need.ty.cs l) = .sc (.string n.name) :: .sc (.string n.range) :: rows Need.ty.cs rest := by rw [← hd, List.length_append]; rfl
        cases hc : bL q.name n.name
        · rw [chain_not (by unfold stepN2; rw [hb]; exact hc)] at hJ
          subst hJ
          unfold bL at hc
          simp (disch := omega) [hb, hq, hd5, z1, z2, z3, z4, hc, merge_nil, hideH_nil]
        · rw [chain_yes (by unfold stepN2; rw [hb]; exact hc)] at hJ
          unfold bL at hc
          simp (disch := omega) [hb, hq, hd5, z1, z2, z3, z4, hc, merge_nil, hideH_nil]
          exact hJ
end Go.Proofs.YtiejaibmcmicoaaGreatDoor.Am
