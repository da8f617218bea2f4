/- What the row FnSolved needs beyond the texts before; no condition. -/
import Derived.WalkKit
import Derived.Test.YtiejaibmcmicoaaGreatDoorAm0
import Derived.Laws.BytesArg
import Derived.Laws.StructEq
import Derived.Test.YtiejaibmcmicoaaGreatDoorAm1
import Derived.ChangeKeysEq
import Derived.Test.YtiejaibmcmicoaaGreatDoorAm2
import Derived.Test.YtiejaibmcmicoaaGreatDoorAm3
import Derived.Test.YtiejaibmcmicoaaGreatDoorAm4
import Derived.Laws.IdiomStrings
import Derived.Test.YtiejaibmcmicoaaGreatDoorAm5
import Derived.Test.YtiejaibmcmicoaaGreatDoorAm6
import Derived.Test.YtiejaibmcmicoaaGreatDoorAm7
import Derived.Test.YtiejaibmcmicoaaGreatDoorAm8
import Derived.Orders
import Derived.WalkSpells
import Derived.Test.YtiejaibmcmicoaaGreatDoorAm9
import Derived.Test.YtiejaibmcmicoaaGreatDoorAm10
import Derived.Test.YtiejaibmcmicoaaGreatDoorAmS
import Derived.Test.YtiejaibmcmicoaaGreatDoorAm11
import Derived.Test.YtiejaibmcmicoaaGreatDoorAmW
import Derived.Test.YtiejaibmcmicoaaGreatDoorAm12
import Derived.ProofKit
import Derived.SizedLaws
import Derived.ChangeOld
import Derived.Test.YtiejaibmcmicoaaGreatDoorAmX
import Derived.Test.YtiejaibmcmicoaaGreatDoorAmU
import Derived.Test.YtiejaibmcmicoaaGreatDoorAmT
import Derived.Test.YtiejaibmcmicoaaGreatDoorAmY
import Derived.Test.YtiejaibmcmicoaaGreatDoorAmZ
import Derived.Test.YtiejaibmcmicoaaGreatDoorAmM
import Derived.Laws.Externs
import Derived.Test.YtiejaibmcmicoaaGreatDoorAmD
import Derived.Test.YtiejaibmcmicoaaGreatDoorAmF
import Derived.Test.YtiejaibmcmicoaaGreatDoorAmN
import Derived.Test.YtiejaibmcmicoaaGreatDoorProg
import Derived.KernelRfl
import Derived.Test.YtiejaibmcmicoaaGreatDoorAmV
import Derived.Test.YtiejaibmcmicoaaGreatDoorAmP
import Derived.Lib.Strings
import Derived.Test.YtiejaibmcmicoaaGreatDoorAmG
import Derived.Shelf.LaysM
import Derived.Shelf.Strconv.Itoa3
import Derived.Shelf.Strings.Search3
import Derived.Shelf.Strings.Count
import Derived.Shelf.Small.Strs
import Derived.Lib.LaidTab
import Derived.Test.YtiejaibmcmicoaaGreatDoorAmL
import Derived.Test.YtiejaibmcmicoaaGreatDoorAmH
import Derived.Shelf.Strings.OnBuilder
import Derived.Test.YtiejaibmcmicoaaGreatDoorAmJ
import Derived.Test.YtiejaibmcmicoaaGreatDoorB1
import Derived.Test.YtiejaibmcmicoaaGreatDoorB2
import Derived.Test.YtiejaibmcmicoaaGreatDoorB3
import Derived.Test.YtiejaibmcmicoaaGreatDoorB4
namespace Go.Proofs.YtiejaibmcmicoaaGreatDoor.Am
open Go
set_option linter.unusedSimpArgs false
set_option linter.unusedVariables false
attribute [local congr] T_congr callK_congr callWK_congr
attribute [local simp] run_nil run_op0 run_opg run_seq run_cond run_block run_ret run_skip run_skip_after run_skip_blk run_exit run_exit_after run_exit_blk run_loop run_any runS_nil runS_op0 runS_opg exec_q exec_w exec_c exec_n rest_app restS_app execS_q execS_c aval dOk upd_app ev_t ev_c setO_some setO_none put_mk pinsOf isIo hasIo sbin endR fin resL one outL out1 clo1 cloL coe coeL shut shut.shutL wantA weff cellsOf fillA deref natOf ρ0_app h0_app plain plain.plainL keep_app keepH_app andThen_normal andThen_ret andThen_exit pop_nil pop_after pop_after_ret pop_after_exit pop_blk pop_blk_ret pop_blk_exit
section
variable {α : Type} (t : Ty α)
end
def ysOf : Nat → List AV → List AV
  | _, [] => []
  | d, .own _ len sz :: l => .sl d 0 len sz false :: ysOf (d + 1) l
  | d, c :: l => c :: ysOf (d + 1) l
end Go.Proofs.YtiejaibmcmicoaaGreatDoor.Am
namespace Go.Proofs.YtiejaibmcmicoaaGreatDoor.Am
open Go
set_option linter.unusedSimpArgs false
set_option linter.unusedVariables false
attribute [local congr] T_congr callK_congr callWK_congr
attribute [local simp] run_nil run_op0 run_opg run_seq run_cond run_block run_ret run_skip run_skip_after run_skip_blk run_exit run_exit_after run_exit_blk run_loop run_any runS_nil runS_op0 runS_opg runW_nil runW_op0 runW_opg exec_q exec_w exec_c exec_n execW_q execW_w execW_c restW_app hideH_app merge_app wblk rest_app restS_app execS_q execS_c aval dOk upd_app ev_t ev_c setO_some setO_none put_mk pinsOf isIo hasIo sbin endR fin resL one outL out1 clo1 cloL coe coeL shut shut.shutL wantA weff cellsOf fillA deref natOf ρ0_app h0_app plain plain.plainL keep_app keepH_app andThen_normal andThen_ret andThen_exit pop_nil pop_after pop_after_ret pop_after_exit pop_blk pop_blk_ret pop_blk_exit nilA srcOf srcCells keepR_app keepHR_app renA rb dstA lenA cutA
section
variable {φ : Nat → Option Loc} {M : Nat → Prop} {w : World} {P : Program} {p : List Nat}
end
section
variable {P : Program} {α : Type} (t : Ty α)
def nm (p : Nat × α) : List AV := ysOf p.1 (t.oc p.2)
end
end Go.Proofs.YtiejaibmcmicoaaGreatDoor.Am
namespace Go.Proofs.YtiejaibmcmicoaaGreatDoor.Am
open Go Go.Proofs
set_option linter.unusedSimpArgs false
set_option linter.unusedVariables false
attribute [local congr] T_congr callK_congr callWK_congr
attribute [local simp] run_nil run_op0 run_opg run_seq run_cond run_block run_ret run_skip run_skip_after run_skip_blk run_exit run_exit_after run_exit_blk run_loop run_any runS_nil runS_op0 runS_opg runW_nil runW_op0 runW_opg exec_q exec_w exec_c exec_n execW_q execW_w execW_c restW_app hideH_app merge_app wblk rest_app restS_app execS_q execS_c aval dOk upd_app ev_t ev_c setO_some setO_none put_mk pinsOf isIo hasIo sbin endR fin resL one outL out1 clo1 cloL coe coeL shut shut.shutL wantA weff cellsOf fillA deref natOf ρ0_app h0_app plain plain.plainL keep_app keepH_app andThen_normal andThen_ret andThen_exit pop_nil pop_after pop_after_ret pop_after_exit pop_blk pop_blk_ret pop_blk_exit nilA srcOf srcCells keepR_app keepHR_app renA rb toldρ toldH toldT toldB menQ_sc menQ_sl menQ_ref menQ_em menQ_un menQ_roT mens_cons mens_nil toldF merge_nil hideH_nil str_n rows_nil rowsS_len rowsC_len rowsC_fr rowsS_fr Rd_mk Rl_mk menB exQ_exit exQ_ret wrap_i64 bs_size bs_list bs_toList bs_get bs_extract mk_bs bs_eta List.getElem?_cons_zero List.getElem?_cons_succ List.length_cons oLt oNlt oLe oNle nLt nNlt nLe nNle iniρ andThen_normal over
set_option maxRecDepth 100000
theorem R74 (n : ByteArray) (v : Ver) (e : Entry) (hx : e.v.pre.length ≤ 1048577) : Ret Tryz.prog 74 [el true (Entry.ty.cs e), .rp [.sc (.string n)] 0, .rp (Ver.ty.cs v) 0] (.sc (.bool (atE n v e))) [.un, .un, .un] := by
  have rS := R48 e.v v hx
  rw [Ver.cse, Ver.cse] at rS
  unfold atE
  rw [show el true (Entry.ty.cs e) = .agg (Entry.ty.cs e) from rfl, Entry.cse, Ver.cse]
  generalize sameV e.v v = s at *
  obtain ⟨na, ⟨a, b, c, p⟩, ns⟩ := e
  obtain ⟨a2, b2, c2, p2⟩ := v
  simp only at *
  by_cases h : na.toList = n.toList
  · refine Ret.go Tryz.func74 ?_
    simp (disch := omega) [h]
    refine cX 900 rS ?_
    simp (disch := omega) [h]
  · refine Ret.go Tryz.func74 ?_
    simp (disch := omega) [h]
theorem R73 (g : FuncId) (caps : List AV) (f : Entry → Bool) (hg : callB Tryz.prog g = true) (hsh : shut.shutL caps = true) (xs : List Entry) (hR : ∀ x ∈ xs, Ret Tryz.prog g (el true (Entry.ty.cs x) :: caps) (.sc (.bool (f x))) (.un :: caps.map fun _ => .un)) (hb : xs.length < 4611686018427387904) :
    Ret Tryz.prog 73 [.ro (rows Entry.ty.cs xs) xs.length, .clo g caps] (.sc (.int .i64 (idx f xs 0))) [.un, .un] :=
  Ret.indexFunc Entry.ty (agg := true) Tryz.func73 ⟨by kernel_rfl, by kernel_rfl, by kernel_rfl⟩ (fun h => by cases h) g caps f hg hsh xs hR hb
theorem R38 (xs : List Entry) (n : ByteArray) (v : Ver) (hb : xs.length ≤ 1048577) (hz : ∀ e ∈ xs, e.v.pre.length ≤ 1048577) : Ret Tryz.prog 38 [.ro (rows Entry.ty.cs xs) xs.length, .sc (.string n), .agg (Ver.ty.cs v)] (.sc (.int .i64 (idx (atE n v) xs 0))) [.un, .un, .un] := by
  have rI := R73 74 [.rp [.sc (.string n)] 0, .rp (Ver.ty.cs v) 0] (atE n v) (by kernel_rfl) rfl xs (fun x hx => R74 n v x (hz x hx)) (by omega)
  rw [Ver.cse] at *
  refine Ret.go Tryz.func38 ?_
  simp (disch := omega) []
  refine cR (ys := [.ro (rows Entry.ty.cs xs) xs.length, .clo 74 [.rp [.sc (.string n)] 0, .rp [.sc (.int .i64 v.a), .sc (.int .i64 v.b), .sc (.int .i64 v.c), .ro (rows Ty.str.cs v.pre) v.pre.length] 0]]) rI ?_ (hys := by simp [roc_ro, roc, shut, shut.shutL])
  simp (disch := omega) []
set_option maxRecDepth 100000
def ent0 : Entry := ⟨⟨#[]⟩, ver0, []⟩
set_option maxRecDepth 100000
theorem metB_snoc {pre : List Need} {l : List Pick} {n : Need} (h : metB pre l = true) (hn : met1 l n = true) : metB (pre ++ [n]) l = true := by
  rw [metB_eq] at *
  rw [List.all_append, h]; simp [hn]
theorem metB_not {pre rest needs : List Need} {l : List Pick} {n : Need} (hx : pre ++ n :: rest = needs) (hn : met1 l n = false) : metB needs l = false := by
  rw [metB_eq, ← hx, List.all_append, List.all_cons, hn]; simp
set_option maxHeartbeats 2000000 in
theorem R39 (needs : List Need) (l : List Pick) (hn : needs.length ≤ 4194304) (zn : ∀ n ∈ needs, NeedZ n) (hl : l.length ≤ 1048577) (zl : ∀ p ∈ l, PickY p) : Ret Tryz.prog 39 [.ro (rows Need.ty.cs needs) needs.length, .ro (rows Pick.ty.cs l) l.length] (.sc (.bool (metB needs l))) [.un, .un] := by
  refine Ret.go Tryz.func39 ?_
  simp (disch := omega) []
  refine T.forL needs (fun pre _ => metB pre l = true) (fun pre _ => [(1, .ro (rows Pick.ty.cs l) l.length), (8, .ro (rows Need.ty.cs needs) needs.length), (9, .sc (.int .i64 needs.length)), (10, .sc (.int .i64 pre.length))]) (fun _ _ => []) ⟨rfl, by simp⟩ ?_ ?_
  · intro hJ
    rw [hJ]
    simp (disch := omega) []
    refine T.on 400 ?_
    simp (disch := omega) []
  · intro pre n rest hx hl2 hJ
    have hd := needCells hx
    have nz := zn n (by rw [← hx]; simp)
    have rP := R34 l n.name hl
    rcases idx_cases (atP n.name) l 0 with ⟨pr, p, rs, e1, h2, h1, e2⟩ | ⟨h1, e2⟩
    · have hm := met1_some (l := l) (n := n) (by rw [e1]; exact pickO_mid h1 h2)
      have rT := R66 n p.v nz.r (zl p (by rw [e1]; simp)).v
      rw [Need.cse, Ver.cse] at rT
      have hd2 := pickCells1 e1.symm
      rw [e2, Int.zero_add] at rP
      have hlt : pr.length < l.length := by rw [e1]; simp
      clear e1 e2 h1
      generalize takeB n p.v = b at *
      simp (disch := omega) [hd]
      refine cX 900 rP ?_
      simp (disch := omega) []
      refine T.textE [] ?_ mixed
      simp (disch := omega) [merge_nil, hideH_nil, hd2]
      refine cWX 900 rT ?_
      cases b
      · rw [metB_not hx hm]
        simp (disch := omega) [merge_nil, hideH_nil]
      · simp (disch := omega) [merge_nil, hideH_nil]
        exact metB_snoc hJ hm
    · have hm := met1_none (l := l) (n := n) (pickO_none h1)
      rw [e2] at rP
      simp (disch := omega) [hd]
      refine cX 900 rP ?_
      simp (disch := omega) []
      refine T.textE [] ?_ mixed
      rw [metB_not hx hm]
      simp (disch := omega) [merge_nil, hideH_nil]
set_option maxRecDepth 100000
theorem solvesL_not {r : List Entry} {l pre rest : List Pick} {p : Pick} (h : stepSo r l pre p = false) : solvesL r l pre (p :: rest) = false := by rw [solvesL, h]; rfl
theorem atP_self (p : Pick) : atP p.name p = true := by simp [atP]
theorem noName_t {pre : List Pick} {n : ByteArray} (h : ∀ q ∈ pre, atP n q = false) : noName pre n = true := by
  unfold noName
  exact List.all_eq_true.2 fun q hq => by rw [h q hq]; rfl
theorem idx_own {l pre rest : List Pick} {p : Pick} (hx : pre ++ p :: rest = l) : (noName pre p.name = true ∧ idx (atP p.name) l 0 = pre.length) ∨ (noName pre p.name = false ∧ ∃ k : Nat, idx (atP p.name) l 0 = k ∧ k < pre.length) := by
  rcases idx_cases (atP p.name) l 0 with ⟨pr, q, rs, e1, h2, h1, e2⟩ | ⟨h1, e2⟩
  · rw [Int.zero_add] at e2
    by_cases hlt : pr.length < pre.length
    · refine .inr ⟨noName_f (q := q) ?_ h2, pr.length, e2, hlt⟩
      have : pre = (pre ++ p :: rest).take pre.length := by simp
      rw [this, hx, e1]
      rw [List.take_append, List.take_of_length_le (by omega)]
      exact List.mem_append_right _ (by
        obtain ⟨k, hk⟩ : ∃ k, pre.length - pr.length = k + 1 := ⟨pre.length - pr.length - 1, by omega⟩
        rw [hk, List.take_succ_cons]; simp)
    · have hge : ¬ pre.length < pr.length := fun hgt => by
        have : p ∈ pr := by
          have : pr = (pr ++ q :: rs).take pr.length := by simp
          rw [this, ← e1, ← hx]
          rw [List.take_append, List.take_of_length_le (by omega)]
          exact List.mem_append_right _ (by
            obtain ⟨k, hk⟩ : ∃ k, pr.length - pre.length = k + 1 := ⟨pr.length - pre.length - 1, by omega⟩
            rw [hk, List.take_succ_cons]; simp)
        have := h1 p this
        rw [atP_self] at this
        cases this
      have hE : pr.length = pre.length := by omega
      refine .inl ⟨noName_t fun y hy => ?_, by rw [e2, hE]⟩
      have : pr = pre := by
        have k1 : pr = (pr ++ q :: rs).take pr.length := by simp
        rw [k1, ← e1, ← hx, hE]; simp
      exact h1 y (by rw [this]; exact hy)
  · have := h1 p (by rw [← hx]; simp)
    rw [atP_self] at this
    cases this
set_option maxHeartbeats 4000000 in
theorem R15 (r : List Entry) (needs : List Need) (l : List Pick) (hr : r.length ≤ 1048577) (zr : ∀ e ∈ r, EntryY e) (hn : needs.length ≤ 4194304) (zn : ∀ n ∈ needs, NeedZ n) (hl : l.length ≤ 1048577) (zl : ∀ p ∈ l, PickY p) : Ret Tryz.prog 15 [.ro (rows Entry.ty.cs r) r.length, .ro (rows Need.ty.cs needs) needs.length, .ro (rows Pick.ty.cs l) l.length] (.sc (.bool (solvesB r needs l))) [.un, .un, .un] := by
  have rM := R39 needs l hn zn hl zl
  unfold solvesB
  generalize metB needs l = mb at *
  generalize hC : solvesL r l [] l = tg
  refine Ret.go Tryz.func15 ?_
  simp (disch := omega) []
  refine T.forL l (fun pre rest => solvesL r l pre rest = tg) (fun pre _ => [(0, .ro (rows Entry.ty.cs r) r.length), (1, .ro (rows Need.ty.cs needs) needs.length), (2, .ro (rows Pick.ty.cs l) l.length), (10, .ro (rows Pick.ty.cs l) l.length), (11, .sc (.int .i64 l.length)), (12, .sc (.int .i64 pre.length))]) (fun _ _ => []) ⟨hC, by simp⟩ ?_ ?_
  · intro hJ
    have : tg = true := hJ.symm
    subst this
    simp (disch := omega) []
    refine T.on 400 ?_
    simp (disch := omega) []
    refine cX 900 rM ?_
    simp (disch := omega) []
  · intro pre p rest hx hl2 hJ
    have hd := pickCells hx
    have hd1 := pickCells1 hx
    have pz := zl p (by rw [← hx]; simp)
    have rE := R38 r p.name p.v hr (fun e he => (zr e he).v.n)
    have rP := R34 l p.name hl
    rw [Ver.cse] at rE
    rcases idx_cases (atE p.name p.v) r 0 with ⟨er, e, es, e1, h2, h1, e2⟩ | ⟨h1, e2⟩
    · have ho : okP r l p = metB e.needs l := okP_some (by rw [entryO, e1, find_mid h1 h2])
      have ez := zr e (by rw [e1]; simp)
      have rN := R39 e.needs l (by have := ez.l; omega) ez.z hl zl
      rw [e2, Int.zero_add] at rE
      have hde : List.drop (er.length * 6 + 5) (rows Entry.ty.cs r) = .ro (rows Need.ty.cs e.needs) e.needs.length :: rows Entry.ty.cs es := by rw [← List.drop_drop, entCells e1.symm]; rfl
      have hlt : er.length < r.length := by rw [e1]; simp
      clear e1 h1 e2
      generalize metB e.needs l = m2 at *
      rcases idx_own hx with ⟨k1, k2⟩ | ⟨k1, k, k2, k3⟩
      · rw [k2] at rP
        simp (disch := omega) [hd, hd1]
        refine cX 900 rE ?_
        simp (disch := omega) []
        refine cX 900 rP ?_
        simp (disch := omega) [hde]
        refine cX 900 rN ?_
        cases m2
        · rw [solvesL_not (by unfold stepSo; rw [ho]; rfl)] at hJ
          subst hJ
          simp (disch := omega) []
        · rw [solvesL_yes (by unfold stepSo; rw [ho, k1]; rfl)] at hJ
          simp (disch := omega) []
          exact hJ
      · rw [k2] at rP
        have k4 : ¬ ((k : Int) = pre.length) := by omega
        rw [solvesL_not (by unfold stepSo; rw [k1, Bool.and_false])] at hJ
        subst hJ
        simp (disch := omega) [hd, hd1]
        refine cX 900 rE ?_
        simp (disch := omega) []
        refine cX 900 rP ?_
        simp (disch := omega) [k4]
    · rw [e2] at rE
      rw [solvesL_not (by unfold stepSo; rw [okP_none (by rw [entryO, findN h1])]; rfl)] at hJ
      subst hJ
      simp (disch := omega) [hd, hd1]
      refine cX 900 rE ?_
      simp (disch := omega) []
set_option maxRecDepth 100000
section
variable {r : List Entry} {put : List Pick → Pick → List Pick} (hput : ∀ l p, (put l p).Perm (l ++ [p]))
include hput
omit hput in
theorem wayG_mono (k : Nat) : ∀ (d : Nat) (needs : List Need) (picks : List Pick) (f : Nat) (w : Option (List Pick)) (f' : Nat), wayG r put d needs picks f = (w, f', false) → wayG r put d needs picks (f + k) = (w, f' + k, false)
  | 0, _, _, _, _, _, h => by cases h; rfl
  | d + 1, needs, picks, f, w, f', h => by
    cases hD : dropN picks needs with
    | none => rw [wayG_none hD] at h ⊢; cases h; rfl
    | some left =>
      cases left with
      | nil => rw [wayG_nil hD] at h ⊢; cases h; rfl
      | cons n rest =>
        rw [wayG_cons hD] at h ⊢
        have key : ∀ (es : List Entry) (f : Nat), tryG (wayG r put d) put n rest picks es f = (w, f', false) → tryG (wayG r put d) put n rest picks es (f + k) = (w, f' + k, false) := by
          intro es
          induction es with
          | nil => intro f h; cases h; rfl
          | cons e es ih =>
            intro f h
            cases ht : takeB n e.v
            · rw [tryG_skip ht] at h ⊢; exact ih f h
            · by_cases hf : f = 0
              · subst hf; rw [tryG_out ht] at h; cases h
              · have hf2 : f + k ≠ 0 := by omega
                rcases hr : wayG r put d (rest ++ e.needs) (put picks ⟨e.name, e.v⟩) (f - 1) with ⟨_ | l', g, o⟩
                · cases o
                  · have hr2 := wayG_mono k d _ _ _ _ _ hr
                    rw [show f - 1 + k = f + k - 1 by omega] at hr2
                    rw [tryG_next ht hf hr] at h
                    rw [tryG_next ht hf2 hr2]
                    exact ih g h
                  · rw [tryG_over ht hf hr] at h; cases h
                · rw [tryG_some ht hf hr] at h
                  cases h
                  have hr2 := wayG_mono k d _ _ _ _ _ hr
                  rw [show f - 1 + k = f + k - 1 by omega] at hr2
                  rw [tryG_some ht hf2 hr2]
        exact key _ f h
end
set_option maxRecDepth 100000
theorem solveI_less {r : List Entry} {needs : List Need} (hk : okN r needs = true) (g : Int) : solveI r needs g = ([], 2) ∨ solveI r needs g = solveI r needs 10000 := by
  have e : ∀ g, solveI r needs g = endI (wayG r addP 13 needs [] (fuelN g)) := fun g => by unfold solveI; rw [if_pos hk]; rfl
  have hle := fuelN_le g
  rw [e g, e 10000, show fuelN 10000 = 10000 from rfl]
  rcases hw : wayG r addP 13 needs [] (fuelN g) with ⟨w, f', o⟩
  cases o
  · have := wayG_mono (10000 - fuelN g) 13 needs [] (fuelN g) w f' hw
    rw [show fuelN g + (10000 - fuelN g) = 10000 by omega] at this
    rw [this]
    right
    cases w <;> rfl
  · left; rfl
set_option maxRecDepth 100000
def pickS1 (r : List Entry) (c : Cur) (l : List Pick) : List Pick × Cur :=
  let e := r[nat4 c r.length]?.getD ent0
  let c1 := belowC c r.length
  if (pickO l e.name).isSome = true then (if (belowV c1 10 == 0) = true then (pickP l ⟨e.name, e.v⟩, belowC c1 10) else (l, belowC c1 10)) else (pickP l ⟨e.name, e.v⟩, c1)
def picksF (c : Cur) (r : List Entry) : List Pick × Cur := if r = [] then ([], belowC c 4) else iterN (pickS1 r) (nat4 c 4) (belowC c 4) []
theorem pickS1_ok {r : List Entry} {c : Cur} {l : List Pick} (h : c.ok) : (pickS1 r c l).2.ok := by
  unfold pickS1
  simp only
  split
  · split <;> exact belowC_ok (belowC_ok h _) 10
  · exact belowC_ok h _
theorem pickP_len (l : List Pick) (p : Pick) : (pickP l p).length = l.length + 1 := (insE_perm _ _ _).length_eq
theorem pickP_mem {l : List Pick} {p q : Pick} : q ∈ pickP l p ↔ q = p ∨ q ∈ l := (insE_perm ltP l p).mem_iff.trans List.mem_cons
theorem pickS1_len {r : List Entry} {c : Cur} {l : List Pick} : (pickS1 r c l).1.length ≤ l.length + 1 := by
  unfold pickS1
  simp only
  split
  · split
    · rw [pickP_len]; exact Nat.le_refl _
    · simp
  · rw [pickP_len]; exact Nat.le_refl _
theorem nat4_get {r : List Entry} (hr : r ≠ []) (c : Cur) : ∃ e, r[nat4 c r.length]? = some e ∧ e ∈ r ∧ nat4 c r.length < r.length := by
  have hpos : 0 < r.length := List.length_pos_iff.2 hr
  have h := (nat4_eq c (n := r.length) (by omega)).2
  have h : nat4 c r.length < r.length := by omega
  exact ⟨r[nat4 c r.length], List.getElem?_eq_getElem h, List.getElem_mem h, h⟩
theorem pickS1_of {r : List Entry} (hr : r ≠ []) {c : Cur} {l : List Pick} (h : ∀ p ∈ l, OfR r p) : ∀ p ∈ (pickS1 r c l).1, OfR r p := by
  obtain ⟨e, h1, h2, _⟩ := nat4_get hr c
  have key : ∀ p ∈ pickP l ⟨e.name, e.v⟩, OfR r p := fun p hp => by
    rcases pickP_mem.1 hp with rfl | hp
    · exact ⟨e, h2, rfl, rfl⟩
    · exact h p hp
  unfold pickS1
  rw [h1]
  simp only [Option.getD_some]
  split
  · split
    · exact key
    · exact h
  · exact key
theorem picksF_of {c : Cur} (hc : c.ok) (r : List Entry) : (∀ p ∈ (picksF c r).1, OfR r p) ∧ (picksF c r).1.length ≤ 3 ∧ (picksF c r).2.ok := by
  unfold picksF
  split
  · exact ⟨(fun p hp => by cases hp), Nat.zero_le _, belowC_ok hc 4⟩
  · rename_i hr
    obtain ⟨k0, k1⟩ := iterN_ok (f := pickS1 r) (fun l => ∀ p ∈ l, OfR r p) (fun c l h i => ⟨pickS1_ok h, pickS1_of hr i⟩) (nat4 c 4) _ [] (belowC_ok hc 4) (fun p hp => by cases hp)
    have h3 := iterN_len (f := pickS1 r) (fun c l => pickS1_len) (nat4 c 4) (belowC c 4) []
    have h4 := (nat4_eq c (n := 4) (by omega)).2
    simp only [List.length_nil] at h3
    exact ⟨k1, by omega, k0⟩
set_option maxHeartbeats 4000000 in
theorem R32 (c : Cur) (hc : c.ok) (r : List Entry) (hl : r.length ≤ 1048577) (hz : ∀ e ∈ r, EntryY e) : Ret Tryz.prog 32 [.bx c.cs, .ro (rows Entry.ty.cs r) r.length] (.ro (rows Pick.ty.cs (picksF c r).1) (picksF c r).1.length) [.bx (picksF c r).2.cs, .un] := by
  obtain ⟨r1, r2⟩ := nat4_eq c (n := 4) (by omega)
  have rB := R55 c hc 4
  have hc1 := belowC_ok hc 4
  have hro : ∀ h : Hp, h 10 = some (some []) → roc h 8 (.sl 10 0 0 5 false) = some (.ro [] 0) := fun h hb => roc_sl hb rfl rfl
  unfold picksF
  generalize belowC c 4 = c1 at *
  generalize nat4 c 4 = m at *
  generalize hT : (if r = [] then ([], c1) else iterN (pickS1 r) m c1 []) = tg at *
  refine Ret.go Tryz.func32 ?_
  simp (disch := omega) []
  refine callK.le (Le.freeze 8 [0, 1, 11] [100000] [(5, .ro [] 0)] (by simp [menB, idfree]) (by simp; exact idfreeL_mem (Cur.frl c)) (by rintro t y hty; simp at hty; obtain ⟨rfl, rfl⟩ := hty; simp; exact hro _ (by simp))) ?_
  simp only [frz]
  refine cB 0 (b := 100000) rB ?_ (ha := by simp [keep_app]) (hb := by simp [keepH_app]) (has := by simp [keep_app]) (hi := by rfl)
  simp (disch := omega) [r1]
  by_cases hr : r = []
  · rw [if_pos hr] at hT
    subst hr
    subst hT
    refine T.forI (fun _ : Unit => 0) (fun _ => True) (fun _ => [(0, .ref 1 0), (1, .ro [] 0), (5, .ro [] 0), (6, .sc (.int .i64 m))]) (fun _ => [(1, c1.cs)]) () ⟨trivial, Tl.ren [(100000, 1)] rfl (by simp [keep_app, keepH_app, rows_nil, idfree, idfree.idfreeL, Cur.frl])⟩ ?_
    rintro _ _
    by_cases hm : m = 0
    · subst hm
      simp (disch := omega) []
      refine T.on 400 ?_
      simp (disch := omega) [ex1, Cur.frl, ioPos1, rows_nil]
    · have hm2 : (0 : Int) < m := by omega
      simp (disch := omega) [hm2]
      refine T.on 400 ?_
      simp (disch := omega) [ex1, Cur.frl, ioPos1, rows_nil]
  · rw [if_neg hr] at hT
    have hpos : 0 < r.length := List.length_pos_iff.2 hr
    have hpi : (0 : Int) < r.length := by omega
    refine T.forI (fun i : Nat × Cur × List Pick => i.1) (fun i => i.2.1.ok ∧ i.2.2.length + i.1 ≤ 3 ∧ (∀ p ∈ i.2.2, OfR r p) ∧ iterN (pickS1 r) i.1 i.2.1 i.2.2 = tg) (fun i => [(0, .ref 1 0), (1, .ro (rows Entry.ty.cs r) r.length), (5, .ro (rows Pick.ty.cs i.2.2) i.2.2.length), (6, .sc (.int .i64 i.1))]) (fun i => [(1, i.2.1.cs)]) (m, c1, []) ⟨⟨hc1, by simp; omega, (fun p hp => by cases hp), hT⟩, Tl.ren [(100000, 1)] rfl (by simp [keep_app, keepH_app, rows_nil, idfree, idfree.idfreeL, Cur.frl])⟩ ?_
    rintro ⟨j, d, l⟩ ⟨hd, hll, hoD, hE⟩
    simp only at hd hll hoD hE ⊢
    cases j with
    | zero =>
      have e1 : tg = (l, d) := hE.symm
      subst e1
      simp (disch := omega) []
      refine T.on 400 ?_
      simp (disch := omega) [ex1, Cur.frl, ioPos1]
    | succ j =>
      obtain ⟨e, he1, he2, he3⟩ := nat4_get hr d
      have hE2 : iterN (pickS1 r) j (pickS1 r d l).2 (pickS1 r d l).1 = tg := hE
      have hS : pickS1 r d l = if (pickO l e.name).isSome = true then (if (belowV (belowC d r.length) 10 == 0) = true then (pickP l ⟨e.name, e.v⟩, belowC (belowC d r.length) 10) else (l, belowC (belowC d r.length) 10)) else (pickP l ⟨e.name, e.v⟩, belowC d r.length) := by
        unfold pickS1
        rw [he1]; rfl
      have hnx := pickS1_of hr (c := d) hoD
      have hnl := pickS1_len (r := r) (c := d) (l := l)
      have hnc := pickS1_ok (r := r) (l := l) hd
      have q := (nat4_eq d (n := r.length) (by omega)).1
      have rV := R55 d hd r.length
      have rO := R56 _ (belowC_ok hd r.length) 10
      have ey := hz e he2
      have rP := R12 l e.name (by omega) (fun p hp => ((hoD p hp).y hz).v.n)
      have rI := R70 l ⟨e.name, e.v⟩ (by omega)
      have rC := (R36 e.v ey.v.n).cool (ret' := .agg (Ver.ty.cs e.v)) (cool_ver (strShut _))
      have hde : List.drop (nat4 d r.length * 6) (rows Entry.ty.cs r) = .sc (.string e.name) :: .sc (.int .i64 e.v.a) :: .sc (.int .i64 e.v.b) :: .sc (.int .i64 e.v.c) :: .ro (rows Ty.str.cs e.v.pre) e.v.pre.length :: .ro (rows Need.ty.cs e.needs) e.needs.length :: rows Entry.ty.cs (r.drop (nat4 d r.length + 1)) := by
        have hsp : r.take (nat4 d r.length) ++ e :: r.drop (nat4 d r.length + 1) = r := by
          have := List.drop_eq_getElem_cons he3
          rw [List.getElem?_eq_getElem he3] at he1
          rw [← Option.some.inj he1, ← this, List.take_append_drop]
        have := entCells hsp
        rw [List.length_take, Nat.min_eq_left (by omega)] at this
        exact this
      rw [q] at rV
      rw [Pick.cse] at rI
      rw [Ver.cse] at rC rP
      rw [hS] at hE2 hnx hnl hnc
      simp only at rI
      generalize nat4 d r.length = k at *
      generalize belowC d r.length = d3 at *
      generalize pickP l ⟨e.name, e.v⟩ = l2 at *
      have hki : (k : Int) < r.length := by omega
      generalize hso : (pickO l e.name).isSome = so at *
      generalize (pickO l e.name).getD ver0 = ov at *
      simp (disch := omega) [hpi]
      refine cB 0 rV ?_
      simp (disch := omega) [hde, hki, he3]
      refine cX 900 rP ?_
      cases so
      · simp only [Bool.false_eq_true, if_false] at hE2 hnx hnl hnc
        simp (disch := omega) []
        refine T.textE [] ?_ mixed
        simp (disch := omega) [merge_nil, hideH_nil]
        refine cWX 900 rC ?_
        simp (disch := omega) [merge_nil, hideH_nil]
        refine cWX 900 rI ?_
        simp (disch := omega) [merge_nil, hideH_nil]
        exact Ri_mk (j, d3, l2) (by simp) ⟨hnc, by simp at hll ⊢; omega, hnx, hE2⟩ (Tl.same rfl (by simp (disch := omega) []) (by simp [mens_idf (Cur.frl _)]))
      · simp only [if_true] at hE2 hnx hnl hnc
        generalize belowC d3 10 = d4 at *
        generalize (belowV d3 10 == 0) = on at *
        simp (disch := omega) []
        refine cB 0 rO ?_
        cases on
        · simp only [Bool.false_eq_true, if_false] at hE2 hnx hnl hnc
          simp (disch := omega) []
          exact Ri_mk (j, d4, l) (by simp) ⟨hnc, by simp at hll ⊢; omega, hnx, hE2⟩ (Tl.same rfl (by simp (disch := omega) []) (by simp [mens_idf (Cur.frl _)]))
        · simp only [if_true] at hE2 hnx hnl hnc
          simp (disch := omega) []
          refine T.textE [] ?_ mixed
          simp (disch := omega) [merge_nil, hideH_nil]
          refine cWX 900 rC ?_
          simp (disch := omega) [merge_nil, hideH_nil]
          refine cWX 900 rI ?_
          simp (disch := omega) [merge_nil, hideH_nil]
          exact Ri_mk (j, d4, l2) (by simp) ⟨hnc, by simp at hll ⊢; omega, hnx, hE2⟩ (Tl.same rfl (by simp (disch := omega) []) (by simp [mens_idf (Cur.frl _)]))
end Go.Proofs.YtiejaibmcmicoaaGreatDoor.Am
namespace Go.Proofs.YtiejaibmcmicoaaGreatDoor.Am
open Go Go.Proofs
set_option linter.unusedSimpArgs false
set_option linter.unusedVariables false
attribute [local congr] T_congr callK_congr callWK_congr
attribute [local simp] run_nil run_op0 run_opg run_seq run_cond run_block run_ret run_skip run_skip_after run_skip_blk run_exit run_exit_after run_exit_blk run_loop run_any runS_nil runS_op0 runS_opg runW_nil runW_op0 runW_opg exec_q exec_w exec_c exec_n execW_q execW_w execW_c restW_app hideH_app merge_app wblk rest_app restS_app execS_q execS_c aval dOk upd_app ev_t ev_c setO_some setO_none put_mk pinsOf isIo hasIo sbin endR fin resL one outL out1 clo1 cloL coe coeL shut shut.shutL wantA weff cellsOf fillA deref natOf ρ0_app h0_app plain plain.plainL keep_app keepH_app andThen_normal andThen_ret andThen_exit pop_nil pop_after pop_after_ret pop_after_exit pop_blk pop_blk_ret pop_blk_exit nilA srcOf srcCells keepR_app keepHR_app renA rb
def atV (code : List Int) (i : Nat) : Int := if i < code.length then code[i]?.getD 0 else ((i : Int) * 31 + code.length * 7) % 256
theorem atV_rng {code : List Int} (hx : Ty.byte.slice.ok code) (i : Nat) : 0 ≤ atV code i ∧ atV code i ≤ 255 := by
  unfold atV
  split
  · rename_i h
    have := hx.2 (code[i]) (List.getElem_mem h)
    rw [List.getElem?_eq_getElem h, Option.getD_some]
    exact this
  · omega
def A9 : AC := (.seq (.ops [yq 4 (.mov (yi 0))])
  (.seq (.seq (.ops [yq 5 (.mov (.t 1)), yq 6 (.mov (.t 0)), yq 7 (.llen (.t 6)), yq 8 (.bin .lss (.t 5) (.t 7))])
  (.cond (.t 8) (.seq (.ops [yq 9 (.mov (.t 0)), yq 10 (.mov (.t 1)), yq 11 (.iadr 1 (.t 9) (.t 10)), yq 12 (.load false 1 (.t 11)), yq 13 (.cvi .i64 (.t 12)), yq 4 (.mov (.t 13))])
  .ret)
  .skip))
  (.seq (.ops [yq 14 (.mov (.t 1)), yq 15 (.bin .mul (.t 14) (yi 31)), yq 16 (.mov (.t 0)), yq 17 (.llen (.t 16)), yq 18 (.bin .mul (.t 17) (yi 7)), yq 19 (.bin .add (.t 15) (.t 18)), yq 20 (.bin .rem (.t 19) (yi 256)), yq 4 (.mov (.t 20))])
  .ret)))
theorem K9 : yK Tryz.prog Tryz.f9 A9 21 [.mov (.t 4)] := ⟨by kernel_rfl, by kernel_rfl, by kernel_rfl⟩
theorem R9 (code : List Int) (hx : Ty.byte.slice.ok code) (i : Nat) (hi : i < 1000) : Ret Tryz.prog 9 [.ro (rows B code) code.length, .sc (.int .i64 i)] (.sc (.int .i64 (atV code i))) [.un, .un] := by
  have hb : code.length * 1 ≤ 140737488351232 := hx.1
  have hv := atV_rng hx i
  refine Ret.run Tryz.func9 K9 (by simp) rfl rfl 500 ?_
  by_cases h : i < code.length
  · have hlt : (i : Int) < code.length := by omega
    obtain ⟨br, hd⟩ := rowsB_get code i h
    have e : atV code i = code[i]?.getD 0 := by unfold atV; rw [if_pos h]
    rw [e] at hv ⊢
    have hw : IntKind.i64.wrap (code[i]?.getD 0) = code[i]?.getD 0 := wrap_i64 (by omega) (by omega)
    have hw2 : IntKind.i64.wrap code[i] = code[i] := by simpa [h] using hw
    simp [A9, iniρ, hlt, h, hd, hw, hw2]
  · have hlt : ¬ (i : Int) < code.length := by omega
    have e : atV code i = ((i : Int) * 31 + code.length * 7) % 256 := by unfold atV; rw [if_neg h]
    rw [e]
    have w1 : IntKind.i64.wrap ((i : Int) * 31) = (i : Int) * 31 := wrap_i64 (by omega) (by omega)
    have w2 : IntKind.i64.wrap ((code.length : Int) * 7) = (code.length : Int) * 7 := wrap_i64 (by omega) (by omega)
    have w3 : IntKind.i64.wrap ((i : Int) * 31 + (code.length : Int) * 7) = (i : Int) * 31 + (code.length : Int) * 7 := wrap_i64 (by omega) (by omega)
    have w4 : ((i : Int) * 31 + (code.length : Int) * 7).tmod 256 = ((i : Int) * 31 + (code.length : Int) * 7) % 256 := by rw [Int.tmod_eq_emod_of_nonneg (by omega)]
    have w5 : IntKind.i64.wrap (((i : Int) * 31 + (code.length : Int) * 7) % 256) = ((i : Int) * 31 + (code.length : Int) * 7) % 256 := wrap_i64 (by omega) (by omega)
    simp [A9, iniρ, hlt, w1, w2, w3, w4, w5]
end Go.Proofs.YtiejaibmcmicoaaGreatDoor.Am
namespace Go.Proofs.YtiejaibmcmicoaaGreatDoor.Am
open Go Go.Proofs
set_option linter.unusedSimpArgs false
set_option linter.unusedVariables false
attribute [local congr] T_congr callK_congr callWK_congr
attribute [local simp] run_nil run_op0 run_opg run_seq run_cond run_block run_ret run_skip run_skip_after run_skip_blk run_exit run_exit_after run_exit_blk run_loop run_any runS_nil runS_op0 runS_opg runW_nil runW_op0 runW_opg exec_q exec_w exec_c exec_n execW_q execW_w execW_c restW_app hideH_app merge_app wblk rest_app restS_app execS_q execS_c aval dOk upd_app ev_t ev_c setO_some setO_none put_mk pinsOf isIo hasIo sbin endR fin resL one outL out1 clo1 cloL coe coeL shut shut.shutL wantA weff cellsOf fillA deref natOf ρ0_app h0_app plain plain.plainL keep_app keepH_app andThen_normal andThen_ret andThen_exit pop_nil pop_after pop_after_ret pop_after_exit pop_blk pop_blk_ret pop_blk_exit nilA srcOf srcCells keepR_app keepHR_app renA rb toldρ toldH toldT toldB menQ_sc menQ_sl menQ_ref menQ_em menQ_un menQ_roT mens_cons mens_nil toldF merge_nil hideH_nil str_n rows_nil rowsS_len rowsC_len rowsC_fr rowsS_fr Rd_mk Rl_mk menB exQ_exit exQ_ret wrap_i64 bs_size bs_list bs_toList bs_get bs_extract mk_bs bs_eta List.getElem?_cons_zero List.getElem?_cons_succ List.length_cons oLt oNlt oLe oNle nLt nNlt nLe nNle iniρ andThen_normal over
set_option maxRecDepth 100000
theorem R37 (xs : List ByteArray) (hl : xs.length ≤ 1048577) : Ret Tryz.prog 37 [.ro (rows Ty.str.cs xs) xs.length, .ro (rows Ty.str.cs xs) xs.length] (.sc (.bool true)) [.un, .un] := by
  refine Ret.go Tryz.func37 ?_
  simp (disch := omega) []
  refine T.forL xs (fun _ _ => True) (fun pre _ => [(0, .ro (rows Ty.str.cs xs) xs.length), (1, .ro (rows Ty.str.cs xs) xs.length), (5, .sc (.int .i64 pre.length))]) (fun _ _ => []) (by simp) ?_ ?_
  · intro _
    simp (disch := omega) []
    refine T.on 400 ?_
    simp (disch := omega) []
  · intro q x r hx hl2 _
    have hd : List.drop q.length (rows Ty.str.cs xs) = .sc (.string x) :: rows Ty.str.cs r := by rw [rowsC_drop, ← hx, drop_pre, rowsC_cons]
    simp (disch := omega) []
    refine T.textE [] ?_ mixed
    simp (disch := omega) [hd, merge_nil, hideH_nil]
theorem R13 (v : Ver) (hl : v.pre.length ≤ 1048577) : Ret Tryz.prog 13 [.agg (Ver.ty.cs v), .agg (Ver.ty.cs v)] (.sc (.bool true)) [.un, .un] := by
  have rT := R37 v.pre hl
  rw [Ver.cse]
  refine Ret.go Tryz.func13 ?_
  simp (disch := omega) []
  refine cX 900 rT ?_
  simp (disch := omega) []
set_option maxHeartbeats 1000000 in
theorem R14 (l : List Pick) (hl : l.length ≤ 1048577) (hz : ∀ p ∈ l, p.v.pre.length ≤ 1048577) : Ret Tryz.prog 14 [.ro (rows Pick.ty.cs l) l.length, .ro (rows Pick.ty.cs l) l.length] (.sc (.bool true)) [.un, .un] := by
  refine Ret.go Tryz.func14 ?_
  simp (disch := omega) []
  refine T.forL l (fun _ _ => True) (fun pre _ => [(0, .ro (rows Pick.ty.cs l) l.length), (1, .ro (rows Pick.ty.cs l) l.length), (5, .sc (.int .i64 pre.length))]) (fun _ _ => []) (by simp) ?_ ?_
  · intro _
    simp (disch := omega) []
    refine T.on 400 ?_
    simp (disch := omega) []
  · intro q x r hx hl2 _
    have hd := pickCells hx
    have hd1 := pickCells1 hx
    have rV := R13 x.v (hz x (by rw [← hx]; simp))
    rw [Ver.cse] at rV
    simp (disch := omega) []
    refine T.textE [] ?_ mixed
    simp (disch := omega) [hd, hd1, merge_nil, hideH_nil]
    refine cWX 900 rV ?_
    simp (disch := omega) [merge_nil, hideH_nil]
theorem R10 (code : List Int) (hx : Ty.byte.slice.ok code) : Ret Tryz.prog 10 [.ro (rows B code) code.length] (.tup [.ro (rows Pick.ty.cs (picksF (regF (newC code)).2 (regF (newC code)).1).1) (picksF (regF (newC code)).2 (regF (newC code)).1).1.length, .sc (.string (pickS [(bs [108, 105, 98]), (bs [108, 111, 103]), (bs [110, 101, 116])] (picksF (regF (newC code)).2 (regF (newC code)).1).2 3))]) [.un] := by
  have rN := R22 code hx
  have hc := newC_ok hx
  have rR := R23 _ hc
  obtain ⟨k1, k2, k3, k4⟩ := regF_D hc
  have rD := R32 _ k4 (regF (newC code)).1 (by omega) (fun e he => (k2 e he).y)
  obtain ⟨_, _, j3⟩ := picksF_of k4 (regF (newC code)).1
  have rS : Ret Tryz.prog 33 [.bx (picksF (regF (newC code)).2 (regF (newC code)).1).2.cs, .own (rows Ty.str.oc [(bs [108, 105, 98]), (bs [108, 111, 103]), (bs [110, 101, 116])]) 3 1] (.sc (.string (pickS [(bs [108, 105, 98]), (bs [108, 111, 103]), (bs [110, 101, 116])] (picksF (regF (newC code)).2 (regF (newC code)).1).2 3))) [.bx (belowC (picksF (regF (newC code)).2 (regF (newC code)).1).2 3).cs, .un] := R33 _ j3 [(bs [108, 105, 98]), (bs [108, 111, 103]), (bs [110, 101, 116])] (by decide)
  clear k1 k2 k3 k4
  generalize newC code = c at *
  generalize (regF c).2 = c2 at *
  generalize (regF c).1 = r at *
  generalize pickS [(bs [108, 105, 98]), (bs [108, 111, 103]), (bs [110, 101, 116])] (picksF c2 r).2 3 = nm at *
  generalize belowC (picksF c2 r).2 3 = c4 at *
  generalize (picksF c2 r).2 = c3 at *
  generalize (picksF c2 r).1 = ps at *
  refine Ret.go Tryz.func10 ?_
  simp (disch := omega) []
  refine cX 7 rN ?_
  simp (disch := omega) []
  refine cB 0 (b := 7) rR ?_
  simp (disch := omega) []
  refine cB 0 (b := 7) rD ?_
  simp (disch := omega) [over]
  refine cL 14 (b := 7) rS ?_
  simp (disch := omega) [ex1]
set_option maxRecDepth 100000
set_option maxHeartbeats 8000000 in
theorem R3 (code : List Int) (hx : Ty.byte.slice.ok code) : Ret Tryz.prog 3 [.ro (rows Ty.byte.cs code) code.length] (.sc (.bool true)) [.un] := by
  change Ret Tryz.prog 3 [.ro (rows B code) code.length] (.sc (.bool true)) [.un]
  have rBig := R6 code
  have rD := R7 code hx
  have rK := R10 code hx
  have rAt := R9 code hx 2 (by decide)
  have hat := atV_rng hx 2
  have hc := newC_ok hx
  obtain ⟨k1, k2, k3, k4⟩ := regF_D hc
  have kB := regF_B hc
  obtain ⟨n1, n2, n3⟩ := needs9F_D k4
  obtain ⟨p1, p2, _⟩ := picksF_of k4 (regF (newC code)).1
  have hok : okN (regF (newC code)).1 (needs9F (regF (newC code)).2).1 = true := by
    unfold okN
    rw [kB, Bool.true_and]
    exact List.all_eq_true.2 fun n hn => (n1 n hn).b
  have hsz : SolveZ (regF (newC code)).1 (needs9F (regF (newC code)).2).1 := ⟨by omega, fun e he => (k2 e he).y, by omega, fun n hn => (n1 n hn).z⟩
  have hpz : ∀ p ∈ (picksF (regF (newC code)).2 (regF (newC code)).1).1, PickY p := fun p hp => (p1 p hp).y hsz.rz
  generalize pickS [(bs [108, 105, 98]), (bs [108, 111, 103]), (bs [110, 101, 116])] (picksF (regF (newC code)).2 (regF (newC code)).1).2 3 = nm at *
  generalize (picksF (regF (newC code)).2 (regF (newC code)).1).1 = ps at *
  generalize (needs9F (regF (newC code)).2).1 = needs at *
  generalize (regF (newC code)).1 = r at *
  have hg : ∃ g : Int, (atV code 2).tmod 20 = g ∧ 0 ≤ g ∧ g < 20 := ⟨_, rfl, Int.tmod_nonneg _ hat.1, Int.tmod_lt_of_pos _ (by decide)⟩
  obtain ⟨g, hg, hg0, hg1⟩ := hg
  have rS1 := (R8 r needs 10000 hsz).cool (cool_tup (cool_own (shutL_of (rows_all Pick.ty.sh _))) rfl)
  have rS2 := (R8 r needs g hsz).cool (cool_tup (cool_own (shutL_of (rows_all Pick.ty.sh _))) rfl)
  obtain ⟨z1, z2⟩ := solveI_Z hsz 10000
  have rPI := R11 ps nm (by omega) (fun p hp => (hpz p hp).v.n)
  have rPS := R12 ps nm (by omega) (fun p hp => (hpz p hp).v.n)
  have vz : VerZ ((pickO ps nm).getD ver0) := by
    cases h : pickO ps nm with
    | none => exact ⟨by decide, fun x hx => by cases hx⟩
    | some v =>
      obtain ⟨p, h1, rfl⟩ := Option.map_eq_some_iff.1 h
      exact (hpz p (List.mem_of_find?_eq_some h1)).v
  have rV := R13 ((pickO ps nm).getD ver0) vz.n
  obtain ⟨l, ci, e1, hasc, hsol⟩ : ∃ (l : List Pick) (ci : Int), solveI r needs 10000 = (l, ci) ∧ AscP l ∧ ((ci = 0 ∧ solvesB r needs l = true) ∨ (ci = 1 ∧ l = [] ∧ solvesB r needs l = false)) := by
    rcases solveI_all hok with ⟨l, a, b, c⟩ | ⟨a, b⟩
    · exact ⟨l, 0, a, b, .inl ⟨rfl, c⟩⟩
    · exact ⟨[], 1, a, .nil, .inr ⟨rfl, rfl, b []⟩⟩
  obtain ⟨m, di, e2, hm⟩ : ∃ (m : List Pick) (di : Int), solveI r needs g = (m, di) ∧ ((m = [] ∧ di = 2) ∨ (l = m ∧ ci = di)) := by
    rcases solveI_less hok g with a | a
    · exact ⟨[], 2, a, .inl ⟨rfl, rfl⟩⟩
    · exact ⟨l, ci, a.trans e1, .inr ⟨rfl, rfl⟩⟩
  rw [e1] at rS1 z1 z2
  rw [e2] at rS2
  simp only at rS1 rS2 z1 z2
  have rSo := R15 r needs l (by have := hsz.rl; omega) hsz.rz (by have := hsz.nl; omega) hsz.nz (by omega) z2
  have rSa := R14 l (by omega) (fun p hp => (z2 p hp).v.n)
  rw [Ver.cse] at rPI rPS rV
  generalize (pickO ps nm).getD ver0 = v at *
  generalize (pickO ps nm).isSome = vs at *
  generalize solvesB r needs l = sb at *
  clear hsz hpz hok k1 k2 k3 k4 kB n1 n2 n3 p1 p2 e1 e2
  have hci : ci = 0 ∨ ci = 1 := hsol.elim (fun h => .inl h.1) (fun h => .inr h.1)
  have hl12 : l.length ≤ 12 := z1
  refine Ret.go Tryz.func3 ?_
  simp (disch := omega) []
  refine cX 900 rBig ?_
  by_cases hbig : (1048576 : Int) < code.length
  · simp (disch := omega) [hbig]
  simp (disch := omega) [hbig]
  refine cX 900 rD ?_
  simp (disch := omega) []
  refine cX 900 rS1 ?_
  simp (disch := omega) []
  refine cX 900 rAt ?_
  simp (disch := omega) [hg]
  refine cX 900 rS2 ?_
  simp (disch := omega) []
  refine cX 900 rK ?_
  simp (disch := omega) []
  refine cX 900 rPI ?_
  simp (disch := omega) []
  refine cX 900 rPS ?_
  simp (disch := omega) []
  refine cX 900 rV ?_
  have step : ∀ (k : Nat), k + 1 < l.length → ∃ p q : Pick, List.drop (k * 5) (rows Pick.ty.cs l) = .sc (.string p.name) :: .sc (.int .i64 p.v.a) :: .sc (.int .i64 p.v.b) :: .sc (.int .i64 p.v.c) :: .ro (rows Ty.str.cs p.v.pre) p.v.pre.length :: rows Pick.ty.cs (l.drop (k + 1)) ∧ List.drop ((k + 1) * 5) (rows Pick.ty.cs l) = .sc (.string q.name) :: .sc (.int .i64 q.v.a) :: .sc (.int .i64 q.v.b) :: .sc (.int .i64 q.v.c) :: .ro (rows Ty.str.cs q.v.pre) q.v.pre.length :: rows Pick.ty.cs (l.drop (k + 2)) ∧ Op.bytesLess p.name.toList q.name.toList = true := fun k hk => by
    have g1 : l.take k ++ l[k] :: l.drop (k + 1) = l := by rw [← List.drop_eq_getElem_cons, List.take_append_drop]
    have g2 : l.take (k + 1) ++ l[k + 1] :: l.drop (k + 2) = l := by rw [← List.drop_eq_getElem_cons, List.take_append_drop]
    have d1 := pickCells g1
    have d2 := pickCells g2
    rw [List.length_take, Nat.min_eq_left (by omega)] at d1 d2
    exact ⟨l[k], l[k + 1], d1, d2, (List.pairwise_iff_getElem.1 hasc) k (k + 1) (by omega) hk (by omega)⟩
  have loop : ∀ (k : Nat) (h1 : k + 1 < l.length), (k : Int) < l.length ∧ (k : Int) + 1 < l.length ∧ IntKind.i64.wrap ((k : Int) + 1 - 1) = k ∧ k < l.length := fun k h1 => ⟨by omega, by omega, by rw [show (k : Int) + 1 - 1 = k by omega]; exact wrap_i64 (by omega) (by omega), by omega⟩
  rcases hm with ⟨rfl, rfl⟩ | ⟨rfl, rfl⟩
  · rcases hsol with ⟨rfl, rfl⟩ | ⟨rfl, hl0, rfl⟩
    case inl =>
      simp (disch := omega) [rows_nil]
      refine T.cutL [(3, .ro (rows Entry.ty.cs r) r.length), (4, .ro (rows Need.ty.cs needs) needs.length), (5, .ro (rows Pick.ty.cs l) l.length), (6, .sc (.int .i64 0))] [] ?_ ?_
      · refine T.forI (fun k : Nat => l.length - k) (fun _ => True) (fun k => [(3, .ro (rows Entry.ty.cs r) r.length), (4, .ro (rows Need.ty.cs needs) needs.length), (5, .ro (rows Pick.ty.cs l) l.length), (6, .sc (.int .i64 0)), (15, .sc (.int .i64 (k + 1 : Nat)))]) (fun _ => []) 0 ⟨trivial, Tl.same rfl (by simp (disch := omega) []) (by simp)⟩ ?_
        intro k _
        by_cases hk : k + 1 < l.length
        · obtain ⟨pp, qq, d1, d2, hb⟩ := step k hk
          obtain ⟨y1, y2, y3, y4⟩ := loop k hk
          simp (disch := omega) [y2]
          refine T.textE [] ?_ mixed
          simp (disch := omega) [d1, d2, hb, y1, y2, y3, y4, hk, merge_nil, hideH_nil]
          exact Ri_mk (k + 1) (by omega) trivial (Tl.same rfl (by simp (disch := omega) []) (by simp))
        · have hk2 : ¬ ((k : Int) + 1 < l.length) := by omega
          simp (disch := omega) [hk2]
          exact Tl.same rfl (by simp (disch := omega) []) (by simp)
      · simp (disch := omega) []
        refine cX 900 rSo ?_
        simp (disch := omega) []
    case inr =>
      simp (disch := omega) [rows_nil]
      refine T.cutL [(3, .ro (rows Entry.ty.cs r) r.length), (4, .ro (rows Need.ty.cs needs) needs.length), (5, .ro (rows Pick.ty.cs l) l.length), (6, .sc (.int .i64 1))] [] ?_ ?_
      · refine T.forI (fun k : Nat => l.length - k) (fun _ => True) (fun k => [(3, .ro (rows Entry.ty.cs r) r.length), (4, .ro (rows Need.ty.cs needs) needs.length), (5, .ro (rows Pick.ty.cs l) l.length), (6, .sc (.int .i64 1)), (15, .sc (.int .i64 (k + 1 : Nat)))]) (fun _ => []) 0 ⟨trivial, Tl.same rfl (by simp (disch := omega) []) (by simp)⟩ ?_
        intro k _
        by_cases hk : k + 1 < l.length
        · obtain ⟨pp, qq, d1, d2, hb⟩ := step k hk
          obtain ⟨y1, y2, y3, y4⟩ := loop k hk
          simp (disch := omega) [y2]
          refine T.textE [] ?_ mixed
          simp (disch := omega) [d1, d2, hb, y1, y2, y3, y4, hk, merge_nil, hideH_nil]
          exact Ri_mk (k + 1) (by omega) trivial (Tl.same rfl (by simp (disch := omega) []) (by simp))
        · have hk2 : ¬ ((k : Int) + 1 < l.length) := by omega
          simp (disch := omega) [hk2]
          exact Tl.same rfl (by simp (disch := omega) []) (by simp)
      · simp (disch := omega) []
        refine cX 900 rSo ?_
        simp (disch := omega) [hl0]
  · rcases hsol with ⟨rfl, rfl⟩ | ⟨rfl, hl0, rfl⟩
    case inl =>
      simp (disch := omega) [rows_nil]
      refine cX 900 rSa ?_
      simp (disch := omega) []
      refine T.cutL [(3, .ro (rows Entry.ty.cs r) r.length), (4, .ro (rows Need.ty.cs needs) needs.length), (5, .ro (rows Pick.ty.cs l) l.length), (6, .sc (.int .i64 0))] [] ?_ ?_
      · refine T.forI (fun k : Nat => l.length - k) (fun _ => True) (fun k => [(3, .ro (rows Entry.ty.cs r) r.length), (4, .ro (rows Need.ty.cs needs) needs.length), (5, .ro (rows Pick.ty.cs l) l.length), (6, .sc (.int .i64 0)), (15, .sc (.int .i64 (k + 1 : Nat)))]) (fun _ => []) 0 ⟨trivial, Tl.same rfl (by simp (disch := omega) []) (by simp)⟩ ?_
        intro k _
        by_cases hk : k + 1 < l.length
        · obtain ⟨pp, qq, d1, d2, hb⟩ := step k hk
          obtain ⟨y1, y2, y3, y4⟩ := loop k hk
          simp (disch := omega) [y2]
          refine T.textE [] ?_ mixed
          simp (disch := omega) [d1, d2, hb, y1, y2, y3, y4, hk, merge_nil, hideH_nil]
          exact Ri_mk (k + 1) (by omega) trivial (Tl.same rfl (by simp (disch := omega) []) (by simp))
        · have hk2 : ¬ ((k : Int) + 1 < l.length) := by omega
          simp (disch := omega) [hk2]
          exact Tl.same rfl (by simp (disch := omega) []) (by simp)
      · simp (disch := omega) []
        refine cX 900 rSo ?_
        simp (disch := omega) []
    case inr =>
      simp (disch := omega) [rows_nil]
      refine cX 900 rSa ?_
      simp (disch := omega) []
      refine T.cutL [(3, .ro (rows Entry.ty.cs r) r.length), (4, .ro (rows Need.ty.cs needs) needs.length), (5, .ro (rows Pick.ty.cs l) l.length), (6, .sc (.int .i64 1))] [] ?_ ?_
      · refine T.forI (fun k : Nat => l.length - k) (fun _ => True) (fun k => [(3, .ro (rows Entry.ty.cs r) r.length), (4, .ro (rows Need.ty.cs needs) needs.length), (5, .ro (rows Pick.ty.cs l) l.length), (6, .sc (.int .i64 1)), (15, .sc (.int .i64 (k + 1 : Nat)))]) (fun _ => []) 0 ⟨trivial, Tl.same rfl (by simp (disch := omega) []) (by simp)⟩ ?_
        intro k _
        by_cases hk : k + 1 < l.length
        · obtain ⟨pp, qq, d1, d2, hb⟩ := step k hk
          obtain ⟨y1, y2, y3, y4⟩ := loop k hk
          simp (disch := omega) [y2]
          refine T.textE [] ?_ mixed
          simp (disch := omega) [d1, d2, hb, y1, y2, y3, y4, hk, merge_nil, hideH_nil]
          exact Ri_mk (k + 1) (by omega) trivial (Tl.same rfl (by simp (disch := omega) []) (by simp))
        · have hk2 : ¬ ((k : Int) + 1 < l.length) := by omega
          simp (disch := omega) [hk2]
          exact Tl.same rfl (by simp (disch := omega) []) (by simp)
      · simp (disch := omega) []
        refine cX 900 rSo ?_
        simp (disch := omega) [hl0]
end Go.Proofs.YtiejaibmcmicoaaGreatDoor.Am
