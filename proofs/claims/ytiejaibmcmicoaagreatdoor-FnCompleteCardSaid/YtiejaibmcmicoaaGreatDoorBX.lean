/- What the row FnComplete needs beyond the texts before; no condition. -/
import Derived.WalkKit
import Derived.Test.YtiejaibmcmicoaaGreatDoorAm0
import Derived.Laws.BytesArg
import Derived.Laws.StructEq
import Derived.Test.YtiejaibmcmicoaaGreatDoorAm1
import Derived.ChangeKeysEq
import Derived.Test.YtiejaibmcmicoaaGreatDoorAm2
import Derived.Test.YtiejaibmcmicoaaGreatDoorAm3
import Derived.Test.YtiejaibmcmicoaaGreatDoorAm4
import Derived.Laws.IdiomStrings
import Derived.Test.YtiejaibmcmicoaaGreatDoorAm5
import Derived.Test.YtiejaibmcmicoaaGreatDoorAm6
import Derived.Test.YtiejaibmcmicoaaGreatDoorAm7
import Derived.Test.YtiejaibmcmicoaaGreatDoorAm8
import Derived.Orders
import Derived.WalkSpells
import Derived.Test.YtiejaibmcmicoaaGreatDoorAm9
import Derived.Test.YtiejaibmcmicoaaGreatDoorAm10
import Derived.Test.YtiejaibmcmicoaaGreatDoorAmS
import Derived.Test.YtiejaibmcmicoaaGreatDoorAm11
import Derived.Test.YtiejaibmcmicoaaGreatDoorAmW
import Derived.Test.YtiejaibmcmicoaaGreatDoorAm12
import Derived.ProofKit
import Derived.SizedLaws
import Derived.ChangeOld
import Derived.Test.YtiejaibmcmicoaaGreatDoorAmX
import Derived.Test.YtiejaibmcmicoaaGreatDoorAmU
import Derived.Test.YtiejaibmcmicoaaGreatDoorAmT
import Derived.Test.YtiejaibmcmicoaaGreatDoorAmY
import Derived.Test.YtiejaibmcmicoaaGreatDoorAmZ
import Derived.Test.YtiejaibmcmicoaaGreatDoorAmM
import Derived.Laws.Externs
import Derived.Test.YtiejaibmcmicoaaGreatDoorAmD
import Derived.Test.YtiejaibmcmicoaaGreatDoorAmF
import Derived.Test.YtiejaibmcmicoaaGreatDoorAmN
import Derived.Test.YtiejaibmcmicoaaGreatDoorProg
import Derived.KernelRfl
import Derived.Test.YtiejaibmcmicoaaGreatDoorAmV
import Derived.Test.YtiejaibmcmicoaaGreatDoorAmP
import Derived.Lib.Strings
import Derived.Test.YtiejaibmcmicoaaGreatDoorAmG
import Derived.Shelf.LaysM
import Derived.Shelf.Strconv.Itoa3
import Derived.Shelf.Strings.Search3
import Derived.Shelf.Strings.Count
import Derived.Shelf.Small.Strs
import Derived.Lib.LaidTab
import Derived.Test.YtiejaibmcmicoaaGreatDoorAmL
import Derived.Test.YtiejaibmcmicoaaGreatDoorAmH
import Derived.Shelf.Strings.OnBuilder
import Derived.Test.YtiejaibmcmicoaaGreatDoorAmJ
import Derived.Shelf.Sort.Plain
import Derived.Test.YtiejaibmcmicoaaGreatDoorAmQ
import Derived.Test.YtiejaibmcmicoaaGreatDoorB1
import Derived.Test.YtiejaibmcmicoaaGreatDoorB2
import Derived.Test.YtiejaibmcmicoaaGreatDoorB3
import Derived.Test.YtiejaibmcmicoaaGreatDoorB4
import Derived.Test.YtiejaibmcmicoaaGreatDoorBM
namespace Go.Proofs.YtiejaibmcmicoaaGreatDoor.Am
open Go Go.Proofs
set_option linter.unusedSimpArgs false
set_option linter.unusedVariables false
attribute [local congr] T_congr callK_congr callWK_congr
attribute [local simp] run_nil run_op0 run_opg run_seq run_cond run_block run_ret run_skip run_skip_after run_skip_blk run_exit run_exit_after run_exit_blk run_loop run_any runS_nil runS_op0 runS_opg runW_nil runW_op0 runW_opg exec_q exec_w exec_c exec_n execW_q execW_w execW_c restW_app hideH_app merge_app wblk rest_app restS_app execS_q execS_c aval dOk upd_app ev_t ev_c setO_some setO_none put_mk pinsOf isIo hasIo sbin endR fin resL one outL out1 clo1 cloL coe coeL shut shut.shutL wantA weff cellsOf fillA deref natOf ρ0_app h0_app plain plain.plainL keep_app keepH_app andThen_normal andThen_ret andThen_exit pop_nil pop_after pop_after_ret pop_after_exit pop_blk pop_blk_ret pop_blk_exit nilA srcOf srcCells keepR_app keepHR_app renA rb
theorem File.roc8 {h : Hp} {b : Nat} {xs : List File} {lim : Bool} (hb : h b = some (some (rows File.ty.oc xs))) : roc h 8 (.sl b 0 xs.length 2 lim) = some (.ro (rows File.ty.cs xs) xs.length) := File.ty.roc8 (by decide) hb
theorem Need.roc8 {h : Hp} {b : Nat} {xs : List Need} {lim : Bool} (hb : h b = some (some (rows Need.ty.oc xs))) : roc h 8 (.sl b 0 xs.length 2 lim) = some (.ro (rows Need.ty.cs xs) xs.length) := Need.ty.roc8 (by decide) hb
theorem Cmd.roc8 {h : Hp} {b : Nat} {xs : List Cmd} {lim : Bool} (hb : h b = some (some (rows Cmd.ty.oc xs))) : roc h 8 (.sl b 0 xs.length 2 lim) = some (.ro (rows Cmd.ty.cs xs) xs.length) := Cmd.ty.roc8 (by decide) hb
theorem Pack.roc8 {h : Hp} {b : Nat} {xs : List Pack} {lim : Bool} (hb : h b = some (some (rows Pack.ty.oc xs))) : roc h 8 (.sl b 0 xs.length 4 lim) = some (.ro (rows Pack.ty.cs xs) xs.length) := Pack.ty.roc8 (by decide) hb
theorem Env.roc8 {h : Hp} {b : Nat} {xs : List Env} {lim : Bool} (hb : h b = some (some (rows Env.ty.oc xs))) : roc h 8 (.sl b 0 xs.length 2 lim) = some (.ro (rows Env.ty.cs xs) xs.length) := Env.ty.roc8 (by decide) hb
theorem Rule.roc8 {h : Hp} {b : Nat} {xs : List Rule} {lim : Bool} (hb : h b = some (some (rows Rule.ty.oc xs))) : roc h 8 (.sl b 0 xs.length 5 lim) = some (.ro (rows Rule.ty.cs xs) xs.length) := Rule.ty.roc8 (by decide) hb
theorem World.roc8 {h : Hp} {b : Nat} {xs : List World} {lim : Bool} (hb : h b = some (some (rows World.ty.oc xs))) : roc h 8 (.sl b 0 xs.length 4 lim) = some (.ro (rows World.ty.cs xs) xs.length) := World.ty.roc8 (by decide) hb
theorem Plan.roc8 {h : Hp} {b : Nat} {xs : List Plan} {lim : Bool} (hb : h b = some (some (rows Plan.ty.oc xs))) : roc h 8 (.sl b 0 xs.length 2 lim) = some (.ro (rows Plan.ty.cs xs) xs.length) := Plan.ty.roc8 (by decide) hb
theorem Made.roc8 {h : Hp} {b : Nat} {xs : List Made} {lim : Bool} (hb : h b = some (some (rows Made.ty.oc xs))) : roc h 8 (.sl b 0 xs.length 3 lim) = some (.ro (rows Made.ty.cs xs) xs.length) := Made.ty.roc8 (by decide) hb
theorem Mark.roc8 {h : Hp} {b : Nat} {xs : List Mark} {lim : Bool} (hb : h b = some (some (rows Mark.ty.oc xs))) : roc h 8 (.sl b 0 xs.length 2 lim) = some (.ro (rows Mark.ty.cs xs) xs.length) := Mark.ty.roc8 (by decide) hb
theorem Slot.roc8 {h : Hp} {b : Nat} {xs : List Slot} {lim : Bool} (hb : h b = some (some (rows Slot.ty.oc xs))) : roc h 8 (.sl b 0 xs.length 2 lim) = some (.ro (rows Slot.ty.cs xs) xs.length) := Slot.ty.roc8 (by decide) hb
theorem Run.roc8 {h : Hp} {b : Nat} {xs : List Run} {lim : Bool} (hb : h b = some (some (rows Run.ty.oc xs))) : roc h 8 (.sl b 0 xs.length 12 lim) = some (.ro (rows Run.ty.cs xs) xs.length) := Run.ty.roc8 (by decide) hb
theorem Job.roc8 {h : Hp} {b : Nat} {xs : List Job} {lim : Bool} (hb : h b = some (some (rows Job.ty.oc xs))) : roc h 8 (.sl b 0 xs.length 5 lim) = some (.ro (rows Job.ty.cs xs) xs.length) := Job.ty.roc8 (by decide) hb
theorem Doc.roc8 {h : Hp} {b : Nat} {xs : List Doc} {lim : Bool} (hb : h b = some (some (rows Doc.ty.oc xs))) : roc h 8 (.sl b 0 xs.length 2 lim) = some (.ro (rows Doc.ty.cs xs) xs.length) := Doc.ty.roc8 (by decide) hb
theorem Op.roc8 {h : Hp} {b : Nat} {xs : List Op} {lim : Bool} (hb : h b = some (some (rows Op.ty.oc xs))) : roc h 8 (.sl b 0 xs.length 3 lim) = some (.ro (rows Op.ty.cs xs) xs.length) := Op.ty.roc8 (by decide) hb
theorem Disk.roc8 {h : Hp} {b : Nat} {xs : List Disk} {lim : Bool} (hb : h b = some (some (rows Disk.ty.oc xs))) : roc h 8 (.sl b 0 xs.length 2 lim) = some (.ro (rows Disk.ty.cs xs) xs.length) := Disk.ty.roc8 (by decide) hb
theorem Ver.roc8 {h : Hp} {b : Nat} {xs : List Ver} {lim : Bool} (hb : h b = some (some (rows Ver.ty.oc xs))) : roc h 8 (.sl b 0 xs.length 4 lim) = some (.ro (rows Ver.ty.cs xs) xs.length) := Ver.ty.roc8 (by decide) hb
theorem Cmp.roc8 {h : Hp} {b : Nat} {xs : List Cmp} {lim : Bool} (hb : h b = some (some (rows Cmp.ty.oc xs))) : roc h 8 (.sl b 0 xs.length 5 lim) = some (.ro (rows Cmp.ty.cs xs) xs.length) := Cmp.ty.roc8 (by decide) hb
theorem Entry.roc8 {h : Hp} {b : Nat} {xs : List Entry} {lim : Bool} (hb : h b = some (some (rows Entry.ty.oc xs))) : roc h 8 (.sl b 0 xs.length 6 lim) = some (.ro (rows Entry.ty.cs xs) xs.length) := Entry.ty.roc8 (by decide) hb
theorem Pick.roc8 {h : Hp} {b : Nat} {xs : List Pick} {lim : Bool} (hb : h b = some (some (rows Pick.ty.oc xs))) : roc h 8 (.sl b 0 xs.length 5 lim) = some (.ro (rows Pick.ty.cs xs) xs.length) := Pick.ty.roc8 (by decide) hb
end Go.Proofs.YtiejaibmcmicoaaGreatDoor.Am
namespace Go.Proofs.YtiejaibmcmicoaaGreatDoor.Am
open Go Go.Proofs
set_option linter.unusedSimpArgs false
set_option linter.unusedVariables false
attribute [local congr] T_congr callK_congr callWK_congr
attribute [local simp] run_nil run_op0 run_opg run_seq run_cond run_block run_ret run_skip run_skip_after run_skip_blk run_exit run_exit_after run_exit_blk run_loop run_any runS_nil runS_op0 runS_opg runW_nil runW_op0 runW_opg exec_q exec_w exec_c exec_n execW_q execW_w execW_c restW_app hideH_app merge_app wblk rest_app restS_app execS_q execS_c aval dOk upd_app ev_t ev_c setO_some setO_none put_mk pinsOf isIo hasIo sbin endR fin resL one outL out1 clo1 cloL coe coeL shut shut.shutL wantA weff cellsOf fillA deref natOf ρ0_app h0_app plain plain.plainL keep_app keepH_app andThen_normal andThen_ret andThen_exit pop_nil pop_after pop_after_ret pop_after_exit pop_blk pop_blk_ret pop_blk_exit nilA srcOf srcCells keepR_app keepHR_app renA rb toldρ toldH toldT toldB menQ_sc menQ_sl menQ_ref menQ_em menQ_un menQ_roT mens_cons mens_nil toldF merge_nil hideH_nil str_n rows_nil rowsS_len rowsC_len rowsC_fr rowsS_fr Rd_mk Rl_mk menB exQ_exit exQ_ret wrap_i64 bs_size bs_list bs_toList bs_get bs_extract mk_bs bs_eta List.getElem?_cons_zero List.getElem?_cons_succ List.length_cons oLt oNlt oLe oNle nLt nNlt nLe nNle iniρ andThen_normal over
set_option maxRecDepth 100000
theorem rowsO_drop (l : List ByteArray) (i : Nat) : (rows Ty.str.oc l).drop i = rows Ty.str.oc (l.drop i) := rowsC_drop l i
theorem rowsO_cons (x : ByteArray) (l : List ByteArray) : rows Ty.str.oc (x :: l) = .sc (.string x) :: rows Ty.str.oc l := rfl
set_option maxRecDepth 100000
def ent0 : Entry := ⟨⟨#[]⟩, ver0, []⟩
set_option maxRecDepth 100000
theorem metB_snoc {pre : List Need} {l : List Pick} {n : Need} (h : metB pre l = true) (hn : met1 l n = true) : metB (pre ++ [n]) l = true := by
  rw [metB_eq] at *
  rw [List.all_append, h]; simp [hn]
theorem metB_not {pre rest needs : List Need} {l : List Pick} {n : Need} (hx : pre ++ n :: rest = needs) (hn : met1 l n = false) : metB needs l = false := by
  rw [metB_eq, ← hx, List.all_append, List.all_cons, hn]; simp
set_option maxHeartbeats 2000000 in
theorem R88 (needs : List Need) (l : List Pick) (hn : needs.length ≤ 4194304) (zn : ∀ n ∈ needs, NeedZ n) (hl : l.length ≤ 1048577) (zl : ∀ p ∈ l, PickY p) : Ret Tryz.prog 88 [.ro (rows Need.ty.cs needs) needs.length, .ro (rows Pick.ty.cs l) l.length] (.sc (.bool (metB needs l))) [.un, .un] := by
  refine Ret.go Tryz.func88 ?_
  simp (disch := omega) []
  refine T.forL needs (fun pre _ => metB pre l = true) (fun pre _ => [(0, .ro (rows Need.ty.cs needs) needs.length), (1, .ro (rows Pick.ty.cs l) l.length), (5, .sc (.int .i64 pre.length))]) (fun _ _ => []) ⟨rfl, by simp⟩ ?_ ?_
  · intro hJ
    rw [hJ]
    simp (disch := omega) []
    refine T.on 400 ?_
    simp (disch := omega) []
  · intro pre n rest hx hl2 hJ
    have hd := needCells hx
    have nz := zn n (by rw [← hx]; simp)
    have rP := R12 l n.name hl (fun p hp => (zl p hp).v.n)
    cases hp : pickO l n.name with
    | some v =>
      have hm := met1_some hp
      have vz : VerZ v := by
        obtain ⟨p, h1, rfl⟩ := Option.map_eq_some_iff.1 hp
        exact (zl p (List.mem_of_find?_eq_some h1)).v
      have rT := R80 n v nz.r vz
      rw [hp] at rP
      simp only [Option.getD_some, Option.isSome_some] at rP
      rw [Ver.cse] at rP
      rw [Need.cse, Ver.cse] at rT
      generalize takeB n v = b at *
      simp (disch := omega) [hd]
      refine cX 900 rP ?_
      simp (disch := omega) []
      refine T.textE [] ?_ mixed
      simp (disch := omega) [merge_nil, hideH_nil, hd]
      refine cWX 900 rT ?_
      cases b
      · rw [metB_not hx hm]
        simp (disch := omega) [merge_nil, hideH_nil]
      · simp (disch := omega) [merge_nil, hideH_nil]
        exact metB_snoc hJ hm
    | none =>
      have hm := met1_none hp
      rw [hp] at rP
      simp only [Option.getD_none, Option.isSome_none] at rP
      rw [Ver.cse] at rP
      simp (disch := omega) [hd]
      refine cX 900 rP ?_
      simp (disch := omega) []
      refine T.textE [] ?_ mixed
      rw [metB_not hx hm]
      simp (disch := omega) [merge_nil, hideH_nil]
set_option maxHeartbeats 2000000 in
theorem R89 (l : List Entry) (n : ByteArray) (v : Ver) (hl : l.length ≤ 1048577) (hz : ∀ p ∈ l, EntryY p) (hv : VerZ v) : Ret Tryz.prog 89 [.ro (rows Entry.ty.cs l) l.length, .sc (.string n), .agg (Ver.ty.cs v)] (.tup [.agg (Entry.ty.cs ((entryO l n v).getD ent0)), .sc (.bool (entryO l n v).isSome)]) [.un, .un, .un] := by
  have rW : ∀ ret', (entryO l n v = none → ret' = .tup [.agg [.sc (.string ⟨#[]⟩), .sc (.int .i64 0), .sc (.int .i64 0), .sc (.int .i64 0), .em, .em], .sc (.bool false)]) → (∀ e, entryO l n v = some e → ret' = .tup [.agg (Entry.ty.cs e), .sc (.bool true)]) → Ret Tryz.prog 89 [.ro (rows Entry.ty.cs l) l.length, .sc (.string n), .agg (Ver.ty.cs v)] ret' [.un, .un, .un] := by
    intro ret' h1 h2
    rw [Ver.cse]
    refine Ret.go Tryz.func89 ?_
    simp (disch := omega) []
    refine T.forL l (fun pre _ => ∀ y ∈ pre, atE n v y = false) (fun pre _ => [(0, .ro (rows Entry.ty.cs l) l.length), (1, .sc (.string n)), (5, .ref 5 0), (6, .ref 6 0), (8, .sc (.int .i64 pre.length))]) (fun _ _ => [(5, [.sc (.int .i64 v.a), .sc (.int .i64 v.b), .sc (.int .i64 v.c), .ro (rows Ty.str.cs v.pre) v.pre.length]), (6, [.sc (.string ⟨#[]⟩), .sc (.int .i64 0), .sc (.int .i64 0), .sc (.int .i64 0), .em, .em])]) (by simp) ?_ ?_
    · intro hJ
      rw [h1 (by rw [entryO, findN hJ])]
      simp (disch := omega) []
      refine T.on 400 ?_
      simp (disch := omega) []
    · intro pre x rest hx hl2 hJ
      have hd := entCells hx
      have hd1 : List.drop (pre.length * 6 + 1) (rows Entry.ty.cs l) = .sc (.int .i64 x.v.a) :: .sc (.int .i64 x.v.b) :: .sc (.int .i64 x.v.c) :: .ro (rows Ty.str.cs x.v.pre) x.v.pre.length :: .ro (rows Need.ty.cs x.needs) x.needs.length :: rows Entry.ty.cs rest := by rw [← List.drop_drop, hd]; rfl
      have xz := hz x (by rw [← hx]; simp)
      have rC := R90 x xz.v.n xz.l
      have rS := R94 x.v v xz.v.n
      rw [Entry.cse] at rC
      rw [Ver.cse, Ver.cse] at rS
      have hat : atE n v x = (x.name.toList == n.toList && sameV x.v v) := rfl
      generalize sameV x.v v = s at *
      by_cases h : x.name.toList = n.toList
      · rw [beq_iff_eq.2 h, Bool.true_and] at hat
        simp (disch := omega) [hd, hd1, h]
        refine T.textE [] ?_ mixed
        simp (disch := omega) [hd, hd1, h, merge_nil, hideH_nil]
        refine cWX 900 rS ?_
        cases s
        · simp (disch := omega) [merge_nil, hideH_nil]
          intro y hy
          rcases hy with hy | rfl
          · exact hJ y hy
          · exact hat
        · rw [h2 x (by rw [entryO, ← hx, find_mid hJ hat]), Entry.cse]
          simp (disch := omega) [merge_nil, hideH_nil, hd]
          refine cX 900 rC ?_
          simp (disch := omega) [ex1]
      · have hat : atE n v x = false := by rw [hat, beq_eq_false_iff_ne.2 h]; rfl
        simp (disch := omega) [hd, h]
        refine T.textE [] ?_ mixed
        simp (disch := omega) [hd, h, merge_nil, hideH_nil]
        intro y hy
        rcases hy with hy | rfl
        · exact hJ y hy
        · exact hat
  cases h : entryO l n v with
  | none =>
    refine Ret.weakW (rW _ (fun _ => rfl) (fun v e => by rw [h] at e; cases e)) (r1 := .tup [.agg [.sc (.string ⟨#[]⟩), .sc (.int .i64 0), .sc (.int .i64 0), .sc (.int .i64 0), .em, .em], .sc (.bool false)]) rfl fun M w v hv => W_tup1 (fun v h => W_aggS (by simp [subC, sub1, ent0, ver0, Entry.cse, rows]) h) hv
  | some v => exact rW _ (fun e => by rw [h] at e; cases e) (fun u e => by rw [h] at e; cases e; rfl)
set_option maxRecDepth 100000
theorem solvesL_not {r : List Entry} {l pre rest : List Pick} {p : Pick} (h : stepSo r l pre p = false) : solvesL r l pre (p :: rest) = false := by rw [solvesL, h]; rfl
theorem noName_t {pre : List Pick} {n : ByteArray} (h : ∀ q ∈ pre, atP n q = false) : noName pre n = true := by
  unfold noName
  exact List.all_eq_true.2 fun q hq => by rw [h q hq]; rfl
set_option maxHeartbeats 4000000 in
theorem R49 (r : List Entry) (needs : List Need) (l : List Pick) (hr : r.length ≤ 1048577) (zr : ∀ e ∈ r, EntryY e) (hn : needs.length ≤ 4194304) (zn : ∀ n ∈ needs, NeedZ n) (hl : l.length ≤ 1048577) (zl : ∀ p ∈ l, PickY p) : Ret Tryz.prog 49 [.ro (rows Entry.ty.cs r) r.length, .ro (rows Need.ty.cs needs) needs.length, .ro (rows Pick.ty.cs l) l.length] (.sc (.bool (solvesB r needs l))) [.un, .un, .un] := by
  have rM := R88 needs l hn zn hl zl
  unfold solvesB
  generalize metB needs l = mb at *
  generalize hC : solvesL r l [] l = tg
  refine Ret.go Tryz.func49 ?_
  simp (disch := omega) []
  refine cX 900 rM ?_
  cases mb
  · simp (disch := omega) []
  simp (disch := omega) []
  refine T.forL l (fun pre rest => solvesL r l pre rest = tg) (fun pre _ => [(0, .ro (rows Entry.ty.cs r) r.length), (2, .ro (rows Pick.ty.cs l) l.length), (7, .sc (.int .i64 pre.length))]) (fun _ _ => []) ⟨hC, by simp⟩ ?_ ?_
  · intro hJ
    have : tg = true := hJ.symm
    subst this
    simp (disch := omega) []
    refine T.on 400 ?_
    simp (disch := omega) []
  · intro pre p rest hx hl2 hJ
    have hd := pickCells hx
    have hd1 := pickCells1 hx
    have pz := zl p (by rw [← hx]; simp)
    have rE := R89 r p.name p.v hr zr pz.v
    rw [Ver.cse] at rE
    cases ho : entryO r p.name p.v with
    | none =>
      rw [solvesL_not (by unfold stepSo; rw [okP_none ho]; rfl)] at hJ
      subst hJ
      rw [ho] at rE
      simp only [Option.getD_none, Option.isSome_none] at rE
      rw [Entry.cse] at rE
      simp (disch := omega) []
      refine T.textE [(15, [8]), (16, [8])] ?_ mixed
      simp (disch := omega) [hd, hd1, merge_nil, hideH_nil]
      refine cWX 900 rE ?_
      simp (disch := omega) [merge_nil, hideH_nil]
    | some e =>
      rw [ho] at rE
      simp only [Option.getD_some, Option.isSome_some] at rE
      rw [Entry.cse] at rE
      have ez := zr e (List.mem_of_find?_eq_some ho)
      have rN := R88 e.needs l (by have := ez.l; omega) ez.z hl zl
      have ho := okP_some (l := l) ho
      generalize metB e.needs l = m2 at *
      simp (disch := omega) []
      refine T.textE [(15, [8]), (16, [8])] ?_ mixed
      simp (disch := omega) [hd, hd1, merge_nil, hideH_nil]
      refine cWX 900 rE ?_
      simp (disch := omega) [merge_nil, hideH_nil]
      refine cX 900 rN ?_
      cases m2
      · rw [solvesL_not (by unfold stepSo; rw [ho]; rfl)] at hJ
        subst hJ
        simp (disch := omega) []
      simp (disch := omega) []
      have hpx : pre.length < l.length := by rw [← hx]; simp
      refine T.forL pre (fun pr _ => ∀ q ∈ pr, atP p.name q = false) (fun pr _ => [(0, .ro (rows Entry.ty.cs r) r.length), (2, .ro (rows Pick.ty.cs l) l.length), (7, .sc (.int .i64 pre.length)), (10, .sc (.int .i64 pr.length))]) (fun _ _ => []) (by simp) ?_ ?_
      · intro hq
        rw [solvesL_yes (by unfold stepSo; rw [ho, noName_t hq]; rfl)] at hJ
        simp (disch := omega) []
        refine T.on 400 ?_
        simp (disch := omega) []
        exact hJ
      · intro pr q rs hx2 hl3 hq
        have hdq := pickCells (r := l) (pre := pr) (rest := rs ++ p :: rest) (x := q) (by rw [← hx, ← hx2]; simp)
        have hat : atP p.name q = (q.name.toList == p.name.toList) := rfl
        by_cases h : q.name.toList = p.name.toList
        · rw [beq_iff_eq.2 h] at hat
          rw [solvesL_not (by unfold stepSo; rw [noName_f (q := q) (by rw [← hx2]; simp) hat, Bool.and_false])] at hJ
          subst hJ
          simp (disch := omega) []
          refine T.textE [] ?_ mixed
          simp (disch := omega) [hd, hdq, h, merge_nil, hideH_nil]
        · rw [beq_eq_false_iff_ne.2 h] at hat
          simp (disch := omega) []
          refine T.textE [] ?_ mixed
          simp (disch := omega) [hd, hdq, h, merge_nil, hideH_nil]
          intro y hy
          rcases hy with hy | rfl
          · exact hq y hy
          · exact hat
set_option maxRecDepth 100000
def eachB (r : List Entry) (needs : List Need) : List ByteArray → List Pick → Bool
  | [], l => solvesB r needs l
  | n :: ns, l => eachB r needs ns l || (newestV r n).any fun e => eachB r needs ns (l ++ [⟨n, e.v⟩])
theorem eachB_some {r : List Entry} {needs : List Need} : ∀ (ns : List ByteArray) (l : List Pick), eachB r needs ns l = true → ∃ L, solvesB r needs L = true
  | [], l, h => ⟨l, h⟩
  | n :: ns, l, h => by
    rw [eachB, Bool.or_eq_true] at h
    rcases h with h | h
    · exact eachB_some ns l h
    · obtain ⟨e, _, he⟩ := List.any_eq_true.1 h
      exact eachB_some ns _ he
def AscS (l : List ByteArray) : Prop := l.Pairwise fun a b => bL a b = true
theorem eachB_of {r : List Entry} {needs : List Need} : ∀ (ns : List ByteArray) (L acc : List Pick), AscS ns → AscP L → (∀ p ∈ L, p.name ∈ ns ∧ ∃ e ∈ r, e.name = p.name ∧ e.v = p.v) → solvesB r needs (acc ++ L) = true → eachB r needs ns acc = true
  | [], [], acc, _, _, _, h => by rw [List.append_nil] at h; exact h
  | [], p :: L, acc, _, _, hm, _ => by cases (hm p (by simp)).1
  | n :: ns, [], acc, ha, hL, hm, h => by
    rw [eachB, eachB_of ns [] acc (List.pairwise_cons.1 ha).2 hL (fun p hp => by cases hp) h]; rfl
  | n :: ns, p :: L, acc, ha, hL, hm, h => by
    obtain ⟨a1, a2⟩ := List.pairwise_cons.1 ha
    obtain ⟨l1, l2⟩ := List.pairwise_cons.1 hL
    rw [eachB]
    by_cases hpn : p.name = n
    · obtain ⟨_, e, e1, e2, e3⟩ := hm p (by simp)
      have hin : e ∈ newestV r n := newestV_mem.2 ⟨e1, by rw [e2, hpn]⟩
      have hpe : p = ⟨n, e.v⟩ := by
        obtain ⟨pn, pv⟩ := p
        simp only at hpn e3
        rw [hpn, e3]
      have hrec : eachB r needs ns (acc ++ [⟨n, e.v⟩]) = true := by
        refine eachB_of ns L (acc ++ [⟨n, e.v⟩]) a2 l2 (fun q hq => ?_) (by rw [← hpe]; simpa using h)
        obtain ⟨q1, q2⟩ := hm q (List.mem_cons_of_mem _ hq)
        refine ⟨?_, q2⟩
        rcases List.mem_cons.1 q1 with q1 | q1
        · have := l1 q hq
          rw [q1, hpn, bL_irr] at this
          cases this
        · exact q1
      rw [List.any_eq_true.2 ⟨e, hin, hrec⟩, Bool.or_true]
    · have hp1 : p.name ∈ ns := by
        rcases List.mem_cons.1 (hm p (by simp)).1 with h1 | h1
        · exact absurd h1 hpn
        · exact h1
      have hrec : eachB r needs ns acc = true := by
        refine eachB_of ns (p :: L) acc a2 hL (fun q hq => ?_) h
        obtain ⟨q1, q2⟩ := hm q hq
        refine ⟨?_, q2⟩
        rcases List.mem_cons.1 q1 with q1 | q1
        · rcases List.mem_cons.1 hq with rfl | hq
          · exact absurd q1 hpn
          · have k1 := a1 _ hp1
            have k2 := l1 q hq
            rw [q1] at k2
            rw [bL_asy k1] at k2
            cases k2
        · exact q1
      rw [hrec]; rfl
theorem each_law {r : List Entry} {needs : List Need} {ns : List ByteArray} (hk : okN r needs = true) (ha : AscS ns) (hm : ∀ e ∈ r, e.name ∈ ns) : (solveI r needs 10000).2 = if eachB r needs ns [] = true then 0 else 1 := by
  obtain ⟨_, hu, _⟩ := okN_uni hk
  rcases solveI_all hk with ⟨l, a, b, c⟩ | ⟨a, b⟩
  · have : eachB r needs ns [] = true := by
      refine eachB_of ns l [] ha b (fun p hp => ?_) (by simpa using c)
      obtain ⟨e, e1, e2, e3, _⟩ := ((solvesB_iff hu).1 c).2.2 p hp
      exact ⟨by rw [← e2]; exact hm e e1, e, e1, e2, e3⟩
    rw [a, this]; rfl
  · have : eachB r needs ns [] = false := by
      cases h : eachB r needs ns []
      · rfl
      · obtain ⟨L, hL⟩ := eachB_some ns [] h
        rw [b L] at hL
        cases hL
    rw [a, this]; rfl
set_option maxRecDepth 100000
theorem getGl {α : Type} {l : List α} {n : Nat} (h : n < l.length) : ∃ y, l[n]? = some y ∧ (∀ h, l[n]'h = y) ∧ l.drop n = y :: l.drop (n + 1) :=
  ⟨l[n], List.getElem?_eq_getElem h, fun _ => rfl, List.drop_eq_getElem_cons h⟩
theorem overS {M R : List AV} {a x : AV} {k : Nat} (h : M.length = k) : over (M ++ a :: R) k [x] = M ++ x :: R := by
  subst h
  simp [over, List.set_append]
def compF (o : List ByteArray) (y : ByteArray) : List ByteArray := if (o.getLast?.any fun z => z.toList == y.toList) = true then o else o ++ [y]
def compactV (l : List ByteArray) : List ByteArray := l.foldl compF []
theorem compF_last (o : List ByteArray) (y : ByteArray) : ((compF o y).getLast?.map (·.toList)) = some y.toList := by
  unfold compF
  split
  · rename_i h
    cases hl : o.getLast? with
    | none => rw [hl] at h; simp at h
    | some z => rw [hl] at h; simp at h ⊢; exact h
  · simp
theorem compact_snoc (l : List ByteArray) (y : ByteArray) : compactV (l ++ [y]) = compF (compactV l) y := by simp [compactV]
theorem compact_last (l : List ByteArray) : (compactV l).getLast?.map (·.toList) = l.getLast?.map (·.toList) := by
  rcases List.eq_nil_or_concat l with rfl | ⟨k, y, rfl⟩
  · rfl
  · rw [List.concat_eq_append, compact_snoc, compF_last]; simp
theorem compact_step {l : List ByteArray} {i : Nat} {x y : ByteArray} (hi : 0 < i) (hx : l[i - 1]? = some x) (hy : l[i]? = some y) : compactV (l.take (i + 1)) = if x.toList = y.toList then compactV (l.take i) else compactV (l.take i) ++ [y] := by
  have e : l.take (i + 1) = l.take i ++ [y] := by rw [List.take_add_one, hy]; rfl
  have hl : (l.take i).getLast? = some x := by
    have hlt := (List.getElem?_eq_some_iff.1 hy).1
    rw [List.getLast?_eq_getElem?, List.length_take, Nat.min_eq_left (by omega), List.getElem?_take_of_lt (by omega), hx]
  have h2 := compact_last (l.take i)
  rw [hl] at h2
  rw [e, compact_snoc, compF]
  cases hc : (compactV (l.take i)).getLast? with
  | none => rw [hc] at h2; simp at h2
  | some z =>
    rw [hc] at h2
    simp at h2
    simp [h2]
theorem compact_len (l : List ByteArray) : (compactV l).length ≤ l.length := by
  have : ∀ (l o : List ByteArray), (l.foldl compF o).length ≤ o.length + l.length := by
    intro l
    induction l with
    | nil => intro o; exact Nat.le_refl _
    | cons x l ih =>
      intro o
      have h1 := ih (compF o x)
      have h2 : (compF o x).length ≤ o.length + 1 := by unfold compF; split <;> simp
      simp only [List.foldl_cons, List.length_cons]
      omega
  simpa [compactV] using this l []
theorem Ret.goL {P : Program} {f : FuncId} {fn : Func} {c : AC} {n : Nat} {args ys : List AV} {ρ1 ρ2 : Nat → AV} {h1 : Nat → Option (Option (List AV))} {rs : List QOp} {ret : AV} {outs : List AV} {m : Nat} (hf : P.funcs[f]? = some fn)
    (h : Am.run P (pinsOf args 0) 3000 c [] (leR (endR args ret outs rs)) ⟨ρ2, h1, n⟩) (hc : Cd P fn = (some c, n, some rs) := by conv => lhs; cbv)
    (hl : args.length ≤ n := by simp) (hent : entL 100000 args ⟨fun _ => .un, h0, n⟩ = some (ys, ⟨ρ1, h1, m⟩) := by rfl) (hρ : iniρ ys 0 = ρ2 := by rfl) : Ret P f args ret outs := by
  unfold Cd at hc
  simp only [Prod.mk.injEq] at hc
  exact Ret.runT hf hc hl hent hρ (run_ok h)
set_option maxHeartbeats 2000000 in
theorem R54 (l : List ByteArray) (hl : l.length ≤ 4398046511104) : Ret Tryz.prog 54 [.own (rows Ty.str.oc l) l.length 1] (.own (rows Ty.str.oc (compactV l)) (compactV l).length 1) [.un] := by
  have hM : ∀ q (l : List ByteArray), mens q (rows Ty.str.oc l) = true := fun q l => mens_idf (Ty.str.frL l)
  refine Ret.goL Tryz.func54 ?_
  by_cases h2 : l.length < 2
  · have e : compactV l = l := by
      match l, h2 with
      | [], _ => rfl
      | [x], _ => rfl
    simp (disch := omega) [leR_app]
    refine ⟨_, Le.refl _, ?_⟩
    simp (disch := omega) [ex1, e]
  simp (disch := omega) []
  refine T.forI (fun k => l.length - k) (fun k => 1 ≤ k ∧ k ≤ l.length ∧ compactV (l.take k) = l.take k) (fun k => [(0, .sl 100000 0 l.length 1 false), (3, .sc (.int .i64 k))]) (fun _ => [(100000, rows Ty.str.oc l)]) 1 ⟨⟨by omega, by omega, by match l, h2 with | x :: l, _ => rfl⟩, Tl.same rfl (by simp) (by simp [hM])⟩ ?_
  rintro k ⟨hk1, hk2, hJ⟩
  by_cases h8 : k < l.length
  case neg =>
    have e : compactV l = l := by rwa [List.take_of_length_le (by omega)] at hJ
    simp (disch := omega) []
    refine T.on 400 ?_
    simp [leR_app]
    refine ⟨_, Le.refl _, ?_⟩
    simp [ex1, e]
  obtain ⟨y, hy, _, hd⟩ := getGl h8
  obtain ⟨x, hx, _, hd1⟩ := getGl (show k - 1 < l.length by omega)
  have hst := compact_step hk1 hx hy
  have hdr : List.drop k (rows Ty.str.oc l) = .sc (.string y) :: rows Ty.str.oc (l.drop (k + 1)) := by rw [rowsO_drop, hd, rowsO_cons]
  have hdr1 : List.drop (k - 1) (rows Ty.str.oc l) = .sc (.string x) :: rows Ty.str.oc (l.drop (k - 1 + 1)) := by rw [rowsO_drop, hd1, rowsO_cons]
  have hk3 : ((k : Int) - 1).toNat = k - 1 := by omega
  simp (disch := omega) []
  refine T.text 400 mixed (by kernel_rfl) (by kernel_rfl) ?_
  by_cases hxy : x.toList = y.toList
  case neg =>
    have hyx : ¬ y.toList = x.toList := fun e => hxy e.symm
    rw [if_neg hxy, hJ] at hst
    simp (disch := omega) [hdr, hdr1, hk3, hyx]
    exact Ri_mk (k + 1) (by omega) ⟨by omega, by omega, by rw [hst, List.take_add_one, hy]; rfl⟩ (Tl.same rfl (by simp (disch := omega) []) (by simp [hM]))
  rw [if_pos hxy, hJ] at hst
  have hyx : y.toList = x.toList := hxy.symm
  simp (disch := omega) [hdr, hdr1, hk3, hyx]
  refine T.forI (fun j => l.length - k - j) (fun j => 1 ≤ j ∧ k + j ≤ l.length ∧ (compactV (l.take (k + j))).length + 1 ≤ k + j) (fun j => [(0, .sl 100000 0 l.length 1 false), (3, .sc (.int .i64 (compactV (l.take (k + j))).length)), (4, .sl 100000 k (l.length - k) 1 false), (5, .sc (.int .i64 j))]) (fun j => [(100000, rows Ty.str.oc (compactV (l.take (k + j)) ++ l.drop (compactV (l.take (k + j))).length))]) 1 ⟨⟨by omega, by omega, by rw [hst, List.length_take]; omega⟩, Tl.same rfl (by rw [hst]; simp; omega) (by rw [hst]; simp [hM, Nat.min_eq_left hk2])⟩ ?_
  rintro j ⟨hj1, hj2, hjL⟩
  obtain ⟨C, hC⟩ : ∃ C, compactV (l.take (k + j)) = C := ⟨_, rfl⟩
  rw [hC] at hjL
  have hCl := hjL
  have hRl : (rows Ty.str.oc (C ++ l.drop C.length)).length = l.length := by rw [show (rows Ty.str.oc (C ++ l.drop C.length)).length = _ from rowsS_len _, List.length_append, List.length_drop]; omega
  have hjn : (j : Int) < ((l.length - k : Nat) : Int) ↔ k + j < l.length := by omega
  by_cases h9 : k + j < l.length
  case neg =>
    have e : compactV l = C := by rw [← hC, List.take_of_length_le (by omega)]
    simp (disch := omega) [hC, h9, hjn, hRl]
    refine T.on 400 ?_
    have hpt : List.take C.length (putX (rows Ty.str.oc (C ++ l.drop C.length)) C.length (List.replicate (l.length - C.length) (.sc (.string (bs []))))) = rows Ty.str.oc C := by
      rw [rows_append, putX_at (show (rows Ty.str.oc C).length = _ from rowsS_len C), ← show (rows Ty.str.oc C).length = _ from rowsS_len C, List.take_left']
      rfl
    have hfr := Ty.str.frL C
    have hrc : (rows Ty.str.oc C).length = C.length := rowsS_len C
    simp (disch := omega) [hRl, dstA, leR_app]
    refine ⟨_, Le.trim 100000 C.length (by simp; rfl), ?_⟩
    simp [ex1, hrc, hfr, hpt, e]
  obtain ⟨y', hy', _, hd'⟩ := getGl h9
  obtain ⟨x', hx', _, hd1'⟩ := getGl (show k + j - 1 < l.length by omega)
  have hst' := compact_step (by omega) hx' hy'
  have hD : ∀ i, C.length ≤ i → List.drop i (rows Ty.str.oc (C ++ l.drop C.length)) = rows Ty.str.oc (l.drop i) := fun i hi => by
    rw [rowsO_drop, List.drop_append, List.drop_eq_nil_of_le hi, List.nil_append, List.drop_drop]
    congr 2; omega
  have hdr2 : List.drop (k + j) (rows Ty.str.oc (C ++ l.drop C.length)) = .sc (.string y') :: rows Ty.str.oc (l.drop (k + j + 1)) := by rw [hD _ (by omega), hd', rowsO_cons]
  have hdr3 : List.drop (k + (j - 1)) (rows Ty.str.oc (C ++ l.drop C.length)) = .sc (.string x') :: rows Ty.str.oc (l.drop (k + j - 1 + 1)) := by rw [hD _ (by omega), show k + (j - 1) = k + j - 1 by omega, hd1', rowsO_cons]
  have hj3 : ((j : Int) - 1).toNat = j - 1 := by omega
  simp (disch := omega) [hC, h9, hjn]
  refine T.text 400 mixed (by kernel_rfl) (by kernel_rfl) ?_
  rw [hC] at hst'
  by_cases hxy2 : x'.toList = y'.toList
  case pos =>
    rw [if_pos hxy2] at hst'
    simp (disch := omega) [hdr2, hdr3, hj3, hxy2]
    exact Ri_mk (j + 1) (by omega) ⟨by omega, by omega, by rw [show k + (j + 1) = k + j + 1 by omega, hst']; omega⟩ (Tl.same rfl (by rw [show k + (j + 1) = k + j + 1 by omega, hst']; simp (disch := omega) []) (by rw [show k + (j + 1) = k + j + 1 by omega, hst']; simp [hM]))
  have hyx2 : ¬ y'.toList = x'.toList := fun e => hxy2 e.symm
  rw [if_neg hxy2] at hst'
  simp (disch := omega) [hdr2, hdr3, hj3, hyx2]
  have hset : over (rows Ty.str.oc (C ++ l.drop C.length)) C.length [.sc (.string y')] = rows Ty.str.oc (C ++ [y'] ++ l.drop (C ++ [y']).length) := by
    have hc : C.length < l.length := by omega
    rw [List.drop_eq_getElem_cons hc, rows_append, rowsO_cons, overS (rowsS_len C), rows_append, rows_append, List.length_append, rowsO_cons, List.append_assoc]
    rfl
  simp only [over] at hset
  exact Ri_mk (j + 1) (by omega) ⟨by omega, by omega, by rw [show k + (j + 1) = k + j + 1 by omega, hst', List.length_append]; simp; omega⟩ (Tl.same rfl (by rw [show k + (j + 1) = k + j + 1 by omega, hst', List.length_append]; simp (disch := omega) []) (by rw [show k + (j + 1) = k + j + 1 by omega, hst']; simp [hM, hset]))
set_option maxRecDepth 100000
theorem R123 : Ret Tryz.prog 123 [.ro [] 0, .sc (.int .i64 0), .sc (.int .i64 0)] (.tup []) [.un, .un, .un] := by
  refine Ret.go Tryz.func123 ?_
  simp (disch := omega) []
  refine T.forI (fun _ : Unit => 0) (fun _ => True) (fun _ => [(2, .sc (.int .i64 0)), (6, .sc (.int .i64 1))]) (fun _ => []) () ⟨trivial, Tl.same rfl (by simp (disch := omega) []) (by simp)⟩ ?_
  rintro _ _
  simp (disch := omega) []
theorem R112 : Ret Tryz.prog 112 [.sc (.int .u64 0)] (.sc (.int .i64 0)) [.un] := by
  refine Ret.go Tryz.func112 ?_
  simp (disch := omega) [show IntKind.u8.wrap 0 = 0 from rfl]
theorem R68 : Ret Tryz.prog 68 [.sc (.int .u64 0)] (.sc (.int .i64 0)) [.un] := by
  refine Ret.go Tryz.func68 ?_
  simp (disch := omega) []
  refine cR R112 ?_
  simp (disch := omega) []
theorem R92 : Ret Tryz.prog 92 [.ro [] 0, .sc (.int .i64 0), .sc (.int .i64 0), .sc (.int .i64 0)] (.tup []) [.un, .un, .un, .un] := by
  refine Ret.go Tryz.func92 ?_
  simp (disch := omega) []
  refine T.forI (fun _ : Unit => 0) (fun _ => True) (fun _ => [(0, .ro [] 0), (1, .sc (.int .i64 0)), (2, .sc (.int .i64 0))]) (fun _ => []) () ⟨trivial, Tl.same rfl (by simp (disch := omega) []) (by simp)⟩ ?_
  rintro _ _
  simp (disch := omega) []
  refine cR R123 ?_
  simp (disch := omega) []
theorem R52E : Ret Tryz.prog 52 [.ro [] 0] (.tup []) [.un] := by
  refine Ret.go Tryz.func52 ?_
  simp (disch := omega) [show IntKind.u64.wrap 0 = 0 from rfl]
  refine cR R68 ?_
  simp (disch := omega) []
  refine cR R92 ?_
  simp (disch := omega) []
theorem R53 (xs : List ByteArray) : Ret Tryz.prog 53 [.own (rows Ty.str.oc xs) xs.length 1] (.own (rows Ty.str.oc xs) xs.length 1) [.un] := Ret.clip Ty.str Tryz.func53 ⟨by kernel_rfl, by kernel_rfl, by kernel_rfl⟩ xs
theorem srt {P : Program} {p : List Nat} {fx a : AX} {dst : Option Nat} {st : St} {K : St → Prop} {f : FuncId} {b : Nat} {l : List ByteArray} (hE : Ret P f [.ro [] 0] (.tup []) [.un]) (hR : l ≠ [] → Ret P f [.io (rows Ty.str.oc l) l.length 1] (.tup []) [.io (rows Ty.str.oc (sortM l)) (sortM l).length 1]) (hf : fx.ev st.ρ = .clo f []) (hc : callB P f = true)
    (ha : a.ev st.ρ = .sl b 0 l.length 1 false) (hb : st.h b = some (some (rows Ty.str.oc l))) (hd : dOk p dst st.n = true) (hK : K ((st.put b (some (rows Ty.str.oc (sortM l)))).setO dst (.tup []))) : callK P p fx [a] dst st K := by
  have hl := rowsS_len l
  have hi := Ty.str.frL l
  have hl' := rowsS_len (sortM l)
  have hs := sortM_len l
  by_cases h0 : l = []
  · subst h0
    have e : st.put b (some (rows Ty.str.oc (sortM []))) = st := by
      have : rows Ty.str.oc (sortM []) = rows Ty.str.oc [] := by
        have : sortM [] = [] := List.length_eq_zero_iff.1 hs
        rw [this]
      rw [this]
      cases st
      simp only [St.put] at hb ⊢
      congr 1
      funext i
      by_cases ei : i = b
      · subst ei; rw [upd_same, hb]
      · rw [upd_ne _ _ ei]
    rw [e] at hK
    refine callK.ro 0 (st3 := st) (y := .tup []) hf hc (ys := [.ro [] 0]) ?_ hE rfl rfl hd hK
    have e1 : roc st.h 8 (.sl b 0 0 1 false) = some (.ro [] 0) := roc_sl hb hl (by rfl)
    have ha' : a.ev st.ρ = .sl b 0 0 1 false := ha
    simp [ha', e1]
  · refine callK.gen [.io] 0 (st1 := st.put b none) (fl := [(.io, .sl b 0 l.length 1 false)]) (r := [(some (.io (rows Ty.str.oc l) l.length 1), some b)]) (yl := [.io (rows Ty.str.oc l) l.length 1]) (ys := [.io (rows Ty.str.oc l) l.length 1]) (ol := [.io (rows Ty.str.oc (sortM l)) (sortM l).length 1]) (st2 := st.put b (some (rows Ty.str.oc (sortM l)))) (st3 := st.put b (some (rows Ty.str.oc (sortM l)))) hf hc rfl ?_ ?_ ?_ rfl (hR h0) rfl ⟨by rfl, ?_⟩ ?_ (by rfl) ?_ hK
    · simp [ha]; rfl
    · simp [exL, ex1, hb, hi]
    · simp [shutArgs]
    · simpa [flt.fltL, flt] using Ty.str.flo (sortM l)
    · have eg : ((st.put b none).put b (some (rows Ty.str.oc (sortM l)))) = st.put b (some (rows Ty.str.oc (sortM l))) := by
        simp only [St.put]
        congr 1
        funext i
        by_cases ei : i = b
        · subst ei; rw [upd_same, upd_same]
        · rw [upd_ne _ _ ei, upd_ne _ _ ei, upd_ne _ _ ei]
      have ig : isGone ((st.put b none).h b) = true := by simp only [St.put]; rw [upd_same]; rfl
      simp [backL, hs, ig, eg]
    · exact hd
theorem R21 (l : List ByteArray) (hl : l.length ≤ 4398046511104) : Ret Tryz.prog 21 [.ro (rows Ty.str.cs l) l.length] (.own (rows Ty.str.oc (compactV (sortM l))) (compactV (sortM l)).length 1) [.un] := by
  refine Ret.go Tryz.func21 ?_
  simp (disch := omega) []
  refine cO 5 (R51 l hl) ?_ (Ty.str.flo _)
  simp (disch := omega) []
  refine srt (b := 5) (l := l) R52E (fun h => Ret.sortOf Tryz.laysSort rfl l h (by omega)) rfl (by kernel_rfl) (by simp) (by simp) (by rfl) ?_
  simp (disch := omega) []
  have h2 := compact_len (sortM l)
  have h3 := sortM_len l
  have hi := Ty.str.frL (sortM l)
  have hi2 := Ty.str.frL (compactV (sortM l))
  refine callK.mv1 (len := (sortM l).length) (sz := 1) 9 5 rfl (by kernel_rfl) (by simp [h3]) (by simp) (by rw [rowsS_len]; omega) hi rfl (R54 (sortM l) (by omega)) (Ty.str.flo _) rfl rfl ?_
  simp (disch := omega) []
  refine callK.mv1 (len := (compactV (sortM l)).length) (sz := 1) 10 9 rfl (by kernel_rfl) (by simp) (by simp) (by rw [rowsS_len]; omega) hi2 rfl (R53 (compactV (sortM l))) (Ty.str.flo _) rfl rfl ?_
  simp (disch := omega) [ex1, hi2]
set_option maxRecDepth 100000
theorem compF_mem (o : List ByteArray) (y x : ByteArray) : x ∈ compF o y ↔ x ∈ o ∨ x = y := by
  unfold compF
  split
  · rename_i h
    refine ⟨.inl, fun h2 => ?_⟩
    rcases h2 with h2 | rfl
    · exact h2
    cases hl : o.getLast? with
    | none => rw [hl] at h; simp at h
    | some z =>
      rw [hl] at h
      simp at h
      have hz : z = x := by
        have h3 : z.data.toList = x.data.toList := by rw [← Lib.toList_data, ← Lib.toList_data, h]
        exact ByteArray.ext (Array.ext' h3)
      rw [← hz]
      exact List.mem_of_getLast? hl
  · simp
theorem compactV_mem (l : List ByteArray) (x : ByteArray) : x ∈ compactV l ↔ x ∈ l := by
  have : ∀ (l o : List ByteArray), x ∈ l.foldl compF o ↔ x ∈ o ∨ x ∈ l := by
    intro l
    induction l with
    | nil => intro o; simp
    | cons y l ih => intro o; rw [List.foldl_cons, ih, compF_mem, List.mem_cons, or_assoc]
  rw [compactV, this]
  simp
theorem sortM_mem (l : List ByteArray) (x : ByteArray) : x ∈ sortM l ↔ x ∈ l := by
  have hb : ∀ z : ByteArray, bs z.toList = z := fun z => by rw [Lib.toList_data]; rfl
  unfold sortM
  rw [List.mem_map]
  constructor
  · rintro ⟨y, hy, rfl⟩
    rw [List.mem_mergeSort] at hy
    simp only [bytesL, List.mem_map] at hy
    obtain ⟨z, hz, rfl⟩ := hy
    first | rwa [hb] | exact hz
  · intro h
    refine ⟨x.toList, ?_, hb x⟩
    rw [List.mem_mergeSort]
    first | exact List.mem_map.2 ⟨x, h, rfl⟩ | exact List.mem_map.2 ⟨x, h, (Lib.toList_data x).symm⟩
def ltS (x y : ByteArray) : Prop := x.toList < y.toList
theorem ltS_tr {x y z : ByteArray} (h1 : ltS x y) (h2 : ltS y z) : ltS x z := List.lt_trans h1 h2
theorem compact_asc : ∀ (l o : List ByteArray), o.Pairwise ltS → l.Pairwise (fun x y => x = y ∨ ltS x y) → (∀ x ∈ o, ∀ y ∈ l, x = y ∨ ltS x y) → (l.foldl compF o).Pairwise ltS
  | [], o, h, _, _ => h
  | y :: l, o, h, hl, hol => by
    rw [List.pairwise_cons] at hl
    refine compact_asc l (compF o y) ?_ hl.2 ?_
    · unfold compF
      split
      · exact h
      · rename_i hn
        rw [List.pairwise_append]
        refine ⟨h, List.pairwise_singleton .., fun x hx z hz => ?_⟩
        rw [List.mem_singleton.1 hz]
        rcases List.eq_nil_or_concat o with rfl | ⟨k, w, rfl⟩
        · cases hx
        rw [List.concat_eq_append] at *
        have hw : ltS w y := by
          rcases hol w (by simp) y (List.mem_cons_self ..) with e | h2
          · exact absurd (by simp [e]) hn
          · exact h2
        rcases List.mem_append.1 hx with h3 | h3
        · exact ltS_tr ((List.pairwise_append.1 h).2.2 x h3 w (by simp)) hw
        · rw [List.mem_singleton.1 h3]; exact hw
    · intro x hx z hz
      rcases (compF_mem o y x).1 hx with h2 | rfl
      · exact hol x h2 z (List.mem_cons_of_mem _ hz)
      · exact hl.1 z hz
theorem sortM_asc (l : List ByteArray) : (sortM l).Pairwise fun x y => x = y ∨ ltS x y := by
  have hs : ((bytesL l).mergeSort fun x y => decide (x ≤ y)).Pairwise fun x y => (decide (x ≤ y)) = true :=
    List.pairwise_mergeSort (fun a b c h1 h2 => by simp at h1 h2 ⊢; exact List.le_trans h1 h2) (fun a b => by simp; exact List.le_total a b) _
  unfold sortM
  rw [List.pairwise_map]
  refine hs.imp fun {x y} h => ?_
  simp at h
  rcases List.le_iff_lt_or_eq.1 h with h | h
  · exact .inr (by unfold ltS; rw [bs_toList, bs_toList]; exact h)
  · exact .inl (by rw [h])
set_option maxRecDepth 100000
set_option maxHeartbeats 4000000 in
theorem R20 (r : List Entry) (needs : List Need) (h : SolveZ r needs) (h12 : r.length ≤ 12) : ∀ (ns : List ByteArray) (l : List Pick), ns.length + l.length ≤ 1000 → (∀ n ∈ ns, n.size ≤ 1048577) → (∀ p ∈ l, PickY p) → Ret Tryz.prog 20 [.ro (rows Entry.ty.cs r) r.length, .ro (rows Need.ty.cs needs) needs.length, .ro (rows Ty.str.cs ns) ns.length, .ro (rows Pick.ty.cs l) l.length] (.sc (.bool (eachB r needs ns l))) [.un, .un, .un, .un] := by
  intro ns
  induction ns with
  | nil =>
    intro l hl _ hz
    have rS := R49 r needs l (by omega) h.rz (by have := h.nl; omega) h.nz (by simp at hl; omega) hz
    rw [show eachB r needs [] l = solvesB r needs l from rfl]
    generalize solvesB r needs l = b at *
    refine Ret.go Tryz.func20 ?_
    simp (disch := omega) []
    refine cX 900 rS ?_
    simp (disch := omega) []
  | cons n ns ih =>
    intro l hl hn hz
    simp only [List.length_cons] at hl
    have hn' : ∀ m ∈ ns, m.size ≤ 1048577 := fun m hm => hn m (List.mem_cons_of_mem _ hm)
    have r1 := ih l (by omega) hn' hz
    have rN := R50 r n h12 h.rz
    have hrn : rows Ty.str.cs (n :: ns) = .sc (.string n) :: rows Ty.str.cs ns := rowsC_cons ..
    have hrt : List.take ns.length (rows Ty.str.cs ns) = rows Ty.str.cs ns := List.take_of_length_le (by rw [rowsC_len]; exact Nat.le_refl _)
    have hE : eachB r needs (n :: ns) l = (eachB r needs ns l || (newestV r n).any fun e => eachB r needs ns (l ++ [⟨n, e.v⟩])) := rfl
    have hEY : ∀ e ∈ newestV r n, EntryY e := fun e he => h.rz e (newestV_mem.1 he).1
    have hln : (newestV r n).length ≤ 12 := by
      rw [newestV, sortI_len]
      exact Nat.le_trans (List.length_filter_le _ _) h12
    have hn0 : ¬ ((ns.length : Int) + 1 = 0) := by omega
    have hn1 : (0 : Int) < (ns.length : Int) + 1 := by omega
    have hpl : plain.plainL (rows Pick.ty.cs l) = true := Pick.ty.plC l
    have hcl := Pick.csl l
    rw [hE, hrn]
    generalize eachB r needs ns l = b1 at *
    cases b1
    case true =>
      refine Ret.go Tryz.func20 ?_
      simp (disch := omega) [hn0, hrt]
      refine cX 900 r1 ?_
      simp (disch := omega) []
    rw [Bool.false_or]
    generalize hC : ((newestV r n).any fun e => eachB r needs ns (l ++ [⟨n, e.v⟩])) = tg
    generalize newestV r n = all at *
    refine Ret.go Tryz.func20 ?_
    simp (disch := omega) [hn0, hrt]
    refine cX 900 r1 ?_
    simp (disch := omega) [hn1]
    refine cX 900 rN ?_
    simp (disch := omega) []
    refine T.forL all (fun _ rest => (rest.any fun e => eachB r needs ns (l ++ [⟨n, e.v⟩])) = tg) (fun pre _ => [(0, .ro (rows Entry.ty.cs r) r.length), (1, .ro (rows Need.ty.cs needs) needs.length), (2, .ro (.sc (.string n) :: rows Ty.str.cs ns) (ns.length + 1)), (3, .ro (rows Pick.ty.cs l) l.length), (9, .ro (rows Entry.ty.cs all) all.length), (10, .sc (.int .i64 pre.length))]) (fun _ _ => []) ⟨hC, by simp⟩ ?_ ?_
    · intro hJ
      have : tg = false := hJ.symm
      subst this
      simp (disch := omega) []
      refine T.on 400 ?_
      simp (disch := omega) []
    · intro pre e rest hx hl2 hJ
      have hem : e ∈ all := by rw [← hx]; simp
      have hde1 : List.drop (pre.length * 6 + 1) (rows Entry.ty.cs all) = .sc (.int .i64 e.v.a) :: .sc (.int .i64 e.v.b) :: .sc (.int .i64 e.v.c) :: .ro (rows Ty.str.cs e.v.pre) e.v.pre.length :: .ro (rows Need.ty.cs e.needs) e.needs.length :: rows Entry.ty.cs rest := by rw [← List.drop_drop, entCells hx]; rfl
      have hsn := hn n (by simp)
      have r2 := ih (l ++ [⟨n, e.v⟩]) (by simp; omega) hn' (fun p hp => by
        rcases List.mem_append.1 hp with hp | hp
        · exact hz p hp
        · rw [List.mem_singleton.1 hp]; exact ⟨hsn, (hEY e hem).v⟩)
      have hadd : rows Pick.ty.cs (l ++ [⟨n, e.v⟩]) = rows Pick.ty.cs l ++ [.sc (.string n), .sc (.int .i64 e.v.a), .sc (.int .i64 e.v.b), .sc (.int .i64 e.v.c), .ro (rows Ty.str.cs e.v.pre) e.v.pre.length] := by rw [rows_append, rows_one]; rfl
      have hshp : shut.shutL (rows Pick.ty.cs (l ++ [⟨n, e.v⟩])) = true := shutL_of (rows_all Pick.ty.sh _)
      have hcl2 := Pick.csl (l ++ [⟨n, e.v⟩])
      have hlen : (l ++ [(⟨n, e.v⟩ : Pick)]).length = l.length + 1 := by simp
      rw [hadd] at hshp hcl2 r2
      rw [hlen] at hcl2 r2
      rw [List.any_cons] at hJ
      generalize eachB r needs ns (l ++ [⟨n, e.v⟩]) = b2 at *
      have hro : ∀ h : Hp, ∀ b, h b = some (some (rows Pick.ty.cs l ++ [.sc (.string n), .sc (.int .i64 e.v.a), .sc (.int .i64 e.v.b), .sc (.int .i64 e.v.c), .ro (rows Ty.str.cs e.v.pre) e.v.pre.length])) → roc h 8 (.sl b 0 (l.length + 1) 5 false) = some (.ro (rows Pick.ty.cs l ++ [.sc (.string n), .sc (.int .i64 e.v.a), .sc (.int .i64 e.v.b), .sc (.int .i64 e.v.c), .ro (rows Ty.str.cs e.v.pre) e.v.pre.length]) (l.length + 1)) := fun h b hb => roc_sl hb hcl2 hshp
      simp (disch := omega) []
      refine T.textE [(4, [39]), (6, [39, 41]), (16, [51]), (17, [41, 51, 52])] ?_ mixed
      simp (disch := omega) [merge_nil, hideH_nil, hrt, hn1, hde1, hpl, hcl]
      refine cW 0 r2 ?_ (hys := by simp [roc_ro, roc_sc, hro])
      cases b2
      · simp (disch := omega) [merge_nil, hideH_nil]
        simpa using hJ
      · have : tg = true := by rw [← hJ]; rfl
        subst this
        simp (disch := omega) [merge_nil, hideH_nil]
set_option maxRecDepth 100000
set_option maxHeartbeats 8000000 in
theorem R5 (code : List Int) (hx : Ty.byte.slice.ok code) : Ret Tryz.prog 5 [.ro (rows Ty.byte.cs code) code.length] (.sc (.bool true)) [.un] := by
  change Ret Tryz.prog 5 [.ro (rows B code) code.length] (.sc (.bool true)) [.un]
  have rBig := R6 code
  have rD := R7 code hx
  have hc := newC_ok hx
  obtain ⟨k1, k2, k3, k4⟩ := regF_D hc
  have kB := regF_B hc
  obtain ⟨n1, n2, n3⟩ := needs9F_D k4
  have hok : okN (regF (newC code)).1 (needs9F (regF (newC code)).2).1 = true := by
    unfold okN
    rw [kB, Bool.true_and]
    exact List.all_eq_true.2 fun n hn => (n1 n hn).b
  have hsz : SolveZ (regF (newC code)).1 (needs9F (regF (newC code)).2).1 := ⟨by omega, fun e he => (k2 e he).y, by omega, fun n hn => (n1 n hn).z⟩
  have h12 : (regF (newC code)).1.length ≤ 12 := by omega
  generalize (needs9F (regF (newC code)).2).1 = needs at *
  generalize (regF (newC code)).1 = r at *
  have rS1 := (R8 r needs 10000 hsz).cool (cool_tup (cool_own (shutL_of (rows_all Pick.ty.sh _))) rfl)
  have rSr := R21 (r.map (·.name)) (by rw [List.length_map]; omega)
  have hcm : ∀ x, x ∈ compactV (sortM (r.map (·.name))) ↔ ∃ e ∈ r, e.name = x := fun x => by rw [compactV_mem, sortM_mem, List.mem_map]
  have hca : AscS (compactV (sortM (r.map (·.name)))) := by
    have h0 : (compactV (sortM (r.map (·.name)))).Pairwise ltS := by
      unfold compactV
      exact compact_asc _ [] List.Pairwise.nil (sortM_asc _) (fun x hx => by cases hx)
    refine List.Pairwise.imp (fun {a b} h => ?_) h0
    refine bL_lt.2 ?_
    unfold ltS at h
    rwa [Lib.toList_data, Lib.toList_data] at h
  have hcl : (compactV (sortM (r.map (·.name)))).length ≤ 12 := by
    have h1 := compact_len (sortM (r.map (·.name)))
    have h2 := sortM_len (r.map (·.name))
    rw [List.length_map] at h2
    omega
  have hlaw := each_law (ns := compactV (sortM (r.map (·.name)))) hok hca (fun e he => (hcm e.name).2 ⟨e, he, rfl⟩)
  have rE := R20 r needs hsz h12 (compactV (sortM (r.map (·.name)))) [] (by simp; omega) (fun n hn => by
    obtain ⟨e, he, rfl⟩ := (hcm n).1 hn
    exact (hsz.rz e he).a) (fun p hp => by cases hp)
  obtain ⟨l, ci, e1⟩ : ∃ (l : List Pick) (ci : Int), solveI r needs 10000 = (l, ci) := ⟨_, _, rfl⟩
  rw [e1] at rS1 hlaw
  simp only [rows_nil, List.length_nil] at rS1 hlaw rE
  have hrl := rowsS_len (compactV (sortM (r.map (·.name))))
  generalize compactV (sortM (r.map (·.name))) = ns at *
  generalize eachB r needs ns [] = eb at *
  have hnl : (rows Ty.str.oc (r.map (·.name))).length = r.length := by rw [rowsS_len, List.length_map]
  clear k1 k2 k3 k4 kB n1 n2 n3
  refine Ret.go Tryz.func5 ?_
  simp (disch := omega) []
  refine cX 900 rBig ?_
  by_cases hbig : (1048576 : Int) < code.length
  · simp (disch := omega) [hbig]
  simp (disch := omega) [hbig]
  refine cX 900 rD ?_
  simp (disch := omega) []
  refine cX 900 rS1 ?_
  simp (disch := omega) []
  refine T.cutL [(3, .ro (rows Entry.ty.cs r) r.length), (4, .ro (rows Need.ty.cs needs) needs.length), (6, .sc (.int .i64 ci)), (7, .sl 50 0 r.length 1 false)] [(50, rows Ty.str.oc (r.map (·.name)))] ?_ ?_
  · refine T.forR r (fun _ _ => True) (fun pre _ => [(3, .ro (rows Entry.ty.cs r) r.length), (4, .ro (rows Need.ty.cs needs) needs.length), (6, .sc (.int .i64 ci)), (7, .sl 50 0 pre.length 1 false), (8, .sc (.int .i64 pre.length))]) (fun pre _ => [(50, rows Ty.str.oc (pre.map (·.name)))]) ⟨trivial, Tl.ren [(22, 50)] rfl (by simp [rows_nil, idfree, idfree.idfreeL])⟩ ?_ ?_
    · intro _
      simp (disch := omega) []
      exact Tl.same rfl (by simp (disch := omega) []) (by simp [mens_idf (rowsS_fr _)])
    · intro pre e rest hx2 hl2 _
      have hd := entCells hx2
      have hpl : (rows Ty.str.oc (pre.map (·.name))).length = pre.length := by rw [rowsS_len, List.length_map]
      have hadd : rows Ty.str.oc (pre.map (·.name) ++ [e.name]) = rows Ty.str.oc (pre.map (·.name)) ++ [.sc (.string e.name)] := by rw [rows_append]; rfl
      have hi := rowsS_fr (pre.map (·.name) ++ [e.name])
      rw [hadd] at hi
      simp (disch := omega) [hd, hpl]
      exact Tl.ren [(36, 50)] rfl (by simp [hadd, hi, idfree, idfree.idfreeL])
  · have hrs : ∀ h : Hp, h 50 = some (some (rows Ty.str.oc (r.map (·.name)))) → roc h 8 (.sl 50 0 r.length 1 false) = some (.ro (rows Ty.str.cs (r.map (·.name))) r.length) := fun h hb => roc_sl hb (by rw [Nat.mul_one]; exact hnl) (strShut _)
    rw [List.length_map] at rSr
    simp (disch := omega) []
    refine cO 40 rSr ?_ (Ty.str.flo _) (hys := by simp [hrs])
    simp (disch := omega) []
    have hre : ∀ h : Hp, h 41 = some (some []) → roc h 8 (.sl 41 0 0 5 false) = some (.ro [] 0) := fun h hb => roc_sl hb rfl rfl
    refine cR rE ?_ (hys := by simp [roc_ro, rocS, hre])
    cases eb
    · rw [if_neg (by decide)] at hlaw
      subst hlaw
      simp (disch := omega) []
    · rw [if_pos rfl] at hlaw
      subst hlaw
      simp (disch := omega) []
end Go.Proofs.YtiejaibmcmicoaaGreatDoor.Am
