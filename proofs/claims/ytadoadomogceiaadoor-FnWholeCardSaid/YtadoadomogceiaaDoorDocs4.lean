/- The functions of the program, each by its contract: Docs4; no condition. -/
import Derived.Test.YtadoadomogceiaaDoorProg
import Derived.Test.YtadoadomogceiaaDoorAmZ
import Derived.Test.YtadoadomogceiaaDoorAmP
import Derived.Test.YtadoadomogceiaaDoorDocs3
import Derived.KernelRfl
namespace Go.Proofs.YtadoadomogceiaaDoor.Am
open Go Go.Proofs
set_option linter.unusedSimpArgs false
set_option linter.unusedVariables false
attribute [local congr] T_congr callK_congr callWK_congr
attribute [local simp] run_nil run_op0 run_opg run_seq run_cond run_block run_ret run_skip run_skip_after run_skip_blk run_exit run_exit_after run_exit_blk run_loop run_any runS_nil runS_op0 runS_opg runW_nil runW_op0 runW_opg exec_q exec_w exec_c exec_n execW_q execW_w execW_c restW_app hideH_app merge_app wblk rest_app restS_app execS_q execS_c aval dOk upd_app ev_t ev_c setO_some setO_none put_mk pinsOf isIo hasIo sbin endR fin resL one outL out1 clo1 cloL coe coeL shut shut.shutL wantA weff cellsOf fillA deref natOf ρ0_app h0_app plain plain.plainL keep_app keepH_app andThen_normal andThen_ret andThen_exit pop_nil pop_after pop_after_ret pop_after_exit pop_blk pop_blk_ret pop_blk_exit nilA srcOf srcCells keepR_app keepHR_app renA rb
structure Fl where
  v : Bool
def gtrB (a b : ByteArray) : Bool := !Op.bytesLess a.toList b.toList && !(a.toList == b.toList)
def putG (f : Doc) : List Doc → Bool → List Doc
  | [], d => if d then [] else [f]
  | x :: xs, d => if x.name.toList = f.name.toList then putG f xs d else if (!d && gtrB x.name f.name) = true then f :: x :: putG f xs true else x :: putG f xs d
theorem docId (xs : List Doc) : ∀ y ∈ rows Doc.ty.oc xs, idfree y = true := rows_all (fun x c hc => (Doc.ty.ow x c hc).fr) xs
theorem putG_true (f : Doc) : ∀ xs, putG f xs true = noD f.name xs
  | [] => rfl
  | x :: xs => by
    have ih := putG_true f xs
    by_cases h : x.name.toList = f.name.toList
    · rw [putG, if_pos h, ih]; simp [noD, sameN, h]
    · rw [putG, if_neg h, ih]; simp [noD, sameN, h]
theorem putG_false (f : Doc) : ∀ xs, putG f xs false = insD f (noD f.name xs)
  | [] => by simp [putG, insD, noD]
  | x :: xs => by
    have ih := putG_false f xs
    by_cases h : x.name.toList = f.name.toList
    · rw [putG, if_pos h, ih]; simp [noD, sameN, h]
    · have e : noD f.name (x :: xs) = x :: noD f.name xs := by simp [noD, sameN, h]
      rw [putG, if_neg h, e]
      cases hl : Op.bytesLess x.name.toList f.name.toList
      · have hg : gtrB x.name f.name = true := by simp [gtrB, hl, h]
        have hn : lessN f.name x = false := hl
        rw [if_pos (by simp [hg]), putG_true]
        simp [insD, hn]
      · have hg : gtrB x.name f.name = false := by simp [gtrB, hl]
        have hn : lessN f.name x = true := hl
        rw [if_neg (by simp [hg]), ih]
        simp [insD, hn]
theorem putD_G (xs : List Doc) (f : Doc) : putD xs f = if 6 < (putG f xs false).length then xs else putG f xs false := by
  rw [putG_false, insD_len]
  unfold putD
  by_cases h : 6 ≤ (noD f.name xs).length
  · rw [if_pos h, if_pos (by omega)]
  · rw [if_neg h, if_neg (by omega)]
/- 85: loop.example/g00464/spec.l22At -/
def A85 : AC := (.seq (.ops [⟨(some 4), none, .q (.mov (.c (.sc (.int .i64 0))))⟩])
  (.seq (.seq (.ops [⟨(some 5), none, .q (.mov (.c (.sc (.int .i64 0))))⟩])
  (.block 0 (.loop (.seq (.seq (.ops [⟨(some 6), none, .q (.mov (.t 5))⟩, ⟨(some 7), none, .q (.mov (.t 0))⟩, ⟨(some 8), none, .q (.llen (.t 7))⟩, ⟨(some 9), none, .q (.bin .lss (.t 6) (.t 8))⟩])
  (.cond (.t 9) .skip
  (.exit 0)))
  (.seq (.block 1 (.seq (.ops [⟨(some 12), none, .q (.mov (.t 0))⟩, ⟨(some 13), none, .q (.mov (.t 5))⟩, ⟨(some 14), none, .q (.iadr 2 (.t 12) (.t 13))⟩, ⟨(some 15), none, .q (.fadr 0 (.t 14))⟩, ⟨(some 16), none, .q (.load false 1 (.t 15))⟩, ⟨(some 17), none, .q (.mov (.t 1))⟩, ⟨(some 18), none, .q (.bin .eql (.t 16) (.t 17))⟩])
  (.cond (.t 18) (.seq (.ops [⟨(some 19), none, .q (.mov (.t 5))⟩, ⟨(some 4), none, .q (.mov (.t 19))⟩])
  .ret)
  .skip)))
  (.ops [⟨(some 10), none, .q (.mov (.t 5))⟩, ⟨(some 11), none, .q (.bin .add (.t 10) (.c (.sc (.int .i64 1))))⟩, ⟨(some 5), none, .q (.mov (.t 11))⟩]))))))
  (.seq (.ops [⟨(some 4), none, .q (.mov (.c (.sc (.int .i64 (-1)))))⟩])
  .ret)))
theorem K85 : Tryd.f85.body.bind (comp Tryd.prog) = some A85 ∧ Tryd.f85.ntmps = 20 ∧ Tryd.f85.results.toList.mapM (resB Tryd.prog) = some [.mov (.t 4)] := ⟨by kernel_rfl, by kernel_rfl, by kernel_rfl⟩
theorem R85 (xs : List Doc) (n : ByteArray) (hb : xs.length < 4611686018427387904) : Ret Tryd.prog 85 [.ro (rows Doc.ty.cs xs) xs.length, .sc (.string n)] (.sc (.int .i64 (docIx n xs))) [.un, .un] := by
  refine Ret.run Tryd.func85 K85 (by simp) rfl rfl 500 ?_
  simp [A85, iniρ]
  refine T.rounds (μ := fun i : List Doc × List Doc => i.2.length)
    (fun i s => i.1 ++ i.2 = xs ∧ idx (sameN n) i.2 i.1.length = docIx n xs ∧ s.ρ 0 = .ro (rows Doc.ty.cs xs) xs.length ∧ s.ρ 1 = .sc (.string n) ∧ s.ρ 5 = .sc (.int .i64 i.1.length) ∧ s.h = h0 ∧ s.n = 20) ([], xs) (by simp [upd_app, docIx]) ?_
  rintro ⟨pre, rest⟩ ⟨ρ, hh, m⟩ ⟨hx, hE, k0, k1, k5, rfl, rfl⟩
  simp only at hx hE k0 k1 k5
  refine run_ok (n := 400) ?_
  cases rest with
  | nil =>
    simp at hx
    subst hx
    simp [k0, k5]
    refine T.on 400 ?_
    simp [← hE, idx]
  | cons x rest =>
    have hlt : (pre.length : Int) < xs.length := by rw [← hx]; simp only [List.length_append, List.length_cons]; omega
    have hd := rows_drop Doc.ty.csn pre (x :: rest)
    rw [hx, rows_cons] at hd
    have hd : List.drop (pre.length * 2) (rows Doc.ty.cs xs) = Doc.ty.cs x ++ rows Doc.ty.cs rest := hd
    have hw : IntKind.i64.wrap ((pre.length : Int) + 1) = pre.length + 1 := wrap_i64 (by omega) (by omega)
    cases hs : sameN n x with
    | true =>
      have hs' : x.name.toList = n.toList := by simpa [sameN] using hs
      simp [k0, k1, k5, hlt, hd, Doc.cse, hs']
      rw [← hE]; simp [idx, hs]
    | false =>
      have hs' : ¬ x.name.toList = n.toList := by simpa [sameN] using hs
      simp [k0, k1, k5, hlt, hd, Doc.cse, hs', hw]
      refine ⟨pre ++ [x], rest, by simp, _, Le.refl _, ?_⟩
      simp [hx, k0, k1, upd_app]
      rw [← hE]; simp [idx, hs]
/- 84: loop.example/g00464/spec.l22Put -/
def A84 : AC := (.seq (.ops [⟨(some 3), none, .w (.box (.t 1))⟩, ⟨(some 4), none, .q (.mov (.c .em))⟩])
  (.seq (.ops [⟨(some 8), none, .w (.bsl 2 0 [] [])⟩, ⟨(some 5), none, .q (.mov (.t 8))⟩])
  (.seq (.ops [⟨(some 6), none, .q (.mov (.c (.sc (.bool false))))⟩])
  (.seq (.seq (.ops [⟨(some 7), none, .q (.mov (.c (.sc (.int .i64 0))))⟩])
  (.block 0 (.loop (.seq (.seq (.ops [⟨(some 9), none, .q (.mov (.t 7))⟩, ⟨(some 10), none, .q (.mov (.t 0))⟩, ⟨(some 11), none, .q (.llen (.t 10))⟩, ⟨(some 12), none, .q (.bin .lss (.t 9) (.t 11))⟩])
  (.cond (.t 12) .skip
  (.exit 0)))
  (.seq (.block 1 (.seq (.seq (.any [(⟨(some 15), none, .q (.mov (.t 0))⟩, []), (⟨(some 16), none, .q (.mov (.t 7))⟩, []), (⟨(some 17), none, .q (.iadr 2 (.t 15) (.t 16))⟩, [0, 1]), (⟨(some 18), none, .q (.fadr 0 (.t 17))⟩, [2]), (⟨(some 19), none, .q (.load false 1 (.t 18))⟩, [3]), (⟨(some 20), none, .q (.fadr 0 (.t 3))⟩, []), (⟨(some 21), none, .q (.load false 1 (.t 20))⟩, [5]), (⟨(some 22), none, .q (.bin .eql (.t 19) (.t 21))⟩, [4, 6])])
  (.cond (.t 22) (.exit 1)
  .skip))
  (.seq (.seq (.any [(⟨(some 23), none, .q (.mov (.t 6))⟩, []), (⟨(some 24), none, .q (.not (.t 23))⟩, [0]), (⟨(some 25), none, .q (.mov (.t 24))⟩, [1]), (⟨(some 26), (some (25, true)), .q (.mov (.t 0))⟩, [2]), (⟨(some 27), (some (25, true)), .q (.mov (.t 7))⟩, [2]), (⟨(some 28), (some (25, true)), .q (.iadr 2 (.t 26) (.t 27))⟩, [3, 4, 2]), (⟨(some 29), (some (25, true)), .q (.fadr 0 (.t 28))⟩, [5, 2]), (⟨(some 30), (some (25, true)), .q (.load false 1 (.t 29))⟩, [6, 2]), (⟨(some 31), (some (25, true)), .q (.fadr 0 (.t 3))⟩, [2]), (⟨(some 32), (some (25, true)), .q (.load false 1 (.t 31))⟩, [8, 2]), (⟨(some 33), (some (25, true)), .q (.bin .gtr (.t 30) (.t 32))⟩, [7, 9, 2]), (⟨(some 34), none, .q (.pick (.t 25) (.t 33) (.c (.sc (.bool false))))⟩, [2, 10])])
  (.cond (.t 34) (.seq (.ops [⟨(some 35), none, .q (.mov (.t 5))⟩, ⟨(some 36), none, .q (.load true 2 (.t 3))⟩, ⟨(some 37), none, .w (.bsl 2 1 [(.sc (.string ⟨#[]⟩)), (.sc (.string ⟨#[]⟩))] [(0, 2, (.t 36))])⟩, ⟨(some 38), none, .w (.app 2 32 false (.t 35) (.t 37))⟩, ⟨(some 5), none, .q (.mov (.t 38))⟩])
  (.ops [⟨(some 6), none, .q (.mov (.c (.sc (.bool true))))⟩]))
  .skip))
  (.ops [⟨(some 39), none, .q (.mov (.t 5))⟩, ⟨(some 40), none, .q (.mov (.t 0))⟩, ⟨(some 41), none, .q (.mov (.t 7))⟩, ⟨(some 42), none, .q (.iadr 2 (.t 40) (.t 41))⟩, ⟨(some 43), none, .q (.load true 2 (.t 42))⟩, ⟨(some 44), none, .w (.bsl 2 1 [(.sc (.string ⟨#[]⟩)), (.sc (.string ⟨#[]⟩))] [(0, 2, (.t 43))])⟩, ⟨(some 45), none, .w (.app 2 32 false (.t 39) (.t 44))⟩, ⟨(some 5), none, .q (.mov (.t 45))⟩]))))
  (.ops [⟨(some 13), none, .q (.mov (.t 7))⟩, ⟨(some 14), none, .q (.bin .add (.t 13) (.c (.sc (.int .i64 1))))⟩, ⟨(some 7), none, .q (.mov (.t 14))⟩]))))))
  (.seq (.seq (.ops [⟨(some 46), none, .q (.mov (.t 6))⟩, ⟨(some 47), none, .q (.not (.t 46))⟩])
  (.cond (.t 47) (.ops [⟨(some 48), none, .q (.mov (.t 5))⟩, ⟨(some 49), none, .q (.load true 2 (.t 3))⟩, ⟨(some 50), none, .w (.bsl 2 1 [(.sc (.string ⟨#[]⟩)), (.sc (.string ⟨#[]⟩))] [(0, 2, (.t 49))])⟩, ⟨(some 51), none, .w (.app 2 32 false (.t 48) (.t 50))⟩, ⟨(some 5), none, .q (.mov (.t 51))⟩])
  .skip))
  (.seq (.seq (.ops [⟨(some 52), none, .q (.mov (.t 5))⟩, ⟨(some 53), none, .q (.llen (.t 52))⟩, ⟨(some 54), none, .q (.bin .gtr (.t 53) (.c (.sc (.int .i64 6))))⟩])
  (.cond (.t 54) (.seq (.ops [⟨(some 55), none, .q (.mov (.t 0))⟩, ⟨(some 4), none, .q (.mov (.t 55))⟩])
  .ret)
  .skip))
  (.seq (.ops [⟨(some 56), none, .q (.mov (.t 5))⟩, ⟨(some 4), none, .q (.mov (.t 56))⟩])
  .ret)))))))
theorem K84 : Tryd.f84.body.bind (comp Tryd.prog) = some A84 ∧ Tryd.f84.ntmps = 57 ∧ Tryd.f84.results.toList.mapM (resB Tryd.prog) = some [.mov (.t 4)] := ⟨by kernel_rfl, by kernel_rfl, by kernel_rfl⟩
set_option maxHeartbeats 1000000 in
theorem R84 (xs : List Doc) (f : Doc) (hb : xs.length * 32 ≤ 140737488351232) : Ret Tryd.prog 84 [.own (rows Doc.ty.oc xs) xs.length 2, .agg (Doc.ty.cs f)] (.own (rows Doc.ty.oc (putD xs f)) (putD xs f).length 2) [.un, .un] := by
  rw [putD_G]
  refine Ret.run Tryd.func84 K84 (by simp) rfl rfl 900 ?_
  simp [A84, iniρ, Doc.cse, over]
  refine T.rounds (μ := fun i : List Doc × List Doc × List Doc × Fl => i.2.1.length)
    (fun i s => i.1 ++ i.2.1 = xs ∧ i.2.2.1 ++ putG f i.2.1 i.2.2.2.v = putG f xs false ∧ i.2.2.1.length ≤ i.1.length + (if i.2.2.2.v then 1 else 0) ∧ s.ρ 0 = .sl 100000 0 xs.length 2 false ∧ s.ρ 3 = .ref 3 0 ∧ s.ρ 5 = .sl 8 0 i.2.2.1.length 2 false ∧ s.ρ 6 = .sc (.bool i.2.2.2.v) ∧ s.ρ 7 = .sc (.int .i64 i.1.length) ∧
      s.h 3 = some (some [.sc (.string f.name), .sc (.string f.text)]) ∧ s.h 8 = some (some (rows Doc.ty.oc i.2.2.1)) ∧ s.h 100000 = some (some (rows Doc.ty.oc xs)) ∧ s.h 37 = none ∧ s.h 38 = none ∧ s.h 44 = none ∧ s.h 45 = none ∧ s.h 50 = none ∧ s.h 51 = none ∧ s.n = 57) ([], xs, [], ⟨false⟩) (by simp [upd_app, rows_nil]) ?_
  rintro ⟨pre, rest, out, ⟨done⟩⟩ ⟨ρ, hh, n⟩ ⟨hx, hE, hle, h0', h3', h5', h6', h7', k3, k8, kx, f1, f2, f3, f4, f5, f6, rfl⟩
  simp only at hx hE hle h0' h3' h5' h6' h7' k3 k8 kx f1 f2 f3 f4 f5 f6
  refine run_ok (n := 400) ?_
  have hpl : pre.length + rest.length = xs.length := by rw [← hx]; simp
  have hol : out.length ≤ pre.length + 1 := by split at hle <;> omega
  have hc1 : (out.length + 1) * 32 ≤ 140737488355328 := by omega
  cases rest with
  | nil =>
    simp at hx
    have hpx : pre.length = xs.length := by rw [hx]
    simp [h0', h7', hpx]
    refine T.on 400 ?_
    have hgR : ∀ R : List Doc, (if 6 < R.length then xs else R).length = if 6 < R.length then xs.length else R.length := fun R => by split <;> rfl
    cases done
    · have hfin : rows Doc.ty.oc out ++ [.sc (.string f.name), .sc (.string f.text)] = rows Doc.ty.oc (putG f xs false) := by rw [← hE, rows_append, putG]; simp [rows_cons, rows_nil, Doc.oce]
      have hlen : (putG f xs false).length = out.length + 1 := by rw [← hE, putG]; simp
      have hid : idfree.idfreeL (rows Doc.ty.oc (putG f xs false)) = true := Doc.frL _
      by_cases h6 : 6 < out.length + 1
      · have q6 : (6 : Int) < out.length + 1 := by omega
        simp [h0', h3', h5', h6', k3, k8, kx, f5, f6, over, Doc.ocl, hc1, ex1, hfin, hlen, hid, h6, q6, Doc.frL]
      · have q6 : ¬ (6 : Int) < out.length + 1 := by omega
        simp [h3', h5', h6', k3, k8, kx, f5, f6, over, Doc.ocl, hc1, ex1, hfin, hlen, hid, h6, q6, Doc.frL]
    · have hE2 : out = putG f xs false := by rw [← hE, putG]; simp
      rw [← hE2]
      by_cases h6 : 6 < out.length
      · have q6 : (6 : Int) < out.length := by omega
        simp [h0', h5', h6', k8, kx, ex1, Doc.ocl, Doc.frL, h6, q6]
      · have q6 : ¬ (6 : Int) < out.length := by omega
        simp [h5', h6', k8, ex1, Doc.ocl, Doc.frL, h6, q6]
  | cons x rest =>
    have hlt : (pre.length : Int) < xs.length := by simp only [List.length_cons] at hpl; omega
    have hlt2 : pre.length < xs.length := by omega
    have hd := rows_drop Doc.ty.ocn pre (x :: rest)
    rw [hx, rows_cons] at hd
    have hd : List.drop (pre.length * 2) (rows Doc.ty.oc xs) = AV.sc (.string x.name) :: AV.sc (.string x.text) :: rows Doc.ty.oc rest := hd
    have hw : IntKind.i64.wrap ((pre.length : Int) + 1) = pre.length + 1 := wrap_i64 (by omega) (by omega)
    have hap : ∀ (l : List Doc) (g : Doc), rows Doc.ty.oc l ++ [.sc (.string g.name), .sc (.string g.text)] = rows Doc.ty.oc (l ++ [g]) := fun l g => by rw [rows_append]; simp [rows_cons, rows_nil, Doc.oce]
    simp [h0', h7', hlt]
    refine T.text 400 mixed (by kernel_rfl) (by kernel_rfl) ?_
    by_cases hk : x.name.toList = f.name.toList
    case pos =>
      simp [h0', h3', h7', k3, kx, hlt, hlt2, hd, hk, hw]
      refine ⟨pre ++ [x], rest, by simp, out, ⟨done⟩, _, Le.refl _, ?_⟩
      simp [hx, h0', h3', h5', h6', k3, k8, kx, f1, f2, f3, f4, f5, f6, upd_app]
      rw [putG, if_pos hk] at hE
      exact ⟨hE, by omega⟩
    rw [putG, if_neg hk] at hE
    have hk2 : (x.name.toList == f.name.toList) = false := by simpa using hk
    simp only [List.length_cons] at hpl
    simp [h0', h3', h7', k3, kx, hlt, hlt2, hd, hk, hw]
    refine T.text 400 mixed (by kernel_rfl) (by kernel_rfl) ?_
    cases done
    case true =>
      simp at hE hle
      have hc2 : (out.length + 1) * 32 ≤ 140737488355328 := by omega
      simp [h0', h3', h5', h6', h7', k3, k8, kx, f3, f4, hlt, hlt2, hd, hw, over, Doc.ocl, hc2, hap]
      refine ⟨pre ++ [x], rest, by simp, out ++ [x], ⟨true⟩, _, Le.reseat [0, 3, 5, 6, 7] [(45, 8), (3, 3), (100000, 100000)] (by simp) (by simp [upd_app, menB, idfree, h0', h3', h6']) ?_, ?_⟩
      · intro b hb cs hcs
        simp at hb
        rcases hb with rfl | rfl | rfl
        · simp [upd_app] at hcs
          subst hcs
          exact docId _
        · simp [upd_app, k3] at hcs
          subst hcs
          simp [idfree]
        · simp [upd_app, kx] at hcs
          subst hcs
          exact docId _
      · simp [hx, h0', h3', h6', k3, kx, upd_app, hE]
        omega
    simp at hle
    cases hg : Op.bytesLess x.name.toList f.name.toList
    case false =>
      have hgt : gtrB x.name f.name = true := by simp [gtrB, hg, hk2]
      simp [hgt] at hE
      have hc2 : (out.length + 1) * 32 ≤ 140737488355328 := by omega
      have hc4 : out.length + 1 + 1 ≤ xs.length + 1 := by omega
      have hc3 : (out.length + 1 + 1) * 32 ≤ 140737488355328 := Nat.le_trans (Nat.mul_le_mul_right 32 hc4) (Nat.le_trans (Nat.le_of_eq (Nat.succ_mul xs.length 32)) (Nat.le_trans (Nat.add_le_add_right hb 32) (by decide)))
      simp [h0', h3', h5', h6', h7', k3, k8, kx, f1, f2, f3, f4, hlt, hlt2, hd, hw, hk, hk2, hg, over, Doc.ocl, hc2, hc3, hap]
      refine ⟨pre ++ [x], rest, by simp, out ++ [f, x], ⟨true⟩, _, Le.reseat [0, 3, 5, 6, 7] [(45, 8), (3, 3), (100000, 100000)] (by simp) (by simp [upd_app, menB, idfree, h0', h3', h6']) ?_, ?_⟩
      · intro b hb cs hcs
        simp at hb
        rcases hb with rfl | rfl | rfl
        · simp [upd_app] at hcs
          subst hcs
          exact docId _
        · simp [upd_app, k3] at hcs
          subst hcs
          simp [idfree]
        · simp [upd_app, kx] at hcs
          subst hcs
          exact docId _
      · simp [hx, h0', h3', h6', k3, kx, upd_app, hE]
        omega
    case true =>
      have hgt : gtrB x.name f.name = false := by simp [gtrB, hg, hk2]
      simp [hgt] at hE
      have hc2 : (out.length + 1) * 32 ≤ 140737488355328 := hc1
      simp [h0', h3', h5', h6', h7', k3, k8, kx, f1, f2, f3, f4, hlt, hlt2, hd, hw, hk, hk2, hg, over, Doc.ocl, hc2, hap]
      refine ⟨pre ++ [x], rest, by simp, out ++ [x], ⟨false⟩, _, Le.reseat [0, 3, 5, 6, 7] [(45, 8), (3, 3), (100000, 100000)] (by simp) (by simp [upd_app, menB, idfree, h0', h3', h6']) ?_, ?_⟩
      · intro b hb cs hcs
        simp at hb
        rcases hb with rfl | rfl | rfl
        · simp [upd_app] at hcs
          subst hcs
          exact docId _
        · simp [upd_app, k3] at hcs
          subst hcs
          simp [idfree]
        · simp [upd_app, kx] at hcs
          subst hcs
          exact docId _
      · simp [hx, h0', h3', h6', k3, kx, upd_app, hE]
        omega
/- 76: loop.example/g00464/spec.l22Do -/
def A76 : AC := (.seq (.ops [⟨(some 3), none, .w (.box (.t 1))⟩, ⟨(some 4), none, .q (.mov (.c .em))⟩])
  (.seq (.seq (.ops [⟨(some 9), none, .q (.fadr 0 (.t 3))⟩, ⟨(some 10), none, .q (.load false 1 (.t 9))⟩, ⟨(some 11), none, .q (.bin .eql (.t 10) (.c (.sc (.int .i64 1))))⟩])
  (.cond (.t 11) (.seq (.ops [⟨(some 12), none, .q (.mov (.t 0))⟩, ⟨(some 13), none, .q (.fadr 1 (.t 3))⟩, ⟨(some 14), none, .q (.load false 1 (.t 13))⟩, ⟨(some 15), none, .q (.fadr 2 (.t 3))⟩, ⟨(some 16), none, .q (.load false 1 (.t 15))⟩, ⟨(some 17), none, .w (.build [(.sc (.string ⟨#[]⟩)), (.sc (.string ⟨#[]⟩))] [(0, 1, (.t 14)), (1, 1, (.t 16))])⟩, ⟨(some 18), none, .c (.c (.clo 84 [])) [(.t 12), (.t 17)]⟩, ⟨(some 4), none, .q (.mov (.t 18))⟩])
  .ret)
  .skip))
  (.seq (.ops [⟨(some 19), none, .q (.mov (.t 0))⟩, ⟨(some 20), none, .q (.fadr 1 (.t 3))⟩, ⟨(some 21), none, .q (.load false 1 (.t 20))⟩, ⟨(some 22), none, .c (.c (.clo 85 [])) [(.t 19), (.t 21)]⟩, ⟨(some 5), none, .q (.mov (.t 22))⟩])
  (.seq (.seq (.ops [⟨(some 23), none, .q (.fadr 0 (.t 3))⟩, ⟨(some 24), none, .q (.load false 1 (.t 23))⟩, ⟨(some 25), none, .q (.bin .neq (.t 24) (.c (.sc (.int .i64 2))))⟩, ⟨(some 26), none, .q (.mov (.t 25))⟩, ⟨(some 27), (some (26, false)), .q (.mov (.t 5))⟩, ⟨(some 28), (some (26, false)), .q (.bin .lss (.t 27) (.c (.sc (.int .i64 0))))⟩, ⟨(some 29), none, .q (.pick (.t 26) (.c (.sc (.bool true))) (.t 28))⟩])
  (.cond (.t 29) (.seq (.ops [⟨(some 30), none, .q (.mov (.t 0))⟩, ⟨(some 4), none, .q (.mov (.t 30))⟩])
  .ret)
  .skip))
  (.seq (.ops [⟨(some 31), none, .q (.mov (.t 0))⟩, ⟨(some 32), none, .q (.mov (.t 5))⟩, ⟨(some 33), none, .q (.iadr 2 (.t 31) (.t 32))⟩, ⟨(some 34), none, .q (.fadr 1 (.t 33))⟩, ⟨(some 35), none, .q (.load false 1 (.t 34))⟩, ⟨(some 6), none, .q (.mov (.t 35))⟩])
  (.seq (.ops [⟨(some 36), none, .w (.bsl 2 0 [] [])⟩, ⟨(some 7), none, .q (.mov (.t 36))⟩])
  (.seq (.seq (.ops [⟨(some 8), none, .q (.mov (.c (.sc (.int .i64 0))))⟩])
  (.block 0 (.loop (.seq (.seq (.ops [⟨(some 37), none, .q (.mov (.t 8))⟩, ⟨(some 38), none, .q (.mov (.t 0))⟩, ⟨(some 39), none, .q (.llen (.t 38))⟩, ⟨(some 40), none, .q (.bin .lss (.t 37) (.t 39))⟩])
  (.cond (.t 40) .skip
  (.exit 0)))
  (.seq (.block 1 (.seq (.any [(⟨(some 43), none, .q (.mov (.t 0))⟩, []), (⟨(some 44), none, .q (.mov (.t 8))⟩, []), (⟨(some 45), none, .q (.iadr 2 (.t 43) (.t 44))⟩, [0, 1]), (⟨(some 46), none, .q (.fadr 0 (.t 45))⟩, [2]), (⟨(some 47), none, .q (.load false 1 (.t 46))⟩, [3]), (⟨(some 48), none, .q (.fadr 1 (.t 3))⟩, []), (⟨(some 49), none, .q (.load false 1 (.t 48))⟩, [5]), (⟨(some 50), none, .q (.bin .neq (.t 47) (.t 49))⟩, [4, 6])])
  (.cond (.t 50) (.ops [⟨(some 51), none, .q (.mov (.t 7))⟩, ⟨(some 52), none, .q (.mov (.t 0))⟩, ⟨(some 53), none, .q (.mov (.t 8))⟩, ⟨(some 54), none, .q (.iadr 2 (.t 52) (.t 53))⟩, ⟨(some 55), none, .q (.load true 2 (.t 54))⟩, ⟨(some 56), none, .w (.bsl 2 1 [(.sc (.string ⟨#[]⟩)), (.sc (.string ⟨#[]⟩))] [(0, 2, (.t 55))])⟩, ⟨(some 57), none, .w (.app 2 32 false (.t 51) (.t 56))⟩, ⟨(some 7), none, .q (.mov (.t 57))⟩])
  .skip)))
  (.ops [⟨(some 41), none, .q (.mov (.t 8))⟩, ⟨(some 42), none, .q (.bin .add (.t 41) (.c (.sc (.int .i64 1))))⟩, ⟨(some 8), none, .q (.mov (.t 42))⟩]))))))
  (.seq (.ops [⟨(some 58), none, .q (.mov (.t 7))⟩, ⟨(some 59), none, .q (.fadr 2 (.t 3))⟩, ⟨(some 60), none, .q (.load false 1 (.t 59))⟩, ⟨(some 61), none, .q (.mov (.t 6))⟩, ⟨(some 62), none, .w (.build [(.sc (.string ⟨#[]⟩)), (.sc (.string ⟨#[]⟩))] [(0, 1, (.t 60)), (1, 1, (.t 61))])⟩, ⟨(some 63), none, .c (.c (.clo 84 [])) [(.t 58), (.t 62)]⟩, ⟨(some 4), none, .q (.mov (.t 63))⟩])
  .ret))))))))
theorem K76 : Tryd.f76.body.bind (comp Tryd.prog) = some A76 ∧ Tryd.f76.ntmps = 64 ∧ Tryd.f76.results.toList.mapM (resB Tryd.prog) = some [.mov (.t 4)] := ⟨by kernel_rfl, by kernel_rfl, by kernel_rfl⟩
theorem R76 (xs : List Doc) (o : Op) (hb : xs.length * 32 ≤ 140737488351232) : Ret Tryd.prog 76 [.own (rows Doc.ty.oc xs) xs.length 2, .agg (Op.ty.cs o)] (.own (rows Doc.ty.oc (doD xs o)) (doD xs o).length 2) [.un, .un] := by
  refine Ret.run Tryd.func76 K76 (by simp) rfl rfl 500 ?_
  by_cases k1 : o.kind = 1
  · have hD : doD xs o = putD xs ⟨o.a, o.b⟩ := by unfold doD; rw [if_pos k1]
    rw [hD]
    simp [A76, iniρ, Op.cse, k1, over]
    refine callK.mv1 18 100000 rfl (by kernel_rfl) (by simp [upd_app]) (by simp [upd_app]) (Doc.ocl _) (Doc.frL _) (vs := [.agg (Doc.ty.cs ⟨o.a, o.b⟩)]) (by simp [roc_agg, upd_app, Doc.cse]) (R84 xs ⟨o.a, o.b⟩ hb) (Doc.ty.flo _) (by simp [inst, upd_app]; exact ⟨rfl, rfl⟩) rfl ?_
    simp [ex1, Doc.ocl, Doc.frL]
  simp [A76, iniρ, Op.cse, k1]
  refine callK.ro 0 rfl (by kernel_rfl) (by simp [Doc.roc8, roc_sc, upd_app]) (R85 xs o.a (by omega)) rfl rfl rfl ?_
  by_cases k2 : o.kind = 2
  case neg =>
    have hD : doD xs o = xs := by unfold doD; rw [if_neg k1, if_neg (fun h => k2 h.1)]
    rw [hD]
    simp [k2, ex1, Doc.ocl, Doc.frL]
  by_cases h0 : 0 ≤ docIx o.a xs
  case neg =>
    have hD : doD xs o = xs := by unfold doD; rw [if_neg k1, if_neg (fun h => h0 h.2)]
    have hn := docIx_neg h0
    rw [hD, hn]
    simp [k2, ex1, Doc.ocl, Doc.frL]
  have hD : doD xs o = putD (noD o.a xs) ⟨o.b, textAt xs (docIx o.a xs)⟩ := by unfold doD; rw [if_neg k1, if_pos ⟨k2, h0⟩]
  obtain ⟨pre, x, rest, e1, e2, e3⟩ := docIx_at h0
  have hlt : (pre.length : Int) < xs.length := by rw [e1]; simp only [List.length_append, List.length_cons]; omega
  have hd := rows_drop Doc.ty.ocn pre (x :: rest)
  rw [← e1, rows_cons, Doc.oce] at hd
  have hd : List.drop (pre.length * 2) (rows Doc.ty.oc xs) = [.sc (.string x.name), .sc (.string x.text)] ++ rows Doc.ty.oc rest := hd
  have hd1 : List.drop (pre.length * 2 + 1) (rows Doc.ty.oc xs) = [.sc (.string x.text)] ++ rows Doc.ty.oc rest := by rw [← List.drop_drop, hd]; rfl
  have hp0 : ¬ ((pre.length : Int) < 0) := by omega
  have hnl := noD_len o.a xs
  obtain ⟨tx, hT⟩ : ∃ tx, tx = x.text := ⟨_, rfl⟩
  rw [hD, e3, e2, ← hT]
  simp [k2, hlt, hd1, hp0, ← hT]
  clear hd1 e1 e3 hT hlt e2 h0 hp0
  refine T.rounds (μ := fun i : List Doc × List Doc => i.2.length)
    (fun i s => i.1 ++ i.2 = xs ∧ s.ρ 0 = .sl 100000 0 xs.length 2 false ∧ s.ρ 3 = .ref 3 0 ∧ s.ρ 6 = .sc (.string tx) ∧ s.ρ 7 = .sl 36 0 (noD o.a i.1).length 2 false ∧ s.ρ 8 = .sc (.int .i64 i.1.length) ∧
      s.h 3 = some (some [.sc (.int .i64 2), .sc (.string o.a), .sc (.string o.b)]) ∧ s.h 36 = some (some (rows Doc.ty.oc (noD o.a i.1))) ∧ s.h 100000 = some (some (rows Doc.ty.oc xs)) ∧ s.h 56 = none ∧ s.h 57 = none ∧ s.h 63 = none ∧ s.n = 64) ([], xs) (by simp [upd_app, noD, rows_nil, k2]) ?_
  rintro ⟨pre, rest⟩ ⟨ρ, hh, n⟩ ⟨hx, h0', h3', h6', h7', h8', k3, k36, kx, f1, f2, f3, rfl⟩
  simp only at hx h0' h3' h6' h7' h8' k3 k36 kx f1 f2 f3
  refine run_ok (n := 400) ?_
  cases rest with
  | nil =>
    simp at hx
    subst hx
    simp [h0', h8']
    refine T.on 400 ?_
    simp [h3', h6', h7', k3, over]
    refine callK.mv1 63 36 rfl (by kernel_rfl) (by simp [upd_app, h7']) (by simp [upd_app, k36]) (Doc.ocl _) (Doc.frL _) (vs := [.agg (Doc.ty.cs ⟨o.b, tx⟩)]) (by simp [roc_agg, upd_app, Doc.cse]) (R84 (noD o.a pre) ⟨o.b, tx⟩ (by omega)) (Doc.ty.flo _) (by simp [inst, upd_app, f3]; exact ⟨rfl, rfl⟩) rfl ?_
    simp [ex1, Doc.ocl, Doc.frL]
  | cons x rest =>
    have hlt : (pre.length : Int) < xs.length := by rw [← hx]; simp only [List.length_append, List.length_cons]; omega
    have hd := rows_drop Doc.ty.ocn pre (x :: rest)
    rw [hx, rows_cons] at hd
    have hd : List.drop (pre.length * 2) (rows Doc.ty.oc xs) = AV.sc (.string x.name) :: AV.sc (.string x.text) :: rows Doc.ty.oc rest := hd
    have hw : IntKind.i64.wrap ((pre.length : Int) + 1) = pre.length + 1 := wrap_i64 (by omega) (by omega)
    have hpn := noD_len o.a pre
    have hpl : pre.length < xs.length := by omega
    have hc : ((noD o.a pre).length + 1) * 32 ≤ 140737488355328 := by omega
    simp [h0', h8', hlt]
    refine T.text 400 mixed (by kernel_rfl) (by kernel_rfl) ?_
    by_cases hk : x.name.toList = o.a.toList
    · have hn : noD o.a (pre ++ [x]) = noD o.a pre := by simp [noD, sameN, hk]
      simp [h0', h3', h8', k3, kx, hlt, hd, hk, hw]
      refine ⟨pre ++ [x], rest, by simp, _, Le.refl _, ?_⟩
      simp [hx, h0', h3', h6', h7', k3, k36, kx, f1, f2, f3, hn, upd_app]
    · have hn : noD o.a (pre ++ [x]) = noD o.a pre ++ [x] := by simp [noD, sameN, hk]
      have hap : rows Doc.ty.oc (noD o.a pre) ++ [.sc (.string x.name), .sc (.string x.text)] = rows Doc.ty.oc (noD o.a pre ++ [x]) := by rw [rows_append]; simp [rows_cons, rows_nil, Doc.oce]
      simp [h0', h3', h7', h8', k3, k36, kx, f1, f2, hlt, hd, hk, hw, over, Doc.ocl, hc, hap]
      refine ⟨pre ++ [x], rest, by simp, _, Le.reseat [0, 3, 6, 7, 8] [(57, 36), (3, 3), (100000, 100000)] (by simp) (by simp [upd_app, menB, idfree, h0', h3', h6']) ?_, ?_⟩
      · intro b hb cs hcs
        simp at hb
        rcases hb with rfl | rfl | rfl
        · simp [upd_app] at hcs
          subst hcs
          exact docId _
        · simp [upd_app, k3] at hcs
          subst hcs
          simp [idfree]
        · simp [upd_app, kx] at hcs
          subst hcs
          exact docId _
      · simp [hx, h0', h3', h6', k3, kx, upd_app, hn]
/- 60: loop.example/g00464/spec.DocsNow -/
def A60 : AC := (.seq (.ops [⟨(some 1), none, .w (.box (.t 0))⟩, ⟨(some 2), none, .q (.mov (.c .em))⟩])
  (.seq (.ops [⟨(some 5), none, .w (.bsl 2 0 [] [])⟩, ⟨(some 6), none, .q (.fadr 0 (.t 1))⟩, ⟨(some 7), none, .q (.load false 1 (.t 6))⟩, ⟨(some 8), none, .w (.app 2 32 false (.t 5) (.t 7))⟩, ⟨(some 3), none, .q (.mov (.t 8))⟩])
  (.seq (.seq (.ops [⟨(some 4), none, .q (.mov (.c (.sc (.int .i64 0))))⟩])
  (.block 0 (.loop (.seq (.seq (.ops [⟨(some 9), none, .q (.mov (.t 4))⟩, ⟨(some 10), none, .q (.fadr 1 (.t 1))⟩, ⟨(some 11), none, .q (.load false 1 (.t 10))⟩, ⟨(some 12), none, .q (.llen (.t 11))⟩, ⟨(some 13), none, .q (.bin .lss (.t 9) (.t 12))⟩])
  (.cond (.t 13) .skip
  (.exit 0)))
  (.seq (.block 1 (.ops [⟨(some 16), none, .q (.mov (.t 3))⟩, ⟨(some 17), none, .q (.fadr 1 (.t 1))⟩, ⟨(some 18), none, .q (.load false 1 (.t 17))⟩, ⟨(some 19), none, .q (.mov (.t 4))⟩, ⟨(some 20), none, .q (.iadr 3 (.t 18) (.t 19))⟩, ⟨(some 21), none, .q (.load true 3 (.t 20))⟩, ⟨(some 22), none, .c (.c (.clo 76 [])) [(.t 16), (.t 21)]⟩, ⟨(some 3), none, .q (.mov (.t 22))⟩]))
  (.ops [⟨(some 14), none, .q (.mov (.t 4))⟩, ⟨(some 15), none, .q (.bin .add (.t 14) (.c (.sc (.int .i64 1))))⟩, ⟨(some 4), none, .q (.mov (.t 15))⟩]))))))
  (.seq (.ops [⟨(some 23), none, .q (.mov (.t 3))⟩, ⟨(some 2), none, .q (.mov (.t 23))⟩])
  .ret))))
theorem K60 : Tryd.f60.body.bind (comp Tryd.prog) = some A60 ∧ Tryd.f60.ntmps = 24 ∧ Tryd.f60.results.toList.mapM (resB Tryd.prog) = some [.mov (.t 2)] := ⟨by kernel_rfl, by kernel_rfl, by kernel_rfl⟩
theorem R60 (d : Disk) (hd : Disk.ty.ok d) : Ret Tryd.prog 60 [.agg (Disk.ty.cs d)] (.own (rows Doc.ty.oc (docsNowF d)) (docsNowF d).length 2) [.un] := by
  have hb1 : d.sure.length * 32 ≤ 140737488351232 := hd.1.1
  have hb2 : d.pend.length * 40 ≤ 140737488351232 := hd.2.1.1
  refine Ret.run Tryd.func60 K60 (by simp) rfl rfl 500 ?_
  obtain ⟨os, hos⟩ : ∃ os, os = d.pend := ⟨_, rfl⟩
  obtain ⟨ss, hss⟩ : ∃ ss, ss = d.sure := ⟨_, rfl⟩
  obtain ⟨R, hR⟩ : ∃ R, R = docsNowF d := ⟨_, rfl⟩
  have hR' : docsF (fun _ => true) os 0 ss = R := by rw [hR, hos, hss]; rfl
  rw [← hR]
  have hpl : plain.plainL (rows Doc.ty.cs ss) = true := shutL_plain (rows_all Doc.ty.sh ss)
  have hcap : ss.length * 32 ≤ 140737488355328 := by rw [hss]; omega
  have hfe : rows Doc.ty.cs ss = rows Doc.ty.oc ss := rfl
  simp [A60, iniρ, Disk.cse, ← hos, ← hss, Doc.csl, hpl, hcap]
  rw [← hos] at hb2
  rw [← hss] at hb1
  refine T.rounds (μ := fun i : List Op × List Op × List Doc => i.2.1.length)
    (fun i s => i.1 ++ i.2.1 = os ∧ docsF (fun _ => true) i.2.1 i.1.length i.2.2 = R ∧ i.2.2.length * 32 ≤ 140737488351232 ∧ s.ρ 1 = .ref 1 0 ∧ s.ρ 3 = .sl 8 0 i.2.2.length 2 false ∧ s.ρ 4 = .sc (.int .i64 i.1.length) ∧
      s.h 1 = some (some [.ro (rows Doc.ty.cs ss) ss.length, .ro (rows Op.ty.cs os) os.length]) ∧ s.h 8 = some (some (rows Doc.ty.oc i.2.2)) ∧ s.h 22 = none ∧ s.n = 24) ([], os, ss) (by simp [upd_app, hR', hb1, hfe]) ?_
  rintro ⟨pre, rest, l⟩ ⟨ρ, hh, n⟩ ⟨hx, hE, hlb, k1, k3, k4, kd, kh, kf, rfl⟩
  simp only at hx hE hlb k1 k3 k4 kd kh kf
  refine run_ok (n := 400) ?_
  cases rest with
  | nil =>
    simp at hx
    subst hx
    simp only [docsF] at hE
    subst hE
    simp [k1, k4, kd]
    refine T.on 400 ?_
    simp [k3, kh, ex1, Doc.ocl, Doc.frL]
  | cons o rest =>
    have hlt : (pre.length : Int) < os.length := by rw [← hx]; simp only [List.length_append, List.length_cons]; omega
    have hdr := rows_drop Op.ty.csn pre (o :: rest)
    rw [hx, rows_cons] at hdr
    have hdr : List.drop (pre.length * 3) (rows Op.ty.cs os) = Op.ty.cs o ++ rows Op.ty.cs rest := hdr
    have hw1 : IntKind.i64.wrap ((pre.length : Int) + 1) = pre.length + 1 := wrap_i64 (by omega) (by omega)
    have hdl := doD_len l o
    simp [k1, k3, k4, kd, hlt, hdr, Op.cse]
    refine callK.mv1 22 8 rfl (by kernel_rfl) (by simp [upd_app, k3]) (by simp [kh]) (Doc.ocl _) (Doc.frL _) (vs := [.agg (Op.ty.cs o)]) (by simp [roc_agg, upd_app, Op.cse]) (R76 l o hlb) (Doc.ty.flo _) (by simp [inst, upd_app, kf]; exact ⟨rfl, rfl⟩) rfl ?_
    simp [k4, hw1]
    refine ⟨pre ++ [o], rest, by simp, doD l o, _, Le.reseat [1, 3, 4] [(22, 8), (1, 1)] (by simp) (by simp [upd_app, menB, idfree, k1]) ?_, ?_⟩
    · intro b hb cs hcs
      simp at hb
      rcases hb with rfl | rfl
      · simp [upd_app] at hcs
        subst hcs
        exact docId _
      · simp [upd_app, kd] at hcs
        subst hcs
        simp [idfree]
    · simp [upd_app, hx, k1, kd]
      exact ⟨by simpa [docsF] using hE, by omega⟩
/- 59: loop.example/g00464/spec.l22Copy -/
def A59 : AC := (.seq (.ops [⟨(some 1), none, .w (.box (.t 0))⟩, ⟨(some 2), none, .w (.alloc [.em, .em])⟩])
  (.seq (.any [(⟨(some 3), none, .w (.bsl 2 0 [] [])⟩, []), (⟨(some 4), none, .q (.fadr 0 (.t 1))⟩, []), (⟨(some 5), none, .q (.load false 1 (.t 4))⟩, [1]), (⟨(some 6), none, .w (.app 2 32 false (.t 3) (.t 5))⟩, [0, 2]), (⟨(some 7), none, .w (.bsl 3 0 [] [])⟩, []), (⟨(some 8), none, .q (.fadr 1 (.t 1))⟩, []), (⟨(some 9), none, .q (.load false 1 (.t 8))⟩, [5]), (⟨(some 10), none, .w (.app 3 40 false (.t 7) (.t 9))⟩, [4, 6, 3]), (⟨(some 11), none, .w (.build [.em, .em] [(0, 1, (.t 6)), (1, 1, (.t 10))])⟩, [3, 7]), (⟨none, none, .w (.store 2 (.t 2) (.t 11))⟩, [8, 7, 0, 1, 2, 3, 4, 5, 6, 7, 8])])
  .ret))
theorem K59 : Tryd.f59.body.bind (comp Tryd.prog) = some A59 ∧ Tryd.f59.ntmps = 12 ∧ Tryd.f59.results.toList.mapM (resB Tryd.prog) = some [.load true 2 (.t 2)] := ⟨by kernel_rfl, by kernel_rfl, by kernel_rfl⟩
theorem R59 (d : Disk) (hd : Disk.ty.ok d) : Ret Tryd.prog 59 [.agg (Disk.ty.cs d)] (.agg (Disk.ty.oc d)) [.un] := by
  have hb1 : d.sure.length * 32 ≤ 140737488351232 := hd.1.1
  have hb2 : d.pend.length * 40 ≤ 140737488351232 := hd.2.1.1
  have hc1 : d.sure.length * 32 ≤ 140737488355328 := by omega
  have hc2 : d.pend.length * 40 ≤ 140737488355328 := by omega
  have hpl1 : plain.plainL (rows Doc.ty.cs d.sure) = true := shutL_plain (rows_all Doc.ty.sh d.sure)
  have hpl2 : plain.plainL (rows Op.ty.cs d.pend) = true := shutL_plain (rows_all Op.ty.sh d.pend)
  have hf1 : idfree.idfreeL (rows Doc.ty.cs d.sure) = true := Doc.frL d.sure
  have hf2 : idfree.idfreeL (rows Op.ty.cs d.pend) = true := Op.frL d.pend
  have e1 : rows Doc.ty.oc d.sure = rows Doc.ty.cs d.sure := rfl
  have e2 : rows Op.ty.oc d.pend = rows Op.ty.cs d.pend := rfl
  refine Ret.run Tryd.func59 K59 (by simp) rfl rfl 500 ?_
  simp [A59, iniρ]
  refine T.textW 400 [([3], [7]), ([], [3, 7]), ([], [3, 7]), ([3, 6], [7]), ([7], [3, 6]), ([], [3, 6, 7]), ([], [3, 6, 7]), ([7, 10], []), ([], []), ([2], [])] mixed (by kernel_rfl) (by kernel_rfl) ?_
  simp [Disk.cse, Doc.csl, Op.csl, hpl1, hpl2, hc1, hc2, over, Disk.oce, ex1, e1, e2, hf1, hf2]
/- 36: loop.example/g00464/spec.Settle -/
def A36 : AC := (.seq (.ops [⟨(some 1), none, .w (.box (.t 0))⟩, ⟨(some 2), none, .w (.alloc [.em, .em])⟩])
  (.seq (.seq (.ops [⟨(some 3), none, .q (.load true 2 (.t 1))⟩, ⟨(some 4), none, .c (.c (.clo 58 [])) [(.t 3)]⟩, ⟨(some 5), none, .q (.not (.t 4))⟩])
  (.cond (.t 5) (.seq (.ops [⟨(some 6), none, .q (.load true 2 (.t 1))⟩, ⟨(some 7), none, .c (.c (.clo 59 [])) [(.t 6)]⟩, ⟨none, none, .w (.store 2 (.t 2) (.t 7))⟩])
  .ret)
  .skip))
  (.seq (.ops [⟨(some 8), none, .q (.load true 2 (.t 1))⟩, ⟨(some 9), none, .c (.c (.clo 60 [])) [(.t 8)]⟩, ⟨(some 10), none, .w (.bsl 3 0 [] [])⟩, ⟨(some 11), none, .w (.build [.em, .em] [(0, 1, (.t 9)), (1, 1, (.t 10))])⟩, ⟨none, none, .w (.store 2 (.t 2) (.t 11))⟩])
  .ret)))
theorem K36 : Tryd.f36.body.bind (comp Tryd.prog) = some A36 ∧ Tryd.f36.ntmps = 12 ∧ Tryd.f36.results.toList.mapM (resB Tryd.prog) = some [.load true 2 (.t 2)] := ⟨by kernel_rfl, by kernel_rfl, by kernel_rfl⟩
theorem R36 (d : Disk) (hd : Disk.ty.ok d) : Ret Tryd.prog 36 [.agg (Disk.ty.cs d)] (.agg (Disk.ty.oc (settleF d))) [.un] := by
  refine Ret.run Tryd.func36 K36 (by simp) rfl rfl 500 ?_
  have hpl : plain.plainL (Disk.ty.cs d) = true := Disk.ty.plL d
  simp [A36, iniρ, Disk.cse, hpl]
  refine callK.ro 0 rfl (by kernel_rfl) (ys := [.agg (Disk.ty.cs d)]) (by simp [roc_agg, upd_app, Disk.cse]) (R58 d hd) rfl rfl rfl ?_
  cases hok : diskOk d with
  | false =>
    have hS : settleF d = d := by unfold settleF; rw [hok]; rfl
    rw [hS]
    simp
    refine callK.ro 7 rfl (by kernel_rfl) (ys := [.agg (Disk.ty.cs d)]) (by simp [roc_agg, upd_app, Disk.cse]) (R59 d hd) (by simpa [flt] using Disk.ty.flL d) (by simp [inst, instL, Disk.oce, upd_app]; exact ⟨rfl, rfl⟩) rfl ?_
    simp [over, Disk.oce, ex1, Doc.ocl, Doc.frL, Op.ocl, Op.frL]
  | true =>
    have hS : settleF d = ⟨docsNowF d, []⟩ := by unfold settleF; rw [hok]; rfl
    rw [hS]
    simp
    refine callK.own 9 rfl (by kernel_rfl) (ys := [.agg (Disk.ty.cs d)]) (by simp [roc_agg, upd_app, Disk.cse]) (R60 d hd) (Doc.ty.flo _) (by simp) rfl ?_
    simp [over, Disk.oce, ex1, Doc.ocl, Doc.frL, rows_nil, idfree.idfreeL]
end Go.Proofs.YtadoadomogceiaaDoor.Am
