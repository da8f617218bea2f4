/- The functions of the program, each by its contract: Files; no condition. -/
import Derived.Test.YtadoadomogceiaaProg
import Derived.Test.YtadoadomogceiaaAmZ
import Derived.Test.YtadoadomogceiaaAmP
import Derived.Test.YtadoadomogceiaaSames
import Derived.Test.YtadoadomogceiaaPaths
import Derived.KernelRfl
namespace Go.Proofs.Ytadoadomogceiaa.Am
open Go Go.Proofs
set_option linter.unusedSimpArgs false
set_option linter.unusedVariables false
attribute [local congr] T_congr callK_congr callWK_congr
attribute [local simp] run_nil run_op0 run_opg run_seq run_cond run_block run_ret run_skip run_skip_after run_skip_blk run_exit run_exit_after run_exit_blk run_loop run_any runS_nil runS_op0 runS_opg runW_nil runW_op0 runW_opg exec_q exec_w exec_c exec_n execW_q execW_w execW_c restW_app hideH_app merge_app wblk rest_app restS_app execS_q execS_c aval dOk upd_app ev_t ev_c setO_some setO_none put_mk pinsOf isIo hasIo sbin endR fin resL one outL out1 clo1 cloL coe coeL shut shut.shutL wantA weff cellsOf fillA deref natOf ρ0_app h0_app plain plain.plainL keep_app keepH_app andThen_normal andThen_ret andThen_exit pop_nil pop_after pop_after_ret pop_after_exit pop_blk pop_blk_ret pop_blk_exit nilA srcOf srcCells keepR_app keepHR_app renA rb
structure FlP where
  v : Bool
def gtrP (a b : ByteArray) : Bool := !Op.bytesLess a.toList b.toList && !(a.toList == b.toList)
def putF (f : File) : List File → Bool → List File
  | [], d => if d then [] else [f]
  | x :: xs, d => if x.path.toList = f.path.toList then putF f xs d else if (!d && gtrP x.path f.path) = true then f :: x :: putF f xs true else x :: putF f xs d
theorem fileSc (xs : List File) : plain.plainL (rows File.ty.oc xs) = true := plainL_of (rows_all (q := plain) (fun x c hc => by simp [File.oce] at hc; rcases hc with rfl | rfl <;> rfl) xs)
theorem fileId (xs : List File) : ∀ y ∈ rows File.ty.oc xs, idfree y = true := rows_all (fun x c hc => (File.ty.ow x c hc).fr) xs
/- 191: loop.example/g00464/spec.l5Put -/
def A191 : AC := (.seq (.ops [⟨(some 3), none, .w (.box (.t 1))⟩, ⟨(some 4), none, .q (.mov (.c .em))⟩])
  (.seq (.ops [⟨(some 8), none, .w (.bsl 2 0 [] [])⟩, ⟨(some 5), none, .q (.mov (.t 8))⟩])
  (.seq (.ops [⟨(some 6), none, .q (.mov (.c (.sc (.bool false))))⟩])
  (.seq (.seq (.ops [⟨(some 7), none, .q (.mov (.c (.sc (.int .i64 0))))⟩])
  (.block 0 (.loop (.seq (.seq (.ops [⟨(some 9), none, .q (.mov (.t 7))⟩, ⟨(some 10), none, .q (.mov (.t 0))⟩, ⟨(some 11), none, .q (.llen (.t 10))⟩, ⟨(some 12), none, .q (.bin .lss (.t 9) (.t 11))⟩])
  (.cond (.t 12) .skip
  (.exit 0)))
  (.seq (.block 1 (.seq (.seq (.any [(⟨(some 15), none, .q (.mov (.t 0))⟩, []), (⟨(some 16), none, .q (.mov (.t 7))⟩, []), (⟨(some 17), none, .q (.iadr 2 (.t 15) (.t 16))⟩, [0, 1]), (⟨(some 18), none, .q (.fadr 0 (.t 17))⟩, [2]), (⟨(some 19), none, .q (.load false 1 (.t 18))⟩, [3]), (⟨(some 20), none, .q (.fadr 0 (.t 3))⟩, []), (⟨(some 21), none, .q (.load false 1 (.t 20))⟩, [5]), (⟨(some 22), none, .q (.bin .eql (.t 19) (.t 21))⟩, [4, 6])])
  (.cond (.t 22) (.exit 1)
  .skip))
  (.seq (.seq (.any [(⟨(some 23), none, .q (.mov (.t 6))⟩, []), (⟨(some 24), none, .q (.not (.t 23))⟩, [0]), (⟨(some 25), none, .q (.mov (.t 24))⟩, [1]), (⟨(some 26), (some (25, true)), .q (.mov (.t 0))⟩, [2]), (⟨(some 27), (some (25, true)), .q (.mov (.t 7))⟩, [2]), (⟨(some 28), (some (25, true)), .q (.iadr 2 (.t 26) (.t 27))⟩, [3, 4, 2]), (⟨(some 29), (some (25, true)), .q (.fadr 0 (.t 28))⟩, [5, 2]), (⟨(some 30), (some (25, true)), .q (.load false 1 (.t 29))⟩, [6, 2]), (⟨(some 31), (some (25, true)), .q (.fadr 0 (.t 3))⟩, [2]), (⟨(some 32), (some (25, true)), .q (.load false 1 (.t 31))⟩, [8, 2]), (⟨(some 33), (some (25, true)), .q (.bin .gtr (.t 30) (.t 32))⟩, [7, 9, 2]), (⟨(some 34), none, .q (.pick (.t 25) (.t 33) (.c (.sc (.bool false))))⟩, [2, 10])])
  (.cond (.t 34) (.seq (.ops [⟨(some 35), none, .q (.mov (.t 5))⟩, ⟨(some 36), none, .q (.load true 2 (.t 3))⟩, ⟨(some 37), none, .w (.bsl 2 1 [(.sc (.string ⟨#[]⟩)), (.sc (.string ⟨#[]⟩))] [(0, 2, (.t 36))])⟩, ⟨(some 38), none, .w (.app 2 32 false (.t 35) (.t 37))⟩, ⟨(some 5), none, .q (.mov (.t 38))⟩])
  (.ops [⟨(some 6), none, .q (.mov (.c (.sc (.bool true))))⟩]))
  .skip))
  (.ops [⟨(some 39), none, .q (.mov (.t 5))⟩, ⟨(some 40), none, .q (.mov (.t 0))⟩, ⟨(some 41), none, .q (.mov (.t 7))⟩, ⟨(some 42), none, .q (.iadr 2 (.t 40) (.t 41))⟩, ⟨(some 43), none, .q (.load true 2 (.t 42))⟩, ⟨(some 44), none, .w (.bsl 2 1 [(.sc (.string ⟨#[]⟩)), (.sc (.string ⟨#[]⟩))] [(0, 2, (.t 43))])⟩, ⟨(some 45), none, .w (.app 2 32 false (.t 39) (.t 44))⟩, ⟨(some 5), none, .q (.mov (.t 45))⟩]))))
  (.ops [⟨(some 13), none, .q (.mov (.t 7))⟩, ⟨(some 14), none, .q (.bin .add (.t 13) (.c (.sc (.int .i64 1))))⟩, ⟨(some 7), none, .q (.mov (.t 14))⟩]))))))
  (.seq (.seq (.ops [⟨(some 46), none, .q (.mov (.t 6))⟩, ⟨(some 47), none, .q (.not (.t 46))⟩])
  (.cond (.t 47) (.ops [⟨(some 48), none, .q (.mov (.t 5))⟩, ⟨(some 49), none, .q (.load true 2 (.t 3))⟩, ⟨(some 50), none, .w (.bsl 2 1 [(.sc (.string ⟨#[]⟩)), (.sc (.string ⟨#[]⟩))] [(0, 2, (.t 49))])⟩, ⟨(some 51), none, .w (.app 2 32 false (.t 48) (.t 50))⟩, ⟨(some 5), none, .q (.mov (.t 51))⟩])
  .skip))
  (.seq (.ops [⟨(some 52), none, .q (.mov (.t 5))⟩, ⟨(some 4), none, .q (.mov (.t 52))⟩])
  .ret))))))
theorem K191 : Try.f191.body.bind (comp Try.prog) = some A191 ∧ Try.f191.ntmps = 53 ∧ Try.f191.results.toList.mapM (resB Try.prog) = some [.mov (.t 4)] := ⟨by kernel_rfl, by kernel_rfl, by kernel_rfl⟩
set_option maxHeartbeats 1000000 in
theorem R191 (xs : List File) (f : File) (hok : File.ty.slice.ok xs) : Ret Try.prog 191 [.ro (rows File.ty.cs xs) xs.length, .agg (File.ty.cs f)] (.own (rows File.ty.oc (putF f xs false)) (putF f xs false).length 2) [.un, .un] := by
  have hb : xs.length * 32 ≤ 140737488351232 := hok.1
  refine Ret.run Try.func191 K191 (by simp) rfl rfl 900 ?_
  simp [A191, iniρ, File.cse, over]
  refine T.rounds (μ := fun i : List File × List File × List File × FlP => i.2.1.length)
    (fun i s => i.1 ++ i.2.1 = xs ∧ i.2.2.1 ++ putF f i.2.1 i.2.2.2.v = putF f xs false ∧ i.2.2.1.length ≤ i.1.length + (if i.2.2.2.v then 1 else 0) ∧ s.ρ 0 = .ro (rows File.ty.cs xs) xs.length ∧ s.ρ 3 = .ref 3 0 ∧ s.ρ 5 = .sl 8 0 i.2.2.1.length 2 false ∧ s.ρ 6 = .sc (.bool i.2.2.2.v) ∧ s.ρ 7 = .sc (.int .i64 i.1.length) ∧
      s.h 3 = some (some [.sc (.string f.path), .sc (.string f.text)]) ∧ s.h 8 = some (some (rows File.ty.oc i.2.2.1)) ∧ s.h 37 = none ∧ s.h 38 = none ∧ s.h 44 = none ∧ s.h 45 = none ∧ s.h 50 = none ∧ s.h 51 = none ∧ s.n = 53) ([], xs, [], ⟨false⟩) (by simp [upd_app, rows_nil]) ?_
  rintro ⟨pre, rest, out, ⟨done⟩⟩ ⟨ρ, hh, n⟩ ⟨hx, hE, hle, h0', h3', h5', h6', h7', k3, k8, f1, f2, f3, f4, f5, f6, rfl⟩
  simp only at hx hE hle h0' h3' h5' h6' h7' k3 k8 f1 f2 f3 f4 f5 f6
  refine run_ok (n := 400) ?_
  have hpl : pre.length + rest.length = xs.length := by rw [← hx]; simp
  have hol : out.length ≤ pre.length + 1 := by split at hle <;> omega
  have hc1 : (out.length + 1) * 32 ≤ 140737488355328 := by omega
  cases rest with
  | nil =>
    simp at hx
    obtain ⟨xs0, hx0⟩ : ∃ xs0, xs0 = xs := ⟨_, rfl⟩
    rw [← hx0] at hE ⊢
    rw [hx0]
    have hpx : pre.length = xs.length := by rw [hx]
    simp [h0', h7', hpx]
    refine T.on 400 ?_
    rw [← hx0] at *
    cases done
    · have hfin : rows File.ty.oc out ++ [.sc (.string f.path), .sc (.string f.text)] = rows File.ty.oc (putF f xs0 false) := by rw [← hE, rows_append, putF]; simp [rows_cons, rows_nil, File.oce]
      have hlen : (putF f xs0 false).length = out.length + 1 := by rw [← hE, putF]; simp
      have hid : idfree.idfreeL (rows File.ty.oc (putF f xs0 false)) = true := File.frL _
      simp [h3', h5', h6', k3, k8, f5, f6, over, File.ocl, hc1, ex1, hfin, hlen, hid]
    · have hE2 : out = putF f xs0 false := by rw [← hE, putF]; simp
      simp [h5', h6', k8, ex1, File.ocl, File.frL, hE2]
  | cons x rest =>
    have hlt : (pre.length : Int) < xs.length := by simp only [List.length_cons] at hpl; omega
    have hlt2 : pre.length < xs.length := by omega
    have hd := rows_drop File.ty.csn pre (x :: rest)
    rw [hx, rows_cons] at hd
    have hd : List.drop (pre.length * 2) (rows File.ty.cs xs) = AV.sc (.string x.path) :: AV.sc (.string x.text) :: rows File.ty.cs rest := hd
    have hw : IntKind.i64.wrap ((pre.length : Int) + 1) = pre.length + 1 := wrap_i64 (by omega) (by omega)
    have hap : ∀ (l : List File) (g : File), rows File.ty.oc l ++ [.sc (.string g.path), .sc (.string g.text)] = rows File.ty.oc (l ++ [g]) := fun l g => by rw [rows_append]; simp [rows_cons, rows_nil, File.oce]
    simp [h0', h7', hlt]
    refine T.text 400 mixed (by kernel_rfl) (by kernel_rfl) ?_
    by_cases hk : x.path.toList = f.path.toList
    case pos =>
      simp [h0', h3', h7', k3, hlt, hlt2, hd, hk, hw]
      refine ⟨pre ++ [x], rest, by simp, out, ⟨done⟩, _, Le.refl _, ?_⟩
      simp [hx, h0', h3', h5', h6', k3, k8, f1, f2, f3, f4, f5, f6, upd_app]
      rw [putF, if_pos hk] at hE
      exact ⟨hE, by omega⟩
    rw [putF, if_neg hk] at hE
    have hk2 : (x.path.toList == f.path.toList) = false := by simpa using hk
    simp only [List.length_cons] at hpl
    simp [h0', h3', h7', k3, hlt, hlt2, hd, hk, hw]
    refine T.text 400 mixed (by kernel_rfl) (by kernel_rfl) ?_
    cases done
    case true =>
      simp at hE hle
      have hc2 : (out.length + 1) * 32 ≤ 140737488355328 := by omega
      simp [h0', h3', h5', h6', h7', k3, k8, f3, f4, hlt, hlt2, hd, hw, over, File.ocl, hc2, hap]
      refine ⟨pre ++ [x], rest, by simp, out ++ [x], ⟨true⟩, _, Le.reseat [0, 3, 5, 6, 7] [(45, 8), (3, 3)] (by simp) (by simp [upd_app, menB, idfree, h0', h3', h6']) ?_, ?_⟩
      · intro b hb cs hcs
        simp at hb
        rcases hb with rfl | rfl
        · simp [upd_app] at hcs
          subst hcs
          exact fileId _
        · simp [upd_app, k3] at hcs
          subst hcs
          simp [idfree]
      · simp [hx, h0', h3', h6', k3, upd_app, hE]
        omega
    simp at hle
    cases hg : Op.bytesLess x.path.toList f.path.toList
    case false =>
      have hgt : gtrP x.path f.path = true := by simp [gtrP, hg, hk2]
      simp [hgt] at hE
      have hc2 : (out.length + 1) * 32 ≤ 140737488355328 := by omega
      have hc4 : out.length + 1 + 1 ≤ xs.length + 1 := by omega
      have hc3 : (out.length + 1 + 1) * 32 ≤ 140737488355328 := Nat.le_trans (Nat.mul_le_mul_right 32 hc4) (Nat.le_trans (Nat.le_of_eq (Nat.succ_mul xs.length 32)) (Nat.le_trans (Nat.add_le_add_right hb 32) (by decide)))
      simp [h0', h3', h5', h6', h7', k3, k8, f1, f2, f3, f4, hlt, hlt2, hd, hw, hk, hk2, hg, over, File.ocl, hc2, hc3, hap]
      refine ⟨pre ++ [x], rest, by simp, out ++ [f, x], ⟨true⟩, _, Le.reseat [0, 3, 5, 6, 7] [(45, 8), (3, 3)] (by simp) (by simp [upd_app, menB, idfree, h0', h3', h6']) ?_, ?_⟩
      · intro b hb cs hcs
        simp at hb
        rcases hb with rfl | rfl
        · simp [upd_app] at hcs
          subst hcs
          exact fileId _
        · simp [upd_app, k3] at hcs
          subst hcs
          simp [idfree]
      · simp [hx, h0', h3', h6', k3, upd_app, hE]
        omega
    case true =>
      have hgt : gtrP x.path f.path = false := by simp [gtrP, hg, hk2]
      simp [hgt] at hE
      have hc2 : (out.length + 1) * 32 ≤ 140737488355328 := hc1
      simp [h0', h3', h5', h6', h7', k3, k8, f1, f2, f3, f4, hlt, hlt2, hd, hw, hk, hk2, hg, over, File.ocl, hc2, hap]
      refine ⟨pre ++ [x], rest, by simp, out ++ [x], ⟨false⟩, _, Le.reseat [0, 3, 5, 6, 7] [(45, 8), (3, 3)] (by simp) (by simp [upd_app, menB, idfree, h0', h3', h6']) ?_, ?_⟩
      · intro b hb cs hcs
        simp at hb
        rcases hb with rfl | rfl
        · simp [upd_app] at hcs
          subst hcs
          exact fileId _
        · simp [upd_app, k3] at hcs
          subst hcs
          simp [idfree]
      · simp [hx, h0', h3', h6', k3, upd_app, hE]
        omega
def above (p : Option ByteArray) (x : ByteArray) : Bool := match p with | none => true | some q => Op.bytesLess q.toList x.toList
def filesL : Option ByteArray → List File → Bool
  | _, [] => true
  | p, x :: l => pathOk x.path && (decide (x.text.size ≤ 60) && (above p x.path && filesL (some x.path) l))
def lastP : List File → Option ByteArray
  | [] => none
  | x :: l => match lastP l with | some p => some p | none => some x.path
theorem lastP_snoc : ∀ (l : List File) (x : File), lastP (l ++ [x]) = some x.path
  | [], x => rfl
  | y :: l, x => by simp only [List.cons_append, lastP, lastP_snoc l x]
def filesOk (xs : List File) : Bool := filesL none xs && decide (xs.length ≤ 30)
/- 192: loop.example/g00464/spec.FilesOk -/
def A192 : AC := (.seq (.ops [⟨(some 2), none, .q (.mov (.c (.sc (.bool false))))⟩])
  (.seq (.seq (.ops [⟨(some 3), none, .q (.mov (.c (.sc (.int .i64 0))))⟩])
  (.block 0 (.loop (.seq (.seq (.ops [⟨(some 4), none, .q (.mov (.t 3))⟩, ⟨(some 5), none, .q (.mov (.t 0))⟩, ⟨(some 6), none, .q (.llen (.t 5))⟩, ⟨(some 7), none, .q (.bin .lss (.t 4) (.t 6))⟩])
  (.cond (.t 7) .skip
  (.exit 0)))
  (.seq (.block 1 (.seq (.any [(⟨(some 10), none, .q (.mov (.t 0))⟩, []), (⟨(some 11), none, .q (.mov (.t 3))⟩, []), (⟨(some 12), none, .q (.iadr 2 (.t 10) (.t 11))⟩, [0, 1]), (⟨(some 13), none, .q (.fadr 0 (.t 12))⟩, [2]), (⟨(some 14), none, .q (.load false 1 (.t 13))⟩, [3]), (⟨(some 15), none, .c (.c (.clo 202 [])) [(.t 14)]⟩, [4]), (⟨(some 16), none, .q (.not (.t 15))⟩, [5]), (⟨(some 17), none, .q (.mov (.t 16))⟩, [6, 5]), (⟨(some 18), (some (17, false)), .q (.mov (.t 0))⟩, [7]), (⟨(some 19), (some (17, false)), .q (.mov (.t 3))⟩, [7]), (⟨(some 20), (some (17, false)), .q (.iadr 2 (.t 18) (.t 19))⟩, [8, 9, 7]), (⟨(some 21), (some (17, false)), .q (.fadr 1 (.t 20))⟩, [10, 7]), (⟨(some 22), (some (17, false)), .q (.load false 1 (.t 21))⟩, [11, 7]), (⟨(some 23), (some (17, false)), .q (.slen (.t 22))⟩, [12, 7]), (⟨(some 24), (some (17, false)), .q (.bin .gtr (.t 23) (.c (.sc (.int .i64 60))))⟩, [13, 7]), (⟨(some 25), none, .q (.pick (.t 17) (.c (.sc (.bool true))) (.t 24))⟩, [7, 14]), (⟨(some 26), none, .q (.mov (.t 25))⟩, [15, 7]), (⟨(some 27), (some (26, false)), .q (.mov (.t 3))⟩, [16]), (⟨(some 28), (some (26, false)), .q (.bin .gtr (.t 27) (.c (.sc (.int .i64 0))))⟩, [17, 16]), (⟨(some 29), (some (26, false)), .q (.mov (.t 28))⟩, [18, 16, 16]), (⟨(some 30), (some (29, true)), .q (.mov (.t 0))⟩, [19]), (⟨(some 31), (some (29, true)), .q (.mov (.t 3))⟩, [19]), (⟨(some 32), (some (29, true)), .q (.bin .sub (.t 31) (.c (.sc (.int .i64 1))))⟩, [21, 19]), (⟨(some 33), (some (29, true)), .q (.iadr 2 (.t 30) (.t 32))⟩, [20, 22, 19]), (⟨(some 34), (some (29, true)), .q (.fadr 0 (.t 33))⟩, [23, 19]), (⟨(some 35), (some (29, true)), .q (.load false 1 (.t 34))⟩, [24, 19]), (⟨(some 36), (some (29, true)), .q (.mov (.t 0))⟩, [19]), (⟨(some 37), (some (29, true)), .q (.mov (.t 3))⟩, [19]), (⟨(some 38), (some (29, true)), .q (.iadr 2 (.t 36) (.t 37))⟩, [26, 27, 19]), (⟨(some 39), (some (29, true)), .q (.fadr 0 (.t 38))⟩, [28, 19]), (⟨(some 40), (some (29, true)), .q (.load false 1 (.t 39))⟩, [29, 19]), (⟨(some 41), (some (29, true)), .q (.bin .geq (.t 35) (.t 40))⟩, [25, 30, 19]), (⟨(some 42), (some (26, false)), .q (.pick (.t 29) (.t 41) (.c (.sc (.bool false))))⟩, [19, 31, 16]), (⟨(some 43), none, .q (.pick (.t 26) (.c (.sc (.bool true))) (.t 42))⟩, [16, 32])])
  (.cond (.t 43) (.seq (.ops [⟨(some 2), none, .q (.mov (.c (.sc (.bool false))))⟩])
  .ret)
  .skip)))
  (.ops [⟨(some 8), none, .q (.mov (.t 3))⟩, ⟨(some 9), none, .q (.bin .add (.t 8) (.c (.sc (.int .i64 1))))⟩, ⟨(some 3), none, .q (.mov (.t 9))⟩]))))))
  (.seq (.ops [⟨(some 44), none, .q (.mov (.t 0))⟩, ⟨(some 45), none, .q (.llen (.t 44))⟩, ⟨(some 46), none, .q (.bin .leq (.t 45) (.c (.sc (.int .i64 30))))⟩, ⟨(some 2), none, .q (.mov (.t 46))⟩])
  .ret)))
theorem K192 : Try.f192.body.bind (comp Try.prog) = some A192 ∧ Try.f192.ntmps = 47 ∧ Try.f192.results.toList.mapM (resB Try.prog) = some [.mov (.t 2)] := ⟨by kernel_rfl, by kernel_rfl, by kernel_rfl⟩
set_option maxHeartbeats 2000000 in
set_option maxRecDepth 100000 in
theorem R192 (xs : List File) (hb : xs.length < 4611686018427387904) (hp : ∀ x ∈ xs, x.path.size ≤ 1048576) : Ret Try.prog 192 [.ro (rows File.ty.cs xs) xs.length] (.sc (.bool (filesOk xs))) [.un] := by
  refine Ret.run Try.func192 K192 (by simp) rfl rfl 900 ?_
  simp [A192, iniρ]
  refine T.rounds (μ := fun i : List File × List File => i.2.length)
    (fun i s => i.1 ++ i.2 = xs ∧ filesL (lastP i.1) i.2 = filesL none xs ∧ s.ρ 0 = .ro (rows File.ty.cs xs) xs.length ∧ s.ρ 3 = .sc (.int .i64 i.1.length) ∧ s.h = h0 ∧ s.n = 47) ([], xs) (by simp [upd_app, lastP]) ?_
  rintro ⟨pre, rest⟩ ⟨ρ, hh, n⟩ ⟨hx, hE, k0, k3, rfl, rfl⟩
  simp only at hx hE k0 k3
  refine run_ok (n := 400) ?_
  cases rest with
  | nil =>
    have hxl : pre.length = xs.length := by rw [← hx]; simp
    have hA : filesL none xs = true := by rw [← hE]; cases lastP pre <;> rfl
    simp [k0, k3, hxl]
    refine T.on 400 ?_
    simp [k0, filesOk, hA]
    try omega
  | cons x rest =>
    have hle : pre.length + (rest.length + 1) = xs.length := by rw [← hx]; simp
    have hlt : (pre.length : Int) < xs.length := by omega
    have hlt2 : pre.length < xs.length := by omega
    have hw : IntKind.i64.wrap ((pre.length : Int) + 1) = pre.length + 1 := wrap_i64 (by omega) (by omega)
    have hd := rows_drop File.ty.csn pre (x :: rest)
    rw [hx, rows_cons] at hd
    have hd : List.drop (pre.length * 2) (rows File.ty.cs xs) = AV.sc (.string x.path) :: AV.sc (.string x.text) :: rows File.ty.cs rest := hd
    have hd1 : List.drop (pre.length * 2 + 1) (rows File.ty.cs xs) = AV.sc (.string x.text) :: rows File.ty.cs rest := by rw [← List.drop_drop, hd]; rfl
    have hxp := hp x (by rw [← hx]; simp)
    have stop : ∀ c, (pathOk x.path && (decide (x.text.size ≤ 60) && above (lastP pre) x.path)) = c → c = false → filesOk xs = false := fun c h1 h2 => by
      subst h2
      have : filesL none xs = false := by
        rw [← hE, filesL]
        cases h5 : pathOk x.path <;> cases h6 : decide (x.text.size ≤ 60) <;> cases h7 : above (lastP pre) x.path <;> simp_all
      simp [filesOk, this]
    simp [k0, k3, hlt]
    refine T.text 400 mixed (by kernel_rfl) (by kernel_rfl) ?_
    simp [k0, k3, hlt, hlt2, hd]
    refine callSK.by rfl (by kernel_rfl) rfl (R202 x.path hxp) ?_
    cases h1 : pathOk x.path
    · have := stop _ rfl (by simp [h1])
      simp [this]
    by_cases h2 : x.text.size ≤ 60
    case neg =>
      have := stop _ rfl (by simp [h2])
      have h2' : (60 : Int) < x.text.size := by omega
      simp [k0, k3, hlt, hlt2, hd1, h2', this]
    have h2' : ¬ ((60 : Int) < x.text.size) := by omega
    have fin : above (lastP pre) x.path = true → filesL (some x.path) rest = filesL none xs := fun h => by
      rw [← hE, filesL, h1, h]; simp [h2]
    rcases List.eq_nil_or_concat pre with rfl | ⟨p0, q, ep⟩
    · simp at hlt hlt2 hd1 hw
      simp [k0, k3, hlt, hlt2, hd1, h2']
      refine ⟨[x], rest, by simp, _, Le.refl _, ?_⟩
      have hF := fin rfl
      simp at hx
      simp [hx, k0, upd_app, lastP, hF, hw]
    rw [List.concat_eq_append] at ep
    subst ep
    have hq : List.drop (p0.length * 2) (rows File.ty.cs xs) = AV.sc (.string q.path) :: AV.sc (.string q.text) :: rows File.ty.cs (x :: rest) := by
      have h := rows_drop File.ty.csn p0 (q :: x :: rest)
      have e : p0 ++ q :: x :: rest = xs := by rw [← hx]; simp
      rw [e, rows_cons] at h
      exact h
    have hw0 : IntKind.i64.wrap (p0.length : Int) = p0.length := wrap_i64 (by omega) (by simp only [List.length_append] at hle; omega)
    have hl0 : p0.length < xs.length := by simp only [List.length_append] at hle; omega
    rw [lastP_snoc] at fin stop
    simp only [List.length_append, List.length_cons, List.length_nil, Nat.zero_add] at hlt hlt2 hd hd1 hw k3
    have hpos : (0 : Int) < (p0.length : Int) + 1 := by omega
    have hpos2 : (0 : Int) ≤ (p0.length : Int) + 1 := by omega
    have hlt3 : (p0.length : Int) + 1 < xs.length := by omega
    cases h3 : Op.bytesLess q.path.toList x.path.toList
    · have := stop _ rfl (by simp [above, h3])
      simp [k0, k3, hlt, hlt2, hd, hd1, h2', hpos, hpos2, hlt3, hw0, hl0, hq, h3, this]
    · have hF := fin (by simp [above, h3])
      simp [k0, k3, hlt, hlt2, hd, hd1, h2', hpos, hpos2, hlt3, hw0, hl0, hq, h3]
      refine ⟨p0 ++ [q] ++ [x], rest, by simp, _, Le.refl _, ?_⟩
      rw [lastP_snoc]
      simp at hw hx
      simp [hx, k0, upd_app, hF, hw]
      omega
theorem putF_len (f : File) : ∀ (xs : List File) (d : Bool), (putF f xs d).length ≤ xs.length + 1
  | [], d => by cases d <;> simp [putF]
  | x :: xs, d => by
    have h1 := putF_len f xs d
    rw [putF]
    split
    · simp; omega
    · split
      · have h3 : ∀ (xs : List File), (putF f xs true).length ≤ xs.length := by
          intro xs
          induction xs with
          | nil => simp [putF]
          | cons y ys ih =>
            rw [putF]
            split
            · simp; omega
            · simp; omega
        have := h3 xs
        simp; omega
      · simp; omega
theorem putF_mem (f : File) : ∀ (xs : List File) (d : Bool), ∀ x ∈ putF f xs d, x = f ∨ x ∈ xs
  | [], d, x, h => by cases d <;> simp [putF] at h; exact .inl h
  | y :: ys, d, x, h => by
    rw [putF] at h
    split at h
    · exact (putF_mem f ys d x h).imp id (List.mem_cons_of_mem _)
    · split at h
      · rcases List.mem_cons.1 h with rfl | h
        · exact .inl rfl
        · rcases List.mem_cons.1 h with rfl | h
          · exact .inr (List.mem_cons_self ..)
          · exact (putF_mem f ys true x h).imp id (List.mem_cons_of_mem _)
      · rcases List.mem_cons.1 h with rfl | h
        · exact .inr (List.mem_cons_self ..)
        · exact (putF_mem f ys d x h).imp id (List.mem_cons_of_mem _)
def putFile (xs : List File) (f : File) : List File × Bool := if filesOk (putF f xs false) = true then (putF f xs false, true) else (xs, false)
/- 176: loop.example/g00464/spec.PutFile -/
def A176 : AC := (.seq (.ops [⟨(some 3), none, .w (.box (.t 1))⟩, ⟨(some 4), none, .q (.mov (.c .em))⟩, ⟨(some 5), none, .q (.mov (.c (.sc (.bool false))))⟩])
  (.seq (.ops [⟨(some 7), none, .q (.mov (.t 0))⟩, ⟨(some 8), none, .q (.load true 2 (.t 3))⟩, ⟨(some 9), none, .c (.c (.clo 191 [])) [(.t 7), (.t 8)]⟩, ⟨(some 6), none, .q (.mov (.t 9))⟩])
  (.seq (.seq (.ops [⟨(some 10), none, .q (.mov (.t 6))⟩, ⟨(some 11), none, .c (.c (.clo 192 [])) [(.t 10)]⟩, ⟨(some 12), none, .q (.not (.t 11))⟩])
  (.cond (.t 12) (.seq (.ops [⟨(some 13), none, .w (.bsl 2 0 [] [])⟩, ⟨(some 14), none, .q (.mov (.t 0))⟩, ⟨(some 15), none, .w (.app 2 32 false (.t 13) (.t 14))⟩, ⟨(some 4), none, .q (.mov (.t 15))⟩, ⟨(some 5), none, .q (.mov (.c (.sc (.bool false))))⟩])
  .ret)
  .skip))
  (.seq (.ops [⟨(some 16), none, .q (.mov (.t 6))⟩, ⟨(some 4), none, .q (.mov (.t 16))⟩, ⟨(some 5), none, .q (.mov (.c (.sc (.bool true))))⟩])
  .ret))))
theorem K176 : Try.f176.body.bind (comp Try.prog) = some A176 ∧ Try.f176.ntmps = 17 ∧ Try.f176.results.toList.mapM (resB Try.prog) = some [.mov (.t 4), .mov (.t 5)] := ⟨by kernel_rfl, by kernel_rfl, by kernel_rfl⟩
theorem R176 (xs : List File) (f : File) (hok : File.ty.slice.ok xs) (hp : ∀ x ∈ xs, x.path.size ≤ 1048576) (hf : f.path.size ≤ 1048576) : Ret Try.prog 176 [.ro (rows File.ty.cs xs) xs.length, .agg (File.ty.cs f)] (.tup [.own (rows File.ty.oc (putFile xs f).1) (putFile xs f).1.length 2, .sc (.bool (putFile xs f).2)]) [.un, .un] := by
  have hb : xs.length * 32 ≤ 140737488351232 := hok.1
  obtain ⟨ys, hys⟩ : ∃ ys, ys = putF f xs false := ⟨_, rfl⟩
  have rp := R191 xs f hok
  have hl := putF_len f xs false
  have hm := putF_mem f xs false
  rw [← hys] at rp hl hm
  have rf := R192 ys (by omega) (fun x hx => (hm x hx).elim (fun e => e ▸ hf) (hp x))
  refine Ret.run Try.func176 K176 (by simp) rfl rfl 900 ?_
  simp [A176, iniρ, File.cse, over]
  refine callK.own 9 rfl (by kernel_rfl) (by simp [roc_ro, roc_agg]; rfl) rp (File.ty.flo ys) (by simp [upd_app]) rfl ?_
  simp
  refine callK.ro 0 rfl (by kernel_rfl) (by simp [File.roc8]) rf rfl rfl rfl ?_
  have hcap : xs.length * 32 ≤ 140737488355328 := by omega
  have hsc := fileSc xs
  have hfe : rows File.ty.cs xs = rows File.ty.oc xs := rfl
  cases h : filesOk ys
  · simp [putFile, ← hys, h, over, hcap, hfe, hsc, File.ocl, ex1, File.frL]
  · simp [putFile, ← hys, h, ex1, File.ocl, File.frL]
end Go.Proofs.Ytadoadomogceiaa.Am
