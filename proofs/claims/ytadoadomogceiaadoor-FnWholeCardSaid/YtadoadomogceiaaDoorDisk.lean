/- The functions of the program, each by its contract: Disk; no condition. -/
import Derived.Test.YtadoadomogceiaaDoorProg
import Derived.Test.YtadoadomogceiaaDoorAmZ
import Derived.Test.YtadoadomogceiaaDoorAmP
import Derived.Test.YtadoadomogceiaaDoorTypes
import Derived.Test.YtadoadomogceiaaDoorWords
import Derived.KernelRfl
namespace Go.Proofs.YtadoadomogceiaaDoor.Am
open Go Go.Proofs
set_option linter.unusedSimpArgs false
set_option linter.unusedVariables false
attribute [local congr] T_congr callK_congr callWK_congr
attribute [local simp] run_nil run_op0 run_opg run_seq run_cond run_block run_ret run_skip run_skip_after run_skip_blk run_exit run_exit_after run_exit_blk run_loop run_any runS_nil runS_op0 runS_opg runW_nil runW_op0 runW_opg exec_q exec_w exec_c exec_n execW_q execW_w execW_c restW_app hideH_app merge_app wblk rest_app restS_app execS_q execS_c aval dOk upd_app ev_t ev_c setO_some setO_none put_mk pinsOf isIo hasIo sbin endR fin resL one outL out1 clo1 cloL coe coeL shut shut.shutL wantA weff cellsOf fillA deref natOf ρ0_app h0_app plain plain.plainL keep_app keepH_app andThen_normal andThen_ret andThen_exit pop_nil pop_after pop_after_ret pop_after_exit pop_blk pop_blk_ret pop_blk_exit nilA srcOf srcCells keepR_app keepHR_app renA rb
def opOkB (o : Op) : Bool := if o.kind = 1 then nameOk o.a && decide ((o.b.size : Int) ≤ 400) else if o.kind = 2 then nameOk o.a && nameOk o.b && !(o.a.toList == o.b.toList) else false
def docsL : Option Doc → List Doc → Bool
  | _, [] => true
  | p, x :: l => (nameOk x.name && decide ((x.text.size : Int) ≤ 400) && (match p with | none => true | some q => Op.bytesLess q.name.toList x.name.toList)) && docsL (some x) l
def diskOk (d : Disk) : Bool := docsL none d.sure && d.pend.all opOkB && decide ((d.sure.length : Int) ≤ 6) && decide ((d.pend.length : Int) ≤ 10)
/- 74: loop.example/g00464/spec.l22Op -/
def A74 : AC := (.seq (.ops [⟨(some 1), none, .w (.box (.t 0))⟩, ⟨(some 2), none, .q (.mov (.c (.sc (.bool false))))⟩])
  (.seq (.seq (.ops [⟨(some 3), none, .q (.fadr 0 (.t 1))⟩, ⟨(some 4), none, .q (.load false 1 (.t 3))⟩])
  (.block 0 (.seq (.ops [⟨(some 6), none, .q (.bin .eql (.t 4) (.c (.sc (.int .i64 1))))⟩, ⟨(some 5), none, .q (.mov (.t 6))⟩])
  (.cond (.t 5) (.seq (.ops [⟨(some 7), none, .q (.fadr 1 (.t 1))⟩, ⟨(some 8), none, .q (.load false 1 (.t 7))⟩, ⟨(some 9), none, .c (.c (.clo 83 [])) [(.t 8)]⟩, ⟨(some 10), none, .q (.mov (.t 9))⟩, ⟨(some 11), (some (10, true)), .q (.fadr 2 (.t 1))⟩, ⟨(some 12), (some (10, true)), .q (.load false 1 (.t 11))⟩, ⟨(some 13), (some (10, true)), .q (.slen (.t 12))⟩, ⟨(some 14), (some (10, true)), .q (.bin .leq (.t 13) (.c (.sc (.int .i64 400))))⟩, ⟨(some 15), none, .q (.pick (.t 10) (.t 14) (.c (.sc (.bool false))))⟩, ⟨(some 2), none, .q (.mov (.t 15))⟩])
  .ret)
  (.seq (.ops [⟨(some 17), none, .q (.bin .eql (.t 4) (.c (.sc (.int .i64 2))))⟩, ⟨(some 16), none, .q (.mov (.t 17))⟩])
  (.cond (.t 16) (.seq (.ops [⟨(some 18), none, .q (.fadr 1 (.t 1))⟩, ⟨(some 19), none, .q (.load false 1 (.t 18))⟩, ⟨(some 20), none, .c (.c (.clo 83 [])) [(.t 19)]⟩, ⟨(some 21), none, .q (.mov (.t 20))⟩, ⟨(some 22), (some (21, true)), .q (.fadr 2 (.t 1))⟩, ⟨(some 23), (some (21, true)), .q (.load false 1 (.t 22))⟩, ⟨(some 24), (some (21, true)), .c (.c (.clo 83 [])) [(.t 23)]⟩, ⟨(some 25), none, .q (.pick (.t 21) (.t 24) (.c (.sc (.bool false))))⟩, ⟨(some 26), none, .q (.mov (.t 25))⟩, ⟨(some 27), (some (26, true)), .q (.fadr 1 (.t 1))⟩, ⟨(some 28), (some (26, true)), .q (.load false 1 (.t 27))⟩, ⟨(some 29), (some (26, true)), .q (.fadr 2 (.t 1))⟩, ⟨(some 30), (some (26, true)), .q (.load false 1 (.t 29))⟩, ⟨(some 31), (some (26, true)), .q (.bin .neq (.t 28) (.t 30))⟩, ⟨(some 32), none, .q (.pick (.t 26) (.t 31) (.c (.sc (.bool false))))⟩, ⟨(some 2), none, .q (.mov (.t 32))⟩])
  .ret)
  .skip))))))
  (.seq (.ops [⟨(some 2), none, .q (.mov (.c (.sc (.bool false))))⟩])
  .ret)))
theorem K74 : Tryd.f74.body.bind (comp Tryd.prog) = some A74 ∧ Tryd.f74.ntmps = 33 ∧ Tryd.f74.results.toList.mapM (resB Tryd.prog) = some [.mov (.t 2)] := ⟨by kernel_rfl, by kernel_rfl, by kernel_rfl⟩
theorem R74 (o : Op) (ho : Op.ty.ok o) : Ret Tryd.prog 74 [.agg (Op.ty.cs o)] (.sc (.bool (opOkB o))) [.un] := by
  obtain ⟨o1, o2, o3, _⟩ := ho
  refine Ret.run Tryd.func74 K74 (by simp) rfl rfl 500 ?_
  by_cases k1 : o.kind = 1
  · simp [A74, iniρ, Op.cse, k1]
    refine callK.ro 0 rfl (by kernel_rfl) (by simp [roc_sc]) (R83 o.a o2) rfl rfl rfl ?_
    cases h : nameOk o.a <;> simp [opOkB, k1, h]
  · by_cases k2 : o.kind = 2
    · simp [A74, iniρ, Op.cse, k1, k2]
      refine callK.ro 0 rfl (by kernel_rfl) (by simp [roc_sc]) (R83 o.a o2) rfl rfl rfl ?_
      cases h : nameOk o.a
      · simp [opOkB, k1, k2, h]
      · simp
        refine callK.ro 0 rfl (by kernel_rfl) (by simp [roc_sc]) (R83 o.b o3) rfl rfl rfl ?_
        cases h' : nameOk o.b <;> simp [opOkB, k1, k2, h, h']
    · simp [A74, iniρ, Op.cse, k1, k2, opOkB]
/- 47: loop.example/g00464/impl.opOk -/
def A47 : AC := (.seq (.ops [⟨(some 1), none, .w (.box (.t 0))⟩, ⟨(some 2), none, .q (.mov (.c (.sc (.bool false))))⟩])
  (.seq (.seq (.ops [⟨(some 3), none, .q (.fadr 0 (.t 1))⟩, ⟨(some 4), none, .q (.load false 1 (.t 3))⟩])
  (.block 0 (.seq (.ops [⟨(some 6), none, .q (.bin .eql (.t 4) (.c (.sc (.int .i64 1))))⟩, ⟨(some 5), none, .q (.mov (.t 6))⟩])
  (.cond (.t 5) (.seq (.ops [⟨(some 7), none, .q (.fadr 1 (.t 1))⟩, ⟨(some 8), none, .q (.load false 1 (.t 7))⟩, ⟨(some 9), none, .c (.c (.clo 46 [])) [(.t 8)]⟩, ⟨(some 10), none, .q (.mov (.t 9))⟩, ⟨(some 11), (some (10, true)), .q (.fadr 2 (.t 1))⟩, ⟨(some 12), (some (10, true)), .q (.load false 1 (.t 11))⟩, ⟨(some 13), (some (10, true)), .q (.slen (.t 12))⟩, ⟨(some 14), (some (10, true)), .q (.bin .leq (.t 13) (.c (.sc (.int .i64 400))))⟩, ⟨(some 15), none, .q (.pick (.t 10) (.t 14) (.c (.sc (.bool false))))⟩, ⟨(some 2), none, .q (.mov (.t 15))⟩])
  .ret)
  (.seq (.ops [⟨(some 17), none, .q (.bin .eql (.t 4) (.c (.sc (.int .i64 2))))⟩, ⟨(some 16), none, .q (.mov (.t 17))⟩])
  (.cond (.t 16) (.seq (.ops [⟨(some 18), none, .q (.fadr 1 (.t 1))⟩, ⟨(some 19), none, .q (.load false 1 (.t 18))⟩, ⟨(some 20), none, .c (.c (.clo 46 [])) [(.t 19)]⟩, ⟨(some 21), none, .q (.mov (.t 20))⟩, ⟨(some 22), (some (21, true)), .q (.fadr 2 (.t 1))⟩, ⟨(some 23), (some (21, true)), .q (.load false 1 (.t 22))⟩, ⟨(some 24), (some (21, true)), .c (.c (.clo 46 [])) [(.t 23)]⟩, ⟨(some 25), none, .q (.pick (.t 21) (.t 24) (.c (.sc (.bool false))))⟩, ⟨(some 26), none, .q (.mov (.t 25))⟩, ⟨(some 27), (some (26, true)), .q (.fadr 1 (.t 1))⟩, ⟨(some 28), (some (26, true)), .q (.load false 1 (.t 27))⟩, ⟨(some 29), (some (26, true)), .q (.fadr 2 (.t 1))⟩, ⟨(some 30), (some (26, true)), .q (.load false 1 (.t 29))⟩, ⟨(some 31), (some (26, true)), .q (.bin .neq (.t 28) (.t 30))⟩, ⟨(some 32), none, .q (.pick (.t 26) (.t 31) (.c (.sc (.bool false))))⟩, ⟨(some 2), none, .q (.mov (.t 32))⟩])
  .ret)
  .skip))))))
  (.seq (.ops [⟨(some 2), none, .q (.mov (.c (.sc (.bool false))))⟩])
  .ret)))
theorem K47 : Tryd.f47.body.bind (comp Tryd.prog) = some A47 ∧ Tryd.f47.ntmps = 33 ∧ Tryd.f47.results.toList.mapM (resB Tryd.prog) = some [.mov (.t 2)] := ⟨by kernel_rfl, by kernel_rfl, by kernel_rfl⟩
theorem R47 (o : Op) (ho : Op.ty.ok o) : Ret Tryd.prog 47 [.agg (Op.ty.cs o)] (.sc (.bool (opOkB o))) [.un] := by
  obtain ⟨o1, o2, o3, _⟩ := ho
  refine Ret.run Tryd.func47 K47 (by simp) rfl rfl 500 ?_
  by_cases k1 : o.kind = 1
  · simp [A47, iniρ, Op.cse, k1]
    refine callK.ro 0 rfl (by kernel_rfl) (by simp [roc_sc]) (R46 o.a o2) rfl rfl rfl ?_
    cases h : nameOk o.a <;> simp [opOkB, k1, h]
  · by_cases k2 : o.kind = 2
    · simp [A47, iniρ, Op.cse, k1, k2]
      refine callK.ro 0 rfl (by kernel_rfl) (by simp [roc_sc]) (R46 o.a o2) rfl rfl rfl ?_
      cases h : nameOk o.a
      · simp [opOkB, k1, k2, h]
      · simp
        refine callK.ro 0 rfl (by kernel_rfl) (by simp [roc_sc]) (R46 o.b o3) rfl rfl rfl ?_
        cases h' : nameOk o.b <;> simp [opOkB, k1, k2, h, h']
    · simp [A47, iniρ, Op.cse, k1, k2, opOkB]
/- 75: loop.example/g00464/spec.l22Docs -/
def A75 : AC := (.seq (.ops [⟨(some 2), none, .q (.mov (.c (.sc (.bool false))))⟩])
  (.seq (.seq (.ops [⟨(some 3), none, .q (.mov (.c (.sc (.int .i64 0))))⟩])
  (.block 0 (.loop (.seq (.seq (.ops [⟨(some 4), none, .q (.mov (.t 3))⟩, ⟨(some 5), none, .q (.mov (.t 0))⟩, ⟨(some 6), none, .q (.llen (.t 5))⟩, ⟨(some 7), none, .q (.bin .lss (.t 4) (.t 6))⟩])
  (.cond (.t 7) .skip
  (.exit 0)))
  (.seq (.block 1 (.seq (.any [(⟨(some 10), none, .q (.mov (.t 0))⟩, []), (⟨(some 11), none, .q (.mov (.t 3))⟩, []), (⟨(some 12), none, .q (.iadr 2 (.t 10) (.t 11))⟩, [0, 1]), (⟨(some 13), none, .q (.fadr 0 (.t 12))⟩, [2]), (⟨(some 14), none, .q (.load false 1 (.t 13))⟩, [3]), (⟨(some 15), none, .c (.c (.clo 83 [])) [(.t 14)]⟩, [4]), (⟨(some 16), none, .q (.not (.t 15))⟩, [5]), (⟨(some 17), none, .q (.mov (.t 16))⟩, [6, 5]), (⟨(some 18), (some (17, false)), .q (.mov (.t 0))⟩, [7]), (⟨(some 19), (some (17, false)), .q (.mov (.t 3))⟩, [7]), (⟨(some 20), (some (17, false)), .q (.iadr 2 (.t 18) (.t 19))⟩, [8, 9, 7]), (⟨(some 21), (some (17, false)), .q (.fadr 1 (.t 20))⟩, [10, 7]), (⟨(some 22), (some (17, false)), .q (.load false 1 (.t 21))⟩, [11, 7]), (⟨(some 23), (some (17, false)), .q (.slen (.t 22))⟩, [12, 7]), (⟨(some 24), (some (17, false)), .q (.bin .gtr (.t 23) (.c (.sc (.int .i64 400))))⟩, [13, 7]), (⟨(some 25), none, .q (.pick (.t 17) (.c (.sc (.bool true))) (.t 24))⟩, [7, 14]), (⟨(some 26), none, .q (.mov (.t 25))⟩, [15, 7]), (⟨(some 27), (some (26, false)), .q (.mov (.t 3))⟩, [16]), (⟨(some 28), (some (26, false)), .q (.bin .gtr (.t 27) (.c (.sc (.int .i64 0))))⟩, [17, 16]), (⟨(some 29), (some (26, false)), .q (.mov (.t 28))⟩, [18, 16, 16]), (⟨(some 30), (some (29, true)), .q (.mov (.t 0))⟩, [19]), (⟨(some 31), (some (29, true)), .q (.mov (.t 3))⟩, [19]), (⟨(some 32), (some (29, true)), .q (.bin .sub (.t 31) (.c (.sc (.int .i64 1))))⟩, [21, 19]), (⟨(some 33), (some (29, true)), .q (.iadr 2 (.t 30) (.t 32))⟩, [20, 22, 19]), (⟨(some 34), (some (29, true)), .q (.fadr 0 (.t 33))⟩, [23, 19]), (⟨(some 35), (some (29, true)), .q (.load false 1 (.t 34))⟩, [24, 19]), (⟨(some 36), (some (29, true)), .q (.mov (.t 0))⟩, [19]), (⟨(some 37), (some (29, true)), .q (.mov (.t 3))⟩, [19]), (⟨(some 38), (some (29, true)), .q (.iadr 2 (.t 36) (.t 37))⟩, [26, 27, 19]), (⟨(some 39), (some (29, true)), .q (.fadr 0 (.t 38))⟩, [28, 19]), (⟨(some 40), (some (29, true)), .q (.load false 1 (.t 39))⟩, [29, 19]), (⟨(some 41), (some (29, true)), .q (.bin .geq (.t 35) (.t 40))⟩, [25, 30, 19]), (⟨(some 42), (some (26, false)), .q (.pick (.t 29) (.t 41) (.c (.sc (.bool false))))⟩, [19, 31, 16]), (⟨(some 43), none, .q (.pick (.t 26) (.c (.sc (.bool true))) (.t 42))⟩, [16, 32])])
  (.cond (.t 43) (.seq (.ops [⟨(some 2), none, .q (.mov (.c (.sc (.bool false))))⟩])
  .ret)
  .skip)))
  (.ops [⟨(some 8), none, .q (.mov (.t 3))⟩, ⟨(some 9), none, .q (.bin .add (.t 8) (.c (.sc (.int .i64 1))))⟩, ⟨(some 3), none, .q (.mov (.t 9))⟩]))))))
  (.seq (.ops [⟨(some 44), none, .q (.mov (.t 0))⟩, ⟨(some 45), none, .q (.llen (.t 44))⟩, ⟨(some 46), none, .q (.bin .leq (.t 45) (.c (.sc (.int .i64 6))))⟩, ⟨(some 2), none, .q (.mov (.t 46))⟩])
  .ret)))
theorem K75 : Tryd.f75.body.bind (comp Tryd.prog) = some A75 ∧ Tryd.f75.ntmps = 47 ∧ Tryd.f75.results.toList.mapM (resB Tryd.prog) = some [.mov (.t 2)] := ⟨by kernel_rfl, by kernel_rfl, by kernel_rfl⟩
theorem R75 (xs : List Doc) (hx : Doc.ty.slice.ok xs) : Ret Tryd.prog 75 [.ro (rows Doc.ty.cs xs) xs.length] (.sc (.bool (docsL none xs && decide ((xs.length : Int) ≤ 6)))) [.un] := by
  have hb := Doc.ty.lenb (by decide) hx
  have hs : ∀ x ∈ xs, Doc.ty.ok x := hx.2
  refine Ret.run Tryd.func75 K75 (by simp) rfl rfl 500 ?_
  simp [A75, iniρ]
  refine T.rounds (μ := fun i : List Doc × List Doc => i.2.length)
    (fun i t => i.1 ++ i.2 = xs ∧ docsL i.1.getLast? i.2 = docsL none xs ∧ t.ρ 0 = .ro (rows Doc.ty.cs xs) xs.length ∧ t.ρ 3 = .sc (.int .i64 i.1.length) ∧ t.h = h0 ∧ t.n = 47) ([], xs) (by simp [upd_app]) ?_
  rintro ⟨pre, rest⟩ ⟨ρ, hh, n⟩ ⟨hx, hE, k0, k3, rfl, rfl⟩
  simp only at hx hE k0 k3
  refine run_ok (n := 400) ?_
  cases rest with
  | nil =>
    simp at hx
    subst hx
    simp [k0, k3]
    refine T.on 400 ?_
    simp [k0, ← hE, docsL]
  | cons x rest =>
    have hlt : (pre.length : Int) < xs.length := by rw [← hx]; simp only [List.length_append, List.length_cons]; omega
    have hd := rows_drop Doc.ty.csn pre (x :: rest)
    rw [hx, rows_cons] at hd
    have hd : List.drop (pre.length * 2) (rows Doc.ty.cs xs) = Doc.ty.cs x ++ rows Doc.ty.cs rest := hd
    have hd1 : List.drop (pre.length * 2 + 1) (rows Doc.ty.cs xs) = [.sc (.string x.text)] ++ rows Doc.ty.cs rest := by rw [← List.drop_drop, hd]; rfl
    have hw : IntKind.i64.wrap ((pre.length : Int) + 1) = pre.length + 1 := wrap_i64 (by omega) (by omega)
    have hxo := hs x (by rw [← hx]; simp)
    simp [k0, k3, hlt]
    refine T.text 400 mixed (by kernel_rfl) (by kernel_rfl) ?_
    simp [k0, k3, hlt, hd, Doc.cse]
    refine callSK.by rfl (by kernel_rfl) (by simp [roc_sc]) (R83 x.name hxo.1) ?_
    cases h1 : nameOk x.name
    · simp [k0, k3, ← hE, docsL, h1]
    by_cases h2 : (400 : Int) < x.text.size
    · have h2' : ¬ (x.text.size : Int) ≤ 400 := by omega
      simp [k0, k3, hlt, hd1, h2, ← hE, docsL, h1, h2']
    have h2' : (x.text.size : Int) ≤ 400 := by omega
    rcases List.eq_nil_or_concat pre with rfl | ⟨pre', q, rfl⟩
    · simp at hlt k3 hx hE
      have hd0 : rows Doc.ty.cs xs = Doc.ty.cs x ++ rows Doc.ty.cs rest := by simpa using hd
      have hd2 : List.drop 1 (rows Doc.ty.cs xs) = [.sc (.string x.text)] ++ rows Doc.ty.cs rest := by simpa using hd1
      have hw1 : IntKind.i64.wrap 1 = 1 := by decide
      simp [k0, k3, hlt, hd0, h2, hw1, Doc.cse]
      refine ⟨[x], rest, by simp, _, Le.refl _, ?_⟩
      simp [hx, k0, ← hE, docsL, h1, h2', upd_app]
      exact hd0
    · have hp : ((pre' ++ [q]).length : Int) = pre'.length + 1 := by simp
      have hwq : IntKind.i64.wrap (pre'.length : Int) = pre'.length := wrap_i64 (by omega) (by simp at hlt; omega)
      have hdq := rows_drop Doc.ty.csn pre' (q :: x :: rest)
      rw [show pre' ++ q :: x :: rest = xs by rw [← hx]; simp, rows_cons] at hdq
      have hdq : List.drop (pre'.length * 2) (rows Doc.ty.cs xs) = Doc.ty.cs q ++ rows Doc.ty.cs (x :: rest) := hdq
      have hltq : (pre'.length : Int) < xs.length := by simp at hlt; omega
      have hpos : (0 : Int) < (pre'.length : Int) + 1 := by omega
      have hpos' : (0 : Int) ≤ (pre'.length : Int) + 1 := by omega
      simp at hd hd1 hw k3 hlt hE
      cases h3 : Op.bytesLess q.name.toList x.name.toList
      · simp [k0, k3, hlt, hltq, hpos, hpos', hd, hd1, hdq, hwq, h2, h3, Doc.cse, ← hE, docsL]
      · simp [k0, k3, hlt, hltq, hpos, hpos', hd, hd1, hdq, hwq, h2, h3, Doc.cse, hw]
        refine ⟨pre' ++ [q] ++ [x], rest, by simp, _, Le.refl _, ?_⟩
        simp at hx
        simp [hx, k0, ← hE, docsL, h1, h2', h3, upd_app]
        omega
/- 58: loop.example/g00464/spec.DiskOk -/
def A58 : AC := (.seq (.ops [⟨(some 1), none, .w (.box (.t 0))⟩, ⟨(some 2), none, .q (.mov (.c (.sc (.bool false))))⟩])
  (.seq (.seq (.ops [⟨(some 3), none, .q (.mov (.c (.sc (.int .i64 0))))⟩])
  (.block 0 (.loop (.seq (.seq (.ops [⟨(some 4), none, .q (.mov (.t 3))⟩, ⟨(some 5), none, .q (.fadr 1 (.t 1))⟩, ⟨(some 6), none, .q (.load false 1 (.t 5))⟩, ⟨(some 7), none, .q (.llen (.t 6))⟩, ⟨(some 8), none, .q (.bin .lss (.t 4) (.t 7))⟩])
  (.cond (.t 8) .skip
  (.exit 0)))
  (.seq (.block 1 (.seq (.ops [⟨(some 11), none, .q (.fadr 1 (.t 1))⟩, ⟨(some 12), none, .q (.load false 1 (.t 11))⟩, ⟨(some 13), none, .q (.mov (.t 3))⟩, ⟨(some 14), none, .q (.iadr 3 (.t 12) (.t 13))⟩, ⟨(some 15), none, .q (.load true 3 (.t 14))⟩, ⟨(some 16), none, .c (.c (.clo 74 [])) [(.t 15)]⟩, ⟨(some 17), none, .q (.not (.t 16))⟩])
  (.cond (.t 17) (.seq (.ops [⟨(some 2), none, .q (.mov (.c (.sc (.bool false))))⟩])
  .ret)
  .skip)))
  (.ops [⟨(some 9), none, .q (.mov (.t 3))⟩, ⟨(some 10), none, .q (.bin .add (.t 9) (.c (.sc (.int .i64 1))))⟩, ⟨(some 3), none, .q (.mov (.t 10))⟩]))))))
  (.seq (.ops [⟨(some 18), none, .q (.fadr 0 (.t 1))⟩, ⟨(some 19), none, .q (.load false 1 (.t 18))⟩, ⟨(some 20), none, .c (.c (.clo 75 [])) [(.t 19)]⟩, ⟨(some 21), none, .q (.mov (.t 20))⟩, ⟨(some 22), (some (21, true)), .q (.fadr 1 (.t 1))⟩, ⟨(some 23), (some (21, true)), .q (.load false 1 (.t 22))⟩, ⟨(some 24), (some (21, true)), .q (.llen (.t 23))⟩, ⟨(some 25), (some (21, true)), .q (.bin .leq (.t 24) (.c (.sc (.int .i64 10))))⟩, ⟨(some 26), none, .q (.pick (.t 21) (.t 25) (.c (.sc (.bool false))))⟩, ⟨(some 2), none, .q (.mov (.t 26))⟩])
  .ret)))
theorem K58 : Tryd.f58.body.bind (comp Tryd.prog) = some A58 ∧ Tryd.f58.ntmps = 27 ∧ Tryd.f58.results.toList.mapM (resB Tryd.prog) = some [.mov (.t 2)] := ⟨by kernel_rfl, by kernel_rfl, by kernel_rfl⟩
theorem R58 (d : Disk) (hd : Disk.ty.ok d) : Ret Tryd.prog 58 [.agg (Disk.ty.cs d)] (.sc (.bool (diskOk d))) [.un] := by
  obtain ⟨o0, o1, _⟩ := hd
  have hb : d.pend.length < 4611686018427387904 := Op.ty.lenb (by decide) o1
  have hs : ∀ x ∈ d.pend, Op.ty.ok x := o1.2
  refine Ret.run Tryd.func58 K58 (by simp) rfl rfl 500 ?_
  simp [A58, iniρ, Disk.cse]
  obtain ⟨xs, hxs⟩ : ∃ xs, xs = d.pend := ⟨_, rfl⟩
  rw [← hxs] at hb hs ⊢
  refine T.rounds (μ := fun i : List Op × List Op => i.2.length)
    (fun i t => i.1 ++ i.2 = xs ∧ i.2.all opOkB = xs.all opOkB ∧ t.ρ 1 = .ref 1 0 ∧ t.ρ 3 = .sc (.int .i64 i.1.length) ∧ t.h 1 = some (some (Disk.ty.cs d)) ∧ t.n = 27) ([], xs) (by simp [upd_app, Disk.cse, hxs]) ?_
  rintro ⟨pre, rest⟩ ⟨ρ, hh, n⟩ ⟨hx, hE, k1, k3, k4, rfl⟩
  simp only at hx hE k1 k3 k4
  refine run_ok (n := 400) ?_
  cases rest with
  | nil =>
    simp at hx
    subst hx
    simp at hE
    have hall : pre.all opOkB = true := by rw [List.all_eq_true]; intro x hx; exact hE x hx
    simp [k1, k3, k4, Disk.cse, ← hxs]
    refine T.on 400 ?_
    simp [k1, k4, Disk.cse, ← hxs]
    refine callK.ro 0 rfl (by kernel_rfl) (by simp [roc_ro]) (R75 d.sure o0) rfl rfl rfl ?_
    have e : diskOk d = (docsL none d.sure && decide ((d.sure.length : Int) ≤ 6) && decide ((pre.length : Int) ≤ 10)) := by
      simp only [diskOk, ← hxs, hall, Bool.and_true]
    rw [e]
    by_cases h1 : docsL none d.sure = true <;> by_cases h2 : (d.sure.length : Int) ≤ 6 <;> simp [k1, k4, Disk.cse, ← hxs, h1, h2]
  | cons x rest =>
    have hlt : (pre.length : Int) < xs.length := by rw [← hx]; simp only [List.length_append, List.length_cons]; omega
    have hdr := rows_drop Op.ty.csn pre (x :: rest)
    rw [hx, rows_cons] at hdr
    have hdr : List.drop (pre.length * 3) (rows Op.ty.cs xs) = Op.ty.cs x ++ rows Op.ty.cs rest := hdr
    have hw : IntKind.i64.wrap ((pre.length : Int) + 1) = pre.length + 1 := wrap_i64 (by omega) (by omega)
    have hxo := hs x (by rw [← hx]; simp)
    simp [k1, k3, k4, Disk.cse, ← hxs, hlt, hdr, Op.cse]
    refine callK.ro 0 rfl (by kernel_rfl) (by simp [roc_agg, Op.cse]) (R74 x hxo) rfl rfl rfl ?_
    cases h1 : opOkB x
    · have e : diskOk d = false := by simp only [diskOk, ← hxs, ← hE, List.all_cons, h1]; simp
      simp [e]
    · simp [k3, hw]
      refine ⟨pre ++ [x], rest, by simp, _, Le.refl _, ?_⟩
      simp only [List.all_cons, h1, Bool.true_and] at hE
      simp [hx, k1, k4, hE, Disk.cse, ← hxs, upd_app]
/- 19: loop.example/g00464/impl.DiskOk -/
def A19 : AC := (.seq (.ops [⟨(some 1), none, .w (.box (.t 0))⟩, ⟨(some 2), none, .q (.mov (.c (.sc (.bool false))))⟩])
  (.seq (.seq (.ops [⟨(some 7), none, .q (.fadr 0 (.t 1))⟩, ⟨(some 8), none, .q (.load false 1 (.t 7))⟩, ⟨(some 9), none, .q (.llen (.t 8))⟩, ⟨(some 10), none, .q (.mov (.c (.sc (.int .i64 0))))⟩])
  (.block 0 (.loop (.seq (.ops [⟨(some 11), none, .q (.bin .lss (.t 10) (.t 9))⟩])
  (.seq (.cond (.t 11) .skip
  (.exit 0))
  (.seq (.block 1 (.seq (.ops [⟨(some 12), none, .q (.mov (.t 10))⟩, ⟨(some 13), none, .q (.iadr 2 (.t 8) (.t 10))⟩, ⟨(some 14), none, .q (.load true 2 (.t 13))⟩, ⟨(some 4), none, .w (.alloc [(.sc (.string ⟨#[]⟩)), (.sc (.string ⟨#[]⟩))])⟩, ⟨(some 3), none, .q (.mov (.t 12))⟩, ⟨none, none, .w (.store 2 (.t 4) (.t 14))⟩])
  (.seq (.any [(⟨(some 15), none, .q (.fadr 0 (.t 4))⟩, []), (⟨(some 16), none, .q (.load false 1 (.t 15))⟩, [0]), (⟨(some 17), none, .c (.c (.clo 46 [])) [(.t 16)]⟩, [1]), (⟨(some 18), none, .q (.not (.t 17))⟩, [2]), (⟨(some 19), none, .q (.mov (.t 18))⟩, [3, 2]), (⟨(some 20), (some (19, false)), .q (.fadr 1 (.t 4))⟩, [4]), (⟨(some 21), (some (19, false)), .q (.load false 1 (.t 20))⟩, [5, 4]), (⟨(some 22), (some (19, false)), .q (.slen (.t 21))⟩, [6, 4]), (⟨(some 23), (some (19, false)), .q (.bin .gtr (.t 22) (.c (.sc (.int .i64 400))))⟩, [7, 4]), (⟨(some 24), none, .q (.pick (.t 19) (.c (.sc (.bool true))) (.t 23))⟩, [4, 8]), (⟨(some 25), none, .q (.mov (.t 24))⟩, [9, 4]), (⟨(some 26), (some (25, false)), .q (.mov (.t 3))⟩, [10]), (⟨(some 27), (some (25, false)), .q (.bin .gtr (.t 26) (.c (.sc (.int .i64 0))))⟩, [11, 10]), (⟨(some 28), (some (25, false)), .q (.mov (.t 27))⟩, [12, 10, 10]), (⟨(some 29), (some (28, true)), .q (.fadr 0 (.t 4))⟩, [13]), (⟨(some 30), (some (28, true)), .q (.load false 1 (.t 29))⟩, [14, 13]), (⟨(some 31), (some (28, true)), .q (.fadr 0 (.t 1))⟩, [13]), (⟨(some 32), (some (28, true)), .q (.load false 1 (.t 31))⟩, [16, 13]), (⟨(some 33), (some (28, true)), .q (.mov (.t 3))⟩, [13]), (⟨(some 34), (some (28, true)), .q (.bin .sub (.t 33) (.c (.sc (.int .i64 1))))⟩, [18, 13]), (⟨(some 35), (some (28, true)), .q (.iadr 2 (.t 32) (.t 34))⟩, [17, 19, 13]), (⟨(some 36), (some (28, true)), .q (.fadr 0 (.t 35))⟩, [20, 13]), (⟨(some 37), (some (28, true)), .q (.load false 1 (.t 36))⟩, [21, 13]), (⟨(some 38), (some (28, true)), .q (.bin .leq (.t 30) (.t 37))⟩, [15, 22, 13]), (⟨(some 39), (some (25, false)), .q (.pick (.t 28) (.t 38) (.c (.sc (.bool false))))⟩, [13, 23, 10]), (⟨(some 40), none, .q (.pick (.t 25) (.c (.sc (.bool true))) (.t 39))⟩, [10, 24])])
  (.cond (.t 40) (.seq (.ops [⟨(some 2), none, .q (.mov (.c (.sc (.bool false))))⟩])
  .ret)
  .skip))))
  (.ops [⟨(some 41), none, .q (.bin .add (.t 10) (.c (.sc (.int .i64 1))))⟩, ⟨(some 10), none, .q (.mov (.t 41))⟩])))))))
  (.seq (.seq (.ops [⟨(some 42), none, .q (.fadr 1 (.t 1))⟩, ⟨(some 43), none, .q (.load false 1 (.t 42))⟩, ⟨(some 44), none, .q (.llen (.t 43))⟩, ⟨(some 45), none, .q (.mov (.c (.sc (.int .i64 0))))⟩])
  (.block 2 (.loop (.seq (.ops [⟨(some 46), none, .q (.bin .lss (.t 45) (.t 44))⟩])
  (.seq (.cond (.t 46) .skip
  (.exit 2))
  (.seq (.block 3 (.seq (.ops [⟨(some 47), none, .q (.iadr 3 (.t 43) (.t 45))⟩, ⟨(some 48), none, .q (.load true 3 (.t 47))⟩, ⟨(some 6), none, .w (.alloc [(.sc (.int .i64 0)), (.sc (.string ⟨#[]⟩)), (.sc (.string ⟨#[]⟩))])⟩, ⟨none, none, .w (.store 3 (.t 6) (.t 48))⟩])
  (.seq (.ops [⟨(some 49), none, .q (.load true 3 (.t 6))⟩, ⟨(some 50), none, .c (.c (.clo 47 [])) [(.t 49)]⟩, ⟨(some 51), none, .q (.not (.t 50))⟩])
  (.cond (.t 51) (.seq (.ops [⟨(some 2), none, .q (.mov (.c (.sc (.bool false))))⟩])
  .ret)
  .skip))))
  (.ops [⟨(some 52), none, .q (.bin .add (.t 45) (.c (.sc (.int .i64 1))))⟩, ⟨(some 45), none, .q (.mov (.t 52))⟩])))))))
  (.seq (.ops [⟨(some 53), none, .q (.fadr 0 (.t 1))⟩, ⟨(some 54), none, .q (.load false 1 (.t 53))⟩, ⟨(some 55), none, .q (.llen (.t 54))⟩, ⟨(some 56), none, .q (.bin .leq (.t 55) (.c (.sc (.int .i64 6))))⟩, ⟨(some 57), none, .q (.mov (.t 56))⟩, ⟨(some 58), (some (57, true)), .q (.fadr 1 (.t 1))⟩, ⟨(some 59), (some (57, true)), .q (.load false 1 (.t 58))⟩, ⟨(some 60), (some (57, true)), .q (.llen (.t 59))⟩, ⟨(some 61), (some (57, true)), .q (.bin .leq (.t 60) (.c (.sc (.int .i64 10))))⟩, ⟨(some 62), none, .q (.pick (.t 57) (.t 61) (.c (.sc (.bool false))))⟩, ⟨(some 2), none, .q (.mov (.t 62))⟩])
  .ret))))
theorem K19 : Tryd.f19.body.bind (comp Tryd.prog) = some A19 ∧ Tryd.f19.ntmps = 63 ∧ Tryd.f19.results.toList.mapM (resB Tryd.prog) = some [.mov (.t 2)] := ⟨by kernel_rfl, by kernel_rfl, by kernel_rfl⟩
theorem R19 (d : Disk) (hd : Disk.ty.ok d) : Ret Tryd.prog 19 [.agg (Disk.ty.cs d)] (.sc (.bool (diskOk d))) [.un] := by
  obtain ⟨o0, o1, _⟩ := hd
  have hb : d.sure.length < 4611686018427387904 := Doc.ty.lenb (by decide) o0
  have hs : ∀ x ∈ d.sure, Doc.ty.ok x := o0.2
  have hb2 : d.pend.length < 4611686018427387904 := Op.ty.lenb (by decide) o1
  have hs2 : ∀ x ∈ d.pend, Op.ty.ok x := o1.2
  refine Ret.run Tryd.func19 K19 (by simp) rfl rfl 500 ?_
  simp [A19, iniρ, Disk.cse]
  obtain ⟨xs, hxs⟩ : ∃ xs, xs = d.sure := ⟨_, rfl⟩
  obtain ⟨ys, hys⟩ : ∃ ys, ys = d.pend := ⟨_, rfl⟩
  rw [← hxs] at hb hs ⊢
  rw [← hys] at hb2 hs2 ⊢
  have eD : diskOk d = (docsL none xs && ys.all opOkB && decide ((xs.length : Int) ≤ 6) && decide ((ys.length : Int) ≤ 10)) := by rw [hxs, hys]; rfl
  rw [eD]
  refine T.rounds (μ := fun i : List Doc × List Doc => i.2.length)
    (fun i t => i.1 ++ i.2 = xs ∧ docsL i.1.getLast? i.2 = docsL none xs ∧ t.ρ 1 = .ref 1 0 ∧ t.ρ 8 = .ro (rows Doc.ty.cs xs) xs.length ∧ t.ρ 9 = .sc (.int .i64 xs.length) ∧ t.ρ 10 = .sc (.int .i64 i.1.length) ∧ t.h 1 = some (some (Disk.ty.cs d)) ∧ t.h 4 = none ∧ t.h 6 = none ∧ t.n = 63) ([], xs) (by simp [upd_app, Disk.cse, hxs, hys]) ?_
  rintro ⟨pre, rest⟩ ⟨ρ, hh, n⟩ ⟨hx, hE, k1, k8, k9, k10, kh, k4, k6, rfl⟩
  simp only at hx hE k1 k8 k9 k10 kh k4 k6
  refine run_ok (n := 400) ?_
  cases rest with
  | nil =>
    simp at hx
    subst hx
    simp [k9, k10]
    refine T.on 400 ?_
    simp [k1, kh, Disk.cse, ← hxs, ← hys]
    refine T.rounds (μ := fun i : List Op × List Op => i.2.length)
      (fun i t => i.1 ++ i.2 = ys ∧ i.2.all opOkB = ys.all opOkB ∧ t.ρ 1 = .ref 1 0 ∧ t.ρ 43 = .ro (rows Op.ty.cs ys) ys.length ∧ t.ρ 44 = .sc (.int .i64 ys.length) ∧ t.ρ 45 = .sc (.int .i64 i.1.length) ∧ t.h 1 = some (some (Disk.ty.cs d)) ∧ t.h 6 = none ∧ t.n = 63) ([], ys) (by simp [upd_app, k1, kh, k6]) ?_
    rintro ⟨pre2, rest2⟩ ⟨ρ2, hh2, n2⟩ ⟨hx2, hE2, j1, j43, j44, j45, jh, j6, rfl⟩
    simp only at hx2 hE2 j1 j43 j44 j45 jh j6
    refine run_ok (n := 400) ?_
    have hD : docsL none pre = true := by rw [← hE]; rfl
    cases rest2 with
    | nil =>
      simp at hx2
      subst hx2
      have hall : pre2.all opOkB = true := by rw [← hE2]; rfl
      simp [j44, j45]
      refine T.on 400 ?_
      by_cases h2 : (pre.length : Int) ≤ 6 <;> simp [j1, jh, Disk.cse, ← hxs, ← hys, h2, hD, hall]
    | cons x rest2 =>
      have hlt : (pre2.length : Int) < ys.length := by rw [← hx2]; simp only [List.length_append, List.length_cons]; omega
      have hdr := rows_drop Op.ty.csn pre2 (x :: rest2)
      rw [hx2, rows_cons] at hdr
      have hdr : List.drop (pre2.length * 3) (rows Op.ty.cs ys) = Op.ty.cs x ++ rows Op.ty.cs rest2 := hdr
      have hw : IntKind.i64.wrap ((pre2.length : Int) + 1) = pre2.length + 1 := wrap_i64 (by omega) (by omega)
      have hxo := hs2 x (by rw [← hx2]; simp)
      simp [j43, j44, j45, j6, hlt, hdr, Op.cse, over]
      refine callK.ro 0 rfl (by kernel_rfl) (by simp [roc_agg, Op.cse]) (R47 x hxo) rfl rfl rfl ?_
      cases h1 : opOkB x
      · simp [← hE2, h1]
      · simp [j45, hw]
        refine ⟨pre2 ++ [x], rest2, by simp, _, Le.reset [1, 43, 44, 45] [1] ?_ ?_, ?_⟩
        · simp [upd_app, menB, idfree, j1, j43, j44]
        · intro b hb cs hcs
          simp at hb
          subst hb
          simp [upd_app, jh] at hcs
          subst hcs
          simp [Disk.cse, idfree]
        · simp only [List.all_cons, h1, Bool.true_and] at hE2
          simp [hx2, j1, j43, j44, jh, hE2, Disk.cse, ← hxs, ← hys, upd_app]
  | cons x rest =>
    have hlt : (pre.length : Int) < xs.length := by rw [← hx]; simp only [List.length_append, List.length_cons]; omega
    have hd := rows_drop Doc.ty.csn pre (x :: rest)
    rw [hx, rows_cons] at hd
    have hd : List.drop (pre.length * 2) (rows Doc.ty.cs xs) = Doc.ty.cs x ++ rows Doc.ty.cs rest := hd
    have hw : IntKind.i64.wrap ((pre.length : Int) + 1) = pre.length + 1 := wrap_i64 (by omega) (by omega)
    have hxo := hs x (by rw [← hx]; simp)
    simp [k8, k9, k10, k4, hlt, hd, Doc.cse, over]
    refine T.text 400 mixed (by kernel_rfl) (by kernel_rfl) ?_
    simp
    refine callSK.by rfl (by kernel_rfl) (by simp [roc_sc]) (R46 x.name hxo.1) ?_
    cases h1 : nameOk x.name
    · simp [k10, ← hE, docsL, h1]
    by_cases h2 : (400 : Int) < x.text.size
    · have h2' : ¬ (x.text.size : Int) ≤ 400 := by omega
      simp [k10, h2, ← hE, docsL, h1, h2']
    have h2' : (x.text.size : Int) ≤ 400 := by omega
    have fin : ∀ (p : List Doc) (ρ' : Nat → AV) (h' : Nat → Option (Option (List AV))), (∀ t ∈ [1, 8, 9, 10], menB [1] (ρ' t) = true) → h' 1 = some (some (Disk.ty.cs d)) → Le ⟨ρ', h', 63⟩ ⟨keep [1, 8, 9, 10] ρ', keepH [1] h', 63⟩ := fun p ρ' h' a b => Le.reset [1, 8, 9, 10] [1] a (fun b' hb cs hcs => by
      simp at hb
      subst hb
      have hcs : h' 1 = some (some cs) := hcs
      rw [b] at hcs
      cases hcs
      simp [Disk.cse, idfree])
    rcases List.eq_nil_or_concat pre with rfl | ⟨pre', q, rfl⟩
    · simp at hlt k10 hx hE
      have hw1 : IntKind.i64.wrap 1 = 1 := by decide
      simp [k10, h2, hw1]
      refine ⟨[x], rest, by simp, _, fin [] _ _ ?_ ?_, ?_⟩
      · simp [upd_app, menB, idfree, k1, k8, k9]
      · simp [upd_app, kh]
      · simp [hx, k1, k8, k9, kh, ← hE, docsL, h1, h2', upd_app]
    · have hwq : IntKind.i64.wrap (pre'.length : Int) = pre'.length := wrap_i64 (by omega) (by simp at hlt; omega)
      have hdq := rows_drop Doc.ty.csn pre' (q :: x :: rest)
      rw [show pre' ++ q :: x :: rest = xs by rw [← hx]; simp, rows_cons] at hdq
      have hdq : List.drop (pre'.length * 2) (rows Doc.ty.cs xs) = Doc.ty.cs q ++ rows Doc.ty.cs (x :: rest) := hdq
      have hltq : (pre'.length : Int) < xs.length := by simp at hlt; omega
      have hpos : (0 : Int) < (pre'.length : Int) + 1 := by omega
      have hpos' : (0 : Int) ≤ (pre'.length : Int) + 1 := by omega
      simp at hd hw k10 hlt hE
      have ht := bl_tot x.name.toList q.name.toList
      cases h3 : Op.bytesLess q.name.toList x.name.toList
      · rw [h3] at ht
        simp at ht
        simp [k1, k10, kh, hlt, hltq, hpos, hpos', hdq, hwq, h2, h3, Doc.cse, Disk.cse, ← hxs, ← hE, docsL, ht]
      · rw [h3] at ht
        simp at ht
        simp [k1, k10, kh, hlt, hltq, hpos, hpos', hdq, hwq, h2, h3, Doc.cse, Disk.cse, ← hxs, hw, ht]
        refine ⟨pre' ++ [q] ++ [x], rest, by simp, _, fin [] _ _ ?_ ?_, ?_⟩
        · simp [upd_app, menB, idfree, k1, k8, k9]
        · simp [upd_app, kh, Disk.cse, ← hxs]
        · simp at hx
          simp [hx, k1, k8, k9, kh, ← hE, docsL, h1, h2', h3, Disk.cse, ← hxs, ← hys, upd_app]
          omega
end Go.Proofs.YtadoadomogceiaaDoor.Am
