/- The functions of the program, each by its contract: Tasks; no condition. -/
import Derived.Test.YtaknfalbmblagaaDoorProg
import Derived.Test.YtaknfalbmblagaaDoorAmZ
import Derived.Test.YtaknfalbmblagaaDoorAmP
import Derived.Test.YtaknfalbmblagaaDoorCut
import Derived.Test.YtaknfalbmblagaaDoorWords
import Derived.Test.YtaknfalbmblagaaDoorFiles
import Derived.KernelRfl
namespace Go.Proofs.YtaknfalbmblagaaDoor.Am
open Go Go.Proofs
set_option linter.unusedSimpArgs false
set_option linter.unusedVariables false
attribute [local congr] T_congr callK_congr callWK_congr
attribute [local simp] run_nil run_op0 run_opg run_seq run_cond run_block run_ret run_skip run_skip_after run_skip_blk run_exit run_exit_after run_exit_blk run_loop run_any runS_nil runS_op0 runS_opg runW_nil runW_op0 runW_opg exec_q exec_w exec_c exec_n execW_q execW_w execW_c restW_app hideH_app merge_app wblk rest_app restS_app execS_q execS_c aval dOk upd_app ev_t ev_c setO_some setO_none put_mk pinsOf isIo hasIo sbin endR fin resL one outL out1 clo1 cloL coe coeL shut shut.shutL wantA weff cellsOf fillA deref natOf ρ0_app h0_app plain plain.plainL keep_app keepH_app andThen_normal andThen_ret andThen_exit pop_nil pop_after pop_after_ret pop_after_exit pop_blk pop_blk_ret pop_blk_exit nilA srcOf srcCells keepR_app keepHR_app renA rb
/- 65: loop.example/g00464/impl.isPathByte -/
def A65 : AC := (.seq (.ops [⟨(some 2), none, .q (.mov (.c (.sc (.bool false))))⟩])
  (.seq (.ops [⟨(some 3), none, .q (.mov (.t 0))⟩, ⟨(some 4), none, .c (.c (.clo 69 [])) [(.t 3)]⟩, ⟨(some 5), none, .q (.mov (.t 4))⟩, ⟨(some 6), (some (5, false)), .q (.mov (.t 0))⟩, ⟨(some 7), (some (5, false)), .c (.c (.clo 54 [])) [(.t 6)]⟩, ⟨(some 8), none, .q (.pick (.t 5) (.c (.sc (.bool true))) (.t 7))⟩, ⟨(some 9), none, .q (.mov (.t 8))⟩, ⟨(some 10), (some (9, false)), .q (.mov (.t 0))⟩, ⟨(some 11), (some (9, false)), .q (.bin .eql (.t 10) (.c (.sc (.int .u8 46))))⟩, ⟨(some 12), none, .q (.pick (.t 9) (.c (.sc (.bool true))) (.t 11))⟩, ⟨(some 13), none, .q (.mov (.t 12))⟩, ⟨(some 14), (some (13, false)), .q (.mov (.t 0))⟩, ⟨(some 15), (some (13, false)), .q (.bin .eql (.t 14) (.c (.sc (.int .u8 45))))⟩, ⟨(some 16), none, .q (.pick (.t 13) (.c (.sc (.bool true))) (.t 15))⟩, ⟨(some 17), none, .q (.mov (.t 16))⟩, ⟨(some 18), (some (17, false)), .q (.mov (.t 0))⟩, ⟨(some 19), (some (17, false)), .q (.bin .eql (.t 18) (.c (.sc (.int .u8 95))))⟩, ⟨(some 20), none, .q (.pick (.t 17) (.c (.sc (.bool true))) (.t 19))⟩, ⟨(some 2), none, .q (.mov (.t 20))⟩])
  .ret))
theorem K65 : Tryd.f65.body.bind (comp Tryd.prog) = some A65 ∧ Tryd.f65.ntmps = 21 ∧ Tryd.f65.results.toList.mapM (resB Tryd.prog) = some [.mov (.t 2)] := ⟨by kernel_rfl, by kernel_rfl, by kernel_rfl⟩
theorem R65 (c : UInt8) : Ret Tryd.prog 65 [.sc (.int .u8 c.toNat)] (.sc (.bool (lttI c.toNat))) [.un] := by
  refine Ret.run Tryd.func65 K65 (by simp) rfl rfl 500 ?_
  simp [A65, iniρ]
  refine callK.ro 0 rfl (by kernel_rfl) (by simp [roc_sc]) (R69 c) rfl rfl rfl ?_
  cases h1 : smallI (c.toNat : Int)
  case true => simp [lttI, h1]
  simp
  refine callK.ro 0 rfl (by kernel_rfl) (by simp [roc_sc]) (R54 c) rfl rfl rfl ?_
  cases h2 : figI (c.toNat : Int)
  case true => simp [lttI, h1, h2]
  by_cases h3 : (c.toNat : Int) = 46
  · simp [lttI, h1, h2, h3]
  by_cases h4 : (c.toNat : Int) = 45
  · simp [lttI, h1, h2, h3, h4]
  simp [lttI, h1, h2, h3, h4]
/- 59: loop.example/g00464/impl.fileNameOk -/
def A59 : AC := (.seq (.ops [⟨(some 2), none, .q (.mov (.c (.sc (.bool false))))⟩])
  (.seq (.seq (.ops [⟨(some 3), none, .q (.mov (.c (.sc (.int .i64 0))))⟩])
  (.block 0 (.loop (.seq (.seq (.ops [⟨(some 4), none, .q (.mov (.t 3))⟩, ⟨(some 5), none, .q (.mov (.t 0))⟩, ⟨(some 6), none, .q (.slen (.t 5))⟩, ⟨(some 7), none, .q (.bin .lss (.t 4) (.t 6))⟩])
  (.cond (.t 7) .skip
  (.exit 0)))
  (.seq (.block 1 (.seq (.ops [⟨(some 10), none, .q (.mov (.t 0))⟩, ⟨(some 11), none, .q (.mov (.t 3))⟩, ⟨(some 12), none, .q (.idx (.t 10) (.t 11))⟩, ⟨(some 13), none, .c (.c (.clo 65 [])) [(.t 12)]⟩, ⟨(some 14), none, .q (.not (.t 13))⟩])
  (.cond (.t 14) (.seq (.ops [⟨(some 2), none, .q (.mov (.c (.sc (.bool false))))⟩])
  .ret)
  .skip)))
  (.ops [⟨(some 8), none, .q (.mov (.t 3))⟩, ⟨(some 9), none, .q (.bin .add (.t 8) (.c (.sc (.int .i64 1))))⟩, ⟨(some 3), none, .q (.mov (.t 9))⟩]))))))
  (.seq (.ops [⟨(some 15), none, .q (.mov (.t 0))⟩, ⟨(some 16), none, .q (.slen (.t 15))⟩, ⟨(some 17), none, .c (.c (.clo 53 [])) [(.t 16), (.c (.sc (.int .i64 1))), (.c (.sc (.int .i64 12)))]⟩, ⟨(some 18), none, .q (.mov (.t 17))⟩, ⟨(some 19), (some (18, true)), .q (.mov (.t 0))⟩, ⟨(some 20), (some (18, true)), .q (.bin .neq (.t 19) (.c (.sc (.string ⟨#[46]⟩))))⟩, ⟨(some 21), none, .q (.pick (.t 18) (.t 20) (.c (.sc (.bool false))))⟩, ⟨(some 22), none, .q (.mov (.t 21))⟩, ⟨(some 23), (some (22, true)), .q (.mov (.t 0))⟩, ⟨(some 24), (some (22, true)), .q (.bin .neq (.t 23) (.c (.sc (.string ⟨#[46, 46]⟩))))⟩, ⟨(some 25), none, .q (.pick (.t 22) (.t 24) (.c (.sc (.bool false))))⟩, ⟨(some 2), none, .q (.mov (.t 25))⟩])
  .ret)))
theorem K59 : Tryd.f59.body.bind (comp Tryd.prog) = some A59 ∧ Tryd.f59.ntmps = 26 ∧ Tryd.f59.results.toList.mapM (resB Tryd.prog) = some [.mov (.t 2)] := ⟨by kernel_rfl, by kernel_rfl, by kernel_rfl⟩
theorem R59 (s : ByteArray) (hs : s.size ≤ 140737488351232) : Ret Tryd.prog 59 [.sc (.string s)] (.sc (.bool (partOk s))) [.un] := by
  refine Ret.run Tryd.func59 K59 (by simp) rfl rfl 500 ?_
  simp [A59, iniρ]
  refine T.rounds (μ := fun i : List UInt8 × List UInt8 => i.2.length)
    (fun i t => i.1 ++ i.2 = s.data.toList ∧ letL i.2 = letL s.data.toList ∧ t.ρ 0 = .sc (.string s) ∧ t.ρ 3 = .sc (.int .i64 i.1.length) ∧ t.h = h0 ∧ t.n = 26) ([], s.data.toList) (by simp [upd_app]) ?_
  rintro ⟨pre, rest⟩ ⟨ρ, hh, n⟩ ⟨hx, hE, k0, k3, rfl, rfl⟩
  simp only at hx hE k0 k3
  have hsz := str_len hx
  refine run_ok (n := 400) ?_
  cases rest with
  | nil =>
    simp at hsz
    simp [k0, k3, hsz]
    refine T.on 400 ?_
    simp [k0]
    refine callK.ro 0 rfl (by kernel_rfl) (by simp [roc_sc]) (R53 s.size 1 12) rfl rfl rfl ?_
    have hL : letL s.data.toList = true := by rw [← hE]; rfl
    cases h1 : inR s.size 1 12
    case false => simp [partOk, h1]
    by_cases h2 : s.toList = [46]
    case pos => simp [k0, partOk, h1, h2]
    have h2' : (s.toList == [46]) = false := by simpa using h2
    by_cases h3 : s.toList = [46, 46]
    · simp [k0, partOk, h1, h2, h2', h3, hL]
    · have h3' : (s.toList == [46, 46]) = false := by simpa using h3
      simp [k0, partOk, h1, h2, h2', h3, h3', hL]
  | cons c rest =>
    have hg := str_get hx
    simp at hsz
    have hlt : (pre.length : Int) < s.size := by omega
    have hw : IntKind.i64.wrap ((pre.length : Int) + 1) = pre.length + 1 := wrap_i64 (by omega) (by omega)
    simp [k0, k3, hlt, hg]
    refine callK.ro 0 rfl (by kernel_rfl) (by simp [roc_sc]) (R65 c) rfl rfl rfl ?_
    cases h1 : lttI (c.toNat : Int)
    · have : partOk s = false := by simp [partOk, ← hE, letL, h1]
      simp [this]
    · simp [k3, hw]
      refine ⟨pre ++ [c], rest, by simp, _, Le.refl _, ?_⟩
      simp [hx, k0, upd_app, ← hE, letL, h1]
/- 66: loop.example/g00464/impl.PathOk -/
def A66 : AC := (.seq (.ops [⟨(some 2), none, .q (.mov (.c (.sc (.bool false))))⟩])
  (.seq (.ops [⟨(some 6), none, .q (.mov (.t 0))⟩, ⟨(some 7), none, .c (.c (.clo 70 [])) [(.t 6), (.c (.sc (.string ⟨#[47]⟩)))]⟩, ⟨(some 3), none, .q (.mov (.t 7))⟩])
  (.seq (.seq (.ops [⟨(some 8), none, .q (.mov (.t 3))⟩, ⟨(some 9), none, .q (.llen (.t 8))⟩, ⟨(some 10), none, .q (.mov (.c (.sc (.int .i64 0))))⟩])
  (.block 0 (.loop (.seq (.ops [⟨(some 11), none, .q (.bin .lss (.t 10) (.t 9))⟩])
  (.seq (.cond (.t 11) .skip
  (.exit 0))
  (.seq (.block 1 (.seq (.ops [⟨(some 12), none, .q (.iadr 1 (.t 8) (.t 10))⟩, ⟨(some 13), none, .q (.load false 1 (.t 12))⟩, ⟨(some 5), none, .q (.mov (.t 13))⟩])
  (.seq (.ops [⟨(some 14), none, .q (.mov (.t 5))⟩, ⟨(some 15), none, .c (.c (.clo 59 [])) [(.t 14)]⟩, ⟨(some 16), none, .q (.not (.t 15))⟩])
  (.cond (.t 16) (.seq (.ops [⟨(some 2), none, .q (.mov (.c (.sc (.bool false))))⟩])
  .ret)
  .skip))))
  (.ops [⟨(some 17), none, .q (.bin .add (.t 10) (.c (.sc (.int .i64 1))))⟩, ⟨(some 10), none, .q (.mov (.t 17))⟩])))))))
  (.seq (.ops [⟨(some 18), none, .q (.mov (.t 3))⟩, ⟨(some 19), none, .q (.llen (.t 18))⟩, ⟨(some 20), none, .q (.bin .leq (.t 19) (.c (.sc (.int .i64 4))))⟩, ⟨(some 2), none, .q (.mov (.t 20))⟩])
  .ret))))
theorem K66 : Tryd.f66.body.bind (comp Tryd.prog) = some A66 ∧ Tryd.f66.ntmps = 21 ∧ Tryd.f66.results.toList.mapM (resB Tryd.prog) = some [.mov (.t 2)] := ⟨by kernel_rfl, by kernel_rfl, by kernel_rfl⟩
theorem R66 (s : ByteArray) (hs : s.size ≤ 1048576) : Ret Tryd.prog 66 [.sc (.string s)] (.sc (.bool (pathOk s))) [.un] := by
  have hz : ∀ x ∈ splitS s 47, x.size ≤ s.size := splitP_size s 47 _ 0 0
  have hl : (splitS s 47).length ≤ s.size + 1 := by
    have := splitP_len s 47 s.data.toList 0 0
    simpa [splitS] using this
  obtain ⟨ps, hps⟩ : ∃ ps, ps = splitS s 47 := ⟨_, rfl⟩
  have rs := R70 s 47 hs
  rw [show (((47 : UInt8).toNat : Nat) : Int) = 47 from rfl] at rs
  rw [← hps] at hz hl rs
  refine Ret.run Tryd.func66 K66 (by simp) rfl rfl 900 ?_
  simp [A66, iniρ]
  refine callK.own 6 rfl (by kernel_rfl) (by simp [roc_sc]) rs (Ty.str.flo ps) (by simp) rfl ?_
  simp
  refine T.rounds (μ := fun i : List ByteArray × List ByteArray => i.2.length)
    (fun i t => i.1 ++ i.2 = ps ∧ allPart i.2 = allPart ps ∧ t.ρ 3 = .sl 6 0 ps.length 1 false ∧ t.ρ 8 = .sl 6 0 ps.length 1 false ∧ t.ρ 9 = .sc (.int .i64 ps.length) ∧ t.ρ 10 = .sc (.int .i64 i.1.length) ∧ t.h 6 = some (some (rows Ty.str.oc ps)) ∧ t.n = 21) ([], ps) (by simp [upd_app]) ?_
  rintro ⟨pre, rest⟩ ⟨ρ, hh, n⟩ ⟨hx, hE, k3, k8, k9, k10, k6, rfl⟩
  simp only at hx hE k3 k8 k9 k10 k6
  refine run_ok (n := 400) ?_
  cases rest with
  | nil =>
    have hxl : pre.length = ps.length := by rw [← hx]; simp
    have hA : allPart ps = true := by rw [← hE]; rfl
    simp [k9, k10, hxl]
    refine T.on 400 ?_
    simp [k3, pathOk, ← hps, hA]
    all_goals omega
  | cons x rest =>
    have hle : pre.length + (rest.length + 1) = ps.length := by rw [← hx]; simp
    have hlt : (pre.length : Int) < ps.length := by omega
    have hw : IntKind.i64.wrap ((pre.length : Int) + 1) = pre.length + 1 := wrap_i64 (by omega) (by omega)
    have hd := strDrop pre rest x
    rw [hx] at hd
    have hd : List.drop pre.length (rows Ty.str.oc ps) = .sc (.string x) :: rows Ty.str.oc rest := hd
    have hxs := hz x (by rw [← hx]; simp)
    simp [k8, k9, k10, k6, hlt, hd]
    refine callK.ro 0 rfl (by kernel_rfl) (by simp [roc_sc, upd_app]) (R59 x (by omega)) rfl rfl rfl ?_
    cases h1 : partOk x
    · have : pathOk s = false := by
        have h2 : allPart ps = false := by rw [← hE, allPart, h1]; rfl
        simp [pathOk, ← hps, h2]
      simp [this]
    · simp [k10, hw]
      refine ⟨pre ++ [x], rest, by simp, _, Le.refl _, ?_⟩
      simp [hx, upd_app, k3, k8, k9, k6, ← hE, allPart, h1]
/- 60: loop.example/g00464/impl.FilesOk -/
def A60 : AC := (.seq (.ops [⟨(some 2), none, .q (.mov (.c (.sc (.bool false))))⟩])
  (.seq (.seq (.ops [⟨(some 5), none, .q (.mov (.t 0))⟩, ⟨(some 6), none, .q (.llen (.t 5))⟩, ⟨(some 7), none, .q (.mov (.c (.sc (.int .i64 0))))⟩])
  (.block 0 (.loop (.seq (.ops [⟨(some 8), none, .q (.bin .lss (.t 7) (.t 6))⟩])
  (.seq (.cond (.t 8) .skip
  (.exit 0))
  (.seq (.block 1 (.seq (.ops [⟨(some 9), none, .q (.mov (.t 7))⟩, ⟨(some 10), none, .q (.iadr 2 (.t 5) (.t 7))⟩, ⟨(some 11), none, .q (.load true 2 (.t 10))⟩, ⟨(some 4), none, .w (.alloc [(.sc (.string ⟨#[]⟩)), (.sc (.string ⟨#[]⟩))])⟩, ⟨(some 3), none, .q (.mov (.t 9))⟩, ⟨none, none, .w (.store 2 (.t 4) (.t 11))⟩])
  (.seq (.any [(⟨(some 12), none, .q (.fadr 0 (.t 4))⟩, []), (⟨(some 13), none, .q (.load false 1 (.t 12))⟩, [0]), (⟨(some 14), none, .c (.c (.clo 66 [])) [(.t 13)]⟩, [1]), (⟨(some 15), none, .q (.not (.t 14))⟩, [2]), (⟨(some 16), none, .q (.mov (.t 15))⟩, [3, 2]), (⟨(some 17), (some (16, false)), .q (.fadr 1 (.t 4))⟩, [4]), (⟨(some 18), (some (16, false)), .q (.load false 1 (.t 17))⟩, [5, 4]), (⟨(some 19), (some (16, false)), .q (.slen (.t 18))⟩, [6, 4]), (⟨(some 20), (some (16, false)), .q (.bin .gtr (.t 19) (.c (.sc (.int .i64 60))))⟩, [7, 4]), (⟨(some 21), none, .q (.pick (.t 16) (.c (.sc (.bool true))) (.t 20))⟩, [4, 8]), (⟨(some 22), none, .q (.mov (.t 21))⟩, [9, 4]), (⟨(some 23), (some (22, false)), .q (.mov (.t 3))⟩, [10]), (⟨(some 24), (some (22, false)), .q (.bin .gtr (.t 23) (.c (.sc (.int .i64 0))))⟩, [11, 10]), (⟨(some 25), (some (22, false)), .q (.mov (.t 24))⟩, [12, 10, 10]), (⟨(some 26), (some (25, true)), .q (.fadr 0 (.t 4))⟩, [13]), (⟨(some 27), (some (25, true)), .q (.load false 1 (.t 26))⟩, [14, 13]), (⟨(some 28), (some (25, true)), .q (.mov (.t 0))⟩, [13]), (⟨(some 29), (some (25, true)), .q (.mov (.t 3))⟩, [13]), (⟨(some 30), (some (25, true)), .q (.bin .sub (.t 29) (.c (.sc (.int .i64 1))))⟩, [17, 13]), (⟨(some 31), (some (25, true)), .q (.iadr 2 (.t 28) (.t 30))⟩, [16, 18, 13]), (⟨(some 32), (some (25, true)), .q (.fadr 0 (.t 31))⟩, [19, 13]), (⟨(some 33), (some (25, true)), .q (.load false 1 (.t 32))⟩, [20, 13]), (⟨(some 34), (some (25, true)), .q (.bin .leq (.t 27) (.t 33))⟩, [15, 21, 13]), (⟨(some 35), (some (22, false)), .q (.pick (.t 25) (.t 34) (.c (.sc (.bool false))))⟩, [13, 22, 10]), (⟨(some 36), none, .q (.pick (.t 22) (.c (.sc (.bool true))) (.t 35))⟩, [10, 23])])
  (.cond (.t 36) (.seq (.ops [⟨(some 2), none, .q (.mov (.c (.sc (.bool false))))⟩])
  .ret)
  .skip))))
  (.ops [⟨(some 37), none, .q (.bin .add (.t 7) (.c (.sc (.int .i64 1))))⟩, ⟨(some 7), none, .q (.mov (.t 37))⟩])))))))
  (.seq (.ops [⟨(some 38), none, .q (.mov (.t 0))⟩, ⟨(some 39), none, .q (.llen (.t 38))⟩, ⟨(some 40), none, .q (.bin .leq (.t 39) (.c (.sc (.int .i64 30))))⟩, ⟨(some 2), none, .q (.mov (.t 40))⟩])
  .ret)))
theorem K60 : Tryd.f60.body.bind (comp Tryd.prog) = some A60 ∧ Tryd.f60.ntmps = 41 ∧ Tryd.f60.results.toList.mapM (resB Tryd.prog) = some [.mov (.t 2)] := ⟨by kernel_rfl, by kernel_rfl, by kernel_rfl⟩
set_option maxHeartbeats 2000000 in
set_option maxRecDepth 100000 in
theorem R60 (xs : List File) (hb : xs.length < 4611686018427387904) (hp : ∀ x ∈ xs, x.path.size ≤ 1048576) : Ret Tryd.prog 60 [.ro (rows File.ty.cs xs) xs.length] (.sc (.bool (filesOk xs))) [.un] := by
  refine Ret.run Tryd.func60 K60 (by simp) rfl rfl 900 ?_
  simp [A60, iniρ]
  refine T.rounds (μ := fun i : List File × List File => i.2.length)
    (fun i s => i.1 ++ i.2 = xs ∧ filesL (lastP i.1) i.2 = filesL none xs ∧ s.ρ 0 = .ro (rows File.ty.cs xs) xs.length ∧ s.ρ 5 = .ro (rows File.ty.cs xs) xs.length ∧ s.ρ 6 = .sc (.int .i64 xs.length) ∧ s.ρ 7 = .sc (.int .i64 i.1.length) ∧ s.h 4 = none ∧ s.n = 41) ([], xs) (by simp [upd_app, lastP]) ?_
  rintro ⟨pre, rest⟩ ⟨ρ, hh, n⟩ ⟨hx, hE, k0, k5, k6, k7, f4, rfl⟩
  simp only at hx hE k0 k5 k6 k7 f4
  refine run_ok (n := 400) ?_
  cases rest with
  | nil =>
    have hxl : pre.length = xs.length := by rw [← hx]; simp
    have hA : filesL none xs = true := by rw [← hE]; cases lastP pre <;> rfl
    simp [k6, k7, hxl]
    refine T.on 400 ?_
    simp [k0, filesOk, hA]
    all_goals omega
  | cons x rest =>
    have hle : pre.length + (rest.length + 1) = xs.length := by rw [← hx]; simp
    have hlt : (pre.length : Int) < xs.length := by omega
    have hlt2 : pre.length < xs.length := by omega
    have hw : IntKind.i64.wrap ((pre.length : Int) + 1) = pre.length + 1 := wrap_i64 (by omega) (by omega)
    have hd := rows_drop File.ty.csn pre (x :: rest)
    rw [hx, rows_cons] at hd
    have hd : List.drop (pre.length * 2) (rows File.ty.cs xs) = AV.sc (.string x.path) :: AV.sc (.string x.text) :: rows File.ty.cs rest := hd
    have hxp := hp x (by rw [← hx]; simp)
    have stop : ∀ c, (pathOk x.path && (decide (x.text.size ≤ 60) && above (lastP pre) x.path)) = c → c = false → filesOk xs = false := fun c h1 h2 => by
      subst h2
      have : filesL none xs = false := by
        rw [← hE, filesL]
        cases h5 : pathOk x.path <;> cases h6 : decide (x.text.size ≤ 60) <;> cases h7 : above (lastP pre) x.path <;> simp_all
      simp [filesOk, this]
    have fin : pathOk x.path = true → x.text.size ≤ 60 → above (lastP pre) x.path = true → filesL (some x.path) rest = filesL none xs := fun h1 h2 h => by
      rw [← hE, filesL, h1, h]; simp [h2]
    simp [k0, k5, k6, k7, hlt, hlt2, hd, f4, over]
    refine T.text 400 mixed (by kernel_rfl) (by kernel_rfl) ?_
    simp
    refine callSK.by rfl (by kernel_rfl) (by simp [roc_sc]) (R66 x.path hxp) ?_
    cases h1 : pathOk x.path
    · have := stop _ rfl (by simp [h1])
      simp [this]
    by_cases h2 : x.text.size ≤ 60
    case neg =>
      have := stop _ rfl (by simp [h2])
      have h2' : (60 : Int) < x.text.size := by omega
      simp [h2', this]
    have h2' : ¬ ((60 : Int) < x.text.size) := by omega
    rcases List.eq_nil_or_concat pre with rfl | ⟨p0, q, ep⟩
    · simp at hlt hlt2 hw k7
      simp [k7, h2']
      refine ⟨[x], rest, by simp, _, Le.reset [0, 5, 6, 7] [] (by simp [upd_app, menB, idfree, k0, k5, k6]) (by simp), ?_⟩
      have hF := fin h1 h2 rfl
      simp at hx
      simp [hx, k0, k5, k6, upd_app, lastP, hF, hw]
    rw [List.concat_eq_append] at ep
    subst ep
    have hq : List.drop (p0.length * 2) (rows File.ty.cs xs) = AV.sc (.string q.path) :: AV.sc (.string q.text) :: rows File.ty.cs (x :: rest) := by
      have h := rows_drop File.ty.csn p0 (q :: x :: rest)
      have e : p0 ++ q :: x :: rest = xs := by rw [← hx]; simp
      rw [e, rows_cons] at h
      exact h
    have hw0 : IntKind.i64.wrap (p0.length : Int) = p0.length := wrap_i64 (by omega) (by simp only [List.length_append] at hle; omega)
    have hl0 : p0.length < xs.length := by simp only [List.length_append] at hle; omega
    rw [lastP_snoc] at fin stop
    simp only [List.length_append, List.length_cons, List.length_nil, Nat.zero_add] at hlt hlt2 hd hw k7
    have hpos : (0 : Int) < (p0.length : Int) + 1 := by omega
    have hl0' : (p0.length : Int) < xs.length := by omega
    cases h3 : Op.bytesLess q.path.toList x.path.toList
    · have := stop _ rfl (by simp [above, h3])
      have h4 := bl_tot x.path.toList q.path.toList
      rw [h3] at h4
      simp [k0, k7, h2', hpos, hw0, hl0, hl0', hq, h3, h4, this]
    · have hF := fin h1 h2 (by simp [above, h3])
      have h4 := bl_tot x.path.toList q.path.toList
      rw [h3] at h4
      simp [k0, k7, h2', hpos, hw0, hl0, hl0', hq, h3, h4]
      refine ⟨p0 ++ [q] ++ [x], rest, by simp, _, Le.reset [0, 5, 6, 7] [] (by simp [upd_app, menB, idfree, k0, k5, k6]) (by simp), ?_⟩
      rw [lastP_snoc]
      simp at hw hx
      simp [hx, k0, k5, k6, upd_app, hF, hw]
      omega
def namesL : List File → Bool
  | [] => true
  | x :: l => partOk x.path && namesL l
def outsOk (xs : List File) : Bool := namesL xs && (decide (xs.length ≤ 6) && filesOk xs)
/- 42: loop.example/g00464/impl.outsOk -/
def A42 : AC := (.seq (.ops [⟨(some 2), none, .q (.mov (.c (.sc (.bool false))))⟩])
  (.seq (.seq (.ops [⟨(some 5), none, .q (.mov (.t 0))⟩, ⟨(some 6), none, .q (.llen (.t 5))⟩, ⟨(some 7), none, .q (.mov (.c (.sc (.int .i64 0))))⟩])
  (.block 0 (.loop (.seq (.ops [⟨(some 8), none, .q (.bin .lss (.t 7) (.t 6))⟩])
  (.seq (.cond (.t 8) .skip
  (.exit 0))
  (.seq (.block 1 (.seq (.ops [⟨(some 9), none, .q (.iadr 2 (.t 5) (.t 7))⟩, ⟨(some 10), none, .q (.load true 2 (.t 9))⟩, ⟨(some 4), none, .w (.alloc [(.sc (.string ⟨#[]⟩)), (.sc (.string ⟨#[]⟩))])⟩, ⟨none, none, .w (.store 2 (.t 4) (.t 10))⟩])
  (.seq (.ops [⟨(some 11), none, .q (.fadr 0 (.t 4))⟩, ⟨(some 12), none, .q (.load false 1 (.t 11))⟩, ⟨(some 13), none, .c (.c (.clo 59 [])) [(.t 12)]⟩, ⟨(some 14), none, .q (.not (.t 13))⟩])
  (.cond (.t 14) (.seq (.ops [⟨(some 2), none, .q (.mov (.c (.sc (.bool false))))⟩])
  .ret)
  .skip))))
  (.ops [⟨(some 15), none, .q (.bin .add (.t 7) (.c (.sc (.int .i64 1))))⟩, ⟨(some 7), none, .q (.mov (.t 15))⟩])))))))
  (.seq (.ops [⟨(some 16), none, .q (.mov (.t 0))⟩, ⟨(some 17), none, .q (.llen (.t 16))⟩, ⟨(some 18), none, .q (.bin .leq (.t 17) (.c (.sc (.int .i64 6))))⟩, ⟨(some 19), none, .q (.mov (.t 18))⟩, ⟨(some 20), (some (19, true)), .q (.mov (.t 0))⟩, ⟨(some 21), (some (19, true)), .c (.c (.clo 60 [])) [(.t 20)]⟩, ⟨(some 22), none, .q (.pick (.t 19) (.t 21) (.c (.sc (.bool false))))⟩, ⟨(some 2), none, .q (.mov (.t 22))⟩])
  .ret)))
theorem K42 : Tryd.f42.body.bind (comp Tryd.prog) = some A42 ∧ Tryd.f42.ntmps = 23 ∧ Tryd.f42.results.toList.mapM (resB Tryd.prog) = some [.mov (.t 2)] := ⟨by kernel_rfl, by kernel_rfl, by kernel_rfl⟩
theorem R42 (xs : List File) (hb : xs.length < 4611686018427387904) (hp : ∀ x ∈ xs, x.path.size ≤ 1048576) : Ret Tryd.prog 42 [.ro (rows File.ty.cs xs) xs.length] (.sc (.bool (outsOk xs))) [.un] := by
  refine Ret.run Tryd.func42 K42 (by simp) rfl rfl 900 ?_
  simp [A42, iniρ]
  refine T.rounds (μ := fun i : List File × List File => i.2.length)
    (fun i s => i.1 ++ i.2 = xs ∧ namesL i.2 = namesL xs ∧ s.ρ 0 = .ro (rows File.ty.cs xs) xs.length ∧ s.ρ 5 = .ro (rows File.ty.cs xs) xs.length ∧ s.ρ 6 = .sc (.int .i64 xs.length) ∧ s.ρ 7 = .sc (.int .i64 i.1.length) ∧ s.h 4 = none ∧ s.n = 23) ([], xs) (by simp [upd_app]) ?_
  rintro ⟨pre, rest⟩ ⟨ρ, hh, n⟩ ⟨hx, hE, k0, k5, k6, k7, f4, rfl⟩
  simp only at hx hE k0 k5 k6 k7 f4
  refine run_ok (n := 400) ?_
  cases rest with
  | nil =>
    have hxl : pre.length = xs.length := by rw [← hx]; simp
    have hA : namesL xs = true := by rw [← hE]; rfl
    simp [k6, k7, hxl]
    refine T.on 400 ?_
    by_cases h6 : xs.length ≤ 6
    · have h6' : (xs.length : Int) ≤ 6 := by omega
      simp [k0, h6']
      refine callK.ro 0 rfl (by kernel_rfl) (by simp [roc_ro]) (R60 xs hb hp) rfl rfl rfl ?_
      simp [outsOk, hA, h6]
    · have h6' : ¬ (xs.length : Int) ≤ 6 := by omega
      simp [k0, h6', outsOk, h6]
  | cons x rest =>
    have hle : pre.length + (rest.length + 1) = xs.length := by rw [← hx]; simp
    have hlt : (pre.length : Int) < xs.length := by omega
    have hw : IntKind.i64.wrap ((pre.length : Int) + 1) = pre.length + 1 := wrap_i64 (by omega) (by omega)
    have hd := rows_drop File.ty.csn pre (x :: rest)
    rw [hx, rows_cons] at hd
    have hd : List.drop (pre.length * 2) (rows File.ty.cs xs) = AV.sc (.string x.path) :: AV.sc (.string x.text) :: rows File.ty.cs rest := hd
    have hxp := hp x (by rw [← hx]; simp)
    simp [k0, k5, k6, k7, hlt, hd, f4, over]
    refine callK.ro 0 rfl (by kernel_rfl) (by simp [roc_sc, upd_app]) (R59 x.path (by omega)) rfl rfl rfl ?_
    cases h1 : partOk x.path
    · have h2 : namesL xs = false := by rw [← hE, namesL, h1]; rfl
      simp [outsOk, h2]
    · simp [k7, hw]
      refine ⟨pre ++ [x], rest, by simp, _, Le.reset [0, 5, 6, 7] [] (by simp [upd_app, menB, idfree, k0, k5, k6]) (by simp), ?_⟩
      simp [hx, upd_app, k0, k5, k6, ← hE, namesL, h1]
end Go.Proofs.YtaknfalbmblagaaDoor.Am
