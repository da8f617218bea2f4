/- The functions of the program, each by its contract: Plumb; no condition. -/
import Derived.Test.YtaknfalbmblagaaProg
import Derived.Test.YtaknfalbmblagaaAmZ
import Derived.Test.YtaknfalbmblagaaAmP
import Derived.Test.YtaknfalbmblagaaBase
import Derived.Test.YtaknfalbmblagaaTypes
import Derived.KernelRfl
namespace Go.Proofs.Ytaknfalbmblagaa.Am
open Go Go.Proofs
set_option linter.unusedSimpArgs false
set_option linter.unusedVariables false
attribute [local congr] T_congr callK_congr callWK_congr
attribute [local simp] run_nil run_op0 run_opg run_seq run_cond run_block run_ret run_skip run_skip_after run_skip_blk run_exit run_exit_after run_exit_blk run_loop run_any runS_nil runS_op0 runS_opg runW_nil runW_op0 runW_opg exec_q exec_w exec_c exec_n execW_q execW_w execW_c restW_app hideH_app merge_app wblk rest_app restS_app execS_q execS_c aval dOk upd_app ev_t ev_c setO_some setO_none put_mk pinsOf isIo hasIo sbin endR fin resL one outL out1 clo1 cloL coe coeL shut shut.shutL wantA weff cellsOf fillA deref natOf ρ0_app h0_app plain plain.plainL keep_app keepH_app andThen_normal andThen_ret andThen_exit pop_nil pop_after pop_after_ret pop_after_exit pop_blk pop_blk_ret pop_blk_exit nilA srcOf srcCells keepR_app keepHR_app renA rb
/- 60: loop.example/g00464/laws.szFile -/
def A60 : AC := (.seq (.ops [⟨(some 2), none, .w (.box (.t 0))⟩, ⟨(some 4), none, .q (.mov (.c (.sc (.int .i64 0))))⟩])
  (.seq (.ops [⟨(some 5), none, .q (.mov (.t 1))⟩, ⟨(some 6), none, .q (.fadr 0 (.t 2))⟩, ⟨(some 7), none, .q (.load false 1 (.t 6))⟩, ⟨(some 8), none, .q (.slen (.t 7))⟩, ⟨(some 9), none, .q (.bin .sub (.t 5) (.t 8))⟩, ⟨(some 1), none, .q (.mov (.t 9))⟩])
  (.seq (.seq (.ops [⟨(some 10), none, .q (.mov (.t 1))⟩, ⟨(some 11), none, .q (.bin .lss (.t 10) (.c (.sc (.int .i64 0))))⟩])
  (.cond (.t 11) (.seq (.ops [⟨(some 4), none, .q (.mov (.c (.sc (.int .i64 (-1)))))⟩])
  .ret)
  .skip))
  (.seq (.ops [⟨(some 12), none, .q (.mov (.t 1))⟩, ⟨(some 13), none, .q (.fadr 1 (.t 2))⟩, ⟨(some 14), none, .q (.load false 1 (.t 13))⟩, ⟨(some 15), none, .q (.slen (.t 14))⟩, ⟨(some 16), none, .q (.bin .sub (.t 12) (.t 15))⟩, ⟨(some 1), none, .q (.mov (.t 16))⟩])
  (.seq (.seq (.ops [⟨(some 17), none, .q (.mov (.t 1))⟩, ⟨(some 18), none, .q (.bin .lss (.t 17) (.c (.sc (.int .i64 0))))⟩])
  (.cond (.t 18) (.seq (.ops [⟨(some 4), none, .q (.mov (.c (.sc (.int .i64 (-1)))))⟩])
  .ret)
  .skip))
  (.seq (.ops [⟨(some 19), none, .q (.mov (.t 1))⟩, ⟨(some 4), none, .q (.mov (.t 19))⟩])
  .ret))))))
theorem K60 : Try.f60.body.bind (comp Try.prog) = some A60 ∧ Try.f60.ntmps = 20 ∧ Try.f60.results.toList.mapM (resB Try.prog) = some [.mov (.t 4)] := ⟨by kernel_rfl, by kernel_rfl, by kernel_rfl⟩
theorem R60 (x : File) (hx : File.ty.ok x) : Sz Try.prog 60 (.agg (File.ty.cs x)) (File.ty.wt x) := by
  intro l h0 h1
  obtain ⟨o0, o1, _⟩ := hx
  have o0 : x.path.size ≤ 140737488351232 := o0
  have w0 : IntKind.i64.wrap (l - x.path.size) = l - x.path.size := wrap_i64 (by omega) (by omega)
  by_cases n0 : l - (x.path.size : Int) < 0
  · refine ⟨-1, .inl (by decide), ?_⟩
    refine Ret.run Try.func60 K60 (by simp) rfl rfl 500 ?_
    simp [A60, iniρ, File.cse, w0, n0]
    try omega
  have p0 : 0 ≤ (l - (x.path.size : Int)) := by omega
  have o1 : x.text.size ≤ 140737488351232 := o1
  have w1 : IntKind.i64.wrap ((l - (x.path.size : Int)) - x.text.size) = (l - (x.path.size : Int)) - x.text.size := wrap_i64 (by omega) (by omega)
  by_cases n1 : (l - (x.path.size : Int)) - (x.text.size : Int) < 0
  · refine ⟨-1, .inl (by decide), ?_⟩
    refine Ret.run Try.func60 K60 (by simp) rfl rfl 500 ?_
    simp [A60, iniρ, File.cse, w0, n0, w1, n1]
    try omega
  have p1 : 0 ≤ ((l - (x.path.size : Int)) - (x.text.size : Int)) := by omega
  refine ⟨((l - (x.path.size : Int)) - (x.text.size : Int)), .inr ?_, ?_⟩
  · rw [File.wte]; omega
  refine Ret.run Try.func60 K60 (by simp) rfl rfl 500 ?_
  simp [A60, iniρ, File.cse, w0, n0, w1, n1]
theorem R31 (xs : List File) (hx : File.ty.slice.ok xs) : Sz Try.prog 31 (.ro (rows File.ty.cs xs) xs.length) (File.ty.slice.wt xs) := Sz.slice File.ty (agg := true) Try.func31 ⟨by kernel_rfl, by kernel_rfl, by kernel_rfl⟩ (by kernel_rfl) (by simp) xs (fun x h => R60 x (hx.2 x h)) (File.ty.lenb (by decide) hx)
/- 67: loop.example/g00464/laws.toFile -/
def A67 : AC := (.seq (.ops [⟨(some 1), none, .w (.box (.t 0))⟩, ⟨(some 2), none, .w (.alloc [(.sc (.string ⟨#[]⟩)), (.sc (.string ⟨#[]⟩))])⟩])
  (.seq (.ops [⟨(some 3), none, .w (.alloc [(.sc (.string ⟨#[]⟩)), (.sc (.string ⟨#[]⟩))])⟩])
  (.seq (.ops [⟨(some 4), none, .q (.fadr 0 (.t 1))⟩, ⟨(some 5), none, .q (.load false 1 (.t 4))⟩, ⟨(some 6), none, .q (.fadr 0 (.t 3))⟩, ⟨none, none, .w (.store 1 (.t 6) (.t 5))⟩])
  (.seq (.ops [⟨(some 7), none, .q (.fadr 1 (.t 1))⟩, ⟨(some 8), none, .q (.load false 1 (.t 7))⟩, ⟨(some 9), none, .q (.fadr 1 (.t 3))⟩, ⟨none, none, .w (.store 1 (.t 9) (.t 8))⟩])
  (.seq (.ops [⟨(some 10), none, .q (.load true 2 (.t 3))⟩, ⟨none, none, .w (.store 2 (.t 2) (.t 10))⟩])
  .ret)))))
theorem K67 : Try.f67.body.bind (comp Try.prog) = some A67 ∧ Try.f67.ntmps = 11 ∧ Try.f67.results.toList.mapM (resB Try.prog) = some [.load true 2 (.t 2)] := ⟨by kernel_rfl, by kernel_rfl, by kernel_rfl⟩
theorem R67 (x : File) (hx : File.ty.ok x) : Ret Try.prog 67 [.agg (File.ty.cs x)] (.agg (File.ty.oc x)) [.un] := by
  obtain ⟨o0, o1, _⟩ := hx
  refine Ret.run Try.func67 K67 (by simp) rfl rfl 500 ?_
  simp [A67, iniρ, File.cse, over, ex1, File.oce]
theorem R42 (xs : List File) (hx : File.ty.slice.ok xs) : Ret Try.prog 42 [.ro (rows File.ty.cs xs) xs.length] (.own (rows File.ty.oc xs) xs.length 2) [.un] := Ret.toS File.ty Try.func42 ⟨by kernel_rfl, by kernel_rfl, by kernel_rfl⟩ (by kernel_rfl) (fun x h => R67 x h) (by decide) (by decide) xs hx
/- 77: loop.example/g00464/laws.eqFile -/
def A77 : AC := (.seq (.ops [⟨(some 2), none, .w (.box (.t 0))⟩, ⟨(some 3), none, .w (.box (.t 1))⟩, ⟨(some 4), none, .q (.mov (.c (.sc (.bool false))))⟩])
  (.seq (.seq (.ops [⟨(some 5), none, .q (.fadr 0 (.t 2))⟩, ⟨(some 6), none, .q (.load false 1 (.t 5))⟩, ⟨(some 7), none, .q (.fadr 0 (.t 3))⟩, ⟨(some 8), none, .q (.load false 1 (.t 7))⟩, ⟨(some 9), none, .q (.bin .neq (.t 6) (.t 8))⟩])
  (.cond (.t 9) (.seq (.ops [⟨(some 4), none, .q (.mov (.c (.sc (.bool false))))⟩])
  .ret)
  .skip))
  (.seq (.seq (.ops [⟨(some 10), none, .q (.fadr 1 (.t 2))⟩, ⟨(some 11), none, .q (.load false 1 (.t 10))⟩, ⟨(some 12), none, .q (.fadr 1 (.t 3))⟩, ⟨(some 13), none, .q (.load false 1 (.t 12))⟩, ⟨(some 14), none, .q (.bin .neq (.t 11) (.t 13))⟩])
  (.cond (.t 14) (.seq (.ops [⟨(some 4), none, .q (.mov (.c (.sc (.bool false))))⟩])
  .ret)
  .skip))
  (.seq (.ops [⟨(some 4), none, .q (.mov (.c (.sc (.bool true))))⟩])
  .ret))))
theorem K77 : Try.f77.body.bind (comp Try.prog) = some A77 ∧ Try.f77.ntmps = 15 ∧ Try.f77.results.toList.mapM (resB Try.prog) = some [.mov (.t 4)] := ⟨by kernel_rfl, by kernel_rfl, by kernel_rfl⟩
theorem R77 (x : File) (hx : File.ty.ok x) : Ret Try.prog 77 [.agg (File.ty.cs x), .agg (File.ty.cs x)] (.sc (.bool true)) [.un, .un] := by
  obtain ⟨o0, o1, _⟩ := hx
  refine Ret.run Try.func77 K77 (by simp) rfl rfl 500 ?_
  simp [A77, iniρ, File.cse]
theorem R52 (xs : List File) (hx : File.ty.slice.ok xs) : Ret Try.prog 52 [.ro (rows File.ty.cs xs) xs.length, .ro (rows File.ty.cs xs) xs.length] (.sc (.bool true)) [.un, .un] := Ret.eqS mixed File.ty (agg := true) Try.func52 ⟨by kernel_rfl, by kernel_rfl, by kernel_rfl⟩ (by kernel_rfl) (by simp) xs (fun x h => R77 x (hx.2 x h)) (File.ty.lenb (by decide) hx)
/- 88: loop.example/g00464/laws.szNeed -/
def A88 : AC := (.seq (.ops [⟨(some 2), none, .w (.box (.t 0))⟩, ⟨(some 4), none, .q (.mov (.c (.sc (.int .i64 0))))⟩])
  (.seq (.ops [⟨(some 5), none, .q (.mov (.t 1))⟩, ⟨(some 6), none, .q (.fadr 0 (.t 2))⟩, ⟨(some 7), none, .q (.load false 1 (.t 6))⟩, ⟨(some 8), none, .q (.slen (.t 7))⟩, ⟨(some 9), none, .q (.bin .sub (.t 5) (.t 8))⟩, ⟨(some 1), none, .q (.mov (.t 9))⟩])
  (.seq (.seq (.ops [⟨(some 10), none, .q (.mov (.t 1))⟩, ⟨(some 11), none, .q (.bin .lss (.t 10) (.c (.sc (.int .i64 0))))⟩])
  (.cond (.t 11) (.seq (.ops [⟨(some 4), none, .q (.mov (.c (.sc (.int .i64 (-1)))))⟩])
  .ret)
  .skip))
  (.seq (.ops [⟨(some 12), none, .q (.mov (.t 1))⟩, ⟨(some 13), none, .q (.fadr 1 (.t 2))⟩, ⟨(some 14), none, .q (.load false 1 (.t 13))⟩, ⟨(some 15), none, .q (.slen (.t 14))⟩, ⟨(some 16), none, .q (.bin .sub (.t 12) (.t 15))⟩, ⟨(some 1), none, .q (.mov (.t 16))⟩])
  (.seq (.seq (.ops [⟨(some 17), none, .q (.mov (.t 1))⟩, ⟨(some 18), none, .q (.bin .lss (.t 17) (.c (.sc (.int .i64 0))))⟩])
  (.cond (.t 18) (.seq (.ops [⟨(some 4), none, .q (.mov (.c (.sc (.int .i64 (-1)))))⟩])
  .ret)
  .skip))
  (.seq (.ops [⟨(some 19), none, .q (.mov (.t 1))⟩, ⟨(some 4), none, .q (.mov (.t 19))⟩])
  .ret))))))
theorem K88 : Try.f88.body.bind (comp Try.prog) = some A88 ∧ Try.f88.ntmps = 20 ∧ Try.f88.results.toList.mapM (resB Try.prog) = some [.mov (.t 4)] := ⟨by kernel_rfl, by kernel_rfl, by kernel_rfl⟩
theorem R88 (x : Need) (hx : Need.ty.ok x) : Sz Try.prog 88 (.agg (Need.ty.cs x)) (Need.ty.wt x) := by
  intro l h0 h1
  obtain ⟨o0, o1, _⟩ := hx
  have o0 : x.name.size ≤ 140737488351232 := o0
  have w0 : IntKind.i64.wrap (l - x.name.size) = l - x.name.size := wrap_i64 (by omega) (by omega)
  by_cases n0 : l - (x.name.size : Int) < 0
  · refine ⟨-1, .inl (by decide), ?_⟩
    refine Ret.run Try.func88 K88 (by simp) rfl rfl 500 ?_
    simp [A88, iniρ, Need.cse, w0, n0]
    try omega
  have p0 : 0 ≤ (l - (x.name.size : Int)) := by omega
  have o1 : x.range.size ≤ 140737488351232 := o1
  have w1 : IntKind.i64.wrap ((l - (x.name.size : Int)) - x.range.size) = (l - (x.name.size : Int)) - x.range.size := wrap_i64 (by omega) (by omega)
  by_cases n1 : (l - (x.name.size : Int)) - (x.range.size : Int) < 0
  · refine ⟨-1, .inl (by decide), ?_⟩
    refine Ret.run Try.func88 K88 (by simp) rfl rfl 500 ?_
    simp [A88, iniρ, Need.cse, w0, n0, w1, n1]
    try omega
  have p1 : 0 ≤ ((l - (x.name.size : Int)) - (x.range.size : Int)) := by omega
  refine ⟨((l - (x.name.size : Int)) - (x.range.size : Int)), .inr ?_, ?_⟩
  · rw [Need.wte]; omega
  refine Ret.run Try.func88 K88 (by simp) rfl rfl 500 ?_
  simp [A88, iniρ, Need.cse, w0, n0, w1, n1]
theorem R80 (xs : List Need) (hx : Need.ty.slice.ok xs) : Sz Try.prog 80 (.ro (rows Need.ty.cs xs) xs.length) (Need.ty.slice.wt xs) := Sz.slice Need.ty (agg := true) Try.func80 ⟨by kernel_rfl, by kernel_rfl, by kernel_rfl⟩ (by kernel_rfl) (by simp) xs (fun x h => R88 x (hx.2 x h)) (Need.ty.lenb (by decide) hx)
/- 91: loop.example/g00464/laws.toNeed -/
def A91 : AC := (.seq (.ops [⟨(some 1), none, .w (.box (.t 0))⟩, ⟨(some 2), none, .w (.alloc [(.sc (.string ⟨#[]⟩)), (.sc (.string ⟨#[]⟩))])⟩])
  (.seq (.ops [⟨(some 3), none, .w (.alloc [(.sc (.string ⟨#[]⟩)), (.sc (.string ⟨#[]⟩))])⟩])
  (.seq (.ops [⟨(some 4), none, .q (.fadr 0 (.t 1))⟩, ⟨(some 5), none, .q (.load false 1 (.t 4))⟩, ⟨(some 6), none, .q (.fadr 0 (.t 3))⟩, ⟨none, none, .w (.store 1 (.t 6) (.t 5))⟩])
  (.seq (.ops [⟨(some 7), none, .q (.fadr 1 (.t 1))⟩, ⟨(some 8), none, .q (.load false 1 (.t 7))⟩, ⟨(some 9), none, .q (.fadr 1 (.t 3))⟩, ⟨none, none, .w (.store 1 (.t 9) (.t 8))⟩])
  (.seq (.ops [⟨(some 10), none, .q (.load true 2 (.t 3))⟩, ⟨none, none, .w (.store 2 (.t 2) (.t 10))⟩])
  .ret)))))
theorem K91 : Try.f91.body.bind (comp Try.prog) = some A91 ∧ Try.f91.ntmps = 11 ∧ Try.f91.results.toList.mapM (resB Try.prog) = some [.load true 2 (.t 2)] := ⟨by kernel_rfl, by kernel_rfl, by kernel_rfl⟩
theorem R91 (x : Need) (hx : Need.ty.ok x) : Ret Try.prog 91 [.agg (Need.ty.cs x)] (.agg (Need.ty.oc x)) [.un] := by
  obtain ⟨o0, o1, _⟩ := hx
  refine Ret.run Try.func91 K91 (by simp) rfl rfl 500 ?_
  simp [A91, iniρ, Need.cse, over, ex1, Need.oce]
theorem R84 (xs : List Need) (hx : Need.ty.slice.ok xs) : Ret Try.prog 84 [.ro (rows Need.ty.cs xs) xs.length] (.own (rows Need.ty.oc xs) xs.length 2) [.un] := Ret.toS Need.ty Try.func84 ⟨by kernel_rfl, by kernel_rfl, by kernel_rfl⟩ (by kernel_rfl) (fun x h => R91 x h) (by decide) (by decide) xs hx
/- 93: loop.example/g00464/laws.eqNeed -/
def A93 : AC := (.seq (.ops [⟨(some 2), none, .w (.box (.t 0))⟩, ⟨(some 3), none, .w (.box (.t 1))⟩, ⟨(some 4), none, .q (.mov (.c (.sc (.bool false))))⟩])
  (.seq (.seq (.ops [⟨(some 5), none, .q (.fadr 0 (.t 2))⟩, ⟨(some 6), none, .q (.load false 1 (.t 5))⟩, ⟨(some 7), none, .q (.fadr 0 (.t 3))⟩, ⟨(some 8), none, .q (.load false 1 (.t 7))⟩, ⟨(some 9), none, .q (.bin .neq (.t 6) (.t 8))⟩])
  (.cond (.t 9) (.seq (.ops [⟨(some 4), none, .q (.mov (.c (.sc (.bool false))))⟩])
  .ret)
  .skip))
  (.seq (.seq (.ops [⟨(some 10), none, .q (.fadr 1 (.t 2))⟩, ⟨(some 11), none, .q (.load false 1 (.t 10))⟩, ⟨(some 12), none, .q (.fadr 1 (.t 3))⟩, ⟨(some 13), none, .q (.load false 1 (.t 12))⟩, ⟨(some 14), none, .q (.bin .neq (.t 11) (.t 13))⟩])
  (.cond (.t 14) (.seq (.ops [⟨(some 4), none, .q (.mov (.c (.sc (.bool false))))⟩])
  .ret)
  .skip))
  (.seq (.ops [⟨(some 4), none, .q (.mov (.c (.sc (.bool true))))⟩])
  .ret))))
theorem K93 : Try.f93.body.bind (comp Try.prog) = some A93 ∧ Try.f93.ntmps = 15 ∧ Try.f93.results.toList.mapM (resB Try.prog) = some [.mov (.t 4)] := ⟨by kernel_rfl, by kernel_rfl, by kernel_rfl⟩
theorem R93 (x : Need) (hx : Need.ty.ok x) : Ret Try.prog 93 [.agg (Need.ty.cs x), .agg (Need.ty.cs x)] (.sc (.bool true)) [.un, .un] := by
  obtain ⟨o0, o1, _⟩ := hx
  refine Ret.run Try.func93 K93 (by simp) rfl rfl 500 ?_
  simp [A93, iniρ, Need.cse]
theorem R86 (xs : List Need) (hx : Need.ty.slice.ok xs) : Ret Try.prog 86 [.ro (rows Need.ty.cs xs) xs.length, .ro (rows Need.ty.cs xs) xs.length] (.sc (.bool true)) [.un, .un] := Ret.eqS mixed Need.ty (agg := true) Try.func86 ⟨by kernel_rfl, by kernel_rfl, by kernel_rfl⟩ (by kernel_rfl) (by simp) xs (fun x h => R93 x (hx.2 x h)) (Need.ty.lenb (by decide) hx)
/- 89: loop.example/g00464/laws.szCmd -/
def A89 : AC := (.seq (.ops [⟨(some 2), none, .w (.box (.t 0))⟩, ⟨(some 4), none, .q (.mov (.c (.sc (.int .i64 0))))⟩])
  (.seq (.ops [⟨(some 5), none, .q (.mov (.t 1))⟩, ⟨(some 6), none, .q (.fadr 0 (.t 2))⟩, ⟨(some 7), none, .q (.load false 1 (.t 6))⟩, ⟨(some 8), none, .q (.slen (.t 7))⟩, ⟨(some 9), none, .q (.bin .sub (.t 5) (.t 8))⟩, ⟨(some 1), none, .q (.mov (.t 9))⟩])
  (.seq (.seq (.ops [⟨(some 10), none, .q (.mov (.t 1))⟩, ⟨(some 11), none, .q (.bin .lss (.t 10) (.c (.sc (.int .i64 0))))⟩])
  (.cond (.t 11) (.seq (.ops [⟨(some 4), none, .q (.mov (.c (.sc (.int .i64 (-1)))))⟩])
  .ret)
  .skip))
  (.seq (.ops [⟨(some 12), none, .q (.fadr 1 (.t 2))⟩, ⟨(some 13), none, .q (.load false 1 (.t 12))⟩, ⟨(some 14), none, .q (.mov (.t 1))⟩, ⟨(some 15), none, .c (.c (.clo 13 [])) [(.t 13), (.t 14)]⟩, ⟨(some 1), none, .q (.mov (.t 15))⟩])
  (.seq (.seq (.ops [⟨(some 16), none, .q (.mov (.t 1))⟩, ⟨(some 17), none, .q (.bin .lss (.t 16) (.c (.sc (.int .i64 0))))⟩])
  (.cond (.t 17) (.seq (.ops [⟨(some 4), none, .q (.mov (.c (.sc (.int .i64 (-1)))))⟩])
  .ret)
  .skip))
  (.seq (.ops [⟨(some 18), none, .q (.mov (.t 1))⟩, ⟨(some 4), none, .q (.mov (.t 18))⟩])
  .ret))))))
theorem K89 : Try.f89.body.bind (comp Try.prog) = some A89 ∧ Try.f89.ntmps = 19 ∧ Try.f89.results.toList.mapM (resB Try.prog) = some [.mov (.t 4)] := ⟨by kernel_rfl, by kernel_rfl, by kernel_rfl⟩
theorem R89 (x : Cmd) (hx : Cmd.ty.ok x) : Sz Try.prog 89 (.agg (Cmd.ty.cs x)) (Cmd.ty.wt x) := by
  intro l h0 h1
  obtain ⟨o0, o1, _⟩ := hx
  have o0 : x.task.size ≤ 140737488351232 := o0
  have w0 : IntKind.i64.wrap (l - x.task.size) = l - x.task.size := wrap_i64 (by omega) (by omega)
  by_cases n0 : l - (x.task.size : Int) < 0
  · refine ⟨-1, .inl (by decide), ?_⟩
    refine Ret.run Try.func89 K89 (by simp) rfl rfl 500 ?_
    simp [A89, iniρ, Cmd.cse, w0, n0]
    try omega
  have p0 : 0 ≤ (l - (x.task.size : Int)) := by omega
  obtain ⟨m1, e1, q1⟩ := R13 x.acts o1 (l - (x.task.size : Int)) (by omega) (by omega)
  by_cases n1 : m1 < 0
  · refine ⟨-1, .inl (by decide), ?_⟩
    refine Ret.run Try.func89 K89 (by simp) rfl rfl 500 ?_
    simp [A89, iniρ, Cmd.cse, w0, n0, n1]
    refine callK.ro 0 rfl (by kernel_rfl) (by simp [roc_sc, roc_ro, roc_agg, Cmd.cse]) q1 rfl rfl rfl ?_
    simp [w0, n0, n1, Cmd.cse]
  have e1 : m1 = (l - (x.task.size : Int)) - ((x.acts.length + wtL Ty.str.wt x.acts : Nat) : Int) := e1.resolve_left n1
  refine ⟨m1, .inr ?_, ?_⟩
  · rw [Cmd.wte]; omega
  refine Ret.run Try.func89 K89 (by simp) rfl rfl 500 ?_
  simp [A89, iniρ, Cmd.cse, w0, n0, n1]
  refine callK.ro 0 rfl (by kernel_rfl) (by simp [roc_sc, roc_ro, roc_agg, Cmd.cse]) q1 rfl rfl rfl ?_
  simp [w0, n0, n1, Cmd.cse]
theorem R81 (xs : List Cmd) (hx : Cmd.ty.slice.ok xs) : Sz Try.prog 81 (.ro (rows Cmd.ty.cs xs) xs.length) (Cmd.ty.slice.wt xs) := Sz.slice Cmd.ty (agg := true) Try.func81 ⟨by kernel_rfl, by kernel_rfl, by kernel_rfl⟩ (by kernel_rfl) (by simp) xs (fun x h => R89 x (hx.2 x h)) (Cmd.ty.lenb (by decide) hx)
/- 92: loop.example/g00464/laws.toCmd -/
def A92 : AC := (.seq (.ops [⟨(some 1), none, .w (.box (.t 0))⟩, ⟨(some 2), none, .w (.alloc [(.sc (.string ⟨#[]⟩)), .em])⟩])
  (.seq (.ops [⟨(some 3), none, .w (.alloc [(.sc (.string ⟨#[]⟩)), .em])⟩])
  (.seq (.ops [⟨(some 4), none, .q (.fadr 0 (.t 1))⟩, ⟨(some 5), none, .q (.load false 1 (.t 4))⟩, ⟨(some 6), none, .q (.fadr 0 (.t 3))⟩, ⟨none, none, .w (.store 1 (.t 6) (.t 5))⟩])
  (.seq (.ops [⟨(some 7), none, .q (.fadr 1 (.t 1))⟩, ⟨(some 8), none, .q (.load false 1 (.t 7))⟩, ⟨(some 9), none, .c (.c (.clo 20 [])) [(.t 8)]⟩, ⟨(some 10), none, .q (.fadr 1 (.t 3))⟩, ⟨none, none, .w (.store 1 (.t 10) (.t 9))⟩])
  (.seq (.ops [⟨(some 11), none, .q (.load true 2 (.t 3))⟩, ⟨none, none, .w (.store 2 (.t 2) (.t 11))⟩])
  .ret)))))
theorem K92 : Try.f92.body.bind (comp Try.prog) = some A92 ∧ Try.f92.ntmps = 12 ∧ Try.f92.results.toList.mapM (resB Try.prog) = some [.load true 2 (.t 2)] := ⟨by kernel_rfl, by kernel_rfl, by kernel_rfl⟩
theorem R92 (x : Cmd) (hx : Cmd.ty.ok x) : Ret Try.prog 92 [.agg (Cmd.ty.cs x)] (.agg (Cmd.ty.oc x)) [.un] := by
  obtain ⟨o0, o1, _⟩ := hx
  refine Ret.run Try.func92 K92 (by simp) rfl rfl 500 ?_
  simp [A92, iniρ, Cmd.cse, over, ex1, Cmd.oce, str_ocl, Ty.str.frL]
  refine callK.own 501 rfl (by kernel_rfl) (by simp [roc_sc, roc_ro, roc_agg, Cmd.cse]) (R20 x.acts o1) (Ty.str.flo x.acts) (by simp) rfl ?_
  simp [over, ex1, Cmd.oce, str_ocl, Ty.str.frL]
theorem R85 (xs : List Cmd) (hx : Cmd.ty.slice.ok xs) : Ret Try.prog 85 [.ro (rows Cmd.ty.cs xs) xs.length] (.own (rows Cmd.ty.oc xs) xs.length 2) [.un] := Ret.toS Cmd.ty Try.func85 ⟨by kernel_rfl, by kernel_rfl, by kernel_rfl⟩ (by kernel_rfl) (fun x h => R92 x h) (by decide) (by decide) xs hx
/- 94: loop.example/g00464/laws.eqCmd -/
def A94 : AC := (.seq (.ops [⟨(some 2), none, .w (.box (.t 0))⟩, ⟨(some 3), none, .w (.box (.t 1))⟩, ⟨(some 4), none, .q (.mov (.c (.sc (.bool false))))⟩])
  (.seq (.seq (.ops [⟨(some 5), none, .q (.fadr 0 (.t 2))⟩, ⟨(some 6), none, .q (.load false 1 (.t 5))⟩, ⟨(some 7), none, .q (.fadr 0 (.t 3))⟩, ⟨(some 8), none, .q (.load false 1 (.t 7))⟩, ⟨(some 9), none, .q (.bin .neq (.t 6) (.t 8))⟩])
  (.cond (.t 9) (.seq (.ops [⟨(some 4), none, .q (.mov (.c (.sc (.bool false))))⟩])
  .ret)
  .skip))
  (.seq (.seq (.ops [⟨(some 10), none, .q (.fadr 1 (.t 2))⟩, ⟨(some 11), none, .q (.load false 1 (.t 10))⟩, ⟨(some 12), none, .q (.fadr 1 (.t 3))⟩, ⟨(some 13), none, .q (.load false 1 (.t 12))⟩, ⟨(some 14), none, .c (.c (.clo 27 [])) [(.t 11), (.t 13)]⟩, ⟨(some 15), none, .q (.not (.t 14))⟩])
  (.cond (.t 15) (.seq (.ops [⟨(some 4), none, .q (.mov (.c (.sc (.bool false))))⟩])
  .ret)
  .skip))
  (.seq (.ops [⟨(some 4), none, .q (.mov (.c (.sc (.bool true))))⟩])
  .ret))))
theorem K94 : Try.f94.body.bind (comp Try.prog) = some A94 ∧ Try.f94.ntmps = 16 ∧ Try.f94.results.toList.mapM (resB Try.prog) = some [.mov (.t 4)] := ⟨by kernel_rfl, by kernel_rfl, by kernel_rfl⟩
theorem R94 (x : Cmd) (hx : Cmd.ty.ok x) : Ret Try.prog 94 [.agg (Cmd.ty.cs x), .agg (Cmd.ty.cs x)] (.sc (.bool true)) [.un, .un] := by
  obtain ⟨o0, o1, _⟩ := hx
  refine Ret.run Try.func94 K94 (by simp) rfl rfl 500 ?_
  simp [A94, iniρ, Cmd.cse]
  refine callK.ro 0 rfl (by kernel_rfl) (by simp [roc_sc, roc_ro, roc_agg, Cmd.cse]) (R27 x.acts o1) rfl rfl rfl ?_
  simp [Cmd.cse]
theorem R87 (xs : List Cmd) (hx : Cmd.ty.slice.ok xs) : Ret Try.prog 87 [.ro (rows Cmd.ty.cs xs) xs.length, .ro (rows Cmd.ty.cs xs) xs.length] (.sc (.bool true)) [.un, .un] := Ret.eqS mixed Cmd.ty (agg := true) Try.func87 ⟨by kernel_rfl, by kernel_rfl, by kernel_rfl⟩ (by kernel_rfl) (by simp) xs (fun x h => R94 x (hx.2 x h)) (Cmd.ty.lenb (by decide) hx)
/- 58: loop.example/g00464/laws.szPack -/
def A58 : AC := (.seq (.ops [⟨(some 2), none, .w (.box (.t 0))⟩, ⟨(some 4), none, .q (.mov (.c (.sc (.int .i64 0))))⟩])
  (.seq (.ops [⟨(some 5), none, .q (.mov (.t 1))⟩, ⟨(some 6), none, .q (.fadr 0 (.t 2))⟩, ⟨(some 7), none, .q (.load false 1 (.t 6))⟩, ⟨(some 8), none, .q (.slen (.t 7))⟩, ⟨(some 9), none, .q (.bin .sub (.t 5) (.t 8))⟩, ⟨(some 1), none, .q (.mov (.t 9))⟩])
  (.seq (.seq (.ops [⟨(some 10), none, .q (.mov (.t 1))⟩, ⟨(some 11), none, .q (.bin .lss (.t 10) (.c (.sc (.int .i64 0))))⟩])
  (.cond (.t 11) (.seq (.ops [⟨(some 4), none, .q (.mov (.c (.sc (.int .i64 (-1)))))⟩])
  .ret)
  .skip))
  (.seq (.ops [⟨(some 12), none, .q (.fadr 1 (.t 2))⟩, ⟨(some 13), none, .q (.load false 1 (.t 12))⟩, ⟨(some 14), none, .q (.mov (.t 1))⟩, ⟨(some 15), none, .c (.c (.clo 13 [])) [(.t 13), (.t 14)]⟩, ⟨(some 1), none, .q (.mov (.t 15))⟩])
  (.seq (.seq (.ops [⟨(some 16), none, .q (.mov (.t 1))⟩, ⟨(some 17), none, .q (.bin .lss (.t 16) (.c (.sc (.int .i64 0))))⟩])
  (.cond (.t 17) (.seq (.ops [⟨(some 4), none, .q (.mov (.c (.sc (.int .i64 (-1)))))⟩])
  .ret)
  .skip))
  (.seq (.ops [⟨(some 18), none, .q (.fadr 2 (.t 2))⟩, ⟨(some 19), none, .q (.load false 1 (.t 18))⟩, ⟨(some 20), none, .q (.mov (.t 1))⟩, ⟨(some 21), none, .c (.c (.clo 80 [])) [(.t 19), (.t 20)]⟩, ⟨(some 1), none, .q (.mov (.t 21))⟩])
  (.seq (.seq (.ops [⟨(some 22), none, .q (.mov (.t 1))⟩, ⟨(some 23), none, .q (.bin .lss (.t 22) (.c (.sc (.int .i64 0))))⟩])
  (.cond (.t 23) (.seq (.ops [⟨(some 4), none, .q (.mov (.c (.sc (.int .i64 (-1)))))⟩])
  .ret)
  .skip))
  (.seq (.ops [⟨(some 24), none, .q (.fadr 3 (.t 2))⟩, ⟨(some 25), none, .q (.load false 1 (.t 24))⟩, ⟨(some 26), none, .q (.mov (.t 1))⟩, ⟨(some 27), none, .c (.c (.clo 81 [])) [(.t 25), (.t 26)]⟩, ⟨(some 1), none, .q (.mov (.t 27))⟩])
  (.seq (.seq (.ops [⟨(some 28), none, .q (.mov (.t 1))⟩, ⟨(some 29), none, .q (.bin .lss (.t 28) (.c (.sc (.int .i64 0))))⟩])
  (.cond (.t 29) (.seq (.ops [⟨(some 4), none, .q (.mov (.c (.sc (.int .i64 (-1)))))⟩])
  .ret)
  .skip))
  (.seq (.ops [⟨(some 30), none, .q (.mov (.t 1))⟩, ⟨(some 4), none, .q (.mov (.t 30))⟩])
  .ret))))))))))
theorem K58 : Try.f58.body.bind (comp Try.prog) = some A58 ∧ Try.f58.ntmps = 31 ∧ Try.f58.results.toList.mapM (resB Try.prog) = some [.mov (.t 4)] := ⟨by kernel_rfl, by kernel_rfl, by kernel_rfl⟩
theorem R58 (x : Pack) (hx : Pack.ty.ok x) : Sz Try.prog 58 (.agg (Pack.ty.cs x)) (Pack.ty.wt x) := by
  intro l h0 h1
  obtain ⟨o0, o1, o2, o3, _⟩ := hx
  have o0 : x.name.size ≤ 140737488351232 := o0
  have w0 : IntKind.i64.wrap (l - x.name.size) = l - x.name.size := wrap_i64 (by omega) (by omega)
  by_cases n0 : l - (x.name.size : Int) < 0
  · refine ⟨-1, .inl (by decide), ?_⟩
    refine Ret.run Try.func58 K58 (by simp) rfl rfl 500 ?_
    simp [A58, iniρ, Pack.cse, w0, n0]
    try omega
  have p0 : 0 ≤ (l - (x.name.size : Int)) := by omega
  obtain ⟨m1, e1, q1⟩ := R13 x.uses o1 (l - (x.name.size : Int)) (by omega) (by omega)
  by_cases n1 : m1 < 0
  · refine ⟨-1, .inl (by decide), ?_⟩
    refine Ret.run Try.func58 K58 (by simp) rfl rfl 500 ?_
    simp [A58, iniρ, Pack.cse, w0, n0, n1]
    refine callK.ro 0 rfl (by kernel_rfl) (by simp [roc_sc, roc_ro, roc_agg, Pack.cse]) q1 rfl rfl rfl ?_
    simp [w0, n0, n1, Pack.cse]
  have e1 : m1 = (l - (x.name.size : Int)) - ((x.uses.length + wtL Ty.str.wt x.uses : Nat) : Int) := e1.resolve_left n1
  obtain ⟨m2, e2, q2⟩ := R80 x.needs o2 m1 (by omega) (by omega)
  by_cases n2 : m2 < 0
  · refine ⟨-1, .inl (by decide), ?_⟩
    refine Ret.run Try.func58 K58 (by simp) rfl rfl 500 ?_
    simp [A58, iniρ, Pack.cse, w0, n0, n1, n2]
    refine callK.ro 0 rfl (by kernel_rfl) (by simp [roc_sc, roc_ro, roc_agg, Pack.cse]) q1 rfl rfl rfl ?_
    simp [w0, n0, n1, n2, Pack.cse]
    refine callK.ro 0 rfl (by kernel_rfl) (by simp [roc_sc, roc_ro, roc_agg, Pack.cse]) q2 rfl rfl rfl ?_
    simp [w0, n0, n1, n2, Pack.cse]
  have e2 : m2 = m1 - ((x.needs.length + wtL Need.ty.wt x.needs : Nat) : Int) := e2.resolve_left n2
  obtain ⟨m3, e3, q3⟩ := R81 x.cmds o3 m2 (by omega) (by omega)
  by_cases n3 : m3 < 0
  · refine ⟨-1, .inl (by decide), ?_⟩
    refine Ret.run Try.func58 K58 (by simp) rfl rfl 500 ?_
    simp [A58, iniρ, Pack.cse, w0, n0, n1, n2, n3]
    refine callK.ro 0 rfl (by kernel_rfl) (by simp [roc_sc, roc_ro, roc_agg, Pack.cse]) q1 rfl rfl rfl ?_
    simp [w0, n0, n1, n2, n3, Pack.cse]
    refine callK.ro 0 rfl (by kernel_rfl) (by simp [roc_sc, roc_ro, roc_agg, Pack.cse]) q2 rfl rfl rfl ?_
    simp [w0, n0, n1, n2, n3, Pack.cse]
    refine callK.ro 0 rfl (by kernel_rfl) (by simp [roc_sc, roc_ro, roc_agg, Pack.cse]) q3 rfl rfl rfl ?_
    simp [w0, n0, n1, n2, n3, Pack.cse]
  have e3 : m3 = m2 - ((x.cmds.length + wtL Cmd.ty.wt x.cmds : Nat) : Int) := e3.resolve_left n3
  refine ⟨m3, .inr ?_, ?_⟩
  · rw [Pack.wte]; omega
  refine Ret.run Try.func58 K58 (by simp) rfl rfl 500 ?_
  simp [A58, iniρ, Pack.cse, w0, n0, n1, n2, n3]
  refine callK.ro 0 rfl (by kernel_rfl) (by simp [roc_sc, roc_ro, roc_agg, Pack.cse]) q1 rfl rfl rfl ?_
  simp [w0, n0, n1, n2, n3, Pack.cse]
  refine callK.ro 0 rfl (by kernel_rfl) (by simp [roc_sc, roc_ro, roc_agg, Pack.cse]) q2 rfl rfl rfl ?_
  simp [w0, n0, n1, n2, n3, Pack.cse]
  refine callK.ro 0 rfl (by kernel_rfl) (by simp [roc_sc, roc_ro, roc_agg, Pack.cse]) q3 rfl rfl rfl ?_
  simp [w0, n0, n1, n2, n3, Pack.cse]
theorem R29 (xs : List Pack) (hx : Pack.ty.slice.ok xs) : Sz Try.prog 29 (.ro (rows Pack.ty.cs xs) xs.length) (Pack.ty.slice.wt xs) := Sz.slice Pack.ty (agg := true) Try.func29 ⟨by kernel_rfl, by kernel_rfl, by kernel_rfl⟩ (by kernel_rfl) (by simp) xs (fun x h => R58 x (hx.2 x h)) (Pack.ty.lenb (by decide) hx)
/- 65: loop.example/g00464/laws.toPack -/
def A65 : AC := (.seq (.ops [⟨(some 1), none, .w (.box (.t 0))⟩, ⟨(some 2), none, .w (.alloc [(.sc (.string ⟨#[]⟩)), .em, .em, .em])⟩])
  (.seq (.ops [⟨(some 3), none, .w (.alloc [(.sc (.string ⟨#[]⟩)), .em, .em, .em])⟩])
  (.seq (.ops [⟨(some 4), none, .q (.fadr 0 (.t 1))⟩, ⟨(some 5), none, .q (.load false 1 (.t 4))⟩, ⟨(some 6), none, .q (.fadr 0 (.t 3))⟩, ⟨none, none, .w (.store 1 (.t 6) (.t 5))⟩])
  (.seq (.ops [⟨(some 7), none, .q (.fadr 1 (.t 1))⟩, ⟨(some 8), none, .q (.load false 1 (.t 7))⟩, ⟨(some 9), none, .c (.c (.clo 20 [])) [(.t 8)]⟩, ⟨(some 10), none, .q (.fadr 1 (.t 3))⟩, ⟨none, none, .w (.store 1 (.t 10) (.t 9))⟩])
  (.seq (.ops [⟨(some 11), none, .q (.fadr 2 (.t 1))⟩, ⟨(some 12), none, .q (.load false 1 (.t 11))⟩, ⟨(some 13), none, .c (.c (.clo 84 [])) [(.t 12)]⟩, ⟨(some 14), none, .q (.fadr 2 (.t 3))⟩, ⟨none, none, .w (.store 1 (.t 14) (.t 13))⟩])
  (.seq (.ops [⟨(some 15), none, .q (.fadr 3 (.t 1))⟩, ⟨(some 16), none, .q (.load false 1 (.t 15))⟩, ⟨(some 17), none, .c (.c (.clo 85 [])) [(.t 16)]⟩, ⟨(some 18), none, .q (.fadr 3 (.t 3))⟩, ⟨none, none, .w (.store 1 (.t 18) (.t 17))⟩])
  (.seq (.ops [⟨(some 19), none, .q (.load true 4 (.t 3))⟩, ⟨none, none, .w (.store 4 (.t 2) (.t 19))⟩])
  .ret)))))))
theorem K65 : Try.f65.body.bind (comp Try.prog) = some A65 ∧ Try.f65.ntmps = 20 ∧ Try.f65.results.toList.mapM (resB Try.prog) = some [.load true 4 (.t 2)] := ⟨by kernel_rfl, by kernel_rfl, by kernel_rfl⟩
theorem R65 (x : Pack) (hx : Pack.ty.ok x) : Ret Try.prog 65 [.agg (Pack.ty.cs x)] (.agg (Pack.ty.oc x)) [.un] := by
  obtain ⟨o0, o1, o2, o3, _⟩ := hx
  refine Ret.run Try.func65 K65 (by simp) rfl rfl 500 ?_
  simp [A65, iniρ, Pack.cse, over, ex1, Pack.oce, str_ocl, Ty.str.frL, Need.ocl, Need.frL, Cmd.ocl, Cmd.frL]
  refine callK.own 501 rfl (by kernel_rfl) (by simp [roc_sc, roc_ro, roc_agg, Pack.cse]) (R20 x.uses o1) (Ty.str.flo x.uses) (by simp) rfl ?_
  simp [over, ex1, Pack.oce, str_ocl, Ty.str.frL, Need.ocl, Need.frL, Cmd.ocl, Cmd.frL]
  refine callK.own 502 rfl (by kernel_rfl) (by simp [roc_sc, roc_ro, roc_agg, Pack.cse]) (R84 x.needs o2) (Need.ty.flo x.needs) (by simp) rfl ?_
  simp [over, ex1, Pack.oce, str_ocl, Ty.str.frL, Need.ocl, Need.frL, Cmd.ocl, Cmd.frL]
  refine callK.own 503 rfl (by kernel_rfl) (by simp [roc_sc, roc_ro, roc_agg, Pack.cse]) (R85 x.cmds o3) (Cmd.ty.flo x.cmds) (by simp) rfl ?_
  simp [over, ex1, Pack.oce, str_ocl, Ty.str.frL, Need.ocl, Need.frL, Cmd.ocl, Cmd.frL]
theorem R40 (xs : List Pack) (hx : Pack.ty.slice.ok xs) : Ret Try.prog 40 [.ro (rows Pack.ty.cs xs) xs.length] (.own (rows Pack.ty.oc xs) xs.length 4) [.un] := Ret.toS Pack.ty Try.func40 ⟨by kernel_rfl, by kernel_rfl, by kernel_rfl⟩ (by kernel_rfl) (fun x h => R65 x h) (by decide) (by decide) xs hx
/- 75: loop.example/g00464/laws.eqPack -/
def A75 : AC := (.seq (.ops [⟨(some 2), none, .w (.box (.t 0))⟩, ⟨(some 3), none, .w (.box (.t 1))⟩, ⟨(some 4), none, .q (.mov (.c (.sc (.bool false))))⟩])
  (.seq (.seq (.ops [⟨(some 5), none, .q (.fadr 0 (.t 2))⟩, ⟨(some 6), none, .q (.load false 1 (.t 5))⟩, ⟨(some 7), none, .q (.fadr 0 (.t 3))⟩, ⟨(some 8), none, .q (.load false 1 (.t 7))⟩, ⟨(some 9), none, .q (.bin .neq (.t 6) (.t 8))⟩])
  (.cond (.t 9) (.seq (.ops [⟨(some 4), none, .q (.mov (.c (.sc (.bool false))))⟩])
  .ret)
  .skip))
  (.seq (.seq (.ops [⟨(some 10), none, .q (.fadr 1 (.t 2))⟩, ⟨(some 11), none, .q (.load false 1 (.t 10))⟩, ⟨(some 12), none, .q (.fadr 1 (.t 3))⟩, ⟨(some 13), none, .q (.load false 1 (.t 12))⟩, ⟨(some 14), none, .c (.c (.clo 27 [])) [(.t 11), (.t 13)]⟩, ⟨(some 15), none, .q (.not (.t 14))⟩])
  (.cond (.t 15) (.seq (.ops [⟨(some 4), none, .q (.mov (.c (.sc (.bool false))))⟩])
  .ret)
  .skip))
  (.seq (.seq (.ops [⟨(some 16), none, .q (.fadr 2 (.t 2))⟩, ⟨(some 17), none, .q (.load false 1 (.t 16))⟩, ⟨(some 18), none, .q (.fadr 2 (.t 3))⟩, ⟨(some 19), none, .q (.load false 1 (.t 18))⟩, ⟨(some 20), none, .c (.c (.clo 86 [])) [(.t 17), (.t 19)]⟩, ⟨(some 21), none, .q (.not (.t 20))⟩])
  (.cond (.t 21) (.seq (.ops [⟨(some 4), none, .q (.mov (.c (.sc (.bool false))))⟩])
  .ret)
  .skip))
  (.seq (.seq (.ops [⟨(some 22), none, .q (.fadr 3 (.t 2))⟩, ⟨(some 23), none, .q (.load false 1 (.t 22))⟩, ⟨(some 24), none, .q (.fadr 3 (.t 3))⟩, ⟨(some 25), none, .q (.load false 1 (.t 24))⟩, ⟨(some 26), none, .c (.c (.clo 87 [])) [(.t 23), (.t 25)]⟩, ⟨(some 27), none, .q (.not (.t 26))⟩])
  (.cond (.t 27) (.seq (.ops [⟨(some 4), none, .q (.mov (.c (.sc (.bool false))))⟩])
  .ret)
  .skip))
  (.seq (.ops [⟨(some 4), none, .q (.mov (.c (.sc (.bool true))))⟩])
  .ret))))))
theorem K75 : Try.f75.body.bind (comp Try.prog) = some A75 ∧ Try.f75.ntmps = 28 ∧ Try.f75.results.toList.mapM (resB Try.prog) = some [.mov (.t 4)] := ⟨by kernel_rfl, by kernel_rfl, by kernel_rfl⟩
theorem R75 (x : Pack) (hx : Pack.ty.ok x) : Ret Try.prog 75 [.agg (Pack.ty.cs x), .agg (Pack.ty.cs x)] (.sc (.bool true)) [.un, .un] := by
  obtain ⟨o0, o1, o2, o3, _⟩ := hx
  refine Ret.run Try.func75 K75 (by simp) rfl rfl 500 ?_
  simp [A75, iniρ, Pack.cse]
  refine callK.ro 0 rfl (by kernel_rfl) (by simp [roc_sc, roc_ro, roc_agg, Pack.cse]) (R27 x.uses o1) rfl rfl rfl ?_
  simp [Pack.cse]
  refine callK.ro 0 rfl (by kernel_rfl) (by simp [roc_sc, roc_ro, roc_agg, Pack.cse]) (R86 x.needs o2) rfl rfl rfl ?_
  simp [Pack.cse]
  refine callK.ro 0 rfl (by kernel_rfl) (by simp [roc_sc, roc_ro, roc_agg, Pack.cse]) (R87 x.cmds o3) rfl rfl rfl ?_
  simp [Pack.cse]
theorem R50 (xs : List Pack) (hx : Pack.ty.slice.ok xs) : Ret Try.prog 50 [.ro (rows Pack.ty.cs xs) xs.length, .ro (rows Pack.ty.cs xs) xs.length] (.sc (.bool true)) [.un, .un] := Ret.eqS mixed Pack.ty (agg := true) Try.func50 ⟨by kernel_rfl, by kernel_rfl, by kernel_rfl⟩ (by kernel_rfl) (by simp) xs (fun x h => R75 x (hx.2 x h)) (Pack.ty.lenb (by decide) hx)
/- 61: loop.example/g00464/laws.szEnv -/
def A61 : AC := (.seq (.ops [⟨(some 2), none, .w (.box (.t 0))⟩, ⟨(some 4), none, .q (.mov (.c (.sc (.int .i64 0))))⟩])
  (.seq (.ops [⟨(some 5), none, .q (.mov (.t 1))⟩, ⟨(some 6), none, .q (.fadr 0 (.t 2))⟩, ⟨(some 7), none, .q (.load false 1 (.t 6))⟩, ⟨(some 8), none, .q (.slen (.t 7))⟩, ⟨(some 9), none, .q (.bin .sub (.t 5) (.t 8))⟩, ⟨(some 1), none, .q (.mov (.t 9))⟩])
  (.seq (.seq (.ops [⟨(some 10), none, .q (.mov (.t 1))⟩, ⟨(some 11), none, .q (.bin .lss (.t 10) (.c (.sc (.int .i64 0))))⟩])
  (.cond (.t 11) (.seq (.ops [⟨(some 4), none, .q (.mov (.c (.sc (.int .i64 (-1)))))⟩])
  .ret)
  .skip))
  (.seq (.ops [⟨(some 12), none, .q (.mov (.t 1))⟩, ⟨(some 13), none, .q (.fadr 1 (.t 2))⟩, ⟨(some 14), none, .q (.load false 1 (.t 13))⟩, ⟨(some 15), none, .q (.slen (.t 14))⟩, ⟨(some 16), none, .q (.bin .sub (.t 12) (.t 15))⟩, ⟨(some 1), none, .q (.mov (.t 16))⟩])
  (.seq (.seq (.ops [⟨(some 17), none, .q (.mov (.t 1))⟩, ⟨(some 18), none, .q (.bin .lss (.t 17) (.c (.sc (.int .i64 0))))⟩])
  (.cond (.t 18) (.seq (.ops [⟨(some 4), none, .q (.mov (.c (.sc (.int .i64 (-1)))))⟩])
  .ret)
  .skip))
  (.seq (.ops [⟨(some 19), none, .q (.mov (.t 1))⟩, ⟨(some 4), none, .q (.mov (.t 19))⟩])
  .ret))))))
theorem K61 : Try.f61.body.bind (comp Try.prog) = some A61 ∧ Try.f61.ntmps = 20 ∧ Try.f61.results.toList.mapM (resB Try.prog) = some [.mov (.t 4)] := ⟨by kernel_rfl, by kernel_rfl, by kernel_rfl⟩
theorem R61 (x : Env) (hx : Env.ty.ok x) : Sz Try.prog 61 (.agg (Env.ty.cs x)) (Env.ty.wt x) := by
  intro l h0 h1
  obtain ⟨o0, o1, _⟩ := hx
  have o0 : x.name.size ≤ 140737488351232 := o0
  have w0 : IntKind.i64.wrap (l - x.name.size) = l - x.name.size := wrap_i64 (by omega) (by omega)
  by_cases n0 : l - (x.name.size : Int) < 0
  · refine ⟨-1, .inl (by decide), ?_⟩
    refine Ret.run Try.func61 K61 (by simp) rfl rfl 500 ?_
    simp [A61, iniρ, Env.cse, w0, n0]
    try omega
  have p0 : 0 ≤ (l - (x.name.size : Int)) := by omega
  have o1 : x.val.size ≤ 140737488351232 := o1
  have w1 : IntKind.i64.wrap ((l - (x.name.size : Int)) - x.val.size) = (l - (x.name.size : Int)) - x.val.size := wrap_i64 (by omega) (by omega)
  by_cases n1 : (l - (x.name.size : Int)) - (x.val.size : Int) < 0
  · refine ⟨-1, .inl (by decide), ?_⟩
    refine Ret.run Try.func61 K61 (by simp) rfl rfl 500 ?_
    simp [A61, iniρ, Env.cse, w0, n0, w1, n1]
    try omega
  have p1 : 0 ≤ ((l - (x.name.size : Int)) - (x.val.size : Int)) := by omega
  refine ⟨((l - (x.name.size : Int)) - (x.val.size : Int)), .inr ?_, ?_⟩
  · rw [Env.wte]; omega
  refine Ret.run Try.func61 K61 (by simp) rfl rfl 500 ?_
  simp [A61, iniρ, Env.cse, w0, n0, w1, n1]
theorem R32 (xs : List Env) (hx : Env.ty.slice.ok xs) : Sz Try.prog 32 (.ro (rows Env.ty.cs xs) xs.length) (Env.ty.slice.wt xs) := Sz.slice Env.ty (agg := true) Try.func32 ⟨by kernel_rfl, by kernel_rfl, by kernel_rfl⟩ (by kernel_rfl) (by simp) xs (fun x h => R61 x (hx.2 x h)) (Env.ty.lenb (by decide) hx)
/- 68: loop.example/g00464/laws.toEnv -/
def A68 : AC := (.seq (.ops [⟨(some 1), none, .w (.box (.t 0))⟩, ⟨(some 2), none, .w (.alloc [(.sc (.string ⟨#[]⟩)), (.sc (.string ⟨#[]⟩))])⟩])
  (.seq (.ops [⟨(some 3), none, .w (.alloc [(.sc (.string ⟨#[]⟩)), (.sc (.string ⟨#[]⟩))])⟩])
  (.seq (.ops [⟨(some 4), none, .q (.fadr 0 (.t 1))⟩, ⟨(some 5), none, .q (.load false 1 (.t 4))⟩, ⟨(some 6), none, .q (.fadr 0 (.t 3))⟩, ⟨none, none, .w (.store 1 (.t 6) (.t 5))⟩])
  (.seq (.ops [⟨(some 7), none, .q (.fadr 1 (.t 1))⟩, ⟨(some 8), none, .q (.load false 1 (.t 7))⟩, ⟨(some 9), none, .q (.fadr 1 (.t 3))⟩, ⟨none, none, .w (.store 1 (.t 9) (.t 8))⟩])
  (.seq (.ops [⟨(some 10), none, .q (.load true 2 (.t 3))⟩, ⟨none, none, .w (.store 2 (.t 2) (.t 10))⟩])
  .ret)))))
theorem K68 : Try.f68.body.bind (comp Try.prog) = some A68 ∧ Try.f68.ntmps = 11 ∧ Try.f68.results.toList.mapM (resB Try.prog) = some [.load true 2 (.t 2)] := ⟨by kernel_rfl, by kernel_rfl, by kernel_rfl⟩
theorem R68 (x : Env) (hx : Env.ty.ok x) : Ret Try.prog 68 [.agg (Env.ty.cs x)] (.agg (Env.ty.oc x)) [.un] := by
  obtain ⟨o0, o1, _⟩ := hx
  refine Ret.run Try.func68 K68 (by simp) rfl rfl 500 ?_
  simp [A68, iniρ, Env.cse, over, ex1, Env.oce]
theorem R43 (xs : List Env) (hx : Env.ty.slice.ok xs) : Ret Try.prog 43 [.ro (rows Env.ty.cs xs) xs.length] (.own (rows Env.ty.oc xs) xs.length 2) [.un] := Ret.toS Env.ty Try.func43 ⟨by kernel_rfl, by kernel_rfl, by kernel_rfl⟩ (by kernel_rfl) (fun x h => R68 x h) (by decide) (by decide) xs hx
/- 78: loop.example/g00464/laws.eqEnv -/
def A78 : AC := (.seq (.ops [⟨(some 2), none, .w (.box (.t 0))⟩, ⟨(some 3), none, .w (.box (.t 1))⟩, ⟨(some 4), none, .q (.mov (.c (.sc (.bool false))))⟩])
  (.seq (.seq (.ops [⟨(some 5), none, .q (.fadr 0 (.t 2))⟩, ⟨(some 6), none, .q (.load false 1 (.t 5))⟩, ⟨(some 7), none, .q (.fadr 0 (.t 3))⟩, ⟨(some 8), none, .q (.load false 1 (.t 7))⟩, ⟨(some 9), none, .q (.bin .neq (.t 6) (.t 8))⟩])
  (.cond (.t 9) (.seq (.ops [⟨(some 4), none, .q (.mov (.c (.sc (.bool false))))⟩])
  .ret)
  .skip))
  (.seq (.seq (.ops [⟨(some 10), none, .q (.fadr 1 (.t 2))⟩, ⟨(some 11), none, .q (.load false 1 (.t 10))⟩, ⟨(some 12), none, .q (.fadr 1 (.t 3))⟩, ⟨(some 13), none, .q (.load false 1 (.t 12))⟩, ⟨(some 14), none, .q (.bin .neq (.t 11) (.t 13))⟩])
  (.cond (.t 14) (.seq (.ops [⟨(some 4), none, .q (.mov (.c (.sc (.bool false))))⟩])
  .ret)
  .skip))
  (.seq (.ops [⟨(some 4), none, .q (.mov (.c (.sc (.bool true))))⟩])
  .ret))))
theorem K78 : Try.f78.body.bind (comp Try.prog) = some A78 ∧ Try.f78.ntmps = 15 ∧ Try.f78.results.toList.mapM (resB Try.prog) = some [.mov (.t 4)] := ⟨by kernel_rfl, by kernel_rfl, by kernel_rfl⟩
theorem R78 (x : Env) (hx : Env.ty.ok x) : Ret Try.prog 78 [.agg (Env.ty.cs x), .agg (Env.ty.cs x)] (.sc (.bool true)) [.un, .un] := by
  obtain ⟨o0, o1, _⟩ := hx
  refine Ret.run Try.func78 K78 (by simp) rfl rfl 500 ?_
  simp [A78, iniρ, Env.cse]
theorem R53 (xs : List Env) (hx : Env.ty.slice.ok xs) : Ret Try.prog 53 [.ro (rows Env.ty.cs xs) xs.length, .ro (rows Env.ty.cs xs) xs.length] (.sc (.bool true)) [.un, .un] := Ret.eqS mixed Env.ty (agg := true) Try.func53 ⟨by kernel_rfl, by kernel_rfl, by kernel_rfl⟩ (by kernel_rfl) (by simp) xs (fun x h => R78 x (hx.2 x h)) (Env.ty.lenb (by decide) hx)
/- 59: loop.example/g00464/laws.szRule -/
def A59 : AC := (.seq (.ops [⟨(some 2), none, .w (.box (.t 0))⟩, ⟨(some 4), none, .q (.mov (.c (.sc (.int .i64 0))))⟩])
  (.seq (.ops [⟨(some 5), none, .q (.mov (.t 1))⟩, ⟨(some 6), none, .q (.fadr 0 (.t 2))⟩, ⟨(some 7), none, .q (.load false 1 (.t 6))⟩, ⟨(some 8), none, .q (.slen (.t 7))⟩, ⟨(some 9), none, .q (.bin .sub (.t 5) (.t 8))⟩, ⟨(some 1), none, .q (.mov (.t 9))⟩])
  (.seq (.seq (.ops [⟨(some 10), none, .q (.mov (.t 1))⟩, ⟨(some 11), none, .q (.bin .lss (.t 10) (.c (.sc (.int .i64 0))))⟩])
  (.cond (.t 11) (.seq (.ops [⟨(some 4), none, .q (.mov (.c (.sc (.int .i64 (-1)))))⟩])
  .ret)
  .skip))
  (.seq (.ops [⟨(some 12), none, .q (.fadr 1 (.t 2))⟩, ⟨(some 13), none, .q (.load false 1 (.t 12))⟩, ⟨(some 14), none, .q (.mov (.t 1))⟩, ⟨(some 15), none, .c (.c (.clo 13 [])) [(.t 13), (.t 14)]⟩, ⟨(some 1), none, .q (.mov (.t 15))⟩])
  (.seq (.seq (.ops [⟨(some 16), none, .q (.mov (.t 1))⟩, ⟨(some 17), none, .q (.bin .lss (.t 16) (.c (.sc (.int .i64 0))))⟩])
  (.cond (.t 17) (.seq (.ops [⟨(some 4), none, .q (.mov (.c (.sc (.int .i64 (-1)))))⟩])
  .ret)
  .skip))
  (.seq (.ops [⟨(some 18), none, .q (.fadr 2 (.t 2))⟩, ⟨(some 19), none, .q (.load false 1 (.t 18))⟩, ⟨(some 20), none, .q (.mov (.t 1))⟩, ⟨(some 21), none, .c (.c (.clo 13 [])) [(.t 19), (.t 20)]⟩, ⟨(some 1), none, .q (.mov (.t 21))⟩])
  (.seq (.seq (.ops [⟨(some 22), none, .q (.mov (.t 1))⟩, ⟨(some 23), none, .q (.bin .lss (.t 22) (.c (.sc (.int .i64 0))))⟩])
  (.cond (.t 23) (.seq (.ops [⟨(some 4), none, .q (.mov (.c (.sc (.int .i64 (-1)))))⟩])
  .ret)
  .skip))
  (.seq (.ops [⟨(some 24), none, .q (.fadr 3 (.t 2))⟩, ⟨(some 25), none, .q (.load false 1 (.t 24))⟩, ⟨(some 26), none, .q (.mov (.t 1))⟩, ⟨(some 27), none, .c (.c (.clo 13 [])) [(.t 25), (.t 26)]⟩, ⟨(some 1), none, .q (.mov (.t 27))⟩])
  (.seq (.seq (.ops [⟨(some 28), none, .q (.mov (.t 1))⟩, ⟨(some 29), none, .q (.bin .lss (.t 28) (.c (.sc (.int .i64 0))))⟩])
  (.cond (.t 29) (.seq (.ops [⟨(some 4), none, .q (.mov (.c (.sc (.int .i64 (-1)))))⟩])
  .ret)
  .skip))
  (.seq (.ops [⟨(some 30), none, .q (.mov (.t 1))⟩, ⟨(some 4), none, .q (.mov (.t 30))⟩])
  .ret))))))))))
theorem K59 : Try.f59.body.bind (comp Try.prog) = some A59 ∧ Try.f59.ntmps = 31 ∧ Try.f59.results.toList.mapM (resB Try.prog) = some [.mov (.t 4)] := ⟨by kernel_rfl, by kernel_rfl, by kernel_rfl⟩
theorem R59 (x : Rule) (hx : Rule.ty.ok x) : Sz Try.prog 59 (.agg (Rule.ty.cs x)) (Rule.ty.wt x) := by
  intro l h0 h1
  obtain ⟨o0, o1, o2, o3, o4, _⟩ := hx
  have o0 : x.task.size ≤ 140737488351232 := o0
  have w0 : IntKind.i64.wrap (l - x.task.size) = l - x.task.size := wrap_i64 (by omega) (by omega)
  by_cases n0 : l - (x.task.size : Int) < 0
  · refine ⟨-1, .inl (by decide), ?_⟩
    refine Ret.run Try.func59 K59 (by simp) rfl rfl 500 ?_
    simp [A59, iniρ, Rule.cse, w0, n0]
    try omega
  have p0 : 0 ≤ (l - (x.task.size : Int)) := by omega
  obtain ⟨m1, e1, q1⟩ := R13 x.on o1 (l - (x.task.size : Int)) (by omega) (by omega)
  by_cases n1 : m1 < 0
  · refine ⟨-1, .inl (by decide), ?_⟩
    refine Ret.run Try.func59 K59 (by simp) rfl rfl 500 ?_
    simp [A59, iniρ, Rule.cse, w0, n0, n1]
    refine callK.ro 0 rfl (by kernel_rfl) (by simp [roc_sc, roc_ro, roc_agg, Rule.cse]) q1 rfl rfl rfl ?_
    simp [w0, n0, n1, Rule.cse]
  have e1 : m1 = (l - (x.task.size : Int)) - ((x.on.length + wtL Ty.str.wt x.on : Nat) : Int) := e1.resolve_left n1
  obtain ⟨m2, e2, q2⟩ := R13 x.ins o2 m1 (by omega) (by omega)
  by_cases n2 : m2 < 0
  · refine ⟨-1, .inl (by decide), ?_⟩
    refine Ret.run Try.func59 K59 (by simp) rfl rfl 500 ?_
    simp [A59, iniρ, Rule.cse, w0, n0, n1, n2]
    refine callK.ro 0 rfl (by kernel_rfl) (by simp [roc_sc, roc_ro, roc_agg, Rule.cse]) q1 rfl rfl rfl ?_
    simp [w0, n0, n1, n2, Rule.cse]
    refine callK.ro 0 rfl (by kernel_rfl) (by simp [roc_sc, roc_ro, roc_agg, Rule.cse]) q2 rfl rfl rfl ?_
    simp [w0, n0, n1, n2, Rule.cse]
  have e2 : m2 = m1 - ((x.ins.length + wtL Ty.str.wt x.ins : Nat) : Int) := e2.resolve_left n2
  obtain ⟨m3, e3, q3⟩ := R13 x.envs o3 m2 (by omega) (by omega)
  by_cases n3 : m3 < 0
  · refine ⟨-1, .inl (by decide), ?_⟩
    refine Ret.run Try.func59 K59 (by simp) rfl rfl 500 ?_
    simp [A59, iniρ, Rule.cse, w0, n0, n1, n2, n3]
    refine callK.ro 0 rfl (by kernel_rfl) (by simp [roc_sc, roc_ro, roc_agg, Rule.cse]) q1 rfl rfl rfl ?_
    simp [w0, n0, n1, n2, n3, Rule.cse]
    refine callK.ro 0 rfl (by kernel_rfl) (by simp [roc_sc, roc_ro, roc_agg, Rule.cse]) q2 rfl rfl rfl ?_
    simp [w0, n0, n1, n2, n3, Rule.cse]
    refine callK.ro 0 rfl (by kernel_rfl) (by simp [roc_sc, roc_ro, roc_agg, Rule.cse]) q3 rfl rfl rfl ?_
    simp [w0, n0, n1, n2, n3, Rule.cse]
  have e3 : m3 = m2 - ((x.envs.length + wtL Ty.str.wt x.envs : Nat) : Int) := e3.resolve_left n3
  refine ⟨m3, .inr ?_, ?_⟩
  · rw [Rule.wte]; omega
  refine Ret.run Try.func59 K59 (by simp) rfl rfl 500 ?_
  simp [A59, iniρ, Rule.cse, w0, n0, n1, n2, n3]
  refine callK.ro 0 rfl (by kernel_rfl) (by simp [roc_sc, roc_ro, roc_agg, Rule.cse]) q1 rfl rfl rfl ?_
  simp [w0, n0, n1, n2, n3, Rule.cse]
  refine callK.ro 0 rfl (by kernel_rfl) (by simp [roc_sc, roc_ro, roc_agg, Rule.cse]) q2 rfl rfl rfl ?_
  simp [w0, n0, n1, n2, n3, Rule.cse]
  refine callK.ro 0 rfl (by kernel_rfl) (by simp [roc_sc, roc_ro, roc_agg, Rule.cse]) q3 rfl rfl rfl ?_
  simp [w0, n0, n1, n2, n3, Rule.cse]
theorem R30 (xs : List Rule) (hx : Rule.ty.slice.ok xs) : Sz Try.prog 30 (.ro (rows Rule.ty.cs xs) xs.length) (Rule.ty.slice.wt xs) := Sz.slice Rule.ty (agg := true) Try.func30 ⟨by kernel_rfl, by kernel_rfl, by kernel_rfl⟩ (by kernel_rfl) (by simp) xs (fun x h => R59 x (hx.2 x h)) (Rule.ty.lenb (by decide) hx)
/- 66: loop.example/g00464/laws.toRule -/
def A66 : AC := (.seq (.ops [⟨(some 1), none, .w (.box (.t 0))⟩, ⟨(some 2), none, .w (.alloc [(.sc (.string ⟨#[]⟩)), .em, .em, .em, (.sc (.bool false))])⟩])
  (.seq (.ops [⟨(some 3), none, .w (.alloc [(.sc (.string ⟨#[]⟩)), .em, .em, .em, (.sc (.bool false))])⟩])
  (.seq (.ops [⟨(some 4), none, .q (.fadr 0 (.t 1))⟩, ⟨(some 5), none, .q (.load false 1 (.t 4))⟩, ⟨(some 6), none, .q (.fadr 0 (.t 3))⟩, ⟨none, none, .w (.store 1 (.t 6) (.t 5))⟩])
  (.seq (.ops [⟨(some 7), none, .q (.fadr 1 (.t 1))⟩, ⟨(some 8), none, .q (.load false 1 (.t 7))⟩, ⟨(some 9), none, .c (.c (.clo 20 [])) [(.t 8)]⟩, ⟨(some 10), none, .q (.fadr 1 (.t 3))⟩, ⟨none, none, .w (.store 1 (.t 10) (.t 9))⟩])
  (.seq (.ops [⟨(some 11), none, .q (.fadr 2 (.t 1))⟩, ⟨(some 12), none, .q (.load false 1 (.t 11))⟩, ⟨(some 13), none, .c (.c (.clo 20 [])) [(.t 12)]⟩, ⟨(some 14), none, .q (.fadr 2 (.t 3))⟩, ⟨none, none, .w (.store 1 (.t 14) (.t 13))⟩])
  (.seq (.ops [⟨(some 15), none, .q (.fadr 3 (.t 1))⟩, ⟨(some 16), none, .q (.load false 1 (.t 15))⟩, ⟨(some 17), none, .c (.c (.clo 20 [])) [(.t 16)]⟩, ⟨(some 18), none, .q (.fadr 3 (.t 3))⟩, ⟨none, none, .w (.store 1 (.t 18) (.t 17))⟩])
  (.seq (.ops [⟨(some 19), none, .q (.fadr 4 (.t 1))⟩, ⟨(some 20), none, .q (.load false 1 (.t 19))⟩, ⟨(some 21), none, .q (.fadr 4 (.t 3))⟩, ⟨none, none, .w (.store 1 (.t 21) (.t 20))⟩])
  (.seq (.ops [⟨(some 22), none, .q (.load true 5 (.t 3))⟩, ⟨none, none, .w (.store 5 (.t 2) (.t 22))⟩])
  .ret))))))))
theorem K66 : Try.f66.body.bind (comp Try.prog) = some A66 ∧ Try.f66.ntmps = 23 ∧ Try.f66.results.toList.mapM (resB Try.prog) = some [.load true 5 (.t 2)] := ⟨by kernel_rfl, by kernel_rfl, by kernel_rfl⟩
theorem R66 (x : Rule) (hx : Rule.ty.ok x) : Ret Try.prog 66 [.agg (Rule.ty.cs x)] (.agg (Rule.ty.oc x)) [.un] := by
  obtain ⟨o0, o1, o2, o3, o4, _⟩ := hx
  refine Ret.run Try.func66 K66 (by simp) rfl rfl 500 ?_
  simp [A66, iniρ, Rule.cse, over, ex1, Rule.oce, str_ocl, Ty.str.frL]
  refine callK.own 501 rfl (by kernel_rfl) (by simp [roc_sc, roc_ro, roc_agg, Rule.cse]) (R20 x.on o1) (Ty.str.flo x.on) (by simp) rfl ?_
  simp [over, ex1, Rule.oce, str_ocl, Ty.str.frL]
  refine callK.own 502 rfl (by kernel_rfl) (by simp [roc_sc, roc_ro, roc_agg, Rule.cse]) (R20 x.ins o2) (Ty.str.flo x.ins) (by simp) rfl ?_
  simp [over, ex1, Rule.oce, str_ocl, Ty.str.frL]
  refine callK.own 503 rfl (by kernel_rfl) (by simp [roc_sc, roc_ro, roc_agg, Rule.cse]) (R20 x.envs o3) (Ty.str.flo x.envs) (by simp) rfl ?_
  simp [over, ex1, Rule.oce, str_ocl, Ty.str.frL]
theorem R41 (xs : List Rule) (hx : Rule.ty.slice.ok xs) : Ret Try.prog 41 [.ro (rows Rule.ty.cs xs) xs.length] (.own (rows Rule.ty.oc xs) xs.length 5) [.un] := Ret.toS Rule.ty Try.func41 ⟨by kernel_rfl, by kernel_rfl, by kernel_rfl⟩ (by kernel_rfl) (fun x h => R66 x h) (by decide) (by decide) xs hx
/- 76: loop.example/g00464/laws.eqRule -/
def A76 : AC := (.seq (.ops [⟨(some 2), none, .w (.box (.t 0))⟩, ⟨(some 3), none, .w (.box (.t 1))⟩, ⟨(some 4), none, .q (.mov (.c (.sc (.bool false))))⟩])
  (.seq (.seq (.ops [⟨(some 5), none, .q (.fadr 0 (.t 2))⟩, ⟨(some 6), none, .q (.load false 1 (.t 5))⟩, ⟨(some 7), none, .q (.fadr 0 (.t 3))⟩, ⟨(some 8), none, .q (.load false 1 (.t 7))⟩, ⟨(some 9), none, .q (.bin .neq (.t 6) (.t 8))⟩])
  (.cond (.t 9) (.seq (.ops [⟨(some 4), none, .q (.mov (.c (.sc (.bool false))))⟩])
  .ret)
  .skip))
  (.seq (.seq (.ops [⟨(some 10), none, .q (.fadr 1 (.t 2))⟩, ⟨(some 11), none, .q (.load false 1 (.t 10))⟩, ⟨(some 12), none, .q (.fadr 1 (.t 3))⟩, ⟨(some 13), none, .q (.load false 1 (.t 12))⟩, ⟨(some 14), none, .c (.c (.clo 27 [])) [(.t 11), (.t 13)]⟩, ⟨(some 15), none, .q (.not (.t 14))⟩])
  (.cond (.t 15) (.seq (.ops [⟨(some 4), none, .q (.mov (.c (.sc (.bool false))))⟩])
  .ret)
  .skip))
  (.seq (.seq (.ops [⟨(some 16), none, .q (.fadr 2 (.t 2))⟩, ⟨(some 17), none, .q (.load false 1 (.t 16))⟩, ⟨(some 18), none, .q (.fadr 2 (.t 3))⟩, ⟨(some 19), none, .q (.load false 1 (.t 18))⟩, ⟨(some 20), none, .c (.c (.clo 27 [])) [(.t 17), (.t 19)]⟩, ⟨(some 21), none, .q (.not (.t 20))⟩])
  (.cond (.t 21) (.seq (.ops [⟨(some 4), none, .q (.mov (.c (.sc (.bool false))))⟩])
  .ret)
  .skip))
  (.seq (.seq (.ops [⟨(some 22), none, .q (.fadr 3 (.t 2))⟩, ⟨(some 23), none, .q (.load false 1 (.t 22))⟩, ⟨(some 24), none, .q (.fadr 3 (.t 3))⟩, ⟨(some 25), none, .q (.load false 1 (.t 24))⟩, ⟨(some 26), none, .c (.c (.clo 27 [])) [(.t 23), (.t 25)]⟩, ⟨(some 27), none, .q (.not (.t 26))⟩])
  (.cond (.t 27) (.seq (.ops [⟨(some 4), none, .q (.mov (.c (.sc (.bool false))))⟩])
  .ret)
  .skip))
  (.seq (.seq (.ops [⟨(some 28), none, .q (.fadr 4 (.t 2))⟩, ⟨(some 29), none, .q (.load false 1 (.t 28))⟩, ⟨(some 30), none, .q (.fadr 4 (.t 3))⟩, ⟨(some 31), none, .q (.load false 1 (.t 30))⟩, ⟨(some 32), none, .q (.beq true (.t 29) (.t 31))⟩])
  (.cond (.t 32) (.seq (.ops [⟨(some 4), none, .q (.mov (.c (.sc (.bool false))))⟩])
  .ret)
  .skip))
  (.seq (.ops [⟨(some 4), none, .q (.mov (.c (.sc (.bool true))))⟩])
  .ret)))))))
theorem K76 : Try.f76.body.bind (comp Try.prog) = some A76 ∧ Try.f76.ntmps = 33 ∧ Try.f76.results.toList.mapM (resB Try.prog) = some [.mov (.t 4)] := ⟨by kernel_rfl, by kernel_rfl, by kernel_rfl⟩
theorem R76 (x : Rule) (hx : Rule.ty.ok x) : Ret Try.prog 76 [.agg (Rule.ty.cs x), .agg (Rule.ty.cs x)] (.sc (.bool true)) [.un, .un] := by
  obtain ⟨o0, o1, o2, o3, o4, _⟩ := hx
  refine Ret.run Try.func76 K76 (by simp) rfl rfl 500 ?_
  simp [A76, iniρ, Rule.cse]
  refine callK.ro 0 rfl (by kernel_rfl) (by simp [roc_sc, roc_ro, roc_agg, Rule.cse]) (R27 x.on o1) rfl rfl rfl ?_
  simp [Rule.cse]
  refine callK.ro 0 rfl (by kernel_rfl) (by simp [roc_sc, roc_ro, roc_agg, Rule.cse]) (R27 x.ins o2) rfl rfl rfl ?_
  simp [Rule.cse]
  refine callK.ro 0 rfl (by kernel_rfl) (by simp [roc_sc, roc_ro, roc_agg, Rule.cse]) (R27 x.envs o3) rfl rfl rfl ?_
  simp [Rule.cse]
theorem R51 (xs : List Rule) (hx : Rule.ty.slice.ok xs) : Ret Try.prog 51 [.ro (rows Rule.ty.cs xs) xs.length, .ro (rows Rule.ty.cs xs) xs.length] (.sc (.bool true)) [.un, .un] := Ret.eqS mixed Rule.ty (agg := true) Try.func51 ⟨by kernel_rfl, by kernel_rfl, by kernel_rfl⟩ (by kernel_rfl) (by simp) xs (fun x h => R76 x (hx.2 x h)) (Rule.ty.lenb (by decide) hx)
/- 9: loop.example/g00464/laws.szWorld -/
def A9 : AC := (.seq (.ops [⟨(some 2), none, .w (.box (.t 0))⟩, ⟨(some 4), none, .q (.mov (.c (.sc (.int .i64 0))))⟩])
  (.seq (.ops [⟨(some 5), none, .q (.fadr 0 (.t 2))⟩, ⟨(some 6), none, .q (.load false 1 (.t 5))⟩, ⟨(some 7), none, .q (.mov (.t 1))⟩, ⟨(some 8), none, .c (.c (.clo 29 [])) [(.t 6), (.t 7)]⟩, ⟨(some 1), none, .q (.mov (.t 8))⟩])
  (.seq (.seq (.ops [⟨(some 9), none, .q (.mov (.t 1))⟩, ⟨(some 10), none, .q (.bin .lss (.t 9) (.c (.sc (.int .i64 0))))⟩])
  (.cond (.t 10) (.seq (.ops [⟨(some 4), none, .q (.mov (.c (.sc (.int .i64 (-1)))))⟩])
  .ret)
  .skip))
  (.seq (.ops [⟨(some 11), none, .q (.fadr 1 (.t 2))⟩, ⟨(some 12), none, .q (.load false 1 (.t 11))⟩, ⟨(some 13), none, .q (.mov (.t 1))⟩, ⟨(some 14), none, .c (.c (.clo 30 [])) [(.t 12), (.t 13)]⟩, ⟨(some 1), none, .q (.mov (.t 14))⟩])
  (.seq (.seq (.ops [⟨(some 15), none, .q (.mov (.t 1))⟩, ⟨(some 16), none, .q (.bin .lss (.t 15) (.c (.sc (.int .i64 0))))⟩])
  (.cond (.t 16) (.seq (.ops [⟨(some 4), none, .q (.mov (.c (.sc (.int .i64 (-1)))))⟩])
  .ret)
  .skip))
  (.seq (.ops [⟨(some 17), none, .q (.fadr 2 (.t 2))⟩, ⟨(some 18), none, .q (.load false 1 (.t 17))⟩, ⟨(some 19), none, .q (.mov (.t 1))⟩, ⟨(some 20), none, .c (.c (.clo 31 [])) [(.t 18), (.t 19)]⟩, ⟨(some 1), none, .q (.mov (.t 20))⟩])
  (.seq (.seq (.ops [⟨(some 21), none, .q (.mov (.t 1))⟩, ⟨(some 22), none, .q (.bin .lss (.t 21) (.c (.sc (.int .i64 0))))⟩])
  (.cond (.t 22) (.seq (.ops [⟨(some 4), none, .q (.mov (.c (.sc (.int .i64 (-1)))))⟩])
  .ret)
  .skip))
  (.seq (.ops [⟨(some 23), none, .q (.fadr 3 (.t 2))⟩, ⟨(some 24), none, .q (.load false 1 (.t 23))⟩, ⟨(some 25), none, .q (.mov (.t 1))⟩, ⟨(some 26), none, .c (.c (.clo 32 [])) [(.t 24), (.t 25)]⟩, ⟨(some 1), none, .q (.mov (.t 26))⟩])
  (.seq (.seq (.ops [⟨(some 27), none, .q (.mov (.t 1))⟩, ⟨(some 28), none, .q (.bin .lss (.t 27) (.c (.sc (.int .i64 0))))⟩])
  (.cond (.t 28) (.seq (.ops [⟨(some 4), none, .q (.mov (.c (.sc (.int .i64 (-1)))))⟩])
  .ret)
  .skip))
  (.seq (.ops [⟨(some 29), none, .q (.mov (.t 1))⟩, ⟨(some 4), none, .q (.mov (.t 29))⟩])
  .ret))))))))))
theorem K9 : Try.f9.body.bind (comp Try.prog) = some A9 ∧ Try.f9.ntmps = 30 ∧ Try.f9.results.toList.mapM (resB Try.prog) = some [.mov (.t 4)] := ⟨by kernel_rfl, by kernel_rfl, by kernel_rfl⟩
theorem R9 (x : World) (hx : World.ty.ok x) : Sz Try.prog 9 (.agg (World.ty.cs x)) (World.ty.wt x) := by
  intro l h0 h1
  obtain ⟨o0, o1, o2, o3, _⟩ := hx
  obtain ⟨m0, e0, q0⟩ := R29 x.packs o0 l (by omega) (by omega)
  by_cases n0 : m0 < 0
  · refine ⟨-1, .inl (by decide), ?_⟩
    refine Ret.run Try.func9 K9 (by simp) rfl rfl 500 ?_
    simp [A9, iniρ, World.cse, n0]
    refine callK.ro 0 rfl (by kernel_rfl) (by simp [roc_sc, roc_ro, roc_agg, World.cse]) q0 rfl rfl rfl ?_
    simp [n0, World.cse]
  have e0 : m0 = l - ((x.packs.length + wtL Pack.ty.wt x.packs : Nat) : Int) := e0.resolve_left n0
  obtain ⟨m1, e1, q1⟩ := R30 x.rules o1 m0 (by omega) (by omega)
  by_cases n1 : m1 < 0
  · refine ⟨-1, .inl (by decide), ?_⟩
    refine Ret.run Try.func9 K9 (by simp) rfl rfl 500 ?_
    simp [A9, iniρ, World.cse, n0, n1]
    refine callK.ro 0 rfl (by kernel_rfl) (by simp [roc_sc, roc_ro, roc_agg, World.cse]) q0 rfl rfl rfl ?_
    simp [n0, n1, World.cse]
    refine callK.ro 0 rfl (by kernel_rfl) (by simp [roc_sc, roc_ro, roc_agg, World.cse]) q1 rfl rfl rfl ?_
    simp [n0, n1, World.cse]
  have e1 : m1 = m0 - ((x.rules.length + wtL Rule.ty.wt x.rules : Nat) : Int) := e1.resolve_left n1
  obtain ⟨m2, e2, q2⟩ := R31 x.files o2 m1 (by omega) (by omega)
  by_cases n2 : m2 < 0
  · refine ⟨-1, .inl (by decide), ?_⟩
    refine Ret.run Try.func9 K9 (by simp) rfl rfl 500 ?_
    simp [A9, iniρ, World.cse, n0, n1, n2]
    refine callK.ro 0 rfl (by kernel_rfl) (by simp [roc_sc, roc_ro, roc_agg, World.cse]) q0 rfl rfl rfl ?_
    simp [n0, n1, n2, World.cse]
    refine callK.ro 0 rfl (by kernel_rfl) (by simp [roc_sc, roc_ro, roc_agg, World.cse]) q1 rfl rfl rfl ?_
    simp [n0, n1, n2, World.cse]
    refine callK.ro 0 rfl (by kernel_rfl) (by simp [roc_sc, roc_ro, roc_agg, World.cse]) q2 rfl rfl rfl ?_
    simp [n0, n1, n2, World.cse]
  have e2 : m2 = m1 - ((x.files.length + wtL File.ty.wt x.files : Nat) : Int) := e2.resolve_left n2
  obtain ⟨m3, e3, q3⟩ := R32 x.envs o3 m2 (by omega) (by omega)
  by_cases n3 : m3 < 0
  · refine ⟨-1, .inl (by decide), ?_⟩
    refine Ret.run Try.func9 K9 (by simp) rfl rfl 500 ?_
    simp [A9, iniρ, World.cse, n0, n1, n2, n3]
    refine callK.ro 0 rfl (by kernel_rfl) (by simp [roc_sc, roc_ro, roc_agg, World.cse]) q0 rfl rfl rfl ?_
    simp [n0, n1, n2, n3, World.cse]
    refine callK.ro 0 rfl (by kernel_rfl) (by simp [roc_sc, roc_ro, roc_agg, World.cse]) q1 rfl rfl rfl ?_
    simp [n0, n1, n2, n3, World.cse]
    refine callK.ro 0 rfl (by kernel_rfl) (by simp [roc_sc, roc_ro, roc_agg, World.cse]) q2 rfl rfl rfl ?_
    simp [n0, n1, n2, n3, World.cse]
    refine callK.ro 0 rfl (by kernel_rfl) (by simp [roc_sc, roc_ro, roc_agg, World.cse]) q3 rfl rfl rfl ?_
    simp [n0, n1, n2, n3, World.cse]
  have e3 : m3 = m2 - ((x.envs.length + wtL Env.ty.wt x.envs : Nat) : Int) := e3.resolve_left n3
  refine ⟨m3, .inr ?_, ?_⟩
  · rw [World.wte]; omega
  refine Ret.run Try.func9 K9 (by simp) rfl rfl 500 ?_
  simp [A9, iniρ, World.cse, n0, n1, n2, n3]
  refine callK.ro 0 rfl (by kernel_rfl) (by simp [roc_sc, roc_ro, roc_agg, World.cse]) q0 rfl rfl rfl ?_
  simp [n0, n1, n2, n3, World.cse]
  refine callK.ro 0 rfl (by kernel_rfl) (by simp [roc_sc, roc_ro, roc_agg, World.cse]) q1 rfl rfl rfl ?_
  simp [n0, n1, n2, n3, World.cse]
  refine callK.ro 0 rfl (by kernel_rfl) (by simp [roc_sc, roc_ro, roc_agg, World.cse]) q2 rfl rfl rfl ?_
  simp [n0, n1, n2, n3, World.cse]
  refine callK.ro 0 rfl (by kernel_rfl) (by simp [roc_sc, roc_ro, roc_agg, World.cse]) q3 rfl rfl rfl ?_
  simp [n0, n1, n2, n3, World.cse]
/- 16: loop.example/g00464/laws.toWorld -/
def A16 : AC := (.seq (.ops [⟨(some 1), none, .w (.box (.t 0))⟩, ⟨(some 2), none, .w (.alloc [.em, .em, .em, .em])⟩])
  (.seq (.ops [⟨(some 3), none, .w (.alloc [.em, .em, .em, .em])⟩])
  (.seq (.ops [⟨(some 4), none, .q (.fadr 0 (.t 1))⟩, ⟨(some 5), none, .q (.load false 1 (.t 4))⟩, ⟨(some 6), none, .c (.c (.clo 40 [])) [(.t 5)]⟩, ⟨(some 7), none, .q (.fadr 0 (.t 3))⟩, ⟨none, none, .w (.store 1 (.t 7) (.t 6))⟩])
  (.seq (.ops [⟨(some 8), none, .q (.fadr 1 (.t 1))⟩, ⟨(some 9), none, .q (.load false 1 (.t 8))⟩, ⟨(some 10), none, .c (.c (.clo 41 [])) [(.t 9)]⟩, ⟨(some 11), none, .q (.fadr 1 (.t 3))⟩, ⟨none, none, .w (.store 1 (.t 11) (.t 10))⟩])
  (.seq (.ops [⟨(some 12), none, .q (.fadr 2 (.t 1))⟩, ⟨(some 13), none, .q (.load false 1 (.t 12))⟩, ⟨(some 14), none, .c (.c (.clo 42 [])) [(.t 13)]⟩, ⟨(some 15), none, .q (.fadr 2 (.t 3))⟩, ⟨none, none, .w (.store 1 (.t 15) (.t 14))⟩])
  (.seq (.ops [⟨(some 16), none, .q (.fadr 3 (.t 1))⟩, ⟨(some 17), none, .q (.load false 1 (.t 16))⟩, ⟨(some 18), none, .c (.c (.clo 43 [])) [(.t 17)]⟩, ⟨(some 19), none, .q (.fadr 3 (.t 3))⟩, ⟨none, none, .w (.store 1 (.t 19) (.t 18))⟩])
  (.seq (.ops [⟨(some 20), none, .q (.load true 4 (.t 3))⟩, ⟨none, none, .w (.store 4 (.t 2) (.t 20))⟩])
  .ret)))))))
theorem K16 : Try.f16.body.bind (comp Try.prog) = some A16 ∧ Try.f16.ntmps = 21 ∧ Try.f16.results.toList.mapM (resB Try.prog) = some [.load true 4 (.t 2)] := ⟨by kernel_rfl, by kernel_rfl, by kernel_rfl⟩
theorem R16 (x : World) (hx : World.ty.ok x) : Ret Try.prog 16 [.agg (World.ty.cs x)] (.agg (World.ty.oc x)) [.un] := by
  obtain ⟨o0, o1, o2, o3, _⟩ := hx
  refine Ret.run Try.func16 K16 (by simp) rfl rfl 500 ?_
  simp [A16, iniρ, World.cse, over, ex1, World.oce, Pack.ocl, Pack.frL, Rule.ocl, Rule.frL, File.ocl, File.frL, Env.ocl, Env.frL]
  refine callK.own 500 rfl (by kernel_rfl) (by simp [roc_sc, roc_ro, roc_agg, World.cse]) (R40 x.packs o0) (Pack.ty.flo x.packs) (by simp) rfl ?_
  simp [over, ex1, World.oce, Pack.ocl, Pack.frL, Rule.ocl, Rule.frL, File.ocl, File.frL, Env.ocl, Env.frL]
  refine callK.own 501 rfl (by kernel_rfl) (by simp [roc_sc, roc_ro, roc_agg, World.cse]) (R41 x.rules o1) (Rule.ty.flo x.rules) (by simp) rfl ?_
  simp [over, ex1, World.oce, Pack.ocl, Pack.frL, Rule.ocl, Rule.frL, File.ocl, File.frL, Env.ocl, Env.frL]
  refine callK.own 502 rfl (by kernel_rfl) (by simp [roc_sc, roc_ro, roc_agg, World.cse]) (R42 x.files o2) (File.ty.flo x.files) (by simp) rfl ?_
  simp [over, ex1, World.oce, Pack.ocl, Pack.frL, Rule.ocl, Rule.frL, File.ocl, File.frL, Env.ocl, Env.frL]
  refine callK.own 503 rfl (by kernel_rfl) (by simp [roc_sc, roc_ro, roc_agg, World.cse]) (R43 x.envs o3) (Env.ty.flo x.envs) (by simp) rfl ?_
  simp [over, ex1, World.oce, Pack.ocl, Pack.frL, Rule.ocl, Rule.frL, File.ocl, File.frL, Env.ocl, Env.frL]
/- 23: loop.example/g00464/laws.eqWorld -/
def A23 : AC := (.seq (.ops [⟨(some 2), none, .w (.box (.t 0))⟩, ⟨(some 3), none, .w (.box (.t 1))⟩, ⟨(some 4), none, .q (.mov (.c (.sc (.bool false))))⟩])
  (.seq (.seq (.ops [⟨(some 5), none, .q (.fadr 0 (.t 2))⟩, ⟨(some 6), none, .q (.load false 1 (.t 5))⟩, ⟨(some 7), none, .q (.fadr 0 (.t 3))⟩, ⟨(some 8), none, .q (.load false 1 (.t 7))⟩, ⟨(some 9), none, .c (.c (.clo 50 [])) [(.t 6), (.t 8)]⟩, ⟨(some 10), none, .q (.not (.t 9))⟩])
  (.cond (.t 10) (.seq (.ops [⟨(some 4), none, .q (.mov (.c (.sc (.bool false))))⟩])
  .ret)
  .skip))
  (.seq (.seq (.ops [⟨(some 11), none, .q (.fadr 1 (.t 2))⟩, ⟨(some 12), none, .q (.load false 1 (.t 11))⟩, ⟨(some 13), none, .q (.fadr 1 (.t 3))⟩, ⟨(some 14), none, .q (.load false 1 (.t 13))⟩, ⟨(some 15), none, .c (.c (.clo 51 [])) [(.t 12), (.t 14)]⟩, ⟨(some 16), none, .q (.not (.t 15))⟩])
  (.cond (.t 16) (.seq (.ops [⟨(some 4), none, .q (.mov (.c (.sc (.bool false))))⟩])
  .ret)
  .skip))
  (.seq (.seq (.ops [⟨(some 17), none, .q (.fadr 2 (.t 2))⟩, ⟨(some 18), none, .q (.load false 1 (.t 17))⟩, ⟨(some 19), none, .q (.fadr 2 (.t 3))⟩, ⟨(some 20), none, .q (.load false 1 (.t 19))⟩, ⟨(some 21), none, .c (.c (.clo 52 [])) [(.t 18), (.t 20)]⟩, ⟨(some 22), none, .q (.not (.t 21))⟩])
  (.cond (.t 22) (.seq (.ops [⟨(some 4), none, .q (.mov (.c (.sc (.bool false))))⟩])
  .ret)
  .skip))
  (.seq (.seq (.ops [⟨(some 23), none, .q (.fadr 3 (.t 2))⟩, ⟨(some 24), none, .q (.load false 1 (.t 23))⟩, ⟨(some 25), none, .q (.fadr 3 (.t 3))⟩, ⟨(some 26), none, .q (.load false 1 (.t 25))⟩, ⟨(some 27), none, .c (.c (.clo 53 [])) [(.t 24), (.t 26)]⟩, ⟨(some 28), none, .q (.not (.t 27))⟩])
  (.cond (.t 28) (.seq (.ops [⟨(some 4), none, .q (.mov (.c (.sc (.bool false))))⟩])
  .ret)
  .skip))
  (.seq (.ops [⟨(some 4), none, .q (.mov (.c (.sc (.bool true))))⟩])
  .ret))))))
theorem K23 : Try.f23.body.bind (comp Try.prog) = some A23 ∧ Try.f23.ntmps = 29 ∧ Try.f23.results.toList.mapM (resB Try.prog) = some [.mov (.t 4)] := ⟨by kernel_rfl, by kernel_rfl, by kernel_rfl⟩
theorem R23 (x : World) (hx : World.ty.ok x) : Ret Try.prog 23 [.agg (World.ty.cs x), .agg (World.ty.cs x)] (.sc (.bool true)) [.un, .un] := by
  obtain ⟨o0, o1, o2, o3, _⟩ := hx
  refine Ret.run Try.func23 K23 (by simp) rfl rfl 500 ?_
  simp [A23, iniρ, World.cse]
  refine callK.ro 0 rfl (by kernel_rfl) (by simp [roc_sc, roc_ro, roc_agg, World.cse]) (R50 x.packs o0) rfl rfl rfl ?_
  simp [World.cse]
  refine callK.ro 0 rfl (by kernel_rfl) (by simp [roc_sc, roc_ro, roc_agg, World.cse]) (R51 x.rules o1) rfl rfl rfl ?_
  simp [World.cse]
  refine callK.ro 0 rfl (by kernel_rfl) (by simp [roc_sc, roc_ro, roc_agg, World.cse]) (R52 x.files o2) rfl rfl rfl ?_
  simp [World.cse]
  refine callK.ro 0 rfl (by kernel_rfl) (by simp [roc_sc, roc_ro, roc_agg, World.cse]) (R53 x.envs o3) rfl rfl rfl ?_
  simp [World.cse]
/- 10: loop.example/g00464/laws.szPlan -/
def A10 : AC := (.seq (.ops [⟨(some 2), none, .w (.box (.t 0))⟩, ⟨(some 4), none, .q (.mov (.c (.sc (.int .i64 0))))⟩])
  (.seq (.ops [⟨(some 5), none, .q (.fadr 0 (.t 2))⟩, ⟨(some 6), none, .q (.load false 1 (.t 5))⟩, ⟨(some 7), none, .q (.mov (.t 1))⟩, ⟨(some 8), none, .c (.c (.clo 13 [])) [(.t 6), (.t 7)]⟩, ⟨(some 1), none, .q (.mov (.t 8))⟩])
  (.seq (.seq (.ops [⟨(some 9), none, .q (.mov (.t 1))⟩, ⟨(some 10), none, .q (.bin .lss (.t 9) (.c (.sc (.int .i64 0))))⟩])
  (.cond (.t 10) (.seq (.ops [⟨(some 4), none, .q (.mov (.c (.sc (.int .i64 (-1)))))⟩])
  .ret)
  .skip))
  (.seq (.ops [⟨(some 11), none, .q (.fadr 1 (.t 2))⟩, ⟨(some 12), none, .q (.load false 1 (.t 11))⟩, ⟨(some 13), none, .q (.mov (.t 1))⟩, ⟨(some 14), none, .c (.c (.clo 33 [])) [(.t 12), (.t 13)]⟩, ⟨(some 1), none, .q (.mov (.t 14))⟩])
  (.seq (.seq (.ops [⟨(some 15), none, .q (.mov (.t 1))⟩, ⟨(some 16), none, .q (.bin .lss (.t 15) (.c (.sc (.int .i64 0))))⟩])
  (.cond (.t 16) (.seq (.ops [⟨(some 4), none, .q (.mov (.c (.sc (.int .i64 (-1)))))⟩])
  .ret)
  .skip))
  (.seq (.ops [⟨(some 17), none, .q (.mov (.t 1))⟩, ⟨(some 4), none, .q (.mov (.t 17))⟩])
  .ret))))))
theorem K10 : Try.f10.body.bind (comp Try.prog) = some A10 ∧ Try.f10.ntmps = 18 ∧ Try.f10.results.toList.mapM (resB Try.prog) = some [.mov (.t 4)] := ⟨by kernel_rfl, by kernel_rfl, by kernel_rfl⟩
theorem R10 (x : Plan) (hx : Plan.ty.ok x) : Sz Try.prog 10 (.agg (Plan.ty.cs x)) (Plan.ty.wt x) := by
  intro l h0 h1
  obtain ⟨o0, o1, _⟩ := hx
  obtain ⟨m0, e0, q0⟩ := R13 x.tasks o0 l (by omega) (by omega)
  by_cases n0 : m0 < 0
  · refine ⟨-1, .inl (by decide), ?_⟩
    refine Ret.run Try.func10 K10 (by simp) rfl rfl 500 ?_
    simp [A10, iniρ, Plan.cse, n0]
    refine callK.ro 0 rfl (by kernel_rfl) (by simp [roc_sc, roc_ro, roc_agg, Plan.cse]) q0 rfl rfl rfl ?_
    simp [n0, Plan.cse]
  have e0 : m0 = l - ((x.tasks.length + wtL Ty.str.wt x.tasks : Nat) : Int) := e0.resolve_left n0
  obtain ⟨m1, e1, q1⟩ := R33 x.deps o1 m0 (by omega) (by omega)
  by_cases n1 : m1 < 0
  · refine ⟨-1, .inl (by decide), ?_⟩
    refine Ret.run Try.func10 K10 (by simp) rfl rfl 500 ?_
    simp [A10, iniρ, Plan.cse, n0, n1]
    refine callK.ro 0 rfl (by kernel_rfl) (by simp [roc_sc, roc_ro, roc_agg, Plan.cse]) q0 rfl rfl rfl ?_
    simp [n0, n1, Plan.cse]
    refine callK.ro 0 rfl (by kernel_rfl) (by simp [roc_sc, roc_ro, roc_agg, Plan.cse]) q1 rfl rfl rfl ?_
    simp [n0, n1, Plan.cse]
  have e1 : m1 = m0 - ((x.deps.length + wtL Ty.str.slice.wt x.deps : Nat) : Int) := e1.resolve_left n1
  refine ⟨m1, .inr ?_, ?_⟩
  · rw [Plan.wte]; omega
  refine Ret.run Try.func10 K10 (by simp) rfl rfl 500 ?_
  simp [A10, iniρ, Plan.cse, n0, n1]
  refine callK.ro 0 rfl (by kernel_rfl) (by simp [roc_sc, roc_ro, roc_agg, Plan.cse]) q0 rfl rfl rfl ?_
  simp [n0, n1, Plan.cse]
  refine callK.ro 0 rfl (by kernel_rfl) (by simp [roc_sc, roc_ro, roc_agg, Plan.cse]) q1 rfl rfl rfl ?_
  simp [n0, n1, Plan.cse]
/- 17: loop.example/g00464/laws.toPlan -/
def A17 : AC := (.seq (.ops [⟨(some 1), none, .w (.box (.t 0))⟩, ⟨(some 2), none, .w (.alloc [.em, .em])⟩])
  (.seq (.ops [⟨(some 3), none, .w (.alloc [.em, .em])⟩])
  (.seq (.ops [⟨(some 4), none, .q (.fadr 0 (.t 1))⟩, ⟨(some 5), none, .q (.load false 1 (.t 4))⟩, ⟨(some 6), none, .c (.c (.clo 20 [])) [(.t 5)]⟩, ⟨(some 7), none, .q (.fadr 0 (.t 3))⟩, ⟨none, none, .w (.store 1 (.t 7) (.t 6))⟩])
  (.seq (.ops [⟨(some 8), none, .q (.fadr 1 (.t 1))⟩, ⟨(some 9), none, .q (.load false 1 (.t 8))⟩, ⟨(some 10), none, .c (.c (.clo 44 [])) [(.t 9)]⟩, ⟨(some 11), none, .q (.fadr 1 (.t 3))⟩, ⟨none, none, .w (.store 1 (.t 11) (.t 10))⟩])
  (.seq (.ops [⟨(some 12), none, .q (.load true 2 (.t 3))⟩, ⟨none, none, .w (.store 2 (.t 2) (.t 12))⟩])
  .ret)))))
theorem K17 : Try.f17.body.bind (comp Try.prog) = some A17 ∧ Try.f17.ntmps = 13 ∧ Try.f17.results.toList.mapM (resB Try.prog) = some [.load true 2 (.t 2)] := ⟨by kernel_rfl, by kernel_rfl, by kernel_rfl⟩
theorem R17 (x : Plan) (hx : Plan.ty.ok x) : Ret Try.prog 17 [.agg (Plan.ty.cs x)] (.agg (Plan.ty.oc x)) [.un] := by
  obtain ⟨o0, o1, _⟩ := hx
  refine Ret.run Try.func17 K17 (by simp) rfl rfl 500 ?_
  simp [A17, iniρ, Plan.cse, over, ex1, Plan.oce, str_ocl, strs_ocl, Ty.str.frL, Ty.str.slice.frL]
  refine callK.own 500 rfl (by kernel_rfl) (by simp [roc_sc, roc_ro, roc_agg, Plan.cse]) (R20 x.tasks o0) (Ty.str.flo x.tasks) (by simp) rfl ?_
  simp [over, ex1, Plan.oce, str_ocl, strs_ocl, Ty.str.frL, Ty.str.slice.frL]
  refine callK.own 501 rfl (by kernel_rfl) (by simp [roc_sc, roc_ro, roc_agg, Plan.cse]) (R44 x.deps o1) (Ty.str.slice.flo x.deps) (by simp) rfl ?_
  simp [over, ex1, Plan.oce, str_ocl, strs_ocl, Ty.str.frL, Ty.str.slice.frL]
/- 24: loop.example/g00464/laws.eqPlan -/
def A24 : AC := (.seq (.ops [⟨(some 2), none, .w (.box (.t 0))⟩, ⟨(some 3), none, .w (.box (.t 1))⟩, ⟨(some 4), none, .q (.mov (.c (.sc (.bool false))))⟩])
  (.seq (.seq (.ops [⟨(some 5), none, .q (.fadr 0 (.t 2))⟩, ⟨(some 6), none, .q (.load false 1 (.t 5))⟩, ⟨(some 7), none, .q (.fadr 0 (.t 3))⟩, ⟨(some 8), none, .q (.load false 1 (.t 7))⟩, ⟨(some 9), none, .c (.c (.clo 27 [])) [(.t 6), (.t 8)]⟩, ⟨(some 10), none, .q (.not (.t 9))⟩])
  (.cond (.t 10) (.seq (.ops [⟨(some 4), none, .q (.mov (.c (.sc (.bool false))))⟩])
  .ret)
  .skip))
  (.seq (.seq (.ops [⟨(some 11), none, .q (.fadr 1 (.t 2))⟩, ⟨(some 12), none, .q (.load false 1 (.t 11))⟩, ⟨(some 13), none, .q (.fadr 1 (.t 3))⟩, ⟨(some 14), none, .q (.load false 1 (.t 13))⟩, ⟨(some 15), none, .c (.c (.clo 54 [])) [(.t 12), (.t 14)]⟩, ⟨(some 16), none, .q (.not (.t 15))⟩])
  (.cond (.t 16) (.seq (.ops [⟨(some 4), none, .q (.mov (.c (.sc (.bool false))))⟩])
  .ret)
  .skip))
  (.seq (.ops [⟨(some 4), none, .q (.mov (.c (.sc (.bool true))))⟩])
  .ret))))
theorem K24 : Try.f24.body.bind (comp Try.prog) = some A24 ∧ Try.f24.ntmps = 17 ∧ Try.f24.results.toList.mapM (resB Try.prog) = some [.mov (.t 4)] := ⟨by kernel_rfl, by kernel_rfl, by kernel_rfl⟩
theorem R24 (x : Plan) (hx : Plan.ty.ok x) : Ret Try.prog 24 [.agg (Plan.ty.cs x), .agg (Plan.ty.cs x)] (.sc (.bool true)) [.un, .un] := by
  obtain ⟨o0, o1, _⟩ := hx
  refine Ret.run Try.func24 K24 (by simp) rfl rfl 500 ?_
  simp [A24, iniρ, Plan.cse]
  refine callK.ro 0 rfl (by kernel_rfl) (by simp [roc_sc, roc_ro, roc_agg, Plan.cse]) (R27 x.tasks o0) rfl rfl rfl ?_
  simp [Plan.cse]
  refine callK.ro 0 rfl (by kernel_rfl) (by simp [roc_sc, roc_ro, roc_agg, Plan.cse]) (R54 x.deps o1) rfl rfl rfl ?_
  simp [Plan.cse]
/- 34: loop.example/g00464/laws.szMade -/
def A34 : AC := (.seq (.ops [⟨(some 2), none, .w (.box (.t 0))⟩, ⟨(some 4), none, .q (.mov (.c (.sc (.int .i64 0))))⟩])
  (.seq (.ops [⟨(some 5), none, .q (.mov (.t 1))⟩, ⟨(some 6), none, .q (.fadr 0 (.t 2))⟩, ⟨(some 7), none, .q (.load false 1 (.t 6))⟩, ⟨(some 8), none, .q (.slen (.t 7))⟩, ⟨(some 9), none, .q (.bin .sub (.t 5) (.t 8))⟩, ⟨(some 1), none, .q (.mov (.t 9))⟩])
  (.seq (.seq (.ops [⟨(some 10), none, .q (.mov (.t 1))⟩, ⟨(some 11), none, .q (.bin .lss (.t 10) (.c (.sc (.int .i64 0))))⟩])
  (.cond (.t 11) (.seq (.ops [⟨(some 4), none, .q (.mov (.c (.sc (.int .i64 (-1)))))⟩])
  .ret)
  .skip))
  (.seq (.ops [⟨(some 12), none, .q (.fadr 1 (.t 2))⟩, ⟨(some 13), none, .q (.load false 1 (.t 12))⟩, ⟨(some 14), none, .q (.mov (.t 1))⟩, ⟨(some 15), none, .c (.c (.clo 31 [])) [(.t 13), (.t 14)]⟩, ⟨(some 1), none, .q (.mov (.t 15))⟩])
  (.seq (.seq (.ops [⟨(some 16), none, .q (.mov (.t 1))⟩, ⟨(some 17), none, .q (.bin .lss (.t 16) (.c (.sc (.int .i64 0))))⟩])
  (.cond (.t 17) (.seq (.ops [⟨(some 4), none, .q (.mov (.c (.sc (.int .i64 (-1)))))⟩])
  .ret)
  .skip))
  (.seq (.ops [⟨(some 18), none, .q (.mov (.t 1))⟩, ⟨(some 19), none, .q (.fadr 2 (.t 2))⟩, ⟨(some 20), none, .q (.load false 1 (.t 19))⟩, ⟨(some 21), none, .q (.slen (.t 20))⟩, ⟨(some 22), none, .q (.bin .sub (.t 18) (.t 21))⟩, ⟨(some 1), none, .q (.mov (.t 22))⟩])
  (.seq (.seq (.ops [⟨(some 23), none, .q (.mov (.t 1))⟩, ⟨(some 24), none, .q (.bin .lss (.t 23) (.c (.sc (.int .i64 0))))⟩])
  (.cond (.t 24) (.seq (.ops [⟨(some 4), none, .q (.mov (.c (.sc (.int .i64 (-1)))))⟩])
  .ret)
  .skip))
  (.seq (.ops [⟨(some 25), none, .q (.mov (.t 1))⟩, ⟨(some 4), none, .q (.mov (.t 25))⟩])
  .ret))))))))
theorem K34 : Try.f34.body.bind (comp Try.prog) = some A34 ∧ Try.f34.ntmps = 26 ∧ Try.f34.results.toList.mapM (resB Try.prog) = some [.mov (.t 4)] := ⟨by kernel_rfl, by kernel_rfl, by kernel_rfl⟩
theorem R34 (x : Made) (hx : Made.ty.ok x) : Sz Try.prog 34 (.agg (Made.ty.cs x)) (Made.ty.wt x) := by
  intro l h0 h1
  obtain ⟨o0, o1, o2, _⟩ := hx
  have o0 : x.task.size ≤ 140737488351232 := o0
  have w0 : IntKind.i64.wrap (l - x.task.size) = l - x.task.size := wrap_i64 (by omega) (by omega)
  by_cases n0 : l - (x.task.size : Int) < 0
  · refine ⟨-1, .inl (by decide), ?_⟩
    refine Ret.run Try.func34 K34 (by simp) rfl rfl 500 ?_
    simp [A34, iniρ, Made.cse, w0, n0]
    try omega
  have p0 : 0 ≤ (l - (x.task.size : Int)) := by omega
  obtain ⟨m1, e1, q1⟩ := R31 x.outs o1 (l - (x.task.size : Int)) (by omega) (by omega)
  by_cases n1 : m1 < 0
  · refine ⟨-1, .inl (by decide), ?_⟩
    refine Ret.run Try.func34 K34 (by simp) rfl rfl 500 ?_
    simp [A34, iniρ, Made.cse, w0, n0, n1]
    refine callK.ro 0 rfl (by kernel_rfl) (by simp [roc_sc, roc_ro, roc_agg, Made.cse]) q1 rfl rfl rfl ?_
    simp [w0, n0, n1, Made.cse]
  have e1 : m1 = (l - (x.task.size : Int)) - ((x.outs.length + wtL File.ty.wt x.outs : Nat) : Int) := e1.resolve_left n1
  have o2 : x.log.size ≤ 140737488351232 := o2
  have w2 : IntKind.i64.wrap (m1 - x.log.size) = m1 - x.log.size := wrap_i64 (by omega) (by omega)
  by_cases n2 : m1 - (x.log.size : Int) < 0
  · refine ⟨-1, .inl (by decide), ?_⟩
    refine Ret.run Try.func34 K34 (by simp) rfl rfl 500 ?_
    simp [A34, iniρ, Made.cse, w0, n0, n1, w2, n2]
    refine callK.ro 0 rfl (by kernel_rfl) (by simp [roc_sc, roc_ro, roc_agg, Made.cse]) q1 rfl rfl rfl ?_
    simp [w0, n0, n1, w2, n2, Made.cse]
    try omega
  have p2 : 0 ≤ (m1 - (x.log.size : Int)) := by omega
  refine ⟨(m1 - (x.log.size : Int)), .inr ?_, ?_⟩
  · rw [Made.wte]; omega
  refine Ret.run Try.func34 K34 (by simp) rfl rfl 500 ?_
  simp [A34, iniρ, Made.cse, w0, n0, n1, w2, n2]
  refine callK.ro 0 rfl (by kernel_rfl) (by simp [roc_sc, roc_ro, roc_agg, Made.cse]) q1 rfl rfl rfl ?_
  simp [w0, n0, n1, w2, n2, Made.cse]
theorem R11 (xs : List Made) (hx : Made.ty.slice.ok xs) : Sz Try.prog 11 (.ro (rows Made.ty.cs xs) xs.length) (Made.ty.slice.wt xs) := Sz.slice Made.ty (agg := true) Try.func11 ⟨by kernel_rfl, by kernel_rfl, by kernel_rfl⟩ (by kernel_rfl) (by simp) xs (fun x h => R34 x (hx.2 x h)) (Made.ty.lenb (by decide) hx)
/- 45: loop.example/g00464/laws.toMade -/
def A45 : AC := (.seq (.ops [⟨(some 1), none, .w (.box (.t 0))⟩, ⟨(some 2), none, .w (.alloc [(.sc (.string ⟨#[]⟩)), .em, (.sc (.string ⟨#[]⟩))])⟩])
  (.seq (.ops [⟨(some 3), none, .w (.alloc [(.sc (.string ⟨#[]⟩)), .em, (.sc (.string ⟨#[]⟩))])⟩])
  (.seq (.ops [⟨(some 4), none, .q (.fadr 0 (.t 1))⟩, ⟨(some 5), none, .q (.load false 1 (.t 4))⟩, ⟨(some 6), none, .q (.fadr 0 (.t 3))⟩, ⟨none, none, .w (.store 1 (.t 6) (.t 5))⟩])
  (.seq (.ops [⟨(some 7), none, .q (.fadr 1 (.t 1))⟩, ⟨(some 8), none, .q (.load false 1 (.t 7))⟩, ⟨(some 9), none, .c (.c (.clo 42 [])) [(.t 8)]⟩, ⟨(some 10), none, .q (.fadr 1 (.t 3))⟩, ⟨none, none, .w (.store 1 (.t 10) (.t 9))⟩])
  (.seq (.ops [⟨(some 11), none, .q (.fadr 2 (.t 1))⟩, ⟨(some 12), none, .q (.load false 1 (.t 11))⟩, ⟨(some 13), none, .q (.fadr 2 (.t 3))⟩, ⟨none, none, .w (.store 1 (.t 13) (.t 12))⟩])
  (.seq (.ops [⟨(some 14), none, .q (.load true 3 (.t 3))⟩, ⟨none, none, .w (.store 3 (.t 2) (.t 14))⟩])
  .ret))))))
theorem K45 : Try.f45.body.bind (comp Try.prog) = some A45 ∧ Try.f45.ntmps = 15 ∧ Try.f45.results.toList.mapM (resB Try.prog) = some [.load true 3 (.t 2)] := ⟨by kernel_rfl, by kernel_rfl, by kernel_rfl⟩
theorem R45 (x : Made) (hx : Made.ty.ok x) : Ret Try.prog 45 [.agg (Made.ty.cs x)] (.agg (Made.ty.oc x)) [.un] := by
  obtain ⟨o0, o1, o2, _⟩ := hx
  refine Ret.run Try.func45 K45 (by simp) rfl rfl 500 ?_
  simp [A45, iniρ, Made.cse, over, ex1, Made.oce, File.ocl, File.frL]
  refine callK.own 501 rfl (by kernel_rfl) (by simp [roc_sc, roc_ro, roc_agg, Made.cse]) (R42 x.outs o1) (File.ty.flo x.outs) (by simp) rfl ?_
  simp [over, ex1, Made.oce, File.ocl, File.frL]
theorem R18 (xs : List Made) (hx : Made.ty.slice.ok xs) : Ret Try.prog 18 [.ro (rows Made.ty.cs xs) xs.length] (.own (rows Made.ty.oc xs) xs.length 3) [.un] := Ret.toS Made.ty Try.func18 ⟨by kernel_rfl, by kernel_rfl, by kernel_rfl⟩ (by kernel_rfl) (fun x h => R45 x h) (by decide) (by decide) xs hx
/- 55: loop.example/g00464/laws.eqMade -/
def A55 : AC := (.seq (.ops [⟨(some 2), none, .w (.box (.t 0))⟩, ⟨(some 3), none, .w (.box (.t 1))⟩, ⟨(some 4), none, .q (.mov (.c (.sc (.bool false))))⟩])
  (.seq (.seq (.ops [⟨(some 5), none, .q (.fadr 0 (.t 2))⟩, ⟨(some 6), none, .q (.load false 1 (.t 5))⟩, ⟨(some 7), none, .q (.fadr 0 (.t 3))⟩, ⟨(some 8), none, .q (.load false 1 (.t 7))⟩, ⟨(some 9), none, .q (.bin .neq (.t 6) (.t 8))⟩])
  (.cond (.t 9) (.seq (.ops [⟨(some 4), none, .q (.mov (.c (.sc (.bool false))))⟩])
  .ret)
  .skip))
  (.seq (.seq (.ops [⟨(some 10), none, .q (.fadr 1 (.t 2))⟩, ⟨(some 11), none, .q (.load false 1 (.t 10))⟩, ⟨(some 12), none, .q (.fadr 1 (.t 3))⟩, ⟨(some 13), none, .q (.load false 1 (.t 12))⟩, ⟨(some 14), none, .c (.c (.clo 52 [])) [(.t 11), (.t 13)]⟩, ⟨(some 15), none, .q (.not (.t 14))⟩])
  (.cond (.t 15) (.seq (.ops [⟨(some 4), none, .q (.mov (.c (.sc (.bool false))))⟩])
  .ret)
  .skip))
  (.seq (.seq (.ops [⟨(some 16), none, .q (.fadr 2 (.t 2))⟩, ⟨(some 17), none, .q (.load false 1 (.t 16))⟩, ⟨(some 18), none, .q (.fadr 2 (.t 3))⟩, ⟨(some 19), none, .q (.load false 1 (.t 18))⟩, ⟨(some 20), none, .q (.bin .neq (.t 17) (.t 19))⟩])
  (.cond (.t 20) (.seq (.ops [⟨(some 4), none, .q (.mov (.c (.sc (.bool false))))⟩])
  .ret)
  .skip))
  (.seq (.ops [⟨(some 4), none, .q (.mov (.c (.sc (.bool true))))⟩])
  .ret)))))
theorem K55 : Try.f55.body.bind (comp Try.prog) = some A55 ∧ Try.f55.ntmps = 21 ∧ Try.f55.results.toList.mapM (resB Try.prog) = some [.mov (.t 4)] := ⟨by kernel_rfl, by kernel_rfl, by kernel_rfl⟩
theorem R55 (x : Made) (hx : Made.ty.ok x) : Ret Try.prog 55 [.agg (Made.ty.cs x), .agg (Made.ty.cs x)] (.sc (.bool true)) [.un, .un] := by
  obtain ⟨o0, o1, o2, _⟩ := hx
  refine Ret.run Try.func55 K55 (by simp) rfl rfl 500 ?_
  simp [A55, iniρ, Made.cse]
  refine callK.ro 0 rfl (by kernel_rfl) (by simp [roc_sc, roc_ro, roc_agg, Made.cse]) (R52 x.outs o1) rfl rfl rfl ?_
  simp [Made.cse]
theorem R25 (xs : List Made) (hx : Made.ty.slice.ok xs) : Ret Try.prog 25 [.ro (rows Made.ty.cs xs) xs.length, .ro (rows Made.ty.cs xs) xs.length] (.sc (.bool true)) [.un, .un] := Ret.eqS mixed Made.ty (agg := true) Try.func25 ⟨by kernel_rfl, by kernel_rfl, by kernel_rfl⟩ (by kernel_rfl) (by simp) xs (fun x h => R55 x (hx.2 x h)) (Made.ty.lenb (by decide) hx)
/- 35: loop.example/g00464/laws.szMark -/
def A35 : AC := (.seq (.ops [⟨(some 2), none, .w (.box (.t 0))⟩, ⟨(some 4), none, .q (.mov (.c (.sc (.int .i64 0))))⟩])
  (.seq (.ops [⟨(some 5), none, .q (.mov (.t 1))⟩, ⟨(some 6), none, .q (.fadr 0 (.t 2))⟩, ⟨(some 7), none, .q (.load false 1 (.t 6))⟩, ⟨(some 8), none, .q (.slen (.t 7))⟩, ⟨(some 9), none, .q (.bin .sub (.t 5) (.t 8))⟩, ⟨(some 1), none, .q (.mov (.t 9))⟩])
  (.seq (.seq (.ops [⟨(some 10), none, .q (.mov (.t 1))⟩, ⟨(some 11), none, .q (.bin .lss (.t 10) (.c (.sc (.int .i64 0))))⟩])
  (.cond (.t 11) (.seq (.ops [⟨(some 4), none, .q (.mov (.c (.sc (.int .i64 (-1)))))⟩])
  .ret)
  .skip))
  (.seq (.ops [⟨(some 12), none, .q (.mov (.t 1))⟩, ⟨(some 4), none, .q (.mov (.t 12))⟩])
  .ret))))
theorem K35 : Try.f35.body.bind (comp Try.prog) = some A35 ∧ Try.f35.ntmps = 13 ∧ Try.f35.results.toList.mapM (resB Try.prog) = some [.mov (.t 4)] := ⟨by kernel_rfl, by kernel_rfl, by kernel_rfl⟩
theorem R35 (x : Mark) (hx : Mark.ty.ok x) : Sz Try.prog 35 (.agg (Mark.ty.cs x)) (Mark.ty.wt x) := by
  intro l h0 h1
  obtain ⟨o0, o1, _⟩ := hx
  have o0 : x.task.size ≤ 140737488351232 := o0
  have w0 : IntKind.i64.wrap (l - x.task.size) = l - x.task.size := wrap_i64 (by omega) (by omega)
  by_cases n0 : l - (x.task.size : Int) < 0
  · refine ⟨-1, .inl (by decide), ?_⟩
    refine Ret.run Try.func35 K35 (by simp) rfl rfl 500 ?_
    simp [A35, iniρ, Mark.cse, w0, n0]
    try omega
  have p0 : 0 ≤ (l - (x.task.size : Int)) := by omega
  refine ⟨(l - (x.task.size : Int)), .inr ?_, ?_⟩
  · rw [Mark.wte]; omega
  refine Ret.run Try.func35 K35 (by simp) rfl rfl 500 ?_
  simp [A35, iniρ, Mark.cse, w0, n0]
theorem R12 (xs : List Mark) (hx : Mark.ty.slice.ok xs) : Sz Try.prog 12 (.ro (rows Mark.ty.cs xs) xs.length) (Mark.ty.slice.wt xs) := Sz.slice Mark.ty (agg := true) Try.func12 ⟨by kernel_rfl, by kernel_rfl, by kernel_rfl⟩ (by kernel_rfl) (by simp) xs (fun x h => R35 x (hx.2 x h)) (Mark.ty.lenb (by decide) hx)
/- 46: loop.example/g00464/laws.toMark -/
def A46 : AC := (.seq (.ops [⟨(some 1), none, .w (.box (.t 0))⟩, ⟨(some 2), none, .w (.alloc [(.sc (.string ⟨#[]⟩)), (.sc (.int .i64 0))])⟩])
  (.seq (.ops [⟨(some 3), none, .w (.alloc [(.sc (.string ⟨#[]⟩)), (.sc (.int .i64 0))])⟩])
  (.seq (.ops [⟨(some 4), none, .q (.fadr 0 (.t 1))⟩, ⟨(some 5), none, .q (.load false 1 (.t 4))⟩, ⟨(some 6), none, .q (.fadr 0 (.t 3))⟩, ⟨none, none, .w (.store 1 (.t 6) (.t 5))⟩])
  (.seq (.ops [⟨(some 7), none, .q (.fadr 1 (.t 1))⟩, ⟨(some 8), none, .q (.load false 1 (.t 7))⟩, ⟨(some 9), none, .q (.fadr 1 (.t 3))⟩, ⟨none, none, .w (.store 1 (.t 9) (.t 8))⟩])
  (.seq (.ops [⟨(some 10), none, .q (.load true 2 (.t 3))⟩, ⟨none, none, .w (.store 2 (.t 2) (.t 10))⟩])
  .ret)))))
theorem K46 : Try.f46.body.bind (comp Try.prog) = some A46 ∧ Try.f46.ntmps = 11 ∧ Try.f46.results.toList.mapM (resB Try.prog) = some [.load true 2 (.t 2)] := ⟨by kernel_rfl, by kernel_rfl, by kernel_rfl⟩
theorem R46 (x : Mark) (hx : Mark.ty.ok x) : Ret Try.prog 46 [.agg (Mark.ty.cs x)] (.agg (Mark.ty.oc x)) [.un] := by
  obtain ⟨o0, o1, _⟩ := hx
  refine Ret.run Try.func46 K46 (by simp) rfl rfl 500 ?_
  simp [A46, iniρ, Mark.cse, over, ex1, Mark.oce]
theorem R19 (xs : List Mark) (hx : Mark.ty.slice.ok xs) : Ret Try.prog 19 [.ro (rows Mark.ty.cs xs) xs.length] (.own (rows Mark.ty.oc xs) xs.length 2) [.un] := Ret.toS Mark.ty Try.func19 ⟨by kernel_rfl, by kernel_rfl, by kernel_rfl⟩ (by kernel_rfl) (fun x h => R46 x h) (by decide) (by decide) xs hx
/- 56: loop.example/g00464/laws.eqMark -/
def A56 : AC := (.seq (.ops [⟨(some 2), none, .w (.box (.t 0))⟩, ⟨(some 3), none, .w (.box (.t 1))⟩, ⟨(some 4), none, .q (.mov (.c (.sc (.bool false))))⟩])
  (.seq (.seq (.ops [⟨(some 5), none, .q (.fadr 0 (.t 2))⟩, ⟨(some 6), none, .q (.load false 1 (.t 5))⟩, ⟨(some 7), none, .q (.fadr 0 (.t 3))⟩, ⟨(some 8), none, .q (.load false 1 (.t 7))⟩, ⟨(some 9), none, .q (.bin .neq (.t 6) (.t 8))⟩])
  (.cond (.t 9) (.seq (.ops [⟨(some 4), none, .q (.mov (.c (.sc (.bool false))))⟩])
  .ret)
  .skip))
  (.seq (.seq (.ops [⟨(some 10), none, .q (.fadr 1 (.t 2))⟩, ⟨(some 11), none, .q (.load false 1 (.t 10))⟩, ⟨(some 12), none, .q (.fadr 1 (.t 3))⟩, ⟨(some 13), none, .q (.load false 1 (.t 12))⟩, ⟨(some 14), none, .q (.bin .neq (.t 11) (.t 13))⟩])
  (.cond (.t 14) (.seq (.ops [⟨(some 4), none, .q (.mov (.c (.sc (.bool false))))⟩])
  .ret)
  .skip))
  (.seq (.ops [⟨(some 4), none, .q (.mov (.c (.sc (.bool true))))⟩])
  .ret))))
theorem K56 : Try.f56.body.bind (comp Try.prog) = some A56 ∧ Try.f56.ntmps = 15 ∧ Try.f56.results.toList.mapM (resB Try.prog) = some [.mov (.t 4)] := ⟨by kernel_rfl, by kernel_rfl, by kernel_rfl⟩
theorem R56 (x : Mark) (hx : Mark.ty.ok x) : Ret Try.prog 56 [.agg (Mark.ty.cs x), .agg (Mark.ty.cs x)] (.sc (.bool true)) [.un, .un] := by
  obtain ⟨o0, o1, _⟩ := hx
  refine Ret.run Try.func56 K56 (by simp) rfl rfl 500 ?_
  simp [A56, iniρ, Mark.cse]
theorem R26 (xs : List Mark) (hx : Mark.ty.slice.ok xs) : Ret Try.prog 26 [.ro (rows Mark.ty.cs xs) xs.length, .ro (rows Mark.ty.cs xs) xs.length] (.sc (.bool true)) [.un, .un] := Ret.eqS mixed Mark.ty (agg := true) Try.func26 ⟨by kernel_rfl, by kernel_rfl, by kernel_rfl⟩ (by kernel_rfl) (by simp) xs (fun x h => R56 x (hx.2 x h)) (Mark.ty.lenb (by decide) hx)
/- 36: loop.example/g00464/laws.szSlot -/
def A36 : AC := (.seq (.ops [⟨(some 2), none, .w (.box (.t 0))⟩, ⟨(some 4), none, .q (.mov (.c (.sc (.int .i64 0))))⟩])
  (.seq (.ops [⟨(some 5), none, .q (.fadr 0 (.t 2))⟩, ⟨(some 6), none, .q (.load false 1 (.t 5))⟩, ⟨(some 7), none, .q (.mov (.t 1))⟩, ⟨(some 8), none, .c (.c (.clo 62 [])) [(.t 6), (.t 7)]⟩, ⟨(some 1), none, .q (.mov (.t 8))⟩])
  (.seq (.seq (.ops [⟨(some 9), none, .q (.mov (.t 1))⟩, ⟨(some 10), none, .q (.bin .lss (.t 9) (.c (.sc (.int .i64 0))))⟩])
  (.cond (.t 10) (.seq (.ops [⟨(some 4), none, .q (.mov (.c (.sc (.int .i64 (-1)))))⟩])
  .ret)
  .skip))
  (.seq (.ops [⟨(some 11), none, .q (.fadr 1 (.t 2))⟩, ⟨(some 12), none, .q (.load false 1 (.t 11))⟩, ⟨(some 13), none, .q (.mov (.t 1))⟩, ⟨(some 14), none, .c (.c (.clo 62 [])) [(.t 12), (.t 13)]⟩, ⟨(some 1), none, .q (.mov (.t 14))⟩])
  (.seq (.seq (.ops [⟨(some 15), none, .q (.mov (.t 1))⟩, ⟨(some 16), none, .q (.bin .lss (.t 15) (.c (.sc (.int .i64 0))))⟩])
  (.cond (.t 16) (.seq (.ops [⟨(some 4), none, .q (.mov (.c (.sc (.int .i64 (-1)))))⟩])
  .ret)
  .skip))
  (.seq (.ops [⟨(some 17), none, .q (.mov (.t 1))⟩, ⟨(some 4), none, .q (.mov (.t 17))⟩])
  .ret))))))
theorem K36 : Try.f36.body.bind (comp Try.prog) = some A36 ∧ Try.f36.ntmps = 18 ∧ Try.f36.results.toList.mapM (resB Try.prog) = some [.mov (.t 4)] := ⟨by kernel_rfl, by kernel_rfl, by kernel_rfl⟩
theorem R36 (x : Slot) (hx : Slot.ty.ok x) : Sz Try.prog 36 (.agg (Slot.ty.cs x)) (Slot.ty.wt x) := by
  intro l h0 h1
  obtain ⟨o0, o1, _⟩ := hx
  obtain ⟨m0, e0, q0⟩ := R62 x.key o0 l (by omega) (by omega)
  by_cases n0 : m0 < 0
  · refine ⟨-1, .inl (by decide), ?_⟩
    refine Ret.run Try.func36 K36 (by simp) rfl rfl 500 ?_
    simp [A36, iniρ, Slot.cse, n0]
    refine callK.ro 0 rfl (by kernel_rfl) (by simp [roc_sc, roc_ro, roc_agg, Slot.cse]) q0 rfl rfl rfl ?_
    simp [n0, Slot.cse]
  have e0 : m0 = l - ((x.key.length + wtL Ty.byte.wt x.key : Nat) : Int) := e0.resolve_left n0
  obtain ⟨m1, e1, q1⟩ := R62 x.b o1 m0 (by omega) (by omega)
  by_cases n1 : m1 < 0
  · refine ⟨-1, .inl (by decide), ?_⟩
    refine Ret.run Try.func36 K36 (by simp) rfl rfl 500 ?_
    simp [A36, iniρ, Slot.cse, n0, n1]
    refine callK.ro 0 rfl (by kernel_rfl) (by simp [roc_sc, roc_ro, roc_agg, Slot.cse]) q0 rfl rfl rfl ?_
    simp [n0, n1, Slot.cse]
    refine callK.ro 0 rfl (by kernel_rfl) (by simp [roc_sc, roc_ro, roc_agg, Slot.cse]) q1 rfl rfl rfl ?_
    simp [n0, n1, Slot.cse]
  have e1 : m1 = m0 - ((x.b.length + wtL Ty.byte.wt x.b : Nat) : Int) := e1.resolve_left n1
  refine ⟨m1, .inr ?_, ?_⟩
  · rw [Slot.wte]; omega
  refine Ret.run Try.func36 K36 (by simp) rfl rfl 500 ?_
  simp [A36, iniρ, Slot.cse, n0, n1]
  refine callK.ro 0 rfl (by kernel_rfl) (by simp [roc_sc, roc_ro, roc_agg, Slot.cse]) q0 rfl rfl rfl ?_
  simp [n0, n1, Slot.cse]
  refine callK.ro 0 rfl (by kernel_rfl) (by simp [roc_sc, roc_ro, roc_agg, Slot.cse]) q1 rfl rfl rfl ?_
  simp [n0, n1, Slot.cse]
theorem R14 (xs : List Slot) (hx : Slot.ty.slice.ok xs) : Sz Try.prog 14 (.ro (rows Slot.ty.cs xs) xs.length) (Slot.ty.slice.wt xs) := Sz.slice Slot.ty (agg := true) Try.func14 ⟨by kernel_rfl, by kernel_rfl, by kernel_rfl⟩ (by kernel_rfl) (by simp) xs (fun x h => R36 x (hx.2 x h)) (Slot.ty.lenb (by decide) hx)
/- 47: loop.example/g00464/laws.toSlot -/
def A47 : AC := (.seq (.ops [⟨(some 1), none, .w (.box (.t 0))⟩, ⟨(some 2), none, .w (.alloc [.em, .em])⟩])
  (.seq (.ops [⟨(some 3), none, .w (.alloc [.em, .em])⟩])
  (.seq (.ops [⟨(some 4), none, .q (.fadr 0 (.t 1))⟩, ⟨(some 5), none, .q (.load false 1 (.t 4))⟩, ⟨(some 6), none, .c (.c (.clo 69 [])) [(.t 5)]⟩, ⟨(some 7), none, .q (.fadr 0 (.t 3))⟩, ⟨none, none, .w (.store 1 (.t 7) (.t 6))⟩])
  (.seq (.ops [⟨(some 8), none, .q (.fadr 1 (.t 1))⟩, ⟨(some 9), none, .q (.load false 1 (.t 8))⟩, ⟨(some 10), none, .c (.c (.clo 69 [])) [(.t 9)]⟩, ⟨(some 11), none, .q (.fadr 1 (.t 3))⟩, ⟨none, none, .w (.store 1 (.t 11) (.t 10))⟩])
  (.seq (.ops [⟨(some 12), none, .q (.load true 2 (.t 3))⟩, ⟨none, none, .w (.store 2 (.t 2) (.t 12))⟩])
  .ret)))))
theorem K47 : Try.f47.body.bind (comp Try.prog) = some A47 ∧ Try.f47.ntmps = 13 ∧ Try.f47.results.toList.mapM (resB Try.prog) = some [.load true 2 (.t 2)] := ⟨by kernel_rfl, by kernel_rfl, by kernel_rfl⟩
theorem R47 (x : Slot) (hx : Slot.ty.ok x) : Ret Try.prog 47 [.agg (Slot.ty.cs x)] (.agg (Slot.ty.oc x)) [.un] := by
  obtain ⟨o0, o1, _⟩ := hx
  refine Ret.run Try.func47 K47 (by simp) rfl rfl 500 ?_
  simp [A47, iniρ, Slot.cse, over, ex1, Slot.oce, byte_ocl, Ty.byte.frL]
  refine callK.own 500 rfl (by kernel_rfl) (by simp [roc_sc, roc_ro, roc_agg, Slot.cse]) (R69 x.key o0) (Ty.byte.flo x.key) (by simp) rfl ?_
  simp [over, ex1, Slot.oce, byte_ocl, Ty.byte.frL]
  refine callK.own 501 rfl (by kernel_rfl) (by simp [roc_sc, roc_ro, roc_agg, Slot.cse]) (R69 x.b o1) (Ty.byte.flo x.b) (by simp) rfl ?_
  simp [over, ex1, Slot.oce, byte_ocl, Ty.byte.frL]
theorem R21 (xs : List Slot) (hx : Slot.ty.slice.ok xs) : Ret Try.prog 21 [.ro (rows Slot.ty.cs xs) xs.length] (.own (rows Slot.ty.oc xs) xs.length 2) [.un] := Ret.toS Slot.ty Try.func21 ⟨by kernel_rfl, by kernel_rfl, by kernel_rfl⟩ (by kernel_rfl) (fun x h => R47 x h) (by decide) (by decide) xs hx
/- 57: loop.example/g00464/laws.eqSlot -/
def A57 : AC := (.seq (.ops [⟨(some 2), none, .w (.box (.t 0))⟩, ⟨(some 3), none, .w (.box (.t 1))⟩, ⟨(some 4), none, .q (.mov (.c (.sc (.bool false))))⟩])
  (.seq (.seq (.ops [⟨(some 5), none, .q (.fadr 0 (.t 2))⟩, ⟨(some 6), none, .q (.load false 1 (.t 5))⟩, ⟨(some 7), none, .q (.fadr 0 (.t 3))⟩, ⟨(some 8), none, .q (.load false 1 (.t 7))⟩, ⟨(some 9), none, .c (.c (.clo 79 [])) [(.t 6), (.t 8)]⟩, ⟨(some 10), none, .q (.not (.t 9))⟩])
  (.cond (.t 10) (.seq (.ops [⟨(some 4), none, .q (.mov (.c (.sc (.bool false))))⟩])
  .ret)
  .skip))
  (.seq (.seq (.ops [⟨(some 11), none, .q (.fadr 1 (.t 2))⟩, ⟨(some 12), none, .q (.load false 1 (.t 11))⟩, ⟨(some 13), none, .q (.fadr 1 (.t 3))⟩, ⟨(some 14), none, .q (.load false 1 (.t 13))⟩, ⟨(some 15), none, .c (.c (.clo 79 [])) [(.t 12), (.t 14)]⟩, ⟨(some 16), none, .q (.not (.t 15))⟩])
  (.cond (.t 16) (.seq (.ops [⟨(some 4), none, .q (.mov (.c (.sc (.bool false))))⟩])
  .ret)
  .skip))
  (.seq (.ops [⟨(some 4), none, .q (.mov (.c (.sc (.bool true))))⟩])
  .ret))))
theorem K57 : Try.f57.body.bind (comp Try.prog) = some A57 ∧ Try.f57.ntmps = 17 ∧ Try.f57.results.toList.mapM (resB Try.prog) = some [.mov (.t 4)] := ⟨by kernel_rfl, by kernel_rfl, by kernel_rfl⟩
theorem R57 (x : Slot) (hx : Slot.ty.ok x) : Ret Try.prog 57 [.agg (Slot.ty.cs x), .agg (Slot.ty.cs x)] (.sc (.bool true)) [.un, .un] := by
  obtain ⟨o0, o1, _⟩ := hx
  refine Ret.run Try.func57 K57 (by simp) rfl rfl 500 ?_
  simp [A57, iniρ, Slot.cse]
  refine callK.ro 0 rfl (by kernel_rfl) (by simp [roc_sc, roc_ro, roc_agg, Slot.cse]) (R79 x.key o0) rfl rfl rfl ?_
  simp [Slot.cse]
  refine callK.ro 0 rfl (by kernel_rfl) (by simp [roc_sc, roc_ro, roc_agg, Slot.cse]) (R79 x.b o1) rfl rfl rfl ?_
  simp [Slot.cse]
theorem R28 (xs : List Slot) (hx : Slot.ty.slice.ok xs) : Ret Try.prog 28 [.ro (rows Slot.ty.cs xs) xs.length, .ro (rows Slot.ty.cs xs) xs.length] (.sc (.bool true)) [.un, .un] := Ret.eqS mixed Slot.ty (agg := true) Try.func28 ⟨by kernel_rfl, by kernel_rfl, by kernel_rfl⟩ (by kernel_rfl) (by simp) xs (fun x h => R57 x (hx.2 x h)) (Slot.ty.lenb (by decide) hx)
/- 4: loop.example/g00464/laws.szRun -/
def A4 : AC := (.seq (.ops [⟨(some 2), none, .w (.box (.t 0))⟩, ⟨(some 4), none, .q (.mov (.c (.sc (.int .i64 0))))⟩])
  (.seq (.ops [⟨(some 5), none, .q (.fadr 0 (.t 2))⟩, ⟨(some 6), none, .q (.load true 4 (.t 5))⟩, ⟨(some 7), none, .q (.mov (.t 1))⟩, ⟨(some 8), none, .c (.c (.clo 9 [])) [(.t 6), (.t 7)]⟩, ⟨(some 1), none, .q (.mov (.t 8))⟩])
  (.seq (.seq (.ops [⟨(some 9), none, .q (.mov (.t 1))⟩, ⟨(some 10), none, .q (.bin .lss (.t 9) (.c (.sc (.int .i64 0))))⟩])
  (.cond (.t 10) (.seq (.ops [⟨(some 4), none, .q (.mov (.c (.sc (.int .i64 (-1)))))⟩])
  .ret)
  .skip))
  (.seq (.ops [⟨(some 11), none, .q (.fadr 4 (.t 2))⟩, ⟨(some 12), none, .q (.load true 2 (.t 11))⟩, ⟨(some 13), none, .q (.mov (.t 1))⟩, ⟨(some 14), none, .c (.c (.clo 10 [])) [(.t 12), (.t 13)]⟩, ⟨(some 1), none, .q (.mov (.t 14))⟩])
  (.seq (.seq (.ops [⟨(some 15), none, .q (.mov (.t 1))⟩, ⟨(some 16), none, .q (.bin .lss (.t 15) (.c (.sc (.int .i64 0))))⟩])
  (.cond (.t 16) (.seq (.ops [⟨(some 4), none, .q (.mov (.c (.sc (.int .i64 (-1)))))⟩])
  .ret)
  .skip))
  (.seq (.ops [⟨(some 17), none, .q (.fadr 8 (.t 2))⟩, ⟨(some 18), none, .q (.load false 1 (.t 17))⟩, ⟨(some 19), none, .q (.mov (.t 1))⟩, ⟨(some 20), none, .c (.c (.clo 11 [])) [(.t 18), (.t 19)]⟩, ⟨(some 1), none, .q (.mov (.t 20))⟩])
  (.seq (.seq (.ops [⟨(some 21), none, .q (.mov (.t 1))⟩, ⟨(some 22), none, .q (.bin .lss (.t 21) (.c (.sc (.int .i64 0))))⟩])
  (.cond (.t 22) (.seq (.ops [⟨(some 4), none, .q (.mov (.c (.sc (.int .i64 (-1)))))⟩])
  .ret)
  .skip))
  (.seq (.ops [⟨(some 23), none, .q (.fadr 9 (.t 2))⟩, ⟨(some 24), none, .q (.load false 1 (.t 23))⟩, ⟨(some 25), none, .q (.mov (.t 1))⟩, ⟨(some 26), none, .c (.c (.clo 12 [])) [(.t 24), (.t 25)]⟩, ⟨(some 1), none, .q (.mov (.t 26))⟩])
  (.seq (.seq (.ops [⟨(some 27), none, .q (.mov (.t 1))⟩, ⟨(some 28), none, .q (.bin .lss (.t 27) (.c (.sc (.int .i64 0))))⟩])
  (.cond (.t 28) (.seq (.ops [⟨(some 4), none, .q (.mov (.c (.sc (.int .i64 (-1)))))⟩])
  .ret)
  .skip))
  (.seq (.ops [⟨(some 29), none, .q (.fadr 10 (.t 2))⟩, ⟨(some 30), none, .q (.load false 1 (.t 29))⟩, ⟨(some 31), none, .q (.mov (.t 1))⟩, ⟨(some 32), none, .c (.c (.clo 13 [])) [(.t 30), (.t 31)]⟩, ⟨(some 1), none, .q (.mov (.t 32))⟩])
  (.seq (.seq (.ops [⟨(some 33), none, .q (.mov (.t 1))⟩, ⟨(some 34), none, .q (.bin .lss (.t 33) (.c (.sc (.int .i64 0))))⟩])
  (.cond (.t 34) (.seq (.ops [⟨(some 4), none, .q (.mov (.c (.sc (.int .i64 (-1)))))⟩])
  .ret)
  .skip))
  (.seq (.ops [⟨(some 35), none, .q (.fadr 11 (.t 2))⟩, ⟨(some 36), none, .q (.load false 1 (.t 35))⟩, ⟨(some 37), none, .q (.mov (.t 1))⟩, ⟨(some 38), none, .c (.c (.clo 14 [])) [(.t 36), (.t 37)]⟩, ⟨(some 1), none, .q (.mov (.t 38))⟩])
  (.seq (.seq (.ops [⟨(some 39), none, .q (.mov (.t 1))⟩, ⟨(some 40), none, .q (.bin .lss (.t 39) (.c (.sc (.int .i64 0))))⟩])
  (.cond (.t 40) (.seq (.ops [⟨(some 4), none, .q (.mov (.c (.sc (.int .i64 (-1)))))⟩])
  .ret)
  .skip))
  (.seq (.ops [⟨(some 41), none, .q (.mov (.t 1))⟩, ⟨(some 4), none, .q (.mov (.t 41))⟩])
  .ret))))))))))))))
theorem K4 : Try.f4.body.bind (comp Try.prog) = some A4 ∧ Try.f4.ntmps = 42 ∧ Try.f4.results.toList.mapM (resB Try.prog) = some [.mov (.t 4)] := ⟨by kernel_rfl, by kernel_rfl, by kernel_rfl⟩
theorem R4 (x : Run) (hx : Run.ty.ok x) : Sz Try.prog 4 (.agg (Run.ty.cs x)) (Run.ty.wt x) := by
  intro l h0 h1
  obtain ⟨o0, o1, o2, o3, o4, o5, o6, o7, _⟩ := hx
  obtain ⟨m0, e0, q0⟩ := R9 x.w o0 l (by omega) (by omega)
  by_cases n0 : m0 < 0
  · refine ⟨-1, .inl (by decide), ?_⟩
    refine Ret.run Try.func4 K4 (by simp) rfl rfl 500 ?_
    simp [A4, iniρ, Run.cse, World.cse, Plan.cse, n0]
    refine callK.ro 0 rfl (by kernel_rfl) (by simp [roc_sc, roc_ro, roc_agg, Run.cse, World.cse, Plan.cse]) q0 rfl rfl rfl ?_
    simp [n0, Run.cse, World.cse, Plan.cse]
  have e0 : m0 = l - ((World.ty.wt x.w : Nat) : Int) := e0.resolve_left n0
  obtain ⟨m1, e1, q1⟩ := R10 x.p o1 m0 (by omega) (by omega)
  by_cases n1 : m1 < 0
  · refine ⟨-1, .inl (by decide), ?_⟩
    refine Ret.run Try.func4 K4 (by simp) rfl rfl 500 ?_
    simp [A4, iniρ, Run.cse, World.cse, Plan.cse, n0, n1]
    refine callK.ro 0 rfl (by kernel_rfl) (by simp [roc_sc, roc_ro, roc_agg, Run.cse, World.cse, Plan.cse]) q0 rfl rfl rfl ?_
    simp [n0, n1, Run.cse, World.cse, Plan.cse]
    refine callK.ro 0 rfl (by kernel_rfl) (by simp [roc_sc, roc_ro, roc_agg, Run.cse, World.cse, Plan.cse]) q1 rfl rfl rfl ?_
    simp [n0, n1, Run.cse, World.cse, Plan.cse]
  have e1 : m1 = m0 - ((Plan.ty.wt x.p : Nat) : Int) := e1.resolve_left n1
  obtain ⟨m4, e4, q4⟩ := R11 x.made o4 m1 (by omega) (by omega)
  by_cases n4 : m4 < 0
  · refine ⟨-1, .inl (by decide), ?_⟩
    refine Ret.run Try.func4 K4 (by simp) rfl rfl 500 ?_
    simp [A4, iniρ, Run.cse, World.cse, Plan.cse, n0, n1, n4]
    refine callK.ro 0 rfl (by kernel_rfl) (by simp [roc_sc, roc_ro, roc_agg, Run.cse, World.cse, Plan.cse]) q0 rfl rfl rfl ?_
    simp [n0, n1, n4, Run.cse, World.cse, Plan.cse]
    refine callK.ro 0 rfl (by kernel_rfl) (by simp [roc_sc, roc_ro, roc_agg, Run.cse, World.cse, Plan.cse]) q1 rfl rfl rfl ?_
    simp [n0, n1, n4, Run.cse, World.cse, Plan.cse]
    refine callK.ro 0 rfl (by kernel_rfl) (by simp [roc_sc, roc_ro, roc_agg, Run.cse, World.cse, Plan.cse]) q4 rfl rfl rfl ?_
    simp [n0, n1, n4, Run.cse, World.cse, Plan.cse]
  have e4 : m4 = m1 - ((x.made.length + wtL Made.ty.wt x.made : Nat) : Int) := e4.resolve_left n4
  obtain ⟨m5, e5, q5⟩ := R12 x.marks o5 m4 (by omega) (by omega)
  by_cases n5 : m5 < 0
  · refine ⟨-1, .inl (by decide), ?_⟩
    refine Ret.run Try.func4 K4 (by simp) rfl rfl 500 ?_
    simp [A4, iniρ, Run.cse, World.cse, Plan.cse, n0, n1, n4, n5]
    refine callK.ro 0 rfl (by kernel_rfl) (by simp [roc_sc, roc_ro, roc_agg, Run.cse, World.cse, Plan.cse]) q0 rfl rfl rfl ?_
    simp [n0, n1, n4, n5, Run.cse, World.cse, Plan.cse]
    refine callK.ro 0 rfl (by kernel_rfl) (by simp [roc_sc, roc_ro, roc_agg, Run.cse, World.cse, Plan.cse]) q1 rfl rfl rfl ?_
    simp [n0, n1, n4, n5, Run.cse, World.cse, Plan.cse]
    refine callK.ro 0 rfl (by kernel_rfl) (by simp [roc_sc, roc_ro, roc_agg, Run.cse, World.cse, Plan.cse]) q4 rfl rfl rfl ?_
    simp [n0, n1, n4, n5, Run.cse, World.cse, Plan.cse]
    refine callK.ro 0 rfl (by kernel_rfl) (by simp [roc_sc, roc_ro, roc_agg, Run.cse, World.cse, Plan.cse]) q5 rfl rfl rfl ?_
    simp [n0, n1, n4, n5, Run.cse, World.cse, Plan.cse]
  have e5 : m5 = m4 - ((x.marks.length + wtL Mark.ty.wt x.marks : Nat) : Int) := e5.resolve_left n5
  obtain ⟨m6, e6, q6⟩ := R13 x.going o6 m5 (by omega) (by omega)
  by_cases n6 : m6 < 0
  · refine ⟨-1, .inl (by decide), ?_⟩
    refine Ret.run Try.func4 K4 (by simp) rfl rfl 500 ?_
    simp [A4, iniρ, Run.cse, World.cse, Plan.cse, n0, n1, n4, n5, n6]
    refine callK.ro 0 rfl (by kernel_rfl) (by simp [roc_sc, roc_ro, roc_agg, Run.cse, World.cse, Plan.cse]) q0 rfl rfl rfl ?_
    simp [n0, n1, n4, n5, n6, Run.cse, World.cse, Plan.cse]
    refine callK.ro 0 rfl (by kernel_rfl) (by simp [roc_sc, roc_ro, roc_agg, Run.cse, World.cse, Plan.cse]) q1 rfl rfl rfl ?_
    simp [n0, n1, n4, n5, n6, Run.cse, World.cse, Plan.cse]
    refine callK.ro 0 rfl (by kernel_rfl) (by simp [roc_sc, roc_ro, roc_agg, Run.cse, World.cse, Plan.cse]) q4 rfl rfl rfl ?_
    simp [n0, n1, n4, n5, n6, Run.cse, World.cse, Plan.cse]
    refine callK.ro 0 rfl (by kernel_rfl) (by simp [roc_sc, roc_ro, roc_agg, Run.cse, World.cse, Plan.cse]) q5 rfl rfl rfl ?_
    simp [n0, n1, n4, n5, n6, Run.cse, World.cse, Plan.cse]
    refine callK.ro 0 rfl (by kernel_rfl) (by simp [roc_sc, roc_ro, roc_agg, Run.cse, World.cse, Plan.cse]) q6 rfl rfl rfl ?_
    simp [n0, n1, n4, n5, n6, Run.cse, World.cse, Plan.cse]
  have e6 : m6 = m5 - ((x.going.length + wtL Ty.str.wt x.going : Nat) : Int) := e6.resolve_left n6
  obtain ⟨m7, e7, q7⟩ := R14 x.cache o7 m6 (by omega) (by omega)
  by_cases n7 : m7 < 0
  · refine ⟨-1, .inl (by decide), ?_⟩
    refine Ret.run Try.func4 K4 (by simp) rfl rfl 500 ?_
    simp [A4, iniρ, Run.cse, World.cse, Plan.cse, n0, n1, n4, n5, n6, n7]
    refine callK.ro 0 rfl (by kernel_rfl) (by simp [roc_sc, roc_ro, roc_agg, Run.cse, World.cse, Plan.cse]) q0 rfl rfl rfl ?_
    simp [n0, n1, n4, n5, n6, n7, Run.cse, World.cse, Plan.cse]
    refine callK.ro 0 rfl (by kernel_rfl) (by simp [roc_sc, roc_ro, roc_agg, Run.cse, World.cse, Plan.cse]) q1 rfl rfl rfl ?_
    simp [n0, n1, n4, n5, n6, n7, Run.cse, World.cse, Plan.cse]
    refine callK.ro 0 rfl (by kernel_rfl) (by simp [roc_sc, roc_ro, roc_agg, Run.cse, World.cse, Plan.cse]) q4 rfl rfl rfl ?_
    simp [n0, n1, n4, n5, n6, n7, Run.cse, World.cse, Plan.cse]
    refine callK.ro 0 rfl (by kernel_rfl) (by simp [roc_sc, roc_ro, roc_agg, Run.cse, World.cse, Plan.cse]) q5 rfl rfl rfl ?_
    simp [n0, n1, n4, n5, n6, n7, Run.cse, World.cse, Plan.cse]
    refine callK.ro 0 rfl (by kernel_rfl) (by simp [roc_sc, roc_ro, roc_agg, Run.cse, World.cse, Plan.cse]) q6 rfl rfl rfl ?_
    simp [n0, n1, n4, n5, n6, n7, Run.cse, World.cse, Plan.cse]
    refine callK.ro 0 rfl (by kernel_rfl) (by simp [roc_sc, roc_ro, roc_agg, Run.cse, World.cse, Plan.cse]) q7 rfl rfl rfl ?_
    simp [n0, n1, n4, n5, n6, n7, Run.cse, World.cse, Plan.cse]
  have e7 : m7 = m6 - ((x.cache.length + wtL Slot.ty.wt x.cache : Nat) : Int) := e7.resolve_left n7
  refine ⟨m7, .inr ?_, ?_⟩
  · rw [Run.wte]; omega
  refine Ret.run Try.func4 K4 (by simp) rfl rfl 500 ?_
  simp [A4, iniρ, Run.cse, World.cse, Plan.cse, n0, n1, n4, n5, n6, n7]
  refine callK.ro 0 rfl (by kernel_rfl) (by simp [roc_sc, roc_ro, roc_agg, Run.cse, World.cse, Plan.cse]) q0 rfl rfl rfl ?_
  simp [n0, n1, n4, n5, n6, n7, Run.cse, World.cse, Plan.cse]
  refine callK.ro 0 rfl (by kernel_rfl) (by simp [roc_sc, roc_ro, roc_agg, Run.cse, World.cse, Plan.cse]) q1 rfl rfl rfl ?_
  simp [n0, n1, n4, n5, n6, n7, Run.cse, World.cse, Plan.cse]
  refine callK.ro 0 rfl (by kernel_rfl) (by simp [roc_sc, roc_ro, roc_agg, Run.cse, World.cse, Plan.cse]) q4 rfl rfl rfl ?_
  simp [n0, n1, n4, n5, n6, n7, Run.cse, World.cse, Plan.cse]
  refine callK.ro 0 rfl (by kernel_rfl) (by simp [roc_sc, roc_ro, roc_agg, Run.cse, World.cse, Plan.cse]) q5 rfl rfl rfl ?_
  simp [n0, n1, n4, n5, n6, n7, Run.cse, World.cse, Plan.cse]
  refine callK.ro 0 rfl (by kernel_rfl) (by simp [roc_sc, roc_ro, roc_agg, Run.cse, World.cse, Plan.cse]) q6 rfl rfl rfl ?_
  simp [n0, n1, n4, n5, n6, n7, Run.cse, World.cse, Plan.cse]
  refine callK.ro 0 rfl (by kernel_rfl) (by simp [roc_sc, roc_ro, roc_agg, Run.cse, World.cse, Plan.cse]) q7 rfl rfl rfl ?_
  simp [n0, n1, n4, n5, n6, n7, Run.cse, World.cse, Plan.cse]
/- 6: loop.example/g00464/laws.toRun -/
def A6 : AC := (.seq (.ops [⟨(some 1), none, .w (.box (.t 0))⟩, ⟨(some 2), none, .w (.alloc [.em, .em, .em, .em, .em, .em, (.sc (.int .i64 0)), (.sc (.bool false)), .em, .em, .em, .em])⟩])
  (.seq (.ops [⟨(some 3), none, .w (.alloc [.em, .em, .em, .em, .em, .em, (.sc (.int .i64 0)), (.sc (.bool false)), .em, .em, .em, .em])⟩])
  (.seq (.ops [⟨(some 4), none, .q (.fadr 0 (.t 1))⟩, ⟨(some 5), none, .q (.load true 4 (.t 4))⟩, ⟨(some 6), none, .c (.c (.clo 16 [])) [(.t 5)]⟩, ⟨(some 7), none, .q (.fadr 0 (.t 3))⟩, ⟨none, none, .w (.store 4 (.t 7) (.t 6))⟩])
  (.seq (.ops [⟨(some 8), none, .q (.fadr 4 (.t 1))⟩, ⟨(some 9), none, .q (.load true 2 (.t 8))⟩, ⟨(some 10), none, .c (.c (.clo 17 [])) [(.t 9)]⟩, ⟨(some 11), none, .q (.fadr 4 (.t 3))⟩, ⟨none, none, .w (.store 2 (.t 11) (.t 10))⟩])
  (.seq (.ops [⟨(some 12), none, .q (.fadr 6 (.t 1))⟩, ⟨(some 13), none, .q (.load false 1 (.t 12))⟩, ⟨(some 14), none, .q (.fadr 6 (.t 3))⟩, ⟨none, none, .w (.store 1 (.t 14) (.t 13))⟩])
  (.seq (.ops [⟨(some 15), none, .q (.fadr 7 (.t 1))⟩, ⟨(some 16), none, .q (.load false 1 (.t 15))⟩, ⟨(some 17), none, .q (.fadr 7 (.t 3))⟩, ⟨none, none, .w (.store 1 (.t 17) (.t 16))⟩])
  (.seq (.ops [⟨(some 18), none, .q (.fadr 8 (.t 1))⟩, ⟨(some 19), none, .q (.load false 1 (.t 18))⟩, ⟨(some 20), none, .c (.c (.clo 18 [])) [(.t 19)]⟩, ⟨(some 21), none, .q (.fadr 8 (.t 3))⟩, ⟨none, none, .w (.store 1 (.t 21) (.t 20))⟩])
  (.seq (.ops [⟨(some 22), none, .q (.fadr 9 (.t 1))⟩, ⟨(some 23), none, .q (.load false 1 (.t 22))⟩, ⟨(some 24), none, .c (.c (.clo 19 [])) [(.t 23)]⟩, ⟨(some 25), none, .q (.fadr 9 (.t 3))⟩, ⟨none, none, .w (.store 1 (.t 25) (.t 24))⟩])
  (.seq (.ops [⟨(some 26), none, .q (.fadr 10 (.t 1))⟩, ⟨(some 27), none, .q (.load false 1 (.t 26))⟩, ⟨(some 28), none, .c (.c (.clo 20 [])) [(.t 27)]⟩, ⟨(some 29), none, .q (.fadr 10 (.t 3))⟩, ⟨none, none, .w (.store 1 (.t 29) (.t 28))⟩])
  (.seq (.ops [⟨(some 30), none, .q (.fadr 11 (.t 1))⟩, ⟨(some 31), none, .q (.load false 1 (.t 30))⟩, ⟨(some 32), none, .c (.c (.clo 21 [])) [(.t 31)]⟩, ⟨(some 33), none, .q (.fadr 11 (.t 3))⟩, ⟨none, none, .w (.store 1 (.t 33) (.t 32))⟩])
  (.seq (.ops [⟨(some 34), none, .q (.load true 12 (.t 3))⟩, ⟨none, none, .w (.store 12 (.t 2) (.t 34))⟩])
  .ret)))))))))))
theorem K6 : Try.f6.body.bind (comp Try.prog) = some A6 ∧ Try.f6.ntmps = 35 ∧ Try.f6.results.toList.mapM (resB Try.prog) = some [.load true 12 (.t 2)] := ⟨by kernel_rfl, by kernel_rfl, by kernel_rfl⟩
theorem R6 (x : Run) (hx : Run.ty.ok x) : Ret Try.prog 6 [.agg (Run.ty.cs x)] (.agg (Run.ty.oc x)) [.un] := by
  obtain ⟨o0, o1, o2, o3, o4, o5, o6, o7, _⟩ := hx
  refine Ret.run Try.func6 K6 (by simp) rfl rfl 500 ?_
  simp [A6, iniρ, Run.cse, World.cse, Plan.cse, over, ex1, Run.oce, World.oce, Plan.oce, str_ocl, strs_ocl, Pack.ocl, Pack.frL, Rule.ocl, Rule.frL, File.ocl, File.frL, Env.ocl, Env.frL, Ty.str.frL, Ty.str.slice.frL, Made.ocl, Made.frL, Mark.ocl, Mark.frL, Slot.ocl, Slot.frL]
  refine callK.ro 500 rfl (by kernel_rfl) (by simp [roc_sc, roc_ro, roc_agg, Run.cse, World.cse, Plan.cse]) (R16 x.w o0) (by simpa [flt] using World.ty.flL x.w) (by simp [inst, instL, World.oce, upd_app]; exact ⟨rfl, rfl⟩) rfl ?_
  simp [over, ex1, Run.oce, World.oce, Plan.oce, str_ocl, strs_ocl, Pack.ocl, Pack.frL, Rule.ocl, Rule.frL, File.ocl, File.frL, Env.ocl, Env.frL, Ty.str.frL, Ty.str.slice.frL, Made.ocl, Made.frL, Mark.ocl, Mark.frL, Slot.ocl, Slot.frL]
  refine callK.ro 501 rfl (by kernel_rfl) (by simp [roc_sc, roc_ro, roc_agg, Run.cse, World.cse, Plan.cse]) (R17 x.p o1) (by simpa [flt] using Plan.ty.flL x.p) (by simp [inst, instL, Plan.oce, upd_app]; exact ⟨rfl, rfl⟩) rfl ?_
  simp [over, ex1, Run.oce, World.oce, Plan.oce, str_ocl, strs_ocl, Pack.ocl, Pack.frL, Rule.ocl, Rule.frL, File.ocl, File.frL, Env.ocl, Env.frL, Ty.str.frL, Ty.str.slice.frL, Made.ocl, Made.frL, Mark.ocl, Mark.frL, Slot.ocl, Slot.frL]
  refine callK.own 504 rfl (by kernel_rfl) (by simp [roc_sc, roc_ro, roc_agg, Run.cse, World.cse, Plan.cse]) (R18 x.made o4) (Made.ty.flo x.made) (by simp) rfl ?_
  simp [over, ex1, Run.oce, World.oce, Plan.oce, str_ocl, strs_ocl, Pack.ocl, Pack.frL, Rule.ocl, Rule.frL, File.ocl, File.frL, Env.ocl, Env.frL, Ty.str.frL, Ty.str.slice.frL, Made.ocl, Made.frL, Mark.ocl, Mark.frL, Slot.ocl, Slot.frL]
  refine callK.own 505 rfl (by kernel_rfl) (by simp [roc_sc, roc_ro, roc_agg, Run.cse, World.cse, Plan.cse]) (R19 x.marks o5) (Mark.ty.flo x.marks) (by simp) rfl ?_
  simp [over, ex1, Run.oce, World.oce, Plan.oce, str_ocl, strs_ocl, Pack.ocl, Pack.frL, Rule.ocl, Rule.frL, File.ocl, File.frL, Env.ocl, Env.frL, Ty.str.frL, Ty.str.slice.frL, Made.ocl, Made.frL, Mark.ocl, Mark.frL, Slot.ocl, Slot.frL]
  refine callK.own 506 rfl (by kernel_rfl) (by simp [roc_sc, roc_ro, roc_agg, Run.cse, World.cse, Plan.cse]) (R20 x.going o6) (Ty.str.flo x.going) (by simp) rfl ?_
  simp [over, ex1, Run.oce, World.oce, Plan.oce, str_ocl, strs_ocl, Pack.ocl, Pack.frL, Rule.ocl, Rule.frL, File.ocl, File.frL, Env.ocl, Env.frL, Ty.str.frL, Ty.str.slice.frL, Made.ocl, Made.frL, Mark.ocl, Mark.frL, Slot.ocl, Slot.frL]
  refine callK.own 507 rfl (by kernel_rfl) (by simp [roc_sc, roc_ro, roc_agg, Run.cse, World.cse, Plan.cse]) (R21 x.cache o7) (Slot.ty.flo x.cache) (by simp) rfl ?_
  simp [over, ex1, Run.oce, World.oce, Plan.oce, str_ocl, strs_ocl, Pack.ocl, Pack.frL, Rule.ocl, Rule.frL, File.ocl, File.frL, Env.ocl, Env.frL, Ty.str.frL, Ty.str.slice.frL, Made.ocl, Made.frL, Mark.ocl, Mark.frL, Slot.ocl, Slot.frL]
/- 8: loop.example/g00464/laws.eqRun -/
def A8 : AC := (.seq (.ops [⟨(some 2), none, .w (.box (.t 0))⟩, ⟨(some 3), none, .w (.box (.t 1))⟩, ⟨(some 4), none, .q (.mov (.c (.sc (.bool false))))⟩])
  (.seq (.seq (.ops [⟨(some 5), none, .q (.fadr 0 (.t 2))⟩, ⟨(some 6), none, .q (.load true 4 (.t 5))⟩, ⟨(some 7), none, .q (.fadr 0 (.t 3))⟩, ⟨(some 8), none, .q (.load true 4 (.t 7))⟩, ⟨(some 9), none, .c (.c (.clo 23 [])) [(.t 6), (.t 8)]⟩, ⟨(some 10), none, .q (.not (.t 9))⟩])
  (.cond (.t 10) (.seq (.ops [⟨(some 4), none, .q (.mov (.c (.sc (.bool false))))⟩])
  .ret)
  .skip))
  (.seq (.seq (.ops [⟨(some 11), none, .q (.fadr 4 (.t 2))⟩, ⟨(some 12), none, .q (.load true 2 (.t 11))⟩, ⟨(some 13), none, .q (.fadr 4 (.t 3))⟩, ⟨(some 14), none, .q (.load true 2 (.t 13))⟩, ⟨(some 15), none, .c (.c (.clo 24 [])) [(.t 12), (.t 14)]⟩, ⟨(some 16), none, .q (.not (.t 15))⟩])
  (.cond (.t 16) (.seq (.ops [⟨(some 4), none, .q (.mov (.c (.sc (.bool false))))⟩])
  .ret)
  .skip))
  (.seq (.seq (.ops [⟨(some 17), none, .q (.fadr 6 (.t 2))⟩, ⟨(some 18), none, .q (.load false 1 (.t 17))⟩, ⟨(some 19), none, .q (.fadr 6 (.t 3))⟩, ⟨(some 20), none, .q (.load false 1 (.t 19))⟩, ⟨(some 21), none, .q (.bin .neq (.t 18) (.t 20))⟩])
  (.cond (.t 21) (.seq (.ops [⟨(some 4), none, .q (.mov (.c (.sc (.bool false))))⟩])
  .ret)
  .skip))
  (.seq (.seq (.ops [⟨(some 22), none, .q (.fadr 7 (.t 2))⟩, ⟨(some 23), none, .q (.load false 1 (.t 22))⟩, ⟨(some 24), none, .q (.fadr 7 (.t 3))⟩, ⟨(some 25), none, .q (.load false 1 (.t 24))⟩, ⟨(some 26), none, .q (.beq true (.t 23) (.t 25))⟩])
  (.cond (.t 26) (.seq (.ops [⟨(some 4), none, .q (.mov (.c (.sc (.bool false))))⟩])
  .ret)
  .skip))
  (.seq (.seq (.ops [⟨(some 27), none, .q (.fadr 8 (.t 2))⟩, ⟨(some 28), none, .q (.load false 1 (.t 27))⟩, ⟨(some 29), none, .q (.fadr 8 (.t 3))⟩, ⟨(some 30), none, .q (.load false 1 (.t 29))⟩, ⟨(some 31), none, .c (.c (.clo 25 [])) [(.t 28), (.t 30)]⟩, ⟨(some 32), none, .q (.not (.t 31))⟩])
  (.cond (.t 32) (.seq (.ops [⟨(some 4), none, .q (.mov (.c (.sc (.bool false))))⟩])
  .ret)
  .skip))
  (.seq (.seq (.ops [⟨(some 33), none, .q (.fadr 9 (.t 2))⟩, ⟨(some 34), none, .q (.load false 1 (.t 33))⟩, ⟨(some 35), none, .q (.fadr 9 (.t 3))⟩, ⟨(some 36), none, .q (.load false 1 (.t 35))⟩, ⟨(some 37), none, .c (.c (.clo 26 [])) [(.t 34), (.t 36)]⟩, ⟨(some 38), none, .q (.not (.t 37))⟩])
  (.cond (.t 38) (.seq (.ops [⟨(some 4), none, .q (.mov (.c (.sc (.bool false))))⟩])
  .ret)
  .skip))
  (.seq (.seq (.ops [⟨(some 39), none, .q (.fadr 10 (.t 2))⟩, ⟨(some 40), none, .q (.load false 1 (.t 39))⟩, ⟨(some 41), none, .q (.fadr 10 (.t 3))⟩, ⟨(some 42), none, .q (.load false 1 (.t 41))⟩, ⟨(some 43), none, .c (.c (.clo 27 [])) [(.t 40), (.t 42)]⟩, ⟨(some 44), none, .q (.not (.t 43))⟩])
  (.cond (.t 44) (.seq (.ops [⟨(some 4), none, .q (.mov (.c (.sc (.bool false))))⟩])
  .ret)
  .skip))
  (.seq (.seq (.ops [⟨(some 45), none, .q (.fadr 11 (.t 2))⟩, ⟨(some 46), none, .q (.load false 1 (.t 45))⟩, ⟨(some 47), none, .q (.fadr 11 (.t 3))⟩, ⟨(some 48), none, .q (.load false 1 (.t 47))⟩, ⟨(some 49), none, .c (.c (.clo 28 [])) [(.t 46), (.t 48)]⟩, ⟨(some 50), none, .q (.not (.t 49))⟩])
  (.cond (.t 50) (.seq (.ops [⟨(some 4), none, .q (.mov (.c (.sc (.bool false))))⟩])
  .ret)
  .skip))
  (.seq (.ops [⟨(some 4), none, .q (.mov (.c (.sc (.bool true))))⟩])
  .ret))))))))))
theorem K8 : Try.f8.body.bind (comp Try.prog) = some A8 ∧ Try.f8.ntmps = 51 ∧ Try.f8.results.toList.mapM (resB Try.prog) = some [.mov (.t 4)] := ⟨by kernel_rfl, by kernel_rfl, by kernel_rfl⟩
theorem R8 (x : Run) (hx : Run.ty.ok x) : Ret Try.prog 8 [.agg (Run.ty.cs x), .agg (Run.ty.cs x)] (.sc (.bool true)) [.un, .un] := by
  obtain ⟨o0, o1, o2, o3, o4, o5, o6, o7, _⟩ := hx
  refine Ret.run Try.func8 K8 (by simp) rfl rfl 500 ?_
  simp [A8, iniρ, Run.cse, World.cse, Plan.cse]
  refine callK.ro 0 rfl (by kernel_rfl) (by simp [roc_sc, roc_ro, roc_agg, Run.cse, World.cse, Plan.cse]) (R23 x.w o0) rfl rfl rfl ?_
  simp [Run.cse, World.cse, Plan.cse]
  refine callK.ro 0 rfl (by kernel_rfl) (by simp [roc_sc, roc_ro, roc_agg, Run.cse, World.cse, Plan.cse]) (R24 x.p o1) rfl rfl rfl ?_
  simp [Run.cse, World.cse, Plan.cse]
  refine callK.ro 0 rfl (by kernel_rfl) (by simp [roc_sc, roc_ro, roc_agg, Run.cse, World.cse, Plan.cse]) (R25 x.made o4) rfl rfl rfl ?_
  simp [Run.cse, World.cse, Plan.cse]
  refine callK.ro 0 rfl (by kernel_rfl) (by simp [roc_sc, roc_ro, roc_agg, Run.cse, World.cse, Plan.cse]) (R26 x.marks o5) rfl rfl rfl ?_
  simp [Run.cse, World.cse, Plan.cse]
  refine callK.ro 0 rfl (by kernel_rfl) (by simp [roc_sc, roc_ro, roc_agg, Run.cse, World.cse, Plan.cse]) (R27 x.going o6) rfl rfl rfl ?_
  simp [Run.cse, World.cse, Plan.cse]
  refine callK.ro 0 rfl (by kernel_rfl) (by simp [roc_sc, roc_ro, roc_agg, Run.cse, World.cse, Plan.cse]) (R28 x.cache o7) rfl rfl rfl ?_
  simp [Run.cse, World.cse, Plan.cse]
end Go.Proofs.Ytaknfalbmblagaa.Am
