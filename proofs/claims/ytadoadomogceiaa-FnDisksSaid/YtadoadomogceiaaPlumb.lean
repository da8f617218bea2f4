/- The functions of the program, each by its contract: Plumb; no condition. -/
import Derived.Test.YtadoadomogceiaaProg
import Derived.Test.YtadoadomogceiaaAmZ
import Derived.Test.YtadoadomogceiaaAmP
import Derived.Test.YtadoadomogceiaaBase
import Derived.Test.YtadoadomogceiaaTypes
import Derived.KernelRfl
namespace Go.Proofs.Ytadoadomogceiaa.Am
open Go Go.Proofs
set_option linter.unusedSimpArgs false
set_option linter.unusedVariables false
attribute [local congr] T_congr callK_congr callWK_congr
attribute [local simp] run_nil run_op0 run_opg run_seq run_cond run_block run_ret run_skip run_skip_after run_skip_blk run_exit run_exit_after run_exit_blk run_loop run_any runS_nil runS_op0 runS_opg runW_nil runW_op0 runW_opg exec_q exec_w exec_c exec_n execW_q execW_w execW_c restW_app hideH_app merge_app wblk rest_app restS_app execS_q execS_c aval dOk upd_app ev_t ev_c setO_some setO_none put_mk pinsOf isIo hasIo sbin endR fin resL one outL out1 clo1 cloL coe coeL shut shut.shutL wantA weff cellsOf fillA deref natOf ρ0_app h0_app plain plain.plainL keep_app keepH_app andThen_normal andThen_ret andThen_exit pop_nil pop_after pop_after_ret pop_after_exit pop_blk pop_blk_ret pop_blk_exit nilA srcOf srcCells keepR_app keepHR_app renA rb
/- 134: loop.example/g00464/laws.szFile -/
def A134 : AC := (.seq (.ops [⟨(some 2), none, .w (.box (.t 0))⟩, ⟨(some 4), none, .q (.mov (.c (.sc (.int .i64 0))))⟩])
  (.seq (.ops [⟨(some 5), none, .q (.mov (.t 1))⟩, ⟨(some 6), none, .q (.fadr 0 (.t 2))⟩, ⟨(some 7), none, .q (.load false 1 (.t 6))⟩, ⟨(some 8), none, .q (.slen (.t 7))⟩, ⟨(some 9), none, .q (.bin .sub (.t 5) (.t 8))⟩, ⟨(some 1), none, .q (.mov (.t 9))⟩])
  (.seq (.seq (.ops [⟨(some 10), none, .q (.mov (.t 1))⟩, ⟨(some 11), none, .q (.bin .lss (.t 10) (.c (.sc (.int .i64 0))))⟩])
  (.cond (.t 11) (.seq (.ops [⟨(some 4), none, .q (.mov (.c (.sc (.int .i64 (-1)))))⟩])
  .ret)
  .skip))
  (.seq (.ops [⟨(some 12), none, .q (.mov (.t 1))⟩, ⟨(some 13), none, .q (.fadr 1 (.t 2))⟩, ⟨(some 14), none, .q (.load false 1 (.t 13))⟩, ⟨(some 15), none, .q (.slen (.t 14))⟩, ⟨(some 16), none, .q (.bin .sub (.t 12) (.t 15))⟩, ⟨(some 1), none, .q (.mov (.t 16))⟩])
  (.seq (.seq (.ops [⟨(some 17), none, .q (.mov (.t 1))⟩, ⟨(some 18), none, .q (.bin .lss (.t 17) (.c (.sc (.int .i64 0))))⟩])
  (.cond (.t 18) (.seq (.ops [⟨(some 4), none, .q (.mov (.c (.sc (.int .i64 (-1)))))⟩])
  .ret)
  .skip))
  (.seq (.ops [⟨(some 19), none, .q (.mov (.t 1))⟩, ⟨(some 4), none, .q (.mov (.t 19))⟩])
  .ret))))))
theorem K134 : Try.f134.body.bind (comp Try.prog) = some A134 ∧ Try.f134.ntmps = 20 ∧ Try.f134.results.toList.mapM (resB Try.prog) = some [.mov (.t 4)] := ⟨by kernel_rfl, by kernel_rfl, by kernel_rfl⟩
theorem R134 (x : File) (hx : File.ty.ok x) : Sz Try.prog 134 (.agg (File.ty.cs x)) (File.ty.wt x) := by
  intro l h0 h1
  obtain ⟨o0, o1, _⟩ := hx
  have o0 : x.path.size ≤ 140737488351232 := o0
  have w0 : IntKind.i64.wrap (l - x.path.size) = l - x.path.size := wrap_i64 (by omega) (by omega)
  by_cases n0 : l - (x.path.size : Int) < 0
  · refine ⟨-1, .inl (by decide), ?_⟩
    refine Ret.run Try.func134 K134 (by simp) rfl rfl 500 ?_
    simp [A134, iniρ, File.cse, w0, n0]
    try omega
  have p0 : 0 ≤ (l - (x.path.size : Int)) := by omega
  have o1 : x.text.size ≤ 140737488351232 := o1
  have w1 : IntKind.i64.wrap ((l - (x.path.size : Int)) - x.text.size) = (l - (x.path.size : Int)) - x.text.size := wrap_i64 (by omega) (by omega)
  by_cases n1 : (l - (x.path.size : Int)) - (x.text.size : Int) < 0
  · refine ⟨-1, .inl (by decide), ?_⟩
    refine Ret.run Try.func134 K134 (by simp) rfl rfl 500 ?_
    simp [A134, iniρ, File.cse, w0, n0, w1, n1]
    try omega
  have p1 : 0 ≤ ((l - (x.path.size : Int)) - (x.text.size : Int)) := by omega
  refine ⟨((l - (x.path.size : Int)) - (x.text.size : Int)), .inr ?_, ?_⟩
  · rw [File.wte]; omega
  refine Ret.run Try.func134 K134 (by simp) rfl rfl 500 ?_
  simp [A134, iniρ, File.cse, w0, n0, w1, n1]
theorem R74 (xs : List File) (hx : File.ty.slice.ok xs) : Sz Try.prog 74 (.ro (rows File.ty.cs xs) xs.length) (File.ty.slice.wt xs) := Sz.slice File.ty (agg := true) Try.func74 ⟨by kernel_rfl, by kernel_rfl, by kernel_rfl⟩ (by kernel_rfl) (by simp) xs (fun x h => R134 x (hx.2 x h)) (File.ty.lenb (by decide) hx)
/- 137: loop.example/g00464/laws.toFile -/
def A137 : AC := (.seq (.ops [⟨(some 1), none, .w (.box (.t 0))⟩, ⟨(some 2), none, .w (.alloc [(.sc (.string ⟨#[]⟩)), (.sc (.string ⟨#[]⟩))])⟩])
  (.seq (.ops [⟨(some 3), none, .w (.alloc [(.sc (.string ⟨#[]⟩)), (.sc (.string ⟨#[]⟩))])⟩])
  (.seq (.ops [⟨(some 4), none, .q (.fadr 0 (.t 1))⟩, ⟨(some 5), none, .q (.load false 1 (.t 4))⟩, ⟨(some 6), none, .q (.fadr 0 (.t 3))⟩, ⟨none, none, .w (.store 1 (.t 6) (.t 5))⟩])
  (.seq (.ops [⟨(some 7), none, .q (.fadr 1 (.t 1))⟩, ⟨(some 8), none, .q (.load false 1 (.t 7))⟩, ⟨(some 9), none, .q (.fadr 1 (.t 3))⟩, ⟨none, none, .w (.store 1 (.t 9) (.t 8))⟩])
  (.seq (.ops [⟨(some 10), none, .q (.load true 2 (.t 3))⟩, ⟨none, none, .w (.store 2 (.t 2) (.t 10))⟩])
  .ret)))))
theorem K137 : Try.f137.body.bind (comp Try.prog) = some A137 ∧ Try.f137.ntmps = 11 ∧ Try.f137.results.toList.mapM (resB Try.prog) = some [.load true 2 (.t 2)] := ⟨by kernel_rfl, by kernel_rfl, by kernel_rfl⟩
theorem R137 (x : File) (hx : File.ty.ok x) : Ret Try.prog 137 [.agg (File.ty.cs x)] (.agg (File.ty.oc x)) [.un] := by
  obtain ⟨o0, o1, _⟩ := hx
  refine Ret.run Try.func137 K137 (by simp) rfl rfl 500 ?_
  simp [A137, iniρ, File.cse, over, ex1, File.oce]
theorem R81 (xs : List File) (hx : File.ty.slice.ok xs) : Ret Try.prog 81 [.ro (rows File.ty.cs xs) xs.length] (.own (rows File.ty.oc xs) xs.length 2) [.un] := Ret.toS File.ty Try.func81 ⟨by kernel_rfl, by kernel_rfl, by kernel_rfl⟩ (by kernel_rfl) (fun x h => R137 x h) (by decide) (by decide) xs hx
/- 140: loop.example/g00464/laws.eqFile -/
def A140 : AC := (.seq (.ops [⟨(some 2), none, .w (.box (.t 0))⟩, ⟨(some 3), none, .w (.box (.t 1))⟩, ⟨(some 4), none, .q (.mov (.c (.sc (.bool false))))⟩])
  (.seq (.seq (.ops [⟨(some 5), none, .q (.fadr 0 (.t 2))⟩, ⟨(some 6), none, .q (.load false 1 (.t 5))⟩, ⟨(some 7), none, .q (.fadr 0 (.t 3))⟩, ⟨(some 8), none, .q (.load false 1 (.t 7))⟩, ⟨(some 9), none, .q (.bin .neq (.t 6) (.t 8))⟩])
  (.cond (.t 9) (.seq (.ops [⟨(some 4), none, .q (.mov (.c (.sc (.bool false))))⟩])
  .ret)
  .skip))
  (.seq (.seq (.ops [⟨(some 10), none, .q (.fadr 1 (.t 2))⟩, ⟨(some 11), none, .q (.load false 1 (.t 10))⟩, ⟨(some 12), none, .q (.fadr 1 (.t 3))⟩, ⟨(some 13), none, .q (.load false 1 (.t 12))⟩, ⟨(some 14), none, .q (.bin .neq (.t 11) (.t 13))⟩])
  (.cond (.t 14) (.seq (.ops [⟨(some 4), none, .q (.mov (.c (.sc (.bool false))))⟩])
  .ret)
  .skip))
  (.seq (.ops [⟨(some 4), none, .q (.mov (.c (.sc (.bool true))))⟩])
  .ret))))
theorem K140 : Try.f140.body.bind (comp Try.prog) = some A140 ∧ Try.f140.ntmps = 15 ∧ Try.f140.results.toList.mapM (resB Try.prog) = some [.mov (.t 4)] := ⟨by kernel_rfl, by kernel_rfl, by kernel_rfl⟩
theorem R140 (x : File) (hx : File.ty.ok x) : Ret Try.prog 140 [.agg (File.ty.cs x), .agg (File.ty.cs x)] (.sc (.bool true)) [.un, .un] := by
  obtain ⟨o0, o1, _⟩ := hx
  refine Ret.run Try.func140 K140 (by simp) rfl rfl 500 ?_
  simp [A140, iniρ, File.cse]
theorem R88 (xs : List File) (hx : File.ty.slice.ok xs) : Ret Try.prog 88 [.ro (rows File.ty.cs xs) xs.length, .ro (rows File.ty.cs xs) xs.length] (.sc (.bool true)) [.un, .un] := Ret.eqS mixed File.ty (agg := true) Try.func88 ⟨by kernel_rfl, by kernel_rfl, by kernel_rfl⟩ (by kernel_rfl) (by simp) xs (fun x h => R140 x (hx.2 x h)) (File.ty.lenb (by decide) hx)
/- 205: loop.example/g00464/laws.szNeed -/
def A205 : AC := (.seq (.ops [⟨(some 2), none, .w (.box (.t 0))⟩, ⟨(some 4), none, .q (.mov (.c (.sc (.int .i64 0))))⟩])
  (.seq (.ops [⟨(some 5), none, .q (.mov (.t 1))⟩, ⟨(some 6), none, .q (.fadr 0 (.t 2))⟩, ⟨(some 7), none, .q (.load false 1 (.t 6))⟩, ⟨(some 8), none, .q (.slen (.t 7))⟩, ⟨(some 9), none, .q (.bin .sub (.t 5) (.t 8))⟩, ⟨(some 1), none, .q (.mov (.t 9))⟩])
  (.seq (.seq (.ops [⟨(some 10), none, .q (.mov (.t 1))⟩, ⟨(some 11), none, .q (.bin .lss (.t 10) (.c (.sc (.int .i64 0))))⟩])
  (.cond (.t 11) (.seq (.ops [⟨(some 4), none, .q (.mov (.c (.sc (.int .i64 (-1)))))⟩])
  .ret)
  .skip))
  (.seq (.ops [⟨(some 12), none, .q (.mov (.t 1))⟩, ⟨(some 13), none, .q (.fadr 1 (.t 2))⟩, ⟨(some 14), none, .q (.load false 1 (.t 13))⟩, ⟨(some 15), none, .q (.slen (.t 14))⟩, ⟨(some 16), none, .q (.bin .sub (.t 12) (.t 15))⟩, ⟨(some 1), none, .q (.mov (.t 16))⟩])
  (.seq (.seq (.ops [⟨(some 17), none, .q (.mov (.t 1))⟩, ⟨(some 18), none, .q (.bin .lss (.t 17) (.c (.sc (.int .i64 0))))⟩])
  (.cond (.t 18) (.seq (.ops [⟨(some 4), none, .q (.mov (.c (.sc (.int .i64 (-1)))))⟩])
  .ret)
  .skip))
  (.seq (.ops [⟨(some 19), none, .q (.mov (.t 1))⟩, ⟨(some 4), none, .q (.mov (.t 19))⟩])
  .ret))))))
theorem K205 : Try.f205.body.bind (comp Try.prog) = some A205 ∧ Try.f205.ntmps = 20 ∧ Try.f205.results.toList.mapM (resB Try.prog) = some [.mov (.t 4)] := ⟨by kernel_rfl, by kernel_rfl, by kernel_rfl⟩
theorem R205 (x : Need) (hx : Need.ty.ok x) : Sz Try.prog 205 (.agg (Need.ty.cs x)) (Need.ty.wt x) := by
  intro l h0 h1
  obtain ⟨o0, o1, _⟩ := hx
  have o0 : x.name.size ≤ 140737488351232 := o0
  have w0 : IntKind.i64.wrap (l - x.name.size) = l - x.name.size := wrap_i64 (by omega) (by omega)
  by_cases n0 : l - (x.name.size : Int) < 0
  · refine ⟨-1, .inl (by decide), ?_⟩
    refine Ret.run Try.func205 K205 (by simp) rfl rfl 500 ?_
    simp [A205, iniρ, Need.cse, w0, n0]
    try omega
  have p0 : 0 ≤ (l - (x.name.size : Int)) := by omega
  have o1 : x.range.size ≤ 140737488351232 := o1
  have w1 : IntKind.i64.wrap ((l - (x.name.size : Int)) - x.range.size) = (l - (x.name.size : Int)) - x.range.size := wrap_i64 (by omega) (by omega)
  by_cases n1 : (l - (x.name.size : Int)) - (x.range.size : Int) < 0
  · refine ⟨-1, .inl (by decide), ?_⟩
    refine Ret.run Try.func205 K205 (by simp) rfl rfl 500 ?_
    simp [A205, iniρ, Need.cse, w0, n0, w1, n1]
    try omega
  have p1 : 0 ≤ ((l - (x.name.size : Int)) - (x.range.size : Int)) := by omega
  refine ⟨((l - (x.name.size : Int)) - (x.range.size : Int)), .inr ?_, ?_⟩
  · rw [Need.wte]; omega
  refine Ret.run Try.func205 K205 (by simp) rfl rfl 500 ?_
  simp [A205, iniρ, Need.cse, w0, n0, w1, n1]
theorem R196 (xs : List Need) (hx : Need.ty.slice.ok xs) : Sz Try.prog 196 (.ro (rows Need.ty.cs xs) xs.length) (Need.ty.slice.wt xs) := Sz.slice Need.ty (agg := true) Try.func196 ⟨by kernel_rfl, by kernel_rfl, by kernel_rfl⟩ (by kernel_rfl) (by simp) xs (fun x h => R205 x (hx.2 x h)) (Need.ty.lenb (by decide) hx)
/- 207: loop.example/g00464/laws.toNeed -/
def A207 : AC := (.seq (.ops [⟨(some 1), none, .w (.box (.t 0))⟩, ⟨(some 2), none, .w (.alloc [(.sc (.string ⟨#[]⟩)), (.sc (.string ⟨#[]⟩))])⟩])
  (.seq (.ops [⟨(some 3), none, .w (.alloc [(.sc (.string ⟨#[]⟩)), (.sc (.string ⟨#[]⟩))])⟩])
  (.seq (.ops [⟨(some 4), none, .q (.fadr 0 (.t 1))⟩, ⟨(some 5), none, .q (.load false 1 (.t 4))⟩, ⟨(some 6), none, .q (.fadr 0 (.t 3))⟩, ⟨none, none, .w (.store 1 (.t 6) (.t 5))⟩])
  (.seq (.ops [⟨(some 7), none, .q (.fadr 1 (.t 1))⟩, ⟨(some 8), none, .q (.load false 1 (.t 7))⟩, ⟨(some 9), none, .q (.fadr 1 (.t 3))⟩, ⟨none, none, .w (.store 1 (.t 9) (.t 8))⟩])
  (.seq (.ops [⟨(some 10), none, .q (.load true 2 (.t 3))⟩, ⟨none, none, .w (.store 2 (.t 2) (.t 10))⟩])
  .ret)))))
theorem K207 : Try.f207.body.bind (comp Try.prog) = some A207 ∧ Try.f207.ntmps = 11 ∧ Try.f207.results.toList.mapM (resB Try.prog) = some [.load true 2 (.t 2)] := ⟨by kernel_rfl, by kernel_rfl, by kernel_rfl⟩
theorem R207 (x : Need) (hx : Need.ty.ok x) : Ret Try.prog 207 [.agg (Need.ty.cs x)] (.agg (Need.ty.oc x)) [.un] := by
  obtain ⟨o0, o1, _⟩ := hx
  refine Ret.run Try.func207 K207 (by simp) rfl rfl 500 ?_
  simp [A207, iniρ, Need.cse, over, ex1, Need.oce]
theorem R198 (xs : List Need) (hx : Need.ty.slice.ok xs) : Ret Try.prog 198 [.ro (rows Need.ty.cs xs) xs.length] (.own (rows Need.ty.oc xs) xs.length 2) [.un] := Ret.toS Need.ty Try.func198 ⟨by kernel_rfl, by kernel_rfl, by kernel_rfl⟩ (by kernel_rfl) (fun x h => R207 x h) (by decide) (by decide) xs hx
/- 209: loop.example/g00464/laws.eqNeed -/
def A209 : AC := (.seq (.ops [⟨(some 2), none, .w (.box (.t 0))⟩, ⟨(some 3), none, .w (.box (.t 1))⟩, ⟨(some 4), none, .q (.mov (.c (.sc (.bool false))))⟩])
  (.seq (.seq (.ops [⟨(some 5), none, .q (.fadr 0 (.t 2))⟩, ⟨(some 6), none, .q (.load false 1 (.t 5))⟩, ⟨(some 7), none, .q (.fadr 0 (.t 3))⟩, ⟨(some 8), none, .q (.load false 1 (.t 7))⟩, ⟨(some 9), none, .q (.bin .neq (.t 6) (.t 8))⟩])
  (.cond (.t 9) (.seq (.ops [⟨(some 4), none, .q (.mov (.c (.sc (.bool false))))⟩])
  .ret)
  .skip))
  (.seq (.seq (.ops [⟨(some 10), none, .q (.fadr 1 (.t 2))⟩, ⟨(some 11), none, .q (.load false 1 (.t 10))⟩, ⟨(some 12), none, .q (.fadr 1 (.t 3))⟩, ⟨(some 13), none, .q (.load false 1 (.t 12))⟩, ⟨(some 14), none, .q (.bin .neq (.t 11) (.t 13))⟩])
  (.cond (.t 14) (.seq (.ops [⟨(some 4), none, .q (.mov (.c (.sc (.bool false))))⟩])
  .ret)
  .skip))
  (.seq (.ops [⟨(some 4), none, .q (.mov (.c (.sc (.bool true))))⟩])
  .ret))))
theorem K209 : Try.f209.body.bind (comp Try.prog) = some A209 ∧ Try.f209.ntmps = 15 ∧ Try.f209.results.toList.mapM (resB Try.prog) = some [.mov (.t 4)] := ⟨by kernel_rfl, by kernel_rfl, by kernel_rfl⟩
theorem R209 (x : Need) (hx : Need.ty.ok x) : Ret Try.prog 209 [.agg (Need.ty.cs x), .agg (Need.ty.cs x)] (.sc (.bool true)) [.un, .un] := by
  obtain ⟨o0, o1, _⟩ := hx
  refine Ret.run Try.func209 K209 (by simp) rfl rfl 500 ?_
  simp [A209, iniρ, Need.cse]
theorem R200 (xs : List Need) (hx : Need.ty.slice.ok xs) : Ret Try.prog 200 [.ro (rows Need.ty.cs xs) xs.length, .ro (rows Need.ty.cs xs) xs.length] (.sc (.bool true)) [.un, .un] := Ret.eqS mixed Need.ty (agg := true) Try.func200 ⟨by kernel_rfl, by kernel_rfl, by kernel_rfl⟩ (by kernel_rfl) (by simp) xs (fun x h => R209 x (hx.2 x h)) (Need.ty.lenb (by decide) hx)
/- 206: loop.example/g00464/laws.szCmd -/
def A206 : AC := (.seq (.ops [⟨(some 2), none, .w (.box (.t 0))⟩, ⟨(some 4), none, .q (.mov (.c (.sc (.int .i64 0))))⟩])
  (.seq (.ops [⟨(some 5), none, .q (.mov (.t 1))⟩, ⟨(some 6), none, .q (.fadr 0 (.t 2))⟩, ⟨(some 7), none, .q (.load false 1 (.t 6))⟩, ⟨(some 8), none, .q (.slen (.t 7))⟩, ⟨(some 9), none, .q (.bin .sub (.t 5) (.t 8))⟩, ⟨(some 1), none, .q (.mov (.t 9))⟩])
  (.seq (.seq (.ops [⟨(some 10), none, .q (.mov (.t 1))⟩, ⟨(some 11), none, .q (.bin .lss (.t 10) (.c (.sc (.int .i64 0))))⟩])
  (.cond (.t 11) (.seq (.ops [⟨(some 4), none, .q (.mov (.c (.sc (.int .i64 (-1)))))⟩])
  .ret)
  .skip))
  (.seq (.ops [⟨(some 12), none, .q (.fadr 1 (.t 2))⟩, ⟨(some 13), none, .q (.load false 1 (.t 12))⟩, ⟨(some 14), none, .q (.mov (.t 1))⟩, ⟨(some 15), none, .c (.c (.clo 73 [])) [(.t 13), (.t 14)]⟩, ⟨(some 1), none, .q (.mov (.t 15))⟩])
  (.seq (.seq (.ops [⟨(some 16), none, .q (.mov (.t 1))⟩, ⟨(some 17), none, .q (.bin .lss (.t 16) (.c (.sc (.int .i64 0))))⟩])
  (.cond (.t 17) (.seq (.ops [⟨(some 4), none, .q (.mov (.c (.sc (.int .i64 (-1)))))⟩])
  .ret)
  .skip))
  (.seq (.ops [⟨(some 18), none, .q (.mov (.t 1))⟩, ⟨(some 4), none, .q (.mov (.t 18))⟩])
  .ret))))))
theorem K206 : Try.f206.body.bind (comp Try.prog) = some A206 ∧ Try.f206.ntmps = 19 ∧ Try.f206.results.toList.mapM (resB Try.prog) = some [.mov (.t 4)] := ⟨by kernel_rfl, by kernel_rfl, by kernel_rfl⟩
theorem R206 (x : Cmd) (hx : Cmd.ty.ok x) : Sz Try.prog 206 (.agg (Cmd.ty.cs x)) (Cmd.ty.wt x) := by
  intro l h0 h1
  obtain ⟨o0, o1, _⟩ := hx
  have o0 : x.task.size ≤ 140737488351232 := o0
  have w0 : IntKind.i64.wrap (l - x.task.size) = l - x.task.size := wrap_i64 (by omega) (by omega)
  by_cases n0 : l - (x.task.size : Int) < 0
  · refine ⟨-1, .inl (by decide), ?_⟩
    refine Ret.run Try.func206 K206 (by simp) rfl rfl 500 ?_
    simp [A206, iniρ, Cmd.cse, w0, n0]
    try omega
  have p0 : 0 ≤ (l - (x.task.size : Int)) := by omega
  obtain ⟨m1, e1, q1⟩ := R73 x.acts o1 (l - (x.task.size : Int)) (by omega) (by omega)
  by_cases n1 : m1 < 0
  · refine ⟨-1, .inl (by decide), ?_⟩
    refine Ret.run Try.func206 K206 (by simp) rfl rfl 500 ?_
    simp [A206, iniρ, Cmd.cse, w0, n0, n1]
    refine callK.ro 0 rfl (by kernel_rfl) (by simp [roc_sc, roc_ro, roc_agg, Cmd.cse]) q1 rfl rfl rfl ?_
    simp [w0, n0, n1, Cmd.cse]
  have e1 : m1 = (l - (x.task.size : Int)) - ((x.acts.length + wtL Ty.str.wt x.acts : Nat) : Int) := e1.resolve_left n1
  refine ⟨m1, .inr ?_, ?_⟩
  · rw [Cmd.wte]; omega
  refine Ret.run Try.func206 K206 (by simp) rfl rfl 500 ?_
  simp [A206, iniρ, Cmd.cse, w0, n0, n1]
  refine callK.ro 0 rfl (by kernel_rfl) (by simp [roc_sc, roc_ro, roc_agg, Cmd.cse]) q1 rfl rfl rfl ?_
  simp [w0, n0, n1, Cmd.cse]
theorem R197 (xs : List Cmd) (hx : Cmd.ty.slice.ok xs) : Sz Try.prog 197 (.ro (rows Cmd.ty.cs xs) xs.length) (Cmd.ty.slice.wt xs) := Sz.slice Cmd.ty (agg := true) Try.func197 ⟨by kernel_rfl, by kernel_rfl, by kernel_rfl⟩ (by kernel_rfl) (by simp) xs (fun x h => R206 x (hx.2 x h)) (Cmd.ty.lenb (by decide) hx)
/- 208: loop.example/g00464/laws.toCmd -/
def A208 : AC := (.seq (.ops [⟨(some 1), none, .w (.box (.t 0))⟩, ⟨(some 2), none, .w (.alloc [(.sc (.string ⟨#[]⟩)), .em])⟩])
  (.seq (.ops [⟨(some 3), none, .w (.alloc [(.sc (.string ⟨#[]⟩)), .em])⟩])
  (.seq (.ops [⟨(some 4), none, .q (.fadr 0 (.t 1))⟩, ⟨(some 5), none, .q (.load false 1 (.t 4))⟩, ⟨(some 6), none, .q (.fadr 0 (.t 3))⟩, ⟨none, none, .w (.store 1 (.t 6) (.t 5))⟩])
  (.seq (.ops [⟨(some 7), none, .q (.fadr 1 (.t 1))⟩, ⟨(some 8), none, .q (.load false 1 (.t 7))⟩, ⟨(some 9), none, .c (.c (.clo 80 [])) [(.t 8)]⟩, ⟨(some 10), none, .q (.fadr 1 (.t 3))⟩, ⟨none, none, .w (.store 1 (.t 10) (.t 9))⟩])
  (.seq (.ops [⟨(some 11), none, .q (.load true 2 (.t 3))⟩, ⟨none, none, .w (.store 2 (.t 2) (.t 11))⟩])
  .ret)))))
theorem K208 : Try.f208.body.bind (comp Try.prog) = some A208 ∧ Try.f208.ntmps = 12 ∧ Try.f208.results.toList.mapM (resB Try.prog) = some [.load true 2 (.t 2)] := ⟨by kernel_rfl, by kernel_rfl, by kernel_rfl⟩
theorem R208 (x : Cmd) (hx : Cmd.ty.ok x) : Ret Try.prog 208 [.agg (Cmd.ty.cs x)] (.agg (Cmd.ty.oc x)) [.un] := by
  obtain ⟨o0, o1, _⟩ := hx
  refine Ret.run Try.func208 K208 (by simp) rfl rfl 500 ?_
  simp [A208, iniρ, Cmd.cse, over, ex1, Cmd.oce, str_ocl, Ty.str.frL]
  refine callK.own 501 rfl (by kernel_rfl) (by simp [roc_sc, roc_ro, roc_agg, Cmd.cse]) (R80 x.acts o1) (Ty.str.flo x.acts) (by simp) rfl ?_
  simp [over, ex1, Cmd.oce, str_ocl, Ty.str.frL]
theorem R199 (xs : List Cmd) (hx : Cmd.ty.slice.ok xs) : Ret Try.prog 199 [.ro (rows Cmd.ty.cs xs) xs.length] (.own (rows Cmd.ty.oc xs) xs.length 2) [.un] := Ret.toS Cmd.ty Try.func199 ⟨by kernel_rfl, by kernel_rfl, by kernel_rfl⟩ (by kernel_rfl) (fun x h => R208 x h) (by decide) (by decide) xs hx
/- 210: loop.example/g00464/laws.eqCmd -/
def A210 : AC := (.seq (.ops [⟨(some 2), none, .w (.box (.t 0))⟩, ⟨(some 3), none, .w (.box (.t 1))⟩, ⟨(some 4), none, .q (.mov (.c (.sc (.bool false))))⟩])
  (.seq (.seq (.ops [⟨(some 5), none, .q (.fadr 0 (.t 2))⟩, ⟨(some 6), none, .q (.load false 1 (.t 5))⟩, ⟨(some 7), none, .q (.fadr 0 (.t 3))⟩, ⟨(some 8), none, .q (.load false 1 (.t 7))⟩, ⟨(some 9), none, .q (.bin .neq (.t 6) (.t 8))⟩])
  (.cond (.t 9) (.seq (.ops [⟨(some 4), none, .q (.mov (.c (.sc (.bool false))))⟩])
  .ret)
  .skip))
  (.seq (.seq (.ops [⟨(some 10), none, .q (.fadr 1 (.t 2))⟩, ⟨(some 11), none, .q (.load false 1 (.t 10))⟩, ⟨(some 12), none, .q (.fadr 1 (.t 3))⟩, ⟨(some 13), none, .q (.load false 1 (.t 12))⟩, ⟨(some 14), none, .c (.c (.clo 87 [])) [(.t 11), (.t 13)]⟩, ⟨(some 15), none, .q (.not (.t 14))⟩])
  (.cond (.t 15) (.seq (.ops [⟨(some 4), none, .q (.mov (.c (.sc (.bool false))))⟩])
  .ret)
  .skip))
  (.seq (.ops [⟨(some 4), none, .q (.mov (.c (.sc (.bool true))))⟩])
  .ret))))
theorem K210 : Try.f210.body.bind (comp Try.prog) = some A210 ∧ Try.f210.ntmps = 16 ∧ Try.f210.results.toList.mapM (resB Try.prog) = some [.mov (.t 4)] := ⟨by kernel_rfl, by kernel_rfl, by kernel_rfl⟩
theorem R210 (x : Cmd) (hx : Cmd.ty.ok x) : Ret Try.prog 210 [.agg (Cmd.ty.cs x), .agg (Cmd.ty.cs x)] (.sc (.bool true)) [.un, .un] := by
  obtain ⟨o0, o1, _⟩ := hx
  refine Ret.run Try.func210 K210 (by simp) rfl rfl 500 ?_
  simp [A210, iniρ, Cmd.cse]
  refine callK.ro 0 rfl (by kernel_rfl) (by simp [roc_sc, roc_ro, roc_agg, Cmd.cse]) (R87 x.acts o1) rfl rfl rfl ?_
  simp [Cmd.cse]
theorem R201 (xs : List Cmd) (hx : Cmd.ty.slice.ok xs) : Ret Try.prog 201 [.ro (rows Cmd.ty.cs xs) xs.length, .ro (rows Cmd.ty.cs xs) xs.length] (.sc (.bool true)) [.un, .un] := Ret.eqS mixed Cmd.ty (agg := true) Try.func201 ⟨by kernel_rfl, by kernel_rfl, by kernel_rfl⟩ (by kernel_rfl) (by simp) xs (fun x h => R210 x (hx.2 x h)) (Cmd.ty.lenb (by decide) hx)
/- 182: loop.example/g00464/laws.szPack -/
def A182 : AC := (.seq (.ops [⟨(some 2), none, .w (.box (.t 0))⟩, ⟨(some 4), none, .q (.mov (.c (.sc (.int .i64 0))))⟩])
  (.seq (.ops [⟨(some 5), none, .q (.mov (.t 1))⟩, ⟨(some 6), none, .q (.fadr 0 (.t 2))⟩, ⟨(some 7), none, .q (.load false 1 (.t 6))⟩, ⟨(some 8), none, .q (.slen (.t 7))⟩, ⟨(some 9), none, .q (.bin .sub (.t 5) (.t 8))⟩, ⟨(some 1), none, .q (.mov (.t 9))⟩])
  (.seq (.seq (.ops [⟨(some 10), none, .q (.mov (.t 1))⟩, ⟨(some 11), none, .q (.bin .lss (.t 10) (.c (.sc (.int .i64 0))))⟩])
  (.cond (.t 11) (.seq (.ops [⟨(some 4), none, .q (.mov (.c (.sc (.int .i64 (-1)))))⟩])
  .ret)
  .skip))
  (.seq (.ops [⟨(some 12), none, .q (.fadr 1 (.t 2))⟩, ⟨(some 13), none, .q (.load false 1 (.t 12))⟩, ⟨(some 14), none, .q (.mov (.t 1))⟩, ⟨(some 15), none, .c (.c (.clo 73 [])) [(.t 13), (.t 14)]⟩, ⟨(some 1), none, .q (.mov (.t 15))⟩])
  (.seq (.seq (.ops [⟨(some 16), none, .q (.mov (.t 1))⟩, ⟨(some 17), none, .q (.bin .lss (.t 16) (.c (.sc (.int .i64 0))))⟩])
  (.cond (.t 17) (.seq (.ops [⟨(some 4), none, .q (.mov (.c (.sc (.int .i64 (-1)))))⟩])
  .ret)
  .skip))
  (.seq (.ops [⟨(some 18), none, .q (.fadr 2 (.t 2))⟩, ⟨(some 19), none, .q (.load false 1 (.t 18))⟩, ⟨(some 20), none, .q (.mov (.t 1))⟩, ⟨(some 21), none, .c (.c (.clo 196 [])) [(.t 19), (.t 20)]⟩, ⟨(some 1), none, .q (.mov (.t 21))⟩])
  (.seq (.seq (.ops [⟨(some 22), none, .q (.mov (.t 1))⟩, ⟨(some 23), none, .q (.bin .lss (.t 22) (.c (.sc (.int .i64 0))))⟩])
  (.cond (.t 23) (.seq (.ops [⟨(some 4), none, .q (.mov (.c (.sc (.int .i64 (-1)))))⟩])
  .ret)
  .skip))
  (.seq (.ops [⟨(some 24), none, .q (.fadr 3 (.t 2))⟩, ⟨(some 25), none, .q (.load false 1 (.t 24))⟩, ⟨(some 26), none, .q (.mov (.t 1))⟩, ⟨(some 27), none, .c (.c (.clo 197 [])) [(.t 25), (.t 26)]⟩, ⟨(some 1), none, .q (.mov (.t 27))⟩])
  (.seq (.seq (.ops [⟨(some 28), none, .q (.mov (.t 1))⟩, ⟨(some 29), none, .q (.bin .lss (.t 28) (.c (.sc (.int .i64 0))))⟩])
  (.cond (.t 29) (.seq (.ops [⟨(some 4), none, .q (.mov (.c (.sc (.int .i64 (-1)))))⟩])
  .ret)
  .skip))
  (.seq (.ops [⟨(some 30), none, .q (.mov (.t 1))⟩, ⟨(some 4), none, .q (.mov (.t 30))⟩])
  .ret))))))))))
theorem K182 : Try.f182.body.bind (comp Try.prog) = some A182 ∧ Try.f182.ntmps = 31 ∧ Try.f182.results.toList.mapM (resB Try.prog) = some [.mov (.t 4)] := ⟨by kernel_rfl, by kernel_rfl, by kernel_rfl⟩
theorem R182 (x : Pack) (hx : Pack.ty.ok x) : Sz Try.prog 182 (.agg (Pack.ty.cs x)) (Pack.ty.wt x) := by
  intro l h0 h1
  obtain ⟨o0, o1, o2, o3, _⟩ := hx
  have o0 : x.name.size ≤ 140737488351232 := o0
  have w0 : IntKind.i64.wrap (l - x.name.size) = l - x.name.size := wrap_i64 (by omega) (by omega)
  by_cases n0 : l - (x.name.size : Int) < 0
  · refine ⟨-1, .inl (by decide), ?_⟩
    refine Ret.run Try.func182 K182 (by simp) rfl rfl 500 ?_
    simp [A182, iniρ, Pack.cse, w0, n0]
    try omega
  have p0 : 0 ≤ (l - (x.name.size : Int)) := by omega
  obtain ⟨m1, e1, q1⟩ := R73 x.uses o1 (l - (x.name.size : Int)) (by omega) (by omega)
  by_cases n1 : m1 < 0
  · refine ⟨-1, .inl (by decide), ?_⟩
    refine Ret.run Try.func182 K182 (by simp) rfl rfl 500 ?_
    simp [A182, iniρ, Pack.cse, w0, n0, n1]
    refine callK.ro 0 rfl (by kernel_rfl) (by simp [roc_sc, roc_ro, roc_agg, Pack.cse]) q1 rfl rfl rfl ?_
    simp [w0, n0, n1, Pack.cse]
  have e1 : m1 = (l - (x.name.size : Int)) - ((x.uses.length + wtL Ty.str.wt x.uses : Nat) : Int) := e1.resolve_left n1
  obtain ⟨m2, e2, q2⟩ := R196 x.needs o2 m1 (by omega) (by omega)
  by_cases n2 : m2 < 0
  · refine ⟨-1, .inl (by decide), ?_⟩
    refine Ret.run Try.func182 K182 (by simp) rfl rfl 500 ?_
    simp [A182, iniρ, Pack.cse, w0, n0, n1, n2]
    refine callK.ro 0 rfl (by kernel_rfl) (by simp [roc_sc, roc_ro, roc_agg, Pack.cse]) q1 rfl rfl rfl ?_
    simp [w0, n0, n1, n2, Pack.cse]
    refine callK.ro 0 rfl (by kernel_rfl) (by simp [roc_sc, roc_ro, roc_agg, Pack.cse]) q2 rfl rfl rfl ?_
    simp [w0, n0, n1, n2, Pack.cse]
  have e2 : m2 = m1 - ((x.needs.length + wtL Need.ty.wt x.needs : Nat) : Int) := e2.resolve_left n2
  obtain ⟨m3, e3, q3⟩ := R197 x.cmds o3 m2 (by omega) (by omega)
  by_cases n3 : m3 < 0
  · refine ⟨-1, .inl (by decide), ?_⟩
    refine Ret.run Try.func182 K182 (by simp) rfl rfl 500 ?_
    simp [A182, iniρ, Pack.cse, w0, n0, n1, n2, n3]
    refine callK.ro 0 rfl (by kernel_rfl) (by simp [roc_sc, roc_ro, roc_agg, Pack.cse]) q1 rfl rfl rfl ?_
    simp [w0, n0, n1, n2, n3, Pack.cse]
    refine callK.ro 0 rfl (by kernel_rfl) (by simp [roc_sc, roc_ro, roc_agg, Pack.cse]) q2 rfl rfl rfl ?_
    simp [w0, n0, n1, n2, n3, Pack.cse]
    refine callK.ro 0 rfl (by kernel_rfl) (by simp [roc_sc, roc_ro, roc_agg, Pack.cse]) q3 rfl rfl rfl ?_
    simp [w0, n0, n1, n2, n3, Pack.cse]
  have e3 : m3 = m2 - ((x.cmds.length + wtL Cmd.ty.wt x.cmds : Nat) : Int) := e3.resolve_left n3
  refine ⟨m3, .inr ?_, ?_⟩
  · rw [Pack.wte]; omega
  refine Ret.run Try.func182 K182 (by simp) rfl rfl 500 ?_
  simp [A182, iniρ, Pack.cse, w0, n0, n1, n2, n3]
  refine callK.ro 0 rfl (by kernel_rfl) (by simp [roc_sc, roc_ro, roc_agg, Pack.cse]) q1 rfl rfl rfl ?_
  simp [w0, n0, n1, n2, n3, Pack.cse]
  refine callK.ro 0 rfl (by kernel_rfl) (by simp [roc_sc, roc_ro, roc_agg, Pack.cse]) q2 rfl rfl rfl ?_
  simp [w0, n0, n1, n2, n3, Pack.cse]
  refine callK.ro 0 rfl (by kernel_rfl) (by simp [roc_sc, roc_ro, roc_agg, Pack.cse]) q3 rfl rfl rfl ?_
  simp [w0, n0, n1, n2, n3, Pack.cse]
theorem R161 (xs : List Pack) (hx : Pack.ty.slice.ok xs) : Sz Try.prog 161 (.ro (rows Pack.ty.cs xs) xs.length) (Pack.ty.slice.wt xs) := Sz.slice Pack.ty (agg := true) Try.func161 ⟨by kernel_rfl, by kernel_rfl, by kernel_rfl⟩ (by kernel_rfl) (by simp) xs (fun x h => R182 x (hx.2 x h)) (Pack.ty.lenb (by decide) hx)
/- 185: loop.example/g00464/laws.toPack -/
def A185 : AC := (.seq (.ops [⟨(some 1), none, .w (.box (.t 0))⟩, ⟨(some 2), none, .w (.alloc [(.sc (.string ⟨#[]⟩)), .em, .em, .em])⟩])
  (.seq (.ops [⟨(some 3), none, .w (.alloc [(.sc (.string ⟨#[]⟩)), .em, .em, .em])⟩])
  (.seq (.ops [⟨(some 4), none, .q (.fadr 0 (.t 1))⟩, ⟨(some 5), none, .q (.load false 1 (.t 4))⟩, ⟨(some 6), none, .q (.fadr 0 (.t 3))⟩, ⟨none, none, .w (.store 1 (.t 6) (.t 5))⟩])
  (.seq (.ops [⟨(some 7), none, .q (.fadr 1 (.t 1))⟩, ⟨(some 8), none, .q (.load false 1 (.t 7))⟩, ⟨(some 9), none, .c (.c (.clo 80 [])) [(.t 8)]⟩, ⟨(some 10), none, .q (.fadr 1 (.t 3))⟩, ⟨none, none, .w (.store 1 (.t 10) (.t 9))⟩])
  (.seq (.ops [⟨(some 11), none, .q (.fadr 2 (.t 1))⟩, ⟨(some 12), none, .q (.load false 1 (.t 11))⟩, ⟨(some 13), none, .c (.c (.clo 198 [])) [(.t 12)]⟩, ⟨(some 14), none, .q (.fadr 2 (.t 3))⟩, ⟨none, none, .w (.store 1 (.t 14) (.t 13))⟩])
  (.seq (.ops [⟨(some 15), none, .q (.fadr 3 (.t 1))⟩, ⟨(some 16), none, .q (.load false 1 (.t 15))⟩, ⟨(some 17), none, .c (.c (.clo 199 [])) [(.t 16)]⟩, ⟨(some 18), none, .q (.fadr 3 (.t 3))⟩, ⟨none, none, .w (.store 1 (.t 18) (.t 17))⟩])
  (.seq (.ops [⟨(some 19), none, .q (.load true 4 (.t 3))⟩, ⟨none, none, .w (.store 4 (.t 2) (.t 19))⟩])
  .ret)))))))
theorem K185 : Try.f185.body.bind (comp Try.prog) = some A185 ∧ Try.f185.ntmps = 20 ∧ Try.f185.results.toList.mapM (resB Try.prog) = some [.load true 4 (.t 2)] := ⟨by kernel_rfl, by kernel_rfl, by kernel_rfl⟩
theorem R185 (x : Pack) (hx : Pack.ty.ok x) : Ret Try.prog 185 [.agg (Pack.ty.cs x)] (.agg (Pack.ty.oc x)) [.un] := by
  obtain ⟨o0, o1, o2, o3, _⟩ := hx
  refine Ret.run Try.func185 K185 (by simp) rfl rfl 500 ?_
  simp [A185, iniρ, Pack.cse, over, ex1, Pack.oce, str_ocl, Ty.str.frL, Need.ocl, Need.frL, Cmd.ocl, Cmd.frL]
  refine callK.own 501 rfl (by kernel_rfl) (by simp [roc_sc, roc_ro, roc_agg, Pack.cse]) (R80 x.uses o1) (Ty.str.flo x.uses) (by simp) rfl ?_
  simp [over, ex1, Pack.oce, str_ocl, Ty.str.frL, Need.ocl, Need.frL, Cmd.ocl, Cmd.frL]
  refine callK.own 502 rfl (by kernel_rfl) (by simp [roc_sc, roc_ro, roc_agg, Pack.cse]) (R198 x.needs o2) (Need.ty.flo x.needs) (by simp) rfl ?_
  simp [over, ex1, Pack.oce, str_ocl, Ty.str.frL, Need.ocl, Need.frL, Cmd.ocl, Cmd.frL]
  refine callK.own 503 rfl (by kernel_rfl) (by simp [roc_sc, roc_ro, roc_agg, Pack.cse]) (R199 x.cmds o3) (Cmd.ty.flo x.cmds) (by simp) rfl ?_
  simp [over, ex1, Pack.oce, str_ocl, Ty.str.frL, Need.ocl, Need.frL, Cmd.ocl, Cmd.frL]
theorem R166 (xs : List Pack) (hx : Pack.ty.slice.ok xs) : Ret Try.prog 166 [.ro (rows Pack.ty.cs xs) xs.length] (.own (rows Pack.ty.oc xs) xs.length 4) [.un] := Ret.toS Pack.ty Try.func166 ⟨by kernel_rfl, by kernel_rfl, by kernel_rfl⟩ (by kernel_rfl) (fun x h => R185 x h) (by decide) (by decide) xs hx
/- 188: loop.example/g00464/laws.eqPack -/
def A188 : AC := (.seq (.ops [⟨(some 2), none, .w (.box (.t 0))⟩, ⟨(some 3), none, .w (.box (.t 1))⟩, ⟨(some 4), none, .q (.mov (.c (.sc (.bool false))))⟩])
  (.seq (.seq (.ops [⟨(some 5), none, .q (.fadr 0 (.t 2))⟩, ⟨(some 6), none, .q (.load false 1 (.t 5))⟩, ⟨(some 7), none, .q (.fadr 0 (.t 3))⟩, ⟨(some 8), none, .q (.load false 1 (.t 7))⟩, ⟨(some 9), none, .q (.bin .neq (.t 6) (.t 8))⟩])
  (.cond (.t 9) (.seq (.ops [⟨(some 4), none, .q (.mov (.c (.sc (.bool false))))⟩])
  .ret)
  .skip))
  (.seq (.seq (.ops [⟨(some 10), none, .q (.fadr 1 (.t 2))⟩, ⟨(some 11), none, .q (.load false 1 (.t 10))⟩, ⟨(some 12), none, .q (.fadr 1 (.t 3))⟩, ⟨(some 13), none, .q (.load false 1 (.t 12))⟩, ⟨(some 14), none, .c (.c (.clo 87 [])) [(.t 11), (.t 13)]⟩, ⟨(some 15), none, .q (.not (.t 14))⟩])
  (.cond (.t 15) (.seq (.ops [⟨(some 4), none, .q (.mov (.c (.sc (.bool false))))⟩])
  .ret)
  .skip))
  (.seq (.seq (.ops [⟨(some 16), none, .q (.fadr 2 (.t 2))⟩, ⟨(some 17), none, .q (.load false 1 (.t 16))⟩, ⟨(some 18), none, .q (.fadr 2 (.t 3))⟩, ⟨(some 19), none, .q (.load false 1 (.t 18))⟩, ⟨(some 20), none, .c (.c (.clo 200 [])) [(.t 17), (.t 19)]⟩, ⟨(some 21), none, .q (.not (.t 20))⟩])
  (.cond (.t 21) (.seq (.ops [⟨(some 4), none, .q (.mov (.c (.sc (.bool false))))⟩])
  .ret)
  .skip))
  (.seq (.seq (.ops [⟨(some 22), none, .q (.fadr 3 (.t 2))⟩, ⟨(some 23), none, .q (.load false 1 (.t 22))⟩, ⟨(some 24), none, .q (.fadr 3 (.t 3))⟩, ⟨(some 25), none, .q (.load false 1 (.t 24))⟩, ⟨(some 26), none, .c (.c (.clo 201 [])) [(.t 23), (.t 25)]⟩, ⟨(some 27), none, .q (.not (.t 26))⟩])
  (.cond (.t 27) (.seq (.ops [⟨(some 4), none, .q (.mov (.c (.sc (.bool false))))⟩])
  .ret)
  .skip))
  (.seq (.ops [⟨(some 4), none, .q (.mov (.c (.sc (.bool true))))⟩])
  .ret))))))
theorem K188 : Try.f188.body.bind (comp Try.prog) = some A188 ∧ Try.f188.ntmps = 28 ∧ Try.f188.results.toList.mapM (resB Try.prog) = some [.mov (.t 4)] := ⟨by kernel_rfl, by kernel_rfl, by kernel_rfl⟩
theorem R188 (x : Pack) (hx : Pack.ty.ok x) : Ret Try.prog 188 [.agg (Pack.ty.cs x), .agg (Pack.ty.cs x)] (.sc (.bool true)) [.un, .un] := by
  obtain ⟨o0, o1, o2, o3, _⟩ := hx
  refine Ret.run Try.func188 K188 (by simp) rfl rfl 500 ?_
  simp [A188, iniρ, Pack.cse]
  refine callK.ro 0 rfl (by kernel_rfl) (by simp [roc_sc, roc_ro, roc_agg, Pack.cse]) (R87 x.uses o1) rfl rfl rfl ?_
  simp [Pack.cse]
  refine callK.ro 0 rfl (by kernel_rfl) (by simp [roc_sc, roc_ro, roc_agg, Pack.cse]) (R200 x.needs o2) rfl rfl rfl ?_
  simp [Pack.cse]
  refine callK.ro 0 rfl (by kernel_rfl) (by simp [roc_sc, roc_ro, roc_agg, Pack.cse]) (R201 x.cmds o3) rfl rfl rfl ?_
  simp [Pack.cse]
theorem R171 (xs : List Pack) (hx : Pack.ty.slice.ok xs) : Ret Try.prog 171 [.ro (rows Pack.ty.cs xs) xs.length, .ro (rows Pack.ty.cs xs) xs.length] (.sc (.bool true)) [.un, .un] := Ret.eqS mixed Pack.ty (agg := true) Try.func171 ⟨by kernel_rfl, by kernel_rfl, by kernel_rfl⟩ (by kernel_rfl) (by simp) xs (fun x h => R188 x (hx.2 x h)) (Pack.ty.lenb (by decide) hx)
/- 135: loop.example/g00464/laws.szEnv -/
def A135 : AC := (.seq (.ops [⟨(some 2), none, .w (.box (.t 0))⟩, ⟨(some 4), none, .q (.mov (.c (.sc (.int .i64 0))))⟩])
  (.seq (.ops [⟨(some 5), none, .q (.mov (.t 1))⟩, ⟨(some 6), none, .q (.fadr 0 (.t 2))⟩, ⟨(some 7), none, .q (.load false 1 (.t 6))⟩, ⟨(some 8), none, .q (.slen (.t 7))⟩, ⟨(some 9), none, .q (.bin .sub (.t 5) (.t 8))⟩, ⟨(some 1), none, .q (.mov (.t 9))⟩])
  (.seq (.seq (.ops [⟨(some 10), none, .q (.mov (.t 1))⟩, ⟨(some 11), none, .q (.bin .lss (.t 10) (.c (.sc (.int .i64 0))))⟩])
  (.cond (.t 11) (.seq (.ops [⟨(some 4), none, .q (.mov (.c (.sc (.int .i64 (-1)))))⟩])
  .ret)
  .skip))
  (.seq (.ops [⟨(some 12), none, .q (.mov (.t 1))⟩, ⟨(some 13), none, .q (.fadr 1 (.t 2))⟩, ⟨(some 14), none, .q (.load false 1 (.t 13))⟩, ⟨(some 15), none, .q (.slen (.t 14))⟩, ⟨(some 16), none, .q (.bin .sub (.t 12) (.t 15))⟩, ⟨(some 1), none, .q (.mov (.t 16))⟩])
  (.seq (.seq (.ops [⟨(some 17), none, .q (.mov (.t 1))⟩, ⟨(some 18), none, .q (.bin .lss (.t 17) (.c (.sc (.int .i64 0))))⟩])
  (.cond (.t 18) (.seq (.ops [⟨(some 4), none, .q (.mov (.c (.sc (.int .i64 (-1)))))⟩])
  .ret)
  .skip))
  (.seq (.ops [⟨(some 19), none, .q (.mov (.t 1))⟩, ⟨(some 4), none, .q (.mov (.t 19))⟩])
  .ret))))))
theorem K135 : Try.f135.body.bind (comp Try.prog) = some A135 ∧ Try.f135.ntmps = 20 ∧ Try.f135.results.toList.mapM (resB Try.prog) = some [.mov (.t 4)] := ⟨by kernel_rfl, by kernel_rfl, by kernel_rfl⟩
theorem R135 (x : Env) (hx : Env.ty.ok x) : Sz Try.prog 135 (.agg (Env.ty.cs x)) (Env.ty.wt x) := by
  intro l h0 h1
  obtain ⟨o0, o1, _⟩ := hx
  have o0 : x.name.size ≤ 140737488351232 := o0
  have w0 : IntKind.i64.wrap (l - x.name.size) = l - x.name.size := wrap_i64 (by omega) (by omega)
  by_cases n0 : l - (x.name.size : Int) < 0
  · refine ⟨-1, .inl (by decide), ?_⟩
    refine Ret.run Try.func135 K135 (by simp) rfl rfl 500 ?_
    simp [A135, iniρ, Env.cse, w0, n0]
    try omega
  have p0 : 0 ≤ (l - (x.name.size : Int)) := by omega
  have o1 : x.val.size ≤ 140737488351232 := o1
  have w1 : IntKind.i64.wrap ((l - (x.name.size : Int)) - x.val.size) = (l - (x.name.size : Int)) - x.val.size := wrap_i64 (by omega) (by omega)
  by_cases n1 : (l - (x.name.size : Int)) - (x.val.size : Int) < 0
  · refine ⟨-1, .inl (by decide), ?_⟩
    refine Ret.run Try.func135 K135 (by simp) rfl rfl 500 ?_
    simp [A135, iniρ, Env.cse, w0, n0, w1, n1]
    try omega
  have p1 : 0 ≤ ((l - (x.name.size : Int)) - (x.val.size : Int)) := by omega
  refine ⟨((l - (x.name.size : Int)) - (x.val.size : Int)), .inr ?_, ?_⟩
  · rw [Env.wte]; omega
  refine Ret.run Try.func135 K135 (by simp) rfl rfl 500 ?_
  simp [A135, iniρ, Env.cse, w0, n0, w1, n1]
theorem R75 (xs : List Env) (hx : Env.ty.slice.ok xs) : Sz Try.prog 75 (.ro (rows Env.ty.cs xs) xs.length) (Env.ty.slice.wt xs) := Sz.slice Env.ty (agg := true) Try.func75 ⟨by kernel_rfl, by kernel_rfl, by kernel_rfl⟩ (by kernel_rfl) (by simp) xs (fun x h => R135 x (hx.2 x h)) (Env.ty.lenb (by decide) hx)
/- 138: loop.example/g00464/laws.toEnv -/
def A138 : AC := (.seq (.ops [⟨(some 1), none, .w (.box (.t 0))⟩, ⟨(some 2), none, .w (.alloc [(.sc (.string ⟨#[]⟩)), (.sc (.string ⟨#[]⟩))])⟩])
  (.seq (.ops [⟨(some 3), none, .w (.alloc [(.sc (.string ⟨#[]⟩)), (.sc (.string ⟨#[]⟩))])⟩])
  (.seq (.ops [⟨(some 4), none, .q (.fadr 0 (.t 1))⟩, ⟨(some 5), none, .q (.load false 1 (.t 4))⟩, ⟨(some 6), none, .q (.fadr 0 (.t 3))⟩, ⟨none, none, .w (.store 1 (.t 6) (.t 5))⟩])
  (.seq (.ops [⟨(some 7), none, .q (.fadr 1 (.t 1))⟩, ⟨(some 8), none, .q (.load false 1 (.t 7))⟩, ⟨(some 9), none, .q (.fadr 1 (.t 3))⟩, ⟨none, none, .w (.store 1 (.t 9) (.t 8))⟩])
  (.seq (.ops [⟨(some 10), none, .q (.load true 2 (.t 3))⟩, ⟨none, none, .w (.store 2 (.t 2) (.t 10))⟩])
  .ret)))))
theorem K138 : Try.f138.body.bind (comp Try.prog) = some A138 ∧ Try.f138.ntmps = 11 ∧ Try.f138.results.toList.mapM (resB Try.prog) = some [.load true 2 (.t 2)] := ⟨by kernel_rfl, by kernel_rfl, by kernel_rfl⟩
theorem R138 (x : Env) (hx : Env.ty.ok x) : Ret Try.prog 138 [.agg (Env.ty.cs x)] (.agg (Env.ty.oc x)) [.un] := by
  obtain ⟨o0, o1, _⟩ := hx
  refine Ret.run Try.func138 K138 (by simp) rfl rfl 500 ?_
  simp [A138, iniρ, Env.cse, over, ex1, Env.oce]
theorem R82 (xs : List Env) (hx : Env.ty.slice.ok xs) : Ret Try.prog 82 [.ro (rows Env.ty.cs xs) xs.length] (.own (rows Env.ty.oc xs) xs.length 2) [.un] := Ret.toS Env.ty Try.func82 ⟨by kernel_rfl, by kernel_rfl, by kernel_rfl⟩ (by kernel_rfl) (fun x h => R138 x h) (by decide) (by decide) xs hx
/- 141: loop.example/g00464/laws.eqEnv -/
def A141 : AC := (.seq (.ops [⟨(some 2), none, .w (.box (.t 0))⟩, ⟨(some 3), none, .w (.box (.t 1))⟩, ⟨(some 4), none, .q (.mov (.c (.sc (.bool false))))⟩])
  (.seq (.seq (.ops [⟨(some 5), none, .q (.fadr 0 (.t 2))⟩, ⟨(some 6), none, .q (.load false 1 (.t 5))⟩, ⟨(some 7), none, .q (.fadr 0 (.t 3))⟩, ⟨(some 8), none, .q (.load false 1 (.t 7))⟩, ⟨(some 9), none, .q (.bin .neq (.t 6) (.t 8))⟩])
  (.cond (.t 9) (.seq (.ops [⟨(some 4), none, .q (.mov (.c (.sc (.bool false))))⟩])
  .ret)
  .skip))
  (.seq (.seq (.ops [⟨(some 10), none, .q (.fadr 1 (.t 2))⟩, ⟨(some 11), none, .q (.load false 1 (.t 10))⟩, ⟨(some 12), none, .q (.fadr 1 (.t 3))⟩, ⟨(some 13), none, .q (.load false 1 (.t 12))⟩, ⟨(some 14), none, .q (.bin .neq (.t 11) (.t 13))⟩])
  (.cond (.t 14) (.seq (.ops [⟨(some 4), none, .q (.mov (.c (.sc (.bool false))))⟩])
  .ret)
  .skip))
  (.seq (.ops [⟨(some 4), none, .q (.mov (.c (.sc (.bool true))))⟩])
  .ret))))
theorem K141 : Try.f141.body.bind (comp Try.prog) = some A141 ∧ Try.f141.ntmps = 15 ∧ Try.f141.results.toList.mapM (resB Try.prog) = some [.mov (.t 4)] := ⟨by kernel_rfl, by kernel_rfl, by kernel_rfl⟩
theorem R141 (x : Env) (hx : Env.ty.ok x) : Ret Try.prog 141 [.agg (Env.ty.cs x), .agg (Env.ty.cs x)] (.sc (.bool true)) [.un, .un] := by
  obtain ⟨o0, o1, _⟩ := hx
  refine Ret.run Try.func141 K141 (by simp) rfl rfl 500 ?_
  simp [A141, iniρ, Env.cse]
theorem R89 (xs : List Env) (hx : Env.ty.slice.ok xs) : Ret Try.prog 89 [.ro (rows Env.ty.cs xs) xs.length, .ro (rows Env.ty.cs xs) xs.length] (.sc (.bool true)) [.un, .un] := Ret.eqS mixed Env.ty (agg := true) Try.func89 ⟨by kernel_rfl, by kernel_rfl, by kernel_rfl⟩ (by kernel_rfl) (by simp) xs (fun x h => R141 x (hx.2 x h)) (Env.ty.lenb (by decide) hx)
/- 183: loop.example/g00464/laws.szRule -/
def A183 : AC := (.seq (.ops [⟨(some 2), none, .w (.box (.t 0))⟩, ⟨(some 4), none, .q (.mov (.c (.sc (.int .i64 0))))⟩])
  (.seq (.ops [⟨(some 5), none, .q (.mov (.t 1))⟩, ⟨(some 6), none, .q (.fadr 0 (.t 2))⟩, ⟨(some 7), none, .q (.load false 1 (.t 6))⟩, ⟨(some 8), none, .q (.slen (.t 7))⟩, ⟨(some 9), none, .q (.bin .sub (.t 5) (.t 8))⟩, ⟨(some 1), none, .q (.mov (.t 9))⟩])
  (.seq (.seq (.ops [⟨(some 10), none, .q (.mov (.t 1))⟩, ⟨(some 11), none, .q (.bin .lss (.t 10) (.c (.sc (.int .i64 0))))⟩])
  (.cond (.t 11) (.seq (.ops [⟨(some 4), none, .q (.mov (.c (.sc (.int .i64 (-1)))))⟩])
  .ret)
  .skip))
  (.seq (.ops [⟨(some 12), none, .q (.fadr 1 (.t 2))⟩, ⟨(some 13), none, .q (.load false 1 (.t 12))⟩, ⟨(some 14), none, .q (.mov (.t 1))⟩, ⟨(some 15), none, .c (.c (.clo 73 [])) [(.t 13), (.t 14)]⟩, ⟨(some 1), none, .q (.mov (.t 15))⟩])
  (.seq (.seq (.ops [⟨(some 16), none, .q (.mov (.t 1))⟩, ⟨(some 17), none, .q (.bin .lss (.t 16) (.c (.sc (.int .i64 0))))⟩])
  (.cond (.t 17) (.seq (.ops [⟨(some 4), none, .q (.mov (.c (.sc (.int .i64 (-1)))))⟩])
  .ret)
  .skip))
  (.seq (.ops [⟨(some 18), none, .q (.fadr 2 (.t 2))⟩, ⟨(some 19), none, .q (.load false 1 (.t 18))⟩, ⟨(some 20), none, .q (.mov (.t 1))⟩, ⟨(some 21), none, .c (.c (.clo 73 [])) [(.t 19), (.t 20)]⟩, ⟨(some 1), none, .q (.mov (.t 21))⟩])
  (.seq (.seq (.ops [⟨(some 22), none, .q (.mov (.t 1))⟩, ⟨(some 23), none, .q (.bin .lss (.t 22) (.c (.sc (.int .i64 0))))⟩])
  (.cond (.t 23) (.seq (.ops [⟨(some 4), none, .q (.mov (.c (.sc (.int .i64 (-1)))))⟩])
  .ret)
  .skip))
  (.seq (.ops [⟨(some 24), none, .q (.fadr 3 (.t 2))⟩, ⟨(some 25), none, .q (.load false 1 (.t 24))⟩, ⟨(some 26), none, .q (.mov (.t 1))⟩, ⟨(some 27), none, .c (.c (.clo 73 [])) [(.t 25), (.t 26)]⟩, ⟨(some 1), none, .q (.mov (.t 27))⟩])
  (.seq (.seq (.ops [⟨(some 28), none, .q (.mov (.t 1))⟩, ⟨(some 29), none, .q (.bin .lss (.t 28) (.c (.sc (.int .i64 0))))⟩])
  (.cond (.t 29) (.seq (.ops [⟨(some 4), none, .q (.mov (.c (.sc (.int .i64 (-1)))))⟩])
  .ret)
  .skip))
  (.seq (.ops [⟨(some 30), none, .q (.mov (.t 1))⟩, ⟨(some 4), none, .q (.mov (.t 30))⟩])
  .ret))))))))))
theorem K183 : Try.f183.body.bind (comp Try.prog) = some A183 ∧ Try.f183.ntmps = 31 ∧ Try.f183.results.toList.mapM (resB Try.prog) = some [.mov (.t 4)] := ⟨by kernel_rfl, by kernel_rfl, by kernel_rfl⟩
theorem R183 (x : Rule) (hx : Rule.ty.ok x) : Sz Try.prog 183 (.agg (Rule.ty.cs x)) (Rule.ty.wt x) := by
  intro l h0 h1
  obtain ⟨o0, o1, o2, o3, o4, _⟩ := hx
  have o0 : x.task.size ≤ 140737488351232 := o0
  have w0 : IntKind.i64.wrap (l - x.task.size) = l - x.task.size := wrap_i64 (by omega) (by omega)
  by_cases n0 : l - (x.task.size : Int) < 0
  · refine ⟨-1, .inl (by decide), ?_⟩
    refine Ret.run Try.func183 K183 (by simp) rfl rfl 500 ?_
    simp [A183, iniρ, Rule.cse, w0, n0]
    try omega
  have p0 : 0 ≤ (l - (x.task.size : Int)) := by omega
  obtain ⟨m1, e1, q1⟩ := R73 x.on o1 (l - (x.task.size : Int)) (by omega) (by omega)
  by_cases n1 : m1 < 0
  · refine ⟨-1, .inl (by decide), ?_⟩
    refine Ret.run Try.func183 K183 (by simp) rfl rfl 500 ?_
    simp [A183, iniρ, Rule.cse, w0, n0, n1]
    refine callK.ro 0 rfl (by kernel_rfl) (by simp [roc_sc, roc_ro, roc_agg, Rule.cse]) q1 rfl rfl rfl ?_
    simp [w0, n0, n1, Rule.cse]
  have e1 : m1 = (l - (x.task.size : Int)) - ((x.on.length + wtL Ty.str.wt x.on : Nat) : Int) := e1.resolve_left n1
  obtain ⟨m2, e2, q2⟩ := R73 x.ins o2 m1 (by omega) (by omega)
  by_cases n2 : m2 < 0
  · refine ⟨-1, .inl (by decide), ?_⟩
    refine Ret.run Try.func183 K183 (by simp) rfl rfl 500 ?_
    simp [A183, iniρ, Rule.cse, w0, n0, n1, n2]
    refine callK.ro 0 rfl (by kernel_rfl) (by simp [roc_sc, roc_ro, roc_agg, Rule.cse]) q1 rfl rfl rfl ?_
    simp [w0, n0, n1, n2, Rule.cse]
    refine callK.ro 0 rfl (by kernel_rfl) (by simp [roc_sc, roc_ro, roc_agg, Rule.cse]) q2 rfl rfl rfl ?_
    simp [w0, n0, n1, n2, Rule.cse]
  have e2 : m2 = m1 - ((x.ins.length + wtL Ty.str.wt x.ins : Nat) : Int) := e2.resolve_left n2
  obtain ⟨m3, e3, q3⟩ := R73 x.envs o3 m2 (by omega) (by omega)
  by_cases n3 : m3 < 0
  · refine ⟨-1, .inl (by decide), ?_⟩
    refine Ret.run Try.func183 K183 (by simp) rfl rfl 500 ?_
    simp [A183, iniρ, Rule.cse, w0, n0, n1, n2, n3]
    refine callK.ro 0 rfl (by kernel_rfl) (by simp [roc_sc, roc_ro, roc_agg, Rule.cse]) q1 rfl rfl rfl ?_
    simp [w0, n0, n1, n2, n3, Rule.cse]
    refine callK.ro 0 rfl (by kernel_rfl) (by simp [roc_sc, roc_ro, roc_agg, Rule.cse]) q2 rfl rfl rfl ?_
    simp [w0, n0, n1, n2, n3, Rule.cse]
    refine callK.ro 0 rfl (by kernel_rfl) (by simp [roc_sc, roc_ro, roc_agg, Rule.cse]) q3 rfl rfl rfl ?_
    simp [w0, n0, n1, n2, n3, Rule.cse]
  have e3 : m3 = m2 - ((x.envs.length + wtL Ty.str.wt x.envs : Nat) : Int) := e3.resolve_left n3
  refine ⟨m3, .inr ?_, ?_⟩
  · rw [Rule.wte]; omega
  refine Ret.run Try.func183 K183 (by simp) rfl rfl 500 ?_
  simp [A183, iniρ, Rule.cse, w0, n0, n1, n2, n3]
  refine callK.ro 0 rfl (by kernel_rfl) (by simp [roc_sc, roc_ro, roc_agg, Rule.cse]) q1 rfl rfl rfl ?_
  simp [w0, n0, n1, n2, n3, Rule.cse]
  refine callK.ro 0 rfl (by kernel_rfl) (by simp [roc_sc, roc_ro, roc_agg, Rule.cse]) q2 rfl rfl rfl ?_
  simp [w0, n0, n1, n2, n3, Rule.cse]
  refine callK.ro 0 rfl (by kernel_rfl) (by simp [roc_sc, roc_ro, roc_agg, Rule.cse]) q3 rfl rfl rfl ?_
  simp [w0, n0, n1, n2, n3, Rule.cse]
theorem R162 (xs : List Rule) (hx : Rule.ty.slice.ok xs) : Sz Try.prog 162 (.ro (rows Rule.ty.cs xs) xs.length) (Rule.ty.slice.wt xs) := Sz.slice Rule.ty (agg := true) Try.func162 ⟨by kernel_rfl, by kernel_rfl, by kernel_rfl⟩ (by kernel_rfl) (by simp) xs (fun x h => R183 x (hx.2 x h)) (Rule.ty.lenb (by decide) hx)
/- 186: loop.example/g00464/laws.toRule -/
def A186 : AC := (.seq (.ops [⟨(some 1), none, .w (.box (.t 0))⟩, ⟨(some 2), none, .w (.alloc [(.sc (.string ⟨#[]⟩)), .em, .em, .em, (.sc (.bool false))])⟩])
  (.seq (.ops [⟨(some 3), none, .w (.alloc [(.sc (.string ⟨#[]⟩)), .em, .em, .em, (.sc (.bool false))])⟩])
  (.seq (.ops [⟨(some 4), none, .q (.fadr 0 (.t 1))⟩, ⟨(some 5), none, .q (.load false 1 (.t 4))⟩, ⟨(some 6), none, .q (.fadr 0 (.t 3))⟩, ⟨none, none, .w (.store 1 (.t 6) (.t 5))⟩])
  (.seq (.ops [⟨(some 7), none, .q (.fadr 1 (.t 1))⟩, ⟨(some 8), none, .q (.load false 1 (.t 7))⟩, ⟨(some 9), none, .c (.c (.clo 80 [])) [(.t 8)]⟩, ⟨(some 10), none, .q (.fadr 1 (.t 3))⟩, ⟨none, none, .w (.store 1 (.t 10) (.t 9))⟩])
  (.seq (.ops [⟨(some 11), none, .q (.fadr 2 (.t 1))⟩, ⟨(some 12), none, .q (.load false 1 (.t 11))⟩, ⟨(some 13), none, .c (.c (.clo 80 [])) [(.t 12)]⟩, ⟨(some 14), none, .q (.fadr 2 (.t 3))⟩, ⟨none, none, .w (.store 1 (.t 14) (.t 13))⟩])
  (.seq (.ops [⟨(some 15), none, .q (.fadr 3 (.t 1))⟩, ⟨(some 16), none, .q (.load false 1 (.t 15))⟩, ⟨(some 17), none, .c (.c (.clo 80 [])) [(.t 16)]⟩, ⟨(some 18), none, .q (.fadr 3 (.t 3))⟩, ⟨none, none, .w (.store 1 (.t 18) (.t 17))⟩])
  (.seq (.ops [⟨(some 19), none, .q (.fadr 4 (.t 1))⟩, ⟨(some 20), none, .q (.load false 1 (.t 19))⟩, ⟨(some 21), none, .q (.fadr 4 (.t 3))⟩, ⟨none, none, .w (.store 1 (.t 21) (.t 20))⟩])
  (.seq (.ops [⟨(some 22), none, .q (.load true 5 (.t 3))⟩, ⟨none, none, .w (.store 5 (.t 2) (.t 22))⟩])
  .ret))))))))
theorem K186 : Try.f186.body.bind (comp Try.prog) = some A186 ∧ Try.f186.ntmps = 23 ∧ Try.f186.results.toList.mapM (resB Try.prog) = some [.load true 5 (.t 2)] := ⟨by kernel_rfl, by kernel_rfl, by kernel_rfl⟩
theorem R186 (x : Rule) (hx : Rule.ty.ok x) : Ret Try.prog 186 [.agg (Rule.ty.cs x)] (.agg (Rule.ty.oc x)) [.un] := by
  obtain ⟨o0, o1, o2, o3, o4, _⟩ := hx
  refine Ret.run Try.func186 K186 (by simp) rfl rfl 500 ?_
  simp [A186, iniρ, Rule.cse, over, ex1, Rule.oce, str_ocl, Ty.str.frL]
  refine callK.own 501 rfl (by kernel_rfl) (by simp [roc_sc, roc_ro, roc_agg, Rule.cse]) (R80 x.on o1) (Ty.str.flo x.on) (by simp) rfl ?_
  simp [over, ex1, Rule.oce, str_ocl, Ty.str.frL]
  refine callK.own 502 rfl (by kernel_rfl) (by simp [roc_sc, roc_ro, roc_agg, Rule.cse]) (R80 x.ins o2) (Ty.str.flo x.ins) (by simp) rfl ?_
  simp [over, ex1, Rule.oce, str_ocl, Ty.str.frL]
  refine callK.own 503 rfl (by kernel_rfl) (by simp [roc_sc, roc_ro, roc_agg, Rule.cse]) (R80 x.envs o3) (Ty.str.flo x.envs) (by simp) rfl ?_
  simp [over, ex1, Rule.oce, str_ocl, Ty.str.frL]
theorem R167 (xs : List Rule) (hx : Rule.ty.slice.ok xs) : Ret Try.prog 167 [.ro (rows Rule.ty.cs xs) xs.length] (.own (rows Rule.ty.oc xs) xs.length 5) [.un] := Ret.toS Rule.ty Try.func167 ⟨by kernel_rfl, by kernel_rfl, by kernel_rfl⟩ (by kernel_rfl) (fun x h => R186 x h) (by decide) (by decide) xs hx
/- 189: loop.example/g00464/laws.eqRule -/
def A189 : AC := (.seq (.ops [⟨(some 2), none, .w (.box (.t 0))⟩, ⟨(some 3), none, .w (.box (.t 1))⟩, ⟨(some 4), none, .q (.mov (.c (.sc (.bool false))))⟩])
  (.seq (.seq (.ops [⟨(some 5), none, .q (.fadr 0 (.t 2))⟩, ⟨(some 6), none, .q (.load false 1 (.t 5))⟩, ⟨(some 7), none, .q (.fadr 0 (.t 3))⟩, ⟨(some 8), none, .q (.load false 1 (.t 7))⟩, ⟨(some 9), none, .q (.bin .neq (.t 6) (.t 8))⟩])
  (.cond (.t 9) (.seq (.ops [⟨(some 4), none, .q (.mov (.c (.sc (.bool false))))⟩])
  .ret)
  .skip))
  (.seq (.seq (.ops [⟨(some 10), none, .q (.fadr 1 (.t 2))⟩, ⟨(some 11), none, .q (.load false 1 (.t 10))⟩, ⟨(some 12), none, .q (.fadr 1 (.t 3))⟩, ⟨(some 13), none, .q (.load false 1 (.t 12))⟩, ⟨(some 14), none, .c (.c (.clo 87 [])) [(.t 11), (.t 13)]⟩, ⟨(some 15), none, .q (.not (.t 14))⟩])
  (.cond (.t 15) (.seq (.ops [⟨(some 4), none, .q (.mov (.c (.sc (.bool false))))⟩])
  .ret)
  .skip))
  (.seq (.seq (.ops [⟨(some 16), none, .q (.fadr 2 (.t 2))⟩, ⟨(some 17), none, .q (.load false 1 (.t 16))⟩, ⟨(some 18), none, .q (.fadr 2 (.t 3))⟩, ⟨(some 19), none, .q (.load false 1 (.t 18))⟩, ⟨(some 20), none, .c (.c (.clo 87 [])) [(.t 17), (.t 19)]⟩, ⟨(some 21), none, .q (.not (.t 20))⟩])
  (.cond (.t 21) (.seq (.ops [⟨(some 4), none, .q (.mov (.c (.sc (.bool false))))⟩])
  .ret)
  .skip))
  (.seq (.seq (.ops [⟨(some 22), none, .q (.fadr 3 (.t 2))⟩, ⟨(some 23), none, .q (.load false 1 (.t 22))⟩, ⟨(some 24), none, .q (.fadr 3 (.t 3))⟩, ⟨(some 25), none, .q (.load false 1 (.t 24))⟩, ⟨(some 26), none, .c (.c (.clo 87 [])) [(.t 23), (.t 25)]⟩, ⟨(some 27), none, .q (.not (.t 26))⟩])
  (.cond (.t 27) (.seq (.ops [⟨(some 4), none, .q (.mov (.c (.sc (.bool false))))⟩])
  .ret)
  .skip))
  (.seq (.seq (.ops [⟨(some 28), none, .q (.fadr 4 (.t 2))⟩, ⟨(some 29), none, .q (.load false 1 (.t 28))⟩, ⟨(some 30), none, .q (.fadr 4 (.t 3))⟩, ⟨(some 31), none, .q (.load false 1 (.t 30))⟩, ⟨(some 32), none, .q (.beq true (.t 29) (.t 31))⟩])
  (.cond (.t 32) (.seq (.ops [⟨(some 4), none, .q (.mov (.c (.sc (.bool false))))⟩])
  .ret)
  .skip))
  (.seq (.ops [⟨(some 4), none, .q (.mov (.c (.sc (.bool true))))⟩])
  .ret)))))))
theorem K189 : Try.f189.body.bind (comp Try.prog) = some A189 ∧ Try.f189.ntmps = 33 ∧ Try.f189.results.toList.mapM (resB Try.prog) = some [.mov (.t 4)] := ⟨by kernel_rfl, by kernel_rfl, by kernel_rfl⟩
theorem R189 (x : Rule) (hx : Rule.ty.ok x) : Ret Try.prog 189 [.agg (Rule.ty.cs x), .agg (Rule.ty.cs x)] (.sc (.bool true)) [.un, .un] := by
  obtain ⟨o0, o1, o2, o3, o4, _⟩ := hx
  refine Ret.run Try.func189 K189 (by simp) rfl rfl 500 ?_
  simp [A189, iniρ, Rule.cse]
  refine callK.ro 0 rfl (by kernel_rfl) (by simp [roc_sc, roc_ro, roc_agg, Rule.cse]) (R87 x.on o1) rfl rfl rfl ?_
  simp [Rule.cse]
  refine callK.ro 0 rfl (by kernel_rfl) (by simp [roc_sc, roc_ro, roc_agg, Rule.cse]) (R87 x.ins o2) rfl rfl rfl ?_
  simp [Rule.cse]
  refine callK.ro 0 rfl (by kernel_rfl) (by simp [roc_sc, roc_ro, roc_agg, Rule.cse]) (R87 x.envs o3) rfl rfl rfl ?_
  simp [Rule.cse]
theorem R172 (xs : List Rule) (hx : Rule.ty.slice.ok xs) : Ret Try.prog 172 [.ro (rows Rule.ty.cs xs) xs.length, .ro (rows Rule.ty.cs xs) xs.length] (.sc (.bool true)) [.un, .un] := Ret.eqS mixed Rule.ty (agg := true) Try.func172 ⟨by kernel_rfl, by kernel_rfl, by kernel_rfl⟩ (by kernel_rfl) (by simp) xs (fun x h => R189 x (hx.2 x h)) (Rule.ty.lenb (by decide) hx)
/- 117: loop.example/g00464/laws.szWorld -/
def A117 : AC := (.seq (.ops [⟨(some 2), none, .w (.box (.t 0))⟩, ⟨(some 4), none, .q (.mov (.c (.sc (.int .i64 0))))⟩])
  (.seq (.ops [⟨(some 5), none, .q (.fadr 0 (.t 2))⟩, ⟨(some 6), none, .q (.load false 1 (.t 5))⟩, ⟨(some 7), none, .q (.mov (.t 1))⟩, ⟨(some 8), none, .c (.c (.clo 161 [])) [(.t 6), (.t 7)]⟩, ⟨(some 1), none, .q (.mov (.t 8))⟩])
  (.seq (.seq (.ops [⟨(some 9), none, .q (.mov (.t 1))⟩, ⟨(some 10), none, .q (.bin .lss (.t 9) (.c (.sc (.int .i64 0))))⟩])
  (.cond (.t 10) (.seq (.ops [⟨(some 4), none, .q (.mov (.c (.sc (.int .i64 (-1)))))⟩])
  .ret)
  .skip))
  (.seq (.ops [⟨(some 11), none, .q (.fadr 1 (.t 2))⟩, ⟨(some 12), none, .q (.load false 1 (.t 11))⟩, ⟨(some 13), none, .q (.mov (.t 1))⟩, ⟨(some 14), none, .c (.c (.clo 162 [])) [(.t 12), (.t 13)]⟩, ⟨(some 1), none, .q (.mov (.t 14))⟩])
  (.seq (.seq (.ops [⟨(some 15), none, .q (.mov (.t 1))⟩, ⟨(some 16), none, .q (.bin .lss (.t 15) (.c (.sc (.int .i64 0))))⟩])
  (.cond (.t 16) (.seq (.ops [⟨(some 4), none, .q (.mov (.c (.sc (.int .i64 (-1)))))⟩])
  .ret)
  .skip))
  (.seq (.ops [⟨(some 17), none, .q (.fadr 2 (.t 2))⟩, ⟨(some 18), none, .q (.load false 1 (.t 17))⟩, ⟨(some 19), none, .q (.mov (.t 1))⟩, ⟨(some 20), none, .c (.c (.clo 74 [])) [(.t 18), (.t 19)]⟩, ⟨(some 1), none, .q (.mov (.t 20))⟩])
  (.seq (.seq (.ops [⟨(some 21), none, .q (.mov (.t 1))⟩, ⟨(some 22), none, .q (.bin .lss (.t 21) (.c (.sc (.int .i64 0))))⟩])
  (.cond (.t 22) (.seq (.ops [⟨(some 4), none, .q (.mov (.c (.sc (.int .i64 (-1)))))⟩])
  .ret)
  .skip))
  (.seq (.ops [⟨(some 23), none, .q (.fadr 3 (.t 2))⟩, ⟨(some 24), none, .q (.load false 1 (.t 23))⟩, ⟨(some 25), none, .q (.mov (.t 1))⟩, ⟨(some 26), none, .c (.c (.clo 75 [])) [(.t 24), (.t 25)]⟩, ⟨(some 1), none, .q (.mov (.t 26))⟩])
  (.seq (.seq (.ops [⟨(some 27), none, .q (.mov (.t 1))⟩, ⟨(some 28), none, .q (.bin .lss (.t 27) (.c (.sc (.int .i64 0))))⟩])
  (.cond (.t 28) (.seq (.ops [⟨(some 4), none, .q (.mov (.c (.sc (.int .i64 (-1)))))⟩])
  .ret)
  .skip))
  (.seq (.ops [⟨(some 29), none, .q (.mov (.t 1))⟩, ⟨(some 4), none, .q (.mov (.t 29))⟩])
  .ret))))))))))
theorem K117 : Try.f117.body.bind (comp Try.prog) = some A117 ∧ Try.f117.ntmps = 30 ∧ Try.f117.results.toList.mapM (resB Try.prog) = some [.mov (.t 4)] := ⟨by kernel_rfl, by kernel_rfl, by kernel_rfl⟩
theorem R117 (x : World) (hx : World.ty.ok x) : Sz Try.prog 117 (.agg (World.ty.cs x)) (World.ty.wt x) := by
  intro l h0 h1
  obtain ⟨o0, o1, o2, o3, _⟩ := hx
  obtain ⟨m0, e0, q0⟩ := R161 x.packs o0 l (by omega) (by omega)
  by_cases n0 : m0 < 0
  · refine ⟨-1, .inl (by decide), ?_⟩
    refine Ret.run Try.func117 K117 (by simp) rfl rfl 500 ?_
    simp [A117, iniρ, World.cse, n0]
    refine callK.ro 0 rfl (by kernel_rfl) (by simp [roc_sc, roc_ro, roc_agg, World.cse]) q0 rfl rfl rfl ?_
    simp [n0, World.cse]
  have e0 : m0 = l - ((x.packs.length + wtL Pack.ty.wt x.packs : Nat) : Int) := e0.resolve_left n0
  obtain ⟨m1, e1, q1⟩ := R162 x.rules o1 m0 (by omega) (by omega)
  by_cases n1 : m1 < 0
  · refine ⟨-1, .inl (by decide), ?_⟩
    refine Ret.run Try.func117 K117 (by simp) rfl rfl 500 ?_
    simp [A117, iniρ, World.cse, n0, n1]
    refine callK.ro 0 rfl (by kernel_rfl) (by simp [roc_sc, roc_ro, roc_agg, World.cse]) q0 rfl rfl rfl ?_
    simp [n0, n1, World.cse]
    refine callK.ro 0 rfl (by kernel_rfl) (by simp [roc_sc, roc_ro, roc_agg, World.cse]) q1 rfl rfl rfl ?_
    simp [n0, n1, World.cse]
  have e1 : m1 = m0 - ((x.rules.length + wtL Rule.ty.wt x.rules : Nat) : Int) := e1.resolve_left n1
  obtain ⟨m2, e2, q2⟩ := R74 x.files o2 m1 (by omega) (by omega)
  by_cases n2 : m2 < 0
  · refine ⟨-1, .inl (by decide), ?_⟩
    refine Ret.run Try.func117 K117 (by simp) rfl rfl 500 ?_
    simp [A117, iniρ, World.cse, n0, n1, n2]
    refine callK.ro 0 rfl (by kernel_rfl) (by simp [roc_sc, roc_ro, roc_agg, World.cse]) q0 rfl rfl rfl ?_
    simp [n0, n1, n2, World.cse]
    refine callK.ro 0 rfl (by kernel_rfl) (by simp [roc_sc, roc_ro, roc_agg, World.cse]) q1 rfl rfl rfl ?_
    simp [n0, n1, n2, World.cse]
    refine callK.ro 0 rfl (by kernel_rfl) (by simp [roc_sc, roc_ro, roc_agg, World.cse]) q2 rfl rfl rfl ?_
    simp [n0, n1, n2, World.cse]
  have e2 : m2 = m1 - ((x.files.length + wtL File.ty.wt x.files : Nat) : Int) := e2.resolve_left n2
  obtain ⟨m3, e3, q3⟩ := R75 x.envs o3 m2 (by omega) (by omega)
  by_cases n3 : m3 < 0
  · refine ⟨-1, .inl (by decide), ?_⟩
    refine Ret.run Try.func117 K117 (by simp) rfl rfl 500 ?_
    simp [A117, iniρ, World.cse, n0, n1, n2, n3]
    refine callK.ro 0 rfl (by kernel_rfl) (by simp [roc_sc, roc_ro, roc_agg, World.cse]) q0 rfl rfl rfl ?_
    simp [n0, n1, n2, n3, World.cse]
    refine callK.ro 0 rfl (by kernel_rfl) (by simp [roc_sc, roc_ro, roc_agg, World.cse]) q1 rfl rfl rfl ?_
    simp [n0, n1, n2, n3, World.cse]
    refine callK.ro 0 rfl (by kernel_rfl) (by simp [roc_sc, roc_ro, roc_agg, World.cse]) q2 rfl rfl rfl ?_
    simp [n0, n1, n2, n3, World.cse]
    refine callK.ro 0 rfl (by kernel_rfl) (by simp [roc_sc, roc_ro, roc_agg, World.cse]) q3 rfl rfl rfl ?_
    simp [n0, n1, n2, n3, World.cse]
  have e3 : m3 = m2 - ((x.envs.length + wtL Env.ty.wt x.envs : Nat) : Int) := e3.resolve_left n3
  refine ⟨m3, .inr ?_, ?_⟩
  · rw [World.wte]; omega
  refine Ret.run Try.func117 K117 (by simp) rfl rfl 500 ?_
  simp [A117, iniρ, World.cse, n0, n1, n2, n3]
  refine callK.ro 0 rfl (by kernel_rfl) (by simp [roc_sc, roc_ro, roc_agg, World.cse]) q0 rfl rfl rfl ?_
  simp [n0, n1, n2, n3, World.cse]
  refine callK.ro 0 rfl (by kernel_rfl) (by simp [roc_sc, roc_ro, roc_agg, World.cse]) q1 rfl rfl rfl ?_
  simp [n0, n1, n2, n3, World.cse]
  refine callK.ro 0 rfl (by kernel_rfl) (by simp [roc_sc, roc_ro, roc_agg, World.cse]) q2 rfl rfl rfl ?_
  simp [n0, n1, n2, n3, World.cse]
  refine callK.ro 0 rfl (by kernel_rfl) (by simp [roc_sc, roc_ro, roc_agg, World.cse]) q3 rfl rfl rfl ?_
  simp [n0, n1, n2, n3, World.cse]
/- 121: loop.example/g00464/laws.toWorld -/
def A121 : AC := (.seq (.ops [⟨(some 1), none, .w (.box (.t 0))⟩, ⟨(some 2), none, .w (.alloc [.em, .em, .em, .em])⟩])
  (.seq (.ops [⟨(some 3), none, .w (.alloc [.em, .em, .em, .em])⟩])
  (.seq (.ops [⟨(some 4), none, .q (.fadr 0 (.t 1))⟩, ⟨(some 5), none, .q (.load false 1 (.t 4))⟩, ⟨(some 6), none, .c (.c (.clo 166 [])) [(.t 5)]⟩, ⟨(some 7), none, .q (.fadr 0 (.t 3))⟩, ⟨none, none, .w (.store 1 (.t 7) (.t 6))⟩])
  (.seq (.ops [⟨(some 8), none, .q (.fadr 1 (.t 1))⟩, ⟨(some 9), none, .q (.load false 1 (.t 8))⟩, ⟨(some 10), none, .c (.c (.clo 167 [])) [(.t 9)]⟩, ⟨(some 11), none, .q (.fadr 1 (.t 3))⟩, ⟨none, none, .w (.store 1 (.t 11) (.t 10))⟩])
  (.seq (.ops [⟨(some 12), none, .q (.fadr 2 (.t 1))⟩, ⟨(some 13), none, .q (.load false 1 (.t 12))⟩, ⟨(some 14), none, .c (.c (.clo 81 [])) [(.t 13)]⟩, ⟨(some 15), none, .q (.fadr 2 (.t 3))⟩, ⟨none, none, .w (.store 1 (.t 15) (.t 14))⟩])
  (.seq (.ops [⟨(some 16), none, .q (.fadr 3 (.t 1))⟩, ⟨(some 17), none, .q (.load false 1 (.t 16))⟩, ⟨(some 18), none, .c (.c (.clo 82 [])) [(.t 17)]⟩, ⟨(some 19), none, .q (.fadr 3 (.t 3))⟩, ⟨none, none, .w (.store 1 (.t 19) (.t 18))⟩])
  (.seq (.ops [⟨(some 20), none, .q (.load true 4 (.t 3))⟩, ⟨none, none, .w (.store 4 (.t 2) (.t 20))⟩])
  .ret)))))))
theorem K121 : Try.f121.body.bind (comp Try.prog) = some A121 ∧ Try.f121.ntmps = 21 ∧ Try.f121.results.toList.mapM (resB Try.prog) = some [.load true 4 (.t 2)] := ⟨by kernel_rfl, by kernel_rfl, by kernel_rfl⟩
theorem R121 (x : World) (hx : World.ty.ok x) : Ret Try.prog 121 [.agg (World.ty.cs x)] (.agg (World.ty.oc x)) [.un] := by
  obtain ⟨o0, o1, o2, o3, _⟩ := hx
  refine Ret.run Try.func121 K121 (by simp) rfl rfl 500 ?_
  simp [A121, iniρ, World.cse, over, ex1, World.oce, Pack.ocl, Pack.frL, Rule.ocl, Rule.frL, File.ocl, File.frL, Env.ocl, Env.frL]
  refine callK.own 500 rfl (by kernel_rfl) (by simp [roc_sc, roc_ro, roc_agg, World.cse]) (R166 x.packs o0) (Pack.ty.flo x.packs) (by simp) rfl ?_
  simp [over, ex1, World.oce, Pack.ocl, Pack.frL, Rule.ocl, Rule.frL, File.ocl, File.frL, Env.ocl, Env.frL]
  refine callK.own 501 rfl (by kernel_rfl) (by simp [roc_sc, roc_ro, roc_agg, World.cse]) (R167 x.rules o1) (Rule.ty.flo x.rules) (by simp) rfl ?_
  simp [over, ex1, World.oce, Pack.ocl, Pack.frL, Rule.ocl, Rule.frL, File.ocl, File.frL, Env.ocl, Env.frL]
  refine callK.own 502 rfl (by kernel_rfl) (by simp [roc_sc, roc_ro, roc_agg, World.cse]) (R81 x.files o2) (File.ty.flo x.files) (by simp) rfl ?_
  simp [over, ex1, World.oce, Pack.ocl, Pack.frL, Rule.ocl, Rule.frL, File.ocl, File.frL, Env.ocl, Env.frL]
  refine callK.own 503 rfl (by kernel_rfl) (by simp [roc_sc, roc_ro, roc_agg, World.cse]) (R82 x.envs o3) (Env.ty.flo x.envs) (by simp) rfl ?_
  simp [over, ex1, World.oce, Pack.ocl, Pack.frL, Rule.ocl, Rule.frL, File.ocl, File.frL, Env.ocl, Env.frL]
/- 125: loop.example/g00464/laws.eqWorld -/
def A125 : AC := (.seq (.ops [⟨(some 2), none, .w (.box (.t 0))⟩, ⟨(some 3), none, .w (.box (.t 1))⟩, ⟨(some 4), none, .q (.mov (.c (.sc (.bool false))))⟩])
  (.seq (.seq (.ops [⟨(some 5), none, .q (.fadr 0 (.t 2))⟩, ⟨(some 6), none, .q (.load false 1 (.t 5))⟩, ⟨(some 7), none, .q (.fadr 0 (.t 3))⟩, ⟨(some 8), none, .q (.load false 1 (.t 7))⟩, ⟨(some 9), none, .c (.c (.clo 171 [])) [(.t 6), (.t 8)]⟩, ⟨(some 10), none, .q (.not (.t 9))⟩])
  (.cond (.t 10) (.seq (.ops [⟨(some 4), none, .q (.mov (.c (.sc (.bool false))))⟩])
  .ret)
  .skip))
  (.seq (.seq (.ops [⟨(some 11), none, .q (.fadr 1 (.t 2))⟩, ⟨(some 12), none, .q (.load false 1 (.t 11))⟩, ⟨(some 13), none, .q (.fadr 1 (.t 3))⟩, ⟨(some 14), none, .q (.load false 1 (.t 13))⟩, ⟨(some 15), none, .c (.c (.clo 172 [])) [(.t 12), (.t 14)]⟩, ⟨(some 16), none, .q (.not (.t 15))⟩])
  (.cond (.t 16) (.seq (.ops [⟨(some 4), none, .q (.mov (.c (.sc (.bool false))))⟩])
  .ret)
  .skip))
  (.seq (.seq (.ops [⟨(some 17), none, .q (.fadr 2 (.t 2))⟩, ⟨(some 18), none, .q (.load false 1 (.t 17))⟩, ⟨(some 19), none, .q (.fadr 2 (.t 3))⟩, ⟨(some 20), none, .q (.load false 1 (.t 19))⟩, ⟨(some 21), none, .c (.c (.clo 88 [])) [(.t 18), (.t 20)]⟩, ⟨(some 22), none, .q (.not (.t 21))⟩])
  (.cond (.t 22) (.seq (.ops [⟨(some 4), none, .q (.mov (.c (.sc (.bool false))))⟩])
  .ret)
  .skip))
  (.seq (.seq (.ops [⟨(some 23), none, .q (.fadr 3 (.t 2))⟩, ⟨(some 24), none, .q (.load false 1 (.t 23))⟩, ⟨(some 25), none, .q (.fadr 3 (.t 3))⟩, ⟨(some 26), none, .q (.load false 1 (.t 25))⟩, ⟨(some 27), none, .c (.c (.clo 89 [])) [(.t 24), (.t 26)]⟩, ⟨(some 28), none, .q (.not (.t 27))⟩])
  (.cond (.t 28) (.seq (.ops [⟨(some 4), none, .q (.mov (.c (.sc (.bool false))))⟩])
  .ret)
  .skip))
  (.seq (.ops [⟨(some 4), none, .q (.mov (.c (.sc (.bool true))))⟩])
  .ret))))))
theorem K125 : Try.f125.body.bind (comp Try.prog) = some A125 ∧ Try.f125.ntmps = 29 ∧ Try.f125.results.toList.mapM (resB Try.prog) = some [.mov (.t 4)] := ⟨by kernel_rfl, by kernel_rfl, by kernel_rfl⟩
theorem R125 (x : World) (hx : World.ty.ok x) : Ret Try.prog 125 [.agg (World.ty.cs x), .agg (World.ty.cs x)] (.sc (.bool true)) [.un, .un] := by
  obtain ⟨o0, o1, o2, o3, _⟩ := hx
  refine Ret.run Try.func125 K125 (by simp) rfl rfl 500 ?_
  simp [A125, iniρ, World.cse]
  refine callK.ro 0 rfl (by kernel_rfl) (by simp [roc_sc, roc_ro, roc_agg, World.cse]) (R171 x.packs o0) rfl rfl rfl ?_
  simp [World.cse]
  refine callK.ro 0 rfl (by kernel_rfl) (by simp [roc_sc, roc_ro, roc_agg, World.cse]) (R172 x.rules o1) rfl rfl rfl ?_
  simp [World.cse]
  refine callK.ro 0 rfl (by kernel_rfl) (by simp [roc_sc, roc_ro, roc_agg, World.cse]) (R88 x.files o2) rfl rfl rfl ?_
  simp [World.cse]
  refine callK.ro 0 rfl (by kernel_rfl) (by simp [roc_sc, roc_ro, roc_agg, World.cse]) (R89 x.envs o3) rfl rfl rfl ?_
  simp [World.cse]
/- 118: loop.example/g00464/laws.szPlan -/
def A118 : AC := (.seq (.ops [⟨(some 2), none, .w (.box (.t 0))⟩, ⟨(some 4), none, .q (.mov (.c (.sc (.int .i64 0))))⟩])
  (.seq (.ops [⟨(some 5), none, .q (.fadr 0 (.t 2))⟩, ⟨(some 6), none, .q (.load false 1 (.t 5))⟩, ⟨(some 7), none, .q (.mov (.t 1))⟩, ⟨(some 8), none, .c (.c (.clo 73 [])) [(.t 6), (.t 7)]⟩, ⟨(some 1), none, .q (.mov (.t 8))⟩])
  (.seq (.seq (.ops [⟨(some 9), none, .q (.mov (.t 1))⟩, ⟨(some 10), none, .q (.bin .lss (.t 9) (.c (.sc (.int .i64 0))))⟩])
  (.cond (.t 10) (.seq (.ops [⟨(some 4), none, .q (.mov (.c (.sc (.int .i64 (-1)))))⟩])
  .ret)
  .skip))
  (.seq (.ops [⟨(some 11), none, .q (.fadr 1 (.t 2))⟩, ⟨(some 12), none, .q (.load false 1 (.t 11))⟩, ⟨(some 13), none, .q (.mov (.t 1))⟩, ⟨(some 14), none, .c (.c (.clo 163 [])) [(.t 12), (.t 13)]⟩, ⟨(some 1), none, .q (.mov (.t 14))⟩])
  (.seq (.seq (.ops [⟨(some 15), none, .q (.mov (.t 1))⟩, ⟨(some 16), none, .q (.bin .lss (.t 15) (.c (.sc (.int .i64 0))))⟩])
  (.cond (.t 16) (.seq (.ops [⟨(some 4), none, .q (.mov (.c (.sc (.int .i64 (-1)))))⟩])
  .ret)
  .skip))
  (.seq (.ops [⟨(some 17), none, .q (.mov (.t 1))⟩, ⟨(some 4), none, .q (.mov (.t 17))⟩])
  .ret))))))
theorem K118 : Try.f118.body.bind (comp Try.prog) = some A118 ∧ Try.f118.ntmps = 18 ∧ Try.f118.results.toList.mapM (resB Try.prog) = some [.mov (.t 4)] := ⟨by kernel_rfl, by kernel_rfl, by kernel_rfl⟩
theorem R118 (x : Plan) (hx : Plan.ty.ok x) : Sz Try.prog 118 (.agg (Plan.ty.cs x)) (Plan.ty.wt x) := by
  intro l h0 h1
  obtain ⟨o0, o1, _⟩ := hx
  obtain ⟨m0, e0, q0⟩ := R73 x.tasks o0 l (by omega) (by omega)
  by_cases n0 : m0 < 0
  · refine ⟨-1, .inl (by decide), ?_⟩
    refine Ret.run Try.func118 K118 (by simp) rfl rfl 500 ?_
    simp [A118, iniρ, Plan.cse, n0]
    refine callK.ro 0 rfl (by kernel_rfl) (by simp [roc_sc, roc_ro, roc_agg, Plan.cse]) q0 rfl rfl rfl ?_
    simp [n0, Plan.cse]
  have e0 : m0 = l - ((x.tasks.length + wtL Ty.str.wt x.tasks : Nat) : Int) := e0.resolve_left n0
  obtain ⟨m1, e1, q1⟩ := R163 x.deps o1 m0 (by omega) (by omega)
  by_cases n1 : m1 < 0
  · refine ⟨-1, .inl (by decide), ?_⟩
    refine Ret.run Try.func118 K118 (by simp) rfl rfl 500 ?_
    simp [A118, iniρ, Plan.cse, n0, n1]
    refine callK.ro 0 rfl (by kernel_rfl) (by simp [roc_sc, roc_ro, roc_agg, Plan.cse]) q0 rfl rfl rfl ?_
    simp [n0, n1, Plan.cse]
    refine callK.ro 0 rfl (by kernel_rfl) (by simp [roc_sc, roc_ro, roc_agg, Plan.cse]) q1 rfl rfl rfl ?_
    simp [n0, n1, Plan.cse]
  have e1 : m1 = m0 - ((x.deps.length + wtL Ty.str.slice.wt x.deps : Nat) : Int) := e1.resolve_left n1
  refine ⟨m1, .inr ?_, ?_⟩
  · rw [Plan.wte]; omega
  refine Ret.run Try.func118 K118 (by simp) rfl rfl 500 ?_
  simp [A118, iniρ, Plan.cse, n0, n1]
  refine callK.ro 0 rfl (by kernel_rfl) (by simp [roc_sc, roc_ro, roc_agg, Plan.cse]) q0 rfl rfl rfl ?_
  simp [n0, n1, Plan.cse]
  refine callK.ro 0 rfl (by kernel_rfl) (by simp [roc_sc, roc_ro, roc_agg, Plan.cse]) q1 rfl rfl rfl ?_
  simp [n0, n1, Plan.cse]
/- 122: loop.example/g00464/laws.toPlan -/
def A122 : AC := (.seq (.ops [⟨(some 1), none, .w (.box (.t 0))⟩, ⟨(some 2), none, .w (.alloc [.em, .em])⟩])
  (.seq (.ops [⟨(some 3), none, .w (.alloc [.em, .em])⟩])
  (.seq (.ops [⟨(some 4), none, .q (.fadr 0 (.t 1))⟩, ⟨(some 5), none, .q (.load false 1 (.t 4))⟩, ⟨(some 6), none, .c (.c (.clo 80 [])) [(.t 5)]⟩, ⟨(some 7), none, .q (.fadr 0 (.t 3))⟩, ⟨none, none, .w (.store 1 (.t 7) (.t 6))⟩])
  (.seq (.ops [⟨(some 8), none, .q (.fadr 1 (.t 1))⟩, ⟨(some 9), none, .q (.load false 1 (.t 8))⟩, ⟨(some 10), none, .c (.c (.clo 168 [])) [(.t 9)]⟩, ⟨(some 11), none, .q (.fadr 1 (.t 3))⟩, ⟨none, none, .w (.store 1 (.t 11) (.t 10))⟩])
  (.seq (.ops [⟨(some 12), none, .q (.load true 2 (.t 3))⟩, ⟨none, none, .w (.store 2 (.t 2) (.t 12))⟩])
  .ret)))))
theorem K122 : Try.f122.body.bind (comp Try.prog) = some A122 ∧ Try.f122.ntmps = 13 ∧ Try.f122.results.toList.mapM (resB Try.prog) = some [.load true 2 (.t 2)] := ⟨by kernel_rfl, by kernel_rfl, by kernel_rfl⟩
theorem R122 (x : Plan) (hx : Plan.ty.ok x) : Ret Try.prog 122 [.agg (Plan.ty.cs x)] (.agg (Plan.ty.oc x)) [.un] := by
  obtain ⟨o0, o1, _⟩ := hx
  refine Ret.run Try.func122 K122 (by simp) rfl rfl 500 ?_
  simp [A122, iniρ, Plan.cse, over, ex1, Plan.oce, str_ocl, strs_ocl, Ty.str.frL, Ty.str.slice.frL]
  refine callK.own 500 rfl (by kernel_rfl) (by simp [roc_sc, roc_ro, roc_agg, Plan.cse]) (R80 x.tasks o0) (Ty.str.flo x.tasks) (by simp) rfl ?_
  simp [over, ex1, Plan.oce, str_ocl, strs_ocl, Ty.str.frL, Ty.str.slice.frL]
  refine callK.own 501 rfl (by kernel_rfl) (by simp [roc_sc, roc_ro, roc_agg, Plan.cse]) (R168 x.deps o1) (Ty.str.slice.flo x.deps) (by simp) rfl ?_
  simp [over, ex1, Plan.oce, str_ocl, strs_ocl, Ty.str.frL, Ty.str.slice.frL]
/- 126: loop.example/g00464/laws.eqPlan -/
def A126 : AC := (.seq (.ops [⟨(some 2), none, .w (.box (.t 0))⟩, ⟨(some 3), none, .w (.box (.t 1))⟩, ⟨(some 4), none, .q (.mov (.c (.sc (.bool false))))⟩])
  (.seq (.seq (.ops [⟨(some 5), none, .q (.fadr 0 (.t 2))⟩, ⟨(some 6), none, .q (.load false 1 (.t 5))⟩, ⟨(some 7), none, .q (.fadr 0 (.t 3))⟩, ⟨(some 8), none, .q (.load false 1 (.t 7))⟩, ⟨(some 9), none, .c (.c (.clo 87 [])) [(.t 6), (.t 8)]⟩, ⟨(some 10), none, .q (.not (.t 9))⟩])
  (.cond (.t 10) (.seq (.ops [⟨(some 4), none, .q (.mov (.c (.sc (.bool false))))⟩])
  .ret)
  .skip))
  (.seq (.seq (.ops [⟨(some 11), none, .q (.fadr 1 (.t 2))⟩, ⟨(some 12), none, .q (.load false 1 (.t 11))⟩, ⟨(some 13), none, .q (.fadr 1 (.t 3))⟩, ⟨(some 14), none, .q (.load false 1 (.t 13))⟩, ⟨(some 15), none, .c (.c (.clo 173 [])) [(.t 12), (.t 14)]⟩, ⟨(some 16), none, .q (.not (.t 15))⟩])
  (.cond (.t 16) (.seq (.ops [⟨(some 4), none, .q (.mov (.c (.sc (.bool false))))⟩])
  .ret)
  .skip))
  (.seq (.ops [⟨(some 4), none, .q (.mov (.c (.sc (.bool true))))⟩])
  .ret))))
theorem K126 : Try.f126.body.bind (comp Try.prog) = some A126 ∧ Try.f126.ntmps = 17 ∧ Try.f126.results.toList.mapM (resB Try.prog) = some [.mov (.t 4)] := ⟨by kernel_rfl, by kernel_rfl, by kernel_rfl⟩
theorem R126 (x : Plan) (hx : Plan.ty.ok x) : Ret Try.prog 126 [.agg (Plan.ty.cs x), .agg (Plan.ty.cs x)] (.sc (.bool true)) [.un, .un] := by
  obtain ⟨o0, o1, _⟩ := hx
  refine Ret.run Try.func126 K126 (by simp) rfl rfl 500 ?_
  simp [A126, iniρ, Plan.cse]
  refine callK.ro 0 rfl (by kernel_rfl) (by simp [roc_sc, roc_ro, roc_agg, Plan.cse]) (R87 x.tasks o0) rfl rfl rfl ?_
  simp [Plan.cse]
  refine callK.ro 0 rfl (by kernel_rfl) (by simp [roc_sc, roc_ro, roc_agg, Plan.cse]) (R173 x.deps o1) rfl rfl rfl ?_
  simp [Plan.cse]
/- 136: loop.example/g00464/laws.szMade -/
def A136 : AC := (.seq (.ops [⟨(some 2), none, .w (.box (.t 0))⟩, ⟨(some 4), none, .q (.mov (.c (.sc (.int .i64 0))))⟩])
  (.seq (.ops [⟨(some 5), none, .q (.mov (.t 1))⟩, ⟨(some 6), none, .q (.fadr 0 (.t 2))⟩, ⟨(some 7), none, .q (.load false 1 (.t 6))⟩, ⟨(some 8), none, .q (.slen (.t 7))⟩, ⟨(some 9), none, .q (.bin .sub (.t 5) (.t 8))⟩, ⟨(some 1), none, .q (.mov (.t 9))⟩])
  (.seq (.seq (.ops [⟨(some 10), none, .q (.mov (.t 1))⟩, ⟨(some 11), none, .q (.bin .lss (.t 10) (.c (.sc (.int .i64 0))))⟩])
  (.cond (.t 11) (.seq (.ops [⟨(some 4), none, .q (.mov (.c (.sc (.int .i64 (-1)))))⟩])
  .ret)
  .skip))
  (.seq (.ops [⟨(some 12), none, .q (.fadr 1 (.t 2))⟩, ⟨(some 13), none, .q (.load false 1 (.t 12))⟩, ⟨(some 14), none, .q (.mov (.t 1))⟩, ⟨(some 15), none, .c (.c (.clo 74 [])) [(.t 13), (.t 14)]⟩, ⟨(some 1), none, .q (.mov (.t 15))⟩])
  (.seq (.seq (.ops [⟨(some 16), none, .q (.mov (.t 1))⟩, ⟨(some 17), none, .q (.bin .lss (.t 16) (.c (.sc (.int .i64 0))))⟩])
  (.cond (.t 17) (.seq (.ops [⟨(some 4), none, .q (.mov (.c (.sc (.int .i64 (-1)))))⟩])
  .ret)
  .skip))
  (.seq (.ops [⟨(some 18), none, .q (.mov (.t 1))⟩, ⟨(some 19), none, .q (.fadr 2 (.t 2))⟩, ⟨(some 20), none, .q (.load false 1 (.t 19))⟩, ⟨(some 21), none, .q (.slen (.t 20))⟩, ⟨(some 22), none, .q (.bin .sub (.t 18) (.t 21))⟩, ⟨(some 1), none, .q (.mov (.t 22))⟩])
  (.seq (.seq (.ops [⟨(some 23), none, .q (.mov (.t 1))⟩, ⟨(some 24), none, .q (.bin .lss (.t 23) (.c (.sc (.int .i64 0))))⟩])
  (.cond (.t 24) (.seq (.ops [⟨(some 4), none, .q (.mov (.c (.sc (.int .i64 (-1)))))⟩])
  .ret)
  .skip))
  (.seq (.ops [⟨(some 25), none, .q (.mov (.t 1))⟩, ⟨(some 4), none, .q (.mov (.t 25))⟩])
  .ret))))))))
theorem K136 : Try.f136.body.bind (comp Try.prog) = some A136 ∧ Try.f136.ntmps = 26 ∧ Try.f136.results.toList.mapM (resB Try.prog) = some [.mov (.t 4)] := ⟨by kernel_rfl, by kernel_rfl, by kernel_rfl⟩
theorem R136 (x : Made) (hx : Made.ty.ok x) : Sz Try.prog 136 (.agg (Made.ty.cs x)) (Made.ty.wt x) := by
  intro l h0 h1
  obtain ⟨o0, o1, o2, _⟩ := hx
  have o0 : x.task.size ≤ 140737488351232 := o0
  have w0 : IntKind.i64.wrap (l - x.task.size) = l - x.task.size := wrap_i64 (by omega) (by omega)
  by_cases n0 : l - (x.task.size : Int) < 0
  · refine ⟨-1, .inl (by decide), ?_⟩
    refine Ret.run Try.func136 K136 (by simp) rfl rfl 500 ?_
    simp [A136, iniρ, Made.cse, w0, n0]
    try omega
  have p0 : 0 ≤ (l - (x.task.size : Int)) := by omega
  obtain ⟨m1, e1, q1⟩ := R74 x.outs o1 (l - (x.task.size : Int)) (by omega) (by omega)
  by_cases n1 : m1 < 0
  · refine ⟨-1, .inl (by decide), ?_⟩
    refine Ret.run Try.func136 K136 (by simp) rfl rfl 500 ?_
    simp [A136, iniρ, Made.cse, w0, n0, n1]
    refine callK.ro 0 rfl (by kernel_rfl) (by simp [roc_sc, roc_ro, roc_agg, Made.cse]) q1 rfl rfl rfl ?_
    simp [w0, n0, n1, Made.cse]
  have e1 : m1 = (l - (x.task.size : Int)) - ((x.outs.length + wtL File.ty.wt x.outs : Nat) : Int) := e1.resolve_left n1
  have o2 : x.log.size ≤ 140737488351232 := o2
  have w2 : IntKind.i64.wrap (m1 - x.log.size) = m1 - x.log.size := wrap_i64 (by omega) (by omega)
  by_cases n2 : m1 - (x.log.size : Int) < 0
  · refine ⟨-1, .inl (by decide), ?_⟩
    refine Ret.run Try.func136 K136 (by simp) rfl rfl 500 ?_
    simp [A136, iniρ, Made.cse, w0, n0, n1, w2, n2]
    refine callK.ro 0 rfl (by kernel_rfl) (by simp [roc_sc, roc_ro, roc_agg, Made.cse]) q1 rfl rfl rfl ?_
    simp [w0, n0, n1, w2, n2, Made.cse]
    try omega
  have p2 : 0 ≤ (m1 - (x.log.size : Int)) := by omega
  refine ⟨(m1 - (x.log.size : Int)), .inr ?_, ?_⟩
  · rw [Made.wte]; omega
  refine Ret.run Try.func136 K136 (by simp) rfl rfl 500 ?_
  simp [A136, iniρ, Made.cse, w0, n0, n1, w2, n2]
  refine callK.ro 0 rfl (by kernel_rfl) (by simp [roc_sc, roc_ro, roc_agg, Made.cse]) q1 rfl rfl rfl ?_
  simp [w0, n0, n1, w2, n2, Made.cse]
theorem R76 (xs : List Made) (hx : Made.ty.slice.ok xs) : Sz Try.prog 76 (.ro (rows Made.ty.cs xs) xs.length) (Made.ty.slice.wt xs) := Sz.slice Made.ty (agg := true) Try.func76 ⟨by kernel_rfl, by kernel_rfl, by kernel_rfl⟩ (by kernel_rfl) (by simp) xs (fun x h => R136 x (hx.2 x h)) (Made.ty.lenb (by decide) hx)
/- 139: loop.example/g00464/laws.toMade -/
def A139 : AC := (.seq (.ops [⟨(some 1), none, .w (.box (.t 0))⟩, ⟨(some 2), none, .w (.alloc [(.sc (.string ⟨#[]⟩)), .em, (.sc (.string ⟨#[]⟩))])⟩])
  (.seq (.ops [⟨(some 3), none, .w (.alloc [(.sc (.string ⟨#[]⟩)), .em, (.sc (.string ⟨#[]⟩))])⟩])
  (.seq (.ops [⟨(some 4), none, .q (.fadr 0 (.t 1))⟩, ⟨(some 5), none, .q (.load false 1 (.t 4))⟩, ⟨(some 6), none, .q (.fadr 0 (.t 3))⟩, ⟨none, none, .w (.store 1 (.t 6) (.t 5))⟩])
  (.seq (.ops [⟨(some 7), none, .q (.fadr 1 (.t 1))⟩, ⟨(some 8), none, .q (.load false 1 (.t 7))⟩, ⟨(some 9), none, .c (.c (.clo 81 [])) [(.t 8)]⟩, ⟨(some 10), none, .q (.fadr 1 (.t 3))⟩, ⟨none, none, .w (.store 1 (.t 10) (.t 9))⟩])
  (.seq (.ops [⟨(some 11), none, .q (.fadr 2 (.t 1))⟩, ⟨(some 12), none, .q (.load false 1 (.t 11))⟩, ⟨(some 13), none, .q (.fadr 2 (.t 3))⟩, ⟨none, none, .w (.store 1 (.t 13) (.t 12))⟩])
  (.seq (.ops [⟨(some 14), none, .q (.load true 3 (.t 3))⟩, ⟨none, none, .w (.store 3 (.t 2) (.t 14))⟩])
  .ret))))))
theorem K139 : Try.f139.body.bind (comp Try.prog) = some A139 ∧ Try.f139.ntmps = 15 ∧ Try.f139.results.toList.mapM (resB Try.prog) = some [.load true 3 (.t 2)] := ⟨by kernel_rfl, by kernel_rfl, by kernel_rfl⟩
theorem R139 (x : Made) (hx : Made.ty.ok x) : Ret Try.prog 139 [.agg (Made.ty.cs x)] (.agg (Made.ty.oc x)) [.un] := by
  obtain ⟨o0, o1, o2, _⟩ := hx
  refine Ret.run Try.func139 K139 (by simp) rfl rfl 500 ?_
  simp [A139, iniρ, Made.cse, over, ex1, Made.oce, File.ocl, File.frL]
  refine callK.own 501 rfl (by kernel_rfl) (by simp [roc_sc, roc_ro, roc_agg, Made.cse]) (R81 x.outs o1) (File.ty.flo x.outs) (by simp) rfl ?_
  simp [over, ex1, Made.oce, File.ocl, File.frL]
theorem R83 (xs : List Made) (hx : Made.ty.slice.ok xs) : Ret Try.prog 83 [.ro (rows Made.ty.cs xs) xs.length] (.own (rows Made.ty.oc xs) xs.length 3) [.un] := Ret.toS Made.ty Try.func83 ⟨by kernel_rfl, by kernel_rfl, by kernel_rfl⟩ (by kernel_rfl) (fun x h => R139 x h) (by decide) (by decide) xs hx
/- 142: loop.example/g00464/laws.eqMade -/
def A142 : AC := (.seq (.ops [⟨(some 2), none, .w (.box (.t 0))⟩, ⟨(some 3), none, .w (.box (.t 1))⟩, ⟨(some 4), none, .q (.mov (.c (.sc (.bool false))))⟩])
  (.seq (.seq (.ops [⟨(some 5), none, .q (.fadr 0 (.t 2))⟩, ⟨(some 6), none, .q (.load false 1 (.t 5))⟩, ⟨(some 7), none, .q (.fadr 0 (.t 3))⟩, ⟨(some 8), none, .q (.load false 1 (.t 7))⟩, ⟨(some 9), none, .q (.bin .neq (.t 6) (.t 8))⟩])
  (.cond (.t 9) (.seq (.ops [⟨(some 4), none, .q (.mov (.c (.sc (.bool false))))⟩])
  .ret)
  .skip))
  (.seq (.seq (.ops [⟨(some 10), none, .q (.fadr 1 (.t 2))⟩, ⟨(some 11), none, .q (.load false 1 (.t 10))⟩, ⟨(some 12), none, .q (.fadr 1 (.t 3))⟩, ⟨(some 13), none, .q (.load false 1 (.t 12))⟩, ⟨(some 14), none, .c (.c (.clo 88 [])) [(.t 11), (.t 13)]⟩, ⟨(some 15), none, .q (.not (.t 14))⟩])
  (.cond (.t 15) (.seq (.ops [⟨(some 4), none, .q (.mov (.c (.sc (.bool false))))⟩])
  .ret)
  .skip))
  (.seq (.seq (.ops [⟨(some 16), none, .q (.fadr 2 (.t 2))⟩, ⟨(some 17), none, .q (.load false 1 (.t 16))⟩, ⟨(some 18), none, .q (.fadr 2 (.t 3))⟩, ⟨(some 19), none, .q (.load false 1 (.t 18))⟩, ⟨(some 20), none, .q (.bin .neq (.t 17) (.t 19))⟩])
  (.cond (.t 20) (.seq (.ops [⟨(some 4), none, .q (.mov (.c (.sc (.bool false))))⟩])
  .ret)
  .skip))
  (.seq (.ops [⟨(some 4), none, .q (.mov (.c (.sc (.bool true))))⟩])
  .ret)))))
theorem K142 : Try.f142.body.bind (comp Try.prog) = some A142 ∧ Try.f142.ntmps = 21 ∧ Try.f142.results.toList.mapM (resB Try.prog) = some [.mov (.t 4)] := ⟨by kernel_rfl, by kernel_rfl, by kernel_rfl⟩
theorem R142 (x : Made) (hx : Made.ty.ok x) : Ret Try.prog 142 [.agg (Made.ty.cs x), .agg (Made.ty.cs x)] (.sc (.bool true)) [.un, .un] := by
  obtain ⟨o0, o1, o2, _⟩ := hx
  refine Ret.run Try.func142 K142 (by simp) rfl rfl 500 ?_
  simp [A142, iniρ, Made.cse]
  refine callK.ro 0 rfl (by kernel_rfl) (by simp [roc_sc, roc_ro, roc_agg, Made.cse]) (R88 x.outs o1) rfl rfl rfl ?_
  simp [Made.cse]
theorem R90 (xs : List Made) (hx : Made.ty.slice.ok xs) : Ret Try.prog 90 [.ro (rows Made.ty.cs xs) xs.length, .ro (rows Made.ty.cs xs) xs.length] (.sc (.bool true)) [.un, .un] := Ret.eqS mixed Made.ty (agg := true) Try.func90 ⟨by kernel_rfl, by kernel_rfl, by kernel_rfl⟩ (by kernel_rfl) (by simp) xs (fun x h => R142 x (hx.2 x h)) (Made.ty.lenb (by decide) hx)
/- 164: loop.example/g00464/laws.szMark -/
def A164 : AC := (.seq (.ops [⟨(some 2), none, .w (.box (.t 0))⟩, ⟨(some 4), none, .q (.mov (.c (.sc (.int .i64 0))))⟩])
  (.seq (.ops [⟨(some 5), none, .q (.mov (.t 1))⟩, ⟨(some 6), none, .q (.fadr 0 (.t 2))⟩, ⟨(some 7), none, .q (.load false 1 (.t 6))⟩, ⟨(some 8), none, .q (.slen (.t 7))⟩, ⟨(some 9), none, .q (.bin .sub (.t 5) (.t 8))⟩, ⟨(some 1), none, .q (.mov (.t 9))⟩])
  (.seq (.seq (.ops [⟨(some 10), none, .q (.mov (.t 1))⟩, ⟨(some 11), none, .q (.bin .lss (.t 10) (.c (.sc (.int .i64 0))))⟩])
  (.cond (.t 11) (.seq (.ops [⟨(some 4), none, .q (.mov (.c (.sc (.int .i64 (-1)))))⟩])
  .ret)
  .skip))
  (.seq (.ops [⟨(some 12), none, .q (.mov (.t 1))⟩, ⟨(some 4), none, .q (.mov (.t 12))⟩])
  .ret))))
theorem K164 : Try.f164.body.bind (comp Try.prog) = some A164 ∧ Try.f164.ntmps = 13 ∧ Try.f164.results.toList.mapM (resB Try.prog) = some [.mov (.t 4)] := ⟨by kernel_rfl, by kernel_rfl, by kernel_rfl⟩
theorem R164 (x : Mark) (hx : Mark.ty.ok x) : Sz Try.prog 164 (.agg (Mark.ty.cs x)) (Mark.ty.wt x) := by
  intro l h0 h1
  obtain ⟨o0, o1, _⟩ := hx
  have o0 : x.task.size ≤ 140737488351232 := o0
  have w0 : IntKind.i64.wrap (l - x.task.size) = l - x.task.size := wrap_i64 (by omega) (by omega)
  by_cases n0 : l - (x.task.size : Int) < 0
  · refine ⟨-1, .inl (by decide), ?_⟩
    refine Ret.run Try.func164 K164 (by simp) rfl rfl 500 ?_
    simp [A164, iniρ, Mark.cse, w0, n0]
    try omega
  have p0 : 0 ≤ (l - (x.task.size : Int)) := by omega
  refine ⟨(l - (x.task.size : Int)), .inr ?_, ?_⟩
  · rw [Mark.wte]; omega
  refine Ret.run Try.func164 K164 (by simp) rfl rfl 500 ?_
  simp [A164, iniρ, Mark.cse, w0, n0]
theorem R119 (xs : List Mark) (hx : Mark.ty.slice.ok xs) : Sz Try.prog 119 (.ro (rows Mark.ty.cs xs) xs.length) (Mark.ty.slice.wt xs) := Sz.slice Mark.ty (agg := true) Try.func119 ⟨by kernel_rfl, by kernel_rfl, by kernel_rfl⟩ (by kernel_rfl) (by simp) xs (fun x h => R164 x (hx.2 x h)) (Mark.ty.lenb (by decide) hx)
/- 169: loop.example/g00464/laws.toMark -/
def A169 : AC := (.seq (.ops [⟨(some 1), none, .w (.box (.t 0))⟩, ⟨(some 2), none, .w (.alloc [(.sc (.string ⟨#[]⟩)), (.sc (.int .i64 0))])⟩])
  (.seq (.ops [⟨(some 3), none, .w (.alloc [(.sc (.string ⟨#[]⟩)), (.sc (.int .i64 0))])⟩])
  (.seq (.ops [⟨(some 4), none, .q (.fadr 0 (.t 1))⟩, ⟨(some 5), none, .q (.load false 1 (.t 4))⟩, ⟨(some 6), none, .q (.fadr 0 (.t 3))⟩, ⟨none, none, .w (.store 1 (.t 6) (.t 5))⟩])
  (.seq (.ops [⟨(some 7), none, .q (.fadr 1 (.t 1))⟩, ⟨(some 8), none, .q (.load false 1 (.t 7))⟩, ⟨(some 9), none, .q (.fadr 1 (.t 3))⟩, ⟨none, none, .w (.store 1 (.t 9) (.t 8))⟩])
  (.seq (.ops [⟨(some 10), none, .q (.load true 2 (.t 3))⟩, ⟨none, none, .w (.store 2 (.t 2) (.t 10))⟩])
  .ret)))))
theorem K169 : Try.f169.body.bind (comp Try.prog) = some A169 ∧ Try.f169.ntmps = 11 ∧ Try.f169.results.toList.mapM (resB Try.prog) = some [.load true 2 (.t 2)] := ⟨by kernel_rfl, by kernel_rfl, by kernel_rfl⟩
theorem R169 (x : Mark) (hx : Mark.ty.ok x) : Ret Try.prog 169 [.agg (Mark.ty.cs x)] (.agg (Mark.ty.oc x)) [.un] := by
  obtain ⟨o0, o1, _⟩ := hx
  refine Ret.run Try.func169 K169 (by simp) rfl rfl 500 ?_
  simp [A169, iniρ, Mark.cse, over, ex1, Mark.oce]
theorem R123 (xs : List Mark) (hx : Mark.ty.slice.ok xs) : Ret Try.prog 123 [.ro (rows Mark.ty.cs xs) xs.length] (.own (rows Mark.ty.oc xs) xs.length 2) [.un] := Ret.toS Mark.ty Try.func123 ⟨by kernel_rfl, by kernel_rfl, by kernel_rfl⟩ (by kernel_rfl) (fun x h => R169 x h) (by decide) (by decide) xs hx
/- 174: loop.example/g00464/laws.eqMark -/
def A174 : AC := (.seq (.ops [⟨(some 2), none, .w (.box (.t 0))⟩, ⟨(some 3), none, .w (.box (.t 1))⟩, ⟨(some 4), none, .q (.mov (.c (.sc (.bool false))))⟩])
  (.seq (.seq (.ops [⟨(some 5), none, .q (.fadr 0 (.t 2))⟩, ⟨(some 6), none, .q (.load false 1 (.t 5))⟩, ⟨(some 7), none, .q (.fadr 0 (.t 3))⟩, ⟨(some 8), none, .q (.load false 1 (.t 7))⟩, ⟨(some 9), none, .q (.bin .neq (.t 6) (.t 8))⟩])
  (.cond (.t 9) (.seq (.ops [⟨(some 4), none, .q (.mov (.c (.sc (.bool false))))⟩])
  .ret)
  .skip))
  (.seq (.seq (.ops [⟨(some 10), none, .q (.fadr 1 (.t 2))⟩, ⟨(some 11), none, .q (.load false 1 (.t 10))⟩, ⟨(some 12), none, .q (.fadr 1 (.t 3))⟩, ⟨(some 13), none, .q (.load false 1 (.t 12))⟩, ⟨(some 14), none, .q (.bin .neq (.t 11) (.t 13))⟩])
  (.cond (.t 14) (.seq (.ops [⟨(some 4), none, .q (.mov (.c (.sc (.bool false))))⟩])
  .ret)
  .skip))
  (.seq (.ops [⟨(some 4), none, .q (.mov (.c (.sc (.bool true))))⟩])
  .ret))))
theorem K174 : Try.f174.body.bind (comp Try.prog) = some A174 ∧ Try.f174.ntmps = 15 ∧ Try.f174.results.toList.mapM (resB Try.prog) = some [.mov (.t 4)] := ⟨by kernel_rfl, by kernel_rfl, by kernel_rfl⟩
theorem R174 (x : Mark) (hx : Mark.ty.ok x) : Ret Try.prog 174 [.agg (Mark.ty.cs x), .agg (Mark.ty.cs x)] (.sc (.bool true)) [.un, .un] := by
  obtain ⟨o0, o1, _⟩ := hx
  refine Ret.run Try.func174 K174 (by simp) rfl rfl 500 ?_
  simp [A174, iniρ, Mark.cse]
theorem R127 (xs : List Mark) (hx : Mark.ty.slice.ok xs) : Ret Try.prog 127 [.ro (rows Mark.ty.cs xs) xs.length, .ro (rows Mark.ty.cs xs) xs.length] (.sc (.bool true)) [.un, .un] := Ret.eqS mixed Mark.ty (agg := true) Try.func127 ⟨by kernel_rfl, by kernel_rfl, by kernel_rfl⟩ (by kernel_rfl) (by simp) xs (fun x h => R174 x (hx.2 x h)) (Mark.ty.lenb (by decide) hx)
/- 165: loop.example/g00464/laws.szSlot -/
def A165 : AC := (.seq (.ops [⟨(some 2), none, .w (.box (.t 0))⟩, ⟨(some 4), none, .q (.mov (.c (.sc (.int .i64 0))))⟩])
  (.seq (.ops [⟨(some 5), none, .q (.fadr 0 (.t 2))⟩, ⟨(some 6), none, .q (.load false 1 (.t 5))⟩, ⟨(some 7), none, .q (.mov (.t 1))⟩, ⟨(some 8), none, .c (.c (.clo 184 [])) [(.t 6), (.t 7)]⟩, ⟨(some 1), none, .q (.mov (.t 8))⟩])
  (.seq (.seq (.ops [⟨(some 9), none, .q (.mov (.t 1))⟩, ⟨(some 10), none, .q (.bin .lss (.t 9) (.c (.sc (.int .i64 0))))⟩])
  (.cond (.t 10) (.seq (.ops [⟨(some 4), none, .q (.mov (.c (.sc (.int .i64 (-1)))))⟩])
  .ret)
  .skip))
  (.seq (.ops [⟨(some 11), none, .q (.fadr 1 (.t 2))⟩, ⟨(some 12), none, .q (.load false 1 (.t 11))⟩, ⟨(some 13), none, .q (.mov (.t 1))⟩, ⟨(some 14), none, .c (.c (.clo 184 [])) [(.t 12), (.t 13)]⟩, ⟨(some 1), none, .q (.mov (.t 14))⟩])
  (.seq (.seq (.ops [⟨(some 15), none, .q (.mov (.t 1))⟩, ⟨(some 16), none, .q (.bin .lss (.t 15) (.c (.sc (.int .i64 0))))⟩])
  (.cond (.t 16) (.seq (.ops [⟨(some 4), none, .q (.mov (.c (.sc (.int .i64 (-1)))))⟩])
  .ret)
  .skip))
  (.seq (.ops [⟨(some 17), none, .q (.mov (.t 1))⟩, ⟨(some 4), none, .q (.mov (.t 17))⟩])
  .ret))))))
theorem K165 : Try.f165.body.bind (comp Try.prog) = some A165 ∧ Try.f165.ntmps = 18 ∧ Try.f165.results.toList.mapM (resB Try.prog) = some [.mov (.t 4)] := ⟨by kernel_rfl, by kernel_rfl, by kernel_rfl⟩
theorem R165 (x : Slot) (hx : Slot.ty.ok x) : Sz Try.prog 165 (.agg (Slot.ty.cs x)) (Slot.ty.wt x) := by
  intro l h0 h1
  obtain ⟨o0, o1, _⟩ := hx
  obtain ⟨m0, e0, q0⟩ := R184 x.key o0 l (by omega) (by omega)
  by_cases n0 : m0 < 0
  · refine ⟨-1, .inl (by decide), ?_⟩
    refine Ret.run Try.func165 K165 (by simp) rfl rfl 500 ?_
    simp [A165, iniρ, Slot.cse, n0]
    refine callK.ro 0 rfl (by kernel_rfl) (by simp [roc_sc, roc_ro, roc_agg, Slot.cse]) q0 rfl rfl rfl ?_
    simp [n0, Slot.cse]
  have e0 : m0 = l - ((x.key.length + wtL Ty.byte.wt x.key : Nat) : Int) := e0.resolve_left n0
  obtain ⟨m1, e1, q1⟩ := R184 x.b o1 m0 (by omega) (by omega)
  by_cases n1 : m1 < 0
  · refine ⟨-1, .inl (by decide), ?_⟩
    refine Ret.run Try.func165 K165 (by simp) rfl rfl 500 ?_
    simp [A165, iniρ, Slot.cse, n0, n1]
    refine callK.ro 0 rfl (by kernel_rfl) (by simp [roc_sc, roc_ro, roc_agg, Slot.cse]) q0 rfl rfl rfl ?_
    simp [n0, n1, Slot.cse]
    refine callK.ro 0 rfl (by kernel_rfl) (by simp [roc_sc, roc_ro, roc_agg, Slot.cse]) q1 rfl rfl rfl ?_
    simp [n0, n1, Slot.cse]
  have e1 : m1 = m0 - ((x.b.length + wtL Ty.byte.wt x.b : Nat) : Int) := e1.resolve_left n1
  refine ⟨m1, .inr ?_, ?_⟩
  · rw [Slot.wte]; omega
  refine Ret.run Try.func165 K165 (by simp) rfl rfl 500 ?_
  simp [A165, iniρ, Slot.cse, n0, n1]
  refine callK.ro 0 rfl (by kernel_rfl) (by simp [roc_sc, roc_ro, roc_agg, Slot.cse]) q0 rfl rfl rfl ?_
  simp [n0, n1, Slot.cse]
  refine callK.ro 0 rfl (by kernel_rfl) (by simp [roc_sc, roc_ro, roc_agg, Slot.cse]) q1 rfl rfl rfl ?_
  simp [n0, n1, Slot.cse]
theorem R120 (xs : List Slot) (hx : Slot.ty.slice.ok xs) : Sz Try.prog 120 (.ro (rows Slot.ty.cs xs) xs.length) (Slot.ty.slice.wt xs) := Sz.slice Slot.ty (agg := true) Try.func120 ⟨by kernel_rfl, by kernel_rfl, by kernel_rfl⟩ (by kernel_rfl) (by simp) xs (fun x h => R165 x (hx.2 x h)) (Slot.ty.lenb (by decide) hx)
/- 170: loop.example/g00464/laws.toSlot -/
def A170 : AC := (.seq (.ops [⟨(some 1), none, .w (.box (.t 0))⟩, ⟨(some 2), none, .w (.alloc [.em, .em])⟩])
  (.seq (.ops [⟨(some 3), none, .w (.alloc [.em, .em])⟩])
  (.seq (.ops [⟨(some 4), none, .q (.fadr 0 (.t 1))⟩, ⟨(some 5), none, .q (.load false 1 (.t 4))⟩, ⟨(some 6), none, .c (.c (.clo 187 [])) [(.t 5)]⟩, ⟨(some 7), none, .q (.fadr 0 (.t 3))⟩, ⟨none, none, .w (.store 1 (.t 7) (.t 6))⟩])
  (.seq (.ops [⟨(some 8), none, .q (.fadr 1 (.t 1))⟩, ⟨(some 9), none, .q (.load false 1 (.t 8))⟩, ⟨(some 10), none, .c (.c (.clo 187 [])) [(.t 9)]⟩, ⟨(some 11), none, .q (.fadr 1 (.t 3))⟩, ⟨none, none, .w (.store 1 (.t 11) (.t 10))⟩])
  (.seq (.ops [⟨(some 12), none, .q (.load true 2 (.t 3))⟩, ⟨none, none, .w (.store 2 (.t 2) (.t 12))⟩])
  .ret)))))
theorem K170 : Try.f170.body.bind (comp Try.prog) = some A170 ∧ Try.f170.ntmps = 13 ∧ Try.f170.results.toList.mapM (resB Try.prog) = some [.load true 2 (.t 2)] := ⟨by kernel_rfl, by kernel_rfl, by kernel_rfl⟩
theorem R170 (x : Slot) (hx : Slot.ty.ok x) : Ret Try.prog 170 [.agg (Slot.ty.cs x)] (.agg (Slot.ty.oc x)) [.un] := by
  obtain ⟨o0, o1, _⟩ := hx
  refine Ret.run Try.func170 K170 (by simp) rfl rfl 500 ?_
  simp [A170, iniρ, Slot.cse, over, ex1, Slot.oce, byte_ocl, Ty.byte.frL]
  refine callK.own 500 rfl (by kernel_rfl) (by simp [roc_sc, roc_ro, roc_agg, Slot.cse]) (R187 x.key o0) (Ty.byte.flo x.key) (by simp) rfl ?_
  simp [over, ex1, Slot.oce, byte_ocl, Ty.byte.frL]
  refine callK.own 501 rfl (by kernel_rfl) (by simp [roc_sc, roc_ro, roc_agg, Slot.cse]) (R187 x.b o1) (Ty.byte.flo x.b) (by simp) rfl ?_
  simp [over, ex1, Slot.oce, byte_ocl, Ty.byte.frL]
theorem R124 (xs : List Slot) (hx : Slot.ty.slice.ok xs) : Ret Try.prog 124 [.ro (rows Slot.ty.cs xs) xs.length] (.own (rows Slot.ty.oc xs) xs.length 2) [.un] := Ret.toS Slot.ty Try.func124 ⟨by kernel_rfl, by kernel_rfl, by kernel_rfl⟩ (by kernel_rfl) (fun x h => R170 x h) (by decide) (by decide) xs hx
/- 175: loop.example/g00464/laws.eqSlot -/
def A175 : AC := (.seq (.ops [⟨(some 2), none, .w (.box (.t 0))⟩, ⟨(some 3), none, .w (.box (.t 1))⟩, ⟨(some 4), none, .q (.mov (.c (.sc (.bool false))))⟩])
  (.seq (.seq (.ops [⟨(some 5), none, .q (.fadr 0 (.t 2))⟩, ⟨(some 6), none, .q (.load false 1 (.t 5))⟩, ⟨(some 7), none, .q (.fadr 0 (.t 3))⟩, ⟨(some 8), none, .q (.load false 1 (.t 7))⟩, ⟨(some 9), none, .c (.c (.clo 190 [])) [(.t 6), (.t 8)]⟩, ⟨(some 10), none, .q (.not (.t 9))⟩])
  (.cond (.t 10) (.seq (.ops [⟨(some 4), none, .q (.mov (.c (.sc (.bool false))))⟩])
  .ret)
  .skip))
  (.seq (.seq (.ops [⟨(some 11), none, .q (.fadr 1 (.t 2))⟩, ⟨(some 12), none, .q (.load false 1 (.t 11))⟩, ⟨(some 13), none, .q (.fadr 1 (.t 3))⟩, ⟨(some 14), none, .q (.load false 1 (.t 13))⟩, ⟨(some 15), none, .c (.c (.clo 190 [])) [(.t 12), (.t 14)]⟩, ⟨(some 16), none, .q (.not (.t 15))⟩])
  (.cond (.t 16) (.seq (.ops [⟨(some 4), none, .q (.mov (.c (.sc (.bool false))))⟩])
  .ret)
  .skip))
  (.seq (.ops [⟨(some 4), none, .q (.mov (.c (.sc (.bool true))))⟩])
  .ret))))
theorem K175 : Try.f175.body.bind (comp Try.prog) = some A175 ∧ Try.f175.ntmps = 17 ∧ Try.f175.results.toList.mapM (resB Try.prog) = some [.mov (.t 4)] := ⟨by kernel_rfl, by kernel_rfl, by kernel_rfl⟩
theorem R175 (x : Slot) (hx : Slot.ty.ok x) : Ret Try.prog 175 [.agg (Slot.ty.cs x), .agg (Slot.ty.cs x)] (.sc (.bool true)) [.un, .un] := by
  obtain ⟨o0, o1, _⟩ := hx
  refine Ret.run Try.func175 K175 (by simp) rfl rfl 500 ?_
  simp [A175, iniρ, Slot.cse]
  refine callK.ro 0 rfl (by kernel_rfl) (by simp [roc_sc, roc_ro, roc_agg, Slot.cse]) (R190 x.key o0) rfl rfl rfl ?_
  simp [Slot.cse]
  refine callK.ro 0 rfl (by kernel_rfl) (by simp [roc_sc, roc_ro, roc_agg, Slot.cse]) (R190 x.b o1) rfl rfl rfl ?_
  simp [Slot.cse]
theorem R128 (xs : List Slot) (hx : Slot.ty.slice.ok xs) : Ret Try.prog 128 [.ro (rows Slot.ty.cs xs) xs.length, .ro (rows Slot.ty.cs xs) xs.length] (.sc (.bool true)) [.un, .un] := Ret.eqS mixed Slot.ty (agg := true) Try.func128 ⟨by kernel_rfl, by kernel_rfl, by kernel_rfl⟩ (by kernel_rfl) (by simp) xs (fun x h => R175 x (hx.2 x h)) (Slot.ty.lenb (by decide) hx)
/- 53: loop.example/g00464/laws.szRun -/
def A53 : AC := (.seq (.ops [⟨(some 2), none, .w (.box (.t 0))⟩, ⟨(some 4), none, .q (.mov (.c (.sc (.int .i64 0))))⟩])
  (.seq (.ops [⟨(some 5), none, .q (.fadr 0 (.t 2))⟩, ⟨(some 6), none, .q (.load true 4 (.t 5))⟩, ⟨(some 7), none, .q (.mov (.t 1))⟩, ⟨(some 8), none, .c (.c (.clo 117 [])) [(.t 6), (.t 7)]⟩, ⟨(some 1), none, .q (.mov (.t 8))⟩])
  (.seq (.seq (.ops [⟨(some 9), none, .q (.mov (.t 1))⟩, ⟨(some 10), none, .q (.bin .lss (.t 9) (.c (.sc (.int .i64 0))))⟩])
  (.cond (.t 10) (.seq (.ops [⟨(some 4), none, .q (.mov (.c (.sc (.int .i64 (-1)))))⟩])
  .ret)
  .skip))
  (.seq (.ops [⟨(some 11), none, .q (.fadr 4 (.t 2))⟩, ⟨(some 12), none, .q (.load true 2 (.t 11))⟩, ⟨(some 13), none, .q (.mov (.t 1))⟩, ⟨(some 14), none, .c (.c (.clo 118 [])) [(.t 12), (.t 13)]⟩, ⟨(some 1), none, .q (.mov (.t 14))⟩])
  (.seq (.seq (.ops [⟨(some 15), none, .q (.mov (.t 1))⟩, ⟨(some 16), none, .q (.bin .lss (.t 15) (.c (.sc (.int .i64 0))))⟩])
  (.cond (.t 16) (.seq (.ops [⟨(some 4), none, .q (.mov (.c (.sc (.int .i64 (-1)))))⟩])
  .ret)
  .skip))
  (.seq (.ops [⟨(some 17), none, .q (.fadr 8 (.t 2))⟩, ⟨(some 18), none, .q (.load false 1 (.t 17))⟩, ⟨(some 19), none, .q (.mov (.t 1))⟩, ⟨(some 20), none, .c (.c (.clo 76 [])) [(.t 18), (.t 19)]⟩, ⟨(some 1), none, .q (.mov (.t 20))⟩])
  (.seq (.seq (.ops [⟨(some 21), none, .q (.mov (.t 1))⟩, ⟨(some 22), none, .q (.bin .lss (.t 21) (.c (.sc (.int .i64 0))))⟩])
  (.cond (.t 22) (.seq (.ops [⟨(some 4), none, .q (.mov (.c (.sc (.int .i64 (-1)))))⟩])
  .ret)
  .skip))
  (.seq (.ops [⟨(some 23), none, .q (.fadr 9 (.t 2))⟩, ⟨(some 24), none, .q (.load false 1 (.t 23))⟩, ⟨(some 25), none, .q (.mov (.t 1))⟩, ⟨(some 26), none, .c (.c (.clo 119 [])) [(.t 24), (.t 25)]⟩, ⟨(some 1), none, .q (.mov (.t 26))⟩])
  (.seq (.seq (.ops [⟨(some 27), none, .q (.mov (.t 1))⟩, ⟨(some 28), none, .q (.bin .lss (.t 27) (.c (.sc (.int .i64 0))))⟩])
  (.cond (.t 28) (.seq (.ops [⟨(some 4), none, .q (.mov (.c (.sc (.int .i64 (-1)))))⟩])
  .ret)
  .skip))
  (.seq (.ops [⟨(some 29), none, .q (.fadr 10 (.t 2))⟩, ⟨(some 30), none, .q (.load false 1 (.t 29))⟩, ⟨(some 31), none, .q (.mov (.t 1))⟩, ⟨(some 32), none, .c (.c (.clo 73 [])) [(.t 30), (.t 31)]⟩, ⟨(some 1), none, .q (.mov (.t 32))⟩])
  (.seq (.seq (.ops [⟨(some 33), none, .q (.mov (.t 1))⟩, ⟨(some 34), none, .q (.bin .lss (.t 33) (.c (.sc (.int .i64 0))))⟩])
  (.cond (.t 34) (.seq (.ops [⟨(some 4), none, .q (.mov (.c (.sc (.int .i64 (-1)))))⟩])
  .ret)
  .skip))
  (.seq (.ops [⟨(some 35), none, .q (.fadr 11 (.t 2))⟩, ⟨(some 36), none, .q (.load false 1 (.t 35))⟩, ⟨(some 37), none, .q (.mov (.t 1))⟩, ⟨(some 38), none, .c (.c (.clo 120 [])) [(.t 36), (.t 37)]⟩, ⟨(some 1), none, .q (.mov (.t 38))⟩])
  (.seq (.seq (.ops [⟨(some 39), none, .q (.mov (.t 1))⟩, ⟨(some 40), none, .q (.bin .lss (.t 39) (.c (.sc (.int .i64 0))))⟩])
  (.cond (.t 40) (.seq (.ops [⟨(some 4), none, .q (.mov (.c (.sc (.int .i64 (-1)))))⟩])
  .ret)
  .skip))
  (.seq (.ops [⟨(some 41), none, .q (.mov (.t 1))⟩, ⟨(some 4), none, .q (.mov (.t 41))⟩])
  .ret))))))))))))))
theorem K53 : Try.f53.body.bind (comp Try.prog) = some A53 ∧ Try.f53.ntmps = 42 ∧ Try.f53.results.toList.mapM (resB Try.prog) = some [.mov (.t 4)] := ⟨by kernel_rfl, by kernel_rfl, by kernel_rfl⟩
theorem R53 (x : Run) (hx : Run.ty.ok x) : Sz Try.prog 53 (.agg (Run.ty.cs x)) (Run.ty.wt x) := by
  intro l h0 h1
  obtain ⟨o0, o1, o2, o3, o4, o5, o6, o7, _⟩ := hx
  obtain ⟨m0, e0, q0⟩ := R117 x.w o0 l (by omega) (by omega)
  by_cases n0 : m0 < 0
  · refine ⟨-1, .inl (by decide), ?_⟩
    refine Ret.run Try.func53 K53 (by simp) rfl rfl 500 ?_
    simp [A53, iniρ, Run.cse, World.cse, Plan.cse, n0]
    refine callK.ro 0 rfl (by kernel_rfl) (by simp [roc_sc, roc_ro, roc_agg, Run.cse, World.cse, Plan.cse]) q0 rfl rfl rfl ?_
    simp [n0, Run.cse, World.cse, Plan.cse]
  have e0 : m0 = l - ((World.ty.wt x.w : Nat) : Int) := e0.resolve_left n0
  obtain ⟨m1, e1, q1⟩ := R118 x.p o1 m0 (by omega) (by omega)
  by_cases n1 : m1 < 0
  · refine ⟨-1, .inl (by decide), ?_⟩
    refine Ret.run Try.func53 K53 (by simp) rfl rfl 500 ?_
    simp [A53, iniρ, Run.cse, World.cse, Plan.cse, n0, n1]
    refine callK.ro 0 rfl (by kernel_rfl) (by simp [roc_sc, roc_ro, roc_agg, Run.cse, World.cse, Plan.cse]) q0 rfl rfl rfl ?_
    simp [n0, n1, Run.cse, World.cse, Plan.cse]
    refine callK.ro 0 rfl (by kernel_rfl) (by simp [roc_sc, roc_ro, roc_agg, Run.cse, World.cse, Plan.cse]) q1 rfl rfl rfl ?_
    simp [n0, n1, Run.cse, World.cse, Plan.cse]
  have e1 : m1 = m0 - ((Plan.ty.wt x.p : Nat) : Int) := e1.resolve_left n1
  obtain ⟨m4, e4, q4⟩ := R76 x.made o4 m1 (by omega) (by omega)
  by_cases n4 : m4 < 0
  · refine ⟨-1, .inl (by decide), ?_⟩
    refine Ret.run Try.func53 K53 (by simp) rfl rfl 500 ?_
    simp [A53, iniρ, Run.cse, World.cse, Plan.cse, n0, n1, n4]
    refine callK.ro 0 rfl (by kernel_rfl) (by simp [roc_sc, roc_ro, roc_agg, Run.cse, World.cse, Plan.cse]) q0 rfl rfl rfl ?_
    simp [n0, n1, n4, Run.cse, World.cse, Plan.cse]
    refine callK.ro 0 rfl (by kernel_rfl) (by simp [roc_sc, roc_ro, roc_agg, Run.cse, World.cse, Plan.cse]) q1 rfl rfl rfl ?_
    simp [n0, n1, n4, Run.cse, World.cse, Plan.cse]
    refine callK.ro 0 rfl (by kernel_rfl) (by simp [roc_sc, roc_ro, roc_agg, Run.cse, World.cse, Plan.cse]) q4 rfl rfl rfl ?_
    simp [n0, n1, n4, Run.cse, World.cse, Plan.cse]
  have e4 : m4 = m1 - ((x.made.length + wtL Made.ty.wt x.made : Nat) : Int) := e4.resolve_left n4
  obtain ⟨m5, e5, q5⟩ := R119 x.marks o5 m4 (by omega) (by omega)
  by_cases n5 : m5 < 0
  · refine ⟨-1, .inl (by decide), ?_⟩
    refine Ret.run Try.func53 K53 (by simp) rfl rfl 500 ?_
    simp [A53, iniρ, Run.cse, World.cse, Plan.cse, n0, n1, n4, n5]
    refine callK.ro 0 rfl (by kernel_rfl) (by simp [roc_sc, roc_ro, roc_agg, Run.cse, World.cse, Plan.cse]) q0 rfl rfl rfl ?_
    simp [n0, n1, n4, n5, Run.cse, World.cse, Plan.cse]
    refine callK.ro 0 rfl (by kernel_rfl) (by simp [roc_sc, roc_ro, roc_agg, Run.cse, World.cse, Plan.cse]) q1 rfl rfl rfl ?_
    simp [n0, n1, n4, n5, Run.cse, World.cse, Plan.cse]
    refine callK.ro 0 rfl (by kernel_rfl) (by simp [roc_sc, roc_ro, roc_agg, Run.cse, World.cse, Plan.cse]) q4 rfl rfl rfl ?_
    simp [n0, n1, n4, n5, Run.cse, World.cse, Plan.cse]
    refine callK.ro 0 rfl (by kernel_rfl) (by simp [roc_sc, roc_ro, roc_agg, Run.cse, World.cse, Plan.cse]) q5 rfl rfl rfl ?_
    simp [n0, n1, n4, n5, Run.cse, World.cse, Plan.cse]
  have e5 : m5 = m4 - ((x.marks.length + wtL Mark.ty.wt x.marks : Nat) : Int) := e5.resolve_left n5
  obtain ⟨m6, e6, q6⟩ := R73 x.going o6 m5 (by omega) (by omega)
  by_cases n6 : m6 < 0
  · refine ⟨-1, .inl (by decide), ?_⟩
    refine Ret.run Try.func53 K53 (by simp) rfl rfl 500 ?_
    simp [A53, iniρ, Run.cse, World.cse, Plan.cse, n0, n1, n4, n5, n6]
    refine callK.ro 0 rfl (by kernel_rfl) (by simp [roc_sc, roc_ro, roc_agg, Run.cse, World.cse, Plan.cse]) q0 rfl rfl rfl ?_
    simp [n0, n1, n4, n5, n6, Run.cse, World.cse, Plan.cse]
    refine callK.ro 0 rfl (by kernel_rfl) (by simp [roc_sc, roc_ro, roc_agg, Run.cse, World.cse, Plan.cse]) q1 rfl rfl rfl ?_
    simp [n0, n1, n4, n5, n6, Run.cse, World.cse, Plan.cse]
    refine callK.ro 0 rfl (by kernel_rfl) (by simp [roc_sc, roc_ro, roc_agg, Run.cse, World.cse, Plan.cse]) q4 rfl rfl rfl ?_
    simp [n0, n1, n4, n5, n6, Run.cse, World.cse, Plan.cse]
    refine callK.ro 0 rfl (by kernel_rfl) (by simp [roc_sc, roc_ro, roc_agg, Run.cse, World.cse, Plan.cse]) q5 rfl rfl rfl ?_
    simp [n0, n1, n4, n5, n6, Run.cse, World.cse, Plan.cse]
    refine callK.ro 0 rfl (by kernel_rfl) (by simp [roc_sc, roc_ro, roc_agg, Run.cse, World.cse, Plan.cse]) q6 rfl rfl rfl ?_
    simp [n0, n1, n4, n5, n6, Run.cse, World.cse, Plan.cse]
  have e6 : m6 = m5 - ((x.going.length + wtL Ty.str.wt x.going : Nat) : Int) := e6.resolve_left n6
  obtain ⟨m7, e7, q7⟩ := R120 x.cache o7 m6 (by omega) (by omega)
  by_cases n7 : m7 < 0
  · refine ⟨-1, .inl (by decide), ?_⟩
    refine Ret.run Try.func53 K53 (by simp) rfl rfl 500 ?_
    simp [A53, iniρ, Run.cse, World.cse, Plan.cse, n0, n1, n4, n5, n6, n7]
    refine callK.ro 0 rfl (by kernel_rfl) (by simp [roc_sc, roc_ro, roc_agg, Run.cse, World.cse, Plan.cse]) q0 rfl rfl rfl ?_
    simp [n0, n1, n4, n5, n6, n7, Run.cse, World.cse, Plan.cse]
    refine callK.ro 0 rfl (by kernel_rfl) (by simp [roc_sc, roc_ro, roc_agg, Run.cse, World.cse, Plan.cse]) q1 rfl rfl rfl ?_
    simp [n0, n1, n4, n5, n6, n7, Run.cse, World.cse, Plan.cse]
    refine callK.ro 0 rfl (by kernel_rfl) (by simp [roc_sc, roc_ro, roc_agg, Run.cse, World.cse, Plan.cse]) q4 rfl rfl rfl ?_
    simp [n0, n1, n4, n5, n6, n7, Run.cse, World.cse, Plan.cse]
    refine callK.ro 0 rfl (by kernel_rfl) (by simp [roc_sc, roc_ro, roc_agg, Run.cse, World.cse, Plan.cse]) q5 rfl rfl rfl ?_
    simp [n0, n1, n4, n5, n6, n7, Run.cse, World.cse, Plan.cse]
    refine callK.ro 0 rfl (by kernel_rfl) (by simp [roc_sc, roc_ro, roc_agg, Run.cse, World.cse, Plan.cse]) q6 rfl rfl rfl ?_
    simp [n0, n1, n4, n5, n6, n7, Run.cse, World.cse, Plan.cse]
    refine callK.ro 0 rfl (by kernel_rfl) (by simp [roc_sc, roc_ro, roc_agg, Run.cse, World.cse, Plan.cse]) q7 rfl rfl rfl ?_
    simp [n0, n1, n4, n5, n6, n7, Run.cse, World.cse, Plan.cse]
  have e7 : m7 = m6 - ((x.cache.length + wtL Slot.ty.wt x.cache : Nat) : Int) := e7.resolve_left n7
  refine ⟨m7, .inr ?_, ?_⟩
  · rw [Run.wte]; omega
  refine Ret.run Try.func53 K53 (by simp) rfl rfl 500 ?_
  simp [A53, iniρ, Run.cse, World.cse, Plan.cse, n0, n1, n4, n5, n6, n7]
  refine callK.ro 0 rfl (by kernel_rfl) (by simp [roc_sc, roc_ro, roc_agg, Run.cse, World.cse, Plan.cse]) q0 rfl rfl rfl ?_
  simp [n0, n1, n4, n5, n6, n7, Run.cse, World.cse, Plan.cse]
  refine callK.ro 0 rfl (by kernel_rfl) (by simp [roc_sc, roc_ro, roc_agg, Run.cse, World.cse, Plan.cse]) q1 rfl rfl rfl ?_
  simp [n0, n1, n4, n5, n6, n7, Run.cse, World.cse, Plan.cse]
  refine callK.ro 0 rfl (by kernel_rfl) (by simp [roc_sc, roc_ro, roc_agg, Run.cse, World.cse, Plan.cse]) q4 rfl rfl rfl ?_
  simp [n0, n1, n4, n5, n6, n7, Run.cse, World.cse, Plan.cse]
  refine callK.ro 0 rfl (by kernel_rfl) (by simp [roc_sc, roc_ro, roc_agg, Run.cse, World.cse, Plan.cse]) q5 rfl rfl rfl ?_
  simp [n0, n1, n4, n5, n6, n7, Run.cse, World.cse, Plan.cse]
  refine callK.ro 0 rfl (by kernel_rfl) (by simp [roc_sc, roc_ro, roc_agg, Run.cse, World.cse, Plan.cse]) q6 rfl rfl rfl ?_
  simp [n0, n1, n4, n5, n6, n7, Run.cse, World.cse, Plan.cse]
  refine callK.ro 0 rfl (by kernel_rfl) (by simp [roc_sc, roc_ro, roc_agg, Run.cse, World.cse, Plan.cse]) q7 rfl rfl rfl ?_
  simp [n0, n1, n4, n5, n6, n7, Run.cse, World.cse, Plan.cse]
/- 55: loop.example/g00464/laws.toRun -/
def A55 : AC := (.seq (.ops [⟨(some 1), none, .w (.box (.t 0))⟩, ⟨(some 2), none, .w (.alloc [.em, .em, .em, .em, .em, .em, (.sc (.int .i64 0)), (.sc (.bool false)), .em, .em, .em, .em])⟩])
  (.seq (.ops [⟨(some 3), none, .w (.alloc [.em, .em, .em, .em, .em, .em, (.sc (.int .i64 0)), (.sc (.bool false)), .em, .em, .em, .em])⟩])
  (.seq (.ops [⟨(some 4), none, .q (.fadr 0 (.t 1))⟩, ⟨(some 5), none, .q (.load true 4 (.t 4))⟩, ⟨(some 6), none, .c (.c (.clo 121 [])) [(.t 5)]⟩, ⟨(some 7), none, .q (.fadr 0 (.t 3))⟩, ⟨none, none, .w (.store 4 (.t 7) (.t 6))⟩])
  (.seq (.ops [⟨(some 8), none, .q (.fadr 4 (.t 1))⟩, ⟨(some 9), none, .q (.load true 2 (.t 8))⟩, ⟨(some 10), none, .c (.c (.clo 122 [])) [(.t 9)]⟩, ⟨(some 11), none, .q (.fadr 4 (.t 3))⟩, ⟨none, none, .w (.store 2 (.t 11) (.t 10))⟩])
  (.seq (.ops [⟨(some 12), none, .q (.fadr 6 (.t 1))⟩, ⟨(some 13), none, .q (.load false 1 (.t 12))⟩, ⟨(some 14), none, .q (.fadr 6 (.t 3))⟩, ⟨none, none, .w (.store 1 (.t 14) (.t 13))⟩])
  (.seq (.ops [⟨(some 15), none, .q (.fadr 7 (.t 1))⟩, ⟨(some 16), none, .q (.load false 1 (.t 15))⟩, ⟨(some 17), none, .q (.fadr 7 (.t 3))⟩, ⟨none, none, .w (.store 1 (.t 17) (.t 16))⟩])
  (.seq (.ops [⟨(some 18), none, .q (.fadr 8 (.t 1))⟩, ⟨(some 19), none, .q (.load false 1 (.t 18))⟩, ⟨(some 20), none, .c (.c (.clo 83 [])) [(.t 19)]⟩, ⟨(some 21), none, .q (.fadr 8 (.t 3))⟩, ⟨none, none, .w (.store 1 (.t 21) (.t 20))⟩])
  (.seq (.ops [⟨(some 22), none, .q (.fadr 9 (.t 1))⟩, ⟨(some 23), none, .q (.load false 1 (.t 22))⟩, ⟨(some 24), none, .c (.c (.clo 123 [])) [(.t 23)]⟩, ⟨(some 25), none, .q (.fadr 9 (.t 3))⟩, ⟨none, none, .w (.store 1 (.t 25) (.t 24))⟩])
  (.seq (.ops [⟨(some 26), none, .q (.fadr 10 (.t 1))⟩, ⟨(some 27), none, .q (.load false 1 (.t 26))⟩, ⟨(some 28), none, .c (.c (.clo 80 [])) [(.t 27)]⟩, ⟨(some 29), none, .q (.fadr 10 (.t 3))⟩, ⟨none, none, .w (.store 1 (.t 29) (.t 28))⟩])
  (.seq (.ops [⟨(some 30), none, .q (.fadr 11 (.t 1))⟩, ⟨(some 31), none, .q (.load false 1 (.t 30))⟩, ⟨(some 32), none, .c (.c (.clo 124 [])) [(.t 31)]⟩, ⟨(some 33), none, .q (.fadr 11 (.t 3))⟩, ⟨none, none, .w (.store 1 (.t 33) (.t 32))⟩])
  (.seq (.ops [⟨(some 34), none, .q (.load true 12 (.t 3))⟩, ⟨none, none, .w (.store 12 (.t 2) (.t 34))⟩])
  .ret)))))))))))
theorem K55 : Try.f55.body.bind (comp Try.prog) = some A55 ∧ Try.f55.ntmps = 35 ∧ Try.f55.results.toList.mapM (resB Try.prog) = some [.load true 12 (.t 2)] := ⟨by kernel_rfl, by kernel_rfl, by kernel_rfl⟩
theorem R55 (x : Run) (hx : Run.ty.ok x) : Ret Try.prog 55 [.agg (Run.ty.cs x)] (.agg (Run.ty.oc x)) [.un] := by
  obtain ⟨o0, o1, o2, o3, o4, o5, o6, o7, _⟩ := hx
  refine Ret.run Try.func55 K55 (by simp) rfl rfl 500 ?_
  simp [A55, iniρ, Run.cse, World.cse, Plan.cse, over, ex1, Run.oce, World.oce, Plan.oce, str_ocl, strs_ocl, Pack.ocl, Pack.frL, Rule.ocl, Rule.frL, File.ocl, File.frL, Env.ocl, Env.frL, Ty.str.frL, Ty.str.slice.frL, Made.ocl, Made.frL, Mark.ocl, Mark.frL, Slot.ocl, Slot.frL]
  refine callK.ro 500 rfl (by kernel_rfl) (by simp [roc_sc, roc_ro, roc_agg, Run.cse, World.cse, Plan.cse]) (R121 x.w o0) (by simpa [flt] using World.ty.flL x.w) (by simp [inst, instL, World.oce, upd_app]; exact ⟨rfl, rfl⟩) rfl ?_
  simp [over, ex1, Run.oce, World.oce, Plan.oce, str_ocl, strs_ocl, Pack.ocl, Pack.frL, Rule.ocl, Rule.frL, File.ocl, File.frL, Env.ocl, Env.frL, Ty.str.frL, Ty.str.slice.frL, Made.ocl, Made.frL, Mark.ocl, Mark.frL, Slot.ocl, Slot.frL]
  refine callK.ro 501 rfl (by kernel_rfl) (by simp [roc_sc, roc_ro, roc_agg, Run.cse, World.cse, Plan.cse]) (R122 x.p o1) (by simpa [flt] using Plan.ty.flL x.p) (by simp [inst, instL, Plan.oce, upd_app]; exact ⟨rfl, rfl⟩) rfl ?_
  simp [over, ex1, Run.oce, World.oce, Plan.oce, str_ocl, strs_ocl, Pack.ocl, Pack.frL, Rule.ocl, Rule.frL, File.ocl, File.frL, Env.ocl, Env.frL, Ty.str.frL, Ty.str.slice.frL, Made.ocl, Made.frL, Mark.ocl, Mark.frL, Slot.ocl, Slot.frL]
  refine callK.own 504 rfl (by kernel_rfl) (by simp [roc_sc, roc_ro, roc_agg, Run.cse, World.cse, Plan.cse]) (R83 x.made o4) (Made.ty.flo x.made) (by simp) rfl ?_
  simp [over, ex1, Run.oce, World.oce, Plan.oce, str_ocl, strs_ocl, Pack.ocl, Pack.frL, Rule.ocl, Rule.frL, File.ocl, File.frL, Env.ocl, Env.frL, Ty.str.frL, Ty.str.slice.frL, Made.ocl, Made.frL, Mark.ocl, Mark.frL, Slot.ocl, Slot.frL]
  refine callK.own 505 rfl (by kernel_rfl) (by simp [roc_sc, roc_ro, roc_agg, Run.cse, World.cse, Plan.cse]) (R123 x.marks o5) (Mark.ty.flo x.marks) (by simp) rfl ?_
  simp [over, ex1, Run.oce, World.oce, Plan.oce, str_ocl, strs_ocl, Pack.ocl, Pack.frL, Rule.ocl, Rule.frL, File.ocl, File.frL, Env.ocl, Env.frL, Ty.str.frL, Ty.str.slice.frL, Made.ocl, Made.frL, Mark.ocl, Mark.frL, Slot.ocl, Slot.frL]
  refine callK.own 506 rfl (by kernel_rfl) (by simp [roc_sc, roc_ro, roc_agg, Run.cse, World.cse, Plan.cse]) (R80 x.going o6) (Ty.str.flo x.going) (by simp) rfl ?_
  simp [over, ex1, Run.oce, World.oce, Plan.oce, str_ocl, strs_ocl, Pack.ocl, Pack.frL, Rule.ocl, Rule.frL, File.ocl, File.frL, Env.ocl, Env.frL, Ty.str.frL, Ty.str.slice.frL, Made.ocl, Made.frL, Mark.ocl, Mark.frL, Slot.ocl, Slot.frL]
  refine callK.own 507 rfl (by kernel_rfl) (by simp [roc_sc, roc_ro, roc_agg, Run.cse, World.cse, Plan.cse]) (R124 x.cache o7) (Slot.ty.flo x.cache) (by simp) rfl ?_
  simp [over, ex1, Run.oce, World.oce, Plan.oce, str_ocl, strs_ocl, Pack.ocl, Pack.frL, Rule.ocl, Rule.frL, File.ocl, File.frL, Env.ocl, Env.frL, Ty.str.frL, Ty.str.slice.frL, Made.ocl, Made.frL, Mark.ocl, Mark.frL, Slot.ocl, Slot.frL]
/- 57: loop.example/g00464/laws.eqRun -/
def A57 : AC := (.seq (.ops [⟨(some 2), none, .w (.box (.t 0))⟩, ⟨(some 3), none, .w (.box (.t 1))⟩, ⟨(some 4), none, .q (.mov (.c (.sc (.bool false))))⟩])
  (.seq (.seq (.ops [⟨(some 5), none, .q (.fadr 0 (.t 2))⟩, ⟨(some 6), none, .q (.load true 4 (.t 5))⟩, ⟨(some 7), none, .q (.fadr 0 (.t 3))⟩, ⟨(some 8), none, .q (.load true 4 (.t 7))⟩, ⟨(some 9), none, .c (.c (.clo 125 [])) [(.t 6), (.t 8)]⟩, ⟨(some 10), none, .q (.not (.t 9))⟩])
  (.cond (.t 10) (.seq (.ops [⟨(some 4), none, .q (.mov (.c (.sc (.bool false))))⟩])
  .ret)
  .skip))
  (.seq (.seq (.ops [⟨(some 11), none, .q (.fadr 4 (.t 2))⟩, ⟨(some 12), none, .q (.load true 2 (.t 11))⟩, ⟨(some 13), none, .q (.fadr 4 (.t 3))⟩, ⟨(some 14), none, .q (.load true 2 (.t 13))⟩, ⟨(some 15), none, .c (.c (.clo 126 [])) [(.t 12), (.t 14)]⟩, ⟨(some 16), none, .q (.not (.t 15))⟩])
  (.cond (.t 16) (.seq (.ops [⟨(some 4), none, .q (.mov (.c (.sc (.bool false))))⟩])
  .ret)
  .skip))
  (.seq (.seq (.ops [⟨(some 17), none, .q (.fadr 6 (.t 2))⟩, ⟨(some 18), none, .q (.load false 1 (.t 17))⟩, ⟨(some 19), none, .q (.fadr 6 (.t 3))⟩, ⟨(some 20), none, .q (.load false 1 (.t 19))⟩, ⟨(some 21), none, .q (.bin .neq (.t 18) (.t 20))⟩])
  (.cond (.t 21) (.seq (.ops [⟨(some 4), none, .q (.mov (.c (.sc (.bool false))))⟩])
  .ret)
  .skip))
  (.seq (.seq (.ops [⟨(some 22), none, .q (.fadr 7 (.t 2))⟩, ⟨(some 23), none, .q (.load false 1 (.t 22))⟩, ⟨(some 24), none, .q (.fadr 7 (.t 3))⟩, ⟨(some 25), none, .q (.load false 1 (.t 24))⟩, ⟨(some 26), none, .q (.beq true (.t 23) (.t 25))⟩])
  (.cond (.t 26) (.seq (.ops [⟨(some 4), none, .q (.mov (.c (.sc (.bool false))))⟩])
  .ret)
  .skip))
  (.seq (.seq (.ops [⟨(some 27), none, .q (.fadr 8 (.t 2))⟩, ⟨(some 28), none, .q (.load false 1 (.t 27))⟩, ⟨(some 29), none, .q (.fadr 8 (.t 3))⟩, ⟨(some 30), none, .q (.load false 1 (.t 29))⟩, ⟨(some 31), none, .c (.c (.clo 90 [])) [(.t 28), (.t 30)]⟩, ⟨(some 32), none, .q (.not (.t 31))⟩])
  (.cond (.t 32) (.seq (.ops [⟨(some 4), none, .q (.mov (.c (.sc (.bool false))))⟩])
  .ret)
  .skip))
  (.seq (.seq (.ops [⟨(some 33), none, .q (.fadr 9 (.t 2))⟩, ⟨(some 34), none, .q (.load false 1 (.t 33))⟩, ⟨(some 35), none, .q (.fadr 9 (.t 3))⟩, ⟨(some 36), none, .q (.load false 1 (.t 35))⟩, ⟨(some 37), none, .c (.c (.clo 127 [])) [(.t 34), (.t 36)]⟩, ⟨(some 38), none, .q (.not (.t 37))⟩])
  (.cond (.t 38) (.seq (.ops [⟨(some 4), none, .q (.mov (.c (.sc (.bool false))))⟩])
  .ret)
  .skip))
  (.seq (.seq (.ops [⟨(some 39), none, .q (.fadr 10 (.t 2))⟩, ⟨(some 40), none, .q (.load false 1 (.t 39))⟩, ⟨(some 41), none, .q (.fadr 10 (.t 3))⟩, ⟨(some 42), none, .q (.load false 1 (.t 41))⟩, ⟨(some 43), none, .c (.c (.clo 87 [])) [(.t 40), (.t 42)]⟩, ⟨(some 44), none, .q (.not (.t 43))⟩])
  (.cond (.t 44) (.seq (.ops [⟨(some 4), none, .q (.mov (.c (.sc (.bool false))))⟩])
  .ret)
  .skip))
  (.seq (.seq (.ops [⟨(some 45), none, .q (.fadr 11 (.t 2))⟩, ⟨(some 46), none, .q (.load false 1 (.t 45))⟩, ⟨(some 47), none, .q (.fadr 11 (.t 3))⟩, ⟨(some 48), none, .q (.load false 1 (.t 47))⟩, ⟨(some 49), none, .c (.c (.clo 128 [])) [(.t 46), (.t 48)]⟩, ⟨(some 50), none, .q (.not (.t 49))⟩])
  (.cond (.t 50) (.seq (.ops [⟨(some 4), none, .q (.mov (.c (.sc (.bool false))))⟩])
  .ret)
  .skip))
  (.seq (.ops [⟨(some 4), none, .q (.mov (.c (.sc (.bool true))))⟩])
  .ret))))))))))
theorem K57 : Try.f57.body.bind (comp Try.prog) = some A57 ∧ Try.f57.ntmps = 51 ∧ Try.f57.results.toList.mapM (resB Try.prog) = some [.mov (.t 4)] := ⟨by kernel_rfl, by kernel_rfl, by kernel_rfl⟩
theorem R57 (x : Run) (hx : Run.ty.ok x) : Ret Try.prog 57 [.agg (Run.ty.cs x), .agg (Run.ty.cs x)] (.sc (.bool true)) [.un, .un] := by
  obtain ⟨o0, o1, o2, o3, o4, o5, o6, o7, _⟩ := hx
  refine Ret.run Try.func57 K57 (by simp) rfl rfl 500 ?_
  simp [A57, iniρ, Run.cse, World.cse, Plan.cse]
  refine callK.ro 0 rfl (by kernel_rfl) (by simp [roc_sc, roc_ro, roc_agg, Run.cse, World.cse, Plan.cse]) (R125 x.w o0) rfl rfl rfl ?_
  simp [Run.cse, World.cse, Plan.cse]
  refine callK.ro 0 rfl (by kernel_rfl) (by simp [roc_sc, roc_ro, roc_agg, Run.cse, World.cse, Plan.cse]) (R126 x.p o1) rfl rfl rfl ?_
  simp [Run.cse, World.cse, Plan.cse]
  refine callK.ro 0 rfl (by kernel_rfl) (by simp [roc_sc, roc_ro, roc_agg, Run.cse, World.cse, Plan.cse]) (R90 x.made o4) rfl rfl rfl ?_
  simp [Run.cse, World.cse, Plan.cse]
  refine callK.ro 0 rfl (by kernel_rfl) (by simp [roc_sc, roc_ro, roc_agg, Run.cse, World.cse, Plan.cse]) (R127 x.marks o5) rfl rfl rfl ?_
  simp [Run.cse, World.cse, Plan.cse]
  refine callK.ro 0 rfl (by kernel_rfl) (by simp [roc_sc, roc_ro, roc_agg, Run.cse, World.cse, Plan.cse]) (R87 x.going o6) rfl rfl rfl ?_
  simp [Run.cse, World.cse, Plan.cse]
  refine callK.ro 0 rfl (by kernel_rfl) (by simp [roc_sc, roc_ro, roc_agg, Run.cse, World.cse, Plan.cse]) (R128 x.cache o7) rfl rfl rfl ?_
  simp [Run.cse, World.cse, Plan.cse]
/- 20: loop.example/g00464/laws.szJob -/
def A20 : AC := (.seq (.ops [⟨(some 2), none, .w (.box (.t 0))⟩, ⟨(some 4), none, .q (.mov (.c (.sc (.int .i64 0))))⟩])
  (.seq (.ops [⟨(some 5), none, .q (.mov (.t 1))⟩, ⟨(some 6), none, .q (.fadr 0 (.t 2))⟩, ⟨(some 7), none, .q (.load false 1 (.t 6))⟩, ⟨(some 8), none, .q (.slen (.t 7))⟩, ⟨(some 9), none, .q (.bin .sub (.t 5) (.t 8))⟩, ⟨(some 1), none, .q (.mov (.t 9))⟩])
  (.seq (.seq (.ops [⟨(some 10), none, .q (.mov (.t 1))⟩, ⟨(some 11), none, .q (.bin .lss (.t 10) (.c (.sc (.int .i64 0))))⟩])
  (.cond (.t 11) (.seq (.ops [⟨(some 4), none, .q (.mov (.c (.sc (.int .i64 (-1)))))⟩])
  .ret)
  .skip))
  (.seq (.ops [⟨(some 12), none, .q (.fadr 1 (.t 2))⟩, ⟨(some 13), none, .q (.load false 1 (.t 12))⟩, ⟨(some 14), none, .q (.mov (.t 1))⟩, ⟨(some 15), none, .c (.c (.clo 73 [])) [(.t 13), (.t 14)]⟩, ⟨(some 1), none, .q (.mov (.t 15))⟩])
  (.seq (.seq (.ops [⟨(some 16), none, .q (.mov (.t 1))⟩, ⟨(some 17), none, .q (.bin .lss (.t 16) (.c (.sc (.int .i64 0))))⟩])
  (.cond (.t 17) (.seq (.ops [⟨(some 4), none, .q (.mov (.c (.sc (.int .i64 (-1)))))⟩])
  .ret)
  .skip))
  (.seq (.ops [⟨(some 18), none, .q (.fadr 2 (.t 2))⟩, ⟨(some 19), none, .q (.load false 1 (.t 18))⟩, ⟨(some 20), none, .q (.mov (.t 1))⟩, ⟨(some 21), none, .c (.c (.clo 74 [])) [(.t 19), (.t 20)]⟩, ⟨(some 1), none, .q (.mov (.t 21))⟩])
  (.seq (.seq (.ops [⟨(some 22), none, .q (.mov (.t 1))⟩, ⟨(some 23), none, .q (.bin .lss (.t 22) (.c (.sc (.int .i64 0))))⟩])
  (.cond (.t 23) (.seq (.ops [⟨(some 4), none, .q (.mov (.c (.sc (.int .i64 (-1)))))⟩])
  .ret)
  .skip))
  (.seq (.ops [⟨(some 24), none, .q (.fadr 3 (.t 2))⟩, ⟨(some 25), none, .q (.load false 1 (.t 24))⟩, ⟨(some 26), none, .q (.mov (.t 1))⟩, ⟨(some 27), none, .c (.c (.clo 75 [])) [(.t 25), (.t 26)]⟩, ⟨(some 1), none, .q (.mov (.t 27))⟩])
  (.seq (.seq (.ops [⟨(some 28), none, .q (.mov (.t 1))⟩, ⟨(some 29), none, .q (.bin .lss (.t 28) (.c (.sc (.int .i64 0))))⟩])
  (.cond (.t 29) (.seq (.ops [⟨(some 4), none, .q (.mov (.c (.sc (.int .i64 (-1)))))⟩])
  .ret)
  .skip))
  (.seq (.ops [⟨(some 30), none, .q (.fadr 4 (.t 2))⟩, ⟨(some 31), none, .q (.load false 1 (.t 30))⟩, ⟨(some 32), none, .q (.mov (.t 1))⟩, ⟨(some 33), none, .c (.c (.clo 76 [])) [(.t 31), (.t 32)]⟩, ⟨(some 1), none, .q (.mov (.t 33))⟩])
  (.seq (.seq (.ops [⟨(some 34), none, .q (.mov (.t 1))⟩, ⟨(some 35), none, .q (.bin .lss (.t 34) (.c (.sc (.int .i64 0))))⟩])
  (.cond (.t 35) (.seq (.ops [⟨(some 4), none, .q (.mov (.c (.sc (.int .i64 (-1)))))⟩])
  .ret)
  .skip))
  (.seq (.ops [⟨(some 36), none, .q (.mov (.t 1))⟩, ⟨(some 4), none, .q (.mov (.t 36))⟩])
  .ret))))))))))))
theorem K20 : Try.f20.body.bind (comp Try.prog) = some A20 ∧ Try.f20.ntmps = 37 ∧ Try.f20.results.toList.mapM (resB Try.prog) = some [.mov (.t 4)] := ⟨by kernel_rfl, by kernel_rfl, by kernel_rfl⟩
theorem R20 (x : Job) (hx : Job.ty.ok x) : Sz Try.prog 20 (.agg (Job.ty.cs x)) (Job.ty.wt x) := by
  intro l h0 h1
  obtain ⟨o0, o1, o2, o3, o4, _⟩ := hx
  have o0 : x.name.size ≤ 140737488351232 := o0
  have w0 : IntKind.i64.wrap (l - x.name.size) = l - x.name.size := wrap_i64 (by omega) (by omega)
  by_cases n0 : l - (x.name.size : Int) < 0
  · refine ⟨-1, .inl (by decide), ?_⟩
    refine Ret.run Try.func20 K20 (by simp) rfl rfl 500 ?_
    simp [A20, iniρ, Job.cse, w0, n0]
    try omega
  have p0 : 0 ≤ (l - (x.name.size : Int)) := by omega
  obtain ⟨m1, e1, q1⟩ := R73 x.acts o1 (l - (x.name.size : Int)) (by omega) (by omega)
  by_cases n1 : m1 < 0
  · refine ⟨-1, .inl (by decide), ?_⟩
    refine Ret.run Try.func20 K20 (by simp) rfl rfl 500 ?_
    simp [A20, iniρ, Job.cse, w0, n0, n1]
    refine callK.ro 0 rfl (by kernel_rfl) (by simp [roc_sc, roc_ro, roc_agg, Job.cse]) q1 rfl rfl rfl ?_
    simp [w0, n0, n1, Job.cse]
  have e1 : m1 = (l - (x.name.size : Int)) - ((x.acts.length + wtL Ty.str.wt x.acts : Nat) : Int) := e1.resolve_left n1
  obtain ⟨m2, e2, q2⟩ := R74 x.ins o2 m1 (by omega) (by omega)
  by_cases n2 : m2 < 0
  · refine ⟨-1, .inl (by decide), ?_⟩
    refine Ret.run Try.func20 K20 (by simp) rfl rfl 500 ?_
    simp [A20, iniρ, Job.cse, w0, n0, n1, n2]
    refine callK.ro 0 rfl (by kernel_rfl) (by simp [roc_sc, roc_ro, roc_agg, Job.cse]) q1 rfl rfl rfl ?_
    simp [w0, n0, n1, n2, Job.cse]
    refine callK.ro 0 rfl (by kernel_rfl) (by simp [roc_sc, roc_ro, roc_agg, Job.cse]) q2 rfl rfl rfl ?_
    simp [w0, n0, n1, n2, Job.cse]
  have e2 : m2 = m1 - ((x.ins.length + wtL File.ty.wt x.ins : Nat) : Int) := e2.resolve_left n2
  obtain ⟨m3, e3, q3⟩ := R75 x.envs o3 m2 (by omega) (by omega)
  by_cases n3 : m3 < 0
  · refine ⟨-1, .inl (by decide), ?_⟩
    refine Ret.run Try.func20 K20 (by simp) rfl rfl 500 ?_
    simp [A20, iniρ, Job.cse, w0, n0, n1, n2, n3]
    refine callK.ro 0 rfl (by kernel_rfl) (by simp [roc_sc, roc_ro, roc_agg, Job.cse]) q1 rfl rfl rfl ?_
    simp [w0, n0, n1, n2, n3, Job.cse]
    refine callK.ro 0 rfl (by kernel_rfl) (by simp [roc_sc, roc_ro, roc_agg, Job.cse]) q2 rfl rfl rfl ?_
    simp [w0, n0, n1, n2, n3, Job.cse]
    refine callK.ro 0 rfl (by kernel_rfl) (by simp [roc_sc, roc_ro, roc_agg, Job.cse]) q3 rfl rfl rfl ?_
    simp [w0, n0, n1, n2, n3, Job.cse]
  have e3 : m3 = m2 - ((x.envs.length + wtL Env.ty.wt x.envs : Nat) : Int) := e3.resolve_left n3
  obtain ⟨m4, e4, q4⟩ := R76 x.deps o4 m3 (by omega) (by omega)
  by_cases n4 : m4 < 0
  · refine ⟨-1, .inl (by decide), ?_⟩
    refine Ret.run Try.func20 K20 (by simp) rfl rfl 500 ?_
    simp [A20, iniρ, Job.cse, w0, n0, n1, n2, n3, n4]
    refine callK.ro 0 rfl (by kernel_rfl) (by simp [roc_sc, roc_ro, roc_agg, Job.cse]) q1 rfl rfl rfl ?_
    simp [w0, n0, n1, n2, n3, n4, Job.cse]
    refine callK.ro 0 rfl (by kernel_rfl) (by simp [roc_sc, roc_ro, roc_agg, Job.cse]) q2 rfl rfl rfl ?_
    simp [w0, n0, n1, n2, n3, n4, Job.cse]
    refine callK.ro 0 rfl (by kernel_rfl) (by simp [roc_sc, roc_ro, roc_agg, Job.cse]) q3 rfl rfl rfl ?_
    simp [w0, n0, n1, n2, n3, n4, Job.cse]
    refine callK.ro 0 rfl (by kernel_rfl) (by simp [roc_sc, roc_ro, roc_agg, Job.cse]) q4 rfl rfl rfl ?_
    simp [w0, n0, n1, n2, n3, n4, Job.cse]
  have e4 : m4 = m3 - ((x.deps.length + wtL Made.ty.wt x.deps : Nat) : Int) := e4.resolve_left n4
  refine ⟨m4, .inr ?_, ?_⟩
  · rw [Job.wte]; omega
  refine Ret.run Try.func20 K20 (by simp) rfl rfl 500 ?_
  simp [A20, iniρ, Job.cse, w0, n0, n1, n2, n3, n4]
  refine callK.ro 0 rfl (by kernel_rfl) (by simp [roc_sc, roc_ro, roc_agg, Job.cse]) q1 rfl rfl rfl ?_
  simp [w0, n0, n1, n2, n3, n4, Job.cse]
  refine callK.ro 0 rfl (by kernel_rfl) (by simp [roc_sc, roc_ro, roc_agg, Job.cse]) q2 rfl rfl rfl ?_
  simp [w0, n0, n1, n2, n3, n4, Job.cse]
  refine callK.ro 0 rfl (by kernel_rfl) (by simp [roc_sc, roc_ro, roc_agg, Job.cse]) q3 rfl rfl rfl ?_
  simp [w0, n0, n1, n2, n3, n4, Job.cse]
  refine callK.ro 0 rfl (by kernel_rfl) (by simp [roc_sc, roc_ro, roc_agg, Job.cse]) q4 rfl rfl rfl ?_
  simp [w0, n0, n1, n2, n3, n4, Job.cse]
/- 22: loop.example/g00464/laws.toJob -/
def A22 : AC := (.seq (.ops [⟨(some 1), none, .w (.box (.t 0))⟩, ⟨(some 2), none, .w (.alloc [(.sc (.string ⟨#[]⟩)), .em, .em, .em, .em])⟩])
  (.seq (.ops [⟨(some 3), none, .w (.alloc [(.sc (.string ⟨#[]⟩)), .em, .em, .em, .em])⟩])
  (.seq (.ops [⟨(some 4), none, .q (.fadr 0 (.t 1))⟩, ⟨(some 5), none, .q (.load false 1 (.t 4))⟩, ⟨(some 6), none, .q (.fadr 0 (.t 3))⟩, ⟨none, none, .w (.store 1 (.t 6) (.t 5))⟩])
  (.seq (.ops [⟨(some 7), none, .q (.fadr 1 (.t 1))⟩, ⟨(some 8), none, .q (.load false 1 (.t 7))⟩, ⟨(some 9), none, .c (.c (.clo 80 [])) [(.t 8)]⟩, ⟨(some 10), none, .q (.fadr 1 (.t 3))⟩, ⟨none, none, .w (.store 1 (.t 10) (.t 9))⟩])
  (.seq (.ops [⟨(some 11), none, .q (.fadr 2 (.t 1))⟩, ⟨(some 12), none, .q (.load false 1 (.t 11))⟩, ⟨(some 13), none, .c (.c (.clo 81 [])) [(.t 12)]⟩, ⟨(some 14), none, .q (.fadr 2 (.t 3))⟩, ⟨none, none, .w (.store 1 (.t 14) (.t 13))⟩])
  (.seq (.ops [⟨(some 15), none, .q (.fadr 3 (.t 1))⟩, ⟨(some 16), none, .q (.load false 1 (.t 15))⟩, ⟨(some 17), none, .c (.c (.clo 82 [])) [(.t 16)]⟩, ⟨(some 18), none, .q (.fadr 3 (.t 3))⟩, ⟨none, none, .w (.store 1 (.t 18) (.t 17))⟩])
  (.seq (.ops [⟨(some 19), none, .q (.fadr 4 (.t 1))⟩, ⟨(some 20), none, .q (.load false 1 (.t 19))⟩, ⟨(some 21), none, .c (.c (.clo 83 [])) [(.t 20)]⟩, ⟨(some 22), none, .q (.fadr 4 (.t 3))⟩, ⟨none, none, .w (.store 1 (.t 22) (.t 21))⟩])
  (.seq (.ops [⟨(some 23), none, .q (.load true 5 (.t 3))⟩, ⟨none, none, .w (.store 5 (.t 2) (.t 23))⟩])
  .ret))))))))
theorem K22 : Try.f22.body.bind (comp Try.prog) = some A22 ∧ Try.f22.ntmps = 24 ∧ Try.f22.results.toList.mapM (resB Try.prog) = some [.load true 5 (.t 2)] := ⟨by kernel_rfl, by kernel_rfl, by kernel_rfl⟩
theorem R22 (x : Job) (hx : Job.ty.ok x) : Ret Try.prog 22 [.agg (Job.ty.cs x)] (.agg (Job.ty.oc x)) [.un] := by
  obtain ⟨o0, o1, o2, o3, o4, _⟩ := hx
  refine Ret.run Try.func22 K22 (by simp) rfl rfl 500 ?_
  simp [A22, iniρ, Job.cse, over, ex1, Job.oce, str_ocl, Ty.str.frL, File.ocl, File.frL, Env.ocl, Env.frL, Made.ocl, Made.frL]
  refine callK.own 501 rfl (by kernel_rfl) (by simp [roc_sc, roc_ro, roc_agg, Job.cse]) (R80 x.acts o1) (Ty.str.flo x.acts) (by simp) rfl ?_
  simp [over, ex1, Job.oce, str_ocl, Ty.str.frL, File.ocl, File.frL, Env.ocl, Env.frL, Made.ocl, Made.frL]
  refine callK.own 502 rfl (by kernel_rfl) (by simp [roc_sc, roc_ro, roc_agg, Job.cse]) (R81 x.ins o2) (File.ty.flo x.ins) (by simp) rfl ?_
  simp [over, ex1, Job.oce, str_ocl, Ty.str.frL, File.ocl, File.frL, Env.ocl, Env.frL, Made.ocl, Made.frL]
  refine callK.own 503 rfl (by kernel_rfl) (by simp [roc_sc, roc_ro, roc_agg, Job.cse]) (R82 x.envs o3) (Env.ty.flo x.envs) (by simp) rfl ?_
  simp [over, ex1, Job.oce, str_ocl, Ty.str.frL, File.ocl, File.frL, Env.ocl, Env.frL, Made.ocl, Made.frL]
  refine callK.own 504 rfl (by kernel_rfl) (by simp [roc_sc, roc_ro, roc_agg, Job.cse]) (R83 x.deps o4) (Made.ty.flo x.deps) (by simp) rfl ?_
  simp [over, ex1, Job.oce, str_ocl, Ty.str.frL, File.ocl, File.frL, Env.ocl, Env.frL, Made.ocl, Made.frL]
/- 24: loop.example/g00464/laws.eqJob -/
def A24 : AC := (.seq (.ops [⟨(some 2), none, .w (.box (.t 0))⟩, ⟨(some 3), none, .w (.box (.t 1))⟩, ⟨(some 4), none, .q (.mov (.c (.sc (.bool false))))⟩])
  (.seq (.seq (.ops [⟨(some 5), none, .q (.fadr 0 (.t 2))⟩, ⟨(some 6), none, .q (.load false 1 (.t 5))⟩, ⟨(some 7), none, .q (.fadr 0 (.t 3))⟩, ⟨(some 8), none, .q (.load false 1 (.t 7))⟩, ⟨(some 9), none, .q (.bin .neq (.t 6) (.t 8))⟩])
  (.cond (.t 9) (.seq (.ops [⟨(some 4), none, .q (.mov (.c (.sc (.bool false))))⟩])
  .ret)
  .skip))
  (.seq (.seq (.ops [⟨(some 10), none, .q (.fadr 1 (.t 2))⟩, ⟨(some 11), none, .q (.load false 1 (.t 10))⟩, ⟨(some 12), none, .q (.fadr 1 (.t 3))⟩, ⟨(some 13), none, .q (.load false 1 (.t 12))⟩, ⟨(some 14), none, .c (.c (.clo 87 [])) [(.t 11), (.t 13)]⟩, ⟨(some 15), none, .q (.not (.t 14))⟩])
  (.cond (.t 15) (.seq (.ops [⟨(some 4), none, .q (.mov (.c (.sc (.bool false))))⟩])
  .ret)
  .skip))
  (.seq (.seq (.ops [⟨(some 16), none, .q (.fadr 2 (.t 2))⟩, ⟨(some 17), none, .q (.load false 1 (.t 16))⟩, ⟨(some 18), none, .q (.fadr 2 (.t 3))⟩, ⟨(some 19), none, .q (.load false 1 (.t 18))⟩, ⟨(some 20), none, .c (.c (.clo 88 [])) [(.t 17), (.t 19)]⟩, ⟨(some 21), none, .q (.not (.t 20))⟩])
  (.cond (.t 21) (.seq (.ops [⟨(some 4), none, .q (.mov (.c (.sc (.bool false))))⟩])
  .ret)
  .skip))
  (.seq (.seq (.ops [⟨(some 22), none, .q (.fadr 3 (.t 2))⟩, ⟨(some 23), none, .q (.load false 1 (.t 22))⟩, ⟨(some 24), none, .q (.fadr 3 (.t 3))⟩, ⟨(some 25), none, .q (.load false 1 (.t 24))⟩, ⟨(some 26), none, .c (.c (.clo 89 [])) [(.t 23), (.t 25)]⟩, ⟨(some 27), none, .q (.not (.t 26))⟩])
  (.cond (.t 27) (.seq (.ops [⟨(some 4), none, .q (.mov (.c (.sc (.bool false))))⟩])
  .ret)
  .skip))
  (.seq (.seq (.ops [⟨(some 28), none, .q (.fadr 4 (.t 2))⟩, ⟨(some 29), none, .q (.load false 1 (.t 28))⟩, ⟨(some 30), none, .q (.fadr 4 (.t 3))⟩, ⟨(some 31), none, .q (.load false 1 (.t 30))⟩, ⟨(some 32), none, .c (.c (.clo 90 [])) [(.t 29), (.t 31)]⟩, ⟨(some 33), none, .q (.not (.t 32))⟩])
  (.cond (.t 33) (.seq (.ops [⟨(some 4), none, .q (.mov (.c (.sc (.bool false))))⟩])
  .ret)
  .skip))
  (.seq (.ops [⟨(some 4), none, .q (.mov (.c (.sc (.bool true))))⟩])
  .ret)))))))
theorem K24 : Try.f24.body.bind (comp Try.prog) = some A24 ∧ Try.f24.ntmps = 34 ∧ Try.f24.results.toList.mapM (resB Try.prog) = some [.mov (.t 4)] := ⟨by kernel_rfl, by kernel_rfl, by kernel_rfl⟩
theorem R24 (x : Job) (hx : Job.ty.ok x) : Ret Try.prog 24 [.agg (Job.ty.cs x), .agg (Job.ty.cs x)] (.sc (.bool true)) [.un, .un] := by
  obtain ⟨o0, o1, o2, o3, o4, _⟩ := hx
  refine Ret.run Try.func24 K24 (by simp) rfl rfl 500 ?_
  simp [A24, iniρ, Job.cse]
  refine callK.ro 0 rfl (by kernel_rfl) (by simp [roc_sc, roc_ro, roc_agg, Job.cse]) (R87 x.acts o1) rfl rfl rfl ?_
  simp [Job.cse]
  refine callK.ro 0 rfl (by kernel_rfl) (by simp [roc_sc, roc_ro, roc_agg, Job.cse]) (R88 x.ins o2) rfl rfl rfl ?_
  simp [Job.cse]
  refine callK.ro 0 rfl (by kernel_rfl) (by simp [roc_sc, roc_ro, roc_agg, Job.cse]) (R89 x.envs o3) rfl rfl rfl ?_
  simp [Job.cse]
  refine callK.ro 0 rfl (by kernel_rfl) (by simp [roc_sc, roc_ro, roc_agg, Job.cse]) (R90 x.deps o4) rfl rfl rfl ?_
  simp [Job.cse]
/- 143: loop.example/g00464/laws.szDoc -/
def A143 : AC := (.seq (.ops [⟨(some 2), none, .w (.box (.t 0))⟩, ⟨(some 4), none, .q (.mov (.c (.sc (.int .i64 0))))⟩])
  (.seq (.ops [⟨(some 5), none, .q (.mov (.t 1))⟩, ⟨(some 6), none, .q (.fadr 0 (.t 2))⟩, ⟨(some 7), none, .q (.load false 1 (.t 6))⟩, ⟨(some 8), none, .q (.slen (.t 7))⟩, ⟨(some 9), none, .q (.bin .sub (.t 5) (.t 8))⟩, ⟨(some 1), none, .q (.mov (.t 9))⟩])
  (.seq (.seq (.ops [⟨(some 10), none, .q (.mov (.t 1))⟩, ⟨(some 11), none, .q (.bin .lss (.t 10) (.c (.sc (.int .i64 0))))⟩])
  (.cond (.t 11) (.seq (.ops [⟨(some 4), none, .q (.mov (.c (.sc (.int .i64 (-1)))))⟩])
  .ret)
  .skip))
  (.seq (.ops [⟨(some 12), none, .q (.mov (.t 1))⟩, ⟨(some 13), none, .q (.fadr 1 (.t 2))⟩, ⟨(some 14), none, .q (.load false 1 (.t 13))⟩, ⟨(some 15), none, .q (.slen (.t 14))⟩, ⟨(some 16), none, .q (.bin .sub (.t 12) (.t 15))⟩, ⟨(some 1), none, .q (.mov (.t 16))⟩])
  (.seq (.seq (.ops [⟨(some 17), none, .q (.mov (.t 1))⟩, ⟨(some 18), none, .q (.bin .lss (.t 17) (.c (.sc (.int .i64 0))))⟩])
  (.cond (.t 18) (.seq (.ops [⟨(some 4), none, .q (.mov (.c (.sc (.int .i64 (-1)))))⟩])
  .ret)
  .skip))
  (.seq (.ops [⟨(some 19), none, .q (.mov (.t 1))⟩, ⟨(some 4), none, .q (.mov (.t 19))⟩])
  .ret))))))
theorem K143 : Try.f143.body.bind (comp Try.prog) = some A143 ∧ Try.f143.ntmps = 20 ∧ Try.f143.results.toList.mapM (resB Try.prog) = some [.mov (.t 4)] := ⟨by kernel_rfl, by kernel_rfl, by kernel_rfl⟩
theorem R143 (x : Doc) (hx : Doc.ty.ok x) : Sz Try.prog 143 (.agg (Doc.ty.cs x)) (Doc.ty.wt x) := by
  intro l h0 h1
  obtain ⟨o0, o1, _⟩ := hx
  have o0 : x.name.size ≤ 140737488351232 := o0
  have w0 : IntKind.i64.wrap (l - x.name.size) = l - x.name.size := wrap_i64 (by omega) (by omega)
  by_cases n0 : l - (x.name.size : Int) < 0
  · refine ⟨-1, .inl (by decide), ?_⟩
    refine Ret.run Try.func143 K143 (by simp) rfl rfl 500 ?_
    simp [A143, iniρ, Doc.cse, w0, n0]
    try omega
  have p0 : 0 ≤ (l - (x.name.size : Int)) := by omega
  have o1 : x.text.size ≤ 140737488351232 := o1
  have w1 : IntKind.i64.wrap ((l - (x.name.size : Int)) - x.text.size) = (l - (x.name.size : Int)) - x.text.size := wrap_i64 (by omega) (by omega)
  by_cases n1 : (l - (x.name.size : Int)) - (x.text.size : Int) < 0
  · refine ⟨-1, .inl (by decide), ?_⟩
    refine Ret.run Try.func143 K143 (by simp) rfl rfl 500 ?_
    simp [A143, iniρ, Doc.cse, w0, n0, w1, n1]
    try omega
  have p1 : 0 ≤ ((l - (x.name.size : Int)) - (x.text.size : Int)) := by omega
  refine ⟨((l - (x.name.size : Int)) - (x.text.size : Int)), .inr ?_, ?_⟩
  · rw [Doc.wte]; omega
  refine Ret.run Try.func143 K143 (by simp) rfl rfl 500 ?_
  simp [A143, iniρ, Doc.cse, w0, n0, w1, n1]
theorem R91 (xs : List Doc) (hx : Doc.ty.slice.ok xs) : Sz Try.prog 91 (.ro (rows Doc.ty.cs xs) xs.length) (Doc.ty.slice.wt xs) := Sz.slice Doc.ty (agg := true) Try.func91 ⟨by kernel_rfl, by kernel_rfl, by kernel_rfl⟩ (by kernel_rfl) (by simp) xs (fun x h => R143 x (hx.2 x h)) (Doc.ty.lenb (by decide) hx)
/- 145: loop.example/g00464/laws.toDoc -/
def A145 : AC := (.seq (.ops [⟨(some 1), none, .w (.box (.t 0))⟩, ⟨(some 2), none, .w (.alloc [(.sc (.string ⟨#[]⟩)), (.sc (.string ⟨#[]⟩))])⟩])
  (.seq (.ops [⟨(some 3), none, .w (.alloc [(.sc (.string ⟨#[]⟩)), (.sc (.string ⟨#[]⟩))])⟩])
  (.seq (.ops [⟨(some 4), none, .q (.fadr 0 (.t 1))⟩, ⟨(some 5), none, .q (.load false 1 (.t 4))⟩, ⟨(some 6), none, .q (.fadr 0 (.t 3))⟩, ⟨none, none, .w (.store 1 (.t 6) (.t 5))⟩])
  (.seq (.ops [⟨(some 7), none, .q (.fadr 1 (.t 1))⟩, ⟨(some 8), none, .q (.load false 1 (.t 7))⟩, ⟨(some 9), none, .q (.fadr 1 (.t 3))⟩, ⟨none, none, .w (.store 1 (.t 9) (.t 8))⟩])
  (.seq (.ops [⟨(some 10), none, .q (.load true 2 (.t 3))⟩, ⟨none, none, .w (.store 2 (.t 2) (.t 10))⟩])
  .ret)))))
theorem K145 : Try.f145.body.bind (comp Try.prog) = some A145 ∧ Try.f145.ntmps = 11 ∧ Try.f145.results.toList.mapM (resB Try.prog) = some [.load true 2 (.t 2)] := ⟨by kernel_rfl, by kernel_rfl, by kernel_rfl⟩
theorem R145 (x : Doc) (hx : Doc.ty.ok x) : Ret Try.prog 145 [.agg (Doc.ty.cs x)] (.agg (Doc.ty.oc x)) [.un] := by
  obtain ⟨o0, o1, _⟩ := hx
  refine Ret.run Try.func145 K145 (by simp) rfl rfl 500 ?_
  simp [A145, iniρ, Doc.cse, over, ex1, Doc.oce]
theorem R94 (xs : List Doc) (hx : Doc.ty.slice.ok xs) : Ret Try.prog 94 [.ro (rows Doc.ty.cs xs) xs.length] (.own (rows Doc.ty.oc xs) xs.length 2) [.un] := Ret.toS Doc.ty Try.func94 ⟨by kernel_rfl, by kernel_rfl, by kernel_rfl⟩ (by kernel_rfl) (fun x h => R145 x h) (by decide) (by decide) xs hx
/- 100: loop.example/g00464/laws.eqDoc -/
def A100 : AC := (.seq (.ops [⟨(some 2), none, .w (.box (.t 0))⟩, ⟨(some 3), none, .w (.box (.t 1))⟩, ⟨(some 4), none, .q (.mov (.c (.sc (.bool false))))⟩])
  (.seq (.seq (.ops [⟨(some 5), none, .q (.fadr 0 (.t 2))⟩, ⟨(some 6), none, .q (.load false 1 (.t 5))⟩, ⟨(some 7), none, .q (.fadr 0 (.t 3))⟩, ⟨(some 8), none, .q (.load false 1 (.t 7))⟩, ⟨(some 9), none, .q (.bin .neq (.t 6) (.t 8))⟩])
  (.cond (.t 9) (.seq (.ops [⟨(some 4), none, .q (.mov (.c (.sc (.bool false))))⟩])
  .ret)
  .skip))
  (.seq (.seq (.ops [⟨(some 10), none, .q (.fadr 1 (.t 2))⟩, ⟨(some 11), none, .q (.load false 1 (.t 10))⟩, ⟨(some 12), none, .q (.fadr 1 (.t 3))⟩, ⟨(some 13), none, .q (.load false 1 (.t 12))⟩, ⟨(some 14), none, .q (.bin .neq (.t 11) (.t 13))⟩])
  (.cond (.t 14) (.seq (.ops [⟨(some 4), none, .q (.mov (.c (.sc (.bool false))))⟩])
  .ret)
  .skip))
  (.seq (.ops [⟨(some 4), none, .q (.mov (.c (.sc (.bool true))))⟩])
  .ret))))
theorem K100 : Try.f100.body.bind (comp Try.prog) = some A100 ∧ Try.f100.ntmps = 15 ∧ Try.f100.results.toList.mapM (resB Try.prog) = some [.mov (.t 4)] := ⟨by kernel_rfl, by kernel_rfl, by kernel_rfl⟩
theorem R100 (x : Doc) (hx : Doc.ty.ok x) : Ret Try.prog 100 [.agg (Doc.ty.cs x), .agg (Doc.ty.cs x)] (.sc (.bool true)) [.un, .un] := by
  obtain ⟨o0, o1, _⟩ := hx
  refine Ret.run Try.func100 K100 (by simp) rfl rfl 500 ?_
  simp [A100, iniρ, Doc.cse]
theorem R32 (xs : List Doc) (hx : Doc.ty.slice.ok xs) : Ret Try.prog 32 [.ro (rows Doc.ty.cs xs) xs.length, .ro (rows Doc.ty.cs xs) xs.length] (.sc (.bool true)) [.un, .un] := Ret.eqS mixed Doc.ty (agg := true) Try.func32 ⟨by kernel_rfl, by kernel_rfl, by kernel_rfl⟩ (by kernel_rfl) (by simp) xs (fun x h => R100 x (hx.2 x h)) (Doc.ty.lenb (by decide) hx)
/- 144: loop.example/g00464/laws.szOp -/
def A144 : AC := (.seq (.ops [⟨(some 2), none, .w (.box (.t 0))⟩, ⟨(some 4), none, .q (.mov (.c (.sc (.int .i64 0))))⟩])
  (.seq (.ops [⟨(some 5), none, .q (.mov (.t 1))⟩, ⟨(some 6), none, .q (.fadr 1 (.t 2))⟩, ⟨(some 7), none, .q (.load false 1 (.t 6))⟩, ⟨(some 8), none, .q (.slen (.t 7))⟩, ⟨(some 9), none, .q (.bin .sub (.t 5) (.t 8))⟩, ⟨(some 1), none, .q (.mov (.t 9))⟩])
  (.seq (.seq (.ops [⟨(some 10), none, .q (.mov (.t 1))⟩, ⟨(some 11), none, .q (.bin .lss (.t 10) (.c (.sc (.int .i64 0))))⟩])
  (.cond (.t 11) (.seq (.ops [⟨(some 4), none, .q (.mov (.c (.sc (.int .i64 (-1)))))⟩])
  .ret)
  .skip))
  (.seq (.ops [⟨(some 12), none, .q (.mov (.t 1))⟩, ⟨(some 13), none, .q (.fadr 2 (.t 2))⟩, ⟨(some 14), none, .q (.load false 1 (.t 13))⟩, ⟨(some 15), none, .q (.slen (.t 14))⟩, ⟨(some 16), none, .q (.bin .sub (.t 12) (.t 15))⟩, ⟨(some 1), none, .q (.mov (.t 16))⟩])
  (.seq (.seq (.ops [⟨(some 17), none, .q (.mov (.t 1))⟩, ⟨(some 18), none, .q (.bin .lss (.t 17) (.c (.sc (.int .i64 0))))⟩])
  (.cond (.t 18) (.seq (.ops [⟨(some 4), none, .q (.mov (.c (.sc (.int .i64 (-1)))))⟩])
  .ret)
  .skip))
  (.seq (.ops [⟨(some 19), none, .q (.mov (.t 1))⟩, ⟨(some 4), none, .q (.mov (.t 19))⟩])
  .ret))))))
theorem K144 : Try.f144.body.bind (comp Try.prog) = some A144 ∧ Try.f144.ntmps = 20 ∧ Try.f144.results.toList.mapM (resB Try.prog) = some [.mov (.t 4)] := ⟨by kernel_rfl, by kernel_rfl, by kernel_rfl⟩
theorem R144 (x : Op) (hx : Op.ty.ok x) : Sz Try.prog 144 (.agg (Op.ty.cs x)) (Op.ty.wt x) := by
  intro l h0 h1
  obtain ⟨o0, o1, o2, _⟩ := hx
  have o1 : x.a.size ≤ 140737488351232 := o1
  have w1 : IntKind.i64.wrap (l - x.a.size) = l - x.a.size := wrap_i64 (by omega) (by omega)
  by_cases n1 : l - (x.a.size : Int) < 0
  · refine ⟨-1, .inl (by decide), ?_⟩
    refine Ret.run Try.func144 K144 (by simp) rfl rfl 500 ?_
    simp [A144, iniρ, Op.cse, w1, n1]
    try omega
  have p1 : 0 ≤ (l - (x.a.size : Int)) := by omega
  have o2 : x.b.size ≤ 140737488351232 := o2
  have w2 : IntKind.i64.wrap ((l - (x.a.size : Int)) - x.b.size) = (l - (x.a.size : Int)) - x.b.size := wrap_i64 (by omega) (by omega)
  by_cases n2 : (l - (x.a.size : Int)) - (x.b.size : Int) < 0
  · refine ⟨-1, .inl (by decide), ?_⟩
    refine Ret.run Try.func144 K144 (by simp) rfl rfl 500 ?_
    simp [A144, iniρ, Op.cse, w1, n1, w2, n2]
    try omega
  have p2 : 0 ≤ ((l - (x.a.size : Int)) - (x.b.size : Int)) := by omega
  refine ⟨((l - (x.a.size : Int)) - (x.b.size : Int)), .inr ?_, ?_⟩
  · rw [Op.wte]; omega
  refine Ret.run Try.func144 K144 (by simp) rfl rfl 500 ?_
  simp [A144, iniρ, Op.cse, w1, n1, w2, n2]
theorem R92 (xs : List Op) (hx : Op.ty.slice.ok xs) : Sz Try.prog 92 (.ro (rows Op.ty.cs xs) xs.length) (Op.ty.slice.wt xs) := Sz.slice Op.ty (agg := true) Try.func92 ⟨by kernel_rfl, by kernel_rfl, by kernel_rfl⟩ (by kernel_rfl) (by simp) xs (fun x h => R144 x (hx.2 x h)) (Op.ty.lenb (by decide) hx)
/- 146: loop.example/g00464/laws.toOp -/
def A146 : AC := (.seq (.ops [⟨(some 1), none, .w (.box (.t 0))⟩, ⟨(some 2), none, .w (.alloc [(.sc (.int .i64 0)), (.sc (.string ⟨#[]⟩)), (.sc (.string ⟨#[]⟩))])⟩])
  (.seq (.ops [⟨(some 3), none, .w (.alloc [(.sc (.int .i64 0)), (.sc (.string ⟨#[]⟩)), (.sc (.string ⟨#[]⟩))])⟩])
  (.seq (.ops [⟨(some 4), none, .q (.fadr 0 (.t 1))⟩, ⟨(some 5), none, .q (.load false 1 (.t 4))⟩, ⟨(some 6), none, .q (.fadr 0 (.t 3))⟩, ⟨none, none, .w (.store 1 (.t 6) (.t 5))⟩])
  (.seq (.ops [⟨(some 7), none, .q (.fadr 1 (.t 1))⟩, ⟨(some 8), none, .q (.load false 1 (.t 7))⟩, ⟨(some 9), none, .q (.fadr 1 (.t 3))⟩, ⟨none, none, .w (.store 1 (.t 9) (.t 8))⟩])
  (.seq (.ops [⟨(some 10), none, .q (.fadr 2 (.t 1))⟩, ⟨(some 11), none, .q (.load false 1 (.t 10))⟩, ⟨(some 12), none, .q (.fadr 2 (.t 3))⟩, ⟨none, none, .w (.store 1 (.t 12) (.t 11))⟩])
  (.seq (.ops [⟨(some 13), none, .q (.load true 3 (.t 3))⟩, ⟨none, none, .w (.store 3 (.t 2) (.t 13))⟩])
  .ret))))))
theorem K146 : Try.f146.body.bind (comp Try.prog) = some A146 ∧ Try.f146.ntmps = 14 ∧ Try.f146.results.toList.mapM (resB Try.prog) = some [.load true 3 (.t 2)] := ⟨by kernel_rfl, by kernel_rfl, by kernel_rfl⟩
theorem R146 (x : Op) (hx : Op.ty.ok x) : Ret Try.prog 146 [.agg (Op.ty.cs x)] (.agg (Op.ty.oc x)) [.un] := by
  obtain ⟨o0, o1, o2, _⟩ := hx
  refine Ret.run Try.func146 K146 (by simp) rfl rfl 500 ?_
  simp [A146, iniρ, Op.cse, over, ex1, Op.oce]
theorem R95 (xs : List Op) (hx : Op.ty.slice.ok xs) : Ret Try.prog 95 [.ro (rows Op.ty.cs xs) xs.length] (.own (rows Op.ty.oc xs) xs.length 3) [.un] := Ret.toS Op.ty Try.func95 ⟨by kernel_rfl, by kernel_rfl, by kernel_rfl⟩ (by kernel_rfl) (fun x h => R146 x h) (by decide) (by decide) xs hx
/- 150: loop.example/g00464/laws.eqOp -/
def A150 : AC := (.seq (.ops [⟨(some 2), none, .w (.box (.t 0))⟩, ⟨(some 3), none, .w (.box (.t 1))⟩, ⟨(some 4), none, .q (.mov (.c (.sc (.bool false))))⟩])
  (.seq (.seq (.ops [⟨(some 5), none, .q (.fadr 0 (.t 2))⟩, ⟨(some 6), none, .q (.load false 1 (.t 5))⟩, ⟨(some 7), none, .q (.fadr 0 (.t 3))⟩, ⟨(some 8), none, .q (.load false 1 (.t 7))⟩, ⟨(some 9), none, .q (.bin .neq (.t 6) (.t 8))⟩])
  (.cond (.t 9) (.seq (.ops [⟨(some 4), none, .q (.mov (.c (.sc (.bool false))))⟩])
  .ret)
  .skip))
  (.seq (.seq (.ops [⟨(some 10), none, .q (.fadr 1 (.t 2))⟩, ⟨(some 11), none, .q (.load false 1 (.t 10))⟩, ⟨(some 12), none, .q (.fadr 1 (.t 3))⟩, ⟨(some 13), none, .q (.load false 1 (.t 12))⟩, ⟨(some 14), none, .q (.bin .neq (.t 11) (.t 13))⟩])
  (.cond (.t 14) (.seq (.ops [⟨(some 4), none, .q (.mov (.c (.sc (.bool false))))⟩])
  .ret)
  .skip))
  (.seq (.seq (.ops [⟨(some 15), none, .q (.fadr 2 (.t 2))⟩, ⟨(some 16), none, .q (.load false 1 (.t 15))⟩, ⟨(some 17), none, .q (.fadr 2 (.t 3))⟩, ⟨(some 18), none, .q (.load false 1 (.t 17))⟩, ⟨(some 19), none, .q (.bin .neq (.t 16) (.t 18))⟩])
  (.cond (.t 19) (.seq (.ops [⟨(some 4), none, .q (.mov (.c (.sc (.bool false))))⟩])
  .ret)
  .skip))
  (.seq (.ops [⟨(some 4), none, .q (.mov (.c (.sc (.bool true))))⟩])
  .ret)))))
theorem K150 : Try.f150.body.bind (comp Try.prog) = some A150 ∧ Try.f150.ntmps = 20 ∧ Try.f150.results.toList.mapM (resB Try.prog) = some [.mov (.t 4)] := ⟨by kernel_rfl, by kernel_rfl, by kernel_rfl⟩
theorem R150 (x : Op) (hx : Op.ty.ok x) : Ret Try.prog 150 [.agg (Op.ty.cs x), .agg (Op.ty.cs x)] (.sc (.bool true)) [.un, .un] := by
  obtain ⟨o0, o1, o2, _⟩ := hx
  refine Ret.run Try.func150 K150 (by simp) rfl rfl 500 ?_
  simp [A150, iniρ, Op.cse]
theorem R98 (xs : List Op) (hx : Op.ty.slice.ok xs) : Ret Try.prog 98 [.ro (rows Op.ty.cs xs) xs.length, .ro (rows Op.ty.cs xs) xs.length] (.sc (.bool true)) [.un, .un] := Ret.eqS mixed Op.ty (agg := true) Try.func98 ⟨by kernel_rfl, by kernel_rfl, by kernel_rfl⟩ (by kernel_rfl) (by simp) xs (fun x h => R150 x (hx.2 x h)) (Op.ty.lenb (by decide) hx)
/- 25: loop.example/g00464/laws.szDisk -/
def A25 : AC := (.seq (.ops [⟨(some 2), none, .w (.box (.t 0))⟩, ⟨(some 4), none, .q (.mov (.c (.sc (.int .i64 0))))⟩])
  (.seq (.ops [⟨(some 5), none, .q (.fadr 0 (.t 2))⟩, ⟨(some 6), none, .q (.load false 1 (.t 5))⟩, ⟨(some 7), none, .q (.mov (.t 1))⟩, ⟨(some 8), none, .c (.c (.clo 91 [])) [(.t 6), (.t 7)]⟩, ⟨(some 1), none, .q (.mov (.t 8))⟩])
  (.seq (.seq (.ops [⟨(some 9), none, .q (.mov (.t 1))⟩, ⟨(some 10), none, .q (.bin .lss (.t 9) (.c (.sc (.int .i64 0))))⟩])
  (.cond (.t 10) (.seq (.ops [⟨(some 4), none, .q (.mov (.c (.sc (.int .i64 (-1)))))⟩])
  .ret)
  .skip))
  (.seq (.ops [⟨(some 11), none, .q (.fadr 1 (.t 2))⟩, ⟨(some 12), none, .q (.load false 1 (.t 11))⟩, ⟨(some 13), none, .q (.mov (.t 1))⟩, ⟨(some 14), none, .c (.c (.clo 92 [])) [(.t 12), (.t 13)]⟩, ⟨(some 1), none, .q (.mov (.t 14))⟩])
  (.seq (.seq (.ops [⟨(some 15), none, .q (.mov (.t 1))⟩, ⟨(some 16), none, .q (.bin .lss (.t 15) (.c (.sc (.int .i64 0))))⟩])
  (.cond (.t 16) (.seq (.ops [⟨(some 4), none, .q (.mov (.c (.sc (.int .i64 (-1)))))⟩])
  .ret)
  .skip))
  (.seq (.ops [⟨(some 17), none, .q (.mov (.t 1))⟩, ⟨(some 4), none, .q (.mov (.t 17))⟩])
  .ret))))))
theorem K25 : Try.f25.body.bind (comp Try.prog) = some A25 ∧ Try.f25.ntmps = 18 ∧ Try.f25.results.toList.mapM (resB Try.prog) = some [.mov (.t 4)] := ⟨by kernel_rfl, by kernel_rfl, by kernel_rfl⟩
theorem R25 (x : Disk) (hx : Disk.ty.ok x) : Sz Try.prog 25 (.agg (Disk.ty.cs x)) (Disk.ty.wt x) := by
  intro l h0 h1
  obtain ⟨o0, o1, _⟩ := hx
  obtain ⟨m0, e0, q0⟩ := R91 x.sure o0 l (by omega) (by omega)
  by_cases n0 : m0 < 0
  · refine ⟨-1, .inl (by decide), ?_⟩
    refine Ret.run Try.func25 K25 (by simp) rfl rfl 500 ?_
    simp [A25, iniρ, Disk.cse, n0]
    refine callK.ro 0 rfl (by kernel_rfl) (by simp [roc_sc, roc_ro, roc_agg, Disk.cse]) q0 rfl rfl rfl ?_
    simp [n0, Disk.cse]
  have e0 : m0 = l - ((x.sure.length + wtL Doc.ty.wt x.sure : Nat) : Int) := e0.resolve_left n0
  obtain ⟨m1, e1, q1⟩ := R92 x.pend o1 m0 (by omega) (by omega)
  by_cases n1 : m1 < 0
  · refine ⟨-1, .inl (by decide), ?_⟩
    refine Ret.run Try.func25 K25 (by simp) rfl rfl 500 ?_
    simp [A25, iniρ, Disk.cse, n0, n1]
    refine callK.ro 0 rfl (by kernel_rfl) (by simp [roc_sc, roc_ro, roc_agg, Disk.cse]) q0 rfl rfl rfl ?_
    simp [n0, n1, Disk.cse]
    refine callK.ro 0 rfl (by kernel_rfl) (by simp [roc_sc, roc_ro, roc_agg, Disk.cse]) q1 rfl rfl rfl ?_
    simp [n0, n1, Disk.cse]
  have e1 : m1 = m0 - ((x.pend.length + wtL Op.ty.wt x.pend : Nat) : Int) := e1.resolve_left n1
  refine ⟨m1, .inr ?_, ?_⟩
  · rw [Disk.wte]; omega
  refine Ret.run Try.func25 K25 (by simp) rfl rfl 500 ?_
  simp [A25, iniρ, Disk.cse, n0, n1]
  refine callK.ro 0 rfl (by kernel_rfl) (by simp [roc_sc, roc_ro, roc_agg, Disk.cse]) q0 rfl rfl rfl ?_
  simp [n0, n1, Disk.cse]
  refine callK.ro 0 rfl (by kernel_rfl) (by simp [roc_sc, roc_ro, roc_agg, Disk.cse]) q1 rfl rfl rfl ?_
  simp [n0, n1, Disk.cse]
/- 27: loop.example/g00464/laws.toDisk -/
def A27 : AC := (.seq (.ops [⟨(some 1), none, .w (.box (.t 0))⟩, ⟨(some 2), none, .w (.alloc [.em, .em])⟩])
  (.seq (.ops [⟨(some 3), none, .w (.alloc [.em, .em])⟩])
  (.seq (.ops [⟨(some 4), none, .q (.fadr 0 (.t 1))⟩, ⟨(some 5), none, .q (.load false 1 (.t 4))⟩, ⟨(some 6), none, .c (.c (.clo 94 [])) [(.t 5)]⟩, ⟨(some 7), none, .q (.fadr 0 (.t 3))⟩, ⟨none, none, .w (.store 1 (.t 7) (.t 6))⟩])
  (.seq (.ops [⟨(some 8), none, .q (.fadr 1 (.t 1))⟩, ⟨(some 9), none, .q (.load false 1 (.t 8))⟩, ⟨(some 10), none, .c (.c (.clo 95 [])) [(.t 9)]⟩, ⟨(some 11), none, .q (.fadr 1 (.t 3))⟩, ⟨none, none, .w (.store 1 (.t 11) (.t 10))⟩])
  (.seq (.ops [⟨(some 12), none, .q (.load true 2 (.t 3))⟩, ⟨none, none, .w (.store 2 (.t 2) (.t 12))⟩])
  .ret)))))
theorem K27 : Try.f27.body.bind (comp Try.prog) = some A27 ∧ Try.f27.ntmps = 13 ∧ Try.f27.results.toList.mapM (resB Try.prog) = some [.load true 2 (.t 2)] := ⟨by kernel_rfl, by kernel_rfl, by kernel_rfl⟩
theorem R27 (x : Disk) (hx : Disk.ty.ok x) : Ret Try.prog 27 [.agg (Disk.ty.cs x)] (.agg (Disk.ty.oc x)) [.un] := by
  obtain ⟨o0, o1, _⟩ := hx
  refine Ret.run Try.func27 K27 (by simp) rfl rfl 500 ?_
  simp [A27, iniρ, Disk.cse, over, ex1, Disk.oce, Doc.ocl, Doc.frL, Op.ocl, Op.frL]
  refine callK.own 500 rfl (by kernel_rfl) (by simp [roc_sc, roc_ro, roc_agg, Disk.cse]) (R94 x.sure o0) (Doc.ty.flo x.sure) (by simp) rfl ?_
  simp [over, ex1, Disk.oce, Doc.ocl, Doc.frL, Op.ocl, Op.frL]
  refine callK.own 501 rfl (by kernel_rfl) (by simp [roc_sc, roc_ro, roc_agg, Disk.cse]) (R95 x.pend o1) (Op.ty.flo x.pend) (by simp) rfl ?_
  simp [over, ex1, Disk.oce, Doc.ocl, Doc.frL, Op.ocl, Op.frL]
/- 29: loop.example/g00464/laws.eqDisk -/
def A29 : AC := (.seq (.ops [⟨(some 2), none, .w (.box (.t 0))⟩, ⟨(some 3), none, .w (.box (.t 1))⟩, ⟨(some 4), none, .q (.mov (.c (.sc (.bool false))))⟩])
  (.seq (.seq (.ops [⟨(some 5), none, .q (.fadr 0 (.t 2))⟩, ⟨(some 6), none, .q (.load false 1 (.t 5))⟩, ⟨(some 7), none, .q (.fadr 0 (.t 3))⟩, ⟨(some 8), none, .q (.load false 1 (.t 7))⟩, ⟨(some 9), none, .c (.c (.clo 32 [])) [(.t 6), (.t 8)]⟩, ⟨(some 10), none, .q (.not (.t 9))⟩])
  (.cond (.t 10) (.seq (.ops [⟨(some 4), none, .q (.mov (.c (.sc (.bool false))))⟩])
  .ret)
  .skip))
  (.seq (.seq (.ops [⟨(some 11), none, .q (.fadr 1 (.t 2))⟩, ⟨(some 12), none, .q (.load false 1 (.t 11))⟩, ⟨(some 13), none, .q (.fadr 1 (.t 3))⟩, ⟨(some 14), none, .q (.load false 1 (.t 13))⟩, ⟨(some 15), none, .c (.c (.clo 98 [])) [(.t 12), (.t 14)]⟩, ⟨(some 16), none, .q (.not (.t 15))⟩])
  (.cond (.t 16) (.seq (.ops [⟨(some 4), none, .q (.mov (.c (.sc (.bool false))))⟩])
  .ret)
  .skip))
  (.seq (.ops [⟨(some 4), none, .q (.mov (.c (.sc (.bool true))))⟩])
  .ret))))
theorem K29 : Try.f29.body.bind (comp Try.prog) = some A29 ∧ Try.f29.ntmps = 17 ∧ Try.f29.results.toList.mapM (resB Try.prog) = some [.mov (.t 4)] := ⟨by kernel_rfl, by kernel_rfl, by kernel_rfl⟩
theorem R29 (x : Disk) (hx : Disk.ty.ok x) : Ret Try.prog 29 [.agg (Disk.ty.cs x), .agg (Disk.ty.cs x)] (.sc (.bool true)) [.un, .un] := by
  obtain ⟨o0, o1, _⟩ := hx
  refine Ret.run Try.func29 K29 (by simp) rfl rfl 500 ?_
  simp [A29, iniρ, Disk.cse]
  refine callK.ro 0 rfl (by kernel_rfl) (by simp [roc_sc, roc_ro, roc_agg, Disk.cse]) (R32 x.sure o0) rfl rfl rfl ?_
  simp [Disk.cse]
  refine callK.ro 0 rfl (by kernel_rfl) (by simp [roc_sc, roc_ro, roc_agg, Disk.cse]) (R98 x.pend o1) rfl rfl rfl ?_
  simp [Disk.cse]
end Go.Proofs.Ytadoadomogceiaa.Am
