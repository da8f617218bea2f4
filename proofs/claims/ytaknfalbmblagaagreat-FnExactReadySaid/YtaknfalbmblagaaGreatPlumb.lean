/- The functions of the program, each by its contract: Plumb; no condition. -/
import Derived.Test.YtaknfalbmblagaaGreatProg
import Derived.Test.YtaknfalbmblagaaGreatAmZ
import Derived.Test.YtaknfalbmblagaaGreatAmP
import Derived.Test.YtaknfalbmblagaaGreatBase
import Derived.Test.YtaknfalbmblagaaGreatTypes
import Derived.KernelRfl
namespace Go.Proofs.YtaknfalbmblagaaGreat.Am
open Go Go.Proofs
set_option linter.unusedSimpArgs false
set_option linter.unusedVariables false
attribute [local congr] T_congr callK_congr callWK_congr
attribute [local simp] run_nil run_op0 run_opg run_seq run_cond run_block run_ret run_skip run_skip_after run_skip_blk run_exit run_exit_after run_exit_blk run_loop run_any runS_nil runS_op0 runS_opg runW_nil runW_op0 runW_opg exec_q exec_w exec_c exec_n execW_q execW_w execW_c restW_app hideH_app merge_app wblk rest_app restS_app execS_q execS_c aval dOk upd_app ev_t ev_c setO_some setO_none put_mk pinsOf isIo hasIo sbin endR fin resL one outL out1 clo1 cloL coe coeL shut shut.shutL wantA weff cellsOf fillA deref natOf ρ0_app h0_app plain plain.plainL keep_app keepH_app andThen_normal andThen_ret andThen_exit pop_nil pop_after pop_after_ret pop_after_exit pop_blk pop_blk_ret pop_blk_exit nilA srcOf srcCells keepR_app keepHR_app renA rb
/- 76: loop.example/g00464/laws.szFile -/
def A76 : AC := (.seq (.ops [⟨(some 2), none, .w (.box (.t 0))⟩, ⟨(some 4), none, .q (.mov (.c (.sc (.int .i64 0))))⟩])
  (.seq (.ops [⟨(some 5), none, .q (.mov (.t 1))⟩, ⟨(some 6), none, .q (.fadr 0 (.t 2))⟩, ⟨(some 7), none, .q (.load false 1 (.t 6))⟩, ⟨(some 8), none, .q (.slen (.t 7))⟩, ⟨(some 9), none, .q (.bin .sub (.t 5) (.t 8))⟩, ⟨(some 1), none, .q (.mov (.t 9))⟩])
  (.seq (.seq (.ops [⟨(some 10), none, .q (.mov (.t 1))⟩, ⟨(some 11), none, .q (.bin .lss (.t 10) (.c (.sc (.int .i64 0))))⟩])
  (.cond (.t 11) (.seq (.ops [⟨(some 4), none, .q (.mov (.c (.sc (.int .i64 (-1)))))⟩])
  .ret)
  .skip))
  (.seq (.ops [⟨(some 12), none, .q (.mov (.t 1))⟩, ⟨(some 13), none, .q (.fadr 1 (.t 2))⟩, ⟨(some 14), none, .q (.load false 1 (.t 13))⟩, ⟨(some 15), none, .q (.slen (.t 14))⟩, ⟨(some 16), none, .q (.bin .sub (.t 12) (.t 15))⟩, ⟨(some 1), none, .q (.mov (.t 16))⟩])
  (.seq (.seq (.ops [⟨(some 17), none, .q (.mov (.t 1))⟩, ⟨(some 18), none, .q (.bin .lss (.t 17) (.c (.sc (.int .i64 0))))⟩])
  (.cond (.t 18) (.seq (.ops [⟨(some 4), none, .q (.mov (.c (.sc (.int .i64 (-1)))))⟩])
  .ret)
  .skip))
  (.seq (.ops [⟨(some 19), none, .q (.mov (.t 1))⟩, ⟨(some 4), none, .q (.mov (.t 19))⟩])
  .ret))))))
theorem K76 : Tryz.f76.body.bind (comp Tryz.prog) = some A76 ∧ Tryz.f76.ntmps = 20 ∧ Tryz.f76.results.toList.mapM (resB Tryz.prog) = some [.mov (.t 4)] := ⟨by kernel_rfl, by kernel_rfl, by kernel_rfl⟩
theorem R76 (x : File) (hx : File.ty.ok x) : Sz Tryz.prog 76 (.agg (File.ty.cs x)) (File.ty.wt x) := by
  intro l h0 h1
  obtain ⟨o0, o1, _⟩ := hx
  have o0 : x.path.size ≤ 140737488351232 := o0
  have w0 : IntKind.i64.wrap (l - x.path.size) = l - x.path.size := wrap_i64 (by omega) (by omega)
  by_cases n0 : l - (x.path.size : Int) < 0
  · refine ⟨-1, .inl (by decide), ?_⟩
    refine Ret.run Tryz.func76 K76 (by simp) rfl rfl 500 ?_
    simp [A76, iniρ, File.cse, w0, n0]
    try omega
  have p0 : 0 ≤ (l - (x.path.size : Int)) := by omega
  have o1 : x.text.size ≤ 140737488351232 := o1
  have w1 : IntKind.i64.wrap ((l - (x.path.size : Int)) - x.text.size) = (l - (x.path.size : Int)) - x.text.size := wrap_i64 (by omega) (by omega)
  by_cases n1 : (l - (x.path.size : Int)) - (x.text.size : Int) < 0
  · refine ⟨-1, .inl (by decide), ?_⟩
    refine Ret.run Tryz.func76 K76 (by simp) rfl rfl 500 ?_
    simp [A76, iniρ, File.cse, w0, n0, w1, n1]
    try omega
  have p1 : 0 ≤ ((l - (x.path.size : Int)) - (x.text.size : Int)) := by omega
  refine ⟨((l - (x.path.size : Int)) - (x.text.size : Int)), .inr ?_, ?_⟩
  · rw [File.wte]; omega
  refine Ret.run Tryz.func76 K76 (by simp) rfl rfl 500 ?_
  simp [A76, iniρ, File.cse, w0, n0, w1, n1]
theorem R42 (xs : List File) (hx : File.ty.slice.ok xs) : Sz Tryz.prog 42 (.ro (rows File.ty.cs xs) xs.length) (File.ty.slice.wt xs) := Sz.slice File.ty (agg := true) Tryz.func42 ⟨by kernel_rfl, by kernel_rfl, by kernel_rfl⟩ (by kernel_rfl) (by simp) xs (fun x h => R76 x (hx.2 x h)) (File.ty.lenb (by decide) hx)
/- 83: loop.example/g00464/laws.toFile -/
def A83 : AC := (.seq (.ops [⟨(some 1), none, .w (.box (.t 0))⟩, ⟨(some 2), none, .w (.alloc [(.sc (.string ⟨#[]⟩)), (.sc (.string ⟨#[]⟩))])⟩])
  (.seq (.ops [⟨(some 3), none, .w (.alloc [(.sc (.string ⟨#[]⟩)), (.sc (.string ⟨#[]⟩))])⟩])
  (.seq (.ops [⟨(some 4), none, .q (.fadr 0 (.t 1))⟩, ⟨(some 5), none, .q (.load false 1 (.t 4))⟩, ⟨(some 6), none, .q (.fadr 0 (.t 3))⟩, ⟨none, none, .w (.store 1 (.t 6) (.t 5))⟩])
  (.seq (.ops [⟨(some 7), none, .q (.fadr 1 (.t 1))⟩, ⟨(some 8), none, .q (.load false 1 (.t 7))⟩, ⟨(some 9), none, .q (.fadr 1 (.t 3))⟩, ⟨none, none, .w (.store 1 (.t 9) (.t 8))⟩])
  (.seq (.ops [⟨(some 10), none, .q (.load true 2 (.t 3))⟩, ⟨none, none, .w (.store 2 (.t 2) (.t 10))⟩])
  .ret)))))
theorem K83 : Tryz.f83.body.bind (comp Tryz.prog) = some A83 ∧ Tryz.f83.ntmps = 11 ∧ Tryz.f83.results.toList.mapM (resB Tryz.prog) = some [.load true 2 (.t 2)] := ⟨by kernel_rfl, by kernel_rfl, by kernel_rfl⟩
theorem R83 (x : File) (hx : File.ty.ok x) : Ret Tryz.prog 83 [.agg (File.ty.cs x)] (.agg (File.ty.oc x)) [.un] := by
  obtain ⟨o0, o1, _⟩ := hx
  refine Ret.run Tryz.func83 K83 (by simp) rfl rfl 500 ?_
  simp [A83, iniρ, File.cse, over, ex1, File.oce]
theorem R52 (xs : List File) (hx : File.ty.slice.ok xs) : Ret Tryz.prog 52 [.ro (rows File.ty.cs xs) xs.length] (.own (rows File.ty.oc xs) xs.length 2) [.un] := Ret.toS File.ty Tryz.func52 ⟨by kernel_rfl, by kernel_rfl, by kernel_rfl⟩ (by kernel_rfl) (fun x h => R83 x h) (by decide) (by decide) xs hx
/- 93: loop.example/g00464/laws.eqFile -/
def A93 : AC := (.seq (.ops [⟨(some 2), none, .w (.box (.t 0))⟩, ⟨(some 3), none, .w (.box (.t 1))⟩, ⟨(some 4), none, .q (.mov (.c (.sc (.bool false))))⟩])
  (.seq (.seq (.ops [⟨(some 5), none, .q (.fadr 0 (.t 2))⟩, ⟨(some 6), none, .q (.load false 1 (.t 5))⟩, ⟨(some 7), none, .q (.fadr 0 (.t 3))⟩, ⟨(some 8), none, .q (.load false 1 (.t 7))⟩, ⟨(some 9), none, .q (.bin .neq (.t 6) (.t 8))⟩])
  (.cond (.t 9) (.seq (.ops [⟨(some 4), none, .q (.mov (.c (.sc (.bool false))))⟩])
  .ret)
  .skip))
  (.seq (.seq (.ops [⟨(some 10), none, .q (.fadr 1 (.t 2))⟩, ⟨(some 11), none, .q (.load false 1 (.t 10))⟩, ⟨(some 12), none, .q (.fadr 1 (.t 3))⟩, ⟨(some 13), none, .q (.load false 1 (.t 12))⟩, ⟨(some 14), none, .q (.bin .neq (.t 11) (.t 13))⟩])
  (.cond (.t 14) (.seq (.ops [⟨(some 4), none, .q (.mov (.c (.sc (.bool false))))⟩])
  .ret)
  .skip))
  (.seq (.ops [⟨(some 4), none, .q (.mov (.c (.sc (.bool true))))⟩])
  .ret))))
theorem K93 : Tryz.f93.body.bind (comp Tryz.prog) = some A93 ∧ Tryz.f93.ntmps = 15 ∧ Tryz.f93.results.toList.mapM (resB Tryz.prog) = some [.mov (.t 4)] := ⟨by kernel_rfl, by kernel_rfl, by kernel_rfl⟩
theorem R93 (x : File) (hx : File.ty.ok x) : Ret Tryz.prog 93 [.agg (File.ty.cs x), .agg (File.ty.cs x)] (.sc (.bool true)) [.un, .un] := by
  obtain ⟨o0, o1, _⟩ := hx
  refine Ret.run Tryz.func93 K93 (by simp) rfl rfl 500 ?_
  simp [A93, iniρ, File.cse]
theorem R62 (xs : List File) (hx : File.ty.slice.ok xs) : Ret Tryz.prog 62 [.ro (rows File.ty.cs xs) xs.length, .ro (rows File.ty.cs xs) xs.length] (.sc (.bool true)) [.un, .un] := Ret.eqS mixed File.ty (agg := true) Tryz.func62 ⟨by kernel_rfl, by kernel_rfl, by kernel_rfl⟩ (by kernel_rfl) (by simp) xs (fun x h => R93 x (hx.2 x h)) (File.ty.lenb (by decide) hx)
/- 105: loop.example/g00464/laws.szNeed -/
def A105 : AC := (.seq (.ops [⟨(some 2), none, .w (.box (.t 0))⟩, ⟨(some 4), none, .q (.mov (.c (.sc (.int .i64 0))))⟩])
  (.seq (.ops [⟨(some 5), none, .q (.mov (.t 1))⟩, ⟨(some 6), none, .q (.fadr 0 (.t 2))⟩, ⟨(some 7), none, .q (.load false 1 (.t 6))⟩, ⟨(some 8), none, .q (.slen (.t 7))⟩, ⟨(some 9), none, .q (.bin .sub (.t 5) (.t 8))⟩, ⟨(some 1), none, .q (.mov (.t 9))⟩])
  (.seq (.seq (.ops [⟨(some 10), none, .q (.mov (.t 1))⟩, ⟨(some 11), none, .q (.bin .lss (.t 10) (.c (.sc (.int .i64 0))))⟩])
  (.cond (.t 11) (.seq (.ops [⟨(some 4), none, .q (.mov (.c (.sc (.int .i64 (-1)))))⟩])
  .ret)
  .skip))
  (.seq (.ops [⟨(some 12), none, .q (.mov (.t 1))⟩, ⟨(some 13), none, .q (.fadr 1 (.t 2))⟩, ⟨(some 14), none, .q (.load false 1 (.t 13))⟩, ⟨(some 15), none, .q (.slen (.t 14))⟩, ⟨(some 16), none, .q (.bin .sub (.t 12) (.t 15))⟩, ⟨(some 1), none, .q (.mov (.t 16))⟩])
  (.seq (.seq (.ops [⟨(some 17), none, .q (.mov (.t 1))⟩, ⟨(some 18), none, .q (.bin .lss (.t 17) (.c (.sc (.int .i64 0))))⟩])
  (.cond (.t 18) (.seq (.ops [⟨(some 4), none, .q (.mov (.c (.sc (.int .i64 (-1)))))⟩])
  .ret)
  .skip))
  (.seq (.ops [⟨(some 19), none, .q (.mov (.t 1))⟩, ⟨(some 4), none, .q (.mov (.t 19))⟩])
  .ret))))))
theorem K105 : Tryz.f105.body.bind (comp Tryz.prog) = some A105 ∧ Tryz.f105.ntmps = 20 ∧ Tryz.f105.results.toList.mapM (resB Tryz.prog) = some [.mov (.t 4)] := ⟨by kernel_rfl, by kernel_rfl, by kernel_rfl⟩
theorem R105 (x : Need) (hx : Need.ty.ok x) : Sz Tryz.prog 105 (.agg (Need.ty.cs x)) (Need.ty.wt x) := by
  intro l h0 h1
  obtain ⟨o0, o1, _⟩ := hx
  have o0 : x.name.size ≤ 140737488351232 := o0
  have w0 : IntKind.i64.wrap (l - x.name.size) = l - x.name.size := wrap_i64 (by omega) (by omega)
  by_cases n0 : l - (x.name.size : Int) < 0
  · refine ⟨-1, .inl (by decide), ?_⟩
    refine Ret.run Tryz.func105 K105 (by simp) rfl rfl 500 ?_
    simp [A105, iniρ, Need.cse, w0, n0]
    try omega
  have p0 : 0 ≤ (l - (x.name.size : Int)) := by omega
  have o1 : x.range.size ≤ 140737488351232 := o1
  have w1 : IntKind.i64.wrap ((l - (x.name.size : Int)) - x.range.size) = (l - (x.name.size : Int)) - x.range.size := wrap_i64 (by omega) (by omega)
  by_cases n1 : (l - (x.name.size : Int)) - (x.range.size : Int) < 0
  · refine ⟨-1, .inl (by decide), ?_⟩
    refine Ret.run Tryz.func105 K105 (by simp) rfl rfl 500 ?_
    simp [A105, iniρ, Need.cse, w0, n0, w1, n1]
    try omega
  have p1 : 0 ≤ ((l - (x.name.size : Int)) - (x.range.size : Int)) := by omega
  refine ⟨((l - (x.name.size : Int)) - (x.range.size : Int)), .inr ?_, ?_⟩
  · rw [Need.wte]; omega
  refine Ret.run Tryz.func105 K105 (by simp) rfl rfl 500 ?_
  simp [A105, iniρ, Need.cse, w0, n0, w1, n1]
theorem R98 (xs : List Need) (hx : Need.ty.slice.ok xs) : Sz Tryz.prog 98 (.ro (rows Need.ty.cs xs) xs.length) (Need.ty.slice.wt xs) := Sz.slice Need.ty (agg := true) Tryz.func98 ⟨by kernel_rfl, by kernel_rfl, by kernel_rfl⟩ (by kernel_rfl) (by simp) xs (fun x h => R105 x (hx.2 x h)) (Need.ty.lenb (by decide) hx)
/- 107: loop.example/g00464/laws.toNeed -/
def A107 : AC := (.seq (.ops [⟨(some 1), none, .w (.box (.t 0))⟩, ⟨(some 2), none, .w (.alloc [(.sc (.string ⟨#[]⟩)), (.sc (.string ⟨#[]⟩))])⟩])
  (.seq (.ops [⟨(some 3), none, .w (.alloc [(.sc (.string ⟨#[]⟩)), (.sc (.string ⟨#[]⟩))])⟩])
  (.seq (.ops [⟨(some 4), none, .q (.fadr 0 (.t 1))⟩, ⟨(some 5), none, .q (.load false 1 (.t 4))⟩, ⟨(some 6), none, .q (.fadr 0 (.t 3))⟩, ⟨none, none, .w (.store 1 (.t 6) (.t 5))⟩])
  (.seq (.ops [⟨(some 7), none, .q (.fadr 1 (.t 1))⟩, ⟨(some 8), none, .q (.load false 1 (.t 7))⟩, ⟨(some 9), none, .q (.fadr 1 (.t 3))⟩, ⟨none, none, .w (.store 1 (.t 9) (.t 8))⟩])
  (.seq (.ops [⟨(some 10), none, .q (.load true 2 (.t 3))⟩, ⟨none, none, .w (.store 2 (.t 2) (.t 10))⟩])
  .ret)))))
theorem K107 : Tryz.f107.body.bind (comp Tryz.prog) = some A107 ∧ Tryz.f107.ntmps = 11 ∧ Tryz.f107.results.toList.mapM (resB Tryz.prog) = some [.load true 2 (.t 2)] := ⟨by kernel_rfl, by kernel_rfl, by kernel_rfl⟩
theorem R107 (x : Need) (hx : Need.ty.ok x) : Ret Tryz.prog 107 [.agg (Need.ty.cs x)] (.agg (Need.ty.oc x)) [.un] := by
  obtain ⟨o0, o1, _⟩ := hx
  refine Ret.run Tryz.func107 K107 (by simp) rfl rfl 500 ?_
  simp [A107, iniρ, Need.cse, over, ex1, Need.oce]
theorem R101 (xs : List Need) (hx : Need.ty.slice.ok xs) : Ret Tryz.prog 101 [.ro (rows Need.ty.cs xs) xs.length] (.own (rows Need.ty.oc xs) xs.length 2) [.un] := Ret.toS Need.ty Tryz.func101 ⟨by kernel_rfl, by kernel_rfl, by kernel_rfl⟩ (by kernel_rfl) (fun x h => R107 x h) (by decide) (by decide) xs hx
/- 109: loop.example/g00464/laws.eqNeed -/
def A109 : AC := (.seq (.ops [⟨(some 2), none, .w (.box (.t 0))⟩, ⟨(some 3), none, .w (.box (.t 1))⟩, ⟨(some 4), none, .q (.mov (.c (.sc (.bool false))))⟩])
  (.seq (.seq (.ops [⟨(some 5), none, .q (.fadr 0 (.t 2))⟩, ⟨(some 6), none, .q (.load false 1 (.t 5))⟩, ⟨(some 7), none, .q (.fadr 0 (.t 3))⟩, ⟨(some 8), none, .q (.load false 1 (.t 7))⟩, ⟨(some 9), none, .q (.bin .neq (.t 6) (.t 8))⟩])
  (.cond (.t 9) (.seq (.ops [⟨(some 4), none, .q (.mov (.c (.sc (.bool false))))⟩])
  .ret)
  .skip))
  (.seq (.seq (.ops [⟨(some 10), none, .q (.fadr 1 (.t 2))⟩, ⟨(some 11), none, .q (.load false 1 (.t 10))⟩, ⟨(some 12), none, .q (.fadr 1 (.t 3))⟩, ⟨(some 13), none, .q (.load false 1 (.t 12))⟩, ⟨(some 14), none, .q (.bin .neq (.t 11) (.t 13))⟩])
  (.cond (.t 14) (.seq (.ops [⟨(some 4), none, .q (.mov (.c (.sc (.bool false))))⟩])
  .ret)
  .skip))
  (.seq (.ops [⟨(some 4), none, .q (.mov (.c (.sc (.bool true))))⟩])
  .ret))))
theorem K109 : Tryz.f109.body.bind (comp Tryz.prog) = some A109 ∧ Tryz.f109.ntmps = 15 ∧ Tryz.f109.results.toList.mapM (resB Tryz.prog) = some [.mov (.t 4)] := ⟨by kernel_rfl, by kernel_rfl, by kernel_rfl⟩
theorem R109 (x : Need) (hx : Need.ty.ok x) : Ret Tryz.prog 109 [.agg (Need.ty.cs x), .agg (Need.ty.cs x)] (.sc (.bool true)) [.un, .un] := by
  obtain ⟨o0, o1, _⟩ := hx
  refine Ret.run Tryz.func109 K109 (by simp) rfl rfl 500 ?_
  simp [A109, iniρ, Need.cse]
theorem R103 (xs : List Need) (hx : Need.ty.slice.ok xs) : Ret Tryz.prog 103 [.ro (rows Need.ty.cs xs) xs.length, .ro (rows Need.ty.cs xs) xs.length] (.sc (.bool true)) [.un, .un] := Ret.eqS mixed Need.ty (agg := true) Tryz.func103 ⟨by kernel_rfl, by kernel_rfl, by kernel_rfl⟩ (by kernel_rfl) (by simp) xs (fun x h => R109 x (hx.2 x h)) (Need.ty.lenb (by decide) hx)
/- 106: loop.example/g00464/laws.szCmd -/
def A106 : AC := (.seq (.ops [⟨(some 2), none, .w (.box (.t 0))⟩, ⟨(some 4), none, .q (.mov (.c (.sc (.int .i64 0))))⟩])
  (.seq (.ops [⟨(some 5), none, .q (.mov (.t 1))⟩, ⟨(some 6), none, .q (.fadr 0 (.t 2))⟩, ⟨(some 7), none, .q (.load false 1 (.t 6))⟩, ⟨(some 8), none, .q (.slen (.t 7))⟩, ⟨(some 9), none, .q (.bin .sub (.t 5) (.t 8))⟩, ⟨(some 1), none, .q (.mov (.t 9))⟩])
  (.seq (.seq (.ops [⟨(some 10), none, .q (.mov (.t 1))⟩, ⟨(some 11), none, .q (.bin .lss (.t 10) (.c (.sc (.int .i64 0))))⟩])
  (.cond (.t 11) (.seq (.ops [⟨(some 4), none, .q (.mov (.c (.sc (.int .i64 (-1)))))⟩])
  .ret)
  .skip))
  (.seq (.ops [⟨(some 12), none, .q (.fadr 1 (.t 2))⟩, ⟨(some 13), none, .q (.load false 1 (.t 12))⟩, ⟨(some 14), none, .q (.mov (.t 1))⟩, ⟨(some 15), none, .c (.c (.clo 17 [])) [(.t 13), (.t 14)]⟩, ⟨(some 1), none, .q (.mov (.t 15))⟩])
  (.seq (.seq (.ops [⟨(some 16), none, .q (.mov (.t 1))⟩, ⟨(some 17), none, .q (.bin .lss (.t 16) (.c (.sc (.int .i64 0))))⟩])
  (.cond (.t 17) (.seq (.ops [⟨(some 4), none, .q (.mov (.c (.sc (.int .i64 (-1)))))⟩])
  .ret)
  .skip))
  (.seq (.ops [⟨(some 18), none, .q (.mov (.t 1))⟩, ⟨(some 4), none, .q (.mov (.t 18))⟩])
  .ret))))))
theorem K106 : Tryz.f106.body.bind (comp Tryz.prog) = some A106 ∧ Tryz.f106.ntmps = 19 ∧ Tryz.f106.results.toList.mapM (resB Tryz.prog) = some [.mov (.t 4)] := ⟨by kernel_rfl, by kernel_rfl, by kernel_rfl⟩
theorem R106 (x : Cmd) (hx : Cmd.ty.ok x) : Sz Tryz.prog 106 (.agg (Cmd.ty.cs x)) (Cmd.ty.wt x) := by
  intro l h0 h1
  obtain ⟨o0, o1, _⟩ := hx
  have o0 : x.task.size ≤ 140737488351232 := o0
  have w0 : IntKind.i64.wrap (l - x.task.size) = l - x.task.size := wrap_i64 (by omega) (by omega)
  by_cases n0 : l - (x.task.size : Int) < 0
  · refine ⟨-1, .inl (by decide), ?_⟩
    refine Ret.run Tryz.func106 K106 (by simp) rfl rfl 500 ?_
    simp [A106, iniρ, Cmd.cse, w0, n0]
    try omega
  have p0 : 0 ≤ (l - (x.task.size : Int)) := by omega
  obtain ⟨m1, e1, q1⟩ := R17 x.acts o1 (l - (x.task.size : Int)) (by omega) (by omega)
  by_cases n1 : m1 < 0
  · refine ⟨-1, .inl (by decide), ?_⟩
    refine Ret.run Tryz.func106 K106 (by simp) rfl rfl 500 ?_
    simp [A106, iniρ, Cmd.cse, w0, n0, n1]
    refine callK.ro 0 rfl (by kernel_rfl) (by simp [roc_sc, roc_ro, roc_agg, Cmd.cse]) q1 rfl rfl rfl ?_
    simp [w0, n0, n1, Cmd.cse]
  have e1 : m1 = (l - (x.task.size : Int)) - ((x.acts.length + wtL Ty.str.wt x.acts : Nat) : Int) := e1.resolve_left n1
  refine ⟨m1, .inr ?_, ?_⟩
  · rw [Cmd.wte]; omega
  refine Ret.run Tryz.func106 K106 (by simp) rfl rfl 500 ?_
  simp [A106, iniρ, Cmd.cse, w0, n0, n1]
  refine callK.ro 0 rfl (by kernel_rfl) (by simp [roc_sc, roc_ro, roc_agg, Cmd.cse]) q1 rfl rfl rfl ?_
  simp [w0, n0, n1, Cmd.cse]
theorem R99 (xs : List Cmd) (hx : Cmd.ty.slice.ok xs) : Sz Tryz.prog 99 (.ro (rows Cmd.ty.cs xs) xs.length) (Cmd.ty.slice.wt xs) := Sz.slice Cmd.ty (agg := true) Tryz.func99 ⟨by kernel_rfl, by kernel_rfl, by kernel_rfl⟩ (by kernel_rfl) (by simp) xs (fun x h => R106 x (hx.2 x h)) (Cmd.ty.lenb (by decide) hx)
/- 108: loop.example/g00464/laws.toCmd -/
def A108 : AC := (.seq (.ops [⟨(some 1), none, .w (.box (.t 0))⟩, ⟨(some 2), none, .w (.alloc [(.sc (.string ⟨#[]⟩)), .em])⟩])
  (.seq (.ops [⟨(some 3), none, .w (.alloc [(.sc (.string ⟨#[]⟩)), .em])⟩])
  (.seq (.ops [⟨(some 4), none, .q (.fadr 0 (.t 1))⟩, ⟨(some 5), none, .q (.load false 1 (.t 4))⟩, ⟨(some 6), none, .q (.fadr 0 (.t 3))⟩, ⟨none, none, .w (.store 1 (.t 6) (.t 5))⟩])
  (.seq (.ops [⟨(some 7), none, .q (.fadr 1 (.t 1))⟩, ⟨(some 8), none, .q (.load false 1 (.t 7))⟩, ⟨(some 9), none, .c (.c (.clo 26 [])) [(.t 8)]⟩, ⟨(some 10), none, .q (.fadr 1 (.t 3))⟩, ⟨none, none, .w (.store 1 (.t 10) (.t 9))⟩])
  (.seq (.ops [⟨(some 11), none, .q (.load true 2 (.t 3))⟩, ⟨none, none, .w (.store 2 (.t 2) (.t 11))⟩])
  .ret)))))
theorem K108 : Tryz.f108.body.bind (comp Tryz.prog) = some A108 ∧ Tryz.f108.ntmps = 12 ∧ Tryz.f108.results.toList.mapM (resB Tryz.prog) = some [.load true 2 (.t 2)] := ⟨by kernel_rfl, by kernel_rfl, by kernel_rfl⟩
theorem R108 (x : Cmd) (hx : Cmd.ty.ok x) : Ret Tryz.prog 108 [.agg (Cmd.ty.cs x)] (.agg (Cmd.ty.oc x)) [.un] := by
  obtain ⟨o0, o1, _⟩ := hx
  refine Ret.run Tryz.func108 K108 (by simp) rfl rfl 500 ?_
  simp [A108, iniρ, Cmd.cse, over, ex1, Cmd.oce, str_ocl, Ty.str.frL]
  refine callK.own 501 rfl (by kernel_rfl) (by simp [roc_sc, roc_ro, roc_agg, Cmd.cse]) (R26 x.acts o1) (Ty.str.flo x.acts) (by simp) rfl ?_
  simp [over, ex1, Cmd.oce, str_ocl, Ty.str.frL]
theorem R102 (xs : List Cmd) (hx : Cmd.ty.slice.ok xs) : Ret Tryz.prog 102 [.ro (rows Cmd.ty.cs xs) xs.length] (.own (rows Cmd.ty.oc xs) xs.length 2) [.un] := Ret.toS Cmd.ty Tryz.func102 ⟨by kernel_rfl, by kernel_rfl, by kernel_rfl⟩ (by kernel_rfl) (fun x h => R108 x h) (by decide) (by decide) xs hx
/- 110: loop.example/g00464/laws.eqCmd -/
def A110 : AC := (.seq (.ops [⟨(some 2), none, .w (.box (.t 0))⟩, ⟨(some 3), none, .w (.box (.t 1))⟩, ⟨(some 4), none, .q (.mov (.c (.sc (.bool false))))⟩])
  (.seq (.seq (.ops [⟨(some 5), none, .q (.fadr 0 (.t 2))⟩, ⟨(some 6), none, .q (.load false 1 (.t 5))⟩, ⟨(some 7), none, .q (.fadr 0 (.t 3))⟩, ⟨(some 8), none, .q (.load false 1 (.t 7))⟩, ⟨(some 9), none, .q (.bin .neq (.t 6) (.t 8))⟩])
  (.cond (.t 9) (.seq (.ops [⟨(some 4), none, .q (.mov (.c (.sc (.bool false))))⟩])
  .ret)
  .skip))
  (.seq (.seq (.ops [⟨(some 10), none, .q (.fadr 1 (.t 2))⟩, ⟨(some 11), none, .q (.load false 1 (.t 10))⟩, ⟨(some 12), none, .q (.fadr 1 (.t 3))⟩, ⟨(some 13), none, .q (.load false 1 (.t 12))⟩, ⟨(some 14), none, .c (.c (.clo 8 [])) [(.t 11), (.t 13)]⟩, ⟨(some 15), none, .q (.not (.t 14))⟩])
  (.cond (.t 15) (.seq (.ops [⟨(some 4), none, .q (.mov (.c (.sc (.bool false))))⟩])
  .ret)
  .skip))
  (.seq (.ops [⟨(some 4), none, .q (.mov (.c (.sc (.bool true))))⟩])
  .ret))))
theorem K110 : Tryz.f110.body.bind (comp Tryz.prog) = some A110 ∧ Tryz.f110.ntmps = 16 ∧ Tryz.f110.results.toList.mapM (resB Tryz.prog) = some [.mov (.t 4)] := ⟨by kernel_rfl, by kernel_rfl, by kernel_rfl⟩
theorem R110 (x : Cmd) (hx : Cmd.ty.ok x) : Ret Tryz.prog 110 [.agg (Cmd.ty.cs x), .agg (Cmd.ty.cs x)] (.sc (.bool true)) [.un, .un] := by
  obtain ⟨o0, o1, _⟩ := hx
  refine Ret.run Tryz.func110 K110 (by simp) rfl rfl 500 ?_
  simp [A110, iniρ, Cmd.cse]
  refine callK.ro 0 rfl (by kernel_rfl) (by simp [roc_sc, roc_ro, roc_agg, Cmd.cse]) (R8 x.acts o1) rfl rfl rfl ?_
  simp [Cmd.cse]
theorem R104 (xs : List Cmd) (hx : Cmd.ty.slice.ok xs) : Ret Tryz.prog 104 [.ro (rows Cmd.ty.cs xs) xs.length, .ro (rows Cmd.ty.cs xs) xs.length] (.sc (.bool true)) [.un, .un] := Ret.eqS mixed Cmd.ty (agg := true) Tryz.func104 ⟨by kernel_rfl, by kernel_rfl, by kernel_rfl⟩ (by kernel_rfl) (by simp) xs (fun x h => R110 x (hx.2 x h)) (Cmd.ty.lenb (by decide) hx)
/- 74: loop.example/g00464/laws.szPack -/
def A74 : AC := (.seq (.ops [⟨(some 2), none, .w (.box (.t 0))⟩, ⟨(some 4), none, .q (.mov (.c (.sc (.int .i64 0))))⟩])
  (.seq (.ops [⟨(some 5), none, .q (.mov (.t 1))⟩, ⟨(some 6), none, .q (.fadr 0 (.t 2))⟩, ⟨(some 7), none, .q (.load false 1 (.t 6))⟩, ⟨(some 8), none, .q (.slen (.t 7))⟩, ⟨(some 9), none, .q (.bin .sub (.t 5) (.t 8))⟩, ⟨(some 1), none, .q (.mov (.t 9))⟩])
  (.seq (.seq (.ops [⟨(some 10), none, .q (.mov (.t 1))⟩, ⟨(some 11), none, .q (.bin .lss (.t 10) (.c (.sc (.int .i64 0))))⟩])
  (.cond (.t 11) (.seq (.ops [⟨(some 4), none, .q (.mov (.c (.sc (.int .i64 (-1)))))⟩])
  .ret)
  .skip))
  (.seq (.ops [⟨(some 12), none, .q (.fadr 1 (.t 2))⟩, ⟨(some 13), none, .q (.load false 1 (.t 12))⟩, ⟨(some 14), none, .q (.mov (.t 1))⟩, ⟨(some 15), none, .c (.c (.clo 17 [])) [(.t 13), (.t 14)]⟩, ⟨(some 1), none, .q (.mov (.t 15))⟩])
  (.seq (.seq (.ops [⟨(some 16), none, .q (.mov (.t 1))⟩, ⟨(some 17), none, .q (.bin .lss (.t 16) (.c (.sc (.int .i64 0))))⟩])
  (.cond (.t 17) (.seq (.ops [⟨(some 4), none, .q (.mov (.c (.sc (.int .i64 (-1)))))⟩])
  .ret)
  .skip))
  (.seq (.ops [⟨(some 18), none, .q (.fadr 2 (.t 2))⟩, ⟨(some 19), none, .q (.load false 1 (.t 18))⟩, ⟨(some 20), none, .q (.mov (.t 1))⟩, ⟨(some 21), none, .c (.c (.clo 98 [])) [(.t 19), (.t 20)]⟩, ⟨(some 1), none, .q (.mov (.t 21))⟩])
  (.seq (.seq (.ops [⟨(some 22), none, .q (.mov (.t 1))⟩, ⟨(some 23), none, .q (.bin .lss (.t 22) (.c (.sc (.int .i64 0))))⟩])
  (.cond (.t 23) (.seq (.ops [⟨(some 4), none, .q (.mov (.c (.sc (.int .i64 (-1)))))⟩])
  .ret)
  .skip))
  (.seq (.ops [⟨(some 24), none, .q (.fadr 3 (.t 2))⟩, ⟨(some 25), none, .q (.load false 1 (.t 24))⟩, ⟨(some 26), none, .q (.mov (.t 1))⟩, ⟨(some 27), none, .c (.c (.clo 99 [])) [(.t 25), (.t 26)]⟩, ⟨(some 1), none, .q (.mov (.t 27))⟩])
  (.seq (.seq (.ops [⟨(some 28), none, .q (.mov (.t 1))⟩, ⟨(some 29), none, .q (.bin .lss (.t 28) (.c (.sc (.int .i64 0))))⟩])
  (.cond (.t 29) (.seq (.ops [⟨(some 4), none, .q (.mov (.c (.sc (.int .i64 (-1)))))⟩])
  .ret)
  .skip))
  (.seq (.ops [⟨(some 30), none, .q (.mov (.t 1))⟩, ⟨(some 4), none, .q (.mov (.t 30))⟩])
  .ret))))))))))
theorem K74 : Tryz.f74.body.bind (comp Tryz.prog) = some A74 ∧ Tryz.f74.ntmps = 31 ∧ Tryz.f74.results.toList.mapM (resB Tryz.prog) = some [.mov (.t 4)] := ⟨by kernel_rfl, by kernel_rfl, by kernel_rfl⟩
theorem R74 (x : Pack) (hx : Pack.ty.ok x) : Sz Tryz.prog 74 (.agg (Pack.ty.cs x)) (Pack.ty.wt x) := by
  intro l h0 h1
  obtain ⟨o0, o1, o2, o3, _⟩ := hx
  have o0 : x.name.size ≤ 140737488351232 := o0
  have w0 : IntKind.i64.wrap (l - x.name.size) = l - x.name.size := wrap_i64 (by omega) (by omega)
  by_cases n0 : l - (x.name.size : Int) < 0
  · refine ⟨-1, .inl (by decide), ?_⟩
    refine Ret.run Tryz.func74 K74 (by simp) rfl rfl 500 ?_
    simp [A74, iniρ, Pack.cse, w0, n0]
    try omega
  have p0 : 0 ≤ (l - (x.name.size : Int)) := by omega
  obtain ⟨m1, e1, q1⟩ := R17 x.uses o1 (l - (x.name.size : Int)) (by omega) (by omega)
  by_cases n1 : m1 < 0
  · refine ⟨-1, .inl (by decide), ?_⟩
    refine Ret.run Tryz.func74 K74 (by simp) rfl rfl 500 ?_
    simp [A74, iniρ, Pack.cse, w0, n0, n1]
    refine callK.ro 0 rfl (by kernel_rfl) (by simp [roc_sc, roc_ro, roc_agg, Pack.cse]) q1 rfl rfl rfl ?_
    simp [w0, n0, n1, Pack.cse]
  have e1 : m1 = (l - (x.name.size : Int)) - ((x.uses.length + wtL Ty.str.wt x.uses : Nat) : Int) := e1.resolve_left n1
  obtain ⟨m2, e2, q2⟩ := R98 x.needs o2 m1 (by omega) (by omega)
  by_cases n2 : m2 < 0
  · refine ⟨-1, .inl (by decide), ?_⟩
    refine Ret.run Tryz.func74 K74 (by simp) rfl rfl 500 ?_
    simp [A74, iniρ, Pack.cse, w0, n0, n1, n2]
    refine callK.ro 0 rfl (by kernel_rfl) (by simp [roc_sc, roc_ro, roc_agg, Pack.cse]) q1 rfl rfl rfl ?_
    simp [w0, n0, n1, n2, Pack.cse]
    refine callK.ro 0 rfl (by kernel_rfl) (by simp [roc_sc, roc_ro, roc_agg, Pack.cse]) q2 rfl rfl rfl ?_
    simp [w0, n0, n1, n2, Pack.cse]
  have e2 : m2 = m1 - ((x.needs.length + wtL Need.ty.wt x.needs : Nat) : Int) := e2.resolve_left n2
  obtain ⟨m3, e3, q3⟩ := R99 x.cmds o3 m2 (by omega) (by omega)
  by_cases n3 : m3 < 0
  · refine ⟨-1, .inl (by decide), ?_⟩
    refine Ret.run Tryz.func74 K74 (by simp) rfl rfl 500 ?_
    simp [A74, iniρ, Pack.cse, w0, n0, n1, n2, n3]
    refine callK.ro 0 rfl (by kernel_rfl) (by simp [roc_sc, roc_ro, roc_agg, Pack.cse]) q1 rfl rfl rfl ?_
    simp [w0, n0, n1, n2, n3, Pack.cse]
    refine callK.ro 0 rfl (by kernel_rfl) (by simp [roc_sc, roc_ro, roc_agg, Pack.cse]) q2 rfl rfl rfl ?_
    simp [w0, n0, n1, n2, n3, Pack.cse]
    refine callK.ro 0 rfl (by kernel_rfl) (by simp [roc_sc, roc_ro, roc_agg, Pack.cse]) q3 rfl rfl rfl ?_
    simp [w0, n0, n1, n2, n3, Pack.cse]
  have e3 : m3 = m2 - ((x.cmds.length + wtL Cmd.ty.wt x.cmds : Nat) : Int) := e3.resolve_left n3
  refine ⟨m3, .inr ?_, ?_⟩
  · rw [Pack.wte]; omega
  refine Ret.run Tryz.func74 K74 (by simp) rfl rfl 500 ?_
  simp [A74, iniρ, Pack.cse, w0, n0, n1, n2, n3]
  refine callK.ro 0 rfl (by kernel_rfl) (by simp [roc_sc, roc_ro, roc_agg, Pack.cse]) q1 rfl rfl rfl ?_
  simp [w0, n0, n1, n2, n3, Pack.cse]
  refine callK.ro 0 rfl (by kernel_rfl) (by simp [roc_sc, roc_ro, roc_agg, Pack.cse]) q2 rfl rfl rfl ?_
  simp [w0, n0, n1, n2, n3, Pack.cse]
  refine callK.ro 0 rfl (by kernel_rfl) (by simp [roc_sc, roc_ro, roc_agg, Pack.cse]) q3 rfl rfl rfl ?_
  simp [w0, n0, n1, n2, n3, Pack.cse]
theorem R40 (xs : List Pack) (hx : Pack.ty.slice.ok xs) : Sz Tryz.prog 40 (.ro (rows Pack.ty.cs xs) xs.length) (Pack.ty.slice.wt xs) := Sz.slice Pack.ty (agg := true) Tryz.func40 ⟨by kernel_rfl, by kernel_rfl, by kernel_rfl⟩ (by kernel_rfl) (by simp) xs (fun x h => R74 x (hx.2 x h)) (Pack.ty.lenb (by decide) hx)
/- 81: loop.example/g00464/laws.toPack -/
def A81 : AC := (.seq (.ops [⟨(some 1), none, .w (.box (.t 0))⟩, ⟨(some 2), none, .w (.alloc [(.sc (.string ⟨#[]⟩)), .em, .em, .em])⟩])
  (.seq (.ops [⟨(some 3), none, .w (.alloc [(.sc (.string ⟨#[]⟩)), .em, .em, .em])⟩])
  (.seq (.ops [⟨(some 4), none, .q (.fadr 0 (.t 1))⟩, ⟨(some 5), none, .q (.load false 1 (.t 4))⟩, ⟨(some 6), none, .q (.fadr 0 (.t 3))⟩, ⟨none, none, .w (.store 1 (.t 6) (.t 5))⟩])
  (.seq (.ops [⟨(some 7), none, .q (.fadr 1 (.t 1))⟩, ⟨(some 8), none, .q (.load false 1 (.t 7))⟩, ⟨(some 9), none, .c (.c (.clo 26 [])) [(.t 8)]⟩, ⟨(some 10), none, .q (.fadr 1 (.t 3))⟩, ⟨none, none, .w (.store 1 (.t 10) (.t 9))⟩])
  (.seq (.ops [⟨(some 11), none, .q (.fadr 2 (.t 1))⟩, ⟨(some 12), none, .q (.load false 1 (.t 11))⟩, ⟨(some 13), none, .c (.c (.clo 101 [])) [(.t 12)]⟩, ⟨(some 14), none, .q (.fadr 2 (.t 3))⟩, ⟨none, none, .w (.store 1 (.t 14) (.t 13))⟩])
  (.seq (.ops [⟨(some 15), none, .q (.fadr 3 (.t 1))⟩, ⟨(some 16), none, .q (.load false 1 (.t 15))⟩, ⟨(some 17), none, .c (.c (.clo 102 [])) [(.t 16)]⟩, ⟨(some 18), none, .q (.fadr 3 (.t 3))⟩, ⟨none, none, .w (.store 1 (.t 18) (.t 17))⟩])
  (.seq (.ops [⟨(some 19), none, .q (.load true 4 (.t 3))⟩, ⟨none, none, .w (.store 4 (.t 2) (.t 19))⟩])
  .ret)))))))
theorem K81 : Tryz.f81.body.bind (comp Tryz.prog) = some A81 ∧ Tryz.f81.ntmps = 20 ∧ Tryz.f81.results.toList.mapM (resB Tryz.prog) = some [.load true 4 (.t 2)] := ⟨by kernel_rfl, by kernel_rfl, by kernel_rfl⟩
theorem R81 (x : Pack) (hx : Pack.ty.ok x) : Ret Tryz.prog 81 [.agg (Pack.ty.cs x)] (.agg (Pack.ty.oc x)) [.un] := by
  obtain ⟨o0, o1, o2, o3, _⟩ := hx
  refine Ret.run Tryz.func81 K81 (by simp) rfl rfl 500 ?_
  simp [A81, iniρ, Pack.cse, over, ex1, Pack.oce, str_ocl, Ty.str.frL, Need.ocl, Need.frL, Cmd.ocl, Cmd.frL]
  refine callK.own 501 rfl (by kernel_rfl) (by simp [roc_sc, roc_ro, roc_agg, Pack.cse]) (R26 x.uses o1) (Ty.str.flo x.uses) (by simp) rfl ?_
  simp [over, ex1, Pack.oce, str_ocl, Ty.str.frL, Need.ocl, Need.frL, Cmd.ocl, Cmd.frL]
  refine callK.own 502 rfl (by kernel_rfl) (by simp [roc_sc, roc_ro, roc_agg, Pack.cse]) (R101 x.needs o2) (Need.ty.flo x.needs) (by simp) rfl ?_
  simp [over, ex1, Pack.oce, str_ocl, Ty.str.frL, Need.ocl, Need.frL, Cmd.ocl, Cmd.frL]
  refine callK.own 503 rfl (by kernel_rfl) (by simp [roc_sc, roc_ro, roc_agg, Pack.cse]) (R102 x.cmds o3) (Cmd.ty.flo x.cmds) (by simp) rfl ?_
  simp [over, ex1, Pack.oce, str_ocl, Ty.str.frL, Need.ocl, Need.frL, Cmd.ocl, Cmd.frL]
theorem R50 (xs : List Pack) (hx : Pack.ty.slice.ok xs) : Ret Tryz.prog 50 [.ro (rows Pack.ty.cs xs) xs.length] (.own (rows Pack.ty.oc xs) xs.length 4) [.un] := Ret.toS Pack.ty Tryz.func50 ⟨by kernel_rfl, by kernel_rfl, by kernel_rfl⟩ (by kernel_rfl) (fun x h => R81 x h) (by decide) (by decide) xs hx
/- 91: loop.example/g00464/laws.eqPack -/
def A91 : AC := (.seq (.ops [⟨(some 2), none, .w (.box (.t 0))⟩, ⟨(some 3), none, .w (.box (.t 1))⟩, ⟨(some 4), none, .q (.mov (.c (.sc (.bool false))))⟩])
  (.seq (.seq (.ops [⟨(some 5), none, .q (.fadr 0 (.t 2))⟩, ⟨(some 6), none, .q (.load false 1 (.t 5))⟩, ⟨(some 7), none, .q (.fadr 0 (.t 3))⟩, ⟨(some 8), none, .q (.load false 1 (.t 7))⟩, ⟨(some 9), none, .q (.bin .neq (.t 6) (.t 8))⟩])
  (.cond (.t 9) (.seq (.ops [⟨(some 4), none, .q (.mov (.c (.sc (.bool false))))⟩])
  .ret)
  .skip))
  (.seq (.seq (.ops [⟨(some 10), none, .q (.fadr 1 (.t 2))⟩, ⟨(some 11), none, .q (.load false 1 (.t 10))⟩, ⟨(some 12), none, .q (.fadr 1 (.t 3))⟩, ⟨(some 13), none, .q (.load false 1 (.t 12))⟩, ⟨(some 14), none, .c (.c (.clo 8 [])) [(.t 11), (.t 13)]⟩, ⟨(some 15), none, .q (.not (.t 14))⟩])
  (.cond (.t 15) (.seq (.ops [⟨(some 4), none, .q (.mov (.c (.sc (.bool false))))⟩])
  .ret)
  .skip))
  (.seq (.seq (.ops [⟨(some 16), none, .q (.fadr 2 (.t 2))⟩, ⟨(some 17), none, .q (.load false 1 (.t 16))⟩, ⟨(some 18), none, .q (.fadr 2 (.t 3))⟩, ⟨(some 19), none, .q (.load false 1 (.t 18))⟩, ⟨(some 20), none, .c (.c (.clo 103 [])) [(.t 17), (.t 19)]⟩, ⟨(some 21), none, .q (.not (.t 20))⟩])
  (.cond (.t 21) (.seq (.ops [⟨(some 4), none, .q (.mov (.c (.sc (.bool false))))⟩])
  .ret)
  .skip))
  (.seq (.seq (.ops [⟨(some 22), none, .q (.fadr 3 (.t 2))⟩, ⟨(some 23), none, .q (.load false 1 (.t 22))⟩, ⟨(some 24), none, .q (.fadr 3 (.t 3))⟩, ⟨(some 25), none, .q (.load false 1 (.t 24))⟩, ⟨(some 26), none, .c (.c (.clo 104 [])) [(.t 23), (.t 25)]⟩, ⟨(some 27), none, .q (.not (.t 26))⟩])
  (.cond (.t 27) (.seq (.ops [⟨(some 4), none, .q (.mov (.c (.sc (.bool false))))⟩])
  .ret)
  .skip))
  (.seq (.ops [⟨(some 4), none, .q (.mov (.c (.sc (.bool true))))⟩])
  .ret))))))
theorem K91 : Tryz.f91.body.bind (comp Tryz.prog) = some A91 ∧ Tryz.f91.ntmps = 28 ∧ Tryz.f91.results.toList.mapM (resB Tryz.prog) = some [.mov (.t 4)] := ⟨by kernel_rfl, by kernel_rfl, by kernel_rfl⟩
theorem R91 (x : Pack) (hx : Pack.ty.ok x) : Ret Tryz.prog 91 [.agg (Pack.ty.cs x), .agg (Pack.ty.cs x)] (.sc (.bool true)) [.un, .un] := by
  obtain ⟨o0, o1, o2, o3, _⟩ := hx
  refine Ret.run Tryz.func91 K91 (by simp) rfl rfl 500 ?_
  simp [A91, iniρ, Pack.cse]
  refine callK.ro 0 rfl (by kernel_rfl) (by simp [roc_sc, roc_ro, roc_agg, Pack.cse]) (R8 x.uses o1) rfl rfl rfl ?_
  simp [Pack.cse]
  refine callK.ro 0 rfl (by kernel_rfl) (by simp [roc_sc, roc_ro, roc_agg, Pack.cse]) (R103 x.needs o2) rfl rfl rfl ?_
  simp [Pack.cse]
  refine callK.ro 0 rfl (by kernel_rfl) (by simp [roc_sc, roc_ro, roc_agg, Pack.cse]) (R104 x.cmds o3) rfl rfl rfl ?_
  simp [Pack.cse]
theorem R60 (xs : List Pack) (hx : Pack.ty.slice.ok xs) : Ret Tryz.prog 60 [.ro (rows Pack.ty.cs xs) xs.length, .ro (rows Pack.ty.cs xs) xs.length] (.sc (.bool true)) [.un, .un] := Ret.eqS mixed Pack.ty (agg := true) Tryz.func60 ⟨by kernel_rfl, by kernel_rfl, by kernel_rfl⟩ (by kernel_rfl) (by simp) xs (fun x h => R91 x (hx.2 x h)) (Pack.ty.lenb (by decide) hx)
/- 77: loop.example/g00464/laws.szEnv -/
def A77 : AC := (.seq (.ops [⟨(some 2), none, .w (.box (.t 0))⟩, ⟨(some 4), none, .q (.mov (.c (.sc (.int .i64 0))))⟩])
  (.seq (.ops [⟨(some 5), none, .q (.mov (.t 1))⟩, ⟨(some 6), none, .q (.fadr 0 (.t 2))⟩, ⟨(some 7), none, .q (.load false 1 (.t 6))⟩, ⟨(some 8), none, .q (.slen (.t 7))⟩, ⟨(some 9), none, .q (.bin .sub (.t 5) (.t 8))⟩, ⟨(some 1), none, .q (.mov (.t 9))⟩])
  (.seq (.seq (.ops [⟨(some 10), none, .q (.mov (.t 1))⟩, ⟨(some 11), none, .q (.bin .lss (.t 10) (.c (.sc (.int .i64 0))))⟩])
  (.cond (.t 11) (.seq (.ops [⟨(some 4), none, .q (.mov (.c (.sc (.int .i64 (-1)))))⟩])
  .ret)
  .skip))
  (.seq (.ops [⟨(some 12), none, .q (.mov (.t 1))⟩, ⟨(some 13), none, .q (.fadr 1 (.t 2))⟩, ⟨(some 14), none, .q (.load false 1 (.t 13))⟩, ⟨(some 15), none, .q (.slen (.t 14))⟩, ⟨(some 16), none, .q (.bin .sub (.t 12) (.t 15))⟩, ⟨(some 1), none, .q (.mov (.t 16))⟩])
  (.seq (.seq (.ops [⟨(some 17), none, .q (.mov (.t 1))⟩, ⟨(some 18), none, .q (.bin .lss (.t 17) (.c (.sc (.int .i64 0))))⟩])
  (.cond (.t 18) (.seq (.ops [⟨(some 4), none, .q (.mov (.c (.sc (.int .i64 (-1)))))⟩])
  .ret)
  .skip))
  (.seq (.ops [⟨(some 19), none, .q (.mov (.t 1))⟩, ⟨(some 4), none, .q (.mov (.t 19))⟩])
  .ret))))))
theorem K77 : Tryz.f77.body.bind (comp Tryz.prog) = some A77 ∧ Tryz.f77.ntmps = 20 ∧ Tryz.f77.results.toList.mapM (resB Tryz.prog) = some [.mov (.t 4)] := ⟨by kernel_rfl, by kernel_rfl, by kernel_rfl⟩
theorem R77 (x : Env) (hx : Env.ty.ok x) : Sz Tryz.prog 77 (.agg (Env.ty.cs x)) (Env.ty.wt x) := by
  intro l h0 h1
  obtain ⟨o0, o1, _⟩ := hx
  have o0 : x.name.size ≤ 140737488351232 := o0
  have w0 : IntKind.i64.wrap (l - x.name.size) = l - x.name.size := wrap_i64 (by omega) (by omega)
  by_cases n0 : l - (x.name.size : Int) < 0
  · refine ⟨-1, .inl (by decide), ?_⟩
    refine Ret.run Tryz.func77 K77 (by simp) rfl rfl 500 ?_
    simp [A77, iniρ, Env.cse, w0, n0]
    try omega
  have p0 : 0 ≤ (l - (x.name.size : Int)) := by omega
  have o1 : x.val.size ≤ 140737488351232 := o1
  have w1 : IntKind.i64.wrap ((l - (x.name.size : Int)) - x.val.size) = (l - (x.name.size : Int)) - x.val.size := wrap_i64 (by omega) (by omega)
  by_cases n1 : (l - (x.name.size : Int)) - (x.val.size : Int) < 0
  · refine ⟨-1, .inl (by decide), ?_⟩
    refine Ret.run Tryz.func77 K77 (by simp) rfl rfl 500 ?_
    simp [A77, iniρ, Env.cse, w0, n0, w1, n1]
    try omega
  have p1 : 0 ≤ ((l - (x.name.size : Int)) - (x.val.size : Int)) := by omega
  refine ⟨((l - (x.name.size : Int)) - (x.val.size : Int)), .inr ?_, ?_⟩
  · rw [Env.wte]; omega
  refine Ret.run Tryz.func77 K77 (by simp) rfl rfl 500 ?_
  simp [A77, iniρ, Env.cse, w0, n0, w1, n1]
theorem R43 (xs : List Env) (hx : Env.ty.slice.ok xs) : Sz Tryz.prog 43 (.ro (rows Env.ty.cs xs) xs.length) (Env.ty.slice.wt xs) := Sz.slice Env.ty (agg := true) Tryz.func43 ⟨by kernel_rfl, by kernel_rfl, by kernel_rfl⟩ (by kernel_rfl) (by simp) xs (fun x h => R77 x (hx.2 x h)) (Env.ty.lenb (by decide) hx)
/- 84: loop.example/g00464/laws.toEnv -/
def A84 : AC := (.seq (.ops [⟨(some 1), none, .w (.box (.t 0))⟩, ⟨(some 2), none, .w (.alloc [(.sc (.string ⟨#[]⟩)), (.sc (.string ⟨#[]⟩))])⟩])
  (.seq (.ops [⟨(some 3), none, .w (.alloc [(.sc (.string ⟨#[]⟩)), (.sc (.string ⟨#[]⟩))])⟩])
  (.seq (.ops [⟨(some 4), none, .q (.fadr 0 (.t 1))⟩, ⟨(some 5), none, .q (.load false 1 (.t 4))⟩, ⟨(some 6), none, .q (.fadr 0 (.t 3))⟩, ⟨none, none, .w (.store 1 (.t 6) (.t 5))⟩])
  (.seq (.ops [⟨(some 7), none, .q (.fadr 1 (.t 1))⟩, ⟨(some 8), none, .q (.load false 1 (.t 7))⟩, ⟨(some 9), none, .q (.fadr 1 (.t 3))⟩, ⟨none, none, .w (.store 1 (.t 9) (.t 8))⟩])
  (.seq (.ops [⟨(some 10), none, .q (.load true 2 (.t 3))⟩, ⟨none, none, .w (.store 2 (.t 2) (.t 10))⟩])
  .ret)))))
theorem K84 : Tryz.f84.body.bind (comp Tryz.prog) = some A84 ∧ Tryz.f84.ntmps = 11 ∧ Tryz.f84.results.toList.mapM (resB Tryz.prog) = some [.load true 2 (.t 2)] := ⟨by kernel_rfl, by kernel_rfl, by kernel_rfl⟩
theorem R84 (x : Env) (hx : Env.ty.ok x) : Ret Tryz.prog 84 [.agg (Env.ty.cs x)] (.agg (Env.ty.oc x)) [.un] := by
  obtain ⟨o0, o1, _⟩ := hx
  refine Ret.run Tryz.func84 K84 (by simp) rfl rfl 500 ?_
  simp [A84, iniρ, Env.cse, over, ex1, Env.oce]
theorem R53 (xs : List Env) (hx : Env.ty.slice.ok xs) : Ret Tryz.prog 53 [.ro (rows Env.ty.cs xs) xs.length] (.own (rows Env.ty.oc xs) xs.length 2) [.un] := Ret.toS Env.ty Tryz.func53 ⟨by kernel_rfl, by kernel_rfl, by kernel_rfl⟩ (by kernel_rfl) (fun x h => R84 x h) (by decide) (by decide) xs hx
/- 94: loop.example/g00464/laws.eqEnv -/
def A94 : AC := (.seq (.ops [⟨(some 2), none, .w (.box (.t 0))⟩, ⟨(some 3), none, .w (.box (.t 1))⟩, ⟨(some 4), none, .q (.mov (.c (.sc (.bool false))))⟩])
  (.seq (.seq (.ops [⟨(some 5), none, .q (.fadr 0 (.t 2))⟩, ⟨(some 6), none, .q (.load false 1 (.t 5))⟩, ⟨(some 7), none, .q (.fadr 0 (.t 3))⟩, ⟨(some 8), none, .q (.load false 1 (.t 7))⟩, ⟨(some 9), none, .q (.bin .neq (.t 6) (.t 8))⟩])
  (.cond (.t 9) (.seq (.ops [⟨(some 4), none, .q (.mov (.c (.sc (.bool false))))⟩])
  .ret)
  .skip))
  (.seq (.seq (.ops [⟨(some 10), none, .q (.fadr 1 (.t 2))⟩, ⟨(some 11), none, .q (.load false 1 (.t 10))⟩, ⟨(some 12), none, .q (.fadr 1 (.t 3))⟩, ⟨(some 13), none, .q (.load false 1 (.t 12))⟩, ⟨(some 14), none, .q (.bin .neq (.t 11) (.t 13))⟩])
  (.cond (.t 14) (.seq (.ops [⟨(some 4), none, .q (.mov (.c (.sc (.bool false))))⟩])
  .ret)
  .skip))
  (.seq (.ops [⟨(some 4), none, .q (.mov (.c (.sc (.bool true))))⟩])
  .ret))))
theorem K94 : Tryz.f94.body.bind (comp Tryz.prog) = some A94 ∧ Tryz.f94.ntmps = 15 ∧ Tryz.f94.results.toList.mapM (resB Tryz.prog) = some [.mov (.t 4)] := ⟨by kernel_rfl, by kernel_rfl, by kernel_rfl⟩
theorem R94 (x : Env) (hx : Env.ty.ok x) : Ret Tryz.prog 94 [.agg (Env.ty.cs x), .agg (Env.ty.cs x)] (.sc (.bool true)) [.un, .un] := by
  obtain ⟨o0, o1, _⟩ := hx
  refine Ret.run Tryz.func94 K94 (by simp) rfl rfl 500 ?_
  simp [A94, iniρ, Env.cse]
theorem R63 (xs : List Env) (hx : Env.ty.slice.ok xs) : Ret Tryz.prog 63 [.ro (rows Env.ty.cs xs) xs.length, .ro (rows Env.ty.cs xs) xs.length] (.sc (.bool true)) [.un, .un] := Ret.eqS mixed Env.ty (agg := true) Tryz.func63 ⟨by kernel_rfl, by kernel_rfl, by kernel_rfl⟩ (by kernel_rfl) (by simp) xs (fun x h => R94 x (hx.2 x h)) (Env.ty.lenb (by decide) hx)
/- 75: loop.example/g00464/laws.szRule -/
def A75 : AC := (.seq (.ops [⟨(some 2), none, .w (.box (.t 0))⟩, ⟨(some 4), none, .q (.mov (.c (.sc (.int .i64 0))))⟩])
  (.seq (.ops [⟨(some 5), none, .q (.mov (.t 1))⟩, ⟨(some 6), none, .q (.fadr 0 (.t 2))⟩, ⟨(some 7), none, .q (.load false 1 (.t 6))⟩, ⟨(some 8), none, .q (.slen (.t 7))⟩, ⟨(some 9), none, .q (.bin .sub (.t 5) (.t 8))⟩, ⟨(some 1), none, .q (.mov (.t 9))⟩])
  (.seq (.seq (.ops [⟨(some 10), none, .q (.mov (.t 1))⟩, ⟨(some 11), none, .q (.bin .lss (.t 10) (.c (.sc (.int .i64 0))))⟩])
  (.cond (.t 11) (.seq (.ops [⟨(some 4), none, .q (.mov (.c (.sc (.int .i64 (-1)))))⟩])
  .ret)
  .skip))
  (.seq (.ops [⟨(some 12), none, .q (.fadr 1 (.t 2))⟩, ⟨(some 13), none, .q (.load false 1 (.t 12))⟩, ⟨(some 14), none, .q (.mov (.t 1))⟩, ⟨(some 15), none, .c (.c (.clo 17 [])) [(.t 13), (.t 14)]⟩, ⟨(some 1), none, .q (.mov (.t 15))⟩])
  (.seq (.seq (.ops [⟨(some 16), none, .q (.mov (.t 1))⟩, ⟨(some 17), none, .q (.bin .lss (.t 16) (.c (.sc (.int .i64 0))))⟩])
  (.cond (.t 17) (.seq (.ops [⟨(some 4), none, .q (.mov (.c (.sc (.int .i64 (-1)))))⟩])
  .ret)
  .skip))
  (.seq (.ops [⟨(some 18), none, .q (.fadr 2 (.t 2))⟩, ⟨(some 19), none, .q (.load false 1 (.t 18))⟩, ⟨(some 20), none, .q (.mov (.t 1))⟩, ⟨(some 21), none, .c (.c (.clo 17 [])) [(.t 19), (.t 20)]⟩, ⟨(some 1), none, .q (.mov (.t 21))⟩])
  (.seq (.seq (.ops [⟨(some 22), none, .q (.mov (.t 1))⟩, ⟨(some 23), none, .q (.bin .lss (.t 22) (.c (.sc (.int .i64 0))))⟩])
  (.cond (.t 23) (.seq (.ops [⟨(some 4), none, .q (.mov (.c (.sc (.int .i64 (-1)))))⟩])
  .ret)
  .skip))
  (.seq (.ops [⟨(some 24), none, .q (.fadr 3 (.t 2))⟩, ⟨(some 25), none, .q (.load false 1 (.t 24))⟩, ⟨(some 26), none, .q (.mov (.t 1))⟩, ⟨(some 27), none, .c (.c (.clo 17 [])) [(.t 25), (.t 26)]⟩, ⟨(some 1), none, .q (.mov (.t 27))⟩])
  (.seq (.seq (.ops [⟨(some 28), none, .q (.mov (.t 1))⟩, ⟨(some 29), none, .q (.bin .lss (.t 28) (.c (.sc (.int .i64 0))))⟩])
  (.cond (.t 29) (.seq (.ops [⟨(some 4), none, .q (.mov (.c (.sc (.int .i64 (-1)))))⟩])
  .ret)
  .skip))
  (.seq (.ops [⟨(some 30), none, .q (.mov (.t 1))⟩, ⟨(some 4), none, .q (.mov (.t 30))⟩])
  .ret))))))))))
theorem K75 : Tryz.f75.body.bind (comp Tryz.prog) = some A75 ∧ Tryz.f75.ntmps = 31 ∧ Tryz.f75.results.toList.mapM (resB Tryz.prog) = some [.mov (.t 4)] := ⟨by kernel_rfl, by kernel_rfl, by kernel_rfl⟩
theorem R75 (x : Rule) (hx : Rule.ty.ok x) : Sz Tryz.prog 75 (.agg (Rule.ty.cs x)) (Rule.ty.wt x) := by
  intro l h0 h1
  obtain ⟨o0, o1, o2, o3, o4, _⟩ := hx
  have o0 : x.task.size ≤ 140737488351232 := o0
  have w0 : IntKind.i64.wrap (l - x.task.size) = l - x.task.size := wrap_i64 (by omega) (by omega)
  by_cases n0 : l - (x.task.size : Int) < 0
  · refine ⟨-1, .inl (by decide), ?_⟩
    refine Ret.run Tryz.func75 K75 (by simp) rfl rfl 500 ?_
    simp [A75, iniρ, Rule.cse, w0, n0]
    try omega
  have p0 : 0 ≤ (l - (x.task.size : Int)) := by omega
  obtain ⟨m1, e1, q1⟩ := R17 x.on o1 (l - (x.task.size : Int)) (by omega) (by omega)
  by_cases n1 : m1 < 0
  · refine ⟨-1, .inl (by decide), ?_⟩
    refine Ret.run Tryz.func75 K75 (by simp) rfl rfl 500 ?_
    simp [A75, iniρ, Rule.cse, w0, n0, n1]
    refine callK.ro 0 rfl (by kernel_rfl) (by simp [roc_sc, roc_ro, roc_agg, Rule.cse]) q1 rfl rfl rfl ?_
    simp [w0, n0, n1, Rule.cse]
  have e1 : m1 = (l - (x.task.size : Int)) - ((x.on.length + wtL Ty.str.wt x.on : Nat) : Int) := e1.resolve_left n1
  obtain ⟨m2, e2, q2⟩ := R17 x.ins o2 m1 (by omega) (by omega)
  by_cases n2 : m2 < 0
  · refine ⟨-1, .inl (by decide), ?_⟩
    refine Ret.run Tryz.func75 K75 (by simp) rfl rfl 500 ?_
    simp [A75, iniρ, Rule.cse, w0, n0, n1, n2]
    refine callK.ro 0 rfl (by kernel_rfl) (by simp [roc_sc, roc_ro, roc_agg, Rule.cse]) q1 rfl rfl rfl ?_
    simp [w0, n0, n1, n2, Rule.cse]
    refine callK.ro 0 rfl (by kernel_rfl) (by simp [roc_sc, roc_ro, roc_agg, Rule.cse]) q2 rfl rfl rfl ?_
    simp [w0, n0, n1, n2, Rule.cse]
  have e2 : m2 = m1 - ((x.ins.length + wtL Ty.str.wt x.ins : Nat) : Int) := e2.resolve_left n2
  obtain ⟨m3, e3, q3⟩ := R17 x.envs o3 m2 (by omega) (by omega)
  by_cases n3 : m3 < 0
  · refine ⟨-1, .inl (by decide), ?_⟩
    refine Ret.run Tryz.func75 K75 (by simp) rfl rfl 500 ?_
    simp [A75, iniρ, Rule.cse, w0, n0, n1, n2, n3]
    refine callK.ro 0 rfl (by kernel_rfl) (by simp [roc_sc, roc_ro, roc_agg, Rule.cse]) q1 rfl rfl rfl ?_
    simp [w0, n0, n1, n2, n3, Rule.cse]
    refine callK.ro 0 rfl (by kernel_rfl) (by simp [roc_sc, roc_ro, roc_agg, Rule.cse]) q2 rfl rfl rfl ?_
    simp [w0, n0, n1, n2, n3, Rule.cse]
    refine callK.ro 0 rfl (by kernel_rfl) (by simp [roc_sc, roc_ro, roc_agg, Rule.cse]) q3 rfl rfl rfl ?_
    simp [w0, n0, n1, n2, n3, Rule.cse]
  have e3 : m3 = m2 - ((x.envs.length + wtL Ty.str.wt x.envs : Nat) : Int) := e3.resolve_left n3
  refine ⟨m3, .inr ?_, ?_⟩
  · rw [Rule.wte]; omega
  refine Ret.run Tryz.func75 K75 (by simp) rfl rfl 500 ?_
  simp [A75, iniρ, Rule.cse, w0, n0, n1, n2, n3]
  refine callK.ro 0 rfl (by kernel_rfl) (by simp [roc_sc, roc_ro, roc_agg, Rule.cse]) q1 rfl rfl rfl ?_
  simp [w0, n0, n1, n2, n3, Rule.cse]
  refine callK.ro 0 rfl (by kernel_rfl) (by simp [roc_sc, roc_ro, roc_agg, Rule.cse]) q2 rfl rfl rfl ?_
  simp [w0, n0, n1, n2, n3, Rule.cse]
  refine callK.ro 0 rfl (by kernel_rfl) (by simp [roc_sc, roc_ro, roc_agg, Rule.cse]) q3 rfl rfl rfl ?_
  simp [w0, n0, n1, n2, n3, Rule.cse]
theorem R41 (xs : List Rule) (hx : Rule.ty.slice.ok xs) : Sz Tryz.prog 41 (.ro (rows Rule.ty.cs xs) xs.length) (Rule.ty.slice.wt xs) := Sz.slice Rule.ty (agg := true) Tryz.func41 ⟨by kernel_rfl, by kernel_rfl, by kernel_rfl⟩ (by kernel_rfl) (by simp) xs (fun x h => R75 x (hx.2 x h)) (Rule.ty.lenb (by decide) hx)
/- 82: loop.example/g00464/laws.toRule -/
def A82 : AC := (.seq (.ops [⟨(some 1), none, .w (.box (.t 0))⟩, ⟨(some 2), none, .w (.alloc [(.sc (.string ⟨#[]⟩)), .em, .em, .em, (.sc (.bool false))])⟩])
  (.seq (.ops [⟨(some 3), none, .w (.alloc [(.sc (.string ⟨#[]⟩)), .em, .em, .em, (.sc (.bool false))])⟩])
  (.seq (.ops [⟨(some 4), none, .q (.fadr 0 (.t 1))⟩, ⟨(some 5), none, .q (.load false 1 (.t 4))⟩, ⟨(some 6), none, .q (.fadr 0 (.t 3))⟩, ⟨none, none, .w (.store 1 (.t 6) (.t 5))⟩])
  (.seq (.ops [⟨(some 7), none, .q (.fadr 1 (.t 1))⟩, ⟨(some 8), none, .q (.load false 1 (.t 7))⟩, ⟨(some 9), none, .c (.c (.clo 26 [])) [(.t 8)]⟩, ⟨(some 10), none, .q (.fadr 1 (.t 3))⟩, ⟨none, none, .w (.store 1 (.t 10) (.t 9))⟩])
  (.seq (.ops [⟨(some 11), none, .q (.fadr 2 (.t 1))⟩, ⟨(some 12), none, .q (.load false 1 (.t 11))⟩, ⟨(some 13), none, .c (.c (.clo 26 [])) [(.t 12)]⟩, ⟨(some 14), none, .q (.fadr 2 (.t 3))⟩, ⟨none, none, .w (.store 1 (.t 14) (.t 13))⟩])
  (.seq (.ops [⟨(some 15), none, .q (.fadr 3 (.t 1))⟩, ⟨(some 16), none, .q (.load false 1 (.t 15))⟩, ⟨(some 17), none, .c (.c (.clo 26 [])) [(.t 16)]⟩, ⟨(some 18), none, .q (.fadr 3 (.t 3))⟩, ⟨none, none, .w (.store 1 (.t 18) (.t 17))⟩])
  (.seq (.ops [⟨(some 19), none, .q (.fadr 4 (.t 1))⟩, ⟨(some 20), none, .q (.load false 1 (.t 19))⟩, ⟨(some 21), none, .q (.fadr 4 (.t 3))⟩, ⟨none, none, .w (.store 1 (.t 21) (.t 20))⟩])
  (.seq (.ops [⟨(some 22), none, .q (.load true 5 (.t 3))⟩, ⟨none, none, .w (.store 5 (.t 2) (.t 22))⟩])
  .ret))))))))
theorem K82 : Tryz.f82.body.bind (comp Tryz.prog) = some A82 ∧ Tryz.f82.ntmps = 23 ∧ Tryz.f82.results.toList.mapM (resB Tryz.prog) = some [.load true 5 (.t 2)] := ⟨by kernel_rfl, by kernel_rfl, by kernel_rfl⟩
theorem R82 (x : Rule) (hx : Rule.ty.ok x) : Ret Tryz.prog 82 [.agg (Rule.ty.cs x)] (.agg (Rule.ty.oc x)) [.un] := by
  obtain ⟨o0, o1, o2, o3, o4, _⟩ := hx
  refine Ret.run Tryz.func82 K82 (by simp) rfl rfl 500 ?_
  simp [A82, iniρ, Rule.cse, over, ex1, Rule.oce, str_ocl, Ty.str.frL]
  refine callK.own 501 rfl (by kernel_rfl) (by simp [roc_sc, roc_ro, roc_agg, Rule.cse]) (R26 x.on o1) (Ty.str.flo x.on) (by simp) rfl ?_
  simp [over, ex1, Rule.oce, str_ocl, Ty.str.frL]
  refine callK.own 502 rfl (by kernel_rfl) (by simp [roc_sc, roc_ro, roc_agg, Rule.cse]) (R26 x.ins o2) (Ty.str.flo x.ins) (by simp) rfl ?_
  simp [over, ex1, Rule.oce, str_ocl, Ty.str.frL]
  refine callK.own 503 rfl (by kernel_rfl) (by simp [roc_sc, roc_ro, roc_agg, Rule.cse]) (R26 x.envs o3) (Ty.str.flo x.envs) (by simp) rfl ?_
  simp [over, ex1, Rule.oce, str_ocl, Ty.str.frL]
theorem R51 (xs : List Rule) (hx : Rule.ty.slice.ok xs) : Ret Tryz.prog 51 [.ro (rows Rule.ty.cs xs) xs.length] (.own (rows Rule.ty.oc xs) xs.length 5) [.un] := Ret.toS Rule.ty Tryz.func51 ⟨by kernel_rfl, by kernel_rfl, by kernel_rfl⟩ (by kernel_rfl) (fun x h => R82 x h) (by decide) (by decide) xs hx
/- 92: loop.example/g00464/laws.eqRule -/
def A92 : AC := (.seq (.ops [⟨(some 2), none, .w (.box (.t 0))⟩, ⟨(some 3), none, .w (.box (.t 1))⟩, ⟨(some 4), none, .q (.mov (.c (.sc (.bool false))))⟩])
  (.seq (.seq (.ops [⟨(some 5), none, .q (.fadr 0 (.t 2))⟩, ⟨(some 6), none, .q (.load false 1 (.t 5))⟩, ⟨(some 7), none, .q (.fadr 0 (.t 3))⟩, ⟨(some 8), none, .q (.load false 1 (.t 7))⟩, ⟨(some 9), none, .q (.bin .neq (.t 6) (.t 8))⟩])
  (.cond (.t 9) (.seq (.ops [⟨(some 4), none, .q (.mov (.c (.sc (.bool false))))⟩])
  .ret)
  .skip))
  (.seq (.seq (.ops [⟨(some 10), none, .q (.fadr 1 (.t 2))⟩, ⟨(some 11), none, .q (.load false 1 (.t 10))⟩, ⟨(some 12), none, .q (.fadr 1 (.t 3))⟩, ⟨(some 13), none, .q (.load false 1 (.t 12))⟩, ⟨(some 14), none, .c (.c (.clo 8 [])) [(.t 11), (.t 13)]⟩, ⟨(some 15), none, .q (.not (.t 14))⟩])
  (.cond (.t 15) (.seq (.ops [⟨(some 4), none, .q (.mov (.c (.sc (.bool false))))⟩])
  .ret)
  .skip))
  (.seq (.seq (.ops [⟨(some 16), none, .q (.fadr 2 (.t 2))⟩, ⟨(some 17), none, .q (.load false 1 (.t 16))⟩, ⟨(some 18), none, .q (.fadr 2 (.t 3))⟩, ⟨(some 19), none, .q (.load false 1 (.t 18))⟩, ⟨(some 20), none, .c (.c (.clo 8 [])) [(.t 17), (.t 19)]⟩, ⟨(some 21), none, .q (.not (.t 20))⟩])
  (.cond (.t 21) (.seq (.ops [⟨(some 4), none, .q (.mov (.c (.sc (.bool false))))⟩])
  .ret)
  .skip))
  (.seq (.seq (.ops [⟨(some 22), none, .q (.fadr 3 (.t 2))⟩, ⟨(some 23), none, .q (.load false 1 (.t 22))⟩, ⟨(some 24), none, .q (.fadr 3 (.t 3))⟩, ⟨(some 25), none, .q (.load false 1 (.t 24))⟩, ⟨(some 26), none, .c (.c (.clo 8 [])) [(.t 23), (.t 25)]⟩, ⟨(some 27), none, .q (.not (.t 26))⟩])
  (.cond (.t 27) (.seq (.ops [⟨(some 4), none, .q (.mov (.c (.sc (.bool false))))⟩])
  .ret)
  .skip))
  (.seq (.seq (.ops [⟨(some 28), none, .q (.fadr 4 (.t 2))⟩, ⟨(some 29), none, .q (.load false 1 (.t 28))⟩, ⟨(some 30), none, .q (.fadr 4 (.t 3))⟩, ⟨(some 31), none, .q (.load false 1 (.t 30))⟩, ⟨(some 32), none, .q (.beq true (.t 29) (.t 31))⟩])
  (.cond (.t 32) (.seq (.ops [⟨(some 4), none, .q (.mov (.c (.sc (.bool false))))⟩])
  .ret)
  .skip))
  (.seq (.ops [⟨(some 4), none, .q (.mov (.c (.sc (.bool true))))⟩])
  .ret)))))))
theorem K92 : Tryz.f92.body.bind (comp Tryz.prog) = some A92 ∧ Tryz.f92.ntmps = 33 ∧ Tryz.f92.results.toList.mapM (resB Tryz.prog) = some [.mov (.t 4)] := ⟨by kernel_rfl, by kernel_rfl, by kernel_rfl⟩
theorem R92 (x : Rule) (hx : Rule.ty.ok x) : Ret Tryz.prog 92 [.agg (Rule.ty.cs x), .agg (Rule.ty.cs x)] (.sc (.bool true)) [.un, .un] := by
  obtain ⟨o0, o1, o2, o3, o4, _⟩ := hx
  refine Ret.run Tryz.func92 K92 (by simp) rfl rfl 500 ?_
  simp [A92, iniρ, Rule.cse]
  refine callK.ro 0 rfl (by kernel_rfl) (by simp [roc_sc, roc_ro, roc_agg, Rule.cse]) (R8 x.on o1) rfl rfl rfl ?_
  simp [Rule.cse]
  refine callK.ro 0 rfl (by kernel_rfl) (by simp [roc_sc, roc_ro, roc_agg, Rule.cse]) (R8 x.ins o2) rfl rfl rfl ?_
  simp [Rule.cse]
  refine callK.ro 0 rfl (by kernel_rfl) (by simp [roc_sc, roc_ro, roc_agg, Rule.cse]) (R8 x.envs o3) rfl rfl rfl ?_
  simp [Rule.cse]
theorem R61 (xs : List Rule) (hx : Rule.ty.slice.ok xs) : Ret Tryz.prog 61 [.ro (rows Rule.ty.cs xs) xs.length, .ro (rows Rule.ty.cs xs) xs.length] (.sc (.bool true)) [.un, .un] := Ret.eqS mixed Rule.ty (agg := true) Tryz.func61 ⟨by kernel_rfl, by kernel_rfl, by kernel_rfl⟩ (by kernel_rfl) (by simp) xs (fun x h => R92 x (hx.2 x h)) (Rule.ty.lenb (by decide) hx)
/- 13: loop.example/g00464/laws.szWorld -/
def A13 : AC := (.seq (.ops [⟨(some 2), none, .w (.box (.t 0))⟩, ⟨(some 4), none, .q (.mov (.c (.sc (.int .i64 0))))⟩])
  (.seq (.ops [⟨(some 5), none, .q (.fadr 0 (.t 2))⟩, ⟨(some 6), none, .q (.load false 1 (.t 5))⟩, ⟨(some 7), none, .q (.mov (.t 1))⟩, ⟨(some 8), none, .c (.c (.clo 40 [])) [(.t 6), (.t 7)]⟩, ⟨(some 1), none, .q (.mov (.t 8))⟩])
  (.seq (.seq (.ops [⟨(some 9), none, .q (.mov (.t 1))⟩, ⟨(some 10), none, .q (.bin .lss (.t 9) (.c (.sc (.int .i64 0))))⟩])
  (.cond (.t 10) (.seq (.ops [⟨(some 4), none, .q (.mov (.c (.sc (.int .i64 (-1)))))⟩])
  .ret)
  .skip))
  (.seq (.ops [⟨(some 11), none, .q (.fadr 1 (.t 2))⟩, ⟨(some 12), none, .q (.load false 1 (.t 11))⟩, ⟨(some 13), none, .q (.mov (.t 1))⟩, ⟨(some 14), none, .c (.c (.clo 41 [])) [(.t 12), (.t 13)]⟩, ⟨(some 1), none, .q (.mov (.t 14))⟩])
  (.seq (.seq (.ops [⟨(some 15), none, .q (.mov (.t 1))⟩, ⟨(some 16), none, .q (.bin .lss (.t 15) (.c (.sc (.int .i64 0))))⟩])
  (.cond (.t 16) (.seq (.ops [⟨(some 4), none, .q (.mov (.c (.sc (.int .i64 (-1)))))⟩])
  .ret)
  .skip))
  (.seq (.ops [⟨(some 17), none, .q (.fadr 2 (.t 2))⟩, ⟨(some 18), none, .q (.load false 1 (.t 17))⟩, ⟨(some 19), none, .q (.mov (.t 1))⟩, ⟨(some 20), none, .c (.c (.clo 42 [])) [(.t 18), (.t 19)]⟩, ⟨(some 1), none, .q (.mov (.t 20))⟩])
  (.seq (.seq (.ops [⟨(some 21), none, .q (.mov (.t 1))⟩, ⟨(some 22), none, .q (.bin .lss (.t 21) (.c (.sc (.int .i64 0))))⟩])
  (.cond (.t 22) (.seq (.ops [⟨(some 4), none, .q (.mov (.c (.sc (.int .i64 (-1)))))⟩])
  .ret)
  .skip))
  (.seq (.ops [⟨(some 23), none, .q (.fadr 3 (.t 2))⟩, ⟨(some 24), none, .q (.load false 1 (.t 23))⟩, ⟨(some 25), none, .q (.mov (.t 1))⟩, ⟨(some 26), none, .c (.c (.clo 43 [])) [(.t 24), (.t 25)]⟩, ⟨(some 1), none, .q (.mov (.t 26))⟩])
  (.seq (.seq (.ops [⟨(some 27), none, .q (.mov (.t 1))⟩, ⟨(some 28), none, .q (.bin .lss (.t 27) (.c (.sc (.int .i64 0))))⟩])
  (.cond (.t 28) (.seq (.ops [⟨(some 4), none, .q (.mov (.c (.sc (.int .i64 (-1)))))⟩])
  .ret)
  .skip))
  (.seq (.ops [⟨(some 29), none, .q (.mov (.t 1))⟩, ⟨(some 4), none, .q (.mov (.t 29))⟩])
  .ret))))))))))
theorem K13 : Tryz.f13.body.bind (comp Tryz.prog) = some A13 ∧ Tryz.f13.ntmps = 30 ∧ Tryz.f13.results.toList.mapM (resB Tryz.prog) = some [.mov (.t 4)] := ⟨by kernel_rfl, by kernel_rfl, by kernel_rfl⟩
theorem R13 (x : World) (hx : World.ty.ok x) : Sz Tryz.prog 13 (.agg (World.ty.cs x)) (World.ty.wt x) := by
  intro l h0 h1
  obtain ⟨o0, o1, o2, o3, _⟩ := hx
  obtain ⟨m0, e0, q0⟩ := R40 x.packs o0 l (by omega) (by omega)
  by_cases n0 : m0 < 0
  · refine ⟨-1, .inl (by decide), ?_⟩
    refine Ret.run Tryz.func13 K13 (by simp) rfl rfl 500 ?_
    simp [A13, iniρ, World.cse, n0]
    refine callK.ro 0 rfl (by kernel_rfl) (by simp [roc_sc, roc_ro, roc_agg, World.cse]) q0 rfl rfl rfl ?_
    simp [n0, World.cse]
  have e0 : m0 = l - ((x.packs.length + wtL Pack.ty.wt x.packs : Nat) : Int) := e0.resolve_left n0
  obtain ⟨m1, e1, q1⟩ := R41 x.rules o1 m0 (by omega) (by omega)
  by_cases n1 : m1 < 0
  · refine ⟨-1, .inl (by decide), ?_⟩
    refine Ret.run Tryz.func13 K13 (by simp) rfl rfl 500 ?_
    simp [A13, iniρ, World.cse, n0, n1]
    refine callK.ro 0 rfl (by kernel_rfl) (by simp [roc_sc, roc_ro, roc_agg, World.cse]) q0 rfl rfl rfl ?_
    simp [n0, n1, World.cse]
    refine callK.ro 0 rfl (by kernel_rfl) (by simp [roc_sc, roc_ro, roc_agg, World.cse]) q1 rfl rfl rfl ?_
    simp [n0, n1, World.cse]
  have e1 : m1 = m0 - ((x.rules.length + wtL Rule.ty.wt x.rules : Nat) : Int) := e1.resolve_left n1
  obtain ⟨m2, e2, q2⟩ := R42 x.files o2 m1 (by omega) (by omega)
  by_cases n2 : m2 < 0
  · refine ⟨-1, .inl (by decide), ?_⟩
    refine Ret.run Tryz.func13 K13 (by simp) rfl rfl 500 ?_
    simp [A13, iniρ, World.cse, n0, n1, n2]
    refine callK.ro 0 rfl (by kernel_rfl) (by simp [roc_sc, roc_ro, roc_agg, World.cse]) q0 rfl rfl rfl ?_
    simp [n0, n1, n2, World.cse]
    refine callK.ro 0 rfl (by kernel_rfl) (by simp [roc_sc, roc_ro, roc_agg, World.cse]) q1 rfl rfl rfl ?_
    simp [n0, n1, n2, World.cse]
    refine callK.ro 0 rfl (by kernel_rfl) (by simp [roc_sc, roc_ro, roc_agg, World.cse]) q2 rfl rfl rfl ?_
    simp [n0, n1, n2, World.cse]
  have e2 : m2 = m1 - ((x.files.length + wtL File.ty.wt x.files : Nat) : Int) := e2.resolve_left n2
  obtain ⟨m3, e3, q3⟩ := R43 x.envs o3 m2 (by omega) (by omega)
  by_cases n3 : m3 < 0
  · refine ⟨-1, .inl (by decide), ?_⟩
    refine Ret.run Tryz.func13 K13 (by simp) rfl rfl 500 ?_
    simp [A13, iniρ, World.cse, n0, n1, n2, n3]
    refine callK.ro 0 rfl (by kernel_rfl) (by simp [roc_sc, roc_ro, roc_agg, World.cse]) q0 rfl rfl rfl ?_
    simp [n0, n1, n2, n3, World.cse]
    refine callK.ro 0 rfl (by kernel_rfl) (by simp [roc_sc, roc_ro, roc_agg, World.cse]) q1 rfl rfl rfl ?_
    simp [n0, n1, n2, n3, World.cse]
    refine callK.ro 0 rfl (by kernel_rfl) (by simp [roc_sc, roc_ro, roc_agg, World.cse]) q2 rfl rfl rfl ?_
    simp [n0, n1, n2, n3, World.cse]
    refine callK.ro 0 rfl (by kernel_rfl) (by simp [roc_sc, roc_ro, roc_agg, World.cse]) q3 rfl rfl rfl ?_
    simp [n0, n1, n2, n3, World.cse]
  have e3 : m3 = m2 - ((x.envs.length + wtL Env.ty.wt x.envs : Nat) : Int) := e3.resolve_left n3
  refine ⟨m3, .inr ?_, ?_⟩
  · rw [World.wte]; omega
  refine Ret.run Tryz.func13 K13 (by simp) rfl rfl 500 ?_
  simp [A13, iniρ, World.cse, n0, n1, n2, n3]
  refine callK.ro 0 rfl (by kernel_rfl) (by simp [roc_sc, roc_ro, roc_agg, World.cse]) q0 rfl rfl rfl ?_
  simp [n0, n1, n2, n3, World.cse]
  refine callK.ro 0 rfl (by kernel_rfl) (by simp [roc_sc, roc_ro, roc_agg, World.cse]) q1 rfl rfl rfl ?_
  simp [n0, n1, n2, n3, World.cse]
  refine callK.ro 0 rfl (by kernel_rfl) (by simp [roc_sc, roc_ro, roc_agg, World.cse]) q2 rfl rfl rfl ?_
  simp [n0, n1, n2, n3, World.cse]
  refine callK.ro 0 rfl (by kernel_rfl) (by simp [roc_sc, roc_ro, roc_agg, World.cse]) q3 rfl rfl rfl ?_
  simp [n0, n1, n2, n3, World.cse]
/- 22: loop.example/g00464/laws.toWorld -/
def A22 : AC := (.seq (.ops [⟨(some 1), none, .w (.box (.t 0))⟩, ⟨(some 2), none, .w (.alloc [.em, .em, .em, .em])⟩])
  (.seq (.ops [⟨(some 3), none, .w (.alloc [.em, .em, .em, .em])⟩])
  (.seq (.ops [⟨(some 4), none, .q (.fadr 0 (.t 1))⟩, ⟨(some 5), none, .q (.load false 1 (.t 4))⟩, ⟨(some 6), none, .c (.c (.clo 50 [])) [(.t 5)]⟩, ⟨(some 7), none, .q (.fadr 0 (.t 3))⟩, ⟨none, none, .w (.store 1 (.t 7) (.t 6))⟩])
  (.seq (.ops [⟨(some 8), none, .q (.fadr 1 (.t 1))⟩, ⟨(some 9), none, .q (.load false 1 (.t 8))⟩, ⟨(some 10), none, .c (.c (.clo 51 [])) [(.t 9)]⟩, ⟨(some 11), none, .q (.fadr 1 (.t 3))⟩, ⟨none, none, .w (.store 1 (.t 11) (.t 10))⟩])
  (.seq (.ops [⟨(some 12), none, .q (.fadr 2 (.t 1))⟩, ⟨(some 13), none, .q (.load false 1 (.t 12))⟩, ⟨(some 14), none, .c (.c (.clo 52 [])) [(.t 13)]⟩, ⟨(some 15), none, .q (.fadr 2 (.t 3))⟩, ⟨none, none, .w (.store 1 (.t 15) (.t 14))⟩])
  (.seq (.ops [⟨(some 16), none, .q (.fadr 3 (.t 1))⟩, ⟨(some 17), none, .q (.load false 1 (.t 16))⟩, ⟨(some 18), none, .c (.c (.clo 53 [])) [(.t 17)]⟩, ⟨(some 19), none, .q (.fadr 3 (.t 3))⟩, ⟨none, none, .w (.store 1 (.t 19) (.t 18))⟩])
  (.seq (.ops [⟨(some 20), none, .q (.load true 4 (.t 3))⟩, ⟨none, none, .w (.store 4 (.t 2) (.t 20))⟩])
  .ret)))))))
theorem K22 : Tryz.f22.body.bind (comp Tryz.prog) = some A22 ∧ Tryz.f22.ntmps = 21 ∧ Tryz.f22.results.toList.mapM (resB Tryz.prog) = some [.load true 4 (.t 2)] := ⟨by kernel_rfl, by kernel_rfl, by kernel_rfl⟩
theorem R22 (x : World) (hx : World.ty.ok x) : Ret Tryz.prog 22 [.agg (World.ty.cs x)] (.agg (World.ty.oc x)) [.un] := by
  obtain ⟨o0, o1, o2, o3, _⟩ := hx
  refine Ret.run Tryz.func22 K22 (by simp) rfl rfl 500 ?_
  simp [A22, iniρ, World.cse, over, ex1, World.oce, Pack.ocl, Pack.frL, Rule.ocl, Rule.frL, File.ocl, File.frL, Env.ocl, Env.frL]
  refine callK.own 500 rfl (by kernel_rfl) (by simp [roc_sc, roc_ro, roc_agg, World.cse]) (R50 x.packs o0) (Pack.ty.flo x.packs) (by simp) rfl ?_
  simp [over, ex1, World.oce, Pack.ocl, Pack.frL, Rule.ocl, Rule.frL, File.ocl, File.frL, Env.ocl, Env.frL]
  refine callK.own 501 rfl (by kernel_rfl) (by simp [roc_sc, roc_ro, roc_agg, World.cse]) (R51 x.rules o1) (Rule.ty.flo x.rules) (by simp) rfl ?_
  simp [over, ex1, World.oce, Pack.ocl, Pack.frL, Rule.ocl, Rule.frL, File.ocl, File.frL, Env.ocl, Env.frL]
  refine callK.own 502 rfl (by kernel_rfl) (by simp [roc_sc, roc_ro, roc_agg, World.cse]) (R52 x.files o2) (File.ty.flo x.files) (by simp) rfl ?_
  simp [over, ex1, World.oce, Pack.ocl, Pack.frL, Rule.ocl, Rule.frL, File.ocl, File.frL, Env.ocl, Env.frL]
  refine callK.own 503 rfl (by kernel_rfl) (by simp [roc_sc, roc_ro, roc_agg, World.cse]) (R53 x.envs o3) (Env.ty.flo x.envs) (by simp) rfl ?_
  simp [over, ex1, World.oce, Pack.ocl, Pack.frL, Rule.ocl, Rule.frL, File.ocl, File.frL, Env.ocl, Env.frL]
/- 29: loop.example/g00464/laws.eqWorld -/
def A29 : AC := (.seq (.ops [⟨(some 2), none, .w (.box (.t 0))⟩, ⟨(some 3), none, .w (.box (.t 1))⟩, ⟨(some 4), none, .q (.mov (.c (.sc (.bool false))))⟩])
  (.seq (.seq (.ops [⟨(some 5), none, .q (.fadr 0 (.t 2))⟩, ⟨(some 6), none, .q (.load false 1 (.t 5))⟩, ⟨(some 7), none, .q (.fadr 0 (.t 3))⟩, ⟨(some 8), none, .q (.load false 1 (.t 7))⟩, ⟨(some 9), none, .c (.c (.clo 60 [])) [(.t 6), (.t 8)]⟩, ⟨(some 10), none, .q (.not (.t 9))⟩])
  (.cond (.t 10) (.seq (.ops [⟨(some 4), none, .q (.mov (.c (.sc (.bool false))))⟩])
  .ret)
  .skip))
  (.seq (.seq (.ops [⟨(some 11), none, .q (.fadr 1 (.t 2))⟩, ⟨(some 12), none, .q (.load false 1 (.t 11))⟩, ⟨(some 13), none, .q (.fadr 1 (.t 3))⟩, ⟨(some 14), none, .q (.load false 1 (.t 13))⟩, ⟨(some 15), none, .c (.c (.clo 61 [])) [(.t 12), (.t 14)]⟩, ⟨(some 16), none, .q (.not (.t 15))⟩])
  (.cond (.t 16) (.seq (.ops [⟨(some 4), none, .q (.mov (.c (.sc (.bool false))))⟩])
  .ret)
  .skip))
  (.seq (.seq (.ops [⟨(some 17), none, .q (.fadr 2 (.t 2))⟩, ⟨(some 18), none, .q (.load false 1 (.t 17))⟩, ⟨(some 19), none, .q (.fadr 2 (.t 3))⟩, ⟨(some 20), none, .q (.load false 1 (.t 19))⟩, ⟨(some 21), none, .c (.c (.clo 62 [])) [(.t 18), (.t 20)]⟩, ⟨(some 22), none, .q (.not (.t 21))⟩])
  (.cond (.t 22) (.seq (.ops [⟨(some 4), none, .q (.mov (.c (.sc (.bool false))))⟩])
  .ret)
  .skip))
  (.seq (.seq (.ops [⟨(some 23), none, .q (.fadr 3 (.t 2))⟩, ⟨(some 24), none, .q (.load false 1 (.t 23))⟩, ⟨(some 25), none, .q (.fadr 3 (.t 3))⟩, ⟨(some 26), none, .q (.load false 1 (.t 25))⟩, ⟨(some 27), none, .c (.c (.clo 63 [])) [(.t 24), (.t 26)]⟩, ⟨(some 28), none, .q (.not (.t 27))⟩])
  (.cond (.t 28) (.seq (.ops [⟨(some 4), none, .q (.mov (.c (.sc (.bool false))))⟩])
  .ret)
  .skip))
  (.seq (.ops [⟨(some 4), none, .q (.mov (.c (.sc (.bool true))))⟩])
  .ret))))))
theorem K29 : Tryz.f29.body.bind (comp Tryz.prog) = some A29 ∧ Tryz.f29.ntmps = 29 ∧ Tryz.f29.results.toList.mapM (resB Tryz.prog) = some [.mov (.t 4)] := ⟨by kernel_rfl, by kernel_rfl, by kernel_rfl⟩
theorem R29 (x : World) (hx : World.ty.ok x) : Ret Tryz.prog 29 [.agg (World.ty.cs x), .agg (World.ty.cs x)] (.sc (.bool true)) [.un, .un] := by
  obtain ⟨o0, o1, o2, o3, _⟩ := hx
  refine Ret.run Tryz.func29 K29 (by simp) rfl rfl 500 ?_
  simp [A29, iniρ, World.cse]
  refine callK.ro 0 rfl (by kernel_rfl) (by simp [roc_sc, roc_ro, roc_agg, World.cse]) (R60 x.packs o0) rfl rfl rfl ?_
  simp [World.cse]
  refine callK.ro 0 rfl (by kernel_rfl) (by simp [roc_sc, roc_ro, roc_agg, World.cse]) (R61 x.rules o1) rfl rfl rfl ?_
  simp [World.cse]
  refine callK.ro 0 rfl (by kernel_rfl) (by simp [roc_sc, roc_ro, roc_agg, World.cse]) (R62 x.files o2) rfl rfl rfl ?_
  simp [World.cse]
  refine callK.ro 0 rfl (by kernel_rfl) (by simp [roc_sc, roc_ro, roc_agg, World.cse]) (R63 x.envs o3) rfl rfl rfl ?_
  simp [World.cse]
/- 14: loop.example/g00464/laws.szPlan -/
def A14 : AC := (.seq (.ops [⟨(some 2), none, .w (.box (.t 0))⟩, ⟨(some 4), none, .q (.mov (.c (.sc (.int .i64 0))))⟩])
  (.seq (.ops [⟨(some 5), none, .q (.fadr 0 (.t 2))⟩, ⟨(some 6), none, .q (.load false 1 (.t 5))⟩, ⟨(some 7), none, .q (.mov (.t 1))⟩, ⟨(some 8), none, .c (.c (.clo 17 [])) [(.t 6), (.t 7)]⟩, ⟨(some 1), none, .q (.mov (.t 8))⟩])
  (.seq (.seq (.ops [⟨(some 9), none, .q (.mov (.t 1))⟩, ⟨(some 10), none, .q (.bin .lss (.t 9) (.c (.sc (.int .i64 0))))⟩])
  (.cond (.t 10) (.seq (.ops [⟨(some 4), none, .q (.mov (.c (.sc (.int .i64 (-1)))))⟩])
  .ret)
  .skip))
  (.seq (.ops [⟨(some 11), none, .q (.fadr 1 (.t 2))⟩, ⟨(some 12), none, .q (.load false 1 (.t 11))⟩, ⟨(some 13), none, .q (.mov (.t 1))⟩, ⟨(some 14), none, .c (.c (.clo 44 [])) [(.t 12), (.t 13)]⟩, ⟨(some 1), none, .q (.mov (.t 14))⟩])
  (.seq (.seq (.ops [⟨(some 15), none, .q (.mov (.t 1))⟩, ⟨(some 16), none, .q (.bin .lss (.t 15) (.c (.sc (.int .i64 0))))⟩])
  (.cond (.t 16) (.seq (.ops [⟨(some 4), none, .q (.mov (.c (.sc (.int .i64 (-1)))))⟩])
  .ret)
  .skip))
  (.seq (.ops [⟨(some 17), none, .q (.mov (.t 1))⟩, ⟨(some 4), none, .q (.mov (.t 17))⟩])
  .ret))))))
theorem K14 : Tryz.f14.body.bind (comp Tryz.prog) = some A14 ∧ Tryz.f14.ntmps = 18 ∧ Tryz.f14.results.toList.mapM (resB Tryz.prog) = some [.mov (.t 4)] := ⟨by kernel_rfl, by kernel_rfl, by kernel_rfl⟩
theorem R14 (x : Plan) (hx : Plan.ty.ok x) : Sz Tryz.prog 14 (.agg (Plan.ty.cs x)) (Plan.ty.wt x) := by
  intro l h0 h1
  obtain ⟨o0, o1, _⟩ := hx
  obtain ⟨m0, e0, q0⟩ := R17 x.tasks o0 l (by omega) (by omega)
  by_cases n0 : m0 < 0
  · refine ⟨-1, .inl (by decide), ?_⟩
    refine Ret.run Tryz.func14 K14 (by simp) rfl rfl 500 ?_
    simp [A14, iniρ, Plan.cse, n0]
    refine callK.ro 0 rfl (by kernel_rfl) (by simp [roc_sc, roc_ro, roc_agg, Plan.cse]) q0 rfl rfl rfl ?_
    simp [n0, Plan.cse]
  have e0 : m0 = l - ((x.tasks.length + wtL Ty.str.wt x.tasks : Nat) : Int) := e0.resolve_left n0
  obtain ⟨m1, e1, q1⟩ := R44 x.deps o1 m0 (by omega) (by omega)
  by_cases n1 : m1 < 0
  · refine ⟨-1, .inl (by decide), ?_⟩
    refine Ret.run Tryz.func14 K14 (by simp) rfl rfl 500 ?_
    simp [A14, iniρ, Plan.cse, n0, n1]
    refine callK.ro 0 rfl (by kernel_rfl) (by simp [roc_sc, roc_ro, roc_agg, Plan.cse]) q0 rfl rfl rfl ?_
    simp [n0, n1, Plan.cse]
    refine callK.ro 0 rfl (by kernel_rfl) (by simp [roc_sc, roc_ro, roc_agg, Plan.cse]) q1 rfl rfl rfl ?_
    simp [n0, n1, Plan.cse]
  have e1 : m1 = m0 - ((x.deps.length + wtL Ty.str.slice.wt x.deps : Nat) : Int) := e1.resolve_left n1
  refine ⟨m1, .inr ?_, ?_⟩
  · rw [Plan.wte]; omega
  refine Ret.run Tryz.func14 K14 (by simp) rfl rfl 500 ?_
  simp [A14, iniρ, Plan.cse, n0, n1]
  refine callK.ro 0 rfl (by kernel_rfl) (by simp [roc_sc, roc_ro, roc_agg, Plan.cse]) q0 rfl rfl rfl ?_
  simp [n0, n1, Plan.cse]
  refine callK.ro 0 rfl (by kernel_rfl) (by simp [roc_sc, roc_ro, roc_agg, Plan.cse]) q1 rfl rfl rfl ?_
  simp [n0, n1, Plan.cse]
/- 23: loop.example/g00464/laws.toPlan -/
def A23 : AC := (.seq (.ops [⟨(some 1), none, .w (.box (.t 0))⟩, ⟨(some 2), none, .w (.alloc [.em, .em])⟩])
  (.seq (.ops [⟨(some 3), none, .w (.alloc [.em, .em])⟩])
  (.seq (.ops [⟨(some 4), none, .q (.fadr 0 (.t 1))⟩, ⟨(some 5), none, .q (.load false 1 (.t 4))⟩, ⟨(some 6), none, .c (.c (.clo 26 [])) [(.t 5)]⟩, ⟨(some 7), none, .q (.fadr 0 (.t 3))⟩, ⟨none, none, .w (.store 1 (.t 7) (.t 6))⟩])
  (.seq (.ops [⟨(some 8), none, .q (.fadr 1 (.t 1))⟩, ⟨(some 9), none, .q (.load false 1 (.t 8))⟩, ⟨(some 10), none, .c (.c (.clo 54 [])) [(.t 9)]⟩, ⟨(some 11), none, .q (.fadr 1 (.t 3))⟩, ⟨none, none, .w (.store 1 (.t 11) (.t 10))⟩])
  (.seq (.ops [⟨(some 12), none, .q (.load true 2 (.t 3))⟩, ⟨none, none, .w (.store 2 (.t 2) (.t 12))⟩])
  .ret)))))
theorem K23 : Tryz.f23.body.bind (comp Tryz.prog) = some A23 ∧ Tryz.f23.ntmps = 13 ∧ Tryz.f23.results.toList.mapM (resB Tryz.prog) = some [.load true 2 (.t 2)] := ⟨by kernel_rfl, by kernel_rfl, by kernel_rfl⟩
theorem R23 (x : Plan) (hx : Plan.ty.ok x) : Ret Tryz.prog 23 [.agg (Plan.ty.cs x)] (.agg (Plan.ty.oc x)) [.un] := by
  obtain ⟨o0, o1, _⟩ := hx
  refine Ret.run Tryz.func23 K23 (by simp) rfl rfl 500 ?_
  simp [A23, iniρ, Plan.cse, over, ex1, Plan.oce, str_ocl, strs_ocl, Ty.str.frL, Ty.str.slice.frL]
  refine callK.own 500 rfl (by kernel_rfl) (by simp [roc_sc, roc_ro, roc_agg, Plan.cse]) (R26 x.tasks o0) (Ty.str.flo x.tasks) (by simp) rfl ?_
  simp [over, ex1, Plan.oce, str_ocl, strs_ocl, Ty.str.frL, Ty.str.slice.frL]
  refine callK.own 501 rfl (by kernel_rfl) (by simp [roc_sc, roc_ro, roc_agg, Plan.cse]) (R54 x.deps o1) (Ty.str.slice.flo x.deps) (by simp) rfl ?_
  simp [over, ex1, Plan.oce, str_ocl, strs_ocl, Ty.str.frL, Ty.str.slice.frL]
/- 30: loop.example/g00464/laws.eqPlan -/
def A30 : AC := (.seq (.ops [⟨(some 2), none, .w (.box (.t 0))⟩, ⟨(some 3), none, .w (.box (.t 1))⟩, ⟨(some 4), none, .q (.mov (.c (.sc (.bool false))))⟩])
  (.seq (.seq (.ops [⟨(some 5), none, .q (.fadr 0 (.t 2))⟩, ⟨(some 6), none, .q (.load false 1 (.t 5))⟩, ⟨(some 7), none, .q (.fadr 0 (.t 3))⟩, ⟨(some 8), none, .q (.load false 1 (.t 7))⟩, ⟨(some 9), none, .c (.c (.clo 8 [])) [(.t 6), (.t 8)]⟩, ⟨(some 10), none, .q (.not (.t 9))⟩])
  (.cond (.t 10) (.seq (.ops [⟨(some 4), none, .q (.mov (.c (.sc (.bool false))))⟩])
  .ret)
  .skip))
  (.seq (.seq (.ops [⟨(some 11), none, .q (.fadr 1 (.t 2))⟩, ⟨(some 12), none, .q (.load false 1 (.t 11))⟩, ⟨(some 13), none, .q (.fadr 1 (.t 3))⟩, ⟨(some 14), none, .q (.load false 1 (.t 13))⟩, ⟨(some 15), none, .c (.c (.clo 64 [])) [(.t 12), (.t 14)]⟩, ⟨(some 16), none, .q (.not (.t 15))⟩])
  (.cond (.t 16) (.seq (.ops [⟨(some 4), none, .q (.mov (.c (.sc (.bool false))))⟩])
  .ret)
  .skip))
  (.seq (.ops [⟨(some 4), none, .q (.mov (.c (.sc (.bool true))))⟩])
  .ret))))
theorem K30 : Tryz.f30.body.bind (comp Tryz.prog) = some A30 ∧ Tryz.f30.ntmps = 17 ∧ Tryz.f30.results.toList.mapM (resB Tryz.prog) = some [.mov (.t 4)] := ⟨by kernel_rfl, by kernel_rfl, by kernel_rfl⟩
theorem R30 (x : Plan) (hx : Plan.ty.ok x) : Ret Tryz.prog 30 [.agg (Plan.ty.cs x), .agg (Plan.ty.cs x)] (.sc (.bool true)) [.un, .un] := by
  obtain ⟨o0, o1, _⟩ := hx
  refine Ret.run Tryz.func30 K30 (by simp) rfl rfl 500 ?_
  simp [A30, iniρ, Plan.cse]
  refine callK.ro 0 rfl (by kernel_rfl) (by simp [roc_sc, roc_ro, roc_agg, Plan.cse]) (R8 x.tasks o0) rfl rfl rfl ?_
  simp [Plan.cse]
  refine callK.ro 0 rfl (by kernel_rfl) (by simp [roc_sc, roc_ro, roc_agg, Plan.cse]) (R64 x.deps o1) rfl rfl rfl ?_
  simp [Plan.cse]
/- 45: loop.example/g00464/laws.szMade -/
def A45 : AC := (.seq (.ops [⟨(some 2), none, .w (.box (.t 0))⟩, ⟨(some 4), none, .q (.mov (.c (.sc (.int .i64 0))))⟩])
  (.seq (.ops [⟨(some 5), none, .q (.mov (.t 1))⟩, ⟨(some 6), none, .q (.fadr 0 (.t 2))⟩, ⟨(some 7), none, .q (.load false 1 (.t 6))⟩, ⟨(some 8), none, .q (.slen (.t 7))⟩, ⟨(some 9), none, .q (.bin .sub (.t 5) (.t 8))⟩, ⟨(some 1), none, .q (.mov (.t 9))⟩])
  (.seq (.seq (.ops [⟨(some 10), none, .q (.mov (.t 1))⟩, ⟨(some 11), none, .q (.bin .lss (.t 10) (.c (.sc (.int .i64 0))))⟩])
  (.cond (.t 11) (.seq (.ops [⟨(some 4), none, .q (.mov (.c (.sc (.int .i64 (-1)))))⟩])
  .ret)
  .skip))
  (.seq (.ops [⟨(some 12), none, .q (.fadr 1 (.t 2))⟩, ⟨(some 13), none, .q (.load false 1 (.t 12))⟩, ⟨(some 14), none, .q (.mov (.t 1))⟩, ⟨(some 15), none, .c (.c (.clo 42 [])) [(.t 13), (.t 14)]⟩, ⟨(some 1), none, .q (.mov (.t 15))⟩])
  (.seq (.seq (.ops [⟨(some 16), none, .q (.mov (.t 1))⟩, ⟨(some 17), none, .q (.bin .lss (.t 16) (.c (.sc (.int .i64 0))))⟩])
  (.cond (.t 17) (.seq (.ops [⟨(some 4), none, .q (.mov (.c (.sc (.int .i64 (-1)))))⟩])
  .ret)
  .skip))
  (.seq (.ops [⟨(some 18), none, .q (.mov (.t 1))⟩, ⟨(some 19), none, .q (.fadr 2 (.t 2))⟩, ⟨(some 20), none, .q (.load false 1 (.t 19))⟩, ⟨(some 21), none, .q (.slen (.t 20))⟩, ⟨(some 22), none, .q (.bin .sub (.t 18) (.t 21))⟩, ⟨(some 1), none, .q (.mov (.t 22))⟩])
  (.seq (.seq (.ops [⟨(some 23), none, .q (.mov (.t 1))⟩, ⟨(some 24), none, .q (.bin .lss (.t 23) (.c (.sc (.int .i64 0))))⟩])
  (.cond (.t 24) (.seq (.ops [⟨(some 4), none, .q (.mov (.c (.sc (.int .i64 (-1)))))⟩])
  .ret)
  .skip))
  (.seq (.ops [⟨(some 25), none, .q (.mov (.t 1))⟩, ⟨(some 4), none, .q (.mov (.t 25))⟩])
  .ret))))))))
theorem K45 : Tryz.f45.body.bind (comp Tryz.prog) = some A45 ∧ Tryz.f45.ntmps = 26 ∧ Tryz.f45.results.toList.mapM (resB Tryz.prog) = some [.mov (.t 4)] := ⟨by kernel_rfl, by kernel_rfl, by kernel_rfl⟩
theorem R45 (x : Made) (hx : Made.ty.ok x) : Sz Tryz.prog 45 (.agg (Made.ty.cs x)) (Made.ty.wt x) := by
  intro l h0 h1
  obtain ⟨o0, o1, o2, _⟩ := hx
  have o0 : x.task.size ≤ 140737488351232 := o0
  have w0 : IntKind.i64.wrap (l - x.task.size) = l - x.task.size := wrap_i64 (by omega) (by omega)
  by_cases n0 : l - (x.task.size : Int) < 0
  · refine ⟨-1, .inl (by decide), ?_⟩
    refine Ret.run Tryz.func45 K45 (by simp) rfl rfl 500 ?_
    simp [A45, iniρ, Made.cse, w0, n0]
    try omega
  have p0 : 0 ≤ (l - (x.task.size : Int)) := by omega
  obtain ⟨m1, e1, q1⟩ := R42 x.outs o1 (l - (x.task.size : Int)) (by omega) (by omega)
  by_cases n1 : m1 < 0
  · refine ⟨-1, .inl (by decide), ?_⟩
    refine Ret.run Tryz.func45 K45 (by simp) rfl rfl 500 ?_
    simp [A45, iniρ, Made.cse, w0, n0, n1]
    refine callK.ro 0 rfl (by kernel_rfl) (by simp [roc_sc, roc_ro, roc_agg, Made.cse]) q1 rfl rfl rfl ?_
    simp [w0, n0, n1, Made.cse]
  have e1 : m1 = (l - (x.task.size : Int)) - ((x.outs.length + wtL File.ty.wt x.outs : Nat) : Int) := e1.resolve_left n1
  have o2 : x.log.size ≤ 140737488351232 := o2
  have w2 : IntKind.i64.wrap (m1 - x.log.size) = m1 - x.log.size := wrap_i64 (by omega) (by omega)
  by_cases n2 : m1 - (x.log.size : Int) < 0
  · refine ⟨-1, .inl (by decide), ?_⟩
    refine Ret.run Tryz.func45 K45 (by simp) rfl rfl 500 ?_
    simp [A45, iniρ, Made.cse, w0, n0, n1, w2, n2]
    refine callK.ro 0 rfl (by kernel_rfl) (by simp [roc_sc, roc_ro, roc_agg, Made.cse]) q1 rfl rfl rfl ?_
    simp [w0, n0, n1, w2, n2, Made.cse]
    try omega
  have p2 : 0 ≤ (m1 - (x.log.size : Int)) := by omega
  refine ⟨(m1 - (x.log.size : Int)), .inr ?_, ?_⟩
  · rw [Made.wte]; omega
  refine Ret.run Tryz.func45 K45 (by simp) rfl rfl 500 ?_
  simp [A45, iniρ, Made.cse, w0, n0, n1, w2, n2]
  refine callK.ro 0 rfl (by kernel_rfl) (by simp [roc_sc, roc_ro, roc_agg, Made.cse]) q1 rfl rfl rfl ?_
  simp [w0, n0, n1, w2, n2, Made.cse]
theorem R15 (xs : List Made) (hx : Made.ty.slice.ok xs) : Sz Tryz.prog 15 (.ro (rows Made.ty.cs xs) xs.length) (Made.ty.slice.wt xs) := Sz.slice Made.ty (agg := true) Tryz.func15 ⟨by kernel_rfl, by kernel_rfl, by kernel_rfl⟩ (by kernel_rfl) (by simp) xs (fun x h => R45 x (hx.2 x h)) (Made.ty.lenb (by decide) hx)
/- 55: loop.example/g00464/laws.toMade -/
def A55 : AC := (.seq (.ops [⟨(some 1), none, .w (.box (.t 0))⟩, ⟨(some 2), none, .w (.alloc [(.sc (.string ⟨#[]⟩)), .em, (.sc (.string ⟨#[]⟩))])⟩])
  (.seq (.ops [⟨(some 3), none, .w (.alloc [(.sc (.string ⟨#[]⟩)), .em, (.sc (.string ⟨#[]⟩))])⟩])
  (.seq (.ops [⟨(some 4), none, .q (.fadr 0 (.t 1))⟩, ⟨(some 5), none, .q (.load false 1 (.t 4))⟩, ⟨(some 6), none, .q (.fadr 0 (.t 3))⟩, ⟨none, none, .w (.store 1 (.t 6) (.t 5))⟩])
  (.seq (.ops [⟨(some 7), none, .q (.fadr 1 (.t 1))⟩, ⟨(some 8), none, .q (.load false 1 (.t 7))⟩, ⟨(some 9), none, .c (.c (.clo 52 [])) [(.t 8)]⟩, ⟨(some 10), none, .q (.fadr 1 (.t 3))⟩, ⟨none, none, .w (.store 1 (.t 10) (.t 9))⟩])
  (.seq (.ops [⟨(some 11), none, .q (.fadr 2 (.t 1))⟩, ⟨(some 12), none, .q (.load false 1 (.t 11))⟩, ⟨(some 13), none, .q (.fadr 2 (.t 3))⟩, ⟨none, none, .w (.store 1 (.t 13) (.t 12))⟩])
  (.seq (.ops [⟨(some 14), none, .q (.load true 3 (.t 3))⟩, ⟨none, none, .w (.store 3 (.t 2) (.t 14))⟩])
  .ret))))))
theorem K55 : Tryz.f55.body.bind (comp Tryz.prog) = some A55 ∧ Tryz.f55.ntmps = 15 ∧ Tryz.f55.results.toList.mapM (resB Tryz.prog) = some [.load true 3 (.t 2)] := ⟨by kernel_rfl, by kernel_rfl, by kernel_rfl⟩
theorem R55 (x : Made) (hx : Made.ty.ok x) : Ret Tryz.prog 55 [.agg (Made.ty.cs x)] (.agg (Made.ty.oc x)) [.un] := by
  obtain ⟨o0, o1, o2, _⟩ := hx
  refine Ret.run Tryz.func55 K55 (by simp) rfl rfl 500 ?_
  simp [A55, iniρ, Made.cse, over, ex1, Made.oce, File.ocl, File.frL]
  refine callK.own 501 rfl (by kernel_rfl) (by simp [roc_sc, roc_ro, roc_agg, Made.cse]) (R52 x.outs o1) (File.ty.flo x.outs) (by simp) rfl ?_
  simp [over, ex1, Made.oce, File.ocl, File.frL]
theorem R24 (xs : List Made) (hx : Made.ty.slice.ok xs) : Ret Tryz.prog 24 [.ro (rows Made.ty.cs xs) xs.length] (.own (rows Made.ty.oc xs) xs.length 3) [.un] := Ret.toS Made.ty Tryz.func24 ⟨by kernel_rfl, by kernel_rfl, by kernel_rfl⟩ (by kernel_rfl) (fun x h => R55 x h) (by decide) (by decide) xs hx
/- 65: loop.example/g00464/laws.eqMade -/
def A65 : AC := (.seq (.ops [⟨(some 2), none, .w (.box (.t 0))⟩, ⟨(some 3), none, .w (.box (.t 1))⟩, ⟨(some 4), none, .q (.mov (.c (.sc (.bool false))))⟩])
  (.seq (.seq (.ops [⟨(some 5), none, .q (.fadr 0 (.t 2))⟩, ⟨(some 6), none, .q (.load false 1 (.t 5))⟩, ⟨(some 7), none, .q (.fadr 0 (.t 3))⟩, ⟨(some 8), none, .q (.load false 1 (.t 7))⟩, ⟨(some 9), none, .q (.bin .neq (.t 6) (.t 8))⟩])
  (.cond (.t 9) (.seq (.ops [⟨(some 4), none, .q (.mov (.c (.sc (.bool false))))⟩])
  .ret)
  .skip))
  (.seq (.seq (.ops [⟨(some 10), none, .q (.fadr 1 (.t 2))⟩, ⟨(some 11), none, .q (.load false 1 (.t 10))⟩, ⟨(some 12), none, .q (.fadr 1 (.t 3))⟩, ⟨(some 13), none, .q (.load false 1 (.t 12))⟩, ⟨(some 14), none, .c (.c (.clo 62 [])) [(.t 11), (.t 13)]⟩, ⟨(some 15), none, .q (.not (.t 14))⟩])
  (.cond (.t 15) (.seq (.ops [⟨(some 4), none, .q (.mov (.c (.sc (.bool false))))⟩])
  .ret)
  .skip))
  (.seq (.seq (.ops [⟨(some 16), none, .q (.fadr 2 (.t 2))⟩, ⟨(some 17), none, .q (.load false 1 (.t 16))⟩, ⟨(some 18), none, .q (.fadr 2 (.t 3))⟩, ⟨(some 19), none, .q (.load false 1 (.t 18))⟩, ⟨(some 20), none, .q (.bin .neq (.t 17) (.t 19))⟩])
  (.cond (.t 20) (.seq (.ops [⟨(some 4), none, .q (.mov (.c (.sc (.bool false))))⟩])
  .ret)
  .skip))
  (.seq (.ops [⟨(some 4), none, .q (.mov (.c (.sc (.bool true))))⟩])
  .ret)))))
theorem K65 : Tryz.f65.body.bind (comp Tryz.prog) = some A65 ∧ Tryz.f65.ntmps = 21 ∧ Tryz.f65.results.toList.mapM (resB Tryz.prog) = some [.mov (.t 4)] := ⟨by kernel_rfl, by kernel_rfl, by kernel_rfl⟩
theorem R65 (x : Made) (hx : Made.ty.ok x) : Ret Tryz.prog 65 [.agg (Made.ty.cs x), .agg (Made.ty.cs x)] (.sc (.bool true)) [.un, .un] := by
  obtain ⟨o0, o1, o2, _⟩ := hx
  refine Ret.run Tryz.func65 K65 (by simp) rfl rfl 500 ?_
  simp [A65, iniρ, Made.cse]
  refine callK.ro 0 rfl (by kernel_rfl) (by simp [roc_sc, roc_ro, roc_agg, Made.cse]) (R62 x.outs o1) rfl rfl rfl ?_
  simp [Made.cse]
theorem R31 (xs : List Made) (hx : Made.ty.slice.ok xs) : Ret Tryz.prog 31 [.ro (rows Made.ty.cs xs) xs.length, .ro (rows Made.ty.cs xs) xs.length] (.sc (.bool true)) [.un, .un] := Ret.eqS mixed Made.ty (agg := true) Tryz.func31 ⟨by kernel_rfl, by kernel_rfl, by kernel_rfl⟩ (by kernel_rfl) (by simp) xs (fun x h => R65 x (hx.2 x h)) (Made.ty.lenb (by decide) hx)
/- 46: loop.example/g00464/laws.szMark -/
def A46 : AC := (.seq (.ops [⟨(some 2), none, .w (.box (.t 0))⟩, ⟨(some 4), none, .q (.mov (.c (.sc (.int .i64 0))))⟩])
  (.seq (.ops [⟨(some 5), none, .q (.mov (.t 1))⟩, ⟨(some 6), none, .q (.fadr 0 (.t 2))⟩, ⟨(some 7), none, .q (.load false 1 (.t 6))⟩, ⟨(some 8), none, .q (.slen (.t 7))⟩, ⟨(some 9), none, .q (.bin .sub (.t 5) (.t 8))⟩, ⟨(some 1), none, .q (.mov (.t 9))⟩])
  (.seq (.seq (.ops [⟨(some 10), none, .q (.mov (.t 1))⟩, ⟨(some 11), none, .q (.bin .lss (.t 10) (.c (.sc (.int .i64 0))))⟩])
  (.cond (.t 11) (.seq (.ops [⟨(some 4), none, .q (.mov (.c (.sc (.int .i64 (-1)))))⟩])
  .ret)
  .skip))
  (.seq (.ops [⟨(some 12), none, .q (.mov (.t 1))⟩, ⟨(some 4), none, .q (.mov (.t 12))⟩])
  .ret))))
theorem K46 : Tryz.f46.body.bind (comp Tryz.prog) = some A46 ∧ Tryz.f46.ntmps = 13 ∧ Tryz.f46.results.toList.mapM (resB Tryz.prog) = some [.mov (.t 4)] := ⟨by kernel_rfl, by kernel_rfl, by kernel_rfl⟩
theorem R46 (x : Mark) (hx : Mark.ty.ok x) : Sz Tryz.prog 46 (.agg (Mark.ty.cs x)) (Mark.ty.wt x) := by
  intro l h0 h1
  obtain ⟨o0, o1, _⟩ := hx
  have o0 : x.task.size ≤ 140737488351232 := o0
  have w0 : IntKind.i64.wrap (l - x.task.size) = l - x.task.size := wrap_i64 (by omega) (by omega)
  by_cases n0 : l - (x.task.size : Int) < 0
  · refine ⟨-1, .inl (by decide), ?_⟩
    refine Ret.run Tryz.func46 K46 (by simp) rfl rfl 500 ?_
    simp [A46, iniρ, Mark.cse, w0, n0]
    try omega
  have p0 : 0 ≤ (l - (x.task.size : Int)) := by omega
  refine ⟨(l - (x.task.size : Int)), .inr ?_, ?_⟩
  · rw [Mark.wte]; omega
  refine Ret.run Tryz.func46 K46 (by simp) rfl rfl 500 ?_
  simp [A46, iniρ, Mark.cse, w0, n0]
theorem R16 (xs : List Mark) (hx : Mark.ty.slice.ok xs) : Sz Tryz.prog 16 (.ro (rows Mark.ty.cs xs) xs.length) (Mark.ty.slice.wt xs) := Sz.slice Mark.ty (agg := true) Tryz.func16 ⟨by kernel_rfl, by kernel_rfl, by kernel_rfl⟩ (by kernel_rfl) (by simp) xs (fun x h => R46 x (hx.2 x h)) (Mark.ty.lenb (by decide) hx)
/- 56: loop.example/g00464/laws.toMark -/
def A56 : AC := (.seq (.ops [⟨(some 1), none, .w (.box (.t 0))⟩, ⟨(some 2), none, .w (.alloc [(.sc (.string ⟨#[]⟩)), (.sc (.int .i64 0))])⟩])
  (.seq (.ops [⟨(some 3), none, .w (.alloc [(.sc (.string ⟨#[]⟩)), (.sc (.int .i64 0))])⟩])
  (.seq (.ops [⟨(some 4), none, .q (.fadr 0 (.t 1))⟩, ⟨(some 5), none, .q (.load false 1 (.t 4))⟩, ⟨(some 6), none, .q (.fadr 0 (.t 3))⟩, ⟨none, none, .w (.store 1 (.t 6) (.t 5))⟩])
  (.seq (.ops [⟨(some 7), none, .q (.fadr 1 (.t 1))⟩, ⟨(some 8), none, .q (.load false 1 (.t 7))⟩, ⟨(some 9), none, .q (.fadr 1 (.t 3))⟩, ⟨none, none, .w (.store 1 (.t 9) (.t 8))⟩])
  (.seq (.ops [⟨(some 10), none, .q (.load true 2 (.t 3))⟩, ⟨none, none, .w (.store 2 (.t 2) (.t 10))⟩])
  .ret)))))
theorem K56 : Tryz.f56.body.bind (comp Tryz.prog) = some A56 ∧ Tryz.f56.ntmps = 11 ∧ Tryz.f56.results.toList.mapM (resB Tryz.prog) = some [.load true 2 (.t 2)] := ⟨by kernel_rfl, by kernel_rfl, by kernel_rfl⟩
theorem R56 (x : Mark) (hx : Mark.ty.ok x) : Ret Tryz.prog 56 [.agg (Mark.ty.cs x)] (.agg (Mark.ty.oc x)) [.un] := by
  obtain ⟨o0, o1, _⟩ := hx
  refine Ret.run Tryz.func56 K56 (by simp) rfl rfl 500 ?_
  simp [A56, iniρ, Mark.cse, over, ex1, Mark.oce]
theorem R25 (xs : List Mark) (hx : Mark.ty.slice.ok xs) : Ret Tryz.prog 25 [.ro (rows Mark.ty.cs xs) xs.length] (.own (rows Mark.ty.oc xs) xs.length 2) [.un] := Ret.toS Mark.ty Tryz.func25 ⟨by kernel_rfl, by kernel_rfl, by kernel_rfl⟩ (by kernel_rfl) (fun x h => R56 x h) (by decide) (by decide) xs hx
/- 66: loop.example/g00464/laws.eqMark -/
def A66 : AC := (.seq (.ops [⟨(some 2), none, .w (.box (.t 0))⟩, ⟨(some 3), none, .w (.box (.t 1))⟩, ⟨(some 4), none, .q (.mov (.c (.sc (.bool false))))⟩])
  (.seq (.seq (.ops [⟨(some 5), none, .q (.fadr 0 (.t 2))⟩, ⟨(some 6), none, .q (.load false 1 (.t 5))⟩, ⟨(some 7), none, .q (.fadr 0 (.t 3))⟩, ⟨(some 8), none, .q (.load false 1 (.t 7))⟩, ⟨(some 9), none, .q (.bin .neq (.t 6) (.t 8))⟩])
  (.cond (.t 9) (.seq (.ops [⟨(some 4), none, .q (.mov (.c (.sc (.bool false))))⟩])
  .ret)
  .skip))
  (.seq (.seq (.ops [⟨(some 10), none, .q (.fadr 1 (.t 2))⟩, ⟨(some 11), none, .q (.load false 1 (.t 10))⟩, ⟨(some 12), none, .q (.fadr 1 (.t 3))⟩, ⟨(some 13), none, .q (.load false 1 (.t 12))⟩, ⟨(some 14), none, .q (.bin .neq (.t 11) (.t 13))⟩])
  (.cond (.t 14) (.seq (.ops [⟨(some 4), none, .q (.mov (.c (.sc (.bool false))))⟩])
  .ret)
  .skip))
  (.seq (.ops [⟨(some 4), none, .q (.mov (.c (.sc (.bool true))))⟩])
  .ret))))
theorem K66 : Tryz.f66.body.bind (comp Tryz.prog) = some A66 ∧ Tryz.f66.ntmps = 15 ∧ Tryz.f66.results.toList.mapM (resB Tryz.prog) = some [.mov (.t 4)] := ⟨by kernel_rfl, by kernel_rfl, by kernel_rfl⟩
theorem R66 (x : Mark) (hx : Mark.ty.ok x) : Ret Tryz.prog 66 [.agg (Mark.ty.cs x), .agg (Mark.ty.cs x)] (.sc (.bool true)) [.un, .un] := by
  obtain ⟨o0, o1, _⟩ := hx
  refine Ret.run Tryz.func66 K66 (by simp) rfl rfl 500 ?_
  simp [A66, iniρ, Mark.cse]
theorem R32 (xs : List Mark) (hx : Mark.ty.slice.ok xs) : Ret Tryz.prog 32 [.ro (rows Mark.ty.cs xs) xs.length, .ro (rows Mark.ty.cs xs) xs.length] (.sc (.bool true)) [.un, .un] := Ret.eqS mixed Mark.ty (agg := true) Tryz.func32 ⟨by kernel_rfl, by kernel_rfl, by kernel_rfl⟩ (by kernel_rfl) (by simp) xs (fun x h => R66 x (hx.2 x h)) (Mark.ty.lenb (by decide) hx)
/- 47: loop.example/g00464/laws.szSlot -/
def A47 : AC := (.seq (.ops [⟨(some 2), none, .w (.box (.t 0))⟩, ⟨(some 4), none, .q (.mov (.c (.sc (.int .i64 0))))⟩])
  (.seq (.ops [⟨(some 5), none, .q (.fadr 0 (.t 2))⟩, ⟨(some 6), none, .q (.load false 1 (.t 5))⟩, ⟨(some 7), none, .q (.mov (.t 1))⟩, ⟨(some 8), none, .c (.c (.clo 78 [])) [(.t 6), (.t 7)]⟩, ⟨(some 1), none, .q (.mov (.t 8))⟩])
  (.seq (.seq (.ops [⟨(some 9), none, .q (.mov (.t 1))⟩, ⟨(some 10), none, .q (.bin .lss (.t 9) (.c (.sc (.int .i64 0))))⟩])
  (.cond (.t 10) (.seq (.ops [⟨(some 4), none, .q (.mov (.c (.sc (.int .i64 (-1)))))⟩])
  .ret)
  .skip))
  (.seq (.ops [⟨(some 11), none, .q (.fadr 1 (.t 2))⟩, ⟨(some 12), none, .q (.load false 1 (.t 11))⟩, ⟨(some 13), none, .q (.mov (.t 1))⟩, ⟨(some 14), none, .c (.c (.clo 78 [])) [(.t 12), (.t 13)]⟩, ⟨(some 1), none, .q (.mov (.t 14))⟩])
  (.seq (.seq (.ops [⟨(some 15), none, .q (.mov (.t 1))⟩, ⟨(some 16), none, .q (.bin .lss (.t 15) (.c (.sc (.int .i64 0))))⟩])
  (.cond (.t 16) (.seq (.ops [⟨(some 4), none, .q (.mov (.c (.sc (.int .i64 (-1)))))⟩])
  .ret)
  .skip))
  (.seq (.ops [⟨(some 17), none, .q (.mov (.t 1))⟩, ⟨(some 4), none, .q (.mov (.t 17))⟩])
  .ret))))))
theorem K47 : Tryz.f47.body.bind (comp Tryz.prog) = some A47 ∧ Tryz.f47.ntmps = 18 ∧ Tryz.f47.results.toList.mapM (resB Tryz.prog) = some [.mov (.t 4)] := ⟨by kernel_rfl, by kernel_rfl, by kernel_rfl⟩
theorem R47 (x : Slot) (hx : Slot.ty.ok x) : Sz Tryz.prog 47 (.agg (Slot.ty.cs x)) (Slot.ty.wt x) := by
  intro l h0 h1
  obtain ⟨o0, o1, _⟩ := hx
  obtain ⟨m0, e0, q0⟩ := R78 x.key o0 l (by omega) (by omega)
  by_cases n0 : m0 < 0
  · refine ⟨-1, .inl (by decide), ?_⟩
    refine Ret.run Tryz.func47 K47 (by simp) rfl rfl 500 ?_
    simp [A47, iniρ, Slot.cse, n0]
    refine callK.ro 0 rfl (by kernel_rfl) (by simp [roc_sc, roc_ro, roc_agg, Slot.cse]) q0 rfl rfl rfl ?_
    simp [n0, Slot.cse]
  have e0 : m0 = l - ((x.key.length + wtL Ty.byte.wt x.key : Nat) : Int) := e0.resolve_left n0
  obtain ⟨m1, e1, q1⟩ := R78 x.b o1 m0 (by omega) (by omega)
  by_cases n1 : m1 < 0
  · refine ⟨-1, .inl (by decide), ?_⟩
    refine Ret.run Tryz.func47 K47 (by simp) rfl rfl 500 ?_
    simp [A47, iniρ, Slot.cse, n0, n1]
    refine callK.ro 0 rfl (by kernel_rfl) (by simp [roc_sc, roc_ro, roc_agg, Slot.cse]) q0 rfl rfl rfl ?_
    simp [n0, n1, Slot.cse]
    refine callK.ro 0 rfl (by kernel_rfl) (by simp [roc_sc, roc_ro, roc_agg, Slot.cse]) q1 rfl rfl rfl ?_
    simp [n0, n1, Slot.cse]
  have e1 : m1 = m0 - ((x.b.length + wtL Ty.byte.wt x.b : Nat) : Int) := e1.resolve_left n1
  refine ⟨m1, .inr ?_, ?_⟩
  · rw [Slot.wte]; omega
  refine Ret.run Tryz.func47 K47 (by simp) rfl rfl 500 ?_
  simp [A47, iniρ, Slot.cse, n0, n1]
  refine callK.ro 0 rfl (by kernel_rfl) (by simp [roc_sc, roc_ro, roc_agg, Slot.cse]) q0 rfl rfl rfl ?_
  simp [n0, n1, Slot.cse]
  refine callK.ro 0 rfl (by kernel_rfl) (by simp [roc_sc, roc_ro, roc_agg, Slot.cse]) q1 rfl rfl rfl ?_
  simp [n0, n1, Slot.cse]
theorem R18 (xs : List Slot) (hx : Slot.ty.slice.ok xs) : Sz Tryz.prog 18 (.ro (rows Slot.ty.cs xs) xs.length) (Slot.ty.slice.wt xs) := Sz.slice Slot.ty (agg := true) Tryz.func18 ⟨by kernel_rfl, by kernel_rfl, by kernel_rfl⟩ (by kernel_rfl) (by simp) xs (fun x h => R47 x (hx.2 x h)) (Slot.ty.lenb (by decide) hx)
/- 57: loop.example/g00464/laws.toSlot -/
def A57 : AC := (.seq (.ops [⟨(some 1), none, .w (.box (.t 0))⟩, ⟨(some 2), none, .w (.alloc [.em, .em])⟩])
  (.seq (.ops [⟨(some 3), none, .w (.alloc [.em, .em])⟩])
  (.seq (.ops [⟨(some 4), none, .q (.fadr 0 (.t 1))⟩, ⟨(some 5), none, .q (.load false 1 (.t 4))⟩, ⟨(some 6), none, .c (.c (.clo 85 [])) [(.t 5)]⟩, ⟨(some 7), none, .q (.fadr 0 (.t 3))⟩, ⟨none, none, .w (.store 1 (.t 7) (.t 6))⟩])
  (.seq (.ops [⟨(some 8), none, .q (.fadr 1 (.t 1))⟩, ⟨(some 9), none, .q (.load false 1 (.t 8))⟩, ⟨(some 10), none, .c (.c (.clo 85 [])) [(.t 9)]⟩, ⟨(some 11), none, .q (.fadr 1 (.t 3))⟩, ⟨none, none, .w (.store 1 (.t 11) (.t 10))⟩])
  (.seq (.ops [⟨(some 12), none, .q (.load true 2 (.t 3))⟩, ⟨none, none, .w (.store 2 (.t 2) (.t 12))⟩])
  .ret)))))
theorem K57 : Tryz.f57.body.bind (comp Tryz.prog) = some A57 ∧ Tryz.f57.ntmps = 13 ∧ Tryz.f57.results.toList.mapM (resB Tryz.prog) = some [.load true 2 (.t 2)] := ⟨by kernel_rfl, by kernel_rfl, by kernel_rfl⟩
theorem R57 (x : Slot) (hx : Slot.ty.ok x) : Ret Tryz.prog 57 [.agg (Slot.ty.cs x)] (.agg (Slot.ty.oc x)) [.un] := by
  obtain ⟨o0, o1, _⟩ := hx
  refine Ret.run Tryz.func57 K57 (by simp) rfl rfl 500 ?_
  simp [A57, iniρ, Slot.cse, over, ex1, Slot.oce, byte_ocl, Ty.byte.frL]
  refine callK.own 500 rfl (by kernel_rfl) (by simp [roc_sc, roc_ro, roc_agg, Slot.cse]) (R85 x.key o0) (Ty.byte.flo x.key) (by simp) rfl ?_
  simp [over, ex1, Slot.oce, byte_ocl, Ty.byte.frL]
  refine callK.own 501 rfl (by kernel_rfl) (by simp [roc_sc, roc_ro, roc_agg, Slot.cse]) (R85 x.b o1) (Ty.byte.flo x.b) (by simp) rfl ?_
  simp [over, ex1, Slot.oce, byte_ocl, Ty.byte.frL]
theorem R27 (xs : List Slot) (hx : Slot.ty.slice.ok xs) : Ret Tryz.prog 27 [.ro (rows Slot.ty.cs xs) xs.length] (.own (rows Slot.ty.oc xs) xs.length 2) [.un] := Ret.toS Slot.ty Tryz.func27 ⟨by kernel_rfl, by kernel_rfl, by kernel_rfl⟩ (by kernel_rfl) (fun x h => R57 x h) (by decide) (by decide) xs hx
/- 67: loop.example/g00464/laws.eqSlot -/
def A67 : AC := (.seq (.ops [⟨(some 2), none, .w (.box (.t 0))⟩, ⟨(some 3), none, .w (.box (.t 1))⟩, ⟨(some 4), none, .q (.mov (.c (.sc (.bool false))))⟩])
  (.seq (.seq (.ops [⟨(some 5), none, .q (.fadr 0 (.t 2))⟩, ⟨(some 6), none, .q (.load false 1 (.t 5))⟩, ⟨(some 7), none, .q (.fadr 0 (.t 3))⟩, ⟨(some 8), none, .q (.load false 1 (.t 7))⟩, ⟨(some 9), none, .c (.c (.clo 95 [])) [(.t 6), (.t 8)]⟩, ⟨(some 10), none, .q (.not (.t 9))⟩])
  (.cond (.t 10) (.seq (.ops [⟨(some 4), none, .q (.mov (.c (.sc (.bool false))))⟩])
  .ret)
  .skip))
  (.seq (.seq (.ops [⟨(some 11), none, .q (.fadr 1 (.t 2))⟩, ⟨(some 12), none, .q (.load false 1 (.t 11))⟩, ⟨(some 13), none, .q (.fadr 1 (.t 3))⟩, ⟨(some 14), none, .q (.load false 1 (.t 13))⟩, ⟨(some 15), none, .c (.c (.clo 95 [])) [(.t 12), (.t 14)]⟩, ⟨(some 16), none, .q (.not (.t 15))⟩])
  (.cond (.t 16) (.seq (.ops [⟨(some 4), none, .q (.mov (.c (.sc (.bool false))))⟩])
  .ret)
  .skip))
  (.seq (.ops [⟨(some 4), none, .q (.mov (.c (.sc (.bool true))))⟩])
  .ret))))
theorem K67 : Tryz.f67.body.bind (comp Tryz.prog) = some A67 ∧ Tryz.f67.ntmps = 17 ∧ Tryz.f67.results.toList.mapM (resB Tryz.prog) = some [.mov (.t 4)] := ⟨by kernel_rfl, by kernel_rfl, by kernel_rfl⟩
theorem R67 (x : Slot) (hx : Slot.ty.ok x) : Ret Tryz.prog 67 [.agg (Slot.ty.cs x), .agg (Slot.ty.cs x)] (.sc (.bool true)) [.un, .un] := by
  obtain ⟨o0, o1, _⟩ := hx
  refine Ret.run Tryz.func67 K67 (by simp) rfl rfl 500 ?_
  simp [A67, iniρ, Slot.cse]
  refine callK.ro 0 rfl (by kernel_rfl) (by simp [roc_sc, roc_ro, roc_agg, Slot.cse]) (R95 x.key o0) rfl rfl rfl ?_
  simp [Slot.cse]
  refine callK.ro 0 rfl (by kernel_rfl) (by simp [roc_sc, roc_ro, roc_agg, Slot.cse]) (R95 x.b o1) rfl rfl rfl ?_
  simp [Slot.cse]
theorem R33 (xs : List Slot) (hx : Slot.ty.slice.ok xs) : Ret Tryz.prog 33 [.ro (rows Slot.ty.cs xs) xs.length, .ro (rows Slot.ty.cs xs) xs.length] (.sc (.bool true)) [.un, .un] := Ret.eqS mixed Slot.ty (agg := true) Tryz.func33 ⟨by kernel_rfl, by kernel_rfl, by kernel_rfl⟩ (by kernel_rfl) (by simp) xs (fun x h => R67 x (hx.2 x h)) (Slot.ty.lenb (by decide) hx)
/- 4: loop.example/g00464/laws.szRun -/
def A4 : AC := (.seq (.ops [⟨(some 2), none, .w (.box (.t 0))⟩, ⟨(some 4), none, .q (.mov (.c (.sc (.int .i64 0))))⟩])
  (.seq (.ops [⟨(some 5), none, .q (.fadr 0 (.t 2))⟩, ⟨(some 6), none, .q (.load true 4 (.t 5))⟩, ⟨(some 7), none, .q (.mov (.t 1))⟩, ⟨(some 8), none, .c (.c (.clo 13 [])) [(.t 6), (.t 7)]⟩, ⟨(some 1), none, .q (.mov (.t 8))⟩])
  (.seq (.seq (.ops [⟨(some 9), none, .q (.mov (.t 1))⟩, ⟨(some 10), none, .q (.bin .lss (.t 9) (.c (.sc (.int .i64 0))))⟩])
  (.cond (.t 10) (.seq (.ops [⟨(some 4), none, .q (.mov (.c (.sc (.int .i64 (-1)))))⟩])
  .ret)
  .skip))
  (.seq (.ops [⟨(some 11), none, .q (.fadr 4 (.t 2))⟩, ⟨(some 12), none, .q (.load true 2 (.t 11))⟩, ⟨(some 13), none, .q (.mov (.t 1))⟩, ⟨(some 14), none, .c (.c (.clo 14 [])) [(.t 12), (.t 13)]⟩, ⟨(some 1), none, .q (.mov (.t 14))⟩])
  (.seq (.seq (.ops [⟨(some 15), none, .q (.mov (.t 1))⟩, ⟨(some 16), none, .q (.bin .lss (.t 15) (.c (.sc (.int .i64 0))))⟩])
  (.cond (.t 16) (.seq (.ops [⟨(some 4), none, .q (.mov (.c (.sc (.int .i64 (-1)))))⟩])
  .ret)
  .skip))
  (.seq (.ops [⟨(some 17), none, .q (.fadr 8 (.t 2))⟩, ⟨(some 18), none, .q (.load false 1 (.t 17))⟩, ⟨(some 19), none, .q (.mov (.t 1))⟩, ⟨(some 20), none, .c (.c (.clo 15 [])) [(.t 18), (.t 19)]⟩, ⟨(some 1), none, .q (.mov (.t 20))⟩])
  (.seq (.seq (.ops [⟨(some 21), none, .q (.mov (.t 1))⟩, ⟨(some 22), none, .q (.bin .lss (.t 21) (.c (.sc (.int .i64 0))))⟩])
  (.cond (.t 22) (.seq (.ops [⟨(some 4), none, .q (.mov (.c (.sc (.int .i64 (-1)))))⟩])
  .ret)
  .skip))
  (.seq (.ops [⟨(some 23), none, .q (.fadr 9 (.t 2))⟩, ⟨(some 24), none, .q (.load false 1 (.t 23))⟩, ⟨(some 25), none, .q (.mov (.t 1))⟩, ⟨(some 26), none, .c (.c (.clo 16 [])) [(.t 24), (.t 25)]⟩, ⟨(some 1), none, .q (.mov (.t 26))⟩])
  (.seq (.seq (.ops [⟨(some 27), none, .q (.mov (.t 1))⟩, ⟨(some 28), none, .q (.bin .lss (.t 27) (.c (.sc (.int .i64 0))))⟩])
  (.cond (.t 28) (.seq (.ops [⟨(some 4), none, .q (.mov (.c (.sc (.int .i64 (-1)))))⟩])
  .ret)
  .skip))
  (.seq (.ops [⟨(some 29), none, .q (.fadr 10 (.t 2))⟩, ⟨(some 30), none, .q (.load false 1 (.t 29))⟩, ⟨(some 31), none, .q (.mov (.t 1))⟩, ⟨(some 32), none, .c (.c (.clo 17 [])) [(.t 30), (.t 31)]⟩, ⟨(some 1), none, .q (.mov (.t 32))⟩])
  (.seq (.seq (.ops [⟨(some 33), none, .q (.mov (.t 1))⟩, ⟨(some 34), none, .q (.bin .lss (.t 33) (.c (.sc (.int .i64 0))))⟩])
  (.cond (.t 34) (.seq (.ops [⟨(some 4), none, .q (.mov (.c (.sc (.int .i64 (-1)))))⟩])
  .ret)
  .skip))
  (.seq (.ops [⟨(some 35), none, .q (.fadr 11 (.t 2))⟩, ⟨(some 36), none, .q (.load false 1 (.t 35))⟩, ⟨(some 37), none, .q (.mov (.t 1))⟩, ⟨(some 38), none, .c (.c (.clo 18 [])) [(.t 36), (.t 37)]⟩, ⟨(some 1), none, .q (.mov (.t 38))⟩])
  (.seq (.seq (.ops [⟨(some 39), none, .q (.mov (.t 1))⟩, ⟨(some 40), none, .q (.bin .lss (.t 39) (.c (.sc (.int .i64 0))))⟩])
  (.cond (.t 40) (.seq (.ops [⟨(some 4), none, .q (.mov (.c (.sc (.int .i64 (-1)))))⟩])
  .ret)
  .skip))
  (.seq (.ops [⟨(some 41), none, .q (.mov (.t 1))⟩, ⟨(some 4), none, .q (.mov (.t 41))⟩])
  .ret))))))))))))))
theorem K4 : Tryz.f4.body.bind (comp Tryz.prog) = some A4 ∧ Tryz.f4.ntmps = 42 ∧ Tryz.f4.results.toList.mapM (resB Tryz.prog) = some [.mov (.t 4)] := ⟨by kernel_rfl, by kernel_rfl, by kernel_rfl⟩
theorem R4 (x : Run) (hx : Run.ty.ok x) : Sz Tryz.prog 4 (.agg (Run.ty.cs x)) (Run.ty.wt x) := by
  intro l h0 h1
  obtain ⟨o0, o1, o2, o3, o4, o5, o6, o7, _⟩ := hx
  obtain ⟨m0, e0, q0⟩ := R13 x.w o0 l (by omega) (by omega)
  by_cases n0 : m0 < 0
  · refine ⟨-1, .inl (by decide), ?_⟩
    refine Ret.run Tryz.func4 K4 (by simp) rfl rfl 500 ?_
    simp [A4, iniρ, Run.cse, World.cse, Plan.cse, n0]
    refine callK.ro 0 rfl (by kernel_rfl) (by simp [roc_sc, roc_ro, roc_agg, Run.cse, World.cse, Plan.cse]) q0 rfl rfl rfl ?_
    simp [n0, Run.cse, World.cse, Plan.cse]
  have e0 : m0 = l - ((World.ty.wt x.w : Nat) : Int) := e0.resolve_left n0
  obtain ⟨m1, e1, q1⟩ := R14 x.p o1 m0 (by omega) (by omega)
  by_cases n1 : m1 < 0
  · refine ⟨-1, .inl (by decide), ?_⟩
    refine Ret.run Tryz.func4 K4 (by simp) rfl rfl 500 ?_
    simp [A4, iniρ, Run.cse, World.cse, Plan.cse, n0, n1]
    refine callK.ro 0 rfl (by kernel_rfl) (by simp [roc_sc, roc_ro, roc_agg, Run.cse, World.cse, Plan.cse]) q0 rfl rfl rfl ?_
    simp [n0, n1, Run.cse, World.cse, Plan.cse]
    refine callK.ro 0 rfl (by kernel_rfl) (by simp [roc_sc, roc_ro, roc_agg, Run.cse, World.cse, Plan.cse]) q1 rfl rfl rfl ?_
    simp [n0, n1, Run.cse, World.cse, Plan.cse]
  have e1 : m1 = m0 - ((Plan.ty.wt x.p : Nat) : Int) := e1.resolve_left n1
  obtain ⟨m4, e4, q4⟩ := R15 x.made o4 m1 (by omega) (by omega)
  by_cases n4 : m4 < 0
  · refine ⟨-1, .inl (by decide), ?_⟩
    refine Ret.run Tryz.func4 K4 (by simp) rfl rfl 500 ?_
    simp [A4, iniρ, Run.cse, World.cse, Plan.cse, n0, n1, n4]
    refine callK.ro 0 rfl (by kernel_rfl) (by simp [roc_sc, roc_ro, roc_agg, Run.cse, World.cse, Plan.cse]) q0 rfl rfl rfl ?_
    simp [n0, n1, n4, Run.cse, World.cse, Plan.cse]
    refine callK.ro 0 rfl (by kernel_rfl) (by simp [roc_sc, roc_ro, roc_agg, Run.cse, World.cse, Plan.cse]) q1 rfl rfl rfl ?_
    simp [n0, n1, n4, Run.cse, World.cse, Plan.cse]
    refine callK.ro 0 rfl (by kernel_rfl) (by simp [roc_sc, roc_ro, roc_agg, Run.cse, World.cse, Plan.cse]) q4 rfl rfl rfl ?_
    simp [n0, n1, n4, Run.cse, World.cse, Plan.cse]
  have e4 : m4 = m1 - ((x.made.length + wtL Made.ty.wt x.made : Nat) : Int) := e4.resolve_left n4
  obtain ⟨m5, e5, q5⟩ := R16 x.marks o5 m4 (by omega) (by omega)
  by_cases n5 : m5 < 0
  · refine ⟨-1, .inl (by decide), ?_⟩
    refine Ret.run Tryz.func4 K4 (by simp) rfl rfl 500 ?_
    simp [A4, iniρ, Run.cse, World.cse, Plan.cse, n0, n1, n4, n5]
    refine callK.ro 0 rfl (by kernel_rfl) (by simp [roc_sc, roc_ro, roc_agg, Run.cse, World.cse, Plan.cse]) q0 rfl rfl rfl ?_
    simp [n0, n1, n4, n5, Run.cse, World.cse, Plan.cse]
    refine callK.ro 0 rfl (by kernel_rfl) (by simp [roc_sc, roc_ro, roc_agg, Run.cse, World.cse, Plan.cse]) q1 rfl rfl rfl ?_
    simp [n0, n1, n4, n5, Run.cse, World.cse, Plan.cse]
    refine callK.ro 0 rfl (by kernel_rfl) (by simp [roc_sc, roc_ro, roc_agg, Run.cse, World.cse, Plan.cse]) q4 rfl rfl rfl ?_
    simp [n0, n1, n4, n5, Run.cse, World.cse, Plan.cse]
    refine callK.ro 0 rfl (by kernel_rfl) (by simp [roc_sc, roc_ro, roc_agg, Run.cse, World.cse, Plan.cse]) q5 rfl rfl rfl ?_
    simp [n0, n1, n4, n5, Run.cse, World.cse, Plan.cse]
  have e5 : m5 = m4 - ((x.marks.length + wtL Mark.ty.wt x.marks : Nat) : Int) := e5.resolve_left n5
  obtain ⟨m6, e6, q6⟩ := R17 x.going o6 m5 (by omega) (by omega)
  by_cases n6 : m6 < 0
  · refine ⟨-1, .inl (by decide), ?_⟩
    refine Ret.run Tryz.func4 K4 (by simp) rfl rfl 500 ?_
    simp [A4, iniρ, Run.cse, World.cse, Plan.cse, n0, n1, n4, n5, n6]
    refine callK.ro 0 rfl (by kernel_rfl) (by simp [roc_sc, roc_ro, roc_agg, Run.cse, World.cse, Plan.cse]) q0 rfl rfl rfl ?_
    simp [n0, n1, n4, n5, n6, Run.cse, World.cse, Plan.cse]
    refine callK.ro 0 rfl (by kernel_rfl) (by simp [roc_sc, roc_ro, roc_agg, Run.cse, World.cse, Plan.cse]) q1 rfl rfl rfl ?_
    simp [n0, n1, n4, n5, n6, Run.cse, World.cse, Plan.cse]
    refine callK.ro 0 rfl (by kernel_rfl) (by simp [roc_sc, roc_ro, roc_agg, Run.cse, World.cse, Plan.cse]) q4 rfl rfl rfl ?_
    simp [n0, n1, n4, n5, n6, Run.cse, World.cse, Plan.cse]
    refine callK.ro 0 rfl (by kernel_rfl) (by simp [roc_sc, roc_ro, roc_agg, Run.cse, World.cse, Plan.cse]) q5 rfl rfl rfl ?_
    simp [n0, n1, n4, n5, n6, Run.cse, World.cse, Plan.cse]
    refine callK.ro 0 rfl (by kernel_rfl) (by simp [roc_sc, roc_ro, roc_agg, Run.cse, World.cse, Plan.cse]) q6 rfl rfl rfl ?_
    simp [n0, n1, n4, n5, n6, Run.cse, World.cse, Plan.cse]
  have e6 : m6 = m5 - ((x.going.length + wtL Ty.str.wt x.going : Nat) : Int) := e6.resolve_left n6
  obtain ⟨m7, e7, q7⟩ := R18 x.cache o7 m6 (by omega) (by omega)
  by_cases n7 : m7 < 0
  · refine ⟨-1, .inl (by decide), ?_⟩
    refine Ret.run Tryz.func4 K4 (by simp) rfl rfl 500 ?_
    simp [A4, iniρ, Run.cse, World.cse, Plan.cse, n0, n1, n4, n5, n6, n7]
    refine callK.ro 0 rfl (by kernel_rfl) (by simp [roc_sc, roc_ro, roc_agg, Run.cse, World.cse, Plan.cse]) q0 rfl rfl rfl ?_
    simp [n0, n1, n4, n5, n6, n7, Run.cse, World.cse, Plan.cse]
    refine callK.ro 0 rfl (by kernel_rfl) (by simp [roc_sc, roc_ro, roc_agg, Run.cse, World.cse, Plan.cse]) q1 rfl rfl rfl ?_
    simp [n0, n1, n4, n5, n6, n7, Run.cse, World.cse, Plan.cse]
    refine callK.ro 0 rfl (by kernel_rfl) (by simp [roc_sc, roc_ro, roc_agg, Run.cse, World.cse, Plan.cse]) q4 rfl rfl rfl ?_
    simp [n0, n1, n4, n5, n6, n7, Run.cse, World.cse, Plan.cse]
    refine callK.ro 0 rfl (by kernel_rfl) (by simp [roc_sc, roc_ro, roc_agg, Run.cse, World.cse, Plan.cse]) q5 rfl rfl rfl ?_
    simp [n0, n1, n4, n5, n6, n7, Run.cse, World.cse, Plan.cse]
    refine callK.ro 0 rfl (by kernel_rfl) (by simp [roc_sc, roc_ro, roc_agg, Run.cse, World.cse, Plan.cse]) q6 rfl rfl rfl ?_
    simp [n0, n1, n4, n5, n6, n7, Run.cse, World.cse, Plan.cse]
    refine callK.ro 0 rfl (by kernel_rfl) (by simp [roc_sc, roc_ro, roc_agg, Run.cse, World.cse, Plan.cse]) q7 rfl rfl rfl ?_
    simp [n0, n1, n4, n5, n6, n7, Run.cse, World.cse, Plan.cse]
  have e7 : m7 = m6 - ((x.cache.length + wtL Slot.ty.wt x.cache : Nat) : Int) := e7.resolve_left n7
  refine ⟨m7, .inr ?_, ?_⟩
  · rw [Run.wte]; omega
  refine Ret.run Tryz.func4 K4 (by simp) rfl rfl 500 ?_
  simp [A4, iniρ, Run.cse, World.cse, Plan.cse, n0, n1, n4, n5, n6, n7]
  refine callK.ro 0 rfl (by kernel_rfl) (by simp [roc_sc, roc_ro, roc_agg, Run.cse, World.cse, Plan.cse]) q0 rfl rfl rfl ?_
  simp [n0, n1, n4, n5, n6, n7, Run.cse, World.cse, Plan.cse]
  refine callK.ro 0 rfl (by kernel_rfl) (by simp [roc_sc, roc_ro, roc_agg, Run.cse, World.cse, Plan.cse]) q1 rfl rfl rfl ?_
  simp [n0, n1, n4, n5, n6, n7, Run.cse, World.cse, Plan.cse]
  refine callK.ro 0 rfl (by kernel_rfl) (by simp [roc_sc, roc_ro, roc_agg, Run.cse, World.cse, Plan.cse]) q4 rfl rfl rfl ?_
  simp [n0, n1, n4, n5, n6, n7, Run.cse, World.cse, Plan.cse]
  refine callK.ro 0 rfl (by kernel_rfl) (by simp [roc_sc, roc_ro, roc_agg, Run.cse, World.cse, Plan.cse]) q5 rfl rfl rfl ?_
  simp [n0, n1, n4, n5, n6, n7, Run.cse, World.cse, Plan.cse]
  refine callK.ro 0 rfl (by kernel_rfl) (by simp [roc_sc, roc_ro, roc_agg, Run.cse, World.cse, Plan.cse]) q6 rfl rfl rfl ?_
  simp [n0, n1, n4, n5, n6, n7, Run.cse, World.cse, Plan.cse]
  refine callK.ro 0 rfl (by kernel_rfl) (by simp [roc_sc, roc_ro, roc_agg, Run.cse, World.cse, Plan.cse]) q7 rfl rfl rfl ?_
  simp [n0, n1, n4, n5, n6, n7, Run.cse, World.cse, Plan.cse]
/- 6: loop.example/g00464/laws.toRun -/
def A6 : AC := (.seq (.ops [⟨(some 1), none, .w (.box (.t 0))⟩, ⟨(some 2), none, .w (.alloc [.em, .em, .em, .em, .em, .em, (.sc (.int .i64 0)), (.sc (.bool false)), .em, .em, .em, .em])⟩])
  (.seq (.ops [⟨(some 3), none, .w (.alloc [.em, .em, .em, .em, .em, .em, (.sc (.int .i64 0)), (.sc (.bool false)), .em, .em, .em, .em])⟩])
  (.seq (.ops [⟨(some 4), none, .q (.fadr 0 (.t 1))⟩, ⟨(some 5), none, .q (.load true 4 (.t 4))⟩, ⟨(some 6), none, .c (.c (.clo 22 [])) [(.t 5)]⟩, ⟨(some 7), none, .q (.fadr 0 (.t 3))⟩, ⟨none, none, .w (.store 4 (.t 7) (.t 6))⟩])
  (.seq (.ops [⟨(some 8), none, .q (.fadr 4 (.t 1))⟩, ⟨(some 9), none, .q (.load true 2 (.t 8))⟩, ⟨(some 10), none, .c (.c (.clo 23 [])) [(.t 9)]⟩, ⟨(some 11), none, .q (.fadr 4 (.t 3))⟩, ⟨none, none, .w (.store 2 (.t 11) (.t 10))⟩])
  (.seq (.ops [⟨(some 12), none, .q (.fadr 6 (.t 1))⟩, ⟨(some 13), none, .q (.load false 1 (.t 12))⟩, ⟨(some 14), none, .q (.fadr 6 (.t 3))⟩, ⟨none, none, .w (.store 1 (.t 14) (.t 13))⟩])
  (.seq (.ops [⟨(some 15), none, .q (.fadr 7 (.t 1))⟩, ⟨(some 16), none, .q (.load false 1 (.t 15))⟩, ⟨(some 17), none, .q (.fadr 7 (.t 3))⟩, ⟨none, none, .w (.store 1 (.t 17) (.t 16))⟩])
  (.seq (.ops [⟨(some 18), none, .q (.fadr 8 (.t 1))⟩, ⟨(some 19), none, .q (.load false 1 (.t 18))⟩, ⟨(some 20), none, .c (.c (.clo 24 [])) [(.t 19)]⟩, ⟨(some 21), none, .q (.fadr 8 (.t 3))⟩, ⟨none, none, .w (.store 1 (.t 21) (.t 20))⟩])
  (.seq (.ops [⟨(some 22), none, .q (.fadr 9 (.t 1))⟩, ⟨(some 23), none, .q (.load false 1 (.t 22))⟩, ⟨(some 24), none, .c (.c (.clo 25 [])) [(.t 23)]⟩, ⟨(some 25), none, .q (.fadr 9 (.t 3))⟩, ⟨none, none, .w (.store 1 (.t 25) (.t 24))⟩])
  (.seq (.ops [⟨(some 26), none, .q (.fadr 10 (.t 1))⟩, ⟨(some 27), none, .q (.load false 1 (.t 26))⟩, ⟨(some 28), none, .c (.c (.clo 26 [])) [(.t 27)]⟩, ⟨(some 29), none, .q (.fadr 10 (.t 3))⟩, ⟨none, none, .w (.store 1 (.t 29) (.t 28))⟩])
  (.seq (.ops [⟨(some 30), none, .q (.fadr 11 (.t 1))⟩, ⟨(some 31), none, .q (.load false 1 (.t 30))⟩, ⟨(some 32), none, .c (.c (.clo 27 [])) [(.t 31)]⟩, ⟨(some 33), none, .q (.fadr 11 (.t 3))⟩, ⟨none, none, .w (.store 1 (.t 33) (.t 32))⟩])
  (.seq (.ops [⟨(some 34), none, .q (.load true 12 (.t 3))⟩, ⟨none, none, .w (.store 12 (.t 2) (.t 34))⟩])
  .ret)))))))))))
theorem K6 : Tryz.f6.body.bind (comp Tryz.prog) = some A6 ∧ Tryz.f6.ntmps = 35 ∧ Tryz.f6.results.toList.mapM (resB Tryz.prog) = some [.load true 12 (.t 2)] := ⟨by kernel_rfl, by kernel_rfl, by kernel_rfl⟩
theorem R6 (x : Run) (hx : Run.ty.ok x) : Ret Tryz.prog 6 [.agg (Run.ty.cs x)] (.agg (Run.ty.oc x)) [.un] := by
  obtain ⟨o0, o1, o2, o3, o4, o5, o6, o7, _⟩ := hx
  refine Ret.run Tryz.func6 K6 (by simp) rfl rfl 500 ?_
  simp [A6, iniρ, Run.cse, World.cse, Plan.cse, over, ex1, Run.oce, World.oce, Plan.oce, str_ocl, strs_ocl, Pack.ocl, Pack.frL, Rule.ocl, Rule.frL, File.ocl, File.frL, Env.ocl, Env.frL, Ty.str.frL, Ty.str.slice.frL, Made.ocl, Made.frL, Mark.ocl, Mark.frL, Slot.ocl, Slot.frL]
  refine callK.ro 500 rfl (by kernel_rfl) (by simp [roc_sc, roc_ro, roc_agg, Run.cse, World.cse, Plan.cse]) (R22 x.w o0) (by simpa [flt] using World.ty.flL x.w) (by simp [inst, instL, World.oce, upd_app]; exact ⟨rfl, rfl⟩) rfl ?_
  simp [over, ex1, Run.oce, World.oce, Plan.oce, str_ocl, strs_ocl, Pack.ocl, Pack.frL, Rule.ocl, Rule.frL, File.ocl, File.frL, Env.ocl, Env.frL, Ty.str.frL, Ty.str.slice.frL, Made.ocl, Made.frL, Mark.ocl, Mark.frL, Slot.ocl, Slot.frL]
  refine callK.ro 501 rfl (by kernel_rfl) (by simp [roc_sc, roc_ro, roc_agg, Run.cse, World.cse, Plan.cse]) (R23 x.p o1) (by simpa [flt] using Plan.ty.flL x.p) (by simp [inst, instL, Plan.oce, upd_app]; exact ⟨rfl, rfl⟩) rfl ?_
  simp [over, ex1, Run.oce, World.oce, Plan.oce, str_ocl, strs_ocl, Pack.ocl, Pack.frL, Rule.ocl, Rule.frL, File.ocl, File.frL, Env.ocl, Env.frL, Ty.str.frL, Ty.str.slice.frL, Made.ocl, Made.frL, Mark.ocl, Mark.frL, Slot.ocl, Slot.frL]
  refine callK.own 504 rfl (by kernel_rfl) (by simp [roc_sc, roc_ro, roc_agg, Run.cse, World.cse, Plan.cse]) (R24 x.made o4) (Made.ty.flo x.made) (by simp) rfl ?_
  simp [over, ex1, Run.oce, World.oce, Plan.oce, str_ocl, strs_ocl, Pack.ocl, Pack.frL, Rule.ocl, Rule.frL, File.ocl, File.frL, Env.ocl, Env.frL, Ty.str.frL, Ty.str.slice.frL, Made.ocl, Made.frL, Mark.ocl, Mark.frL, Slot.ocl, Slot.frL]
  refine callK.own 505 rfl (by kernel_rfl) (by simp [roc_sc, roc_ro, roc_agg, Run.cse, World.cse, Plan.cse]) (R25 x.marks o5) (Mark.ty.flo x.marks) (by simp) rfl ?_
  simp [over, ex1, Run.oce, World.oce, Plan.oce, str_ocl, strs_ocl, Pack.ocl, Pack.frL, Rule.ocl, Rule.frL, File.ocl, File.frL, Env.ocl, Env.frL, Ty.str.frL, Ty.str.slice.frL, Made.ocl, Made.frL, Mark.ocl, Mark.frL, Slot.ocl, Slot.frL]
  refine callK.own 506 rfl (by kernel_rfl) (by simp [roc_sc, roc_ro, roc_agg, Run.cse, World.cse, Plan.cse]) (R26 x.going o6) (Ty.str.flo x.going) (by simp) rfl ?_
  simp [over, ex1, Run.oce, World.oce, Plan.oce, str_ocl, strs_ocl, Pack.ocl, Pack.frL, Rule.ocl, Rule.frL, File.ocl, File.frL, Env.ocl, Env.frL, Ty.str.frL, Ty.str.slice.frL, Made.ocl, Made.frL, Mark.ocl, Mark.frL, Slot.ocl, Slot.frL]
  refine callK.own 507 rfl (by kernel_rfl) (by simp [roc_sc, roc_ro, roc_agg, Run.cse, World.cse, Plan.cse]) (R27 x.cache o7) (Slot.ty.flo x.cache) (by simp) rfl ?_
  simp [over, ex1, Run.oce, World.oce, Plan.oce, str_ocl, strs_ocl, Pack.ocl, Pack.frL, Rule.ocl, Rule.frL, File.ocl, File.frL, Env.ocl, Env.frL, Ty.str.frL, Ty.str.slice.frL, Made.ocl, Made.frL, Mark.ocl, Mark.frL, Slot.ocl, Slot.frL]
/- 9: loop.example/g00464/laws.eqRun -/
def A9 : AC := (.seq (.ops [⟨(some 2), none, .w (.box (.t 0))⟩, ⟨(some 3), none, .w (.box (.t 1))⟩, ⟨(some 4), none, .q (.mov (.c (.sc (.bool false))))⟩])
  (.seq (.seq (.ops [⟨(some 5), none, .q (.fadr 0 (.t 2))⟩, ⟨(some 6), none, .q (.load true 4 (.t 5))⟩, ⟨(some 7), none, .q (.fadr 0 (.t 3))⟩, ⟨(some 8), none, .q (.load true 4 (.t 7))⟩, ⟨(some 9), none, .c (.c (.clo 29 [])) [(.t 6), (.t 8)]⟩, ⟨(some 10), none, .q (.not (.t 9))⟩])
  (.cond (.t 10) (.seq (.ops [⟨(some 4), none, .q (.mov (.c (.sc (.bool false))))⟩])
  .ret)
  .skip))
  (.seq (.seq (.ops [⟨(some 11), none, .q (.fadr 4 (.t 2))⟩, ⟨(some 12), none, .q (.load true 2 (.t 11))⟩, ⟨(some 13), none, .q (.fadr 4 (.t 3))⟩, ⟨(some 14), none, .q (.load true 2 (.t 13))⟩, ⟨(some 15), none, .c (.c (.clo 30 [])) [(.t 12), (.t 14)]⟩, ⟨(some 16), none, .q (.not (.t 15))⟩])
  (.cond (.t 16) (.seq (.ops [⟨(some 4), none, .q (.mov (.c (.sc (.bool false))))⟩])
  .ret)
  .skip))
  (.seq (.seq (.ops [⟨(some 17), none, .q (.fadr 6 (.t 2))⟩, ⟨(some 18), none, .q (.load false 1 (.t 17))⟩, ⟨(some 19), none, .q (.fadr 6 (.t 3))⟩, ⟨(some 20), none, .q (.load false 1 (.t 19))⟩, ⟨(some 21), none, .q (.bin .neq (.t 18) (.t 20))⟩])
  (.cond (.t 21) (.seq (.ops [⟨(some 4), none, .q (.mov (.c (.sc (.bool false))))⟩])
  .ret)
  .skip))
  (.seq (.seq (.ops [⟨(some 22), none, .q (.fadr 7 (.t 2))⟩, ⟨(some 23), none, .q (.load false 1 (.t 22))⟩, ⟨(some 24), none, .q (.fadr 7 (.t 3))⟩, ⟨(some 25), none, .q (.load false 1 (.t 24))⟩, ⟨(some 26), none, .q (.beq true (.t 23) (.t 25))⟩])
  (.cond (.t 26) (.seq (.ops [⟨(some 4), none, .q (.mov (.c (.sc (.bool false))))⟩])
  .ret)
  .skip))
  (.seq (.seq (.ops [⟨(some 27), none, .q (.fadr 8 (.t 2))⟩, ⟨(some 28), none, .q (.load false 1 (.t 27))⟩, ⟨(some 29), none, .q (.fadr 8 (.t 3))⟩, ⟨(some 30), none, .q (.load false 1 (.t 29))⟩, ⟨(some 31), none, .c (.c (.clo 31 [])) [(.t 28), (.t 30)]⟩, ⟨(some 32), none, .q (.not (.t 31))⟩])
  (.cond (.t 32) (.seq (.ops [⟨(some 4), none, .q (.mov (.c (.sc (.bool false))))⟩])
  .ret)
  .skip))
  (.seq (.seq (.ops [⟨(some 33), none, .q (.fadr 9 (.t 2))⟩, ⟨(some 34), none, .q (.load false 1 (.t 33))⟩, ⟨(some 35), none, .q (.fadr 9 (.t 3))⟩, ⟨(some 36), none, .q (.load false 1 (.t 35))⟩, ⟨(some 37), none, .c (.c (.clo 32 [])) [(.t 34), (.t 36)]⟩, ⟨(some 38), none, .q (.not (.t 37))⟩])
  (.cond (.t 38) (.seq (.ops [⟨(some 4), none, .q (.mov (.c (.sc (.bool false))))⟩])
  .ret)
  .skip))
  (.seq (.seq (.ops [⟨(some 39), none, .q (.fadr 10 (.t 2))⟩, ⟨(some 40), none, .q (.load false 1 (.t 39))⟩, ⟨(some 41), none, .q (.fadr 10 (.t 3))⟩, ⟨(some 42), none, .q (.load false 1 (.t 41))⟩, ⟨(some 43), none, .c (.c (.clo 8 [])) [(.t 40), (.t 42)]⟩, ⟨(some 44), none, .q (.not (.t 43))⟩])
  (.cond (.t 44) (.seq (.ops [⟨(some 4), none, .q (.mov (.c (.sc (.bool false))))⟩])
  .ret)
  .skip))
  (.seq (.seq (.ops [⟨(some 45), none, .q (.fadr 11 (.t 2))⟩, ⟨(some 46), none, .q (.load false 1 (.t 45))⟩, ⟨(some 47), none, .q (.fadr 11 (.t 3))⟩, ⟨(some 48), none, .q (.load false 1 (.t 47))⟩, ⟨(some 49), none, .c (.c (.clo 33 [])) [(.t 46), (.t 48)]⟩, ⟨(some 50), none, .q (.not (.t 49))⟩])
  (.cond (.t 50) (.seq (.ops [⟨(some 4), none, .q (.mov (.c (.sc (.bool false))))⟩])
  .ret)
  .skip))
  (.seq (.ops [⟨(some 4), none, .q (.mov (.c (.sc (.bool true))))⟩])
  .ret))))))))))
theorem K9 : Tryz.f9.body.bind (comp Tryz.prog) = some A9 ∧ Tryz.f9.ntmps = 51 ∧ Tryz.f9.results.toList.mapM (resB Tryz.prog) = some [.mov (.t 4)] := ⟨by kernel_rfl, by kernel_rfl, by kernel_rfl⟩
theorem R9 (x : Run) (hx : Run.ty.ok x) : Ret Tryz.prog 9 [.agg (Run.ty.cs x), .agg (Run.ty.cs x)] (.sc (.bool true)) [.un, .un] := by
  obtain ⟨o0, o1, o2, o3, o4, o5, o6, o7, _⟩ := hx
  refine Ret.run Tryz.func9 K9 (by simp) rfl rfl 500 ?_
  simp [A9, iniρ, Run.cse, World.cse, Plan.cse]
  refine callK.ro 0 rfl (by kernel_rfl) (by simp [roc_sc, roc_ro, roc_agg, Run.cse, World.cse, Plan.cse]) (R29 x.w o0) rfl rfl rfl ?_
  simp [Run.cse, World.cse, Plan.cse]
  refine callK.ro 0 rfl (by kernel_rfl) (by simp [roc_sc, roc_ro, roc_agg, Run.cse, World.cse, Plan.cse]) (R30 x.p o1) rfl rfl rfl ?_
  simp [Run.cse, World.cse, Plan.cse]
  refine callK.ro 0 rfl (by kernel_rfl) (by simp [roc_sc, roc_ro, roc_agg, Run.cse, World.cse, Plan.cse]) (R31 x.made o4) rfl rfl rfl ?_
  simp [Run.cse, World.cse, Plan.cse]
  refine callK.ro 0 rfl (by kernel_rfl) (by simp [roc_sc, roc_ro, roc_agg, Run.cse, World.cse, Plan.cse]) (R32 x.marks o5) rfl rfl rfl ?_
  simp [Run.cse, World.cse, Plan.cse]
  refine callK.ro 0 rfl (by kernel_rfl) (by simp [roc_sc, roc_ro, roc_agg, Run.cse, World.cse, Plan.cse]) (R8 x.going o6) rfl rfl rfl ?_
  simp [Run.cse, World.cse, Plan.cse]
  refine callK.ro 0 rfl (by kernel_rfl) (by simp [roc_sc, roc_ro, roc_agg, Run.cse, World.cse, Plan.cse]) (R33 x.cache o7) rfl rfl rfl ?_
  simp [Run.cse, World.cse, Plan.cse]
end Go.Proofs.YtaknfalbmblagaaGreat.Am
