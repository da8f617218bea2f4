/- The functions of the program, each by its contract: Plumb; no condition. -/
import Derived.Test.YtaknfalbmblagaaDoorProg
import Derived.Test.YtaknfalbmblagaaDoorAmZ
import Derived.Test.YtaknfalbmblagaaDoorAmP
import Derived.Test.YtaknfalbmblagaaDoorBase
import Derived.Test.YtaknfalbmblagaaDoorTypes
import Derived.KernelRfl
namespace Go.Proofs.YtaknfalbmblagaaDoor.Am
open Go Go.Proofs
set_option linter.unusedSimpArgs false
set_option linter.unusedVariables false
attribute [local congr] T_congr callK_congr callWK_congr
attribute [local simp] run_nil run_op0 run_opg run_seq run_cond run_block run_ret run_skip run_skip_after run_skip_blk run_exit run_exit_after run_exit_blk run_loop run_any runS_nil runS_op0 runS_opg runW_nil runW_op0 runW_opg exec_q exec_w exec_c exec_n execW_q execW_w execW_c restW_app hideH_app merge_app wblk rest_app restS_app execS_q execS_c aval dOk upd_app ev_t ev_c setO_some setO_none put_mk pinsOf isIo hasIo sbin endR fin resL one outL out1 clo1 cloL coe coeL shut shut.shutL wantA weff cellsOf fillA deref natOf ρ0_app h0_app plain plain.plainL keep_app keepH_app andThen_normal andThen_ret andThen_exit pop_nil pop_after pop_after_ret pop_after_exit pop_blk pop_blk_ret pop_blk_exit nilA srcOf srcCells keepR_app keepHR_app renA rb
/- 43: loop.example/g00464/laws.eqFile -/
def A43 : AC := (.seq (.ops [⟨(some 2), none, .w (.box (.t 0))⟩, ⟨(some 3), none, .w (.box (.t 1))⟩, ⟨(some 4), none, .q (.mov (.c (.sc (.bool false))))⟩])
  (.seq (.seq (.ops [⟨(some 5), none, .q (.fadr 0 (.t 2))⟩, ⟨(some 6), none, .q (.load false 1 (.t 5))⟩, ⟨(some 7), none, .q (.fadr 0 (.t 3))⟩, ⟨(some 8), none, .q (.load false 1 (.t 7))⟩, ⟨(some 9), none, .q (.bin .neq (.t 6) (.t 8))⟩])
  (.cond (.t 9) (.seq (.ops [⟨(some 4), none, .q (.mov (.c (.sc (.bool false))))⟩])
  .ret)
  .skip))
  (.seq (.seq (.ops [⟨(some 10), none, .q (.fadr 1 (.t 2))⟩, ⟨(some 11), none, .q (.load false 1 (.t 10))⟩, ⟨(some 12), none, .q (.fadr 1 (.t 3))⟩, ⟨(some 13), none, .q (.load false 1 (.t 12))⟩, ⟨(some 14), none, .q (.bin .neq (.t 11) (.t 13))⟩])
  (.cond (.t 14) (.seq (.ops [⟨(some 4), none, .q (.mov (.c (.sc (.bool false))))⟩])
  .ret)
  .skip))
  (.seq (.ops [⟨(some 4), none, .q (.mov (.c (.sc (.bool true))))⟩])
  .ret))))
theorem K43 : Tryd.f43.body.bind (comp Tryd.prog) = some A43 ∧ Tryd.f43.ntmps = 15 ∧ Tryd.f43.results.toList.mapM (resB Tryd.prog) = some [.mov (.t 4)] := ⟨by kernel_rfl, by kernel_rfl, by kernel_rfl⟩
theorem R43 (x : File) (hx : File.ty.ok x) : Ret Tryd.prog 43 [.agg (File.ty.cs x), .agg (File.ty.cs x)] (.sc (.bool true)) [.un, .un] := by
  obtain ⟨o0, o1, _⟩ := hx
  refine Ret.run Tryd.func43 K43 (by simp) rfl rfl 500 ?_
  simp [A43, iniρ, File.cse]
theorem R24 (xs : List File) (hx : File.ty.slice.ok xs) : Ret Tryd.prog 24 [.ro (rows File.ty.cs xs) xs.length, .ro (rows File.ty.cs xs) xs.length] (.sc (.bool true)) [.un, .un] := Ret.eqS mixed File.ty (agg := true) Tryd.func24 ⟨by kernel_rfl, by kernel_rfl, by kernel_rfl⟩ (by kernel_rfl) (by simp) xs (fun x h => R43 x (hx.2 x h)) (File.ty.lenb (by decide) hx)
/- 9: loop.example/g00464/laws.eqMade -/
def A9 : AC := (.seq (.ops [⟨(some 2), none, .w (.box (.t 0))⟩, ⟨(some 3), none, .w (.box (.t 1))⟩, ⟨(some 4), none, .q (.mov (.c (.sc (.bool false))))⟩])
  (.seq (.seq (.ops [⟨(some 5), none, .q (.fadr 0 (.t 2))⟩, ⟨(some 6), none, .q (.load false 1 (.t 5))⟩, ⟨(some 7), none, .q (.fadr 0 (.t 3))⟩, ⟨(some 8), none, .q (.load false 1 (.t 7))⟩, ⟨(some 9), none, .q (.bin .neq (.t 6) (.t 8))⟩])
  (.cond (.t 9) (.seq (.ops [⟨(some 4), none, .q (.mov (.c (.sc (.bool false))))⟩])
  .ret)
  .skip))
  (.seq (.seq (.ops [⟨(some 10), none, .q (.fadr 1 (.t 2))⟩, ⟨(some 11), none, .q (.load false 1 (.t 10))⟩, ⟨(some 12), none, .q (.fadr 1 (.t 3))⟩, ⟨(some 13), none, .q (.load false 1 (.t 12))⟩, ⟨(some 14), none, .c (.c (.clo 24 [])) [(.t 11), (.t 13)]⟩, ⟨(some 15), none, .q (.not (.t 14))⟩])
  (.cond (.t 15) (.seq (.ops [⟨(some 4), none, .q (.mov (.c (.sc (.bool false))))⟩])
  .ret)
  .skip))
  (.seq (.seq (.ops [⟨(some 16), none, .q (.fadr 2 (.t 2))⟩, ⟨(some 17), none, .q (.load false 1 (.t 16))⟩, ⟨(some 18), none, .q (.fadr 2 (.t 3))⟩, ⟨(some 19), none, .q (.load false 1 (.t 18))⟩, ⟨(some 20), none, .q (.bin .neq (.t 17) (.t 19))⟩])
  (.cond (.t 20) (.seq (.ops [⟨(some 4), none, .q (.mov (.c (.sc (.bool false))))⟩])
  .ret)
  .skip))
  (.seq (.ops [⟨(some 4), none, .q (.mov (.c (.sc (.bool true))))⟩])
  .ret)))))
theorem K9 : Tryd.f9.body.bind (comp Tryd.prog) = some A9 ∧ Tryd.f9.ntmps = 21 ∧ Tryd.f9.results.toList.mapM (resB Tryd.prog) = some [.mov (.t 4)] := ⟨by kernel_rfl, by kernel_rfl, by kernel_rfl⟩
theorem R9 (x : Made) (hx : Made.ty.ok x) : Ret Tryd.prog 9 [.agg (Made.ty.cs x), .agg (Made.ty.cs x)] (.sc (.bool true)) [.un, .un] := by
  obtain ⟨o0, o1, o2, _⟩ := hx
  refine Ret.run Tryd.func9 K9 (by simp) rfl rfl 500 ?_
  simp [A9, iniρ, Made.cse]
  refine callK.ro 0 rfl (by kernel_rfl) (by simp [roc_sc, roc_ro, roc_agg, Made.cse]) (R24 x.outs o1) rfl rfl rfl ?_
  simp [Made.cse]
/- 16: loop.example/g00464/laws.szSlot -/
def A16 : AC := (.seq (.ops [⟨(some 2), none, .w (.box (.t 0))⟩, ⟨(some 4), none, .q (.mov (.c (.sc (.int .i64 0))))⟩])
  (.seq (.ops [⟨(some 5), none, .q (.fadr 0 (.t 2))⟩, ⟨(some 6), none, .q (.load false 1 (.t 5))⟩, ⟨(some 7), none, .q (.mov (.t 1))⟩, ⟨(some 8), none, .c (.c (.clo 28 [])) [(.t 6), (.t 7)]⟩, ⟨(some 1), none, .q (.mov (.t 8))⟩])
  (.seq (.seq (.ops [⟨(some 9), none, .q (.mov (.t 1))⟩, ⟨(some 10), none, .q (.bin .lss (.t 9) (.c (.sc (.int .i64 0))))⟩])
  (.cond (.t 10) (.seq (.ops [⟨(some 4), none, .q (.mov (.c (.sc (.int .i64 (-1)))))⟩])
  .ret)
  .skip))
  (.seq (.ops [⟨(some 11), none, .q (.fadr 1 (.t 2))⟩, ⟨(some 12), none, .q (.load false 1 (.t 11))⟩, ⟨(some 13), none, .q (.mov (.t 1))⟩, ⟨(some 14), none, .c (.c (.clo 28 [])) [(.t 12), (.t 13)]⟩, ⟨(some 1), none, .q (.mov (.t 14))⟩])
  (.seq (.seq (.ops [⟨(some 15), none, .q (.mov (.t 1))⟩, ⟨(some 16), none, .q (.bin .lss (.t 15) (.c (.sc (.int .i64 0))))⟩])
  (.cond (.t 16) (.seq (.ops [⟨(some 4), none, .q (.mov (.c (.sc (.int .i64 (-1)))))⟩])
  .ret)
  .skip))
  (.seq (.ops [⟨(some 17), none, .q (.mov (.t 1))⟩, ⟨(some 4), none, .q (.mov (.t 17))⟩])
  .ret))))))
theorem K16 : Tryd.f16.body.bind (comp Tryd.prog) = some A16 ∧ Tryd.f16.ntmps = 18 ∧ Tryd.f16.results.toList.mapM (resB Tryd.prog) = some [.mov (.t 4)] := ⟨by kernel_rfl, by kernel_rfl, by kernel_rfl⟩
theorem R16 (x : Slot) (hx : Slot.ty.ok x) : Sz Tryd.prog 16 (.agg (Slot.ty.cs x)) (Slot.ty.wt x) := by
  intro l h0 h1
  obtain ⟨o0, o1, _⟩ := hx
  obtain ⟨m0, e0, q0⟩ := R28 x.key o0 l (by omega) (by omega)
  by_cases n0 : m0 < 0
  · refine ⟨-1, .inl (by decide), ?_⟩
    refine Ret.run Tryd.func16 K16 (by simp) rfl rfl 500 ?_
    simp [A16, iniρ, Slot.cse, n0]
    refine callK.ro 0 rfl (by kernel_rfl) (by simp [roc_sc, roc_ro, roc_agg, Slot.cse]) q0 rfl rfl rfl ?_
    simp [n0, Slot.cse]
  have e0 : m0 = l - ((x.key.length + wtL Ty.byte.wt x.key : Nat) : Int) := e0.resolve_left n0
  obtain ⟨m1, e1, q1⟩ := R28 x.b o1 m0 (by omega) (by omega)
  by_cases n1 : m1 < 0
  · refine ⟨-1, .inl (by decide), ?_⟩
    refine Ret.run Tryd.func16 K16 (by simp) rfl rfl 500 ?_
    simp [A16, iniρ, Slot.cse, n0, n1]
    refine callK.ro 0 rfl (by kernel_rfl) (by simp [roc_sc, roc_ro, roc_agg, Slot.cse]) q0 rfl rfl rfl ?_
    simp [n0, n1, Slot.cse]
    refine callK.ro 0 rfl (by kernel_rfl) (by simp [roc_sc, roc_ro, roc_agg, Slot.cse]) q1 rfl rfl rfl ?_
    simp [n0, n1, Slot.cse]
  have e1 : m1 = m0 - ((x.b.length + wtL Ty.byte.wt x.b : Nat) : Int) := e1.resolve_left n1
  refine ⟨m1, .inr ?_, ?_⟩
  · rw [Slot.wte]; omega
  refine Ret.run Tryd.func16 K16 (by simp) rfl rfl 500 ?_
  simp [A16, iniρ, Slot.cse, n0, n1]
  refine callK.ro 0 rfl (by kernel_rfl) (by simp [roc_sc, roc_ro, roc_agg, Slot.cse]) q0 rfl rfl rfl ?_
  simp [n0, n1, Slot.cse]
  refine callK.ro 0 rfl (by kernel_rfl) (by simp [roc_sc, roc_ro, roc_agg, Slot.cse]) q1 rfl rfl rfl ?_
  simp [n0, n1, Slot.cse]
theorem R4 (xs : List Slot) (hx : Slot.ty.slice.ok xs) : Sz Tryd.prog 4 (.ro (rows Slot.ty.cs xs) xs.length) (Slot.ty.slice.wt xs) := Sz.slice Slot.ty (agg := true) Tryd.func4 ⟨by kernel_rfl, by kernel_rfl, by kernel_rfl⟩ (by kernel_rfl) (by simp) xs (fun x h => R16 x (hx.2 x h)) (Slot.ty.lenb (by decide) hx)
/- 20: loop.example/g00464/laws.toSlot -/
def A20 : AC := (.seq (.ops [⟨(some 1), none, .w (.box (.t 0))⟩, ⟨(some 2), none, .w (.alloc [.em, .em])⟩])
  (.seq (.ops [⟨(some 3), none, .w (.alloc [.em, .em])⟩])
  (.seq (.ops [⟨(some 4), none, .q (.fadr 0 (.t 1))⟩, ⟨(some 5), none, .q (.load false 1 (.t 4))⟩, ⟨(some 6), none, .c (.c (.clo 7 [])) [(.t 5)]⟩, ⟨(some 7), none, .q (.fadr 0 (.t 3))⟩, ⟨none, none, .w (.store 1 (.t 7) (.t 6))⟩])
  (.seq (.ops [⟨(some 8), none, .q (.fadr 1 (.t 1))⟩, ⟨(some 9), none, .q (.load false 1 (.t 8))⟩, ⟨(some 10), none, .c (.c (.clo 7 [])) [(.t 9)]⟩, ⟨(some 11), none, .q (.fadr 1 (.t 3))⟩, ⟨none, none, .w (.store 1 (.t 11) (.t 10))⟩])
  (.seq (.ops [⟨(some 12), none, .q (.load true 2 (.t 3))⟩, ⟨none, none, .w (.store 2 (.t 2) (.t 12))⟩])
  .ret)))))
theorem K20 : Tryd.f20.body.bind (comp Tryd.prog) = some A20 ∧ Tryd.f20.ntmps = 13 ∧ Tryd.f20.results.toList.mapM (resB Tryd.prog) = some [.load true 2 (.t 2)] := ⟨by kernel_rfl, by kernel_rfl, by kernel_rfl⟩
theorem R20 (x : Slot) (hx : Slot.ty.ok x) : Ret Tryd.prog 20 [.agg (Slot.ty.cs x)] (.agg (Slot.ty.oc x)) [.un] := by
  obtain ⟨o0, o1, _⟩ := hx
  refine Ret.run Tryd.func20 K20 (by simp) rfl rfl 500 ?_
  simp [A20, iniρ, Slot.cse, over, ex1, Slot.oce, byte_ocl, Ty.byte.frL]
  refine callK.own 500 rfl (by kernel_rfl) (by simp [roc_sc, roc_ro, roc_agg, Slot.cse]) (R7 x.key o0) (Ty.byte.flo x.key) (by simp) rfl ?_
  simp [over, ex1, Slot.oce, byte_ocl, Ty.byte.frL]
  refine callK.own 501 rfl (by kernel_rfl) (by simp [roc_sc, roc_ro, roc_agg, Slot.cse]) (R7 x.b o1) (Ty.byte.flo x.b) (by simp) rfl ?_
  simp [over, ex1, Slot.oce, byte_ocl, Ty.byte.frL]
theorem R6 (xs : List Slot) (hx : Slot.ty.slice.ok xs) : Ret Tryd.prog 6 [.ro (rows Slot.ty.cs xs) xs.length] (.own (rows Slot.ty.oc xs) xs.length 2) [.un] := Ret.toS Slot.ty Tryd.func6 ⟨by kernel_rfl, by kernel_rfl, by kernel_rfl⟩ (by kernel_rfl) (fun x h => R20 x h) (by decide) (by decide) xs hx
/- 25: loop.example/g00464/laws.eqSlot -/
def A25 : AC := (.seq (.ops [⟨(some 2), none, .w (.box (.t 0))⟩, ⟨(some 3), none, .w (.box (.t 1))⟩, ⟨(some 4), none, .q (.mov (.c (.sc (.bool false))))⟩])
  (.seq (.seq (.ops [⟨(some 5), none, .q (.fadr 0 (.t 2))⟩, ⟨(some 6), none, .q (.load false 1 (.t 5))⟩, ⟨(some 7), none, .q (.fadr 0 (.t 3))⟩, ⟨(some 8), none, .q (.load false 1 (.t 7))⟩, ⟨(some 9), none, .c (.c (.clo 11 [])) [(.t 6), (.t 8)]⟩, ⟨(some 10), none, .q (.not (.t 9))⟩])
  (.cond (.t 10) (.seq (.ops [⟨(some 4), none, .q (.mov (.c (.sc (.bool false))))⟩])
  .ret)
  .skip))
  (.seq (.seq (.ops [⟨(some 11), none, .q (.fadr 1 (.t 2))⟩, ⟨(some 12), none, .q (.load false 1 (.t 11))⟩, ⟨(some 13), none, .q (.fadr 1 (.t 3))⟩, ⟨(some 14), none, .q (.load false 1 (.t 13))⟩, ⟨(some 15), none, .c (.c (.clo 11 [])) [(.t 12), (.t 14)]⟩, ⟨(some 16), none, .q (.not (.t 15))⟩])
  (.cond (.t 16) (.seq (.ops [⟨(some 4), none, .q (.mov (.c (.sc (.bool false))))⟩])
  .ret)
  .skip))
  (.seq (.ops [⟨(some 4), none, .q (.mov (.c (.sc (.bool true))))⟩])
  .ret))))
theorem K25 : Tryd.f25.body.bind (comp Tryd.prog) = some A25 ∧ Tryd.f25.ntmps = 17 ∧ Tryd.f25.results.toList.mapM (resB Tryd.prog) = some [.mov (.t 4)] := ⟨by kernel_rfl, by kernel_rfl, by kernel_rfl⟩
theorem R25 (x : Slot) (hx : Slot.ty.ok x) : Ret Tryd.prog 25 [.agg (Slot.ty.cs x), .agg (Slot.ty.cs x)] (.sc (.bool true)) [.un, .un] := by
  obtain ⟨o0, o1, _⟩ := hx
  refine Ret.run Tryd.func25 K25 (by simp) rfl rfl 500 ?_
  simp [A25, iniρ, Slot.cse]
  refine callK.ro 0 rfl (by kernel_rfl) (by simp [roc_sc, roc_ro, roc_agg, Slot.cse]) (R11 x.key o0) rfl rfl rfl ?_
  simp [Slot.cse]
  refine callK.ro 0 rfl (by kernel_rfl) (by simp [roc_sc, roc_ro, roc_agg, Slot.cse]) (R11 x.b o1) rfl rfl rfl ?_
  simp [Slot.cse]
theorem R10 (xs : List Slot) (hx : Slot.ty.slice.ok xs) : Ret Tryd.prog 10 [.ro (rows Slot.ty.cs xs) xs.length, .ro (rows Slot.ty.cs xs) xs.length] (.sc (.bool true)) [.un, .un] := Ret.eqS mixed Slot.ty (agg := true) Tryd.func10 ⟨by kernel_rfl, by kernel_rfl, by kernel_rfl⟩ (by kernel_rfl) (by simp) xs (fun x h => R25 x (hx.2 x h)) (Slot.ty.lenb (by decide) hx)
end Go.Proofs.YtaknfalbmblagaaDoor.Am
