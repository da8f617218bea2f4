/- The functions of the program, each by its contract: MarksM; no condition. -/
import Derived.Test.YtaknfalbmblagaaDoorProg
import Derived.Test.YtaknfalbmblagaaDoorAmZ
import Derived.Test.YtaknfalbmblagaaDoorAmP
import Derived.Test.YtaknfalbmblagaaDoorCacheGet
import Derived.KernelRfl
namespace Go.Proofs.YtaknfalbmblagaaDoor.Am
open Go Go.Proofs
set_option linter.unusedSimpArgs false
set_option linter.unusedVariables false
attribute [local congr] T_congr callK_congr callWK_congr
attribute [local simp] run_nil run_op0 run_opg run_seq run_cond run_block run_ret run_skip run_skip_after run_skip_blk run_exit run_exit_after run_exit_blk run_loop run_any runS_nil runS_op0 runS_opg runW_nil runW_op0 runW_opg exec_q exec_w exec_c exec_n execW_q execW_w execW_c restW_app hideH_app merge_app wblk rest_app restS_app execS_q execS_c aval dOk upd_app ev_t ev_c setO_some setO_none put_mk pinsOf isIo hasIo sbin endR fin resL one outL out1 clo1 cloL coe coeL shut shut.shutL wantA weff cellsOf fillA deref natOf ρ0_app h0_app plain plain.plainL keep_app keepH_app andThen_normal andThen_ret andThen_exit pop_nil pop_after pop_after_ret pop_after_exit pop_blk pop_blk_ret pop_blk_exit nilA srcOf srcCells keepR_app keepHR_app renA rb
theorem fit_ok {m : Made} (h : Fit m) : Made.ty.ok m := by
  have e1 := h.task
  have e2 := h.log
  have e3 := h.num
  refine ⟨?_, ⟨?_, fun x hx => ?_⟩, ?_, trivial⟩
  · show m.task.size ≤ _; omega
  · show m.outs.length * 32 ≤ _; omega
  · obtain ⟨p1, p2⟩ := h.outs x hx
    refine ⟨?_, ?_, trivial⟩
    · show x.path.size ≤ _; omega
    · show x.text.size ≤ _; omega
  · show m.log.size ≤ _; omega
theorem noMade_fit : Fit noMade := ⟨Nat.zero_le _, Nat.zero_le _, (fun f hf => absurd hf List.not_mem_nil), Nat.zero_le _⟩
theorem cacheGet_fit {xs : List Slot} {k : List Int} {m : Made} (hx : Slot.ty.slice.ok xs) (h : cacheGet xs k = some m) : Fit m := by
  unfold cacheGet at h
  split at h
  case isFalse => cases h
  cases hs : xs[(idx (fun s => bEq s.key k) xs 0).toNat]? with
  | none => rw [hs] at h; cases h
  | some s =>
    rw [hs] at h
    simp only at h
    obtain ⟨sb, sl⟩ := slot_byte (hx.2 s (List.mem_of_getElem? hs))
    cases hg : getI s.b with
    | none => rw [hg] at h; cases h
    | some m' =>
      rw [hg] at h
      simp only at h
      split at h
      · cases h; exact (getI_fit sb hg).1
      · cases h
theorem madeA_is {o : Option Made} (h : ∀ m, o = some m → Fit m) : ∃ (y : Made) (yb : Bool), madeA o = .tup [.agg (Made.ty.oc y), .sc (.bool yb)] ∧ Fit y := by
  cases o with
  | none => exact ⟨noMade, false, rfl, noMade_fit⟩
  | some m => exact ⟨m, true, rfl, h m rfl⟩
/- 14: loop.example/g00464/laws.markMade -/
def A14 : AC := (.seq (.ops [⟨(some 2), none, .w (.box (.t 0))⟩, ⟨(some 4), none, .q (.mov (.c (.sc (.int .i64 0))))⟩])
  (.seq (.ops [⟨(some 5), none, .q (.fadr 1 (.t 2))⟩, ⟨(some 6), none, .q (.load false 1 (.t 5))⟩, ⟨(some 7), none, .q (.mov (.t 1))⟩, ⟨(some 8), none, .c (.c (.clo 26 [])) [(.t 6), (.t 7)]⟩, ⟨(some 1), none, .q (.mov (.t 8))⟩])
  (.seq (.ops [⟨(some 9), none, .q (.mov (.t 1))⟩, ⟨(some 4), none, .q (.mov (.t 9))⟩])
  .ret)))
theorem K14 : Tryd.f14.body.bind (comp Tryd.prog) = some A14 ∧ Tryd.f14.ntmps = 10 ∧ Tryd.f14.results.toList.mapM (resB Tryd.prog) = some [.mov (.t 4)] := ⟨by kernel_rfl, by kernel_rfl, by kernel_rfl⟩
theorem R14 (m : Made) (k : Int) (hk : 0 < k) (hb : k + (toL File.tot m.outs : Nat) < 4611686018427387904) (hn : m.outs.length < 4611686018427387904) : MRetM Tryd.prog 14 (.string m.task) (.string m.log) (rows File.ty.oc m.outs) m.outs.length 2 (.sc (.int .i64 k)) (.sc (.int .i64 (k + toL File.tot m.outs))) (rows File.ty.oc (mkL File.mark File.tot m.outs k)) := by
  have r := R26 m.outs k hk hb hn
  constructor
  · intro hpos
    refine Ret.run Tryd.func14 K14 (by simp) rfl rfl 500 ?_
    simp [A14, iniρ]
    refine callK.io (b := 100001001) (len := m.outs.length) (sz := 2) (cs := rows File.ty.oc m.outs) rfl (by kernel_rfl) (by simp [upd_app]) (by simp [upd_app]) (rows_length File.ty.ocn _) (File.ty.frL _) (by simp [upd_app]) rfl r (mkrows_len File.ty _ _ _ _) (flrows File.ty _) rfl ?_
    simp [ex1, File.ocl, mkL_len, File.frL, ioPos1, hpos, outC]
  · intro h0
    have r2 := r.2 h0
    refine Ret.run Tryd.func14 K14 (by simp) rfl rfl 500 ?_
    simp [A14, iniρ]
    refine callK.ro 0 rfl (by kernel_rfl) (by simp [roc_ro, roc_sc]) r2 rfl rfl rfl ?_
    simp
/- 15: loop.example/g00464/laws.heldMade -/
def A15 : AC := (.seq (.ops [⟨(some 2), none, .w (.box (.t 0))⟩, ⟨(some 4), none, .q (.mov (.c (.sc (.int .i64 0))))⟩])
  (.seq (.ops [⟨(some 5), none, .q (.fadr 1 (.t 2))⟩, ⟨(some 6), none, .q (.load false 1 (.t 5))⟩, ⟨(some 7), none, .q (.mov (.t 1))⟩, ⟨(some 8), none, .c (.c (.clo 27 [])) [(.t 6), (.t 7)]⟩, ⟨(some 1), none, .q (.mov (.t 8))⟩])
  (.seq (.seq (.ops [⟨(some 9), none, .q (.mov (.t 1))⟩, ⟨(some 10), none, .q (.bin .lss (.t 9) (.c (.sc (.int .i64 0))))⟩])
  (.cond (.t 10) (.seq (.ops [⟨(some 4), none, .q (.mov (.c (.sc (.int .i64 (-1)))))⟩])
  .ret)
  .skip))
  (.seq (.ops [⟨(some 11), none, .q (.mov (.t 1))⟩, ⟨(some 4), none, .q (.mov (.t 11))⟩])
  .ret))))
theorem K15 : Tryd.f15.body.bind (comp Tryd.prog) = some A15 ∧ Tryd.f15.ntmps = 12 ∧ Tryd.f15.results.toList.mapM (resB Tryd.prog) = some [.mov (.t 4)] := ⟨by kernel_rfl, by kernel_rfl, by kernel_rfl⟩
theorem R15 (m : Made) (k : Int) (hk : 0 < k) (hb : k + (toL File.tot m.outs : Nat) < 4611686018427387904) (hn : m.outs.length < 4611686018427387904) : Ret Tryd.prog 15 [.agg [.sc (.string m.task), .ro (rows File.ty.cs (mkL File.mark File.tot m.outs k)) m.outs.length, .sc (.string m.log)], .sc (.int .i64 k)] (.sc (.int .i64 (k + toL File.tot m.outs))) [.un, .un] := by
  have p : ¬ (k + (toL File.tot m.outs : Nat) < 0) := by omega
  refine Ret.run Tryd.func15 K15 (by simp) rfl rfl 500 ?_
  simp [A15, iniρ]
  refine callK.ro 0 rfl (by kernel_rfl) (by simp [roc_ro, roc_sc]) (R27 m.outs k hk hb hn) rfl rfl rfl ?_
  simp [p]
end Go.Proofs.YtaknfalbmblagaaDoor.Am
