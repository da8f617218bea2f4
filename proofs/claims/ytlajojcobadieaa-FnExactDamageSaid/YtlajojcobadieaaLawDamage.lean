/- The functions of the program, each by its contract: LawDamage; no condition. -/
import Derived.Test.YtlajojcobadieaaProg
import Derived.Test.YtlajojcobadieaaAmZ
import Derived.Test.YtlajojcobadieaaAmP
import Derived.Test.YtlajojcobadieaaDamage
import Derived.Test.YtlajojcobadieaaPlumb
import Derived.KernelRfl
namespace Go.Proofs.Ytlajojcobadieaa.Am
open Go Go.Proofs
set_option linter.unusedSimpArgs false
set_option linter.unusedVariables false
attribute [local congr] T_congr callK_congr callWK_congr
attribute [local simp] run_nil run_op0 run_opg run_seq run_cond run_block run_ret run_skip run_skip_after run_skip_blk run_exit run_exit_after run_exit_blk run_loop run_any runS_nil runS_op0 runS_opg runW_nil runW_op0 runW_opg exec_q exec_w exec_c exec_n execW_q execW_w execW_c restW_app hideH_app merge_app wblk rest_app restS_app execS_q execS_c aval dOk upd_app ev_t ev_c setO_some setO_none put_mk pinsOf isIo hasIo sbin endR fin resL one outL out1 clo1 cloL coe coeL shut shut.shutL wantA weff cellsOf fillA deref natOf ρ0_app h0_app plain plain.plainL keep_app keepH_app andThen_normal andThen_ret andThen_exit pop_nil pop_after pop_after_ret pop_after_exit pop_blk pop_blk_ret pop_blk_exit nilA srcOf srcCells keepR_app keepHR_app renA rb
theorem u8_rng (z : Int) : 0 ≤ IntKind.u8.wrap z ∧ IntKind.u8.wrap z ≤ 255 := by
  unfold IntKind.wrap
  simp [IntKind.signed, IntKind.bits]
  omega
theorem dmg_is (xs : List Slot) (i a v : Int) (hx : Slot.ty.slice.ok xs) : (dmg xs i a v).length = xs.length ∧ Slot.ty.slice.ok (dmg xs i a v) ∧ toL Slot.tot (dmg xs i a v) = toL Slot.tot xs := by
  unfold dmg
  split
  case isFalse => exact ⟨rfl, hx, rfl⟩
  split
  case h_2 => exact ⟨rfl, hx, rfl⟩
  rename_i x hg
  split
  · exact ⟨rfl, hx, rfl⟩
  obtain ⟨hlt, hgx⟩ := List.getElem?_eq_some_iff.1 hg
  generalize hz : xr _ _ = z
  have hzr : 0 ≤ z ∧ z ≤ 255 := by rw [← hz]; exact u8_rng _
  have hxs : xs = xs.take i.toNat ++ x :: xs.drop (i.toNat + 1) := by rw [← hgx]; simp
  have hxo : Slot.ty.ok x := hx.2 x (List.mem_of_getElem? hg)
  refine ⟨by simp, ⟨?_, fun y hy => ?_⟩, ?_⟩
  · rw [List.length_set]; exact hx.1
  · rcases List.mem_or_eq_of_mem_set hy with hy | rfl
    · exact hx.2 y hy
    · obtain ⟨o1, ⟨o2, o3⟩, o4⟩ := hxo
      refine ⟨o1, ⟨?_, fun w hw => ?_⟩, o4⟩
      · show (x.b.set _ z).length * _ ≤ _
        rw [List.length_set]; exact o2
      · rcases List.mem_or_eq_of_mem_set hw with hw | rfl
        · exact o3 w hw
        · exact hzr
  · rw [List.set_eq_take_append_cons_drop, if_pos hlt]
    conv => rhs; rw [hxs]
    rw [toL_app, toL_app]
    simp [toL, Slot.tot]
theorem tot_wt (xs : List Slot) : toL Slot.tot xs ≤ wtL Slot.ty.wt xs := by
  induction xs with
  | nil => exact Nat.le_refl _
  | cons x xs ih =>
    have e : Slot.tot x ≤ Slot.ty.wt x := by rw [Slot.wte]; simp only [Slot.tot]; omega
    simp only [toL, wtL]; omega
theorem Slot.rocm {h : Hp} {b n : Nat} {ms : List Slot} {lim : Bool} (hb : h b = some (some (rows Slot.ty.oc ms))) (hl : ms.length = n) : roc h 8 (.sl b 0 n 2 lim) = some (.ro (rows Slot.ty.cs ms) n) := by subst hl; exact Slot.roc8 hb
/- 6: loop.example/g00464/laws.FnExactDamage -/
def A6 : AC := (.seq (.ops [⟨(some 8), none, .q (.mov (.c (.sc (.bool false))))⟩])
  (.seq (.ops [⟨(some 9), none, .q (.mov (.c (.sc (.int .i64 1048576))))⟩])
  (.seq (.ops [⟨(some 17), none, .q (.mov (.t 0))⟩, ⟨(some 18), none, .q (.mov (.t 9))⟩, ⟨(some 19), none, .c (.c (.clo 16 [])) [(.t 17), (.t 18)]⟩, ⟨(some 9), none, .q (.mov (.t 19))⟩])
  (.seq (.seq (.ops [⟨(some 20), none, .q (.mov (.t 9))⟩, ⟨(some 21), none, .q (.bin .lss (.t 20) (.c (.sc (.int .i64 0))))⟩])
  (.cond (.t 21) (.seq (.ops [⟨(some 8), none, .q (.mov (.c (.sc (.bool true))))⟩])
  .ret)
  .skip))
  (.seq (.ops [⟨(some 22), none, .q (.mov (.t 0))⟩, ⟨(some 23), none, .c (.c (.clo 18 [])) [(.t 22)]⟩, ⟨(some 24), none, .q (.mov (.t 1))⟩, ⟨(some 25), none, .q (.mov (.t 2))⟩, ⟨(some 26), none, .q (.mov (.t 3))⟩, ⟨(some 27), none, .c (.c (.clo 21 [])) [(.t 23), (.t 24), (.t 25), (.t 26)]⟩, ⟨(some 10), none, .q (.mov (.t 27))⟩])
  (.seq (.ops [⟨(some 28), none, .q (.mov (.t 0))⟩, ⟨(some 29), none, .c (.c (.clo 18 [])) [(.t 28)]⟩, ⟨(some 11), none, .q (.mov (.t 29))⟩])
  (.seq (.ops [⟨(some 30), none, .q (.mov (.t 11))⟩, ⟨(some 31), none, .q (.mov (.t 1))⟩, ⟨(some 32), none, .q (.mov (.t 2))⟩, ⟨(some 33), none, .q (.mov (.t 3))⟩, ⟨(some 34), none, .c (.c (.clo 22 [])) [(.t 30), (.t 31), (.t 32), (.t 33)]⟩, ⟨(some 12), none, .q (.mov (.t 34))⟩])
  (.seq (.seq (.ops [⟨(some 35), none, .q (.mov (.t 12))⟩, ⟨(some 36), none, .q (.mov (.t 10))⟩, ⟨(some 37), none, .c (.c (.clo 20 [])) [(.t 35), (.t 36)]⟩, ⟨(some 38), none, .q (.not (.t 37))⟩])
  (.cond (.t 38) (.seq (.ops [⟨(some 8), none, .q (.mov (.c (.sc (.bool false))))⟩])
  .ret)
  .skip))
  (.seq (.seq (.ops [⟨(some 39), none, .q (.mov (.t 11))⟩, ⟨(some 40), none, .q (.mov (.t 0))⟩, ⟨(some 41), none, .c (.c (.clo 18 [])) [(.t 40)]⟩, ⟨(some 42), none, .c (.c (.clo 20 [])) [(.t 39), (.t 41)]⟩, ⟨(some 43), none, .q (.not (.t 42))⟩])
  (.cond (.t 43) (.seq (.ops [⟨(some 8), none, .q (.mov (.c (.sc (.bool false))))⟩])
  .ret)
  .skip))
  (.seq (.ops [⟨(some 13), none, .q (.mov (.c (.sc (.int .i64 1))))⟩])
  (.seq (.ops [⟨(some 44), none, .q (.mov (.t 11))⟩, ⟨(some 45), none, .q (.mov (.t 13))⟩, ⟨(some 46), none, .c (.c (.clo 23 [])) [(.t 44), (.t 45)]⟩, ⟨(some 13), none, .q (.mov (.t 46))⟩])
  (.seq (.seq (.ops [⟨(some 47), none, .q (.mov (.t 13))⟩, ⟨(some 48), none, .q (.bin .lss (.t 47) (.c (.sc (.int .i64 0))))⟩, ⟨(some 49), none, .q (.mov (.t 48))⟩, ⟨(some 50), (some (49, false)), .q (.mov (.t 12))⟩, ⟨(some 51), (some (49, false)), .q (.mov (.t 10))⟩, ⟨(some 52), (some (49, false)), .c (.c (.clo 20 [])) [(.t 50), (.t 51)]⟩, ⟨(some 53), (some (49, false)), .q (.not (.t 52))⟩, ⟨(some 54), none, .q (.pick (.t 49) (.c (.sc (.bool true))) (.t 53))⟩])
  (.cond (.t 54) (.seq (.ops [⟨(some 8), none, .q (.mov (.c (.sc (.bool false))))⟩])
  .ret)
  .skip))
  (.seq (.ops [⟨(some 14), none, .q (.mov (.c (.sc (.int .i64 1))))⟩])
  (.seq (.ops [⟨(some 55), none, .q (.mov (.t 12))⟩, ⟨(some 56), none, .q (.mov (.t 14))⟩, ⟨(some 57), none, .c (.c (.clo 23 [])) [(.t 55), (.t 56)]⟩, ⟨(some 14), none, .q (.mov (.t 57))⟩])
  (.seq (.ops [⟨(some 15), none, .q (.mov (.c (.sc (.int .i64 1))))⟩])
  (.seq (.ops [⟨(some 58), none, .q (.mov (.t 12))⟩, ⟨(some 59), none, .q (.mov (.t 15))⟩, ⟨(some 60), none, .c (.c (.clo 24 [])) [(.t 58), (.t 59)]⟩, ⟨(some 15), none, .q (.mov (.t 60))⟩])
  (.seq (.seq (.ops [⟨(some 61), none, .q (.mov (.t 15))⟩, ⟨(some 62), none, .q (.bin .lss (.t 61) (.c (.sc (.int .i64 0))))⟩])
  (.cond (.t 62) (.seq (.ops [⟨(some 8), none, .q (.mov (.c (.sc (.bool false))))⟩])
  .ret)
  .skip))
  (.seq (.seq (.ops [⟨(some 63), none, .q (.mov (.t 15))⟩, ⟨(some 64), none, .q (.mov (.t 14))⟩, ⟨(some 65), none, .q (.bin .neq (.t 63) (.t 64))⟩])
  (.cond (.t 65) (.seq (.ops [⟨(some 8), none, .q (.mov (.c (.sc (.bool false))))⟩])
  .ret)
  .skip))
  (.seq (.ops [⟨(some 66), none, .q (.mov (.t 0))⟩, ⟨(some 67), none, .c (.c (.clo 18 [])) [(.t 66)]⟩, ⟨(some 68), none, .q (.mov (.t 1))⟩, ⟨(some 69), none, .q (.mov (.t 2))⟩, ⟨(some 70), none, .q (.mov (.t 3))⟩, ⟨(some 71), none, .c (.c (.clo 22 [])) [(.t 67), (.t 68), (.t 69), (.t 70)]⟩, ⟨(some 16), none, .q (.mov (.t 71))⟩])
  (.seq (.seq (.ops [⟨(some 72), none, .q (.mov (.t 16))⟩, ⟨(some 73), none, .q (.mov (.t 10))⟩, ⟨(some 74), none, .c (.c (.clo 20 [])) [(.t 72), (.t 73)]⟩, ⟨(some 75), none, .q (.not (.t 74))⟩])
  (.cond (.t 75) (.seq (.ops [⟨(some 8), none, .q (.mov (.c (.sc (.bool false))))⟩])
  .ret)
  .skip))
  (.seq (.ops [⟨(some 15), none, .q (.mov (.c (.sc (.int .i64 1))))⟩])
  (.seq (.ops [⟨(some 76), none, .q (.mov (.t 12))⟩, ⟨(some 77), none, .q (.mov (.t 15))⟩, ⟨(some 78), none, .c (.c (.clo 24 [])) [(.t 76), (.t 77)]⟩, ⟨(some 15), none, .q (.mov (.t 78))⟩])
  (.seq (.seq (.ops [⟨(some 79), none, .q (.mov (.t 15))⟩, ⟨(some 80), none, .q (.bin .lss (.t 79) (.c (.sc (.int .i64 0))))⟩])
  (.cond (.t 80) (.seq (.ops [⟨(some 8), none, .q (.mov (.c (.sc (.bool false))))⟩])
  .ret)
  .skip))
  (.seq (.seq (.ops [⟨(some 81), none, .q (.mov (.t 15))⟩, ⟨(some 82), none, .q (.mov (.t 14))⟩, ⟨(some 83), none, .q (.bin .neq (.t 81) (.t 82))⟩])
  (.cond (.t 83) (.seq (.ops [⟨(some 8), none, .q (.mov (.c (.sc (.bool false))))⟩])
  .ret)
  .skip))
  (.seq (.ops [⟨(some 8), none, .q (.mov (.c (.sc (.bool true))))⟩])
  .ret)))))))))))))))))))))))))
theorem K6 : Try.f6.body.bind (comp Try.prog) = some A6 ∧ Try.f6.ntmps = 84 ∧ Try.f6.results.toList.mapM (resB Try.prog) = some [.mov (.t 8)] := ⟨by kernel_rfl, by kernel_rfl, by kernel_rfl⟩
set_option maxHeartbeats 2000000 in
set_option maxRecDepth 100000 in
theorem R6 (aL : List Slot) (haL : Slot.ty.slice.ok aL) (aI : Int) (haI : Ty.int.ok aI) (aAt : Int) (haAt : Ty.int.ok aAt) (aX : Int) (haX : Ty.int.ok aX) : Ret Try.prog 6 [.ro (rows Slot.ty.cs aL) aL.length, .sc (.int .i64 aI), .sc (.int .i64 aAt), .sc (.int .i64 aX)] (.sc (.bool true)) [.un, .un, .un, .un] := by
  obtain ⟨m0, e0, q0⟩ := R16 aL haL 1048576 (by omega) (by omega)
  by_cases n0 : m0 < 0
  · refine Ret.run Try.func6 K6 (by simp) rfl rfl 900 ?_
    simp [A6, iniρ, over, n0]
    refine callK.ro 0 rfl (by kernel_rfl) (by simp [roc_sc, roc_ro]) q0 rfl rfl rfl ?_
    simp [over, n0]
  have e0 : m0 = 1048576 - ((aL.length + wtL Slot.ty.wt aL : Nat) : Int) := e0.resolve_left n0
  have t0 := tot_wt aL
  obtain ⟨ys, hys⟩ : ∃ ys, ys = dmg aL aI aAt aX := ⟨_, rfl⟩
  obtain ⟨yl, yo, yt⟩ := dmg_is aL aI aAt aX haL
  have rs := R21 aL aI aAt aX haL haAt
  have ri := R22 aL aI aAt aX haL haAt
  rw [← hys] at yl yo yt rs ri
  rw [yl] at rs ri
  have fy : flt (.own (rows Slot.ty.oc ys) aL.length 2) = true := by rw [← yl]; exact Slot.ty.flo ys
  have re := R20 ys yo
  rw [yl] at re
  have rh := R24 ys 1 (by omega) (by omega) (by omega)
  rw [mkL_len, yl] at rh
  have rm := R23 ys 1 (by omega) (by omega) (by omega)
  rw [yl] at rm
  have pm : ¬ (1 + (toL Slot.tot ys : Int) < 0) := by omega
  have pk : ¬ (1 + (toL Slot.tot aL : Int) < 0) := by omega
  refine Ret.run Try.func6 K6 (by simp) rfl rfl 900 ?_
  simp [A6, iniρ]
  refine callK.ro 0 rfl (by kernel_rfl) (by simp [roc_sc, roc_ro]) q0 rfl rfl rfl ?_
  simp [n0]
  refine callK.own 601 rfl (by kernel_rfl) (by simp [roc_sc, roc_ro]) (R18 aL haL) (Slot.ty.flo aL) (by simp [upd_app]) rfl ?_
  simp
  refine callK.own 602 rfl (by kernel_rfl) (by simp [roc_sc, roc_ro, Slot.roc8]) rs fy (by simp [upd_app]) rfl ?_
  simp
  refine callK.own 603 rfl (by kernel_rfl) (by simp [roc_sc, roc_ro]) (R18 aL haL) (Slot.ty.flo aL) (by simp [upd_app]) rfl ?_
  simp
  refine callK.own 604 rfl (by kernel_rfl) (by simp [roc_sc, roc_ro, Slot.roc8]) ri fy (by simp [upd_app]) rfl ?_
  simp
  refine callK.ro 0 rfl (by kernel_rfl) (by simp [roc_sc, roc_ro, Slot.rocm (ms := ys), yl]) re rfl rfl rfl ?_
  simp
  refine callK.own 605 rfl (by kernel_rfl) (by simp [roc_sc, roc_ro]) (R18 aL haL) (Slot.ty.flo aL) (by simp [upd_app]) rfl ?_
  simp
  refine callK.ro 0 rfl (by kernel_rfl) (by simp [roc_sc, roc_ro, Slot.roc8]) (R20 aL haL) rfl rfl rfl ?_
  simp
  refine callK.io (b := 603) (len := aL.length) (sz := 2) (cs := rows Slot.ty.oc aL) rfl (by kernel_rfl) (by simp [upd_app]) (by simp [upd_app]) (by simp [Slot.ocl]) (Slot.frL _) (by simp [upd_app]) rfl (R23 aL 1 (by omega) (by omega) (by omega)) (by simp [Slot.ocl, mkL_len]) (fltL_of (rows_all (q := flt) (fun x c hc => (Slot.ty.ow x c hc).fl) _)) rfl ?_
  simp [pk]
  refine callK.ro 0 rfl (by kernel_rfl) (by simp [roc_sc, roc_ro, Slot.rocm (ms := ys), yl]) re rfl rfl rfl ?_
  simp
  refine callK.io (b := 604) (len := aL.length) (sz := 2) (cs := rows Slot.ty.oc ys) rfl (by kernel_rfl) (by simp [upd_app]) (by simp [upd_app]) (by simp [Slot.ocl, yl]) (Slot.frL _) (by simp [upd_app]) rfl rm (by simp [Slot.ocl, mkL_len]) (fltL_of (rows_all (q := flt) (fun x c hc => (Slot.ty.ow x c hc).fl) _)) rfl ?_
  simp
  refine callK.ro 0 rfl (by kernel_rfl) (by simp [roc_sc, roc_ro, Slot.rocm (ms := mkL Slot.mark Slot.tot ys 1), mkL_len, yl]) rh rfl rfl rfl ?_
  simp [pm]
  refine callK.own 606 rfl (by kernel_rfl) (by simp [roc_sc, roc_ro]) (R18 aL haL) (Slot.ty.flo aL) (by simp [upd_app]) rfl ?_
  simp
  refine callK.own 607 rfl (by kernel_rfl) (by simp [roc_sc, roc_ro, Slot.roc8]) ri fy (by simp [upd_app]) rfl ?_
  simp
  refine callK.ro 0 rfl (by kernel_rfl) (by simp [roc_sc, roc_ro, Slot.rocm (ms := ys), yl]) re rfl rfl rfl ?_
  simp
  refine callK.ro 0 rfl (by kernel_rfl) (by simp [roc_sc, roc_ro, Slot.rocm (ms := mkL Slot.mark Slot.tot ys 1), mkL_len, yl]) rh rfl rfl rfl ?_
  simp [pm]
end Go.Proofs.Ytlajojcobadieaa.Am
