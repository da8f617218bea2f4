/- The functions of the program, each by its contract: Mark; no condition. -/
import Derived.Test.YtaknfalbmblagaaDoorProg
import Derived.Test.YtaknfalbmblagaaDoorAmZ
import Derived.Test.YtaknfalbmblagaaDoorAmP
import Derived.Test.YtaknfalbmblagaaDoorAmM
import Derived.Test.YtaknfalbmblagaaDoorBase
import Derived.Test.YtaknfalbmblagaaDoorTypes
import Derived.KernelRfl
namespace Go.Proofs.YtaknfalbmblagaaDoor.Am
open Go Go.Proofs
set_option linter.unusedSimpArgs false
set_option linter.unusedVariables false
attribute [local congr] T_congr callK_congr callWK_congr
attribute [local simp] run_nil run_op0 run_opg run_seq run_cond run_block run_ret run_skip run_skip_after run_skip_blk run_exit run_exit_after run_exit_blk run_loop run_any runS_nil runS_op0 runS_opg runW_nil runW_op0 runW_opg exec_q exec_w exec_c exec_n execW_q execW_w execW_c restW_app hideH_app merge_app wblk rest_app restS_app execS_q execS_c aval dOk upd_app ev_t ev_c setO_some setO_none put_mk pinsOf isIo hasIo sbin endR fin resL one outL out1 clo1 cloL coe coeL shut shut.shutL wantA weff cellsOf fillA deref natOf ρ0_app h0_app plain plain.plainL keep_app keepH_app andThen_normal andThen_ret andThen_exit pop_nil pop_after pop_after_ret pop_after_exit pop_blk pop_blk_ret pop_blk_exit nilA srcOf srcCells keepR_app keepHR_app renA rb
/- 13: loop.example/g00464/laws.markByteS -/
def A13 : AC := (.seq (.ops [⟨(some 4), none, .q (.mov (.c (.sc (.int .i64 0))))⟩])
  (.seq (.seq (.ops [⟨(some 5), none, .q (.mov (.c (.sc (.int .i64 0))))⟩])
  (.block 0 (.loop (.seq (.seq (.ops [⟨(some 6), none, .q (.mov (.t 5))⟩, ⟨(some 7), none, .q (.mov (.t 0))⟩, ⟨(some 8), none, .q (.llen (.t 7))⟩, ⟨(some 9), none, .q (.bin .lss (.t 6) (.t 8))⟩])
  (.cond (.t 9) .skip
  (.exit 0)))
  (.seq (.block 1 (.seq (.ops [⟨(some 12), none, .q (.mov (.t 0))⟩, ⟨(some 13), none, .q (.mov (.t 5))⟩, ⟨(some 14), none, .q (.mov (.t 1))⟩, ⟨(some 15), none, .q (.cvi .u8 (.t 14))⟩, ⟨(some 16), none, .q (.iadr 1 (.t 12) (.t 13))⟩, ⟨none, none, .w (.store 1 (.t 16) (.t 15))⟩])
  (.ops [⟨(some 17), none, .q (.mov (.t 1))⟩, ⟨(some 18), none, .q (.bin .add (.t 17) (.c (.sc (.int .i64 1))))⟩, ⟨(some 1), none, .q (.mov (.t 18))⟩])))
  (.ops [⟨(some 10), none, .q (.mov (.t 5))⟩, ⟨(some 11), none, .q (.bin .add (.t 10) (.c (.sc (.int .i64 1))))⟩, ⟨(some 5), none, .q (.mov (.t 11))⟩]))))))
  (.seq (.ops [⟨(some 19), none, .q (.mov (.t 1))⟩, ⟨(some 4), none, .q (.mov (.t 19))⟩])
  .ret)))
theorem K13 : Tryd.f13.body.bind (comp Tryd.prog) = some A13 ∧ Tryd.f13.ntmps = 20 ∧ Tryd.f13.results.toList.mapM (resB Tryd.prog) = some [.mov (.t 4)] := ⟨by kernel_rfl, by kernel_rfl, by kernel_rfl⟩
theorem R13 (xs : List Int) (k : Int) (hk : 0 ≤ k) (hb : k + xs.length < 4611686018427387904) : MRet Tryd.prog 13 (rows B xs) xs.length 1 (.sc (.int .i64 k)) (.sc (.int .i64 (k + xs.length))) (rows B (mkB xs.length k)) := by
  constructor
  · intro hpos
    refine Ret.run Tryd.func13 K13 (by simp) rfl rfl 500 ?_
    simp [A13, iniρ]
    refine T.rounds (μ := fun i : List Int × List Int => i.2.length)
      (fun i s => i.1 ++ i.2 = xs ∧ s.ρ 0 = .sl 100000 0 xs.length 1 false ∧ s.ρ 1 = .sc (.int .i64 (k + i.1.length)) ∧ s.ρ 5 = .sc (.int .i64 i.1.length) ∧ s.h 100000 = some (some (rows B (mkB i.1.length k) ++ rows B i.2)) ∧ s.n = 20) ([], xs) (by simp [upd_app, mkB, rows_nil]) ?_
    rintro ⟨pre, rest⟩ ⟨ρ, hh, n⟩ ⟨hx, h0', h1', h5', h7', rfl⟩
    simp only at hx h0' h1' h5' h7'
    refine run_ok (n := 400) ?_
    cases rest with
    | nil =>
      simp at hx
      subst hx
      simp [h0', h5']
      refine T.on 400 ?_
      simp [h0', h1', h7', ex1, rows_nil, B.count, idfreeL_rows B.fr, ioPos1, hpos, mkB_len]
    | cons x rest =>
      have hle : pre.length + (rest.length + 1) = xs.length := by rw [← hx]; simp
      have hlt : (pre.length : Int) < xs.length := by omega
      have hw : IntKind.i64.wrap ((pre.length : Int) + 1) = pre.length + 1 := wrap_i64 (by omega) (by omega)
      have hw1 : IntKind.i64.wrap (k + (pre.length : Int) + 1) = k + pre.length + 1 := wrap_i64 (by omega) (by omega)
      have hov : over _ _ [AV.sc (.int .u8 (IntKind.u8.wrap (k + pre.length)))] = _ := rows_over3 B.len B.len (mkB pre.length k) rest x [AV.sc (.int .u8 (IntKind.u8.wrap (k + pre.length)))] rfl
      rw [Nat.mul_one, mkB_len] at hov
      have hle2 : pre.length + 1 ≤ (rows B (mkB pre.length k)).length + (rows B (x :: rest)).length := by rw [rows_length B.len, rows_length B.len, mkB_len, List.length_cons]; omega
      simp [h0', h1', h5', h7', hlt, hw, hw1, hle2, hov]
      refine ⟨pre ++ [x], rest, by simp, _, Le.refl _, ?_⟩
      simp [hx, h0', upd_app, mkB_snoc, rows_append, rows_cons, rows_nil, B]
      omega
  · intro h
    have e : xs = [] := List.length_eq_zero_iff.1 h
    subst e
    refine Ret.run Tryd.func13 K13 (by simp) rfl rfl 500 ?_
    simp [A13, iniρ]
    refine T.rounds (μ := fun i : Nat => i) (fun i s => s.ρ 0 = .ro [] 0 ∧ s.ρ 1 = .sc (.int .i64 k) ∧ s.ρ 5 = .sc (.int .i64 0) ∧ s.n = 20) 0 (by simp [upd_app]) ?_
    rintro i ⟨ρ, hh, n⟩ ⟨h0', h1', h5', rfl⟩
    simp only at h0' h1' h5'
    refine run_ok (n := 400) ?_
    simp [h0', h5']
    refine T.on 400 ?_
    simp [h1']
end Go.Proofs.YtaknfalbmblagaaDoor.Am
