/- The functions of the program, each by its contract: Num; no condition. -/
import Derived.Test.YtadoadomogceiaaDoorProg
import Derived.Test.YtadoadomogceiaaDoorAmZ
import Derived.Test.YtadoadomogceiaaDoorAmP
import Derived.Test.YtadoadomogceiaaDoorAmM
import Derived.Test.YtadoadomogceiaaDoorBase
import Derived.KernelRfl
namespace Go.Proofs.YtadoadomogceiaaDoor.Am
open Go Go.Proofs
set_option linter.unusedSimpArgs false
set_option linter.unusedVariables false
attribute [local congr] T_congr callK_congr callWK_congr
attribute [local simp] run_nil run_op0 run_opg run_seq run_cond run_block run_ret run_skip run_skip_after run_skip_blk run_exit run_exit_after run_exit_blk run_loop run_any runS_nil runS_op0 runS_opg runW_nil runW_op0 runW_opg exec_q exec_w exec_c exec_n execW_q execW_w execW_c restW_app hideH_app merge_app wblk rest_app restS_app execS_q execS_c aval dOk upd_app ev_t ev_c setO_some setO_none put_mk pinsOf isIo hasIo sbin endR fin resL one outL out1 clo1 cloL coe coeL shut shut.shutL wantA weff cellsOf fillA deref natOf ρ0_app h0_app plain plain.plainL keep_app keepH_app andThen_normal andThen_ret andThen_exit pop_nil pop_after pop_after_ret pop_after_exit pop_blk pop_blk_ret pop_blk_exit nilA srcOf srcCells keepR_app keepHR_app renA rb
def digC (n : Int) : ByteArray := strOfNums [IntKind.u8.wrap (48 + n)]
theorem digC_size (n : Int) : (digC n).size = 1 := rfl
def numF : Nat → Nat → ByteArray → ByteArray
  | 0, _, a => a
  | k + 1, n, a => if 9 < n then numF k (n / 10) (digC ((n : Int) / 10 % 10) ++ a) else a
def numT (n : Nat) : ByteArray := numF n n (digC ((n : Int) % 10))
/- 57: loop.example/g00464/spec.NumText -/
def A57 : AC := (.seq (.ops [⟨(some 2), none, .q (.mov (.c (.sc (.string ⟨#[]⟩))))⟩])
  (.seq (.seq (.ops [⟨(some 4), none, .q (.mov (.t 0))⟩, ⟨(some 5), none, .q (.bin .lss (.t 4) (.c (.sc (.int .i64 0))))⟩])
  (.cond (.t 5) (.ops [⟨(some 0), none, .q (.mov (.c (.sc (.int .i64 0))))⟩])
  .skip))
  (.seq (.ops [⟨(some 6), none, .q (.mov (.t 0))⟩, ⟨(some 7), none, .q (.bin .rem (.t 6) (.c (.sc (.int .i64 10))))⟩, ⟨(some 8), none, .q (.bin .add (.c (.sc (.int .i64 48))) (.t 7))⟩, ⟨(some 9), none, .q (.cvi .u8 (.t 8))⟩, ⟨(some 10), none, .w (.bsl 1 1 [(.sc (.int .u8 0))] [(0, 1, (.t 9))])⟩, ⟨(some 11), none, .q (.bstr (.t 10))⟩, ⟨(some 3), none, .q (.mov (.t 11))⟩])
  (.seq (.block 0 (.loop (.seq (.seq (.ops [⟨(some 12), none, .q (.mov (.t 0))⟩, ⟨(some 13), none, .q (.bin .gtr (.t 12) (.c (.sc (.int .i64 9))))⟩])
  (.cond (.t 13) .skip
  (.exit 0)))
  (.block 1 (.seq (.ops [⟨(some 14), none, .q (.mov (.t 0))⟩, ⟨(some 15), none, .q (.bin .quo (.t 14) (.c (.sc (.int .i64 10))))⟩, ⟨(some 0), none, .q (.mov (.t 15))⟩])
  (.ops [⟨(some 16), none, .q (.mov (.t 0))⟩, ⟨(some 17), none, .q (.bin .rem (.t 16) (.c (.sc (.int .i64 10))))⟩, ⟨(some 18), none, .q (.bin .add (.c (.sc (.int .i64 48))) (.t 17))⟩, ⟨(some 19), none, .q (.cvi .u8 (.t 18))⟩, ⟨(some 20), none, .w (.bsl 1 1 [(.sc (.int .u8 0))] [(0, 1, (.t 19))])⟩, ⟨(some 21), none, .q (.bstr (.t 20))⟩, ⟨(some 22), none, .q (.mov (.t 3))⟩, ⟨(some 23), none, .q (.bin .add (.t 21) (.t 22))⟩, ⟨(some 3), none, .q (.mov (.t 23))⟩]))))))
  (.seq (.ops [⟨(some 24), none, .q (.mov (.t 3))⟩, ⟨(some 2), none, .q (.mov (.t 24))⟩])
  .ret)))))
theorem K57 : Tryd.f57.body.bind (comp Tryd.prog) = some A57 ∧ Tryd.f57.ntmps = 25 ∧ Tryd.f57.results.toList.mapM (resB Tryd.prog) = some [.mov (.t 2)] := ⟨by kernel_rfl, by kernel_rfl, by kernel_rfl⟩
theorem R57 (n : Nat) (hn : n < 4611686018427387904) : Ret Tryd.prog 57 [.sc (.int .i64 n)] (.sc (.string (numT n))) [.un] := by
  have hrem : (n : Int).tmod 10 = (n : Int) % 10 := rfl
  have hw0 : IntKind.i64.wrap (48 + (n : Int) % 10) = 48 + (n : Int) % 10 := wrap_i64 (by omega) (by omega)
  have hz0 : (digC ((n : Int) % 10)).size + n ≤ n + 1 := by rw [digC_size]; omega
  have h0n : ¬ ((n : Int) < 0) := by omega
  refine Ret.run Tryd.func57 K57 (by simp) rfl rfl 900 ?_
  simp only [A57, iniρ]
  simp [h0n, over, hrem, hw0, bytesA, num8]
  refine T.rounds (μ := fun i : Nat × Nat × ByteArray => i.1)
    (fun i s => i.2.1 ≤ i.1 ∧ i.2.2.size + i.2.1 ≤ n + 1 ∧ numF i.1 i.2.1 i.2.2 = numT n ∧ s.ρ 0 = .sc (.int .i64 i.2.1) ∧ s.ρ 3 = .sc (.string i.2.2) ∧ s.h 20 = none ∧ s.n = 25) (n, n, digC ((n : Int) % 10)) (by simp [upd_app, numT, hz0]; rfl) ?_
  rintro ⟨k, m, a⟩ ⟨ρ, hh, n'⟩ ⟨hk, hs, hE, h0', h3', f1, rfl⟩
  simp only at hk hs hE h0' h3' f1
  refine run_ok (n := 400) ?_
  by_cases h9 : 9 < m
  case neg =>
    have h9' : ¬ ((9 : Int) < m) := by omega
    have hE2 : a = numT n := by rw [← hE]; cases k <;> simp [numF, h9]
    simp [h0', h9']
    refine T.on 400 ?_
    simp [h3', hE2]
  have h9' : (9 : Int) < m := by omega
  obtain ⟨k, rfl⟩ : ∃ k', k = k' + 1 := ⟨k - 1, by omega⟩
  rw [numF, if_pos h9] at hE
  have hq1 : (m : Int).tdiv 10 = (m : Int) / 10 := rfl
  have hw1 : IntKind.i64.wrap ((m : Int) / 10) = (m : Int) / 10 := wrap_i64 (by omega) (by omega)
  have hr2 : ((m : Int) / 10).tmod 10 = (m : Int) / 10 % 10 := rfl
  have hw2 : IntKind.i64.wrap (48 + (m : Int) / 10 % 10) = 48 + (m : Int) / 10 % 10 := wrap_i64 (by omega) (by omega)
  have hsz : (strOfNums [IntKind.u8.wrap (48 + (m : Int) / 10 % 10)]).size + a.size ≤ 9223372036854775807 := by
    have := digC_size ((m : Int) / 10 % 10)
    rw [digC] at this
    rw [this]; omega
  simp [h0', h3', h9', f1, over, hq1, hw1, hr2, hw2, bytesA, num8, hsz]
  refine ⟨k, by omega, m / 10, digC ((m : Int) / 10 % 10) ++ a, _, Le.reset [0, 3] [] (by simp [upd_app, menB, idfree]) (by simp), ?_⟩
  simp [upd_app, hE, digC_size]
  exact ⟨by omega, by omega, rfl⟩
theorem numF_size : ∀ (k n : Nat) (a : ByteArray), (numF k n a).size ≤ a.size + n
  | 0, n, a => Nat.le_add_right _ _
  | k + 1, n, a => by
    rw [numF]
    split
    · have h := numF_size k (n / 10) (digC ((n : Int) / 10 % 10) ++ a)
      rw [ByteArray.size_append, digC_size] at h
      omega
    · exact Nat.le_add_right _ _
theorem numT_size (n : Nat) : (numT n).size ≤ n + 1 := by
  have h := numF_size n n (digC ((n : Int) % 10))
  rw [digC_size] at h
  rw [numT]; omega
end Go.Proofs.YtadoadomogceiaaDoor.Am
