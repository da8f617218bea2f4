/- The functions of the program, each by its contract: DrawSames; no condition. -/
import Derived.Test.YtadoadomogceiaaProg
import Derived.Test.YtadoadomogceiaaAmZ
import Derived.Test.YtadoadomogceiaaAmP
import Derived.Test.YtadoadomogceiaaDrawMades
import Derived.KernelRfl
namespace Go.Proofs.Ytadoadomogceiaa.Am
open Go Go.Proofs
set_option linter.unusedSimpArgs false
set_option linter.unusedVariables false
attribute [local congr] T_congr callK_congr callWK_congr
attribute [local simp] run_nil run_op0 run_opg run_seq run_cond run_block run_ret run_skip run_skip_after run_skip_blk run_exit run_exit_after run_exit_blk run_loop run_any runS_nil runS_op0 runS_opg runW_nil runW_op0 runW_opg exec_q exec_w exec_c exec_n execW_q execW_w execW_c restW_app hideH_app merge_app wblk rest_app restS_app execS_q execS_c aval dOk upd_app ev_t ev_c setO_some setO_none put_mk pinsOf isIo hasIo sbin endR fin resL one outL out1 clo1 cloL coe coeL shut shut.shutL wantA weff cellsOf fillA deref natOf ρ0_app h0_app plain plain.plainL keep_app keepH_app andThen_normal andThen_ret andThen_exit pop_nil pop_after pop_after_ret pop_after_exit pop_blk pop_blk_ret pop_blk_exit nilA srcOf srcCells keepR_app keepHR_app renA rb
def dmF : Nat → Cur → List Made × List Made
  | 0, _ => ([], [])
  | n + 1, c =>
    let p := anyP c
    let q := if belowV p.2 6 = 0 then anyP (belowC p.2 6) else (p.1, belowC p.2 6)
    let r := dmF n q.2
    (p.1 :: r.1, q.1 :: r.2)
def dsmades (code : List Int) : List Made × List Made := dmF (belowV (newC code) 4).toNat (belowC (newC code) 4)
theorem zFs_len : ∀ n, (zFs n).length = n
  | 0 => rfl
  | n + 1 => by simp [zFs, zFs_len n]
theorem madeV_log (c : Cur) (t : ByteArray) : (madeV c t).log.size ≤ 5 := pick_size (by decide) _ _
theorem anyP_ok {c : Cur} (hc : c.ok) : (anyP c).2.ok := by
  have h1 := belowC_ok hc 4
  obtain ⟨h2, _, _⟩ := madeP_ok h1
  have h3 := belowC_ok h2 8
  unfold anyP
  simp only
  split
  · exact belowC_ok h3 4
  · split
    · exact belowC_ok h3 2
    · split
      · exact h3
      · exact h3
theorem anyP_outs {c : Cur} (hc : c.ok) : (anyP c).1.outs.length ≤ 8 := by
  have h1 := belowC_ok hc 4
  obtain ⟨_, h2, _⟩ := madeP_ok h1
  have h3 : (madeV (belowC c 4) (pickS abxL c 4)).outs.length ≤ 2 := h2
  unfold anyP
  simp only
  split
  · simp only [List.length_append, List.length_cons, List.length_nil]; omega
  · split
    · exact Nat.le_trans h3 (by decide)
    · split
      · simp only [List.length_append, zFs_len]; omega
      · exact Nat.le_trans h3 (by decide)
theorem strOfNums_size (xs : List Int) : (strOfNums xs).size = xs.length := by simp [strOfNums, ByteArray.size]
theorem zFs_size : ∀ (n : Nat), ∀ x ∈ zFs n, x.path.size ≤ n + 2 ∧ x.text.size ≤ 5
  | 0, x, h => by simp [zFs] at h
  | n + 1, x, h => by
    simp only [zFs, List.mem_append, List.mem_singleton] at h
    rcases h with h | rfl
    · have := zFs_size n x h; exact ⟨by omega, this.2⟩
    · have := numT_size n
      refine ⟨?_, Nat.zero_le _⟩
      show (ByteArray.append _ _).size ≤ _
      have e : ((⟨#[122]⟩ : ByteArray) ++ numT n).size = 1 + (numT n).size := by rw [ByteArray.size_append]; rfl
      exact Nat.le_trans (Nat.le_of_eq e) (by omega)
theorem anyP_made {c : Cur} (hc : c.ok) : Made.ty.ok (anyP c).1 := by
  have h1 := belowC_ok hc 4
  obtain ⟨_, h2, h3⟩ := madeP_ok h1
  have ho := anyP_outs hc
  have ht : (pickS abxL c 4).size ≤ 7 := pick_size (by decide) _ _
  have hlog := madeV_log (belowC c 4) (pickS abxL c 4)
  have hz : ∀ x ∈ (anyP c).1.outs, x.path.size ≤ 8 ∧ x.text.size ≤ 5 := by
    have hb : ∀ x ∈ (madeV (belowC c 4) (pickS abxL c 4)).outs, x.path.size ≤ 8 ∧ x.text.size ≤ 5 := fun x hx => by have := h3 x hx; omega
    unfold anyP
    simp only
    split
    · intro x hx
      rcases List.mem_append.1 hx with hx | hx
      · exact hb x hx
      · simp only [List.mem_singleton] at hx
        subst hx
        have := pick_size (l := abzL) (n := 3) (by decide) (belowC (madeC (belowC c 4)) 8) 4
        exact ⟨Nat.le_trans this (by decide), Nat.zero_le _⟩
    · split
      · exact hb
      · split
        · intro x hx
          rcases List.mem_append.1 hx with hx | hx
          · exact hb x hx
          · exact zFs_size 6 x hx
        · exact hb
  have hlg : (anyP c).1.log.size ≤ 201 := by
    obtain ⟨q1, q2⟩ := belowV_rng (belowC (madeC (belowC c 4)) 8) (n := 2) (by omega)
    unfold anyP
    simp only
    split
    · exact Nat.le_trans hlog (by decide)
    · split
      · simp only [strOfNums_size, List.length_replicate]; omega
      · split
        · exact Nat.le_trans hlog (by decide)
        · exact Nat.le_trans hlog (by decide)
  have htk : (anyP c).1.task.size ≤ 7 := by
    unfold anyP
    simp only
    split
    · exact ht
    · split
      · exact ht
      · split
        · exact ht
        · exact ht
  refine ⟨show (anyP c).1.task.size ≤ 140737488351232 by omega, ⟨show (anyP c).1.outs.length * 32 ≤ 140737488351232 by omega, fun x hx => ?_⟩, show (anyP c).1.log.size ≤ 140737488351232 by omega, trivial⟩
  have := hz x hx
  exact ⟨show x.path.size ≤ 140737488351232 by omega, show x.text.size ≤ 140737488351232 by omega, trivial⟩
end Go.Proofs.Ytadoadomogceiaa.Am
