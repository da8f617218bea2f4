/- The functions of the program, each by its contract: Itoa; no condition. -/
import Derived.Test.YtaknfalbmblagaaDoorProg
import Derived.Test.YtaknfalbmblagaaDoorAmZ
import Derived.Test.YtaknfalbmblagaaDoorAmP
import Derived.Test.YtaknfalbmblagaaDoorAmL
import Derived.Test.YtaknfalbmblagaaDoorNum
import Derived.KernelRfl
namespace Go.Proofs.YtaknfalbmblagaaDoor.Am
open Go Go.Proofs
set_option linter.unusedSimpArgs false
set_option linter.unusedVariables false
attribute [local congr] T_congr callK_congr callWK_congr
attribute [local simp] run_nil run_op0 run_opg run_seq run_cond run_block run_ret run_skip run_skip_after run_skip_blk run_exit run_exit_after run_exit_blk run_loop run_any runS_nil runS_op0 runS_opg runW_nil runW_op0 runW_opg exec_q exec_w exec_c exec_n execW_q execW_w execW_c restW_app hideH_app merge_app wblk rest_app restS_app execS_q execS_c aval dOk upd_app ev_t ev_c setO_some setO_none put_mk pinsOf isIo hasIo sbin endR fin resL one outL out1 clo1 cloL coe coeL shut shut.shutL wantA weff cellsOf fillA deref natOf ρ0_app h0_app plain plain.plainL keep_app keepH_app andThen_normal andThen_ret andThen_exit pop_nil pop_after pop_after_ret pop_after_exit pop_blk pop_blk_ret pop_blk_exit nilA srcOf srcCells keepR_app keepHR_app renA rb
theorem digC_is (m : Nat) (h : m < 10) : digC (m : Int) = ⟨#[UInt8.ofNat (48 + m)]⟩ := by
  have : m = 0 ∨ m = 1 ∨ m = 2 ∨ m = 3 ∨ m = 4 ∨ m = 5 ∨ m = 6 ∨ m = 7 ∨ m = 8 ∨ m = 9 := by omega
  rcases this with rfl | rfl | rfl | rfl | rfl | rfl | rfl | rfl | rfl | rfl <;> rfl
theorem ba_app (a b : List UInt8) : (⟨a.toArray⟩ : ByteArray) ++ (⟨b.toArray⟩ : ByteArray) = ⟨(a ++ b).toArray⟩ := by
  apply ByteArray.ext
  simp [ByteArray.data_append]
theorem numF_dec : ∀ (k n : Nat) (b : ByteArray), n ≤ k → numF k n (digC ((n : Int) % 10) ++ b) = ⟨(Lib.decDigits n).toArray⟩ ++ b := by
  intro k
  induction k with
  | zero =>
    intro n b h
    obtain rfl : n = 0 := by omega
    rw [Lib.decDigits]; rfl
  | succ k ih =>
    intro n b h
    by_cases h9 : 9 < n
    · rw [numF, if_pos h9]
      have e1 : ((n : Int) / 10 % 10) = ((n / 10 : Nat) : Int) % 10 := by omega
      have hd : Lib.decDigits n = Lib.decDigits (n / 10) ++ [UInt8.ofNat (48 + n % 10)] := by rw [Lib.decDigits, dif_neg (by omega)]
      rw [e1, ih (n / 10) _ (by omega), hd]
      have e2 : ((n : Int) % 10) = ((n % 10 : Nat) : Int) := by omega
      rw [e2, digC_is _ (by omega), ← ba_app, ByteArray.append_assoc]
    · rw [numF, if_neg h9, Lib.decDigits, dif_pos (by omega)]
      have e2 : ((n : Int) % 10) = (n : Int) := by omega
      rw [e2, digC_is _ (by omega)]
theorem numT_dec (n : Nat) : (⟨(Lib.itoa n).toArray⟩ : ByteArray) = numT n := by
  have h := numF_dec n n ⟨#[]⟩ (Nat.le_refl _)
  have e : ∀ a : ByteArray, a ++ (⟨#[]⟩ : ByteArray) = a := fun a => by apply ByteArray.ext; simp [ByteArray.data_append]
  rw [e, e] at h
  rw [numT, h, Lib.itoa, if_neg (by omega)]
  rfl
theorem R62 (n : Int) (h0 : -9223372036854775808 ≤ n) (h1 : n ≤ 9223372036854775807) : Ret Tryd.prog 62 [.sc (.int .i64 n)] (.sc (.string ⟨(Lib.itoa n).toArray⟩)) [.un] :=
  Ret.itoaOf (fun n w h0 h1 ht => Any.strconv_Itoa Tryd.laysM171 n h0 h1 w ht) n h0 h1
/- 55: loop.example/g00464/impl.NumText -/
def A55 : AC := (.seq (.ops [⟨(some 2), none, .q (.mov (.c (.sc (.string ⟨#[]⟩))))⟩])
  (.seq (.ops [⟨(some 3), none, .q (.mov (.t 0))⟩, ⟨(some 4), none, .q (.mm false (.t 3) (.c (.sc (.int .i64 0))))⟩, ⟨(some 5), none, .c (.c (.clo 62 [])) [(.t 4)]⟩, ⟨(some 2), none, .q (.mov (.t 5))⟩])
  .ret))
theorem K55 : Tryd.f55.body.bind (comp Tryd.prog) = some A55 ∧ Tryd.f55.ntmps = 6 ∧ Tryd.f55.results.toList.mapM (resB Tryd.prog) = some [.mov (.t 2)] := ⟨by kernel_rfl, by kernel_rfl, by kernel_rfl⟩
theorem R55 (n : Nat) (hn : n < 4611686018427387904) : Ret Tryd.prog 55 [.sc (.int .i64 n)] (.sc (.string (numT n))) [.un] := by
  have h0 : ¬ ((n : Int) < 0) := by omega
  have r := R62 n (by omega) (by omega)
  rw [numT_dec] at r
  refine Ret.run Tryd.func55 K55 (by simp) rfl rfl 500 ?_
  simp [A55, iniρ, h0]
  refine callK.ro 0 rfl (by kernel_rfl) (by simp [roc_sc, upd_app]) r rfl rfl rfl ?_
  simp
end Go.Proofs.YtaknfalbmblagaaDoor.Am
