/- The functions of the program, each by its contract: Docs6; no condition. -/
import Derived.Test.YtadoadomogceiaaDoorProg
import Derived.Test.YtadoadomogceiaaDoorAmZ
import Derived.Test.YtadoadomogceiaaDoorAmP
import Derived.Test.YtadoadomogceiaaDoorDocs5
import Derived.KernelRfl
namespace Go.Proofs.YtadoadomogceiaaDoor.Am
open Go Go.Proofs
set_option linter.unusedSimpArgs false
set_option linter.unusedVariables false
attribute [local congr] T_congr callK_congr callWK_congr
attribute [local simp] run_nil run_op0 run_opg run_seq run_cond run_block run_ret run_skip run_skip_after run_skip_blk run_exit run_exit_after run_exit_blk run_loop run_any runS_nil runS_op0 runS_opg runW_nil runW_op0 runW_opg exec_q exec_w exec_c exec_n execW_q execW_w execW_c restW_app hideH_app merge_app wblk rest_app restS_app execS_q execS_c aval dOk upd_app ev_t ev_c setO_some setO_none put_mk pinsOf isIo hasIo sbin endR fin resL one outL out1 clo1 cloL coe coeL shut shut.shutL wantA weff cellsOf fillA deref natOf ρ0_app h0_app plain plain.plainL keep_app keepH_app andThen_normal andThen_ret andThen_exit pop_nil pop_after pop_after_ret pop_after_exit pop_blk pop_blk_ret pop_blk_exit nilA srcOf srcCells keepR_app keepHR_app renA rb
def stepS (t : ByteArray) (i : Nat) (x : Disk) : Disk := if i = 0 then ⟨x.sure, x.pend ++ [⟨1, newB, t⟩]⟩ else if i = 2 then ⟨x.sure, x.pend ++ [⟨2, newB, lockB⟩]⟩ else settleF x
def saveGo (t : ByteArray) : Nat → Nat → Disk → Disk
  | 0, _, x => x
  | n + 1, i, x => saveGo t n (i + 1) (stepS t i x)
def stepsN (s : Int) : Nat := if 0 ≤ s ∧ s ≤ 4 then s.toNat else 4
def saveF (d : Disk) (t : ByteArray) (s : Int) : Disk := if diskOk d = true ∧ d.pend.length ≤ 8 ∧ t.size ≤ 400 then saveGo t (stepsN s) 0 d else d
theorem one_ok : Ty.int.ok 1 := by constructor <;> decide
theorem two_ok : Ty.int.ok 2 := by constructor <;> decide
theorem newB_ok : Ty.str.ok newB := by show newB.size ≤ _; decide
theorem lockB_ok : Ty.str.ok lockB := by show lockB.size ≤ _; decide
theorem nilO_ok : Op.ty.slice.ok [] := ⟨by simp, by simp⟩
theorem settleF_ok {d : Disk} (hd : Disk.ty.ok d) : Disk.ty.ok (settleF d) := by
  unfold settleF
  split
  · exact ⟨docs_ok hd _, nilO_ok, trivial⟩
  · exact hd
theorem settleF_pend (d : Disk) : (settleF d).pend.length ≤ d.pend.length := by
  unfold settleF
  split
  · exact Nat.zero_le _
  · exact Nat.le_refl _
theorem snoc_ok {x : Disk} {o : Op} (hx : Disk.ty.ok x) (ho : Op.ty.ok o) (hl : x.pend.length ≤ 12) : Disk.ty.ok ⟨x.sure, x.pend ++ [o]⟩ := by
  refine ⟨hx.1, ⟨?_, fun y hy => ?_⟩, trivial⟩
  · show (x.pend ++ [o]).length * _ ≤ _
    rw [List.length_append]
    exact Nat.le_trans (Nat.mul_le_mul_right _ (show x.pend.length + [o].length ≤ 13 by simpa using hl)) (by decide)
  · rcases List.mem_append.1 hy with hy | hy
    · exact hx.2.1.2 y hy
    · simp at hy; subst hy; exact ho
theorem stepS_is {t : ByteArray} {i : Nat} {x : Disk} (ht : t.size ≤ 400) (hx : Disk.ty.ok x) (hl : x.pend.length ≤ 8 + i) (hi : i < 4) : Disk.ty.ok (stepS t i x) ∧ (stepS t i x).pend.length ≤ 8 + (i + 1) := by
  unfold stepS
  split
  · exact ⟨snoc_ok hx ⟨one_ok, newB_ok, Nat.le_trans ht (by decide), trivial⟩ (by omega), by simp; omega⟩
  · split
    · exact ⟨snoc_ok hx ⟨two_ok, newB_ok, lockB_ok, trivial⟩ (by omega), by simp; omega⟩
    · exact ⟨settleF_ok hx, by have := settleF_pend x; omega⟩
theorem stepsN_le (s : Int) : stepsN s ≤ 4 := by unfold stepsN; split <;> omega
/- 16: loop.example/g00464/impl.Save -/
def A16 : AC := (.seq (.ops [⟨(some 3), none, .w (.box (.t 0))⟩, ⟨(some 6), none, .w (.alloc [.em, .em])⟩])
  (.seq (.ops [⟨(some 9), none, .q (.load true 2 (.t 3))⟩, ⟨(some 10), none, .c (.c (.clo 41 [])) [(.t 9)]⟩, ⟨(some 7), none, .w (.alloc [.em, .em])⟩, ⟨none, none, .w (.store 2 (.t 7) (.t 10))⟩])
  (.seq (.seq (.ops [⟨(some 11), none, .q (.mov (.t 1))⟩, ⟨(some 12), none, .q (.slen (.t 11))⟩, ⟨(some 13), none, .q (.bin .gtr (.t 12) (.c (.sc (.int .i64 400))))⟩, ⟨(some 14), none, .q (.mov (.t 13))⟩, ⟨(some 15), (some (14, false)), .q (.load true 2 (.t 3))⟩, ⟨(some 16), (some (14, false)), .c (.c (.clo 19 [])) [(.t 15)]⟩, ⟨(some 17), (some (14, false)), .q (.not (.t 16))⟩, ⟨(some 18), none, .q (.pick (.t 14) (.c (.sc (.bool true))) (.t 17))⟩, ⟨(some 19), none, .q (.mov (.t 18))⟩, ⟨(some 20), (some (19, false)), .q (.fadr 1 (.t 3))⟩, ⟨(some 21), (some (19, false)), .q (.load false 1 (.t 20))⟩, ⟨(some 22), (some (19, false)), .q (.llen (.t 21))⟩, ⟨(some 23), (some (19, false)), .q (.bin .add (.t 22) (.c (.sc (.int .i64 2))))⟩, ⟨(some 24), (some (19, false)), .q (.bin .gtr (.t 23) (.c (.sc (.int .i64 10))))⟩, ⟨(some 25), none, .q (.pick (.t 19) (.c (.sc (.bool true))) (.t 24))⟩])
  (.cond (.t 25) (.seq (.ops [⟨(some 26), none, .q (.load true 2 (.t 7))⟩, ⟨none, none, .w (.store 2 (.t 6) (.t 26))⟩])
  .ret)
  .skip))
  (.seq (.seq (.ops [⟨(some 27), none, .q (.mov (.t 2))⟩, ⟨(some 28), none, .c (.c (.clo 42 [])) [(.t 27), (.c (.sc (.int .i64 0))), (.c (.sc (.int .i64 4)))]⟩, ⟨(some 29), none, .q (.not (.t 28))⟩])
  (.cond (.t 29) (.ops [⟨(some 2), none, .q (.mov (.c (.sc (.int .i64 4))))⟩])
  .skip))
  (.seq (.seq (.ops [⟨(some 30), none, .q (.mov (.t 2))⟩, ⟨(some 31), none, .q (.mov (.c (.sc (.int .i64 0))))⟩])
  (.block 0 (.loop (.seq (.ops [⟨(some 32), none, .q (.bin .lss (.t 31) (.t 30))⟩])
  (.seq (.cond (.t 32) .skip
  (.exit 0))
  (.seq (.block 1 (.seq (.ops [⟨(some 33), none, .q (.mov (.t 31))⟩, ⟨(some 8), none, .q (.mov (.t 33))⟩])
  (.seq (.ops [⟨(some 34), none, .q (.mov (.t 8))⟩])
  (.block 2 (.seq (.ops [⟨(some 38), none, .q (.bin .eql (.t 34) (.c (.sc (.int .i64 0))))⟩, ⟨(some 37), none, .q (.mov (.t 38))⟩])
  (.cond (.t 37) (.ops [⟨(some 39), none, .q (.fadr 1 (.t 7))⟩, ⟨(some 40), none, .q (.load false 1 (.t 39))⟩, ⟨(some 41), none, .q (.mov (.t 1))⟩, ⟨(some 42), none, .w (.build [(.sc (.int .i64 0)), (.sc (.string ⟨#[]⟩)), (.sc (.string ⟨#[]⟩))] [(0, 1, (.c (.sc (.int .i64 1)))), (1, 1, (.c (.sc (.string ⟨#[110, 101, 119]⟩)))), (2, 1, (.t 41))])⟩, ⟨(some 43), none, .w (.bsl 3 1 [(.sc (.int .i64 0)), (.sc (.string ⟨#[]⟩)), (.sc (.string ⟨#[]⟩))] [(0, 3, (.t 42))])⟩, ⟨(some 44), none, .w (.app 3 40 false (.t 40) (.t 43))⟩, ⟨(some 45), none, .q (.fadr 1 (.t 7))⟩, ⟨none, none, .w (.store 1 (.t 45) (.t 44))⟩])
  (.seq (.ops [⟨(some 47), none, .q (.bin .eql (.t 34) (.c (.sc (.int .i64 2))))⟩, ⟨(some 46), none, .q (.mov (.t 47))⟩])
  (.cond (.t 46) (.ops [⟨(some 48), none, .q (.fadr 1 (.t 7))⟩, ⟨(some 49), none, .q (.load false 1 (.t 48))⟩, ⟨(some 50), none, .w (.build [(.sc (.int .i64 0)), (.sc (.string ⟨#[]⟩)), (.sc (.string ⟨#[]⟩))] [(0, 1, (.c (.sc (.int .i64 2)))), (1, 1, (.c (.sc (.string ⟨#[110, 101, 119]⟩)))), (2, 1, (.c (.sc (.string ⟨#[108, 111, 99, 107]⟩))))])⟩, ⟨(some 51), none, .w (.bsl 3 1 [(.sc (.int .i64 0)), (.sc (.string ⟨#[]⟩)), (.sc (.string ⟨#[]⟩))] [(0, 3, (.t 50))])⟩, ⟨(some 52), none, .w (.app 3 40 false (.t 49) (.t 51))⟩, ⟨(some 53), none, .q (.fadr 1 (.t 7))⟩, ⟨none, none, .w (.store 1 (.t 53) (.t 52))⟩])
  (.ops [⟨(some 35), none, .q (.load true 2 (.t 7))⟩, ⟨(some 36), none, .c (.c (.clo 43 [])) [(.t 35)]⟩, ⟨none, none, .w (.store 2 (.t 7) (.t 36))⟩])))))))))
  (.ops [⟨(some 54), none, .q (.bin .add (.t 31) (.c (.sc (.int .i64 1))))⟩, ⟨(some 31), none, .q (.mov (.t 54))⟩])))))))
  (.seq (.ops [⟨(some 55), none, .q (.load true 2 (.t 7))⟩, ⟨none, none, .w (.store 2 (.t 6) (.t 55))⟩])
  .ret))))))
theorem K16 : Tryd.f16.body.bind (comp Tryd.prog) = some A16 ∧ Tryd.f16.ntmps = 56 ∧ Tryd.f16.results.toList.mapM (resB Tryd.prog) = some [.load true 2 (.t 6)] := ⟨by kernel_rfl, by kernel_rfl, by kernel_rfl⟩
set_option maxHeartbeats 2000000 in
theorem R16 (d : Disk) (t : ByteArray) (s : Int) (hd : Disk.ty.ok d) : Ret Tryd.prog 16 [.agg (Disk.ty.cs d), .sc (.string t), .sc (.int .i64 s)] (.agg (Disk.ty.oc (saveF d t s))) [.un, .un, .un] := by
  have hb1 : d.sure.length * 32 ≤ 140737488351232 := hd.1.1
  have hb2 : d.pend.length * 40 ≤ 140737488351232 := hd.2.1.1
  have hwp : IntKind.i64.wrap ((d.pend.length : Int) + 2) = d.pend.length + 2 := wrap_i64 (by omega) (by omega)
  refine Ret.run Tryd.func16 K16 (by simp) rfl rfl 900 ?_
  have hpl : plain.plainL (Disk.ty.cs d) = true := Disk.ty.plL d
  have hfo : flt (.agg (Disk.ty.oc d)) = true := by simpa [flt] using Disk.ty.flL d
  simp [A16, iniρ, Disk.cse, hpl]
  refine callK.ro 10 rfl (by kernel_rfl) (ys := [.agg (Disk.ty.cs d)]) (by simp [roc_agg, upd_app, Disk.cse]) (R41 d hd) hfo (by simp [inst, instL, Disk.oce, upd_app]; exact ⟨rfl, rfl⟩) rfl ?_
  by_cases ht : t.size ≤ 400
  case neg =>
    have ht' : (400 : Int) < t.size := by omega
    have hS : saveF d t s = d := by unfold saveF; rw [if_neg (fun h => ht h.2.2)]
    rw [hS]
    simp [over, Disk.oce, ex1, Doc.ocl, Doc.frL, Op.ocl, Op.frL, ht']
  have ht' : ¬ (400 : Int) < t.size := by omega
  simp [over, ht', hpl]
  refine callK.ro 0 rfl (by kernel_rfl) (ys := [.agg (Disk.ty.cs d)]) (by simp [roc_agg, upd_app, Disk.cse]) (R19 d hd) rfl rfl rfl ?_
  cases hok : diskOk d
  case false =>
    have hS : saveF d t s = d := by unfold saveF; rw [if_neg (by simp [hok])]
    rw [hS]
    simp [over, Disk.oce, ex1, Doc.ocl, Doc.frL, Op.ocl, Op.frL]
  by_cases h8 : d.pend.length ≤ 8
  case neg =>
    have h8' : (10 : Int) < d.pend.length + 2 := by omega
    have hS : saveF d t s = d := by unfold saveF; rw [if_neg (fun h => h8 h.2.1)]
    rw [hS]
    simp [over, Disk.oce, ex1, Doc.ocl, Doc.frL, Op.ocl, Op.frL, h8', hwp]
  have h8' : ¬ (10 : Int) < d.pend.length + 2 := by omega
  have hS : saveF d t s = saveGo t (stepsN s) 0 d := by unfold saveF; rw [if_pos ⟨hok, h8, ht⟩]
  rw [hS]
  obtain ⟨N, hN⟩ : ∃ N, N = stepsN s := ⟨_, rfl⟩
  have hN4 : N ≤ 4 := by rw [hN]; exact stepsN_le s
  rw [← hN]
  simp [h8', ht', hwp]
  refine callK.ro 0 rfl (by kernel_rfl) (by simp [roc_sc, upd_app]) (R42 s 0 4) rfl rfl rfl ?_
  by_cases hr : 0 ≤ s ∧ s ≤ 4
  case pos =>
    have hs : (s : Int) = N := by rw [hN]; unfold stepsN; rw [if_pos hr]; omega
    have hrI : inR s 0 4 = true := by simp [inR, hr.1, hr.2]
    simp [hrI]
    refine T.ex (I := fun s => s.ρ 1 = .sc (.string t) ∧ s.ρ 6 = .ref 6 0 ∧ s.ρ 7 = .ref 7 0 ∧ s.ρ 30 = .sc (.int .i64 N) ∧ s.ρ 31 = .sc (.int .i64 0) ∧ s.h 6 = some (some [.em, .em]) ∧ s.h 7 = some (some (Disk.ty.oc d)) ∧ (∀ b, b ≠ 6 → b ≠ 7 → s.h b = none) ∧ s.n = 56)
      (Disk.packL [1, 6, 7, 30, 31] [6, 7] 7 11000 11001 d (by simp [upd_app]) (by simp [upd_app]) (by simp [upd_app]) (by decide) (by decide) (by decide) (by decide) (by decide) (by decide) (by simp [upd_app, menB, idfree]) (by simp [upd_app, idfree]) ?_) ?_
    · intro h' k1 k2
      refine ⟨by simp [upd_app], by simp [upd_app], by simp [upd_app], by simp [upd_app, hs], by simp [upd_app], ?_, k1, fun b b6 b7 => ?_, rfl⟩
      · have := k2 6 (by decide); simpa [upd_app] using this
      · have := k2 b b7; simpa [b6, b7] using this
    rintro ⟨ρ0, h0, n0⟩ ⟨i1, i6, i7, i30, i31, j6, j7, jf, rfl⟩
    simp only at i1 i6 i7 i30 i31 j6 j7 jf
    refine T.rounds (μ := fun i : Nat × Nat × Disk => i.1)
      (fun i s => i.1 + i.2.1 = N ∧ saveGo t i.1 i.2.1 i.2.2 = saveGo t N 0 d ∧ Disk.ty.ok i.2.2 ∧ i.2.2.pend.length ≤ 8 + i.2.1 ∧ s.ρ 1 = .sc (.string t) ∧ s.ρ 6 = .ref 6 0 ∧ s.ρ 7 = .ref 7 0 ∧ s.ρ 30 = .sc (.int .i64 N) ∧ s.ρ 31 = .sc (.int .i64 i.2.1) ∧ s.h 6 = some (some [.em, .em]) ∧ s.h 7 = some (some (Disk.ty.oc i.2.2)) ∧ (∀ b, b ≠ 6 → b ≠ 7 → s.h b = none) ∧ s.n = 56) (N, 0, d) ⟨rfl, rfl, hd, h8, i1, i6, i7, i30, i31, j6, j7, jf, rfl⟩ ?_
    clear i1 i6 i7 i30 i31 j6 j7 jf
    rintro ⟨k, i, x⟩ ⟨ρ, hh0, n⟩ ⟨hki, hE, hxo, hxl, k1, k6, k7, k30, k31, b6, b7, bf, rfl⟩
    simp only at hki hE hxo hxl k1 k6 k7 k30 k31 b6 b7 bf
    obtain ⟨hh, o1, o2, o3, o4, o5⟩ := Disk.openB (ρ := ρ) (n := 56) 7 5000 x b7 (bf _ (by decide) (by decide)) (bf _ (by decide) (by decide)) (by decide)
    refine T.le o1 ?_
    have b6' : hh 6 = some (some [.em, .em]) := by rw [o5 6 (by decide) (by decide) (by decide), b6]
    have bf' : ∀ b, b ≠ 6 → b ≠ 7 → b ≠ 5000 → b ≠ 5001 → hh b = none := fun b c1 c2 c3 c4 => by rw [o5 b c2 c3 c4, bf b c1 c2]
    have g43 := bf' 43 (by decide) (by decide) (by decide) (by decide)
    have g44 := bf' 44 (by decide) (by decide) (by decide) (by decide)
    have g51 := bf' 51 (by decide) (by decide) (by decide) (by decide)
    have g52 := bf' 52 (by decide) (by decide) (by decide) (by decide)
    refine run_ok (n := 400) ?_
    cases k with
    | zero =>
      have hiN : i = N := by omega
      subst hiN
      simp only [saveGo] at hE
      rw [← hE]
      simp [k30, k31]
      refine T.on 400 ?_
      simp [k6, k7, o2, o3, o4, b6', over, Disk.oce, ex1, Doc.ocl, Doc.frL, Op.ocl, Op.frL]
    | succ k =>
      have hlt : (i : Int) < N := by omega
      have hltn : i < N := by omega
      have hw1 : IntKind.i64.wrap ((i : Int) + 1) = i + 1 := wrap_i64 (by omega) (by omega)
      obtain ⟨q1, q2⟩ := stepS_is ht hxo hxl (show i < 4 by omega)
      have hcap : (x.pend.length + 1) * 40 ≤ 140737488355328 := by omega
      rw [saveGo] at hE
      have fin : ∀ (d1 d2 : Nat) (y : Disk) (ρ' : Nat → AV) (h2 : Hp), y = stepS t i x → h2 7 = some (some [.sl d1 0 y.sure.length 2 false, .sl d2 0 y.pend.length 3 false]) → h2 d1 = some (some (rows Doc.ty.oc y.sure)) → h2 d2 = some (some (rows Op.ty.oc y.pend)) → h2 6 = some (some [.em, .em]) → d1 ≠ d2 → 7 ≠ d1 → 7 ≠ d2 → d1 ≠ 6 → d2 ≠ 6 →
          ρ' 1 = .sc (.string t) → ρ' 6 = .ref 6 0 → ρ' 7 = .ref 7 0 → ρ' 30 = .sc (.int .i64 N) → ρ' 31 = .sc (.int .i64 ((i : Int) + 1)) →
          ∃ s, Le ⟨ρ', h2, 56⟩ s ∧ k + (i + 1) = N ∧ saveGo t k (i + 1) y = saveGo t N 0 d ∧ Disk.ty.ok y ∧ y.pend.length ≤ 8 + (i + 1) ∧ s.ρ 1 = .sc (.string t) ∧ s.ρ 6 = .ref 6 0 ∧ s.ρ 7 = .ref 7 0 ∧ s.ρ 30 = .sc (.int .i64 N) ∧ s.ρ 31 = .sc (.int .i64 ((i + 1 : Nat) : Int)) ∧ s.h 6 = some (some [.em, .em]) ∧ s.h 7 = some (some (Disk.ty.oc y)) ∧ (∀ b, b ≠ 6 → b ≠ 7 → s.h b = none) ∧ s.n = 56 := by
        intro d1 d2 y ρ' h2 hy e1 e2 e3 e4 w1 w2 w3 w4 w5 r1 r2 r3 r4 r5
        refine Disk.packL [1, 6, 7, 30, 31] [6, 7] 7 d1 d2 y e1 e2 e3 w1 w2 w3 (by decide) (by simp [w4, w2.symm]) (by simp [w5, w3.symm]) (by simp [menB, idfree, r1, r2, r3, r4, r5]) (by simp [e4, idfree]) ?_
        intro h' p1 p2
        refine ⟨by omega, by rw [hy]; exact hE, by rw [hy]; exact q1, by rw [hy]; exact q2, by simp [r1], by simp [r2], by simp [r3], by simp [r4], by simp [r5], ?_, p1, fun b c6 c7 => ?_, rfl⟩
        · have := p2 6 (by decide); simpa [e4] using this
        · have := p2 b c7; simpa [c6, c7] using this
      by_cases hi0 : i = 0
      · have hsS : (⟨x.sure, x.pend ++ [⟨1, newB, t⟩]⟩ : Disk) = stepS t i x := by unfold stepS; rw [if_pos hi0]
        have hap : rows Op.ty.oc x.pend ++ [.sc (.int .i64 1), .sc (.string ⟨#[110, 101, 119]⟩), .sc (.string t)] = rows Op.ty.oc (x.pend ++ [⟨1, newB, t⟩]) := by rw [rows_append]; simp [rows_cons, rows_nil, Op.oce, newB]
        subst hi0
        have hz : IntKind.i64.wrap 1 = 1 := by decide
        simp [k1, k7, k30, k31, hltn, o2, o4, g43, g44, over, Op.ocl, hcap, hap, hz]
        refine ⟨k, by omega, 1, _, fin 5000 44 _ _ _ hsS (by simp [upd_app, o2]) (by simp [upd_app, o3]) (by simp [upd_app]) (by simp [upd_app, b6']) (by decide) (by decide) (by decide) (by decide) (by decide) (by simp [upd_app, k1]) (by simp [upd_app, k6]) (by simp [upd_app, k7]) (by simp [upd_app, k30]) (by simp [upd_app])⟩
      by_cases hi2 : i = 2
      · have hsS : (⟨x.sure, x.pend ++ [⟨2, newB, lockB⟩]⟩ : Disk) = stepS t i x := by unfold stepS; rw [if_neg hi0, if_pos hi2]
        have hap : rows Op.ty.oc x.pend ++ [.sc (.int .i64 2), .sc (.string ⟨#[110, 101, 119]⟩), .sc (.string ⟨#[108, 111, 99, 107]⟩)] = rows Op.ty.oc (x.pend ++ [⟨2, newB, lockB⟩]) := by rw [rows_append]; simp [rows_cons, rows_nil, Op.oce, newB, lockB]
        subst hi2
        have hz : IntKind.i64.wrap 3 = 3 := by decide
        have hlt2 : (2 : Int) < N := by omega
        simp [k1, k7, k30, k31, hlt2, o2, o4, g51, g52, over, Op.ocl, hcap, hap, hz]
        refine ⟨k, by omega, 3, _, fin 5000 52 _ _ _ hsS (by simp [upd_app, o2]) (by simp [upd_app, o3]) (by simp [upd_app]) (by simp [upd_app, b6']) (by decide) (by decide) (by decide) (by decide) (by decide) (by simp [upd_app, k1]) (by simp [upd_app, k6]) (by simp [upd_app, k7]) (by simp [upd_app, k30]) (by simp [upd_app])⟩
      · have hsS : settleF x = stepS t i x := by unfold stepS; rw [if_neg hi0, if_neg hi2]
        have hi0' : ¬ ((i : Int) = 0) := by omega
        have hi2' : ¬ ((i : Int) = 2) := by omega
        have hf : flt (.agg (Disk.ty.oc (settleF x))) = true := by simpa [flt] using Disk.ty.flL (settleF x)
        simp [k1, k7, k30, k31, hlt, hltn, hi0, hi0', hi2', o2]
        refine callK.ro 36 rfl (by kernel_rfl) (ys := [.agg (Disk.ty.cs x)]) (by simp [roc_agg8, List.mapM_cons, List.mapM_nil, Doc.roc7, Op.roc7, o3, o4, Disk.cse]) (R43 x hxo) hf (by simp [inst, instL, Disk.oce, upd_app, bf']; exact ⟨rfl, rfl⟩) rfl ?_
        simp [k7, k31, o2, over, hw1]
        refine ⟨k, by omega, i + 1, _, fin 37000 37001 _ _ _ hsS (by simp [upd_app]) (by simp [upd_app]) (by simp [upd_app]) (by simp [upd_app, b6']) (by decide) (by decide) (by decide) (by decide) (by decide) (by simp [upd_app, k1]) (by simp [upd_app, k6]) (by simp [upd_app, k7]) (by simp [upd_app, k30]) (by simp [upd_app])⟩
  case neg =>
    have hs : (4 : Int) = N := by rw [hN]; unfold stepsN; rw [if_neg hr]; rfl
    have hrI : inR s 0 4 = false := by
      cases h : inR s 0 4
      · rfl
      · exact absurd (by simpa [inR] using h) hr
    simp [hrI]
    refine T.ex (I := fun s => s.ρ 1 = .sc (.string t) ∧ s.ρ 6 = .ref 6 0 ∧ s.ρ 7 = .ref 7 0 ∧ s.ρ 30 = .sc (.int .i64 N) ∧ s.ρ 31 = .sc (.int .i64 0) ∧ s.h 6 = some (some [.em, .em]) ∧ s.h 7 = some (some (Disk.ty.oc d)) ∧ (∀ b, b ≠ 6 → b ≠ 7 → s.h b = none) ∧ s.n = 56)
      (Disk.packL [1, 6, 7, 30, 31] [6, 7] 7 11000 11001 d (by simp [upd_app]) (by simp [upd_app]) (by simp [upd_app]) (by decide) (by decide) (by decide) (by decide) (by decide) (by decide) (by simp [upd_app, menB, idfree]) (by simp [upd_app, idfree]) ?_) ?_
    · intro h' k1 k2
      refine ⟨by simp [upd_app], by simp [upd_app], by simp [upd_app], by simp [upd_app, hs], by simp [upd_app], ?_, k1, fun b b6 b7 => ?_, rfl⟩
      · have := k2 6 (by decide); simpa [upd_app] using this
      · have := k2 b b7; simpa [b6, b7] using this
    rintro ⟨ρ0, h0, n0⟩ ⟨i1, i6, i7, i30, i31, j6, j7, jf, rfl⟩
    simp only at i1 i6 i7 i30 i31 j6 j7 jf
    refine T.rounds (μ := fun i : Nat × Nat × Disk => i.1)
      (fun i s => i.1 + i.2.1 = N ∧ saveGo t i.1 i.2.1 i.2.2 = saveGo t N 0 d ∧ Disk.ty.ok i.2.2 ∧ i.2.2.pend.length ≤ 8 + i.2.1 ∧ s.ρ 1 = .sc (.string t) ∧ s.ρ 6 = .ref 6 0 ∧ s.ρ 7 = .ref 7 0 ∧ s.ρ 30 = .sc (.int .i64 N) ∧ s.ρ 31 = .sc (.int .i64 i.2.1) ∧ s.h 6 = some (some [.em, .em]) ∧ s.h 7 = some (some (Disk.ty.oc i.2.2)) ∧ (∀ b, b ≠ 6 → b ≠ 7 → s.h b = none) ∧ s.n = 56) (N, 0, d) ⟨rfl, rfl, hd, h8, i1, i6, i7, i30, i31, j6, j7, jf, rfl⟩ ?_
    clear i1 i6 i7 i30 i31 j6 j7 jf
    rintro ⟨k, i, x⟩ ⟨ρ, hh0, n⟩ ⟨hki, hE, hxo, hxl, k1, k6, k7, k30, k31, b6, b7, bf, rfl⟩
    simp only at hki hE hxo hxl k1 k6 k7 k30 k31 b6 b7 bf
    obtain ⟨hh, o1, o2, o3, o4, o5⟩ := Disk.openB (ρ := ρ) (n := 56) 7 5000 x b7 (bf _ (by decide) (by decide)) (bf _ (by decide) (by decide)) (by decide)
    refine T.le o1 ?_
    have b6' : hh 6 = some (some [.em, .em]) := by rw [o5 6 (by decide) (by decide) (by decide), b6]
    have bf' : ∀ b, b ≠ 6 → b ≠ 7 → b ≠ 5000 → b ≠ 5001 → hh b = none := fun b c1 c2 c3 c4 => by rw [o5 b c2 c3 c4, bf b c1 c2]
    have g43 := bf' 43 (by decide) (by decide) (by decide) (by decide)
    have g44 := bf' 44 (by decide) (by decide) (by decide) (by decide)
    have g51 := bf' 51 (by decide) (by decide) (by decide) (by decide)
    have g52 := bf' 52 (by decide) (by decide) (by decide) (by decide)
    refine run_ok (n := 400) ?_
    cases k with
    | zero =>
      have hiN : i = N := by omega
      subst hiN
      simp only [saveGo] at hE
      rw [← hE]
      simp [k30, k31]
      refine T.on 400 ?_
      simp [k6, k7, o2, o3, o4, b6', over, Disk.oce, ex1, Doc.ocl, Doc.frL, Op.ocl, Op.frL]
    | succ k =>
      have hlt : (i : Int) < N := by omega
      have hltn : i < N := by omega
      have hw1 : IntKind.i64.wrap ((i : Int) + 1) = i + 1 := wrap_i64 (by omega) (by omega)
      obtain ⟨q1, q2⟩ := stepS_is ht hxo hxl (show i < 4 by omega)
      have hcap : (x.pend.length + 1) * 40 ≤ 140737488355328 := by omega
      rw [saveGo] at hE
      have fin : ∀ (d1 d2 : Nat) (y : Disk) (ρ' : Nat → AV) (h2 : Hp), y = stepS t i x → h2 7 = some (some [.sl d1 0 y.sure.length 2 false, .sl d2 0 y.pend.length 3 false]) → h2 d1 = some (some (rows Doc.ty.oc y.sure)) → h2 d2 = some (some (rows Op.ty.oc y.pend)) → h2 6 = some (some [.em, .em]) → d1 ≠ d2 → 7 ≠ d1 → 7 ≠ d2 → d1 ≠ 6 → d2 ≠ 6 →
          ρ' 1 = .sc (.string t) → ρ' 6 = .ref 6 0 → ρ' 7 = .ref 7 0 → ρ' 30 = .sc (.int .i64 N) → ρ' 31 = .sc (.int .i64 ((i : Int) + 1)) →
          ∃ s, Le ⟨ρ', h2, 56⟩ s ∧ k + (i + 1) = N ∧ saveGo t k (i + 1) y = saveGo t N 0 d ∧ Disk.ty.ok y ∧ y.pend.length ≤ 8 + (i + 1) ∧ s.ρ 1 = .sc (.string t) ∧ s.ρ 6 = .ref 6 0 ∧ s.ρ 7 = .ref 7 0 ∧ s.ρ 30 = .sc (.int .i64 N) ∧ s.ρ 31 = .sc (.int .i64 ((i + 1 : Nat) : Int)) ∧ s.h 6 = some (some [.em, .em]) ∧ s.h 7 = some (some (Disk.ty.oc y)) ∧ (∀ b, b ≠ 6 → b ≠ 7 → s.h b = none) ∧ s.n = 56 := by
        intro d1 d2 y ρ' h2 hy e1 e2 e3 e4 w1 w2 w3 w4 w5 r1 r2 r3 r4 r5
        refine Disk.packL [1, 6, 7, 30, 31] [6, 7] 7 d1 d2 y e1 e2 e3 w1 w2 w3 (by decide) (by simp [w4, w2.symm]) (by simp [w5, w3.symm]) (by simp [menB, idfree, r1, r2, r3, r4, r5]) (by simp [e4, idfree]) ?_
        intro h' p1 p2
        refine ⟨by omega, by rw [hy]; exact hE, by rw [hy]; exact q1, by rw [hy]; exact q2, by simp [r1], by simp [r2], by simp [r3], by simp [r4], by simp [r5], ?_, p1, fun b c6 c7 => ?_, rfl⟩
        · have := p2 6 (by decide); simpa [e4] using this
        · have := p2 b c7; simpa [c6, c7] using this
      by_cases hi0 : i = 0
      · have hsS : (⟨x.sure, x.pend ++ [⟨1, newB, t⟩]⟩ : Disk) = stepS t i x := by unfold stepS; rw [if_pos hi0]
        have hap : rows Op.ty.oc x.pend ++ [.sc (.int .i64 1), .sc (.string ⟨#[110, 101, 119]⟩), .sc (.string t)] = rows Op.ty.oc (x.pend ++ [⟨1, newB, t⟩]) := by rw [rows_append]; simp [rows_cons, rows_nil, Op.oce, newB]
        subst hi0
        have hz : IntKind.i64.wrap 1 = 1 := by decide
        simp [k1, k7, k30, k31, hltn, o2, o4, g43, g44, over, Op.ocl, hcap, hap, hz]
        refine ⟨k, by omega, 1, _, fin 5000 44 _ _ _ hsS (by simp [upd_app, o2]) (by simp [upd_app, o3]) (by simp [upd_app]) (by simp [upd_app, b6']) (by decide) (by decide) (by decide) (by decide) (by decide) (by simp [upd_app, k1]) (by simp [upd_app, k6]) (by simp [upd_app, k7]) (by simp [upd_app, k30]) (by simp [upd_app])⟩
      by_cases hi2 : i = 2
      · have hsS : (⟨x.sure, x.pend ++ [⟨2, newB, lockB⟩]⟩ : Disk) = stepS t i x := by unfold stepS; rw [if_neg hi0, if_pos hi2]
        have hap : rows Op.ty.oc x.pend ++ [.sc (.int .i64 2), .sc (.string ⟨#[110, 101, 119]⟩), .sc (.string ⟨#[108, 111, 99, 107]⟩)] = rows Op.ty.oc (x.pend ++ [⟨2, newB, lockB⟩]) := by rw [rows_append]; simp [rows_cons, rows_nil, Op.oce, newB, lockB]
        subst hi2
        have hz : IntKind.i64.wrap 3 = 3 := by decide
        have hlt2 : (2 : Int) < N := by omega
        simp [k1, k7, k30, k31, hlt2, o2, o4, g51, g52, over, Op.ocl, hcap, hap, hz]
        refine ⟨k, by omega, 3, _, fin 5000 52 _ _ _ hsS (by simp [upd_app, o2]) (by simp [upd_app, o3]) (by simp [upd_app]) (by simp [upd_app, b6']) (by decide) (by decide) (by decide) (by decide) (by decide) (by simp [upd_app, k1]) (by simp [upd_app, k6]) (by simp [upd_app, k7]) (by simp [upd_app, k30]) (by simp [upd_app])⟩
      · have hsS : settleF x = stepS t i x := by unfold stepS; rw [if_neg hi0, if_neg hi2]
        have hi0' : ¬ ((i : Int) = 0) := by omega
        have hi2' : ¬ ((i : Int) = 2) := by omega
        have hf : flt (.agg (Disk.ty.oc (settleF x))) = true := by simpa [flt] using Disk.ty.flL (settleF x)
        simp [k1, k7, k30, k31, hlt, hltn, hi0, hi0', hi2', o2]
        refine callK.ro 36 rfl (by kernel_rfl) (ys := [.agg (Disk.ty.cs x)]) (by simp [roc_agg8, List.mapM_cons, List.mapM_nil, Doc.roc7, Op.roc7, o3, o4, Disk.cse]) (R43 x hxo) hf (by simp [inst, instL, Disk.oce, upd_app, bf']; exact ⟨rfl, rfl⟩) rfl ?_
        simp [k7, k31, o2, over, hw1]
        refine ⟨k, by omega, i + 1, _, fin 37000 37001 _ _ _ hsS (by simp [upd_app]) (by simp [upd_app]) (by simp [upd_app]) (by simp [upd_app, b6']) (by decide) (by decide) (by decide) (by decide) (by decide) (by simp [upd_app, k1]) (by simp [upd_app, k6]) (by simp [upd_app, k7]) (by simp [upd_app, k30]) (by simp [upd_app])⟩
end Go.Proofs.YtadoadomogceiaaDoor.Am
