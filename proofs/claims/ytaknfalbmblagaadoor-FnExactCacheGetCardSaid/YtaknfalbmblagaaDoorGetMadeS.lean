/- The functions of the program, each by its contract: GetMadeS; no condition. -/
import Derived.Test.YtaknfalbmblagaaDoorProg
import Derived.Test.YtaknfalbmblagaaDoorAmZ
import Derived.Test.YtaknfalbmblagaaDoorAmP
import Derived.Test.YtaknfalbmblagaaDoorGetMade
import Derived.KernelRfl
namespace Go.Proofs.YtaknfalbmblagaaDoor.Am
open Go Go.Proofs
set_option linter.unusedSimpArgs false
set_option linter.unusedVariables false
attribute [local congr] T_congr callK_congr callWK_congr
attribute [local simp] run_nil run_op0 run_opg run_seq run_cond run_block run_ret run_skip run_skip_after run_skip_blk run_exit run_exit_after run_exit_blk run_loop run_any runS_nil runS_op0 runS_opg runW_nil runW_op0 runW_opg exec_q exec_w exec_c exec_n execW_q execW_w execW_c restW_app hideH_app merge_app wblk rest_app restS_app execS_q execS_c aval dOk upd_app ev_t ev_c setO_some setO_none put_mk pinsOf isIo hasIo sbin endR fin resL one outL out1 clo1 cloL coe coeL shut shut.shutL wantA weff cellsOf fillA deref natOf ρ0_app h0_app plain plain.plainL keep_app keepH_app andThen_normal andThen_ret andThen_exit pop_nil pop_after pop_after_ret pop_after_exit pop_blk pop_blk_ret pop_blk_exit nilA srcOf srcCells keepR_app keepHR_app renA rb
def rdS (b : List Int) : Nat → Int → Bool → List File × Int × Bool
  | 0, a, bad => ([], a, bad)
  | k + 1, a, bad => if bad = true then ([], a, true) else (⟨(nextT b a bad).1, (nextT b (nextT b a bad).2.1 (nextT b a bad).2.2).1⟩ :: (rdS b k (nextT b (nextT b a bad).2.1 (nextT b a bad).2.2).2.1 (nextT b (nextT b a bad).2.1 (nextT b a bad).2.2).2.2).1, (rdS b k (nextT b (nextT b a bad).2.1 (nextT b a bad).2.2).2.1 (nextT b (nextT b a bad).2.1 (nextT b a bad).2.2).2.2).2)
def bodyOf (b : List Int) : List Int := b.take (b.length - 2)
def badSum (b : List Int) : Bool := (bodyOf b).sum % 65536 != (lenAt b (b.length - 2) : Int)
def rdR (b : List Int) : List File × Int × Bool := rdS (bodyOf b) ((parseN (rdH (bodyOf b) (badSum b)).2.2.1 1000).getD 0) (rdH (bodyOf b) (badSum b)).2.2.2.1 (rdH (bodyOf b) (badSum b)).2.2.2.2
def getS (b : List Int) : Option Made :=
  if 2 ≤ b.length ∧ (rdR b).2.2 = false ∧ (parseN (rdH (bodyOf b) (badSum b)).2.2.1 1000).isSome = true ∧ (rdR b).2.1 = ((b.length - 2 : Nat) : Int) then
    some ⟨(rdH (bodyOf b) (badSum b)).1, (rdR b).1, (rdH (bodyOf b) (badSum b)).2.1⟩ else none
/- 18: loop.example/g00464/spec.GetMade -/
def A18 : AC := (.seq (.ops [⟨(some 2), none, .w (.alloc [(.sc (.string ⟨#[]⟩)), .em, (.sc (.string ⟨#[]⟩))])⟩, ⟨(some 3), none, .q (.mov (.c (.sc (.bool false))))⟩])
  (.seq (.ops [⟨(some 11), none, .q (.mov (.t 0))⟩, ⟨(some 12), none, .q (.llen (.t 11))⟩, ⟨(some 13), none, .q (.bin .sub (.t 12) (.c (.sc (.int .i64 2))))⟩, ⟨(some 4), none, .q (.mov (.t 13))⟩])
  (.seq (.seq (.ops [⟨(some 14), none, .q (.mov (.t 4))⟩, ⟨(some 15), none, .q (.bin .lss (.t 14) (.c (.sc (.int .i64 0))))⟩])
  (.cond (.t 15) (.seq (.ops [⟨(some 16), none, .w (.build [(.sc (.string ⟨#[]⟩)), .em, (.sc (.string ⟨#[]⟩))] [])⟩, ⟨none, none, .w (.store 3 (.t 2) (.t 16))⟩, ⟨(some 3), none, .q (.mov (.c (.sc (.bool false))))⟩])
  .ret)
  .skip))
  (.seq (.any [(⟨(some 17), none, .q (.mov (.t 0))⟩, []), (⟨(some 18), none, .q (.mov (.t 4))⟩, []), (⟨(some 19), none, .q (.subl 1 (.t 17) none (some (.t 18)))⟩, [0, 1]), (⟨(some 20), none, .q (.mov (.t 0))⟩, []), (⟨(some 21), none, .q (.mov (.t 4))⟩, []), (⟨(some 22), none, .q (.subl 1 (.t 20) none (some (.t 21)))⟩, [3, 4]), (⟨(some 23), none, .c (.c (.clo 29 [])) [(.t 22)]⟩, [5]), (⟨(some 24), none, .q (.mov (.t 0))⟩, []), (⟨(some 25), none, .q (.mov (.t 4))⟩, []), (⟨(some 26), none, .q (.iadr 1 (.t 24) (.t 25))⟩, [7, 8]), (⟨(some 27), none, .q (.load false 1 (.t 26))⟩, [9]), (⟨(some 28), none, .q (.cvi .i64 (.t 27))⟩, [10]), (⟨(some 29), none, .q (.bin .shl (.t 28) (.c (.sc (.int .u64 8))))⟩, [11]), (⟨(some 30), none, .q (.mov (.t 0))⟩, []), (⟨(some 31), none, .q (.mov (.t 4))⟩, []), (⟨(some 32), none, .q (.bin .add (.t 31) (.c (.sc (.int .i64 1))))⟩, [14]), (⟨(some 33), none, .q (.iadr 1 (.t 30) (.t 32))⟩, [13, 15]), (⟨(some 34), none, .q (.load false 1 (.t 33))⟩, [16]), (⟨(some 35), none, .q (.cvi .i64 (.t 34))⟩, [17]), (⟨(some 36), none, .q (.bin .or (.t 29) (.t 35))⟩, [12, 18]), (⟨(some 37), none, .q (.bin .neq (.t 23) (.t 36))⟩, [6, 19]), (⟨(some 38), none, .w (.build [.em, (.sc (.int .i64 0)), (.sc (.bool false))] [(0, 1, (.t 19)), (2, 1, (.t 37))])⟩, [2, 20]), (⟨(some 39), none, .w (.box (.t 38))⟩, [21]), (⟨(some 5), none, .q (.mov (.t 39))⟩, [22, 6, 0, 1, 2, 3, 4, 5, 6, 7, 8, 9, 10, 11, 12, 13, 14, 15, 16, 17, 18, 19, 20, 21, 22])])
  (.seq (.ops [⟨(some 40), none, .q (.mov (.t 5))⟩, ⟨(some 41), none, .c (.c (.clo 30 [])) [(.t 40)]⟩, ⟨(some 42), none, .w (.build [(.sc (.string ⟨#[]⟩)), .em, (.sc (.string ⟨#[]⟩))] [(0, 1, (.t 41))])⟩, ⟨(some 6), none, .w (.alloc [(.sc (.string ⟨#[]⟩)), .em, (.sc (.string ⟨#[]⟩))])⟩, ⟨none, none, .w (.store 3 (.t 6) (.t 42))⟩])
  (.seq (.ops [⟨(some 43), none, .q (.mov (.t 5))⟩, ⟨(some 44), none, .c (.c (.clo 30 [])) [(.t 43)]⟩, ⟨(some 45), none, .q (.fadr 2 (.t 6))⟩, ⟨none, none, .w (.store 1 (.t 45) (.t 44))⟩])
  (.seq (.ops [⟨(some 47), none, .q (.mov (.t 5))⟩, ⟨(some 48), none, .c (.c (.clo 30 [])) [(.t 47)]⟩, ⟨(some 49), none, .c (.c (.clo 31 [])) [(.t 48), (.c (.sc (.int .i64 1000)))]⟩, ⟨(some 46), none, .q (.mov (.t 49))⟩, ⟨(some 50), none, .q (.ext (.t 46) 0)⟩, ⟨(some 51), none, .q (.ext (.t 46) 1)⟩, ⟨(some 7), none, .q (.mov (.t 50))⟩, ⟨(some 8), none, .q (.mov (.t 51))⟩])
  (.seq (.seq (.ops [⟨(some 9), none, .q (.mov (.c (.sc (.int .i64 0))))⟩])
  (.block 0 (.loop (.seq (.seq (.ops [⟨(some 52), none, .q (.mov (.t 9))⟩, ⟨(some 53), none, .q (.mov (.t 7))⟩, ⟨(some 54), none, .q (.bin .lss (.t 52) (.t 53))⟩, ⟨(some 55), none, .q (.mov (.t 54))⟩, ⟨(some 56), (some (55, true)), .q (.mov (.t 8))⟩, ⟨(some 57), none, .q (.pick (.t 55) (.t 56) (.c (.sc (.bool false))))⟩, ⟨(some 58), none, .q (.mov (.t 57))⟩, ⟨(some 59), (some (58, true)), .q (.mov (.t 5))⟩, ⟨(some 60), (some (58, true)), .q (.nilc (.t 59))⟩, ⟨(some 61), (some (58, true)), .q (.fadr 2 (.t 60))⟩, ⟨(some 62), (some (58, true)), .q (.load false 1 (.t 61))⟩, ⟨(some 63), (some (58, true)), .q (.not (.t 62))⟩, ⟨(some 64), none, .q (.pick (.t 58) (.t 63) (.c (.sc (.bool false))))⟩])
  (.cond (.t 64) .skip
  (.exit 0)))
  (.seq (.block 1 (.seq (.ops [⟨(some 67), none, .q (.mov (.t 5))⟩, ⟨(some 68), none, .c (.c (.clo 30 [])) [(.t 67)]⟩, ⟨(some 69), none, .w (.build [(.sc (.string ⟨#[]⟩)), (.sc (.string ⟨#[]⟩))] [(0, 1, (.t 68))])⟩, ⟨(some 10), none, .w (.alloc [(.sc (.string ⟨#[]⟩)), (.sc (.string ⟨#[]⟩))])⟩, ⟨none, none, .w (.store 2 (.t 10) (.t 69))⟩])
  (.seq (.ops [⟨(some 70), none, .q (.mov (.t 5))⟩, ⟨(some 71), none, .c (.c (.clo 30 [])) [(.t 70)]⟩, ⟨(some 72), none, .q (.fadr 1 (.t 10))⟩, ⟨none, none, .w (.store 1 (.t 72) (.t 71))⟩])
  (.ops [⟨(some 73), none, .q (.fadr 1 (.t 6))⟩, ⟨(some 74), none, .q (.load false 1 (.t 73))⟩, ⟨(some 75), none, .q (.load true 2 (.t 10))⟩, ⟨(some 76), none, .w (.bsl 2 1 [(.sc (.string ⟨#[]⟩)), (.sc (.string ⟨#[]⟩))] [(0, 2, (.t 75))])⟩, ⟨(some 77), none, .w (.app 2 32 false (.t 74) (.t 76))⟩, ⟨(some 78), none, .q (.fadr 1 (.t 6))⟩, ⟨none, none, .w (.store 1 (.t 78) (.t 77))⟩]))))
  (.ops [⟨(some 65), none, .q (.mov (.t 9))⟩, ⟨(some 66), none, .q (.bin .add (.t 65) (.c (.sc (.int .i64 1))))⟩, ⟨(some 9), none, .q (.mov (.t 66))⟩]))))))
  (.seq (.seq (.ops [⟨(some 79), none, .q (.mov (.t 5))⟩, ⟨(some 80), none, .q (.nilc (.t 79))⟩, ⟨(some 81), none, .q (.fadr 2 (.t 80))⟩, ⟨(some 82), none, .q (.load false 1 (.t 81))⟩, ⟨(some 83), none, .q (.mov (.t 82))⟩, ⟨(some 84), (some (83, false)), .q (.mov (.t 8))⟩, ⟨(some 85), (some (83, false)), .q (.not (.t 84))⟩, ⟨(some 86), none, .q (.pick (.t 83) (.c (.sc (.bool true))) (.t 85))⟩, ⟨(some 87), none, .q (.mov (.t 86))⟩, ⟨(some 88), (some (87, false)), .q (.mov (.t 5))⟩, ⟨(some 89), (some (87, false)), .q (.nilc (.t 88))⟩, ⟨(some 90), (some (87, false)), .q (.fadr 1 (.t 89))⟩, ⟨(some 91), (some (87, false)), .q (.load false 1 (.t 90))⟩, ⟨(some 92), (some (87, false)), .q (.mov (.t 4))⟩, ⟨(some 93), (some (87, false)), .q (.bin .neq (.t 91) (.t 92))⟩, ⟨(some 94), none, .q (.pick (.t 87) (.c (.sc (.bool true))) (.t 93))⟩])
  (.cond (.t 94) (.seq (.ops [⟨(some 95), none, .w (.build [(.sc (.string ⟨#[]⟩)), .em, (.sc (.string ⟨#[]⟩))] [])⟩, ⟨none, none, .w (.store 3 (.t 2) (.t 95))⟩, ⟨(some 3), none, .q (.mov (.c (.sc (.bool false))))⟩])
  .ret)
  .skip))
  (.seq (.ops [⟨(some 96), none, .q (.load true 3 (.t 6))⟩, ⟨none, none, .w (.store 3 (.t 2) (.t 96))⟩, ⟨(some 3), none, .q (.mov (.c (.sc (.bool true))))⟩])
  .ret))))))))))
theorem K18 : Tryd.f18.body.bind (comp Tryd.prog) = some A18 ∧ Tryd.f18.ntmps = 97 ∧ Tryd.f18.results.toList.mapM (resB Tryd.prog) = some [.load true 3 (.t 2), .mov (.t 3)] := ⟨by kernel_rfl, by kernel_rfl, by kernel_rfl⟩
set_option maxHeartbeats 4000000 in
theorem R18 (b : List Int) (hb : byteL b) (hl : b.length ≤ 140737488355328) : Ret Tryd.prog 18 [.ro (rows B b) b.length] (madeA (getS b)) [.un] := by
  by_cases h2 : 2 ≤ b.length
  case neg =>
    have hw0 : IntKind.i64.wrap ((b.length : Int) - 2) = b.length - 2 := wrap_i64 (by omega) (by omega)
    have hlt : (b.length : Int) - 2 < 0 := by omega
    have e : getS b = none := if_neg fun h => h2 h.1
    refine Ret.run Tryd.func18 K18 (by simp) rfl rfl 900 ?_
    simp [A18, iniρ, hw0, hlt, e, over, ex1, madeA, noMade, Made.oce, rows_nil, idfree.idfreeL]
  obtain ⟨k, hk⟩ : ∃ k, k = b.length - 2 := ⟨_, rfl⟩
  obtain ⟨c, hc⟩ : ∃ c, c = bodyOf b := ⟨_, rfl⟩
  have hcl : c.length = k := by rw [hc, bodyOf, List.length_take]; omega
  have hcb : byteL c := fun x hx => by rw [hc] at hx; exact hb x (List.mem_of_mem_take hx)
  have hw0 : IntKind.i64.wrap ((b.length : Int) - 2) = k := by rw [wrap_i64 (by omega) (by omega)]; omega
  have k1 : k + 1 < b.length := by omega
  have lt0 : k < b.length := by omega
  have nlt : ¬ ((k : Int) < 0) := by omega
  have nk : (0 : Int) ≤ (k : Int) + 1 := by omega
  have ilt0 : (k : Int) < b.length := by omega
  have ilt1 : (k : Int) + 1 < b.length := by omega
  have hkl : k ≤ b.length := by omega
  have wk : IntKind.i64.wrap ((k : Int) + 1) = k + 1 := wrap_i64 (by omega) (by omega)
  have ds : List.take k (rows B b) = rows B c := by
    have h := rows_takeN B.len b k hkl
    rw [Nat.mul_one] at h
    rw [h, hc, bodyOf, ← hk]
  have d0 : List.drop k (rows B b) = .sc (.int .u8 b[k]) :: rows B (b.drop (k + 1)) := by
    have h := rows_drop B.len (b.take k) (b.drop k)
    rw [List.take_append_drop, List.length_take, Nat.mul_one, Nat.min_eq_left (by omega), List.drop_eq_getElem_cons (by omega : k < b.length), rows_cons] at h
    exact h
  have d1 : List.drop (k + 1) (rows B b) = .sc (.int .u8 b[k + 1]) :: rows B (b.drop (k + 2)) := by
    have h := rows_drop B.len (b.take (k + 1)) (b.drop (k + 1))
    rw [List.take_append_drop, List.length_take, Nat.mul_one, Nat.min_eq_left (by omega), List.drop_eq_getElem_cons (by omega : k + 1 < b.length), rows_cons] at h
    exact h
  have q0 := hb b[k] (List.getElem_mem _)
  have q1 := hb b[k + 1] (List.getElem_mem _)
  obtain ⟨u, hu⟩ : ∃ u, u = b[k] := ⟨_, rfl⟩
  obtain ⟨v, hv⟩ : ∃ v, v = b[k + 1] := ⟨_, rfl⟩
  rw [← hu] at d0 q0
  rw [← hv] at d1 q1
  have hn : lenAt b k = u.toNat * 256 + v.toNat := by
    unfold lenAt
    rw [List.getElem?_eq_getElem (by omega : k < b.length), List.getElem?_eq_getElem (by omega : k + 1 < b.length), ← hu, ← hv]; rfl
  obtain ⟨m, hm⟩ : ∃ m, m = lenAt b k := ⟨_, rfl⟩
  have hor := or_bytes q0 q1
  rw [show u * 256 + v = (m : Int) by rw [hm, hn]; omega] at hor
  have wx : IntKind.i64.wrap u = u := wrap_i64 (by omega) (by omega)
  have wy : IntKind.i64.wrap v = v := wrap_i64 (by omega) (by omega)
  have ws : IntKind.i64.wrap (u * 2 ^ min 8 IntKind.i64.bits) = u * 256 := by
    have : (2 : Int) ^ min 8 IntKind.i64.bits = 256 := rfl
    rw [this]; exact wrap_i64 (by omega) (by omega)
  have hcl2 : c.length ≤ 140737488355328 := by omega
  have rS := R29 c hcb hcl2
  obtain ⟨B0, hB0⟩ : ∃ B0, B0 = badSum b := ⟨_, rfl⟩
  have hB1 : (c.sum % 65536 != (m : Int)) = B0 := by rw [hB0, badSum, ← hc, ← hk, hm]
  have g0 : (0 : Int) ≤ 0 ∧ (0 : Int) ≤ c.length := ⟨Int.le_refl _, by omega⟩
  have g1 := nextT_rng c 0 B0 g0
  have r1 := R30 c 0 B0 (int_ok hcl2 g0) hcb hcl2
  obtain ⟨x, hx⟩ : ∃ x, x = nextT c 0 B0 := ⟨_, rfl⟩
  rw [← hx] at g1 r1
  have g2 := nextT_rng c x.2.1 x.2.2 g1.2
  have r2 := R30 c x.2.1 x.2.2 (int_ok hcl2 g1.2) hcb hcl2
  obtain ⟨y, hy⟩ : ∃ y, y = nextT c x.2.1 x.2.2 := ⟨_, rfl⟩
  rw [← hy] at g2 r2
  have g3 := nextT_rng c y.2.1 y.2.2 g2.2
  have r3 := R30 c y.2.1 y.2.2 (int_ok hcl2 g2.2) hcb hcl2
  obtain ⟨z, hz⟩ : ∃ z, z = nextT c y.2.1 y.2.2 := ⟨_, rfl⟩
  rw [← hz] at g3 r3
  have hH : rdH c B0 = (x.1, y.1, z) := by unfold rdH; rw [← hx, ← hy, ← hz]
  have rp := R31 z.1 1000 (by constructor <;> decide) (by omega)
  obtain ⟨pn, hpn⟩ : ∃ pn, pn = parseN z.1 1000 := ⟨_, rfl⟩
  have hkk : pn.getD 0 ≤ 1000 := by
    cases h : pn with
    | none => exact Nat.zero_le _
    | some k => exact parseN_le (hpn.symm.trans h)
  rw [← hpn] at rp
  obtain ⟨N, hN⟩ : ∃ N, N = pn.getD 0 := ⟨_, rfl⟩
  rw [← hN] at hkk
  have hRR : rdR b = rdS c N z.2.1 z.2.2 := by
    unfold rdR
    rw [← hc, ← hB0, hH]
    simp only
    rw [← hpn, ← hN]
  have hgS : getS b = if (rdS c N z.2.1 z.2.2).2.2 = false ∧ pn.isSome = true ∧ (rdS c N z.2.1 z.2.2).2.1 = (k : Int) then some ⟨x.1, (rdS c N z.2.1 z.2.2).1, y.1⟩ else none := by
    unfold getS
    rw [hRR, ← hc, ← hB0, hH, ← hk]
    simp only
    rw [← hpn]
    by_cases cc : (rdS c N z.2.1 z.2.2).2.2 = false ∧ pn.isSome = true ∧ (rdS c N z.2.1 z.2.2).2.1 = (k : Int)
    · rw [if_pos cc, if_pos ⟨h2, cc.1, cc.2.1, cc.2.2⟩]
    · rw [if_neg cc, if_neg (fun h => cc ⟨h.2.1, h.2.2.1, h.2.2.2⟩)]
  obtain ⟨R, hR⟩ : ∃ R, R = rdS c N z.2.1 z.2.2 := ⟨_, rfl⟩
  rw [← hR] at hgS
  have hsN : 0 < N → pn.isSome = true := fun h => by
    cases hp : pn with
    | none => rw [hp] at hN; simp at hN; omega
    | some j => rfl
  have np : numA pn = .tup [.sc (.int .i64 N), .sc (.bool pn.isSome)] := by
    rw [hN]; cases pn <;> rfl
  rw [np] at rp
  rw [hgS]
  rw [hcl] at r1 r2 r3
  refine Ret.run Tryd.func18 K18 (by simp) rfl rfl 900 ?_
  simp [A18, iniρ, hw0, nlt]
  refine T.textW 400 [([], []), ([], []), ([], []), ([], []), ([], []), ([], []), ([], []), ([], []), ([], []), ([], []), ([], []), ([], []), ([], []), ([], []), ([], []), ([], []), ([], []), ([], []), ([], []), ([], []), ([], []), ([], []), ([39], []), ([], [])] mixed (by kernel_rfl) (by kernel_rfl) ?_
  simp [nlt, hkl, ds, merge_nil, hideH_nil]
  refine callWK.ro 0 rfl (by kernel_rfl) (ys := [.ro (rows B c) c.length]) (by simp [upd_app, roc_ro, hcl]) rS rfl rfl (by rfl) ?_
  simp [nlt, nk, hkl, ds, lt0, ilt0, ilt1, k1, d0, d1, wk, wx, wy, ws, hor, hB1, over, merge_nil, hideH_nil]
  refine callK.bx (b := 39) 0 rfl (by kernel_rfl) (by simp [upd_app]) (by simp [upd_app]) (by simp [idfree.idfreeL, idfree]) rfl (by simp) r1 rfl rfl rfl ?_
  simp [over]
  refine callK.bx (b := 39) 0 rfl (by kernel_rfl) (by simp [upd_app]) (by simp [upd_app]) (by simp [idfree.idfreeL, idfree]) rfl (by simp) r2 rfl rfl rfl ?_
  simp [over]
  refine callK.bx (b := 39) 0 rfl (by kernel_rfl) (by simp [upd_app]) (by simp [upd_app]) (by simp [idfree.idfreeL, idfree]) rfl (by simp) r3 rfl rfl rfl ?_
  simp [over]
  refine callK.ro 0 rfl (by kernel_rfl) (by simp [upd_app, roc_sc]) rp rfl (by simp [inst, instL, shut]; exact ⟨rfl, rfl⟩) rfl ?_
  simp
  refine T.le (Le.layC 6 1 2 (by simp [upd_app]; rfl) rfl) ?_
  refine T.rounds (μ := fun i : List File × Nat × Int × Opt => i.2.1)
    (fun i s => i.1.length + i.2.1 = N ∧ (0 ≤ i.2.2.1 ∧ i.2.2.1 ≤ c.length) ∧ (i.1 ++ (rdS c i.2.1 i.2.2.1 i.2.2.2.v).1, (rdS c i.2.1 i.2.2.1 i.2.2.2.v).2) = R ∧ s.ρ 2 = .ref 2 0 ∧ s.ρ 4 = .sc (.int .i64 k) ∧ s.ρ 5 = .ref 39 0 ∧ s.ρ 6 = .ref 6 0 ∧ s.ρ 7 = .sc (.int .i64 N) ∧ s.ρ 8 = .sc (.bool pn.isSome) ∧ s.ρ 9 = .sc (.int .i64 i.1.length) ∧
      s.h 2 = some (some [.sc (.string ⟨#[]⟩), .em, .sc (.string ⟨#[]⟩)]) ∧ s.h 39 = some (some [.ro (rows B c) k, .sc (.int .i64 i.2.2.1), .sc (.bool i.2.2.2.v)]) ∧ s.h 6 = some (some [.sc (.string x.1), .own (rows File.ty.oc i.1) i.1.length 2, .sc (.string y.1)]) ∧ (∀ c, c ≠ 2 → c ≠ 39 → c ≠ 6 → s.h c = none) ∧ s.n = 97) ([], N, z.2.1, ⟨z.2.2⟩) (by
      simp [upd_app, rows_nil, hR]
      exact ⟨g3.2, fun c h1 h2 h3 => by simp [h1, h2, h3]⟩) ?_
  rintro ⟨acc, j, a, ⟨bad⟩⟩ ⟨ρ, hh, n⟩ ⟨hkN, ga, hE, k2, k4, k5, k6, k7, k8, k9, b2, b39, b6, bf, rfl⟩
  simp only at hkN ga hE k2 k4 k5 k6 k7 k8 k9 b2 b39 b6 bf
  have f60 := bf 60 (by decide) (by decide) (by decide)
  refine T.le (Le.open 6 1 60 b6 rfl f60 (File.frL acc)) ?_
  have none0 : ∀ r : List File × Int × Bool, r = R → ¬ (r.2.2 = false ∧ pn.isSome = true ∧ r.2.1 = (k : Int)) → (if R.2.2 = false ∧ pn.isSome = true ∧ R.2.1 = (k : Int) then some (⟨x.1, R.1, y.1⟩ : Made) else none) = none := fun r e h => by
    subst e; exact if_neg h
  refine run_ok (n := 600) ?_
  cases j with
  | zero =>
    have hE : (acc, a, bad) = R := by rw [← hE]; simp [rdS]
    have hkN : acc.length = N := hkN
    subst hkN
    simp [k7, k9]
    refine T.on 600 ?_
    by_cases hbd : bad = false
    case neg =>
      have hbd' : bad = true := by simpa using hbd
      rw [none0 _ hE (fun h => hbd h.1)]
      simp [k2, k4, k5, k6, k8, b2, b39, hbd', over, ex1, madeA, noMade, Made.oce, rows_nil, idfree.idfreeL]
    by_cases hs : pn.isSome = true
    case neg =>
      have hs' : pn.isSome = false := by simpa using hs
      rw [none0 _ hE (fun h => hs h.2.1)]
      simp [k2, k4, k5, k6, k8, b2, b39, hbd, hs', over, ex1, madeA, noMade, Made.oce, rows_nil, idfree.idfreeL]
    by_cases hq : a = (k : Int)
    case neg =>
      rw [none0 _ hE (fun h => hq h.2.2)]
      simp [k2, k4, k5, k6, k8, b2, b39, hbd, hs, hq, over, ex1, madeA, noMade, Made.oce, rows_nil, idfree.idfreeL]
    subst hE
    rw [if_pos ⟨hbd, hs, hq⟩]
    simp [k2, k4, k5, k6, k8, b2, b39, hbd, hs, hq, over, ex1, madeA, Made.oce, File.ocl, File.frL]
  | succ j =>
    have hlt : (acc.length : Int) < N := by omega
    have hs := hsN (by omega)
    rw [rdS] at hE
    by_cases hbd : bad = false
    case neg =>
      have hbd' : bad = true := by simpa using hbd
      rw [if_pos hbd'] at hE
      rw [none0 _ hE (fun h => by cases h.1)]
      simp [k5, k7, k8, k9, b39, hlt, hs, hbd']
      refine T.on 600 ?_
      simp [k2, k4, k5, k6, k8, b2, b39, hbd', over, ex1, madeA, noMade, Made.oce, rows_nil, idfree.idfreeL]
    rw [if_neg (by rw [hbd]; decide)] at hE
    have hwr : IntKind.i64.wrap ((acc.length : Int) + 1) = acc.length + 1 := wrap_i64 (by omega) (by omega)
    have e1 := nextT_rng c a bad ga
    have s1 := R30 c a bad (int_ok hcl2 ga) hcb hcl2
    obtain ⟨u, hu⟩ : ∃ u, u = nextT c a bad := ⟨_, rfl⟩
    rw [← hu] at e1 s1 hE
    have e2 := nextT_rng c u.2.1 u.2.2 e1.2
    have s2 := R30 c u.2.1 u.2.2 (int_ok hcl2 e1.2) hcb hcl2
    obtain ⟨v, hv⟩ : ∃ v, v = nextT c u.2.1 u.2.2 := ⟨_, rfl⟩
    rw [← hv] at e2 s2 hE
    rw [hcl] at s1 s2
    have hcap : (acc.length + 1) * 32 ≤ 140737488355328 := by omega
    have hap : rows File.ty.oc acc ++ [.sc (.string u.1), .sc (.string v.1)] = rows File.ty.oc (acc ++ [⟨u.1, v.1⟩]) := by rw [rows_append, rows_cons, rows_nil]; rfl
    simp [k5, k7, k8, k9, b39, hlt, hs, hbd]
    refine callK.bx (b := 39) 0 rfl (by kernel_rfl) (by simp [upd_app, k5]) (by simp [upd_app, b39]) (by simp [idfree.idfreeL, idfree]) rfl (by simp) s1 rfl rfl rfl ?_
    simp [k5, k6, bf, over]
    refine callK.bx (b := 39) 0 rfl (by kernel_rfl) (by simp [upd_app, k5]) (by simp [upd_app]) (by simp [idfree.idfreeL, idfree]) rfl (by simp) s2 rfl rfl rfl ?_
    simp [k6, k9, bf, over, File.ocl, hcap, hwr, hap]
    refine ⟨acc ++ [⟨u.1, v.1⟩], j, by omega, v.2.1, ⟨v.2.2⟩, _, Le.trans (Le.pack 6 1 (i := 77) (len := acc.length + 1) (sz := 2) (cs' := rows File.ty.oc (acc ++ [⟨u.1, v.1⟩])) (by simp [upd_app]; rfl) rfl (by simp [upd_app]) (by decide) (by rw [File.ocl]; simp) (File.frL _)) (Le.reset [2, 4, 5, 6, 7, 8, 9] [2, 39, 6] ?_ ?_), by simp; omega, e2.2, by rw [← hE]; simp, ?_⟩
    · simp [upd_app, menB, idfree, k2, k4, k5, k6, k7, k8]
    · intro c hc cs hcs
      simp at hc
      rcases hc with rfl | rfl | rfl
      · simp [upd_app, b2] at hcs; subst hcs; simp [idfree]
      · simp [upd_app] at hcs; subst hcs; simp [idfree]
      · simp [upd_app] at hcs; subst hcs; simp [idfree, File.frL]
    · simp [upd_app, k2, k4, k5, k6, k7, k8, hs, b2, keepH_app]
      exact fun c h1 h2 h3 => by simp [h1, h2, h3]
end Go.Proofs.YtaknfalbmblagaaDoor.Am
