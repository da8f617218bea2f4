/- The small machine and the contracts of the functions, part 2 (KeyOf, DrawJob, DrawKeys, DrawSameJob, LawKeys); no condition. -/
import Derived.Test.YtepjkkaemlpmgaaDoorProg
import Derived.Test.YtepjkkaemlpmgaaDoorAmZ
import Derived.Test.YtepjkkaemlpmgaaDoorAmP
import Derived.Test.YtepjkkaemlpmgaaDoorB1
import Derived.Test.YtepjkkaemlpmgaaDoorAmK
import Derived.KernelRfl
import Derived.Test.YtepjkkaemlpmgaaDoorAmV
namespace Go.Proofs.YtepjkkaemlpmgaaDoor.Am
open Go Go.Proofs
set_option linter.unusedSimpArgs false
set_option linter.unusedVariables false
attribute [local congr] T_congr callK_congr callWK_congr
attribute [local simp] run_nil run_op0 run_opg run_seq run_cond run_block run_ret run_skip run_skip_after run_skip_blk run_exit run_exit_after run_exit_blk run_loop run_any runS_nil runS_op0 runS_opg runW_nil runW_op0 runW_opg exec_q exec_w exec_c exec_n execW_q execW_w execW_c restW_app hideH_app merge_app wblk rest_app restS_app execS_q execS_c aval dOk upd_app ev_t ev_c setO_some setO_none put_mk pinsOf isIo hasIo sbin endR fin resL one outL out1 clo1 cloL coe coeL shut shut.shutL wantA weff cellsOf fillA deref natOf ρ0_app h0_app plain plain.plainL keep_app keepH_app andThen_normal andThen_ret andThen_exit pop_nil pop_after pop_after_ret pop_after_exit pop_blk pop_blk_ret pop_blk_exit nilA srcOf srcCells keepR_app keepHR_app renA rb
def jw (j : Job) : Nat := sw (txJ j)
theorem jkey_eq (j : Job) : jkey j = putL (putT (putL (putT (putFl (putL (putT (putT [] j.name) (numT j.acts.length)) j.acts) j.ins) (numT j.envs.length)) (txE j.envs)) (numT j.deps.length)) (txM j.deps) := by
  unfold jkey
  rw [putFl_L]
  simp only [txJ, putL, putL_app]
theorem jw_eq (j : Job) : jw j = j.name.size + 2 + ((numT j.acts.length).size + 2) + sw j.acts + ((numT j.ins.length).size + 2) + sw (txF j.ins) + ((numT j.envs.length).size + 2) + sw (txE j.envs) + ((numT j.deps.length).size + 2) + sw (txM j.deps) := by
  unfold jw
  simp only [txJ, sw, sw_app]
  omega
theorem putFl_le (b : List Int) (l : List File) : (putFl b l).length ≤ b.length + ((numT l.length).size + 2 + sw (txF l)) := by
  rw [putFl_L]
  exact putL_le _ b
theorem fw_sw : ∀ l : List File, fw l = sw (txF l)
  | [] => rfl
  | f :: l => by simp only [fw, txF, sw, fw_sw l]; omega
theorem Br {h : Hp} {b : Nat} {xs : List Int} (e : h b = some (some (rows B xs))) : roc h 8 (.sl b 0 xs.length 1 false) = some (.ro (rows B xs) xs.length) := B.roc e
theorem Br0 {h : Hp} {b : Nat} (e : h b = some (some [])) : roc h 8 (.sl b 0 0 1 false) = some (.ro (rows B []) 0) := B.roc (xs := []) e
theorem findB {a b x y c : Nat} (h1 : c ≠ x) (h2 : c ≠ y) : [(a, x), (b, y)].find? (fun p => p.2 == c) = none := by simp [Ne.symm h1, Ne.symm h2]
def ol : List Made → Nat
  | [] => 0
  | m :: l => m.outs.length + 20 + ol l
theorem swF_lt : ∀ l : List File, l.length ≤ sw (txF l)
  | [] => Nat.le_refl _
  | f :: l => by have := swF_lt l; simp only [txF, sw, List.length_cons]; omega
def A7 : AC := (.seq (.ops [⟨(some 1), none, .w (.box (.t 0))⟩, ⟨(some 2), none, .q (.mov (.c .em))⟩])
  (.seq (.any [(⟨(some 10), none, .q (.fadr 0 (.t 1))⟩, []), (⟨(some 11), none, .q (.load false 1 (.t 10))⟩, [0]), (⟨(some 12), none, .c (.c (.clo 15 [])) [(.c .em), (.t 11)]⟩, [1]), (⟨(some 13), none, .q (.fadr 1 (.t 1))⟩, []), (⟨(some 14), none, .q (.load false 1 (.t 13))⟩, [3]), (⟨(some 15), none, .q (.llen (.t 14))⟩, [4]), (⟨(some 16), none, .c (.c (.clo 16 [])) [(.t 15)]⟩, [5, 2]), (⟨(some 17), none, .c (.c (.clo 15 [])) [(.t 12), (.t 16)]⟩, [2, 6, 6]), (⟨(some 3), none, .q (.mov (.t 17))⟩, [7, 7, 0, 1, 2, 3, 4, 5, 6, 7])])
  (.seq (.seq (.ops [⟨(some 18), none, .q (.fadr 1 (.t 1))⟩, ⟨(some 19), none, .q (.load false 1 (.t 18))⟩, ⟨(some 20), none, .q (.llen (.t 19))⟩, ⟨(some 21), none, .q (.mov (.c (.sc (.int .i64 0))))⟩])
  (.block 0 (.loop (.seq (.ops [⟨(some 22), none, .q (.bin .lss (.t 21) (.t 20))⟩])
  (.seq (.cond (.t 22) .skip
  (.exit 0))
  (.seq (.block 1 (.seq (.ops [⟨(some 23), none, .q (.iadr 1 (.t 19) (.t 21))⟩, ⟨(some 24), none, .q (.load false 1 (.t 23))⟩, ⟨(some 5), none, .q (.mov (.t 24))⟩])
  (.ops [⟨(some 25), none, .q (.mov (.t 3))⟩, ⟨(some 26), none, .q (.mov (.t 5))⟩, ⟨(some 27), none, .c (.c (.clo 15 [])) [(.t 25), (.t 26)]⟩, ⟨(some 3), none, .q (.mov (.t 27))⟩])))
  (.ops [⟨(some 28), none, .q (.bin .add (.t 21) (.c (.sc (.int .i64 1))))⟩, ⟨(some 21), none, .q (.mov (.t 28))⟩])))))))
  (.seq (.ops [⟨(some 29), none, .q (.mov (.t 3))⟩, ⟨(some 30), none, .q (.fadr 2 (.t 1))⟩, ⟨(some 31), none, .q (.load false 1 (.t 30))⟩, ⟨(some 32), none, .c (.c (.clo 17 [])) [(.t 29), (.t 31)]⟩, ⟨(some 3), none, .q (.mov (.t 32))⟩])
  (.seq (.ops [⟨(some 33), none, .q (.mov (.t 3))⟩, ⟨(some 34), none, .q (.fadr 3 (.t 1))⟩, ⟨(some 35), none, .q (.load false 1 (.t 34))⟩, ⟨(some 36), none, .q (.llen (.t 35))⟩, ⟨(some 37), none, .c (.c (.clo 16 [])) [(.t 36)]⟩, ⟨(some 38), none, .c (.c (.clo 15 [])) [(.t 33), (.t 37)]⟩, ⟨(some 3), none, .q (.mov (.t 38))⟩])
  (.seq (.seq (.ops [⟨(some 39), none, .q (.fadr 3 (.t 1))⟩, ⟨(some 40), none, .q (.load false 1 (.t 39))⟩, ⟨(some 41), none, .q (.llen (.t 40))⟩, ⟨(some 42), none, .q (.mov (.c (.sc (.int .i64 0))))⟩])
  (.block 2 (.loop (.seq (.ops [⟨(some 43), none, .q (.bin .lss (.t 42) (.t 41))⟩])
  (.seq (.cond (.t 43) .skip
  (.exit 2))
  (.seq (.block 3 (.seq (.ops [⟨(some 44), none, .q (.iadr 2 (.t 40) (.t 42))⟩, ⟨(some 45), none, .q (.load true 2 (.t 44))⟩, ⟨(some 7), none, .w (.alloc [(.sc (.string ⟨#[]⟩)), (.sc (.string ⟨#[]⟩))])⟩, ⟨none, none, .w (.store 2 (.t 7) (.t 45))⟩])
  (.any [(⟨(some 46), none, .q (.mov (.t 3))⟩, []), (⟨(some 47), none, .q (.fadr 0 (.t 7))⟩, []), (⟨(some 48), none, .q (.load false 1 (.t 47))⟩, [1]), (⟨(some 49), none, .c (.c (.clo 15 [])) [(.t 46), (.t 48)]⟩, [0, 2]), (⟨(some 50), none, .q (.fadr 1 (.t 7))⟩, []), (⟨(some 51), none, .q (.load false 1 (.t 50))⟩, [4]), (⟨(some 52), none, .c (.c (.clo 15 [])) [(.t 49), (.t 51)]⟩, [3, 5, 3]), (⟨(some 3), none, .q (.mov (.t 52))⟩, [6, 6, 0, 1, 2, 3, 4, 5, 6])])))
  (.ops [⟨(some 53), none, .q (.bin .add (.t 42) (.c (.sc (.int .i64 1))))⟩, ⟨(some 42), none, .q (.mov (.t 53))⟩])))))))
  (.seq (.ops [⟨(some 54), none, .q (.mov (.t 3))⟩, ⟨(some 55), none, .q (.fadr 4 (.t 1))⟩, ⟨(some 56), none, .q (.load false 1 (.t 55))⟩, ⟨(some 57), none, .q (.llen (.t 56))⟩, ⟨(some 58), none, .c (.c (.clo 16 [])) [(.t 57)]⟩, ⟨(some 59), none, .c (.c (.clo 15 [])) [(.t 54), (.t 58)]⟩, ⟨(some 3), none, .q (.mov (.t 59))⟩])
  (.seq (.seq (.ops [⟨(some 60), none, .q (.fadr 4 (.t 1))⟩, ⟨(some 61), none, .q (.load false 1 (.t 60))⟩, ⟨(some 62), none, .q (.llen (.t 61))⟩, ⟨(some 63), none, .q (.mov (.c (.sc (.int .i64 0))))⟩])
  (.block 4 (.loop (.seq (.ops [⟨(some 64), none, .q (.bin .lss (.t 63) (.t 62))⟩])
  (.seq (.cond (.t 64) .skip
  (.exit 4))
  (.seq (.block 5 (.seq (.ops [⟨(some 65), none, .q (.iadr 3 (.t 61) (.t 63))⟩, ⟨(some 66), none, .q (.load true 3 (.t 65))⟩, ⟨(some 9), none, .w (.alloc [(.sc (.string ⟨#[]⟩)), .em, (.sc (.string ⟨#[]⟩))])⟩, ⟨none, none, .w (.store 3 (.t 9) (.t 66))⟩])
  (.any [(⟨(some 67), none, .q (.mov (.t 3))⟩, []), (⟨(some 68), none, .q (.fadr 0 (.t 9))⟩, []), (⟨(some 69), none, .q (.load false 1 (.t 68))⟩, [1]), (⟨(some 70), none, .c (.c (.clo 15 [])) [(.t 67), (.t 69)]⟩, [0, 2]), (⟨(some 71), none, .q (.fadr 2 (.t 9))⟩, []), (⟨(some 72), none, .q (.load false 1 (.t 71))⟩, [4]), (⟨(some 73), none, .c (.c (.clo 15 [])) [(.t 70), (.t 72)]⟩, [3, 5, 3]), (⟨(some 74), none, .q (.fadr 1 (.t 9))⟩, []), (⟨(some 75), none, .q (.load false 1 (.t 74))⟩, [7]), (⟨(some 76), none, .c (.c (.clo 17 [])) [(.t 73), (.t 75)]⟩, [6, 8, 6]), (⟨(some 3), none, .q (.mov (.t 76))⟩, [9, 9, 0, 1, 2, 3, 4, 5, 6, 7, 8, 9])])))
  (.ops [⟨(some 77), none, .q (.bin .add (.t 63) (.c (.sc (.int .i64 1))))⟩, ⟨(some 63), none, .q (.mov (.t 77))⟩])))))))
  (.seq (.ops [⟨(some 78), none, .q (.mov (.t 3))⟩, ⟨(some 2), none, .q (.mov (.t 78))⟩])
  .ret)))))))))
theorem K7 : Tryd.f7.body.bind (comp Tryd.prog) = some A7 ∧ Tryd.f7.ntmps = 79 ∧ Tryd.f7.results.toList.mapM (resB Tryd.prog) = some [.mov (.t 2)] := ⟨by kernel_rfl, by kernel_rfl, by kernel_rfl⟩
set_option maxHeartbeats 4000000 in
theorem R7 (j : Job) (h1 : j.acts.length < 4611686018427387904) (h2 : j.ins.length < 4611686018427387904) (h3 : j.envs.length < 4611686018427387904) (h4 : j.deps.length < 4611686018427387904) (jfit : ∀ m ∈ j.deps, m.outs.length < 4611686018427387904) (hb : jw j + j.acts.length + j.ins.length + j.envs.length + j.deps.length + ol j.deps + 100 ≤ 140737488350000) : Ret Tryd.prog 7 [.agg (Job.ty.cs j)] (.own (rows B (jkey j)) (jkey j).length 1) [.un] := by
  have hn := jw_eq j
  have z1 := numT_size j.acts.length
  rw [hn] at hb
  have p0 := putT_le [] j.name
  have p1 := putT_le (putT [] j.name) (numT j.acts.length)
  simp only [List.length_nil] at p0
  have hk := jkey_eq j
  obtain ⟨b0, hb0⟩ : ∃ b, b = putT (putT [] j.name) (numT j.acts.length) := ⟨_, rfl⟩
  rw [← hb0] at hk p1
  obtain ⟨b1, hb1⟩ : ∃ b, b = putL b0 j.acts := ⟨_, rfl⟩
  rw [← hb1] at hk
  have p2 := putFl_le b1 j.ins
  obtain ⟨b2, hb2⟩ : ∃ b, b = putFl b1 j.ins := ⟨_, rfl⟩
  rw [← hb2] at hk p2
  have p3 := putT_le b2 (numT j.envs.length)
  obtain ⟨b3, hb3⟩ : ∃ b, b = putT b2 (numT j.envs.length) := ⟨_, rfl⟩
  rw [← hb3] at hk p3
  obtain ⟨b4, hb4⟩ : ∃ b, b = putL b3 (txE j.envs) := ⟨_, rfl⟩
  rw [← hb4] at hk
  have p5 := putT_le b4 (numT j.deps.length)
  obtain ⟨b5, hb5⟩ : ∃ b, b = putT b4 (numT j.deps.length) := ⟨_, rfl⟩
  rw [← hb5] at hk p5
  have hz2 := fw_sw j.ins
  have y2 := numT_size j.ins.length
  have y3 := numT_size j.envs.length
  have y4 := numT_size j.deps.length
  have r0 := R15 (putT [] j.name) (numT j.acts.length) (by omega)
  rw [← hb0] at r0
  refine Ret.run Tryd.func7 K7 (by simp) rfl rfl 900 ?_
  simp [A7, iniρ, Job.cse]
  refine T.textW 400 [([], []), ([], []), ([12], []), ([], [12]), ([], [12]), ([], [12]), ([], []), ([12, 17], []), ([], [])] mixed (by kernel_rfl) (by kernel_rfl) ?_
  simp [merge_nil, hideH_nil]
  refine callWK.mvE 12 1 rfl (by kernel_rfl) (by simp [upd_app]) (by simp [upd_app, roc_sc]) (R15 [] j.name (by simp only [List.length_nil]; omega)) (B_fl _) (by simp [inst, upd_app, hideH_app]; exact ⟨rfl, rfl⟩) (by rfl) ?_
  simp [merge_nil, hideH_nil]
  refine callWK.ro 0 rfl (by kernel_rfl) (by simp [roc_sc]) (R16 j.acts.length h1) rfl rfl (by rfl) ?_
  simp [merge_nil, hideH_nil]
  refine callWK.mv1 17 12 rfl (by kernel_rfl) (by simp [upd_app]) (by simp [upd_app, hideH_app]) (B_cnt _) (idfreeL_rows B.fr _) (by simp [upd_app, roc_sc]) r0 (B_fl _) (by simp [inst, upd_app, hideH_app]; exact ⟨rfl, rfl⟩) (by rfl) ?_
  simp [merge_nil, hideH_nil]
  refine T.le (Le.reseat [1, 3, 19, 20, 21] [(1, 1), (17, 60)] (by simp) (by simp [upd_app, merge_app, hideH_app, menB, idfree]) (by
    intro c hc cs hcs
    simp at hc
    rcases hc with rfl | rfl
    · simp [upd_app, merge_app, hideH_app] at hcs
      subst hcs
      simp [Job.cse, idfree]
    · simp [upd_app, merge_app, hideH_app] at hcs
      subst hcs
      exact idfreeL_mem (idfreeL_rows B.fr _))) ?_
  refine T.rounds (μ := fun i : List ByteArray × List ByteArray × List Int => i.2.1.length)
    (fun i s => i.1 ++ i.2.1 = j.acts ∧ putL i.2.2 i.2.1 = b1 ∧ i.2.2.length + sw i.2.1 + ((numT j.ins.length).size + 2 + sw (txF j.ins) + ((numT j.envs.length).size + 2) + sw (txE j.envs) + ((numT j.deps.length).size + 2) + sw (txM j.deps) + (j.ins.length + j.envs.length + j.deps.length + ol j.deps + 100)) ≤ 140737488350000 ∧ s.ρ 1 = .ref 1 0 ∧ s.ρ 3 = .sl 60 0 i.2.2.length 1 false ∧ s.ρ 19 = .ro (rows Ty.str.cs j.acts) j.acts.length ∧ s.ρ 20 = .sc (.int .i64 j.acts.length) ∧ s.ρ 21 = .sc (.int .i64 i.1.length) ∧ s.h 1 = some (some (Job.ty.cs j)) ∧ s.h 60 = some (some (rows B i.2.2)) ∧ (∀ c, c ≠ 60 → c ≠ 1 → s.h c = none) ∧ s.n = 79) ([], j.acts, b0) (by simp [upd_app, Job.cse, hb1]; exact ⟨by omega, fun c hc h1 => by rw [findB h1 hc]⟩) ?_
  rintro ⟨pre, rest, cur⟩ ⟨ρ, hh, n⟩ ⟨hx, hE, hw, k1, k3, k19, k20, k21, q1, b60, bf, rfl⟩
  simp only at hx hE hw k1 k3 k19 k20 k21 q1 b60 bf
  refine run_ok (n := 400) ?_
  cases rest
  case cons x rest =>
    have hle : pre.length + (rest.length + 1) = j.acts.length := by rw [← hx]; simp
    have hlt : (pre.length : Int) < j.acts.length := by omega
    have hwr : IntKind.i64.wrap ((pre.length : Int) + 1) = pre.length + 1 := wrap_i64 (by omega) (by omega)
    have hd := rows_drop Ty.str.csn pre (x :: rest)
    rw [hx, rows_cons] at hd
    rw [show pre.length * Ty.str.n = pre.length from Nat.mul_one _] at hd
    have hd : List.drop (pre.length) (rows Ty.str.cs j.acts) = AV.sc (.string x) :: rows Ty.str.cs rest := hd
    rw [sw] at hw
    have c1 := putT_le cur x
    have f27 := bf 27 (by decide) (by decide)
    simp [k1, k3, k19, k20, k21, hlt, hd]
    refine callK.mv1 27 60 rfl (by kernel_rfl) (by simp [upd_app]) (by simp [upd_app, b60]) (B_cnt _) (idfreeL_rows B.fr _) (by simp [upd_app, roc_sc]) (R15 cur x (by omega)) (B_fl _) (by simp [inst, upd_app, f27]; exact ⟨rfl, rfl⟩) rfl ?_
    simp [k1, k3, k19, k20, k21, hwr]
    refine ⟨pre ++ [x], rest, by simp, putT cur x, _, (Le.reseat [1, 3, 19, 20, 21] [(1, 1), (27, 60)] (by simp) (by simp [upd_app, merge_app, hideH_app, menB, idfree, k1, k3, k19, k20, k21, q1]) (by
      intro c hc cs hcs
      simp at hc
      rcases hc with rfl | rfl
      · simp [upd_app, merge_app, hideH_app, k1, k3, k19, k20, k21, q1] at hcs
        subst hcs
        simp [Job.cse, idfree]
      · simp [upd_app, merge_app, hideH_app] at hcs
        subst hcs
        exact idfreeL_mem (idfreeL_rows B.fr _))), by simpa using hx, hE, by omega, ?_⟩
    simp [upd_app, merge_app, hideH_app, k1, k3, k19, k20, k21, q1]
    exact fun c hc h1 => by rw [findB h1 hc]
  have hxl : pre.length = j.acts.length := by rw [← hx]; simp
  have hE : cur = b1 := hE
  subst cur
  clear hx
  simp [k1, k3, k19, k20, k21, hxl]
  refine T.on 400 ?_
  have r2 := R17 b1 j.ins h2 (by omega)
  rw [← hb2] at r2
  have r3 := R15 b2 (numT j.envs.length) (by omega)
  rw [← hb3] at r3
  have f32 := bf 32 (by decide) (by decide)
  have f38 := bf 38 (by decide) (by decide)
  simp [k1, k3, q1, b60, Job.cse]
  refine callK.mv1 32 60 rfl (by kernel_rfl) (by simp [upd_app]) (by simp [upd_app, b60]) (B_cnt _) (idfreeL_rows B.fr _) (by simp [upd_app, roc_ro]) r2 (B_fl _) (by simp [inst, upd_app, f32]; exact ⟨rfl, rfl⟩) rfl ?_
  simp [k1, q1, Job.cse]
  refine callK.ro 0 rfl (by kernel_rfl) (by simp [roc_sc]) (R16 j.envs.length h3) rfl rfl rfl ?_
  simp
  refine callK.mv1 38 32 rfl (by kernel_rfl) (by simp [upd_app]) (by simp [upd_app]) (B_cnt _) (idfreeL_rows B.fr _) (by simp [upd_app, roc_sc]) r3 (B_fl _) (by simp [inst, upd_app, f38]; exact ⟨rfl, rfl⟩) rfl ?_
  simp [k1, q1, Job.cse]
  refine T.le (Le.reseat [1, 3, 40, 41, 42] [(1, 1), (38, 60)] (by simp) (by simp [upd_app, merge_app, hideH_app, menB, idfree, k1, q1]) (by
    intro c hc cs hcs
    simp at hc
    rcases hc with rfl | rfl
    · simp [upd_app, merge_app, hideH_app, k1, q1] at hcs
      subst hcs
      simp [Job.cse, idfree]
    · simp [upd_app, merge_app, hideH_app] at hcs
      subst hcs
      exact idfreeL_mem (idfreeL_rows B.fr _))) ?_
  refine T.rounds (μ := fun i : List Env × List Env × List Int => i.2.1.length)
    (fun i s => i.1 ++ i.2.1 = j.envs ∧ putL i.2.2 (txE i.2.1) = b4 ∧ i.2.2.length + sw (txE i.2.1) + ((numT j.deps.length).size + 2 + sw (txM j.deps) + (j.deps.length + ol j.deps + 100)) ≤ 140737488350000 ∧ s.ρ 1 = .ref 1 0 ∧ s.ρ 3 = .sl 60 0 i.2.2.length 1 false ∧ s.ρ 40 = .ro (rows Env.ty.cs j.envs) j.envs.length ∧ s.ρ 41 = .sc (.int .i64 j.envs.length) ∧ s.ρ 42 = .sc (.int .i64 i.1.length) ∧ s.h 1 = some (some (Job.ty.cs j)) ∧ s.h 60 = some (some (rows B i.2.2)) ∧ (∀ c, c ≠ 60 → c ≠ 1 → s.h c = none) ∧ s.n = 79) ([], j.envs, b3) (by simp [upd_app, Job.cse, k1, q1, hb4]; exact ⟨by omega, fun c hc h1 => by rw [findB h1 hc]⟩) ?_
  rintro ⟨pre, rest, cur⟩ ⟨ρ, hh, n⟩ ⟨hx, hE, hw, k1, k3, k40, k41, k42, q1, b60, bf, rfl⟩
  simp only at hx hE hw k1 k3 k40 k41 k42 q1 b60 bf
  refine run_ok (n := 400) ?_
  cases rest
  case cons x rest =>
    have hle : pre.length + (rest.length + 1) = j.envs.length := by rw [← hx]; simp
    have hlt : (pre.length : Int) < j.envs.length := by omega
    have hwr : IntKind.i64.wrap ((pre.length : Int) + 1) = pre.length + 1 := wrap_i64 (by omega) (by omega)
    have hd := rows_drop Env.ty.csn pre (x :: rest)
    rw [hx, rows_cons] at hd
    have hd : List.drop (pre.length * 2) (rows Env.ty.cs j.envs) = AV.sc (.string x.name) :: AV.sc (.string x.val) :: rows Env.ty.cs rest := hd
    rw [txE, sw, sw] at hw
    rw [txE] at hE
    have c1 := putT_le cur x.name
    have c2 := putT_le (putT cur x.name) x.val
    have f7 := bf 7 (by decide) (by decide)
    have f49 := bf 49 (by decide) (by decide)
    have f52 := bf 52 (by decide) (by decide)
    simp [k1, k3, k40, k41, k42, hlt, hd, f7, over]
    refine T.textW 400 [([], []), ([], []), ([], []), ([60, 49], []), ([], [49, 60]), ([], [49, 60]), ([49, 52], []), ([], [])] mixed (by kernel_rfl) (by kernel_rfl) ?_
    simp [k1, k3, k40, k41, k42, merge_nil, hideH_nil]
    refine callWK.mv1 49 60 rfl (by kernel_rfl) (by simp [upd_app]) (by simp [upd_app, hideH_app, b60]) (B_cnt _) (idfreeL_rows B.fr _) (by simp [upd_app, roc_sc]) (R15 cur x.name (by omega)) (B_fl _) (by simp [inst, upd_app, hideH_app, f49]; exact ⟨rfl, rfl⟩) (by rfl) ?_
    simp [merge_nil, hideH_nil]
    refine callWK.mv1 52 49 rfl (by kernel_rfl) (by simp [upd_app]) (by simp [upd_app, hideH_app]) (B_cnt _) (idfreeL_rows B.fr _) (by simp [upd_app, roc_sc]) (R15 (putT cur x.name) x.val (by omega)) (B_fl _) (by simp [inst, upd_app, hideH_app, f52]; exact ⟨rfl, rfl⟩) (by rfl) ?_
    simp [k1, k3, k40, k41, k42, hwr, merge_nil, hideH_nil]
    refine ⟨pre ++ [x], rest, by simp, putT (putT cur x.name) x.val, _, (Le.reseat [1, 3, 40, 41, 42] [(1, 1), (52, 60)] (by simp) (by simp [upd_app, merge_app, hideH_app, menB, idfree, k1, k3, k40, k41, k42, q1]) (by
      intro c hc cs hcs
      simp at hc
      rcases hc with rfl | rfl
      · simp [upd_app, merge_app, hideH_app, k1, k3, k40, k41, k42, q1] at hcs
        subst hcs
        simp [Job.cse, idfree]
      · simp [upd_app, merge_app, hideH_app] at hcs
        subst hcs
        exact idfreeL_mem (idfreeL_rows B.fr _))), by simpa using hx, hE, by omega, ?_⟩
    simp [upd_app, merge_app, hideH_app, k1, k3, k40, k41, k42, q1]
    exact fun c hc h1 => by rw [findB h1 hc]
  have hxl : pre.length = j.envs.length := by rw [← hx]; simp
  have hE : cur = b4 := hE
  subst cur
  clear hx
  simp [k1, k3, k40, k41, k42, hxl]
  refine T.on 400 ?_
  have r5 := R15 b4 (numT j.deps.length) (by omega)
  rw [← hb5] at r5
  have f59 := bf 59 (by decide) (by decide)
  simp [k1, k3, q1, b60, Job.cse]
  refine callK.ro 0 rfl (by kernel_rfl) (by simp [roc_sc]) (R16 j.deps.length h4) rfl rfl rfl ?_
  simp
  refine callK.mv1 59 60 rfl (by kernel_rfl) (by simp [upd_app, k3]) (by simp [upd_app, b60]) (B_cnt _) (idfreeL_rows B.fr _) (by simp [upd_app, roc_sc]) r5 (B_fl _) (by simp [inst, upd_app, f59]; exact ⟨rfl, rfl⟩) rfl ?_
  simp [k1, q1, Job.cse]
  refine T.le (Le.reseat [1, 3, 61, 62, 63] [(1, 1), (59, 60)] (by simp) (by simp [upd_app, merge_app, hideH_app, menB, idfree, k1, q1]) (by
    intro c hc cs hcs
    simp at hc
    rcases hc with rfl | rfl
    · simp [upd_app, merge_app, hideH_app, k1, q1] at hcs
      subst hcs
      simp [Job.cse, idfree]
    · simp [upd_app, merge_app, hideH_app] at hcs
      subst hcs
      exact idfreeL_mem (idfreeL_rows B.fr _))) ?_
  refine T.rounds (μ := fun i : List Made × List Made × List Int => i.2.1.length)
    (fun i s => i.1 ++ i.2.1 = j.deps ∧ putL i.2.2 (txM i.2.1) = jkey j ∧ i.2.2.length + sw (txM i.2.1) + (ol i.2.1 + 100) ≤ 140737488350000 ∧ s.ρ 1 = .ref 1 0 ∧ s.ρ 3 = .sl 60 0 i.2.2.length 1 false ∧ s.ρ 61 = .ro (rows Made.ty.cs j.deps) j.deps.length ∧ s.ρ 62 = .sc (.int .i64 j.deps.length) ∧ s.ρ 63 = .sc (.int .i64 i.1.length) ∧ s.h 1 = some (some (Job.ty.cs j)) ∧ s.h 60 = some (some (rows B i.2.2)) ∧ (∀ c, c ≠ 60 → c ≠ 1 → s.h c = none) ∧ s.n = 79) ([], j.deps, b5) (by simp [upd_app, Job.cse, k1, q1, hk]; exact ⟨by omega, fun c hc h1 => by rw [findB h1 hc]⟩) ?_
  rintro ⟨pre, rest, cur⟩ ⟨ρ, hh, n⟩ ⟨hx, hE, hw, k1, k3, k61, k62, k63, q1, b60, bf, rfl⟩
  simp only at hx hE hw k1 k3 k61 k62 k63 q1 b60 bf
  refine run_ok (n := 400) ?_
  cases rest
  case cons x rest =>
    have hle : pre.length + (rest.length + 1) = j.deps.length := by rw [← hx]; simp
    have hlt : (pre.length : Int) < j.deps.length := by omega
    have hwr : IntKind.i64.wrap ((pre.length : Int) + 1) = pre.length + 1 := wrap_i64 (by omega) (by omega)
    have hd := rows_drop Made.ty.csn pre (x :: rest)
    rw [hx, rows_cons] at hd
    have hd : List.drop (pre.length * 3) (rows Made.ty.cs j.deps) = AV.sc (.string x.task) :: .ro (rows File.ty.cs x.outs) x.outs.length :: .sc (.string x.log) :: rows Made.ty.cs rest := hd
    rw [txM, sw, sw, sw, sw_app, ol] at hw
    rw [txM] at hE
    have hf := fw_sw x.outs
    have hfl := swF_lt x.outs
    have hns := numT_size x.outs.length
    have c1 := putT_le cur x.task
    have c2 := putT_le (putT cur x.task) x.log
    have c3 := putFl_le (putT (putT cur x.task) x.log) x.outs
    have hE : putL (putFl (putT (putT cur x.task) x.log) x.outs) (txM rest) = jkey j := by rw [putFl_L, ← putL_app]; exact hE
    have hrest := jfit x (by rw [← hx]; simp)
    have f9 := bf 9 (by decide) (by decide)
    have f70 := bf 70 (by decide) (by decide)
    have f73 := bf 73 (by decide) (by decide)
    have f76 := bf 76 (by decide) (by decide)
    simp [k1, k3, k61, k62, k63, hlt, hd, f9, over]
    refine T.textW 400 [([], []), ([], []), ([], []), ([60, 70], []), ([], [60, 70]), ([], [60, 70]), ([70, 73], []), ([], [60, 70, 73]), ([], [60, 70, 73]), ([73, 76], []), ([], [])] mixed (by kernel_rfl) (by kernel_rfl) ?_
    simp [k1, k3, k61, k62, k63, merge_nil, hideH_nil]
    refine callWK.mv1 70 60 rfl (by kernel_rfl) (by simp [upd_app]) (by simp [upd_app, hideH_app, b60]) (B_cnt _) (idfreeL_rows B.fr _) (by simp [upd_app, roc_sc]) (R15 cur x.task (by omega)) (B_fl _) (by simp [inst, upd_app, hideH_app, f70]; exact ⟨rfl, rfl⟩) (by rfl) ?_
    simp [merge_nil, hideH_nil]
    refine callWK.mv1 73 70 rfl (by kernel_rfl) (by simp [upd_app]) (by simp [upd_app, hideH_app]) (B_cnt _) (idfreeL_rows B.fr _) (by simp [upd_app, roc_sc]) (R15 (putT cur x.task) x.log (by omega)) (B_fl _) (by simp [inst, upd_app, hideH_app, f73]; exact ⟨rfl, rfl⟩) (by rfl) ?_
    simp [merge_nil, hideH_nil]
    refine callWK.mv1 76 73 rfl (by kernel_rfl) (by simp [upd_app]) (by simp [upd_app, hideH_app]) (B_cnt _) (idfreeL_rows B.fr _) (by simp [upd_app, roc_ro]) (R17 (putT (putT cur x.task) x.log) x.outs hrest (by omega)) (B_fl _) (by simp [inst, upd_app, hideH_app, f76]; exact ⟨rfl, rfl⟩) (by rfl) ?_
    simp [k1, k3, k61, k62, k63, hwr, merge_nil, hideH_nil]
    refine ⟨pre ++ [x], rest, by simp, putFl (putT (putT cur x.task) x.log) x.outs, _, (Le.reseat [1, 3, 61, 62, 63] [(1, 1), (76, 60)] (by simp) (by simp [upd_app, merge_app, hideH_app, menB, idfree, k1, k3, k61, k62, k63, q1]) (by
      intro c hc cs hcs
      simp at hc
      rcases hc with rfl | rfl
      · simp [upd_app, merge_app, hideH_app, k1, k3, k61, k62, k63, q1] at hcs
        subst hcs
        simp [Job.cse, idfree]
      · simp [upd_app, merge_app, hideH_app] at hcs
        subst hcs
        exact idfreeL_mem (idfreeL_rows B.fr _))), by simpa using hx, hE, by omega, ?_⟩
    simp [upd_app, merge_app, hideH_app, k1, k3, k61, k62, k63, q1]
    exact fun c hc h1 => by rw [findB h1 hc]
  have hxl : pre.length = j.deps.length := by rw [← hx]; simp
  have hE : cur = jkey j := hE
  subst cur
  clear hx
  simp [k1, k3, k61, k62, k63, hxl]
  refine T.on 400 ?_
  simp [k1, k3, q1, b60, ex1, B.count, idfreeL_rows B.fr]
def A10 : AC := (.seq (.ops [⟨(some 1), none, .w (.box (.t 0))⟩, ⟨(some 2), none, .q (.mov (.c .em))⟩])
  (.seq (.any [(⟨(some 7), none, .w (.bsl 1 0 [] [])⟩, []), (⟨(some 8), none, .q (.fadr 0 (.t 1))⟩, []), (⟨(some 9), none, .q (.load false 1 (.t 8))⟩, [1]), (⟨(some 10), none, .c (.c (.clo 26 [])) [(.t 7), (.t 9)]⟩, [0, 2]), (⟨(some 11), none, .q (.fadr 1 (.t 1))⟩, []), (⟨(some 12), none, .q (.load false 1 (.t 11))⟩, [4]), (⟨(some 13), none, .q (.llen (.t 12))⟩, [5]), (⟨(some 14), none, .c (.c (.clo 25 [])) [(.t 10), (.t 13)]⟩, [3, 6, 3]), (⟨(some 3), none, .q (.mov (.t 14))⟩, [7, 7, 0, 1, 2, 3, 4, 5, 6, 7])])
  (.seq (.seq (.ops [⟨(some 4), none, .q (.mov (.c (.sc (.int .i64 0))))⟩])
  (.block 0 (.loop (.seq (.seq (.ops [⟨(some 15), none, .q (.mov (.t 4))⟩, ⟨(some 16), none, .q (.fadr 1 (.t 1))⟩, ⟨(some 17), none, .q (.load false 1 (.t 16))⟩, ⟨(some 18), none, .q (.llen (.t 17))⟩, ⟨(some 19), none, .q (.bin .lss (.t 15) (.t 18))⟩])
  (.cond (.t 19) .skip
  (.exit 0)))
  (.seq (.block 1 (.ops [⟨(some 22), none, .q (.mov (.t 3))⟩, ⟨(some 23), none, .q (.fadr 1 (.t 1))⟩, ⟨(some 24), none, .q (.load false 1 (.t 23))⟩, ⟨(some 25), none, .q (.mov (.t 4))⟩, ⟨(some 26), none, .q (.iadr 1 (.t 24) (.t 25))⟩, ⟨(some 27), none, .q (.load false 1 (.t 26))⟩, ⟨(some 28), none, .c (.c (.clo 26 [])) [(.t 22), (.t 27)]⟩, ⟨(some 3), none, .q (.mov (.t 28))⟩]))
  (.ops [⟨(some 20), none, .q (.mov (.t 4))⟩, ⟨(some 21), none, .q (.bin .add (.t 20) (.c (.sc (.int .i64 1))))⟩, ⟨(some 4), none, .q (.mov (.t 21))⟩]))))))
  (.seq (.any [(⟨(some 29), none, .q (.mov (.t 3))⟩, []), (⟨(some 30), none, .q (.fadr 2 (.t 1))⟩, []), (⟨(some 31), none, .q (.load false 1 (.t 30))⟩, [1]), (⟨(some 32), none, .c (.c (.clo 27 [])) [(.t 29), (.t 31)]⟩, [0, 2]), (⟨(some 33), none, .q (.fadr 3 (.t 1))⟩, []), (⟨(some 34), none, .q (.load false 1 (.t 33))⟩, [4]), (⟨(some 35), none, .q (.llen (.t 34))⟩, [5]), (⟨(some 36), none, .c (.c (.clo 25 [])) [(.t 32), (.t 35)]⟩, [3, 6, 3]), (⟨(some 3), none, .q (.mov (.t 36))⟩, [7, 7, 0, 1, 2, 3, 4, 5, 6, 7])])
  (.seq (.seq (.ops [⟨(some 5), none, .q (.mov (.c (.sc (.int .i64 0))))⟩])
  (.block 2 (.loop (.seq (.seq (.ops [⟨(some 37), none, .q (.mov (.t 5))⟩, ⟨(some 38), none, .q (.fadr 3 (.t 1))⟩, ⟨(some 39), none, .q (.load false 1 (.t 38))⟩, ⟨(some 40), none, .q (.llen (.t 39))⟩, ⟨(some 41), none, .q (.bin .lss (.t 37) (.t 40))⟩])
  (.cond (.t 41) .skip
  (.exit 2)))
  (.seq (.block 3 (.any [(⟨(some 44), none, .q (.mov (.t 3))⟩, []), (⟨(some 45), none, .q (.fadr 3 (.t 1))⟩, []), (⟨(some 46), none, .q (.load false 1 (.t 45))⟩, [1]), (⟨(some 47), none, .q (.mov (.t 5))⟩, []), (⟨(some 48), none, .q (.iadr 2 (.t 46) (.t 47))⟩, [2, 3]), (⟨(some 49), none, .q (.fadr 0 (.t 48))⟩, [4]), (⟨(some 50), none, .q (.load false 1 (.t 49))⟩, [5]), (⟨(some 51), none, .c (.c (.clo 26 [])) [(.t 44), (.t 50)]⟩, [0, 6]), (⟨(some 52), none, .q (.fadr 3 (.t 1))⟩, []), (⟨(some 53), none, .q (.load false 1 (.t 52))⟩, [8]), (⟨(some 54), none, .q (.mov (.t 5))⟩, []), (⟨(some 55), none, .q (.iadr 2 (.t 53) (.t 54))⟩, [9, 10]), (⟨(some 56), none, .q (.fadr 1 (.t 55))⟩, [11]), (⟨(some 57), none, .q (.load false 1 (.t 56))⟩, [12]), (⟨(some 58), none, .c (.c (.clo 26 [])) [(.t 51), (.t 57)]⟩, [7, 13, 7]), (⟨(some 3), none, .q (.mov (.t 58))⟩, [14, 14, 0, 1, 2, 3, 4, 5, 6, 7, 8, 9, 10, 11, 12, 13, 14])]))
  (.ops [⟨(some 42), none, .q (.mov (.t 5))⟩, ⟨(some 43), none, .q (.bin .add (.t 42) (.c (.sc (.int .i64 1))))⟩, ⟨(some 5), none, .q (.mov (.t 43))⟩]))))))
  (.seq (.ops [⟨(some 59), none, .q (.mov (.t 3))⟩, ⟨(some 60), none, .q (.fadr 4 (.t 1))⟩, ⟨(some 61), none, .q (.load false 1 (.t 60))⟩, ⟨(some 62), none, .q (.llen (.t 61))⟩, ⟨(some 63), none, .c (.c (.clo 25 [])) [(.t 59), (.t 62)]⟩, ⟨(some 3), none, .q (.mov (.t 63))⟩])
  (.seq (.seq (.ops [⟨(some 6), none, .q (.mov (.c (.sc (.int .i64 0))))⟩])
  (.block 4 (.loop (.seq (.seq (.ops [⟨(some 64), none, .q (.mov (.t 6))⟩, ⟨(some 65), none, .q (.fadr 4 (.t 1))⟩, ⟨(some 66), none, .q (.load false 1 (.t 65))⟩, ⟨(some 67), none, .q (.llen (.t 66))⟩, ⟨(some 68), none, .q (.bin .lss (.t 64) (.t 67))⟩])
  (.cond (.t 68) .skip
  (.exit 4)))
  (.seq (.block 5 (.any [(⟨(some 71), none, .q (.mov (.t 3))⟩, []), (⟨(some 72), none, .q (.fadr 4 (.t 1))⟩, []), (⟨(some 73), none, .q (.load false 1 (.t 72))⟩, [1]), (⟨(some 74), none, .q (.mov (.t 6))⟩, []), (⟨(some 75), none, .q (.iadr 3 (.t 73) (.t 74))⟩, [2, 3]), (⟨(some 76), none, .q (.fadr 0 (.t 75))⟩, [4]), (⟨(some 77), none, .q (.load false 1 (.t 76))⟩, [5]), (⟨(some 78), none, .c (.c (.clo 26 [])) [(.t 71), (.t 77)]⟩, [0, 6]), (⟨(some 79), none, .q (.fadr 4 (.t 1))⟩, []), (⟨(some 80), none, .q (.load false 1 (.t 79))⟩, [8]), (⟨(some 81), none, .q (.mov (.t 6))⟩, []), (⟨(some 82), none, .q (.iadr 3 (.t 80) (.t 81))⟩, [9, 10]), (⟨(some 83), none, .q (.fadr 2 (.t 82))⟩, [11]), (⟨(some 84), none, .q (.load false 1 (.t 83))⟩, [12]), (⟨(some 85), none, .c (.c (.clo 26 [])) [(.t 78), (.t 84)]⟩, [7, 13, 7]), (⟨(some 86), none, .q (.fadr 4 (.t 1))⟩, []), (⟨(some 87), none, .q (.load false 1 (.t 86))⟩, [15]), (⟨(some 88), none, .q (.mov (.t 6))⟩, []), (⟨(some 89), none, .q (.iadr 3 (.t 87) (.t 88))⟩, [16, 17]), (⟨(some 90), none, .q (.fadr 1 (.t 89))⟩, [18]), (⟨(some 91), none, .q (.load false 1 (.t 90))⟩, [19]), (⟨(some 92), none, .c (.c (.clo 27 [])) [(.t 85), (.t 91)]⟩, [14, 20, 14]), (⟨(some 3), none, .q (.mov (.t 92))⟩, [21, 21, 0, 1, 2, 3, 4, 5, 6, 7, 8, 9, 10, 11, 12, 13, 14, 15, 16, 17, 18, 19, 20, 21])]))
  (.ops [⟨(some 69), none, .q (.mov (.t 6))⟩, ⟨(some 70), none, .q (.bin .add (.t 69) (.c (.sc (.int .i64 1))))⟩, ⟨(some 6), none, .q (.mov (.t 70))⟩]))))))
  (.seq (.ops [⟨(some 93), none, .q (.mov (.t 3))⟩, ⟨(some 2), none, .q (.mov (.t 93))⟩])
  .ret))))))))
theorem K10 : Tryd.f10.body.bind (comp Tryd.prog) = some A10 ∧ Tryd.f10.ntmps = 94 ∧ Tryd.f10.results.toList.mapM (resB Tryd.prog) = some [.mov (.t 2)] := ⟨by kernel_rfl, by kernel_rfl, by kernel_rfl⟩
set_option maxHeartbeats 4000000 in
theorem R10 (j : Job) (h1 : j.acts.length < 4611686018427387904) (h2 : j.ins.length < 4611686018427387904) (h3 : j.envs.length < 4611686018427387904) (h4 : j.deps.length < 4611686018427387904) (jfit : ∀ m ∈ j.deps, m.outs.length < 4611686018427387904) (hb : jw j + j.acts.length + j.ins.length + j.envs.length + j.deps.length + ol j.deps + 100 ≤ 140737488350000) : Ret Tryd.prog 10 [.agg (Job.ty.cs j)] (.own (rows B (jkey j)) (jkey j).length 1) [.un] := by
  have hn := jw_eq j
  have z1 := numT_size j.acts.length
  rw [hn] at hb
  have p0 := putT_le [] j.name
  have p1 := putT_le (putT [] j.name) (numT j.acts.length)
  simp only [List.length_nil] at p0
  have hk := jkey_eq j
  obtain ⟨b0, hb0⟩ : ∃ b, b = putT (putT [] j.name) (numT j.acts.length) := ⟨_, rfl⟩
  rw [← hb0] at hk p1
  obtain ⟨b1, hb1⟩ : ∃ b, b = putL b0 j.acts := ⟨_, rfl⟩
  rw [← hb1] at hk
  have p2 := putFl_le b1 j.ins
  obtain ⟨b2, hb2⟩ : ∃ b, b = putFl b1 j.ins := ⟨_, rfl⟩
  rw [← hb2] at hk p2
  have p3 := putT_le b2 (numT j.envs.length)
  obtain ⟨b3, hb3⟩ : ∃ b, b = putT b2 (numT j.envs.length) := ⟨_, rfl⟩
  rw [← hb3] at hk p3
  obtain ⟨b4, hb4⟩ : ∃ b, b = putL b3 (txE j.envs) := ⟨_, rfl⟩
  rw [← hb4] at hk
  have p5 := putT_le b4 (numT j.deps.length)
  obtain ⟨b5, hb5⟩ : ∃ b, b = putT b4 (numT j.deps.length) := ⟨_, rfl⟩
  rw [← hb5] at hk p5
  have hz2 := fw_sw j.ins
  have y2 := numT_size j.ins.length
  have y3 := numT_size j.envs.length
  have y4 := numT_size j.deps.length
  have r0 := R25 (putT [] j.name) j.acts.length h1 (by omega)
  rw [← hb0] at r0
  refine Ret.run Tryd.func10 K10 (by simp) rfl rfl 900 ?_
  simp [A10, iniρ, Job.cse]
  refine T.textW 400 [([7], []), ([], [7]), ([], [7]), ([10], []), ([], [7, 10]), ([], [7, 10]), ([], [7, 10]), ([14], []), ([], [])] mixed (by kernel_rfl) (by kernel_rfl) ?_
  simp [merge_nil, hideH_nil]
  refine callWK.ro 10 rfl (by kernel_rfl) (by simp [upd_app, roc_sc, hideH_app, Br0]) (R26 [] j.name (by simp only [List.length_nil]; omega)) (B_fl _) (by simp [inst, upd_app, hideH_app]; exact ⟨rfl, rfl⟩) (by rfl) ?_
  simp [merge_nil, hideH_nil]
  refine callWK.ro 14 rfl (by kernel_rfl) (by simp [upd_app, roc_sc, hideH_app, Br]) r0 (B_fl _) (by simp [inst, upd_app, hideH_app]; exact ⟨rfl, rfl⟩) (by rfl) ?_
  simp [merge_nil, hideH_nil]
  refine T.le (Le.reseat [1, 3, 4] [(1, 1), (14, 60)] (by simp) (by simp [upd_app, merge_app, hideH_app, menB, idfree]) (by
    intro c hc cs hcs
    simp at hc
    rcases hc with rfl | rfl
    · simp [upd_app, merge_app, hideH_app] at hcs
      subst hcs
      simp [Job.cse, idfree]
    · simp [upd_app, merge_app, hideH_app] at hcs
      subst hcs
      exact idfreeL_mem (idfreeL_rows B.fr _))) ?_
  refine T.rounds (μ := fun i : List ByteArray × List ByteArray × List Int => i.2.1.length)
    (fun i s => i.1 ++ i.2.1 = j.acts ∧ putL i.2.2 i.2.1 = b1 ∧ i.2.2.length + sw i.2.1 + ((numT j.ins.length).size + 2 + sw (txF j.ins) + ((numT j.envs.length).size + 2) + sw (txE j.envs) + ((numT j.deps.length).size + 2) + sw (txM j.deps) + (j.ins.length + j.envs.length + j.deps.length + ol j.deps + 100)) ≤ 140737488350000 ∧ s.ρ 1 = .ref 1 0 ∧ s.ρ 3 = .sl 60 0 i.2.2.length 1 false ∧ s.ρ 4 = .sc (.int .i64 i.1.length) ∧ s.h 1 = some (some (Job.ty.cs j)) ∧ s.h 60 = some (some (rows B i.2.2)) ∧ (∀ c, c ≠ 60 → c ≠ 1 → s.h c = none) ∧ s.n = 94) ([], j.acts, b0) (by simp [upd_app, Job.cse, hb1]; exact ⟨by omega, fun c hc h1 => by rw [findB h1 hc]⟩) ?_
  rintro ⟨pre, rest, cur⟩ ⟨ρ, hh, n⟩ ⟨hx, hE, hw, k1, k3, k4, q1, b60, bf, rfl⟩
  simp only at hx hE hw k1 k3 k4 q1 b60 bf
  refine run_ok (n := 400) ?_
  cases rest
  case cons x rest =>
    have hle : pre.length + (rest.length + 1) = j.acts.length := by rw [← hx]; simp
    have hlt : (pre.length : Int) < j.acts.length := by omega
    have hwr : IntKind.i64.wrap ((pre.length : Int) + 1) = pre.length + 1 := wrap_i64 (by omega) (by omega)
    have hd := rows_drop Ty.str.csn pre (x :: rest)
    rw [hx, rows_cons] at hd
    rw [show pre.length * Ty.str.n = pre.length from Nat.mul_one _] at hd
    have hd : List.drop (pre.length) (rows Ty.str.cs j.acts) = AV.sc (.string x) :: rows Ty.str.cs rest := hd
    rw [sw] at hw
    have c1 := putT_le cur x
    have f28 := bf 28 (by decide) (by decide)
    simp [k1, k3, k4, q1, hlt, hd, Job.cse]
    refine callK.ro 28 rfl (by kernel_rfl) (by simp [upd_app, roc_sc, Br, b60]) (R26 cur x (by omega)) (B_fl _) (by simp [inst, upd_app, f28]; exact ⟨rfl, rfl⟩) rfl ?_
    simp [k1, k3, k4, hwr]
    refine ⟨pre ++ [x], rest, by simp, putT cur x, _, (Le.reseat [1, 3, 4] [(1, 1), (28, 60)] (by simp) (by simp [upd_app, merge_app, hideH_app, menB, idfree, k1, k3, k4, q1, Job.cse]) (by
      intro c hc cs hcs
      simp at hc
      rcases hc with rfl | rfl
      · simp [upd_app, merge_app, hideH_app, k1, k3, k4, q1, Job.cse] at hcs
        subst hcs
        simp [Job.cse, idfree]
      · simp [upd_app, merge_app, hideH_app] at hcs
        subst hcs
        exact idfreeL_mem (idfreeL_rows B.fr _))), by simpa using hx, hE, by omega, ?_⟩
    simp [upd_app, merge_app, hideH_app, k1, k3, k4, q1, Job.cse]
    exact fun c hc h1 => by rw [findB h1 hc]
  have hxl : pre.length = j.acts.length := by rw [← hx]; simp
  have hE : cur = b1 := hE
  subst cur
  clear hx
  simp [k1, k3, k4, q1, hxl, Job.cse]
  refine T.on 400 ?_
  have r2 := R27 b1 j.ins h2 (by omega)
  rw [← hb2] at r2
  have r3 := R25 b2 j.envs.length h3 (by omega)
  rw [← hb3] at r3
  have f32 := bf 32 (by decide) (by decide)
  have f36 := bf 36 (by decide) (by decide)
  refine T.textW 400 [([], []), ([], []), ([], []), ([32], []), ([], [32]), ([], [32]), ([], [32]), ([36], []), ([], [])] mixed (by kernel_rfl) (by kernel_rfl) ?_
  simp [k1, k3, q1, b60, Job.cse, merge_nil, hideH_nil]
  refine callWK.ro 32 rfl (by kernel_rfl) (by simp [upd_app, roc_ro, hideH_app, Br, b60, k3]) r2 (B_fl _) (by simp [inst, upd_app, hideH_app, f32]; exact ⟨rfl, rfl⟩) (by rfl) ?_
  simp [k1, q1, Job.cse, merge_nil, hideH_nil]
  refine callWK.ro 36 rfl (by kernel_rfl) (by simp [upd_app, roc_sc, hideH_app, Br]) r3 (B_fl _) (by simp [inst, upd_app, hideH_app, f36]; exact ⟨rfl, rfl⟩) (by rfl) ?_
  simp [k1, q1, Job.cse, merge_nil, hideH_nil]
  refine T.le (Le.reseat [1, 3, 5] [(1, 1), (36, 60)] (by simp) (by simp [upd_app, merge_app, hideH_app, menB, idfree, k1, q1]) (by
    intro c hc cs hcs
    simp at hc
    rcases hc with rfl | rfl
    · simp [upd_app, merge_app, hideH_app, k1, q1] at hcs
      subst hcs
      simp [Job.cse, idfree]
    · simp [upd_app, merge_app, hideH_app] at hcs
      subst hcs
      exact idfreeL_mem (idfreeL_rows B.fr _))) ?_
  refine T.rounds (μ := fun i : List Env × List Env × List Int => i.2.1.length)
    (fun i s => i.1 ++ i.2.1 = j.envs ∧ putL i.2.2 (txE i.2.1) = b4 ∧ i.2.2.length + sw (txE i.2.1) + ((numT j.deps.length).size + 2 + sw (txM j.deps) + (j.deps.length + ol j.deps + 100)) ≤ 140737488350000 ∧ s.ρ 1 = .ref 1 0 ∧ s.ρ 3 = .sl 60 0 i.2.2.length 1 false ∧ s.ρ 5 = .sc (.int .i64 i.1.length) ∧ s.h 1 = some (some (Job.ty.cs j)) ∧ s.h 60 = some (some (rows B i.2.2)) ∧ (∀ c, c ≠ 60 → c ≠ 1 → s.h c = none) ∧ s.n = 94) ([], j.envs, b3) (by simp [upd_app, Job.cse, k1, q1, hb4]; exact ⟨by omega, fun c hc h1 => by rw [findB h1 hc]⟩) ?_
  rintro ⟨pre, rest, cur⟩ ⟨ρ, hh, n⟩ ⟨hx, hE, hw, k1, k3, k5, q1, b60, bf, rfl⟩
  simp only at hx hE hw k1 k3 k5 q1 b60 bf
  refine run_ok (n := 400) ?_
  cases rest
  case cons x rest =>
    have hle : pre.length + (rest.length + 1) = j.envs.length := by rw [← hx]; simp
    have hlt : (pre.length : Int) < j.envs.length := by omega
    have hwr : IntKind.i64.wrap ((pre.length : Int) + 1) = pre.length + 1 := wrap_i64 (by omega) (by omega)
    have hd := rows_drop Env.ty.csn pre (x :: rest)
    rw [hx, rows_cons] at hd
    have hd : List.drop (pre.length * 2) (rows Env.ty.cs j.envs) = AV.sc (.string x.name) :: AV.sc (.string x.val) :: rows Env.ty.cs rest := hd
    rw [txE, sw, sw] at hw
    rw [txE] at hE
    have c1 := putT_le cur x.name
    have c2 := putT_le (putT cur x.name) x.val
    have hd1 : List.drop (pre.length * 2 + 1) (rows Env.ty.cs j.envs) = AV.sc (.string x.val) :: rows Env.ty.cs rest := by rw [← List.drop_drop, hd]; rfl
    have f51 := bf 51 (by decide) (by decide)
    have f58 := bf 58 (by decide) (by decide)
    simp [k1, k3, k5, q1, hlt, Job.cse]
    refine T.textW 400 [([], []), ([], []), ([], []), ([], []), ([], []), ([], []), ([], []), ([51], []), ([], [51]), ([], [51]), ([], [51]), ([], [51]), ([], [51]), ([], [51]), ([58], []), ([], [])] mixed (by kernel_rfl) (by kernel_rfl) ?_
    simp [k1, k3, k5, q1, hlt, hd, Job.cse, merge_nil, hideH_nil]
    refine callWK.ro 51 rfl (by kernel_rfl) (by simp [upd_app, roc_sc, hideH_app, Br, b60]) (R26 cur x.name (by omega)) (B_fl _) (by simp [inst, upd_app, hideH_app, f51]; exact ⟨rfl, rfl⟩) (by rfl) ?_
    simp [k1, k3, k5, q1, hlt, hd1, Job.cse, merge_nil, hideH_nil]
    refine callWK.ro 58 rfl (by kernel_rfl) (by simp [upd_app, roc_sc, hideH_app, Br]) (R26 (putT cur x.name) x.val (by omega)) (B_fl _) (by simp [inst, upd_app, hideH_app, f58]; exact ⟨rfl, rfl⟩) (by rfl) ?_
    simp [k1, k3, k5, hwr, merge_nil, hideH_nil]
    refine ⟨pre ++ [x], rest, by simp, putT (putT cur x.name) x.val, _, (Le.reseat [1, 3, 5] [(1, 1), (58, 60)] (by simp) (by simp [upd_app, merge_app, hideH_app, menB, idfree, k1, k3, k5, q1, Job.cse]) (by
      intro c hc cs hcs
      simp at hc
      rcases hc with rfl | rfl
      · simp [upd_app, merge_app, hideH_app, k1, k3, k5, q1, Job.cse] at hcs
        subst hcs
        simp [Job.cse, idfree]
      · simp [upd_app, merge_app, hideH_app] at hcs
        subst hcs
        exact idfreeL_mem (idfreeL_rows B.fr _))), by simpa using hx, hE, by omega, ?_⟩
    simp [upd_app, merge_app, hideH_app, k1, k3, k5, q1, Job.cse]
    exact fun c hc h1 => by rw [findB h1 hc]
  have hxl : pre.length = j.envs.length := by rw [← hx]; simp
  have hE : cur = b4 := hE
  subst cur
  clear hx
  simp [k1, k3, k5, q1, hxl, Job.cse]
  refine T.on 400 ?_
  have r5 := R25 b4 j.deps.length h4 (by omega)
  rw [← hb5] at r5
  have f63 := bf 63 (by decide) (by decide)
  simp [k1, k3, q1, Job.cse]
  refine callK.ro 63 rfl (by kernel_rfl) (by simp [upd_app, roc_sc, Br, b60, k3]) r5 (B_fl _) (by simp [inst, upd_app, f63]; exact ⟨rfl, rfl⟩) rfl ?_
  simp [k1, q1, Job.cse]
  refine T.le (Le.reseat [1, 3, 6] [(1, 1), (63, 60)] (by simp) (by simp [upd_app, merge_app, hideH_app, menB, idfree, k1, q1]) (by
    intro c hc cs hcs
    simp at hc
    rcases hc with rfl | rfl
    · simp [upd_app, merge_app, hideH_app, k1, q1] at hcs
      subst hcs
      simp [Job.cse, idfree]
    · simp [upd_app, merge_app, hideH_app] at hcs
      subst hcs
      exact idfreeL_mem (idfreeL_rows B.fr _))) ?_
  refine T.rounds (μ := fun i : List Made × List Made × List Int => i.2.1.length)
    (fun i s => i.1 ++ i.2.1 = j.deps ∧ putL i.2.2 (txM i.2.1) = jkey j ∧ i.2.2.length + sw (txM i.2.1) + (ol i.2.1 + 100) ≤ 140737488350000 ∧ s.ρ 1 = .ref 1 0 ∧ s.ρ 3 = .sl 60 0 i.2.2.length 1 false ∧ s.ρ 6 = .sc (.int .i64 i.1.length) ∧ s.h 1 = some (some (Job.ty.cs j)) ∧ s.h 60 = some (some (rows B i.2.2)) ∧ (∀ c, c ≠ 60 → c ≠ 1 → s.h c = none) ∧ s.n = 94) ([], j.deps, b5) (by simp [upd_app, Job.cse, k1, q1, hk]; exact ⟨by omega, fun c hc h1 => by rw [findB h1 hc]⟩) ?_
  rintro ⟨pre, rest, cur⟩ ⟨ρ, hh, n⟩ ⟨hx, hE, hw, k1, k3, k6, q1, b60, bf, rfl⟩
  simp only at hx hE hw k1 k3 k6 q1 b60 bf
  refine run_ok (n := 400) ?_
  cases rest
  case cons x rest =>
    have hle : pre.length + (rest.length + 1) = j.deps.length := by rw [← hx]; simp
    have hlt : (pre.length : Int) < j.deps.length := by omega
    have hwr : IntKind.i64.wrap ((pre.length : Int) + 1) = pre.length + 1 := wrap_i64 (by omega) (by omega)
    have hd := rows_drop Made.ty.csn pre (x :: rest)
    rw [hx, rows_cons] at hd
    have hd : List.drop (pre.length * 3) (rows Made.ty.cs j.deps) = AV.sc (.string x.task) :: .ro (rows File.ty.cs x.outs) x.outs.length :: .sc (.string x.log) :: rows Made.ty.cs rest := hd
    rw [txM, sw, sw, sw, sw_app, ol] at hw
    rw [txM] at hE
    have hf := fw_sw x.outs
    have hfl := swF_lt x.outs
    have hns := numT_size x.outs.length
    have c1 := putT_le cur x.task
    have c2 := putT_le (putT cur x.task) x.log
    have c3 := putFl_le (putT (putT cur x.task) x.log) x.outs
    have hE : putL (putFl (putT (putT cur x.task) x.log) x.outs) (txM rest) = jkey j := by rw [putFl_L, ← putL_app]; exact hE
    have hrest := jfit x (by rw [← hx]; simp)
    have hd1 : List.drop (pre.length * 3 + 1) (rows Made.ty.cs j.deps) = .ro (rows File.ty.cs x.outs) x.outs.length :: .sc (.string x.log) :: rows Made.ty.cs rest := by rw [← List.drop_drop, hd]; rfl
    have hd2 : List.drop (pre.length * 3 + 2) (rows Made.ty.cs j.deps) = .sc (.string x.log) :: rows Made.ty.cs rest := by rw [← List.drop_drop, hd]; rfl
    have f78 := bf 78 (by decide) (by decide)
    have f85 := bf 85 (by decide) (by decide)
    have f92 := bf 92 (by decide) (by decide)
    simp [k1, k3, k6, q1, hlt, Job.cse]
    refine T.textW 400 [([], []), ([], []), ([], []), ([], []), ([], []), ([], []), ([], []), ([78], []), ([], [78]), ([], [78]), ([], [78]), ([], [78]), ([], [78]), ([], [78]), ([85], []), ([], [78, 85]), ([], [78, 85]), ([], [78, 85]), ([], [78, 85]), ([], [78, 85]), ([], [78, 85]), ([92], []), ([], [])] mixed (by kernel_rfl) (by kernel_rfl) ?_
    simp [k1, k3, k6, q1, hlt, hd, Job.cse, merge_nil, hideH_nil]
    refine callWK.ro 78 rfl (by kernel_rfl) (by simp [upd_app, roc_sc, hideH_app, Br, b60]) (R26 cur x.task (by omega)) (B_fl _) (by simp [inst, upd_app, hideH_app, f78]; exact ⟨rfl, rfl⟩) (by rfl) ?_
    simp [k1, k3, k6, q1, hlt, hd2, Job.cse, merge_nil, hideH_nil]
    refine callWK.ro 85 rfl (by kernel_rfl) (by simp [upd_app, roc_sc, hideH_app, Br]) (R26 (putT cur x.task) x.log (by omega)) (B_fl _) (by simp [inst, upd_app, hideH_app, f85]; exact ⟨rfl, rfl⟩) (by rfl) ?_
    simp [k1, k3, k6, q1, hlt, hd1, Job.cse, merge_nil, hideH_nil]
    refine callWK.ro 92 rfl (by kernel_rfl) (by simp [upd_app, roc_ro, hideH_app, Br]) (R27 (putT (putT cur x.task) x.log) x.outs hrest (by omega)) (B_fl _) (by simp [inst, upd_app, hideH_app, f92]; exact ⟨rfl, rfl⟩) (by rfl) ?_
    simp [k1, k3, k6, hwr, merge_nil, hideH_nil]
    refine ⟨pre ++ [x], rest, by simp, putFl (putT (putT cur x.task) x.log) x.outs, _, (Le.reseat [1, 3, 6] [(1, 1), (92, 60)] (by simp) (by simp [upd_app, merge_app, hideH_app, menB, idfree, k1, k3, k6, q1, Job.cse]) (by
      intro c hc cs hcs
      simp at hc
      rcases hc with rfl | rfl
      · simp [upd_app, merge_app, hideH_app, k1, k3, k6, q1, Job.cse] at hcs
        subst hcs
        simp [Job.cse, idfree]
      · simp [upd_app, merge_app, hideH_app] at hcs
        subst hcs
        exact idfreeL_mem (idfreeL_rows B.fr _))), by simpa using hx, hE, by omega, ?_⟩
    simp [upd_app, merge_app, hideH_app, k1, k3, k6, q1, Job.cse]
    exact fun c hc h1 => by rw [findB h1 hc]
  have hxl : pre.length = j.deps.length := by rw [← hx]; simp
  have hE : cur = jkey j := hE
  subst cur
  clear hx
  simp [k1, k3, k6, q1, hxl, Job.cse]
  refine T.on 400 ?_
  simp [k1, k3, q1, b60, ex1, B.count, idfreeL_rows B.fr]
def pathL : List ByteArray := [⟨#[97, 47, 120]⟩, ⟨#[97, 47, 121]⟩, ⟨#[97, 47, 115, 114, 99, 47, 109]⟩, ⟨#[98, 47, 120]⟩, ⟨#[98, 47, 116, 46, 109, 100]⟩, ⟨#[99, 47, 120]⟩, ⟨#[99, 47, 115, 114, 99, 47, 110, 46, 103, 111]⟩, ⟨#[116, 111, 112]⟩]
def fourL : List ByteArray := [⟨#[]⟩, ⟨#[49]⟩, ⟨#[104, 101, 108, 108, 111]⟩, ⟨#[116, 119, 111, 10]⟩]
def jnamL : List ByteArray := [⟨#[98, 35, 98, 117, 105, 108, 100]⟩, ⟨#[99, 35, 116, 101, 115, 116]⟩]
def jenvL : List ByteArray := [⟨#[]⟩, ⟨#[102, 97, 115, 116]⟩]
def actL : List ByteArray := [⟨#[112, 117, 116, 32, 104, 105, 32, 62, 32, 111]⟩, ⟨#[112, 117, 116, 32, 97, 32, 98, 32, 99, 32, 62, 32, 112]⟩, ⟨#[99, 97, 116, 32, 97, 47, 120, 32, 62, 32, 111]⟩, ⟨#[99, 97, 116, 32, 97, 47, 120, 32, 98, 47, 120, 32, 97, 47, 121, 32, 62, 32, 113]⟩, ⟨#[99, 97, 116, 32, 116, 111, 112, 32, 62, 32, 111]⟩, ⟨#[101, 110, 118, 32, 109, 111, 100, 101, 32, 62, 32, 101]⟩, ⟨#[101, 110, 118, 32, 110, 111, 110, 101, 32, 62, 32, 101]⟩, ⟨#[117, 115, 101, 32, 97, 35, 98, 117, 105, 108, 100, 32, 111, 32, 62, 32, 113]⟩, ⟨#[117, 115, 101, 32, 97, 35, 98, 117, 105, 108, 100, 32, 112, 32, 62, 32, 114]⟩, ⟨#[117, 115, 101, 32, 98, 35, 116, 101, 115, 116, 32, 111, 32, 62, 32, 113]⟩, ⟨#[108, 111, 103, 32, 100, 111, 110, 101]⟩, ⟨#[108, 111, 103, 32, 97, 32, 98]⟩, ⟨#[102, 97, 105, 108]⟩, ⟨#[112, 117, 116, 32, 104, 105, 32, 62, 32, 115]⟩, ⟨#[112, 117, 116, 32, 104, 105, 32, 62, 32, 116]⟩, ⟨#[112, 117, 116, 32, 104, 105, 32, 62, 32, 117]⟩, ⟨#[112, 117, 116, 32, 104, 105, 32, 62, 32, 118]⟩]
def aB : ByteArray := ⟨#[97, 35, 98, 117, 105, 108, 100]⟩
def bT : ByteArray := ⟨#[98, 35, 116, 101, 115, 116]⟩
def modeT : ByteArray := ⟨#[109, 111, 100, 101]⟩
def fileD (c : Cur) : File := ⟨pickS pathL c 8, pickS fourL (belowC c 8) 4⟩
def filesP : Nat → Cur → List File → List File × Cur
  | 0, c, l => (l, c)
  | n + 1, c, l => filesP n (belowC (belowC c 8) 4) (putFile l (fileD c)).1
def filesF (c : Cur) : List File × Cur := filesP (belowV c 9).toNat (belowC c 9) []
def actsP : Nat → Cur → List ByteArray → List ByteArray × Cur
  | 0, c, l => (l, c)
  | n + 1, c, l => actsP n (belowC c 17) (l ++ [pickS actL c 17])
def actsF (c : Cur) : List ByteArray × Cur := actsP (1 + belowV c 4).toNat (belowC c 4) []
def depA (c : Cur) : List Made × Cur := if belowV c 3 = 0 then ([], belowC c 3) else ([madeV (belowC c 3) aB], madeC (belowC c 3))
def depB (p : List Made × Cur) : List Made × Cur := if belowV p.2 3 = 0 then (p.1 ++ [madeV (belowC p.2 3) bT], madeC (belowC p.2 3)) else (p.1, belowC p.2 3)
def jF (c : Cur) : List File × Cur := filesF (belowC c 2)
def jA (c : Cur) : List ByteArray × Cur := actsF (belowC (jF c).2 2)
def jD (c : Cur) : List Made × Cur := depB (depA (jA c).2)
def jobV (c : Cur) : Job := ⟨pickS jnamL c 2, (jA c).1, (jF c).1, [⟨modeT, pickS jenvL (jF c).2 2⟩], (jD c).1⟩
def jobC (c : Cur) : Cur := (jD c).2
theorem Cur.len3 (c d : Cur) : c.cs.length = d.cs.length := rfl
theorem fileD_size (c : Cur) : (fileD c).path.size ≤ 10 ∧ (fileD c).text.size ≤ 10 := ⟨pick_size (by decide) _ _, pick_size (by decide) _ _⟩
theorem filesP_ok : ∀ (n : Nat) (c : Cur) (l : List File), c.ok → (∀ x ∈ l, x.path.size ≤ 10 ∧ x.text.size ≤ 10) → (filesP n c l).2.ok ∧ (filesP n c l).1.length ≤ l.length + n ∧ ∀ x ∈ (filesP n c l).1, x.path.size ≤ 10 ∧ x.text.size ≤ 10
  | 0, c, l, hc, h => ⟨hc, Nat.le_refl _, h⟩
  | n + 1, c, l, hc, h => by
    have hl := putFile_len l (fileD c)
    obtain ⟨h1, h2, h3⟩ := filesP_ok n (belowC (belowC c 8) 4) (putFile l (fileD c)).1 (belowC_ok (belowC_ok hc 8) 4) (fun x hx => (putFile_mem l (fileD c) x hx).elim (fun e => e ▸ fileD_size c) (h x))
    exact ⟨h1, Nat.le_trans h2 (by omega), h3⟩
theorem filesF_ok {c : Cur} (hc : c.ok) : (filesF c).2.ok ∧ (filesF c).1.length ≤ 8 ∧ ∀ x ∈ (filesF c).1, x.path.size ≤ 10 ∧ x.text.size ≤ 10 := by
  obtain ⟨q1, q2⟩ := belowV_rng c (n := 9) (by omega)
  obtain ⟨h1, h2, h3⟩ := filesP_ok (belowV c 9).toNat (belowC c 9) [] (belowC_ok hc 9) (by simp)
  refine ⟨h1, Nat.le_trans h2 ?_, h3⟩
  simp only [List.length_nil]
  omega
theorem actsP_ok : ∀ (n : Nat) (c : Cur) (l : List ByteArray), c.ok → (∀ x ∈ l, x.size ≤ 19) → (actsP n c l).2.ok ∧ (actsP n c l).1.length = l.length + n ∧ ∀ x ∈ (actsP n c l).1, x.size ≤ 19
  | 0, c, l, hc, h => ⟨hc, rfl, h⟩
  | n + 1, c, l, hc, h => by
    obtain ⟨h1, h2, h3⟩ := actsP_ok n (belowC c 17) (l ++ [pickS actL c 17]) (belowC_ok hc 17) (fun x hx => by
      rcases List.mem_append.1 hx with hx | hx
      · exact h x hx
      · rw [List.mem_singleton.1 hx]; exact pick_size (by decide) _ _)
    refine ⟨h1, ?_, h3⟩
    show (actsP n _ _).1.length = _
    rw [h2]
    simp only [List.length_append, List.length_cons, List.length_nil]
    omega
theorem actsF_ok {c : Cur} (hc : c.ok) : (actsF c).2.ok ∧ (1 ≤ (actsF c).1.length ∧ (actsF c).1.length ≤ 4) ∧ ∀ x ∈ (actsF c).1, x.size ≤ 19 := by
  obtain ⟨q1, q2⟩ := belowV_rng c (n := 4) (by omega)
  obtain ⟨h1, h2, h3⟩ := actsP_ok (1 + belowV c 4).toNat (belowC c 4) [] (belowC_ok hc 4) (by simp)
  refine ⟨h1, ?_, h3⟩
  show 1 ≤ (actsP _ _ _).1.length ∧ (actsP _ _ _).1.length ≤ 4
  rw [h2]
  simp only [List.length_nil]
  omega
def mSmall (m : Made) : Prop := m.task.size ≤ 7 ∧ m.outs.length ≤ 2 ∧ (∀ x ∈ m.outs, x.path.size ≤ 5 ∧ x.text.size ≤ 5) ∧ m.log.size ≤ 5
theorem madeV_small {c : Cur} (hc : c.ok) {t : ByteArray} (ht : t.size ≤ 7) : mSmall (madeV c t) := by
  obtain ⟨_, h2, h3⟩ := madeP_ok hc
  exact ⟨ht, h2, h3, pick_size (by decide) _ _⟩
theorem depA_ok {c : Cur} (hc : c.ok) : (depA c).2.ok ∧ (depA c).1.length ≤ 1 ∧ ∀ m ∈ (depA c).1, mSmall m := by
  unfold depA
  split
  · exact ⟨belowC_ok hc 3, Nat.zero_le _, fun m hm => by cases hm⟩
  · refine ⟨(madeP_ok (belowC_ok hc 3)).1, Nat.le_refl _, fun m hm => ?_⟩
    rw [List.mem_singleton.1 hm]
    exact madeV_small (belowC_ok hc 3) (by decide)
theorem depB_ok {p : List Made × Cur} (hc : p.2.ok) (hl : p.1.length ≤ 1) (hs : ∀ m ∈ p.1, mSmall m) : (depB p).2.ok ∧ (depB p).1.length ≤ 2 ∧ ∀ m ∈ (depB p).1, mSmall m := by
  unfold depB
  split
  · refine ⟨(madeP_ok (belowC_ok hc 3)).1, ?_, fun m hm => ?_⟩
    · simp only [List.length_append, List.length_cons, List.length_nil]; omega
    · rcases List.mem_append.1 hm with hm | hm
      · exact hs m hm
      · rw [List.mem_singleton.1 hm]
        exact madeV_small (belowC_ok hc 3) (by decide)
  · exact ⟨belowC_ok hc 3, Nat.le_trans hl (by decide), hs⟩
theorem jF_ok {c : Cur} (hc : c.ok) : (jF c).2.ok ∧ (jF c).1.length ≤ 8 ∧ ∀ x ∈ (jF c).1, x.path.size ≤ 10 ∧ x.text.size ≤ 10 := filesF_ok (belowC_ok hc 2)
theorem jA_ok {c : Cur} (hc : c.ok) : (jA c).2.ok ∧ (1 ≤ (jA c).1.length ∧ (jA c).1.length ≤ 4) ∧ ∀ x ∈ (jA c).1, x.size ≤ 19 := actsF_ok (belowC_ok (jF_ok hc).1 2)
theorem jD_ok {c : Cur} (hc : c.ok) : (jD c).2.ok ∧ (jD c).1.length ≤ 2 ∧ ∀ m ∈ (jD c).1, mSmall m := by
  obtain ⟨h1, h2, h3⟩ := depA_ok (jA_ok hc).1
  exact depB_ok h1 h2 h3
theorem jobC_ok {c : Cur} (hc : c.ok) : (jobC c).ok := (jD_ok hc).1
def A40 : AC := (.seq (.ops [⟨(some 2), none, .q (.mov (.c (.sc (.string ⟨#[]⟩))))⟩])
  (.seq (.ops [⟨(some 3), none, .q (.mov (.t 0))⟩, ⟨(some 4), none, .w (.bsl 1 8 [(.sc (.string ⟨#[]⟩)), (.sc (.string ⟨#[]⟩)), (.sc (.string ⟨#[]⟩)), (.sc (.string ⟨#[]⟩)), (.sc (.string ⟨#[]⟩)), (.sc (.string ⟨#[]⟩)), (.sc (.string ⟨#[]⟩)), (.sc (.string ⟨#[]⟩))] [(0, 1, (.c (.sc (.string ⟨#[97, 47, 120]⟩)))), (1, 1, (.c (.sc (.string ⟨#[97, 47, 121]⟩)))), (2, 1, (.c (.sc (.string ⟨#[97, 47, 115, 114, 99, 47, 109]⟩)))), (3, 1, (.c (.sc (.string ⟨#[98, 47, 120]⟩)))), (4, 1, (.c (.sc (.string ⟨#[98, 47, 116, 46, 109, 100]⟩)))), (5, 1, (.c (.sc (.string ⟨#[99, 47, 120]⟩)))), (6, 1, (.c (.sc (.string ⟨#[99, 47, 115, 114, 99, 47, 110, 46, 103, 111]⟩)))), (7, 1, (.c (.sc (.string ⟨#[116, 111, 112]⟩))))])⟩, ⟨(some 5), none, .c (.c (.clo 28 [])) [(.t 3), (.t 4)]⟩, ⟨(some 2), none, .q (.mov (.t 5))⟩])
  .ret))
theorem K40 : Tryd.f40.body.bind (comp Tryd.prog) = some A40 ∧ Tryd.f40.ntmps = 6 ∧ Tryd.f40.results.toList.mapM (resB Tryd.prog) = some [.mov (.t 2)] := ⟨by kernel_rfl, by kernel_rfl, by kernel_rfl⟩
theorem R40 (c : Cur) (hc : c.ok) : Ret Tryd.prog 40 [.bx c.cs] (.sc (.string (pickS pathL c 8))) [.bx (belowC c 8).cs] := by
  have fr : ∀ c : Cur, idfree.idfreeL c.cs = true := fun c => rfl
  have r1 : Ret Tryd.prog 28 [.bx c.cs, .own (rows Ty.str.oc pathL) 8 1] (.sc (.string (pickS pathL c 8))) [.bx (belowC c 8).cs, .un] := R28 c hc pathL (by decide)
  refine Ret.run Tryd.func40 K40 (by simp) rfl rfl 900 ?_
  simp [A40, iniρ, over]
  refine callK.bm 100000 4 (len := 8) (sz := 1) rfl (by kernel_rfl) (by simp [upd_app]) (by simp [upd_app]) (fr c) (by simp [upd_app]) (by simp [upd_app]; rfl) (by rfl) (by rfl) (by decide) r1 rfl rfl ?_
  simp [ex1, fr, ioPos1]
def A30 : AC := (.seq (.ops [⟨(some 2), none, .q (.mov (.c (.sc (.string ⟨#[]⟩))))⟩])
  (.seq (.ops [⟨(some 3), none, .q (.mov (.t 0))⟩, ⟨(some 4), none, .w (.bsl 1 17 [(.sc (.string ⟨#[]⟩)), (.sc (.string ⟨#[]⟩)), (.sc (.string ⟨#[]⟩)), (.sc (.string ⟨#[]⟩)), (.sc (.string ⟨#[]⟩)), (.sc (.string ⟨#[]⟩)), (.sc (.string ⟨#[]⟩)), (.sc (.string ⟨#[]⟩)), (.sc (.string ⟨#[]⟩)), (.sc (.string ⟨#[]⟩)), (.sc (.string ⟨#[]⟩)), (.sc (.string ⟨#[]⟩)), (.sc (.string ⟨#[]⟩)), (.sc (.string ⟨#[]⟩)), (.sc (.string ⟨#[]⟩)), (.sc (.string ⟨#[]⟩)), (.sc (.string ⟨#[]⟩))] [(0, 1, (.c (.sc (.string ⟨#[112, 117, 116, 32, 104, 105, 32, 62, 32, 111]⟩)))), (1, 1, (.c (.sc (.string ⟨#[112, 117, 116, 32, 97, 32, 98, 32, 99, 32, 62, 32, 112]⟩)))), (2, 1, (.c (.sc (.string ⟨#[99, 97, 116, 32, 97, 47, 120, 32, 62, 32, 111]⟩)))), (3, 1, (.c (.sc (.string ⟨#[99, 97, 116, 32, 97, 47, 120, 32, 98, 47, 120, 32, 97, 47, 121, 32, 62, 32, 113]⟩)))), (4, 1, (.c (.sc (.string ⟨#[99, 97, 116, 32, 116, 111, 112, 32, 62, 32, 111]⟩)))), (5, 1, (.c (.sc (.string ⟨#[101, 110, 118, 32, 109, 111, 100, 101, 32, 62, 32, 101]⟩)))), (6, 1, (.c (.sc (.string ⟨#[101, 110, 118, 32, 110, 111, 110, 101, 32, 62, 32, 101]⟩)))), (7, 1, (.c (.sc (.string ⟨#[117, 115, 101, 32, 97, 35, 98, 117, 105, 108, 100, 32, 111, 32, 62, 32, 113]⟩)))), (8, 1, (.c (.sc (.string ⟨#[117, 115, 101, 32, 97, 35, 98, 117, 105, 108, 100, 32, 112, 32, 62, 32, 114]⟩)))), (9, 1, (.c (.sc (.string ⟨#[117, 115, 101, 32, 98, 35, 116, 101, 115, 116, 32, 111, 32, 62, 32, 113]⟩)))), (10, 1, (.c (.sc (.string ⟨#[108, 111, 103, 32, 100, 111, 110, 101]⟩)))), (11, 1, (.c (.sc (.string ⟨#[108, 111, 103, 32, 97, 32, 98]⟩)))), (12, 1, (.c (.sc (.string ⟨#[102, 97, 105, 108]⟩)))), (13, 1, (.c (.sc (.string ⟨#[112, 117, 116, 32, 104, 105, 32, 62, 32, 115]⟩)))), (14, 1, (.c (.sc (.string ⟨#[112, 117, 116, 32, 104, 105, 32, 62, 32, 116]⟩)))), (15, 1, (.c (.sc (.string ⟨#[112, 117, 116, 32, 104, 105, 32, 62, 32, 117]⟩)))), (16, 1, (.c (.sc (.string ⟨#[112, 117, 116, 32, 104, 105, 32, 62, 32, 118]⟩))))])⟩, ⟨(some 5), none, .c (.c (.clo 28 [])) [(.t 3), (.t 4)]⟩, ⟨(some 2), none, .q (.mov (.t 5))⟩])
  .ret))
theorem K30 : Tryd.f30.body.bind (comp Tryd.prog) = some A30 ∧ Tryd.f30.ntmps = 6 ∧ Tryd.f30.results.toList.mapM (resB Tryd.prog) = some [.mov (.t 2)] := ⟨by kernel_rfl, by kernel_rfl, by kernel_rfl⟩
theorem R30 (c : Cur) (hc : c.ok) : Ret Tryd.prog 30 [.bx c.cs] (.sc (.string (pickS actL c 17))) [.bx (belowC c 17).cs] := by
  have fr : ∀ c : Cur, idfree.idfreeL c.cs = true := fun c => rfl
  have r1 : Ret Tryd.prog 28 [.bx c.cs, .own (rows Ty.str.oc actL) 17 1] (.sc (.string (pickS actL c 17))) [.bx (belowC c 17).cs, .un] := R28 c hc actL (by decide)
  refine Ret.run Tryd.func30 K30 (by simp) rfl rfl 900 ?_
  simp [A30, iniρ, over]
  refine callK.bm 100000 4 (len := 17) (sz := 1) rfl (by kernel_rfl) (by simp [upd_app]) (by simp [upd_app]) (fr c) (by simp [upd_app]) (by simp [upd_app]; rfl) (by rfl) (by rfl) (by decide) r1 rfl rfl ?_
  simp [ex1, fr, ioPos1]
def A29 : AC := (.seq (.ops [⟨(some 2), none, .q (.mov (.c .em))⟩])
  (.seq (.ops [⟨(some 5), none, .w (.bsl 2 0 [] [])⟩, ⟨(some 3), none, .q (.mov (.t 5))⟩])
  (.seq (.seq (.ops [⟨(some 6), none, .q (.mov (.t 0))⟩, ⟨(some 7), none, .c (.c (.clo 14 [])) [(.t 6), (.c (.sc (.int .i64 9)))]⟩, ⟨(some 4), none, .q (.mov (.t 7))⟩])
  (.block 0 (.loop (.seq (.seq (.ops [⟨(some 8), none, .q (.mov (.t 4))⟩, ⟨(some 9), none, .q (.bin .gtr (.t 8) (.c (.sc (.int .i64 0))))⟩])
  (.cond (.t 9) .skip
  (.exit 0)))
  (.seq (.block 1 (.ops [⟨(some 13), none, .q (.mov (.t 3))⟩, ⟨(some 14), none, .q (.mov (.t 0))⟩, ⟨(some 15), none, .c (.c (.clo 40 [])) [(.t 14)]⟩, ⟨(some 16), none, .q (.mov (.t 0))⟩, ⟨(some 17), none, .w (.bsl 1 4 [(.sc (.string ⟨#[]⟩)), (.sc (.string ⟨#[]⟩)), (.sc (.string ⟨#[]⟩)), (.sc (.string ⟨#[]⟩))] [(0, 1, (.c (.sc (.string ⟨#[]⟩)))), (1, 1, (.c (.sc (.string ⟨#[49]⟩)))), (2, 1, (.c (.sc (.string ⟨#[104, 101, 108, 108, 111]⟩)))), (3, 1, (.c (.sc (.string ⟨#[116, 119, 111, 10]⟩))))])⟩, ⟨(some 18), none, .c (.c (.clo 28 [])) [(.t 16), (.t 17)]⟩, ⟨(some 19), none, .w (.build [(.sc (.string ⟨#[]⟩)), (.sc (.string ⟨#[]⟩))] [(0, 1, (.t 15)), (1, 1, (.t 18))])⟩, ⟨(some 20), none, .c (.c (.clo 39 [])) [(.t 13), (.t 19)]⟩, ⟨(some 12), none, .q (.mov (.t 20))⟩, ⟨(some 21), none, .q (.ext (.t 12) 0)⟩, ⟨(some 22), none, .q (.ext (.t 12) 1)⟩, ⟨(some 3), none, .q (.mov (.t 21))⟩]))
  (.ops [⟨(some 10), none, .q (.mov (.t 4))⟩, ⟨(some 11), none, .q (.bin .sub (.t 10) (.c (.sc (.int .i64 1))))⟩, ⟨(some 4), none, .q (.mov (.t 11))⟩]))))))
  (.seq (.ops [⟨(some 23), none, .q (.mov (.t 3))⟩, ⟨(some 2), none, .q (.mov (.t 23))⟩])
  .ret))))
theorem K29 : Tryd.f29.body.bind (comp Tryd.prog) = some A29 ∧ Tryd.f29.ntmps = 24 ∧ Tryd.f29.results.toList.mapM (resB Tryd.prog) = some [.mov (.t 2)] := ⟨by kernel_rfl, by kernel_rfl, by kernel_rfl⟩
set_option maxHeartbeats 2000000 in
theorem R29 (c : Cur) (hc : c.ok) : Ret Tryd.prog 29 [.bx c.cs] (.own (rows File.ty.oc (filesF c).1) (filesF c).1.length 2) [.bx (filesF c).2.cs] := by
  have fr : ∀ c : Cur, idfree.idfreeL c.cs = true := fun c => rfl
  refine Ret.run Tryd.func29 K29 (by simp) rfl rfl 900 ?_
  simp [A29, iniρ, over]
  refine callK.bx (b := 100000) 0 rfl (by kernel_rfl) (by simp [upd_app]) (by simp [upd_app]) (fr _) (by simp [upd_app]) (by simp) (R14 c hc 9) rfl (by rfl) rfl ?_
  obtain ⟨q1, q2⟩ := belowV_rng c (n := 9) (by omega)
  obtain ⟨m, hm⟩ : ∃ m : Nat, belowV c 9 = m := ⟨(belowV c 9).toNat, by omega⟩
  have hP : filesP m (belowC c 9) [] = filesF c := by simp [filesF, hm]
  rw [hm] at q2 ⊢
  simp
  refine T.le (Le.reseat [0, 3, 4] [(100000, 100000), (5, 60)] (by simp) (by simp [upd_app, menB, idfree]) (by
    intro b hb cs hcs
    simp at hb
    rcases hb with rfl | rfl
    · simp [upd_app] at hcs
      subst hcs
      exact idfreeL_mem (fr _)
    · simp [upd_app] at hcs
      subst hcs
      simp)) ?_
  refine T.rounds (μ := fun i : Nat × Cur × List File => i.1)
    (fun i s => i.2.1.ok ∧ i.2.2.length + i.1 ≤ 9 ∧ (∀ x ∈ i.2.2, x.path.size ≤ 10 ∧ x.text.size ≤ 10) ∧ filesP i.1 i.2.1 i.2.2 = filesF c ∧ s.ρ 0 = .ref 100000 0 ∧ s.ρ 3 = .sl 60 0 i.2.2.length 2 false ∧ s.ρ 4 = .sc (.int .i64 i.1) ∧ s.h 100000 = some (some i.2.1.cs) ∧ s.h 60 = some (some (rows File.ty.oc i.2.2)) ∧ s.h 17 = none ∧ s.h 21000 = none ∧ s.n = 24) (m, belowC c 9, []) (by simp [upd_app, rows_nil, hP, belowC_ok, hc]; omega) ?_
  rintro ⟨j, d, out⟩ ⟨ρ, hh, n⟩ ⟨hd, hj, hs, hE, k0, k3, k4, kc, kf, f1, f2, rfl⟩
  simp only at hd hj hs hE k0 k3 k4 kc kf f1 f2
  refine run_ok (n := 400) ?_
  cases j
  case succ j =>
    have hw : IntKind.i64.wrap (j : Int) = j := wrap_i64 (by omega) (by omega)
    have hpos : (0 : Int) < (j : Int) + 1 := by omega
    have rb : Ret Tryd.prog 28 [.bx (belowC d 8).cs, .own (rows Ty.str.oc fourL) 4 1] (.sc (.string (fileD d).text)) [.bx (belowC (belowC d 8) 4).cs, .un] := R28 _ (belowC_ok hd 8) fourL (by decide)
    have hok : File.ty.slice.ok out := ⟨show out.length * 32 ≤ 140737488351232 by omega, fun x hx => ⟨show x.path.size ≤ 140737488351232 by have := hs x hx; omega, show x.text.size ≤ 140737488351232 by have := hs x hx; omega, trivial⟩⟩
    have rp := R39 out (fileD d) hok (fun x hx => by have := hs x hx; omega) (by have := fileD_size d; omega)
    simp [k4, hpos]
    refine callK.bx (b := 100000) 0 rfl (by kernel_rfl) (by simp [upd_app, k0]) (by simp [upd_app, kc]) (fr _) (by simp [upd_app]) (by simp) (R40 d hd) rfl (by rfl) rfl ?_
    simp [k0, f1, over]
    refine callK.bm 100000 17 (len := 4) (sz := 1) rfl (by kernel_rfl) (by simp [upd_app, k0]) (by simp [upd_app]) (fr _) (by simp [upd_app]) (by simp [upd_app]; rfl) (by rfl) (by rfl) (by decide) rb rfl rfl ?_
    simp [over]
    refine callK.ro 20 rfl (by kernel_rfl) (by simp [roc_agg, File.roc8, File.cse, upd_app, k3, kf, fileD]) rp (by simpa [flt, flt.fltL] using fltL_of (rows_all (q := flt) (fun x c hc => (File.ty.ow x c hc).fl) _)) (by simp [inst, instL, upd_app, f2]; exact ⟨rfl, rfl⟩) rfl ?_
    simp [k4, hw]
    refine ⟨j, by omega, belowC (belowC d 8) 4, (putFile out (fileD d)).1, _, Le.reseat [0, 3, 4] [(100000, 100000), (21000, 60)] (by simp) (by simp [upd_app, menB, idfree, k0]) (by
      intro b hb cs hcs
      simp at hb
      rcases hb with rfl | rfl
      · simp [upd_app] at hcs
        subst hcs
        exact idfreeL_mem (fr _)
      · simp [upd_app] at hcs
        subst hcs
        exact idfreeL_mem (File.frL _)), ?_⟩
    have hl := putFile_len out (fileD d)
    have hz := fileD_size d
    simp [upd_app, k0, belowC_ok, hd]
    exact ⟨by omega, fun x hx => (putFile_mem out (fileD d) x hx).elim (fun e => e ▸ hz) (hs x), hE⟩
  have hE1 : out = (filesF c).1 := by rw [← hE]; rfl
  have hE2 : d = (filesF c).2 := by rw [← hE]; rfl
  simp [k4]
  refine T.on 400 ?_
  simp [k0, k3, kc, kf, ex1, File.ocl, File.frL, fr, ioPos1, hE1, hE2]
def A12 : AC := (.seq (.ops [⟨(some 2), none, .w (.alloc [(.sc (.string ⟨#[]⟩)), .em, .em, .em, .em])⟩])
  (.seq (.ops [⟨(some 5), none, .q (.mov (.t 0))⟩, ⟨(some 6), none, .w (.bsl 1 2 [(.sc (.string ⟨#[]⟩)), (.sc (.string ⟨#[]⟩))] [(0, 1, (.c (.sc (.string ⟨#[98, 35, 98, 117, 105, 108, 100]⟩)))), (1, 1, (.c (.sc (.string ⟨#[99, 35, 116, 101, 115, 116]⟩))))])⟩, ⟨(some 7), none, .c (.c (.clo 28 [])) [(.t 5), (.t 6)]⟩, ⟨(some 8), none, .q (.mov (.t 0))⟩, ⟨(some 9), none, .c (.c (.clo 29 [])) [(.t 8)]⟩, ⟨(some 10), none, .q (.mov (.t 0))⟩, ⟨(some 11), none, .w (.bsl 1 2 [(.sc (.string ⟨#[]⟩)), (.sc (.string ⟨#[]⟩))] [(0, 1, (.c (.sc (.string ⟨#[]⟩)))), (1, 1, (.c (.sc (.string ⟨#[102, 97, 115, 116]⟩))))])⟩, ⟨(some 12), none, .c (.c (.clo 28 [])) [(.t 10), (.t 11)]⟩, ⟨(some 13), none, .w (.build [(.sc (.string ⟨#[]⟩)), (.sc (.string ⟨#[]⟩))] [(0, 1, (.c (.sc (.string ⟨#[109, 111, 100, 101]⟩)))), (1, 1, (.t 12))])⟩, ⟨(some 14), none, .w (.bsl 2 1 [(.sc (.string ⟨#[]⟩)), (.sc (.string ⟨#[]⟩))] [(0, 2, (.t 13))])⟩, ⟨(some 15), none, .w (.bsl 3 0 [] [])⟩, ⟨(some 16), none, .w (.build [(.sc (.string ⟨#[]⟩)), .em, .em, .em, .em] [(0, 1, (.t 7)), (2, 1, (.t 9)), (3, 1, (.t 14)), (4, 1, (.t 15))])⟩, ⟨(some 3), none, .w (.alloc [(.sc (.string ⟨#[]⟩)), .em, .em, .em, .em])⟩, ⟨none, none, .w (.store 5 (.t 3) (.t 16))⟩])
  (.seq (.seq (.ops [⟨(some 17), none, .q (.mov (.t 0))⟩, ⟨(some 18), none, .c (.c (.clo 14 [])) [(.t 17), (.c (.sc (.int .i64 4)))]⟩, ⟨(some 19), none, .q (.bin .add (.c (.sc (.int .i64 1))) (.t 18))⟩, ⟨(some 4), none, .q (.mov (.t 19))⟩])
  (.block 0 (.loop (.seq (.seq (.ops [⟨(some 20), none, .q (.mov (.t 4))⟩, ⟨(some 21), none, .q (.bin .gtr (.t 20) (.c (.sc (.int .i64 0))))⟩])
  (.cond (.t 21) .skip
  (.exit 0)))
  (.seq (.block 1 (.any [(⟨(some 24), none, .q (.fadr 1 (.t 3))⟩, []), (⟨(some 25), none, .q (.load false 1 (.t 24))⟩, [0]), (⟨(some 26), none, .q (.mov (.t 0))⟩, []), (⟨(some 27), none, .c (.c (.clo 30 [])) [(.t 26)]⟩, [2]), (⟨(some 28), none, .w (.bsl 1 1 [(.sc (.string ⟨#[]⟩))] [(0, 1, (.t 27))])⟩, [3]), (⟨(some 29), none, .w (.app 1 16 false (.t 25) (.t 28))⟩, [1, 4, 3]), (⟨(some 30), none, .q (.fadr 1 (.t 3))⟩, [0, 1, 2, 3, 4, 5]), (⟨none, none, .w (.store 1 (.t 30) (.t 29))⟩, [6, 5, 5, 0, 1, 2, 3, 4, 5])]))
  (.ops [⟨(some 22), none, .q (.mov (.t 4))⟩, ⟨(some 23), none, .q (.bin .sub (.t 22) (.c (.sc (.int .i64 1))))⟩, ⟨(some 4), none, .q (.mov (.t 23))⟩]))))))
  (.seq (.seq (.ops [⟨(some 31), none, .q (.mov (.t 0))⟩, ⟨(some 32), none, .c (.c (.clo 31 [])) [(.t 31), (.c (.sc (.int .i64 3)))]⟩, ⟨(some 33), none, .q (.not (.t 32))⟩])
  (.cond (.t 33) (.any [(⟨(some 34), none, .q (.fadr 4 (.t 3))⟩, []), (⟨(some 35), none, .q (.load false 1 (.t 34))⟩, [0]), (⟨(some 36), none, .q (.mov (.t 0))⟩, []), (⟨(some 37), none, .c (.c (.clo 32 [])) [(.t 36), (.c (.sc (.string ⟨#[97, 35, 98, 117, 105, 108, 100]⟩)))]⟩, [2]), (⟨(some 38), none, .w (.bsl 3 1 [(.sc (.string ⟨#[]⟩)), .em, (.sc (.string ⟨#[]⟩))] [(0, 3, (.t 37))])⟩, [3]), (⟨(some 39), none, .w (.app 3 56 false (.t 35) (.t 38))⟩, [1, 4, 3]), (⟨(some 40), none, .q (.fadr 4 (.t 3))⟩, [0, 1, 2, 3, 4, 5]), (⟨none, none, .w (.store 1 (.t 40) (.t 39))⟩, [6, 5, 5, 0, 1, 2, 3, 4, 5])])
  .skip))
  (.seq (.seq (.ops [⟨(some 41), none, .q (.mov (.t 0))⟩, ⟨(some 42), none, .c (.c (.clo 31 [])) [(.t 41), (.c (.sc (.int .i64 3)))]⟩])
  (.cond (.t 42) (.any [(⟨(some 43), none, .q (.fadr 4 (.t 3))⟩, []), (⟨(some 44), none, .q (.load false 1 (.t 43))⟩, [0]), (⟨(some 45), none, .q (.mov (.t 0))⟩, []), (⟨(some 46), none, .c (.c (.clo 32 [])) [(.t 45), (.c (.sc (.string ⟨#[98, 35, 116, 101, 115, 116]⟩)))]⟩, [2]), (⟨(some 47), none, .w (.bsl 3 1 [(.sc (.string ⟨#[]⟩)), .em, (.sc (.string ⟨#[]⟩))] [(0, 3, (.t 46))])⟩, [3]), (⟨(some 48), none, .w (.app 3 56 false (.t 44) (.t 47))⟩, [1, 4, 3]), (⟨(some 49), none, .q (.fadr 4 (.t 3))⟩, [0, 1, 2, 3, 4, 5]), (⟨none, none, .w (.store 1 (.t 49) (.t 48))⟩, [6, 5, 5, 0, 1, 2, 3, 4, 5])])
  .skip))
  (.seq (.ops [⟨(some 50), none, .q (.load true 5 (.t 3))⟩, ⟨none, none, .w (.store 5 (.t 2) (.t 50))⟩])
  .ret))))))
theorem K12 : Tryd.f12.body.bind (comp Tryd.prog) = some A12 ∧ Tryd.f12.ntmps = 51 ∧ Tryd.f12.results.toList.mapM (resB Tryd.prog) = some [.load true 5 (.t 2)] := ⟨by kernel_rfl, by kernel_rfl, by kernel_rfl⟩
set_option maxHeartbeats 8000000 in
theorem R12 (c : Cur) (hc : c.ok) : Ret Tryd.prog 12 [.bx c.cs] (.agg (Job.ty.oc (jobV c))) [.bx (jobC c).cs] := by
  have fr : ∀ c : Cur, idfree.idfreeL c.cs = true := fun c => rfl
  have hcF := jF_ok hc
  have hcA := jA_ok hc
  have r1 : Ret Tryd.prog 28 [.bx c.cs, .own (rows Ty.str.oc jnamL) 2 1] (.sc (.string (pickS jnamL c 2))) [.bx (belowC c 2).cs, .un] := R28 c hc jnamL (by decide)
  have r2 : Ret Tryd.prog 28 [.bx (jF c).2.cs, .own (rows Ty.str.oc jenvL) 2 1] (.sc (.string (pickS jenvL (jF c).2 2))) [.bx (belowC (jF c).2 2).cs, .un] := R28 _ hcF.1 jenvL (by decide)
  have rF : Ret Tryd.prog 29 [.bx (belowC c 2).cs] (.own (rows File.ty.oc (jF c).1) (jF c).1.length 2) [.bx (jF c).2.cs] := R29 _ (belowC_ok hc 2)
  obtain ⟨nm, hnm⟩ : ∃ t, t = pickS jnamL c 2 := ⟨_, rfl⟩
  obtain ⟨ev, hev⟩ : ∃ t, t = pickS jenvL (jF c).2 2 := ⟨_, rfl⟩
  obtain ⟨fs, hfs⟩ : ∃ t, t = (jF c).1 := ⟨_, rfl⟩
  rw [← hnm] at r1
  rw [← hev] at r2
  rw [← hfs] at rF
  obtain ⟨q1, q2⟩ := belowV_rng (belowC (jF c).2 2) (n := 4) (by omega)
  obtain ⟨m, hm⟩ : ∃ m : Nat, belowV (belowC (jF c).2 2) 4 = m := ⟨(belowV (belowC (jF c).2 2) 4).toNat, by omega⟩
  have hw1 : IntKind.i64.wrap (1 + (m : Int)) = ((m + 1 : Nat) : Int) := by rw [wrap_i64 (by omega) (by omega)]; omega
  have hP : actsP (m + 1) (belowC (belowC (jF c).2 2) 4) [] = jA c := by
    show _ = actsP (1 + belowV (belowC (jF c).2 2) 4).toNat _ []
    rw [hm, show (1 + (m : Int)).toNat = m + 1 by omega]
  refine Ret.runT Tryd.func12 K12 (by simp) rfl rfl ?_
  refine run_ok (n := 900) ?_
  simp [A12, iniρ, over, leR_app]
  refine callK.bm 100000 6 (len := 2) (sz := 1) rfl (by kernel_rfl) (by simp [upd_app]) (by simp [upd_app]) (fr c) (by simp [upd_app]) (by simp [upd_app]; rfl) (by rfl) (by rfl) (by decide) r1 rfl rfl ?_
  simp [over]
  refine callK.bx (b := 100000) 9 rfl (by kernel_rfl) (by simp [upd_app]) (by simp [upd_app]) (fr _) (by simp [upd_app]) (by simp) rF rfl (by simp [inst, upd_app]; exact ⟨rfl, rfl⟩) rfl ?_
  simp [over]
  refine callK.bm 100000 11 (len := 2) (sz := 1) rfl (by kernel_rfl) (by simp [upd_app]) (by simp [upd_app]) (fr _) (by simp [upd_app]) (by simp [upd_app]; rfl) (by rfl) (by rfl) (by decide) r2 rfl rfl ?_
  simp [over]
  refine callK.bx (b := 100000) 0 rfl (by kernel_rfl) (by simp [upd_app]) (by simp [upd_app]) (fr _) (by simp [upd_app]) (by simp) (R14 _ (belowC_ok hcF.1 2) 4) rfl (by rfl) rfl ?_
  rw [hm] at q2 ⊢
  simp [hw1]
  refine T.le (Le.layC 3 1 1 (by simp [upd_app]; rfl) rfl) ?_
  refine T.le (Le.pack 3 2 (i := 9) (len := fs.length) (sz := 2) (cs' := rows File.ty.oc fs) (by simp [upd_app]; rfl) (by rfl) (by simp [upd_app]) (by decide) (by simp [File.ocl]) (File.frL _)) ?_
  refine T.le (Le.pack 3 3 (i := 14) (len := 1) (sz := 2) (cs' := [.sc (.string modeT), .sc (.string ev)]) (by simp [upd_app]; rfl) (by rfl) (by simp [upd_app, modeT]) (by decide) (by rfl) (by rfl)) ?_
  refine T.le (Le.pack 3 4 (i := 15) (len := 0) (sz := 3) (cs' := []) (by simp [upd_app]; rfl) (by rfl) (by simp [upd_app]) (by decide) (by rfl) (by rfl)) ?_
  refine T.le (Le.reseat [0, 2, 3, 4] [(100000, 100000), (2, 2), (3, 3)] (by simp) (by simp [upd_app, menB, idfree]) (by
    intro b hb cs hcs
    simp at hb
    rcases hb with rfl | rfl | rfl
    · simp [upd_app] at hcs
      subst hcs
      exact idfreeL_mem (fr _)
    · simp [upd_app] at hcs
      subst hcs
      simp [idfree]
    · simp [upd_app] at hcs
      subst hcs
      have hf2 := File.frL fs
      simp [idfree, idfree.idfreeL, hf2])) ?_
  have hap : ∀ (l : List ByteArray) (g : ByteArray), rows Ty.str.oc l ++ [.sc (.string g)] = rows Ty.str.oc (l ++ [g]) := fun l g => by rw [rows_append]; rfl
  refine T.rounds (μ := fun i : Nat × Cur × List ByteArray => i.1)
    (fun i s => i.2.1.ok ∧ i.2.2.length + i.1 ≤ 9 ∧ actsP i.1 i.2.1 i.2.2 = jA c ∧ s.ρ 0 = .ref 100000 0 ∧ s.ρ 2 = .ref 2 0 ∧ s.ρ 3 = .ref 3 0 ∧ s.ρ 4 = .sc (.int .i64 i.1) ∧ s.h 100000 = some (some i.2.1.cs) ∧ s.h 2 = some (some [.sc (.string ⟨#[]⟩), .em, .em, .em, .em]) ∧
      s.h 3 = some (some [.sc (.string nm), .own (rows Ty.str.oc i.2.2) i.2.2.length 1, .own (rows File.ty.oc fs) fs.length 2, .own [.sc (.string modeT), .sc (.string ev)] 1 2, .own [] 0 3]) ∧ (∀ b, b ≠ 100000 → b ≠ 2 → b ≠ 3 → s.h b = none) ∧ s.n = 51) (m + 1, belowC (belowC (jF c).2 2) 4, []) (by
      simp [upd_app, rows_nil, hP, belowC_ok, hcF.1, List.set]
      exact ⟨by omega, fun b h1 h2 h3 => by simp [Ne.symm h1, Ne.symm h2, Ne.symm h3]⟩) ?_
  rintro ⟨j, d, l⟩ ⟨ρ, hh, n⟩ ⟨hd, hj, hE, k0, k2, k3, k4, kc, g2, g3, bf, rfl⟩
  simp only at hd hj hE k0 k2 k3 k4 kc g2 g3 bf
  have f60 := bf 60 (by decide) (by decide) (by decide)
  refine T.le (Le.open 3 1 60 g3 rfl f60 (Ty.str.frL _)) ?_
  refine run_ok (n := 900) ?_
  cases j
  case succ j =>
   as_aux_lemma =>
    have hw : IntKind.i64.wrap (j : Int) = j := wrap_i64 (by omega) (by omega)
    have hpos : (0 : Int) < (j : Int) + 1 := by omega
    have f28 := bf 28 (by decide) (by decide) (by decide)
    have f29 := bf 29 (by decide) (by decide) (by decide)
    have hcap : (l.length + 1) * 16 ≤ 140737488355328 := Nat.le_trans (Nat.mul_le_mul_right 16 (show l.length + 1 ≤ 10 by omega)) (by decide)
    have hlen : (rows Ty.str.oc l).length = l.length := by rw [rows_length Ty.str.ocn]; exact Nat.mul_one _
    simp [k4, hpos]
    refine T.textW 400 [([], [28, 100000]), ([], [28, 100000]), ([], []), ([100000], []), ([28], []), ([60, 28, 29], []), ([], []), ([3], [])] mixed (by kernel_rfl) (by kernel_rfl) ?_
    simp [k0, k3, over]
    refine callWK.bx (b := 100000) 0 rfl (by kernel_rfl) (by simp [upd_app, k0]) (by simp [upd_app, hideH_app, kc]) (fr _) (by simp [upd_app]) (by simp) (R30 d hd) rfl (by rfl) (by rfl) ?_
    simp [k0, k3, f28, f29, over, merge_nil, hideH_nil, hcap, hlen, hap]
    simp [k4, hw]
    refine ⟨j, by omega, belowC d 17, l ++ [pickS actL d 17], _, Le.trans (Le.pack 3 1 (i := 29) (len := l.length + 1) (sz := 1) (cs' := rows Ty.str.oc (l ++ [pickS actL d 17])) (by simp [upd_app, merge_app, hideH_app, hap]; rfl) (by rfl) (by simp [upd_app, merge_app, hideH_app, hap]) (by decide) (by rw [rows_length Ty.str.ocn]; simp [Ty.str]) (Ty.str.frL _)) (Le.reseat [0, 2, 3, 4] [(100000, 100000), (2, 2), (3, 3)] (by simp) (by simp [upd_app, menB, idfree, k0, k2, k3]) (by
      intro b hb cs hcs
      simp at hb
      rcases hb with rfl | rfl | rfl
      · simp [upd_app, merge_app, hideH_app] at hcs
        subst hcs
        exact idfreeL_mem (fr _)
      · simp [upd_app, merge_app, hideH_app, g2] at hcs
        subst hcs
        simp [idfree]
      · simp [upd_app, merge_app, hideH_app] at hcs
        subst hcs
        have hf := Ty.str.frL (l ++ [pickS actL d 17])
        have hf2 := File.frL fs
        simp [idfree, idfree.idfreeL, hf, hf2])), ?_⟩
    simp [upd_app, merge_app, hideH_app, k0, k2, k3, g2, belowC_ok, hd]
    exact ⟨by omega, hE, fun b h1 h2 h3 => by simp [Ne.symm h1, Ne.symm h2, Ne.symm h3]⟩
  have hE1 : l = (jA c).1 := by rw [← hE]; rfl
  have hE2 : d = (jA c).2 := by rw [← hE]; rfl
  have hlen : (rows Ty.str.oc l).length = l.length := by rw [rows_length Ty.str.ocn]; exact Nat.mul_one _
  have hidl := Ty.str.frL l
  have hJ : Job.ty.oc (jobV c) = [.sc (.string nm), .own (rows Ty.str.oc l) l.length 1, .own (rows File.ty.oc fs) fs.length 2, .own [.sc (.string modeT), .sc (.string ev)] 1 2, .own (rows Made.ty.oc (depB (depA d)).1) (depB (depA d)).1.length 3] := by
    rw [Job.oce, hE1, hE2, hnm, hev, hfs]; rfl
  have hC : jobC c = (depB (depA d)).2 := by rw [hE2]; rfl
  have f61 := bf 61 (by decide) (by decide) (by decide)
  have f62 := bf 62 (by decide) (by decide) (by decide)
  have f63 := bf 63 (by decide) (by decide) (by decide)
  have f28 := bf 28 (by decide) (by decide) (by decide)
  have f29 := bf 29 (by decide) (by decide) (by decide)
  have f38 := bf 38 (by decide) (by decide) (by decide)
  have f39 := bf 39 (by decide) (by decide) (by decide)
  have f47 := bf 47 (by decide) (by decide) (by decide)
  have f48 := bf 48 (by decide) (by decide) (by decide)
  have f38001 := bf 38001 (by decide) (by decide) (by decide)
  have f47001 := bf 47001 (by decide) (by decide) (by decide)
  have hd1 := belowC_ok hd 3
  simp [k4]
  refine T.on 900 ?_
  simp [k0]
  refine callK.le (Le.open 3 4 61 (by simp [upd_app]; rfl) rfl (by simp [upd_app, f61]) rfl) ?_
  refine callK.le (Le.open 3 2 62 (by simp [upd_app]; rfl) rfl (by simp [upd_app, f62]) (File.frL _)) ?_
  refine callK.le (Le.open 3 3 63 (by simp [upd_app]; rfl) rfl (by simp [upd_app, f63]) rfl) ?_
  refine callK.bx (b := 100000) 0 rfl (by kernel_rfl) (by simp [upd_app, k0]) (by simp [upd_app, merge_app, hideH_app, kc]) (fr _) (by simp [upd_app]) (by simp [shut]) (R31 (d) (hd) 3) (Cur.len3 _ _) (by rfl) rfl ?_
  by_cases kA : belowV d 3 = 0
  case pos =>
   as_aux_lemma =>
    simp [kA]
    refine callK.bx (b := 100000) 0 rfl (by kernel_rfl) (by simp [upd_app, k0]) (by simp [upd_app, merge_app, hideH_app, kc]) (fr _) (by simp [upd_app]) (by simp [shut]) (R31 (belowC d 3) (hd1) 3) (Cur.len3 _ _) (by rfl) rfl ?_
    by_cases kB : belowV (belowC d 3) 3 = 0
    case pos =>
     as_aux_lemma =>
      have hD : depB (depA d) = ([madeV (belowC (belowC d 3) 3) bT], madeC (belowC (belowC d 3) 3)) := by simp [depB, depA, kA, kB]
      have hd2 := belowC_ok hd1 3
      simp [kB, k0, k3]
      refine T.textW 400 [([], [47, 47001, 100000]), ([], [47, 47001, 100000]), ([], []), ([100000, 47001], []), ([47], []), ([47, 61, 48], []), ([], []), ([3], [])] mixed (by kernel_rfl) (by kernel_rfl) ?_
      simp [k0, k3, over, k2, g2, f38, f39, f47, f48, f38001, f47001, f61]
      refine callWK.bx (b := 100000) 46 rfl (by kernel_rfl) (by simp [upd_app, k0]) (by simp [upd_app, hideH_app, kc]) (fr _) rfl (by simp [shut]) (R32 (belowC (belowC d 3) 3) (hd2) bT) (Cur.len3 _ _) (by simp [inst, instL, Made.oce, upd_app, hideH_app, k2, g2, f38, f39, f47, f48, f38001, f47001, f61]; exact ⟨rfl, rfl⟩) (by rfl) ?_
      simp [k0, k3, over, merge_nil, hideH_nil, k2, g2, f38, f39, f47, f48, f38001, f47001, f61]
      rw [leR_app]
      refine ⟨_, Le.pack 48 1 (i := 47001) (len := (madeV (belowC (belowC d 3) 3) bT).outs.length) (sz := 2) (cs' := rows File.ty.oc (madeV (belowC (belowC d 3) 3) bT).outs) (by simp [upd_app, merge_app]; rfl) (by rfl) (by simp [upd_app, merge_app]) (by decide) (by simp [File.ocl]) (File.frL _), ?_⟩
      as_aux_lemma => simp [over, ex1, File.ocl, File.frL, fr, ioPos1, k0, k2, k3, g2, kc, hlen, hidl, upd_app, merge_app, hideH_app, hJ, hC, hD, Made.oce, rows_cons, rows_nil, idfree, idfree.idfreeL, kA, kB]
    have hD : depB (depA d) = ([], belowC (belowC d 3) 3) := by simp [depB, depA, kA, kB]
    simp [kB, k0, k3, k2, g2, upd_app]
    rw [leR_app]
    refine ⟨_, Le.refl _, ?_⟩
    as_aux_lemma => simp [over, ex1, File.ocl, File.frL, fr, ioPos1, k0, k2, k3, g2, kc, hlen, hidl, upd_app, merge_app, hideH_app, hJ, hC, hD, Made.oce, rows_cons, rows_nil, idfree, idfree.idfreeL, kA, kB, f61]
  case neg =>
   as_aux_lemma =>
    simp [kA, k0, k3]
    refine T.textW 400 [([], [38, 38001, 100000]), ([], [38, 38001, 100000]), ([], []), ([100000, 38001], []), ([38], []), ([38, 61, 39], []), ([], []), ([3], [])] mixed (by kernel_rfl) (by kernel_rfl) ?_
    simp [k0, k3, over, k2, g2, f38, f39, f47, f48, f38001, f47001, f61]
    refine callWK.bx (b := 100000) 37 rfl (by kernel_rfl) (by simp [upd_app, k0]) (by simp [upd_app, hideH_app, kc]) (fr _) rfl (by simp [shut]) (R32 (belowC d 3) (hd1) aB) (Cur.len3 _ _) (by simp [inst, instL, Made.oce, upd_app, hideH_app, k2, g2, f38, f39, f47, f48, f38001, f47001, f61]; exact ⟨rfl, rfl⟩) (by rfl) ?_
    simp [k0, k3, over, merge_nil, hideH_nil, k2, g2, f38, f39, f47, f48, f38001, f47001, f61]
    have hd2 := (madeP_ok hd1).1
    refine callK.le (Le.pack 39 1 (i := 38001) (len := (madeV (belowC d 3) aB).outs.length) (sz := 2) (cs' := rows File.ty.oc (madeV (belowC d 3) aB).outs) (by simp [upd_app, merge_app]; rfl) (by rfl) (by simp [upd_app, merge_app]) (by decide) (by simp [File.ocl]) (File.frL _)) ?_
    have f63l := File.frL fs
    have f64l := File.frL (madeV (belowC d 3) aB).outs
    refine callK.le (Le.told [(0, .ref 100000 0), (2, .ref 2 0), (3, .ref 3 0), (41, .ref 100000 0)] [(100000, (madeC (belowC d 3)).cs), (2, [.sc (.string ⟨#[]⟩), .em, .em, .em, .em]), (3, [.sc (.string nm), .sl 60 0 l.length 1 false, .sl 62 0 fs.length 2 false, .sl 63 0 1 2 false, .sl 39 0 1 3 false]), (60, rows Ty.str.oc l), (62, rows File.ty.oc fs), (63, [.sc (.string modeT), .sc (.string ev)]), (39, [.sc (.string (madeV (belowC d 3) aB).task), .own (rows File.ty.oc (madeV (belowC d 3) aB).outs) (madeV (belowC d 3) aB).outs.length 2, .sc (.string (madeV (belowC d 3) aB).log)])] (by simp [toldT, menQ_ref, upd_app, merge_app, hideH_app, k0, k2, k3]) (by simp [toldB, mens_cons, mens_nil, mens_idf, menQ_sl, menQ_sc, menQ_em, menQ_own, fr, f63l, f64l, hidl, upd_app, merge_app, hideH_app, kc, g2])) ?_
    simp only [toldρ, toldH]
    refine callK.bx (b := 100000) 0 rfl (by kernel_rfl) (by simp [upd_app, k0]) (by simp [upd_app, merge_app, hideH_app, kc]) (fr _) (by simp [upd_app]) (by simp [shut]) (R31 (madeC (belowC d 3)) (hd2) 3) (Cur.len3 _ _) (by rfl) rfl ?_
    by_cases kB : belowV (madeC (belowC d 3)) 3 = 0
    case pos =>
     as_aux_lemma =>
      have hD : depB (depA d) = ([(madeV (belowC d 3) aB), madeV (belowC (madeC (belowC d 3)) 3) bT], madeC (belowC (madeC (belowC d 3)) 3)) := by simp [depB, depA, kA, kB]
      have hd3 := belowC_ok hd2 3
      simp [kB, k0, k3]
      refine T.textW 400 [([], [47, 47001, 100000]), ([], [47, 47001, 100000]), ([], []), ([100000, 47001], []), ([47], []), ([47, 39, 48], []), ([], []), ([3], [])] mixed (by kernel_rfl) (by kernel_rfl) ?_
      simp [k0, k3, over, k2, g2, f38, f39, f47, f48, f38001, f47001]
      refine callWK.bx (b := 100000) 46 rfl (by kernel_rfl) (by simp [upd_app, k0]) (by simp [upd_app, hideH_app, kc]) (fr _) rfl (by simp [shut]) (R32 (belowC (madeC (belowC d 3)) 3) (hd3) bT) (Cur.len3 _ _) (by simp [inst, instL, Made.oce, upd_app, hideH_app, k2, g2, f38, f39, f47, f48, f38001, f47001]; exact ⟨rfl, rfl⟩) (by rfl) ?_
      simp [k0, k3, over, merge_nil, hideH_nil, k2, g2, f38, f39, f47, f48, f38001, f47001]
      rw [leR_app]
      refine ⟨_, Le.pack 48 4 (i := 47001) (len := (madeV (belowC (madeC (belowC d 3)) 3) bT).outs.length) (sz := 2) (cs' := rows File.ty.oc (madeV (belowC (madeC (belowC d 3)) 3) bT).outs) (by simp [upd_app, merge_app]; rfl) (by rfl) (by simp [upd_app, merge_app]) (by decide) (by simp [File.ocl]) (File.frL _), ?_⟩
      as_aux_lemma => simp [over, ex1, File.ocl, File.frL, fr, ioPos1, k0, k2, k3, g2, kc, hlen, hidl, upd_app, merge_app, hideH_app, hJ, hC, hD, Made.oce, rows_cons, rows_nil, idfree, idfree.idfreeL, kA, kB]
    have hD : depB (depA d) = ([(madeV (belowC d 3) aB)], belowC (madeC (belowC d 3)) 3) := by simp [depB, depA, kA, kB]
    simp [kB, k0, k3, k2, g2, upd_app]
    rw [leR_app]
    refine ⟨_, Le.refl _, ?_⟩
    as_aux_lemma => simp [over, ex1, File.ocl, File.frL, fr, ioPos1, k0, k2, k3, g2, kc, hlen, hidl, upd_app, merge_app, hideH_app, hJ, hC, hD, Made.oce, rows_cons, rows_nil, idfree, idfree.idfreeL, kA, kB]
theorem Le.packMade {st : St} (b d : Nat) (pre : List Made) (m : Made) (hb : st.h b = some (some (rows Made.ty.oc pre ++ [.sc (.string m.task), .sl d 0 m.outs.length 2 false, .sc (.string m.log)]))) (hd : st.h d = some (some (rows File.ty.oc m.outs))) (hne : d ≠ b) :
    Le st ⟨st.ρ, upd (upd (upd st.h d (some none)) b (some none)) b (some (some (rows Made.ty.oc (pre ++ [m])))), st.n⟩ := by
  have hl : (rows Made.ty.oc pre).length = pre.length * 3 := Made.ocl pre
  have h1 := Le.pack (st := st) b (pre.length * 3 + 1) (i := d) (len := m.outs.length) (sz := 2) (cs' := rows File.ty.oc m.outs) hb (by rw [List.getElem?_append_right (by omega), hl, show pre.length * 3 + 1 - pre.length * 3 = 1 by omega]; rfl) hd hne (File.ocl _) (File.frL _)
  rw [List.set_append_right _ _ (by omega), hl, show pre.length * 3 + 1 - pre.length * 3 = 1 by omega] at h1
  rw [rows_append, rows_cons, rows_nil, List.append_nil]
  exact h1
theorem strSc (xs : List ByteArray) : plain.plainL (rows Ty.str.oc xs) = true := plainL_of (rows_all (q := plain) (fun x c hc => by have hc : c ∈ [AV.sc (.string x)] := hc; simp at hc; rcases hc with rfl; rfl) xs)
theorem envSc (xs : List Env) : plain.plainL (rows Env.ty.oc xs) = true := plainL_of (rows_all (q := plain) (fun x c hc => by simp [Env.oce] at hc; rcases hc with rfl | rfl <;> rfl) xs)
theorem strLen (l : List ByteArray) : (rows Ty.str.oc l).length = l.length := by rw [rows_length Ty.str.ocn]; exact Nat.mul_one _
def A13 : AC := (.seq (.ops [⟨(some 1), none, .w (.box (.t 0))⟩, ⟨(some 2), none, .w (.alloc [(.sc (.string ⟨#[]⟩)), .em, .em, .em, .em])⟩])
  (.seq (.any [(⟨(some 5), none, .q (.fadr 0 (.t 1))⟩, []), (⟨(some 6), none, .q (.load false 1 (.t 5))⟩, [0]), (⟨(some 7), none, .w (.bsl 1 0 [] [])⟩, []), (⟨(some 8), none, .q (.fadr 1 (.t 1))⟩, []), (⟨(some 9), none, .q (.load false 1 (.t 8))⟩, [3]), (⟨(some 10), none, .w (.app 1 16 false (.t 7) (.t 9))⟩, [2, 4]), (⟨(some 11), none, .w (.bsl 2 0 [] [])⟩, []), (⟨(some 12), none, .q (.fadr 2 (.t 1))⟩, []), (⟨(some 13), none, .q (.load false 1 (.t 12))⟩, [7]), (⟨(some 14), none, .w (.app 2 32 false (.t 11) (.t 13))⟩, [6, 8, 5]), (⟨(some 15), none, .w (.bsl 2 0 [] [])⟩, []), (⟨(some 16), none, .q (.fadr 3 (.t 1))⟩, []), (⟨(some 17), none, .q (.load false 1 (.t 16))⟩, [11]), (⟨(some 18), none, .w (.app 2 32 false (.t 15) (.t 17))⟩, [10, 12, 9]), (⟨(some 19), none, .w (.build [(.sc (.string ⟨#[]⟩)), .em, .em, .em, .em] [(0, 1, (.t 6)), (1, 1, (.t 10)), (2, 1, (.t 14)), (3, 1, (.t 18))])⟩, [1, 5, 9, 13]), (⟨(some 3), none, .w (.alloc [(.sc (.string ⟨#[]⟩)), .em, .em, .em, .em])⟩, []), (⟨none, none, .w (.store 5 (.t 3) (.t 19))⟩, [15, 14, 13, 0, 1, 2, 3, 4, 5, 6, 7, 8, 9, 10, 11, 12, 13, 14, 15])])
  (.seq (.seq (.ops [⟨(some 4), none, .q (.mov (.c (.sc (.int .i64 0))))⟩])
  (.block 0 (.loop (.seq (.seq (.ops [⟨(some 20), none, .q (.mov (.t 4))⟩, ⟨(some 21), none, .q (.fadr 4 (.t 1))⟩, ⟨(some 22), none, .q (.load false 1 (.t 21))⟩, ⟨(some 23), none, .q (.llen (.t 22))⟩, ⟨(some 24), none, .q (.bin .lss (.t 20) (.t 23))⟩])
  (.cond (.t 24) .skip
  (.exit 0)))
  (.seq (.block 1 (.any [(⟨(some 27), none, .q (.fadr 4 (.t 3))⟩, []), (⟨(some 28), none, .q (.load false 1 (.t 27))⟩, [0]), (⟨(some 29), none, .q (.fadr 4 (.t 1))⟩, []), (⟨(some 30), none, .q (.load false 1 (.t 29))⟩, [2]), (⟨(some 31), none, .q (.mov (.t 4))⟩, []), (⟨(some 32), none, .q (.iadr 3 (.t 30) (.t 31))⟩, [3, 4]), (⟨(some 33), none, .q (.load true 3 (.t 32))⟩, [5]), (⟨(some 34), none, .c (.c (.clo 33 [])) [(.t 33)]⟩, [6]), (⟨(some 35), none, .w (.bsl 3 1 [(.sc (.string ⟨#[]⟩)), .em, (.sc (.string ⟨#[]⟩))] [(0, 3, (.t 34))])⟩, [7]), (⟨(some 36), none, .w (.app 3 56 false (.t 28) (.t 35))⟩, [1, 8, 7]), (⟨(some 37), none, .q (.fadr 4 (.t 3))⟩, [0, 1, 2, 3, 4, 5, 6, 7, 8, 9]), (⟨none, none, .w (.store 1 (.t 37) (.t 36))⟩, [10, 9, 9, 0, 1, 2, 3, 4, 5, 6, 7, 8, 9])]))
  (.ops [⟨(some 25), none, .q (.mov (.t 4))⟩, ⟨(some 26), none, .q (.bin .add (.t 25) (.c (.sc (.int .i64 1))))⟩, ⟨(some 4), none, .q (.mov (.t 26))⟩]))))))
  (.seq (.ops [⟨(some 38), none, .q (.load true 5 (.t 3))⟩, ⟨none, none, .w (.store 5 (.t 2) (.t 38))⟩])
  .ret))))
theorem K13 : Tryd.f13.body.bind (comp Tryd.prog) = some A13 ∧ Tryd.f13.ntmps = 39 ∧ Tryd.f13.results.toList.mapM (resB Tryd.prog) = some [.load true 5 (.t 2)] := ⟨by kernel_rfl, by kernel_rfl, by kernel_rfl⟩
set_option maxHeartbeats 4000000 in
theorem R13 (j : Job) (hj : Job.ty.ok j) : Ret Tryd.prog 13 [.agg (Job.ty.cs j)] (.agg (Job.ty.oc j)) [.un] := by
  have ha : j.acts.length * 16 ≤ 140737488351232 := hj.2.1.1
  have hi : j.ins.length * 32 ≤ 140737488351232 := hj.2.2.1.1
  have he : j.envs.length * 32 ≤ 140737488351232 := hj.2.2.2.1.1
  have hdp : j.deps.length * 56 ≤ 140737488351232 := hj.2.2.2.2.1.1
  have hms : ∀ m ∈ j.deps, Made.ty.ok m := hj.2.2.2.2.1.2
  have ha' : j.acts.length * 16 ≤ 140737488355328 := by omega
  have hi' : j.ins.length * 32 ≤ 140737488355328 := by omega
  have he' : j.envs.length * 32 ≤ 140737488355328 := by omega
  have s1 := strSc j.acts
  have s2 := fileSc j.ins
  have s3 := envSc j.envs
  have e1 : rows Ty.str.cs j.acts = rows Ty.str.oc j.acts := rfl
  have e2 : rows File.ty.cs j.ins = rows File.ty.oc j.ins := rfl
  have e3 : rows Env.ty.cs j.envs = rows Env.ty.oc j.envs := rfl
  have l1 := strLen j.acts
  have i1 := Ty.str.frL j.acts
  have i2 := File.frL j.ins
  have i3 := Env.frL j.envs
  refine Ret.run Tryd.func13 K13 (by simp) rfl rfl 900 ?_
  simp [A13, iniρ, Job.cse, over]
  refine T.textW 400 [([], [3, 7, 10, 11, 14, 15, 18]), ([], [3, 7, 10, 11, 14, 15, 18]), ([7], [3, 11, 15]), ([], [3, 7, 11, 15]), ([], [3, 7, 11, 15]), ([7, 10], [3, 11, 15]), ([11], [3, 7, 10, 15]), ([], [3, 7, 10, 11, 15]), ([], [3, 7, 10, 11, 15]), ([11, 14], [3, 15]), ([15], [3, 7, 10, 11, 14]), ([], [3, 7, 10, 11, 14, 15]), ([], [3, 7, 10, 11, 14, 15]), ([15, 18], [3]), ([], [3]), ([3], [7, 10, 11, 14, 15, 18]), ([3], [])] mixed (by kernel_rfl) (by kernel_rfl) ?_
  simp [over, ha', hi', he', s1, s2, s3, e1, e2, e3, l1, File.ocl, Env.ocl, merge_nil, hideH_nil]
  refine T.le (Le.layC 3 4 3 (by simp [upd_app, merge_app]; rfl) rfl) ?_
  refine T.le (Le.told [(1, .ref 1 0), (2, .ref 2 0), (3, .ref 3 0), (4, .sc (.int .i64 0))] [(1, Job.ty.cs j), (2, [.sc (.string ⟨#[]⟩), .em, .em, .em, .em]), (3, [.sc (.string j.name), .sl 10 0 j.acts.length 1 false, .sl 14 0 j.ins.length 2 false, .sl 18 0 j.envs.length 2 false, .own [] 0 3]), (10, rows Ty.str.oc j.acts), (14, rows File.ty.oc j.ins), (18, rows Env.ty.oc j.envs)]
    (by simp [toldT, menQ_ref, menQ_sc, upd_app, merge_app, hideH_app]) (by simp [toldB, Job.cse, mens_cons, mens_nil, mens_idf, menQ_sl, menQ_sc, menQ_em, menQ_own, menQ_ro, idfree, idfree.idfreeL, i1, i2, i3, e1, e2, e3, upd_app, merge_app, hideH_app])) ?_
  simp only [toldρ, toldH]
  refine T.rounds (μ := fun i : List Made × List Made => i.2.length)
    (fun i s => i.1 ++ i.2 = j.deps ∧ s.ρ 1 = .ref 1 0 ∧ s.ρ 2 = .ref 2 0 ∧ s.ρ 3 = .ref 3 0 ∧ s.ρ 4 = .sc (.int .i64 i.1.length) ∧ s.h 1 = some (some (Job.ty.cs j)) ∧ s.h 2 = some (some [.sc (.string ⟨#[]⟩), .em, .em, .em, .em]) ∧ s.h 3 = some (some [.sc (.string j.name), .sl 10 0 j.acts.length 1 false, .sl 14 0 j.ins.length 2 false, .sl 18 0 j.envs.length 2 false, .own (rows Made.ty.oc i.1) i.1.length 3]) ∧
      s.h 10 = some (some (rows Ty.str.oc j.acts)) ∧ s.h 14 = some (some (rows File.ty.oc j.ins)) ∧ s.h 18 = some (some (rows Env.ty.oc j.envs)) ∧ s.h 60 = none ∧ s.h 35 = none ∧ s.h 36 = none ∧ s.h 35001 = none ∧ s.n = 39) ([], j.deps) (by simp [upd_app, rows_nil]) ?_
  rintro ⟨pre, rest⟩ ⟨ρ, hh, n⟩ ⟨hx, k1, k2, k3, k4, g1, g2, g3, g10, g14, g18, f60, f35, f36, f35001, rfl⟩
  simp only at hx k1 k2 k3 k4 g1 g2 g3 g10 g14 g18 f60 f35 f36 f35001
  refine T.le (Le.open 3 4 60 g3 rfl f60 (Made.frL _)) ?_
  refine run_ok (n := 400) ?_
  cases rest
  case cons x rest =>
    have hle : pre.length + (rest.length + 1) = j.deps.length := by rw [← hx]; simp
    have hlt : (pre.length : Int) < j.deps.length := by omega
    have hwr : IntKind.i64.wrap ((pre.length : Int) + 1) = pre.length + 1 := wrap_i64 (by omega) (by omega)
    have hd := rows_drop Made.ty.csn pre (x :: rest)
    rw [hx, rows_cons] at hd
    have hd : List.drop (pre.length * 3) (rows Made.ty.cs j.deps) = AV.sc (.string x.task) :: .ro (rows File.ty.cs x.outs) x.outs.length :: .sc (.string x.log) :: rows Made.ty.cs rest := hd
    have hcap : (pre.length + 1) * 56 ≤ 140737488355328 := Nat.le_trans (Nat.mul_le_mul_right 56 (show pre.length + 1 ≤ j.deps.length by omega)) (by omega)
    have ro := Made.frL (pre ++ [x])
    simp [k1, k4, g1, hlt, Job.cse]
    refine T.textW 400 [([], [35, 35001]), ([], [35, 35001]), ([], []), ([], []), ([], []), ([], []), ([], []), ([35001], []), ([35], []), ([60, 35, 36], []), ([], []), ([3], [])] mixed (by kernel_rfl) (by kernel_rfl) ?_
    simp [k1, k3, k4, g1, hlt, hd, over, Job.cse, merge_nil, hideH_nil]
    refine callWK.ro 34 rfl (by kernel_rfl) (by simp [roc_agg, roc_agg8, List.mapM_cons, List.mapM_nil, roc_sc, roc_ro, upd_app, Made.cse]) (R33 x (hms x (by rw [← hx]; simp))) (by simpa [flt] using Made.ty.flL x) (by simp [inst, instL, Made.oce, upd_app, hideH_app, f35001]; exact ⟨rfl, rfl⟩) (by rfl) ?_
    simp [k3, k4, f35, f36, over, hcap, hwr, Made.ocl, merge_nil, hideH_nil]
    refine ⟨pre ++ [x], rest, by simp, _, Le.trans (Le.packMade 36 35001 pre x (by simp [upd_app, merge_app, hideH_app]) (by simp [upd_app, merge_app, hideH_app]) (by decide)) (Le.trans (Le.pack 3 4 (i := 36) (len := pre.length + 1) (sz := 3) (cs' := rows Made.ty.oc (pre ++ [x])) (by simp [upd_app, merge_app, hideH_app]; rfl) (by rfl) (by simp [upd_app]) (by decide) (by simp [Made.ocl]) ro)
      (Le.told [(1, .ref 1 0), (2, .ref 2 0), (3, .ref 3 0), (4, .sc (.int .i64 ((pre ++ [x]).length : Nat)))] [(1, Job.ty.cs j), (2, [.sc (.string ⟨#[]⟩), .em, .em, .em, .em]), (3, [.sc (.string j.name), .sl 10 0 j.acts.length 1 false, .sl 14 0 j.ins.length 2 false, .sl 18 0 j.envs.length 2 false, .own (rows Made.ty.oc (pre ++ [x])) (pre ++ [x]).length 3]), (10, rows Ty.str.oc j.acts), (14, rows File.ty.oc j.ins), (18, rows Env.ty.oc j.envs)]
        (by simp [toldT, menQ_ref, menQ_sc, upd_app, merge_app, hideH_app, k1, k2, k3]) (by simp [toldB, Job.cse, mens_cons, mens_nil, mens_idf, menQ_sl, menQ_sc, menQ_em, menQ_own, menQ_ro, idfree, idfree.idfreeL, i1, i2, i3, ro, upd_app, merge_app, hideH_app, g1, g2, g10, g14, g18]))), ?_⟩
    simp [toldρ, toldH, upd_app, hx, Job.cse]
  have hxl : pre = j.deps := by simpa using hx
  simp [k1, k4, g1, hxl, Job.cse]
  refine T.on 400 ?_
  simp [k2, k3, g2, g10, g14, g18, ex1, upd_app, over, Job.oce, hxl, l1, i1, i2, i3, File.ocl, Env.ocl, Made.ocl, Made.frL]
def A6 : AC := (.seq (.ops [⟨(some 2), none, .w (.alloc [(.sc (.string ⟨#[]⟩)), .em, .em, .em, .em])⟩])
  (.seq (.ops [⟨(some 4), none, .q (.mov (.t 0))⟩, ⟨(some 5), none, .c (.c (.clo 11 [])) [(.t 4)]⟩, ⟨(some 3), none, .q (.mov (.t 5))⟩])
  (.seq (.ops [⟨(some 6), none, .q (.mov (.t 3))⟩, ⟨(some 7), none, .c (.c (.clo 12 [])) [(.t 6)]⟩, ⟨none, none, .w (.store 5 (.t 2) (.t 7))⟩])
  .ret)))
theorem K6 : Tryd.f6.body.bind (comp Tryd.prog) = some A6 ∧ Tryd.f6.ntmps = 8 ∧ Tryd.f6.results.toList.mapM (resB Tryd.prog) = some [.load true 5 (.t 2)] := ⟨by kernel_rfl, by kernel_rfl, by kernel_rfl⟩
theorem R6 (code : List Int) (hx : Ty.byte.slice.ok code) : Ret Tryd.prog 6 [.ro (rows B code) code.length] (.agg (Job.ty.oc (jobV (newC code)))) [.un] := by
  have fr : ∀ c : Cur, idfree.idfreeL c.cs = true := fun c => rfl
  have hc0 := newC_ok hx
  have i1 := Ty.str.frL (jobV (newC code)).acts
  have i2 := File.frL (jobV (newC code)).ins
  have i3 := Env.frL (jobV (newC code)).envs
  have i4 := Made.frL (jobV (newC code)).deps
  have l1 := strLen (jobV (newC code)).acts
  refine Ret.run Tryd.func6 K6 (by simp) rfl rfl 900 ?_
  simp [A6, iniρ, over]
  refine callK.cut [.ro] 50 (r := [(none, none)]) rfl (by kernel_rfl) rfl (by rfl) (by rfl) (by simp [closedB, shut, upd_app]) (by simp [shutArgs, roc_ro, upd_app]; rfl) (by rfl) (R11 code hx) (by rfl) (by rfl) (by simp [inst, upd_app]; exact ⟨rfl, rfl⟩) rfl ?_
  simp [over]
  refine callK.bx (b := 50) 7 rfl (by kernel_rfl) (by simp [upd_app]) (by simp [upd_app]) (fr _) (by simp [upd_app]) (by simp) (R12 _ hc0) (Cur.len3 _ _) (by simp [inst, instL, Job.oce, upd_app]; exact ⟨rfl, rfl⟩) rfl ?_
  simp [ex1, upd_app, over, Job.oce, l1, i1, i2, i3, i4, File.ocl, Env.ocl, Made.ocl]
def zLog : List Made → List Made
  | [] => []
  | m :: l => ⟨m.task, m.outs, m.log ++ ⟨#[122]⟩⟩ :: l
def sjP (code : List Int) : Job × Job :=
  let c := newC code
  let a := jobV c
  let v := belowV (jobC c) 8
  if v = 0 then (a, jobV (belowC (jobC c) 8))
  else if v = 1 then (a, { a with name := a.name ++ ⟨#[120]⟩ })
  else if v = 2 then (a, { a with acts := a.acts ++ [⟨#[]⟩] })
  else if v = 3 then (a, { a with ins := a.ins ++ [⟨⟨#[122]⟩, ⟨#[]⟩⟩] })
  else if v = 4 then (a, { a with envs := [⟨modeT, pickS jenvL (jF c).2 2 ++ ⟨#[121]⟩⟩] })
  else if v = 5 then (a, { a with deps := zLog a.deps })
  else (a, a)
theorem jobV_envs (c : Cur) : (jobV c).envs = [⟨modeT, pickS jenvL (jF c).2 2⟩] := rfl
theorem jobV_ok {c : Cur} (hc : c.ok) : Job.ty.ok (jobV c) := by
  obtain ⟨_, f1, f2⟩ := jF_ok hc
  obtain ⟨_, ⟨_, a1⟩, a2⟩ := jA_ok hc
  obtain ⟨_, d1, d2⟩ := jD_ok hc
  have hn : (pickS jnamL c 2).size ≤ 10 := pick_size (by decide) _ _
  have he : (pickS jenvL (jF c).2 2).size ≤ 10 := pick_size (by decide) _ _
  refine ⟨show (pickS jnamL c 2).size ≤ 140737488351232 by omega, ⟨show (jA c).1.length * 16 ≤ 140737488351232 by omega, fun x hx => show x.size ≤ 140737488351232 by have := a2 x hx; omega⟩, ⟨show (jF c).1.length * 32 ≤ 140737488351232 by omega, fun x hx => ⟨show x.path.size ≤ 140737488351232 by have := f2 x hx; omega, show x.text.size ≤ 140737488351232 by have := f2 x hx; omega, trivial⟩⟩,
    ⟨show 1 * 32 ≤ 140737488351232 by decide, fun x hx => ?_⟩, ⟨show (jD c).1.length * 56 ≤ 140737488351232 by omega, fun x hx => ?_⟩, trivial⟩
  · have hx : x ∈ [(⟨modeT, pickS jenvL (jF c).2 2⟩ : Env)] := hx
    rw [List.mem_singleton] at hx
    subst hx
    exact ⟨show 4 ≤ 140737488351232 by decide, show (pickS jenvL (jF c).2 2).size ≤ 140737488351232 by omega, trivial⟩
  · obtain ⟨m1, m2, m3, m4⟩ := d2 x hx
    exact ⟨show x.task.size ≤ 140737488351232 by omega, ⟨show x.outs.length * 32 ≤ 140737488351232 by omega, fun y hy => ⟨show y.path.size ≤ 140737488351232 by have := m3 y hy; omega, show y.text.size ≤ 140737488351232 by have := m3 y hy; omega, trivial⟩⟩, show x.log.size ≤ 140737488351232 by omega, trivial⟩
def A5 : AC := (.seq (.ops [⟨(some 2), none, .w (.alloc [(.sc (.string ⟨#[]⟩)), .em, .em, .em, .em])⟩, ⟨(some 3), none, .w (.alloc [(.sc (.string ⟨#[]⟩)), .em, .em, .em, .em])⟩])
  (.seq (.ops [⟨(some 7), none, .q (.mov (.t 0))⟩, ⟨(some 8), none, .c (.c (.clo 11 [])) [(.t 7)]⟩, ⟨(some 4), none, .q (.mov (.t 8))⟩])
  (.seq (.ops [⟨(some 9), none, .q (.mov (.t 4))⟩, ⟨(some 10), none, .c (.c (.clo 12 [])) [(.t 9)]⟩, ⟨(some 5), none, .w (.alloc [(.sc (.string ⟨#[]⟩)), .em, .em, .em, .em])⟩, ⟨none, none, .w (.store 5 (.t 5) (.t 10))⟩])
  (.seq (.ops [⟨(some 11), none, .q (.load true 5 (.t 5))⟩, ⟨(some 12), none, .c (.c (.clo 13 [])) [(.t 11)]⟩, ⟨(some 6), none, .w (.alloc [(.sc (.string ⟨#[]⟩)), .em, .em, .em, .em])⟩, ⟨none, none, .w (.store 5 (.t 6) (.t 12))⟩])
  (.seq (.seq (.ops [⟨(some 13), none, .q (.mov (.t 4))⟩, ⟨(some 14), none, .c (.c (.clo 14 [])) [(.t 13), (.c (.sc (.int .i64 8)))]⟩])
  (.block 0 (.seq (.ops [⟨(some 16), none, .q (.bin .eql (.t 14) (.c (.sc (.int .i64 0))))⟩, ⟨(some 15), none, .q (.mov (.t 16))⟩])
  (.cond (.t 15) (.seq (.any [(⟨(some 17), none, .q (.load true 5 (.t 5))⟩, []), (⟨(some 18), none, .q (.mov (.t 4))⟩, []), (⟨(some 19), none, .c (.c (.clo 12 [])) [(.t 18)]⟩, [1]), (⟨none, none, .w (.store 5 (.t 2) (.t 17))⟩, [0, 2, 0]), (⟨none, none, .w (.store 5 (.t 3) (.t 19))⟩, [2, 3, 0, 1, 2, 3])])
  .ret)
  (.seq (.ops [⟨(some 21), none, .q (.bin .eql (.t 14) (.c (.sc (.int .i64 1))))⟩, ⟨(some 20), none, .q (.mov (.t 21))⟩])
  (.cond (.t 20) (.ops [⟨(some 22), none, .q (.fadr 0 (.t 6))⟩, ⟨(some 23), none, .q (.load false 1 (.t 22))⟩, ⟨(some 24), none, .q (.bin .add (.t 23) (.c (.sc (.string ⟨#[120]⟩))))⟩, ⟨(some 25), none, .q (.fadr 0 (.t 6))⟩, ⟨none, none, .w (.store 1 (.t 25) (.t 24))⟩])
  (.seq (.ops [⟨(some 27), none, .q (.bin .eql (.t 14) (.c (.sc (.int .i64 2))))⟩, ⟨(some 26), none, .q (.mov (.t 27))⟩])
  (.cond (.t 26) (.ops [⟨(some 28), none, .q (.fadr 1 (.t 6))⟩, ⟨(some 29), none, .q (.load false 1 (.t 28))⟩, ⟨(some 30), none, .w (.bsl 1 1 [(.sc (.string ⟨#[]⟩))] [(0, 1, (.c (.sc (.string ⟨#[]⟩))))])⟩, ⟨(some 31), none, .w (.app 1 16 false (.t 29) (.t 30))⟩, ⟨(some 32), none, .q (.fadr 1 (.t 6))⟩, ⟨none, none, .w (.store 1 (.t 32) (.t 31))⟩])
  (.seq (.ops [⟨(some 34), none, .q (.bin .eql (.t 14) (.c (.sc (.int .i64 3))))⟩, ⟨(some 33), none, .q (.mov (.t 34))⟩])
  (.cond (.t 33) (.ops [⟨(some 35), none, .q (.fadr 2 (.t 6))⟩, ⟨(some 36), none, .q (.load false 1 (.t 35))⟩, ⟨(some 37), none, .w (.build [(.sc (.string ⟨#[]⟩)), (.sc (.string ⟨#[]⟩))] [(0, 1, (.c (.sc (.string ⟨#[122]⟩))))])⟩, ⟨(some 38), none, .w (.bsl 2 1 [(.sc (.string ⟨#[]⟩)), (.sc (.string ⟨#[]⟩))] [(0, 2, (.t 37))])⟩, ⟨(some 39), none, .w (.app 2 32 false (.t 36) (.t 38))⟩, ⟨(some 40), none, .q (.fadr 2 (.t 6))⟩, ⟨none, none, .w (.store 1 (.t 40) (.t 39))⟩])
  (.seq (.ops [⟨(some 42), none, .q (.bin .eql (.t 14) (.c (.sc (.int .i64 4))))⟩, ⟨(some 41), none, .q (.mov (.t 42))⟩])
  (.cond (.t 41) (.any [(⟨(some 43), none, .q (.fadr 3 (.t 6))⟩, []), (⟨(some 44), none, .q (.load false 1 (.t 43))⟩, [0]), (⟨(some 45), none, .q (.fadr 3 (.t 6))⟩, []), (⟨(some 46), none, .q (.load false 1 (.t 45))⟩, [2]), (⟨(some 47), none, .q (.iadr 2 (.t 46) (.c (.sc (.int .i64 0))))⟩, [3]), (⟨(some 48), none, .q (.fadr 1 (.t 47))⟩, [4]), (⟨(some 49), none, .q (.load false 1 (.t 48))⟩, [5]), (⟨(some 50), none, .q (.bin .add (.t 49) (.c (.sc (.string ⟨#[121]⟩))))⟩, [6]), (⟨(some 51), none, .q (.iadr 2 (.t 44) (.c (.sc (.int .i64 0))))⟩, [1, 0, 1, 2, 3, 4, 5, 6, 7]), (⟨(some 52), none, .q (.fadr 1 (.t 51))⟩, [8, 0, 1, 2, 3, 4, 5, 6, 7]), (⟨none, none, .w (.store 1 (.t 52) (.t 50))⟩, [9, 7, 0, 1, 2, 3, 4, 5, 6, 7])])
  (.seq (.ops [⟨(some 54), none, .q (.bin .eql (.t 14) (.c (.sc (.int .i64 5))))⟩, ⟨(some 53), none, .q (.mov (.t 54))⟩])
  (.cond (.t 53) (.seq (.ops [⟨(some 55), none, .q (.fadr 4 (.t 6))⟩, ⟨(some 56), none, .q (.load false 1 (.t 55))⟩, ⟨(some 57), none, .q (.llen (.t 56))⟩, ⟨(some 58), none, .q (.bin .gtr (.t 57) (.c (.sc (.int .i64 0))))⟩])
  (.cond (.t 58) (.any [(⟨(some 59), none, .q (.fadr 4 (.t 6))⟩, []), (⟨(some 60), none, .q (.load false 1 (.t 59))⟩, [0]), (⟨(some 61), none, .q (.fadr 4 (.t 6))⟩, []), (⟨(some 62), none, .q (.load false 1 (.t 61))⟩, [2]), (⟨(some 63), none, .q (.iadr 3 (.t 62) (.c (.sc (.int .i64 0))))⟩, [3]), (⟨(some 64), none, .q (.fadr 2 (.t 63))⟩, [4]), (⟨(some 65), none, .q (.load false 1 (.t 64))⟩, [5]), (⟨(some 66), none, .q (.bin .add (.t 65) (.c (.sc (.string ⟨#[122]⟩))))⟩, [6]), (⟨(some 67), none, .q (.iadr 3 (.t 60) (.c (.sc (.int .i64 0))))⟩, [1, 0, 1, 2, 3, 4, 5, 6, 7]), (⟨(some 68), none, .q (.fadr 2 (.t 67))⟩, [8, 0, 1, 2, 3, 4, 5, 6, 7]), (⟨none, none, .w (.store 1 (.t 68) (.t 66))⟩, [9, 7, 0, 1, 2, 3, 4, 5, 6, 7])])
  .skip))
  .skip))))))))))))))
  (.seq (.any [(⟨(some 69), none, .q (.load true 5 (.t 5))⟩, []), (⟨(some 70), none, .q (.load true 5 (.t 6))⟩, []), (⟨none, none, .w (.store 5 (.t 2) (.t 69))⟩, [0, 0]), (⟨none, none, .w (.store 5 (.t 3) (.t 70))⟩, [1, 2, 0, 1, 2])])
  .ret))))))
theorem K5 : Tryd.f5.body.bind (comp Tryd.prog) = some A5 ∧ Tryd.f5.ntmps = 71 ∧ Tryd.f5.results.toList.mapM (resB Tryd.prog) = some [.load true 5 (.t 2), .load true 5 (.t 3)] := ⟨by kernel_rfl, by kernel_rfl, by kernel_rfl⟩
set_option maxHeartbeats 8000000 in
theorem R5 (code : List Int) (hx : Ty.byte.slice.ok code) : Ret Tryd.prog 5 [.ro (rows B code) code.length] (.tup [.agg (Job.ty.oc (sjP code).1), .agg (Job.ty.oc (sjP code).2)]) [.un] := by
  have fr : ∀ c : Cur, idfree.idfreeL c.cs = true := fun c => rfl
  have hc0 := newC_ok hx
  have hc1 := jobC_ok hc0
  have hc2 := belowC_ok hc1 8
  obtain ⟨ns, hns⟩ : (jobV (newC code)).name.size ≤ 10 ∧ True := ⟨pick_size (by decide) _ _, trivial⟩
  have ha := (jA_ok hc0).2.1.2
  have hi := (jF_ok hc0).2.1
  have hev := jobV_envs (newC code)
  have hes : (pickS jenvL (jF (newC code)).2 2).size ≤ 10 := pick_size (by decide) _ _
  have hds := (jD_ok hc0).2.2
  have hok := jobV_ok hc0
  have rJ := R12 _ hc0
  have rC := R13 _ hok
  have rB := R14 _ hc1 8
  have hsj : sjP code = sjP code := rfl
  conv at hsj => rhs; unfold sjP
  obtain ⟨c1, hcc1⟩ : ∃ c, c = jobC (newC code) := ⟨_, rfl⟩
  obtain ⟨v, hv⟩ : ∃ v, v = belowV c1 8 := ⟨_, rfl⟩
  simp only [← hcc1] at hsj rJ rB hc1 hc2
  simp only [← hv] at hsj rB
  obtain ⟨ev, hevv⟩ : ∃ v, v = pickS jenvL (jF (newC code)).2 2 := ⟨_, rfl⟩
  rw [← hevv] at hev hes
  simp only [← hevv] at hsj
  replace ha : (jobV (newC code)).acts.length ≤ 4 := ha
  replace hi : (jobV (newC code)).ins.length ≤ 8 := hi
  replace hds : ∀ m ∈ (jobV (newC code)).deps, mSmall m := hds
  obtain ⟨a, haa⟩ : ∃ a, a = jobV (newC code) := ⟨_, rfl⟩
  simp only [← haa] at hsj rJ rC ns ha hi hev hok hds
  have i1 := Ty.str.frL a.acts
  have i2 := File.frL a.ins
  have i3 := Env.frL a.envs
  have i4 := Made.frL a.deps
  have l1 := strLen a.acts
  refine Ret.run Tryd.func5 K5 (by simp) rfl rfl 900 ?_
  simp [A5, iniρ, over]
  refine callK.cut [.ro] 50 (r := [(none, none)]) rfl (by kernel_rfl) rfl (by rfl) (by rfl) (by simp [closedB, shut, upd_app]) (by simp [shutArgs, roc_ro, upd_app]; rfl) (by rfl) (R11 code hx) (by rfl) (by rfl) (by simp [inst, upd_app]; exact ⟨rfl, rfl⟩) rfl ?_
  simp [over]
  refine callK.bx (b := 50) 10 rfl (by kernel_rfl) (by simp [upd_app]) (by simp [upd_app]) (fr _) (by simp [upd_app]) (by simp) rJ (Cur.len3 _ _) (by simp [inst, instL, Job.oce, upd_app]; exact ⟨rfl, rfl⟩) rfl ?_
  simp [over]
  refine callK.ro 12 rfl (by kernel_rfl) (by simp [roc_agg, roc_agg8, List.mapM_cons, List.mapM_nil, roc_sc, str_roc7, File.roc7, Env.roc7, Made.roc7, upd_app, Job.cse]) rC (by simpa [flt] using Job.ty.flL a) (by simp [inst, instL, Job.oce, upd_app]; exact ⟨rfl, rfl⟩) rfl ?_
  simp [over]
  refine callK.le (Le.told [(2, .ref 2 0), (3, .ref 3 0), (4, .ref 50 0), (5, .ref 5 0), (6, .ref 6 0), (13, .ref 50 0)] [(50, c1.cs), (2, [.sc (.string ⟨#[]⟩), .em, .em, .em, .em]), (3, [.sc (.string ⟨#[]⟩), .em, .em, .em, .em]), (5, [.sc (.string a.name), .sl 11001 0 a.acts.length 1 false, .sl 11002 0 a.ins.length 2 false, .sl 11003 0 a.envs.length 2 false, .sl 11004 0 a.deps.length 3 false]), (6, [.sc (.string a.name), .sl 13001 0 a.acts.length 1 false, .sl 13002 0 a.ins.length 2 false, .sl 13003 0 a.envs.length 2 false, .sl 13004 0 a.deps.length 3 false]), (11001, rows Ty.str.oc a.acts), (11002, rows File.ty.oc a.ins), (11003, rows Env.ty.oc a.envs), (11004, rows Made.ty.oc a.deps), (13001, rows Ty.str.oc a.acts), (13002, rows File.ty.oc a.ins), (13003, rows Env.ty.oc a.envs), (13004, rows Made.ty.oc a.deps)]
    (by simp [toldT, menQ_ref, upd_app]) (by simp [toldB, mens_cons, mens_nil, mens_idf, menQ_sl, menQ_sc, menQ_em, fr, i1, i2, i3, i4, upd_app])) ?_
  simp only [toldρ, toldH]
  refine callK.bx (b := 50) 0 rfl (by kernel_rfl) (by simp [upd_app]) (by simp [upd_app]) (fr _) (by simp [upd_app]) (by simp) rB (Cur.len3 _ _) (by rfl) rfl ?_
  by_cases k0 : v = 0
  case pos =>
   as_aux_lemma =>
    have hs : sjP code = (a, jobV (belowC c1 8)) := by rw [hsj]; simp only [k0]; rfl
    rw [hs]
    simp [k0]
    have rJ2 := R12 _ hc2
    obtain ⟨a2, ha2⟩ : ∃ x, x = jobV (belowC c1 8) := ⟨_, rfl⟩
    obtain ⟨c3, hc3⟩ : ∃ x, x = jobC (belowC c1 8) := ⟨_, rfl⟩
    rw [← ha2, ← hc3] at rJ2
    rw [← ha2]
    refine T.textW 400 [([], [50, 20001, 20002, 20003, 20004]), ([], []), ([50, 20001, 20002, 20003, 20004], []), ([2], []), ([3], [])] mixed (by kernel_rfl) (by kernel_rfl) ?_
    simp [over]
    refine callWK.bx (b := 50) 19 rfl (by kernel_rfl) (by simp [upd_app]) (by simp [upd_app, hideH_app]) (fr _) rfl (by simp [shut]) rJ2 (Cur.len3 _ _) (by simp [inst, instL, Job.oce, upd_app, hideH_app]; exact ⟨rfl, rfl⟩) (by rfl) ?_
    simp [over, merge_nil, hideH_nil, upd_app, merge_app, hideH_app]
    simp [over, ex1, upd_app, merge_app, hideH_app, Job.oce, l1, i1, i2, i3, i4, File.ocl, Env.ocl, Made.ocl, strLen, fr, Ty.str.frL, File.frL, Env.frL, Made.frL]
  by_cases k1 : v = 1
  case pos =>
   as_aux_lemma =>
    have hs : sjP code = (a, { a with name := a.name ++ ⟨#[120]⟩ }) := by rw [hsj]; simp only [k1]; rfl
    rw [hs]
    simp [k1]
    have hz : a.name.size + (⟨#[120]⟩ : ByteArray).size ≤ 9223372036854775807 := by
      show a.name.size + 1 ≤ _
      omega
    simp [over, hz]
    refine T.textW 400 [([], []), ([], [2]), ([2], []), ([3], [])] mixed (by kernel_rfl) (by kernel_rfl) ?_
    simp [over, ex1, upd_app, merge_app, hideH_app, Job.oce, l1, i1, i2, i3, i4, File.ocl, Env.ocl, Made.ocl, strLen, fr, hz]
  by_cases k2 : v = 2
  case pos =>
   as_aux_lemma =>
    have hs : sjP code = (a, { a with acts := a.acts ++ [⟨#[]⟩] }) := by rw [hsj]; simp only [k2]; rfl
    rw [hs]
    simp [k2]
    have hcap : (a.acts.length + 1) * 16 ≤ 140737488355328 := by omega
    have hap : rows Ty.str.oc a.acts ++ [.sc (.string ⟨#[]⟩)] = rows Ty.str.oc (a.acts ++ [⟨#[]⟩]) := by rw [rows_append]; rfl
    have hid := Ty.str.frL (a.acts ++ [⟨#[]⟩])
    simp [over, hcap, l1, hap]
    refine T.textW 400 [([], []), ([], [2]), ([2], []), ([3], [])] mixed (by kernel_rfl) (by kernel_rfl) ?_
    simp [over, ex1, upd_app, merge_app, hideH_app, Job.oce, l1, i1, i2, i3, i4, File.ocl, Env.ocl, Made.ocl, strLen, fr, hap, hid]
  by_cases k3 : v = 3
  case pos =>
   as_aux_lemma =>
    have hs : sjP code = (a, { a with ins := a.ins ++ [⟨⟨#[122]⟩, ⟨#[]⟩⟩] }) := by rw [hsj]; simp only [k3]; rfl
    rw [hs]
    simp [k3]
    have hcap : (a.ins.length + 1) * 32 ≤ 140737488355328 := by omega
    have hap : rows File.ty.oc a.ins ++ [.sc (.string ⟨#[122]⟩), .sc (.string ⟨#[]⟩)] = rows File.ty.oc (a.ins ++ [⟨⟨#[122]⟩, ⟨#[]⟩⟩]) := by rw [rows_append]; rfl
    have hid := File.frL (a.ins ++ [⟨⟨#[122]⟩, ⟨#[]⟩⟩])
    simp [over, hcap, File.ocl, hap]
    refine T.textW 400 [([], []), ([], [2]), ([2], []), ([3], [])] mixed (by kernel_rfl) (by kernel_rfl) ?_
    simp [over, ex1, upd_app, merge_app, hideH_app, Job.oce, l1, i1, i2, i3, i4, File.ocl, Env.ocl, Made.ocl, strLen, fr, hap, hid]
  by_cases k4 : v = 4
  case pos =>
   as_aux_lemma =>
    have hs : sjP code = (a, { a with envs := [⟨modeT, ev ++ ⟨#[121]⟩⟩] }) := by rw [hsj]; simp only [k4]; rfl
    rw [hs]
    simp [k4]
    have hz : ev.size + (⟨#[121]⟩ : ByteArray).size ≤ 9223372036854775807 := by
      show ev.size + 1 ≤ _
      omega
    have hen : rows Env.ty.oc a.envs = [.sc (.string modeT), .sc (.string ev)] := by rw [hev]; rfl
    have hel : a.envs.length = 1 := by rw [hev]; rfl
    refine T.textW 400 [([], []), ([], []), ([], []), ([], []), ([], []), ([], []), ([], []), ([], []), ([], []), ([], []), ([13003], [])] mixed (by kernel_rfl) (by kernel_rfl) ?_
    simp [over, hz, hen, hel, merge_nil, hideH_nil, upd_app, merge_app, hideH_app]
    refine T.textW 400 [([], []), ([], [2]), ([2], []), ([3], [])] mixed (by kernel_rfl) (by kernel_rfl) ?_
    simp [over, ex1, upd_app, merge_app, hideH_app, Job.oce, l1, i1, i2, i3, i4, File.ocl, Env.ocl, Made.ocl, strLen, fr, hz, hen, hel, rows_cons, rows_nil, Env.oce, idfree, idfree.idfreeL]
  by_cases k5 : v = 5
  case pos =>
   as_aux_lemma =>
    have hs : sjP code = (a, { a with deps := zLog a.deps }) := by rw [hsj]; simp only [k5]; rfl
    rw [hs]
    simp [k5]
    obtain ⟨dl, hdl⟩ : ∃ d, d = a.deps := ⟨_, rfl⟩
    rw [← hdl]
    rw [← hdl] at i4 hds
    cases dl with
    | nil =>
      simp [over]
      refine T.textW 400 [([], []), ([], [2]), ([2], []), ([3], [])] mixed (by kernel_rfl) (by kernel_rfl) ?_
      simp [over, ex1, upd_app, merge_app, hideH_app, Job.oce, l1, i1, i2, i3, i4, File.ocl, Env.ocl, Made.ocl, strLen, fr, ← hdl, zLog]
    | cons m l =>
      have hz : m.log.size + (⟨#[122]⟩ : ByteArray).size ≤ 9223372036854775807 := by
        have := (hds m (by simp)).2.2.2
        show m.log.size + 1 ≤ _
        omega
      have hid := Made.frL (⟨m.task, m.outs, m.log ++ ⟨#[122]⟩⟩ :: l)
      have hrw : ∀ g : ByteArray, rows Made.ty.oc (⟨m.task, m.outs, g⟩ :: l) = .sc (.string m.task) :: .own (rows File.ty.oc m.outs) m.outs.length 2 :: .sc (.string g) :: rows Made.ty.oc l := fun g => rfl
      have hr0 : rows Made.ty.oc (m :: l) = .sc (.string m.task) :: .own (rows File.ty.oc m.outs) m.outs.length 2 :: .sc (.string m.log) :: rows Made.ty.oc l := rfl
      rw [hr0] at i4
      rw [hrw] at hid
      have hpos : (0 : Int) < (l.length : Int) + 1 := by omega
      have hL : l.length * 3 + 1 + 1 + 1 = (l.length + 1) * 3 := by omega
      simp [over, hr0, hpos]
      refine T.textW 400 [([], []), ([], []), ([], []), ([], []), ([], []), ([], []), ([], []), ([], []), ([], []), ([], []), ([13004], [])] mixed (by kernel_rfl) (by kernel_rfl) ?_
      simp [over, hz, hr0, hpos, merge_nil, hideH_nil, upd_app, merge_app, hideH_app]
      refine T.textW 400 [([], []), ([], [2]), ([2], []), ([3], [])] mixed (by kernel_rfl) (by kernel_rfl) ?_
      simp [over, ex1, upd_app, merge_app, hideH_app, Job.oce, l1, i1, i2, i3, i4, File.ocl, Env.ocl, Made.ocl, strLen, fr, hz, hr0, hrw, hid, hL, ← hdl, zLog]
  have hs : sjP code = (a, a) := by rw [hsj]; simp only [k0, k1, k2, k3, k4, k5, if_false]
  rw [hs]
  simp [k0, k1, k2, k3, k4, k5]
  refine T.textW 400 [([], []), ([], [2]), ([2], []), ([3], [])] mixed (by kernel_rfl) (by kernel_rfl) ?_
  simp [over, ex1, upd_app, merge_app, hideH_app, Job.oce, l1, i1, i2, i3, i4, File.ocl, Env.ocl, Made.ocl, strLen, fr]
def MB (m : Made) : Prop := m.task.size ≤ 50 ∧ (m.outs.length ≤ 10 ∧ ∀ f ∈ m.outs, f.path.size ≤ 50 ∧ f.text.size ≤ 50) ∧ m.log.size ≤ 50
def JB (j : Job) : Prop := j.name.size ≤ 50 ∧ (j.acts.length ≤ 10 ∧ ∀ s ∈ j.acts, s.size ≤ 50) ∧ (j.ins.length ≤ 10 ∧ ∀ f ∈ j.ins, f.path.size ≤ 50 ∧ f.text.size ≤ 50) ∧ (j.envs.length ≤ 10 ∧ ∀ e ∈ j.envs, e.name.size ≤ 50 ∧ e.val.size ≤ 50) ∧ (j.deps.length ≤ 10 ∧ ∀ m ∈ j.deps, MB m)
theorem mSmall.mb {m : Made} (h : mSmall m) : MB m := ⟨by have := h.1; omega, ⟨by have := h.2.1; omega, fun f hf => by have := h.2.2.1 f hf; omega⟩, by have := h.2.2.2; omega⟩
theorem jobV_JB {c : Cur} (hc : c.ok) : JB (jobV c) := by
  obtain ⟨_, f1, f2⟩ := jF_ok hc
  obtain ⟨_, ⟨_, a1⟩, a2⟩ := jA_ok hc
  obtain ⟨_, d1, d2⟩ := jD_ok hc
  have he : (pickS jenvL (jF c).2 2).size ≤ 50 := pick_size (by decide) _ _
  refine ⟨pick_size (by decide) _ _, ⟨show (jA c).1.length ≤ 10 by omega, fun x hx => by have := a2 x hx; omega⟩, ⟨show (jF c).1.length ≤ 10 by omega, fun x hx => by have := f2 x hx; omega⟩, ⟨show 1 ≤ 10 by decide, fun x hx => ?_⟩, ⟨show (jD c).1.length ≤ 10 by omega, fun x hx => (d2 x hx).mb⟩⟩
  have hx : x ∈ [(⟨modeT, pickS jenvL (jF c).2 2⟩ : Env)] := hx
  rw [List.mem_singleton] at hx
  subst hx
  exact ⟨show 4 ≤ 50 by decide, he⟩
theorem app1 (a : ByteArray) (x : UInt8) (n : Nat) (h : a.size + 1 ≤ n) : (a ++ (⟨#[x]⟩ : ByteArray)).size ≤ n := by
  rw [ByteArray.size_append]
  exact h
def sjQ (a a2 : Job) (v : Int) (ev : ByteArray) : Job × Job :=
  if v = 0 then (a, a2)
  else if v = 1 then (a, { a with name := a.name ++ ⟨#[120]⟩ })
  else if v = 2 then (a, { a with acts := a.acts ++ [⟨#[]⟩] })
  else if v = 3 then (a, { a with ins := a.ins ++ [⟨⟨#[122]⟩, ⟨#[]⟩⟩] })
  else if v = 4 then (a, { a with envs := [⟨modeT, ev ++ ⟨#[121]⟩⟩] })
  else if v = 5 then (a, { a with deps := zLog a.deps })
  else (a, a)
theorem sjP_Q (code : List Int) : sjP code = sjQ (jobV (newC code)) (jobV (belowC (jobC (newC code)) 8)) (belowV (jobC (newC code)) 8) (pickS jenvL (jF (newC code)).2 2) := rfl
set_option maxHeartbeats 2000000 in
theorem sjQ_JB {a a2 : Job} {v : Int} {ev : ByteArray} (hj : JB a) (h2 : JB a2) (s1 : a.name.size ≤ 10) (s2 : a.acts.length ≤ 4) (s3 : a.ins.length ≤ 8) (he : ev.size ≤ 10) (sd : ∀ m ∈ a.deps, mSmall m) : JB (sjQ a a2 v ev).1 ∧ JB (sjQ a a2 v ev).2 := by
  obtain ⟨an, aa, ai, ae, ad⟩ := a
  have hj0 := hj
  obtain ⟨b1, ⟨b2, b3⟩, ⟨b4, b5⟩, b6, ⟨b7, b8⟩⟩ := hj
  simp only at s1 s2 s3 sd b1 b2 b3 b4 b5 b6 b7 b8
  by_cases k0 : v = 0
  · have e : sjQ ⟨an, aa, ai, ae, ad⟩ a2 v ev = (⟨an, aa, ai, ae, ad⟩, a2) := by simp only [sjQ, k0]; rfl
    rw [e]
    exact ⟨hj0, h2⟩
  by_cases k1 : v = 1
  · have e : sjQ ⟨an, aa, ai, ae, ad⟩ a2 v ev = (⟨an, aa, ai, ae, ad⟩, ⟨an ++ ⟨#[120]⟩, aa, ai, ae, ad⟩) := by simp only [sjQ, k1]; rfl
    rw [e]
    exact ⟨hj0, app1 _ _ _ (show an.size + 1 ≤ 50 by omega), ⟨b2, b3⟩, ⟨b4, b5⟩, b6, ⟨b7, b8⟩⟩
  by_cases k2 : v = 2
  · have e : sjQ ⟨an, aa, ai, ae, ad⟩ a2 v ev = (⟨an, aa, ai, ae, ad⟩, ⟨an, aa ++ [⟨#[]⟩], ai, ae, ad⟩) := by simp only [sjQ, k2]; rfl
    rw [e]
    refine ⟨hj0, b1, ⟨?_, fun x hx => ?_⟩, ⟨b4, b5⟩, b6, ⟨b7, b8⟩⟩
    · simp only [List.length_append, List.length_cons, List.length_nil]; omega
    · rcases List.mem_append.1 hx with hx | hx
      · exact b3 x hx
      · rw [List.mem_singleton.1 hx]; exact Nat.zero_le _
  by_cases k3 : v = 3
  · have e : sjQ ⟨an, aa, ai, ae, ad⟩ a2 v ev = (⟨an, aa, ai, ae, ad⟩, ⟨an, aa, ai ++ [⟨⟨#[122]⟩, ⟨#[]⟩⟩], ae, ad⟩) := by simp only [sjQ, k3]; rfl
    rw [e]
    refine ⟨hj0, b1, ⟨b2, b3⟩, ⟨?_, fun x hx => ?_⟩, b6, ⟨b7, b8⟩⟩
    · simp only [List.length_append, List.length_cons, List.length_nil]; omega
    · rcases List.mem_append.1 hx with hx | hx
      · exact b5 x hx
      · rw [List.mem_singleton.1 hx]; exact ⟨show 1 ≤ 50 by decide, Nat.zero_le _⟩
  by_cases k4 : v = 4
  · have e : sjQ ⟨an, aa, ai, ae, ad⟩ a2 v ev = (⟨an, aa, ai, ae, ad⟩, ⟨an, aa, ai, [⟨modeT, ev ++ ⟨#[121]⟩⟩], ad⟩) := by simp only [sjQ, k4]; rfl
    rw [e]
    refine ⟨hj0, b1, ⟨b2, b3⟩, ⟨b4, b5⟩, ⟨show 1 ≤ 10 by decide, fun x hx => ?_⟩, ⟨b7, b8⟩⟩
    rw [List.mem_singleton.1 hx]
    exact ⟨show 4 ≤ 50 by decide, app1 _ _ _ (by omega)⟩
  by_cases k5 : v = 5
  · have e : sjQ ⟨an, aa, ai, ae, ad⟩ a2 v ev = (⟨an, aa, ai, ae, ad⟩, ⟨an, aa, ai, ae, zLog ad⟩) := by simp only [sjQ, k5]; rfl
    rw [e]
    refine ⟨hj0, b1, ⟨b2, b3⟩, ⟨b4, b5⟩, b6, ?_⟩
    cases ad with
    | nil => exact ⟨Nat.zero_le _, fun x hx => by cases hx⟩
    | cons m l =>
      refine ⟨b7, fun x hx => ?_⟩
      rcases List.mem_cons.1 hx with rfl | hx
      · have := sd m List.mem_cons_self
        have hm := this.mb
        exact ⟨hm.1, hm.2.1, app1 _ _ _ (by have := this.2.2.2; omega)⟩
      · exact b8 x (List.mem_cons_of_mem _ hx)
  have e : sjQ ⟨an, aa, ai, ae, ad⟩ a2 v ev = (⟨an, aa, ai, ae, ad⟩, ⟨an, aa, ai, ae, ad⟩) := by simp only [sjQ, k0, k1, k2, k3, k4, k5, if_false]
  rw [e]
  exact ⟨hj0, hj0⟩
theorem sjP_JB {code : List Int} (h : Ty.byte.slice.ok code) : JB (sjP code).1 ∧ JB (sjP code).2 := by
  have hc := newC_ok h
  rw [sjP_Q]
  exact sjQ_JB (jobV_JB hc) (jobV_JB (belowC_ok (jobC_ok hc) 8)) (pick_size (by decide) _ _) (jA_ok hc).2.1.2 (jF_ok hc).2.1 (pick_size (by decide) _ _) (jD_ok hc).2.2
theorem sw_le {k : Nat} : ∀ {l : List ByteArray}, (∀ s ∈ l, s.size ≤ k) → sw l ≤ l.length * (k + 2)
  | [], _ => Nat.zero_le _
  | s :: l, h => by
    have h1 := h s List.mem_cons_self
    have h2 := sw_le fun t ht => h t (List.mem_cons_of_mem s ht)
    rw [sw, List.length_cons, Nat.add_mul, Nat.one_mul]
    omega
theorem txF_len : ∀ l : List File, (txF l).length = l.length * 2
  | [] => rfl
  | f :: l => by simp only [txF, List.length_cons, txF_len l]; omega
theorem txE_len : ∀ l : List Env, (txE l).length = l.length * 2
  | [] => rfl
  | f :: l => by simp only [txE, List.length_cons, txE_len l]; omega
theorem txF_mem {k : Nat} : ∀ {l : List File}, (∀ f ∈ l, f.path.size ≤ k ∧ f.text.size ≤ k) → ∀ s ∈ txF l, s.size ≤ k
  | [], _, s, hs => by cases hs
  | f :: l, h, s, hs => by
    rcases List.mem_cons.1 hs with rfl | hs
    · exact (h f List.mem_cons_self).1
    rcases List.mem_cons.1 hs with rfl | hs
    · exact (h f List.mem_cons_self).2
    · exact txF_mem (fun g hg => h g (List.mem_cons_of_mem _ hg)) s hs
theorem txE_mem {k : Nat} : ∀ {l : List Env}, (∀ f ∈ l, f.name.size ≤ k ∧ f.val.size ≤ k) → ∀ s ∈ txE l, s.size ≤ k
  | [], _, s, hs => by cases hs
  | f :: l, h, s, hs => by
    rcases List.mem_cons.1 hs with rfl | hs
    · exact (h f List.mem_cons_self).1
    rcases List.mem_cons.1 hs with rfl | hs
    · exact (h f List.mem_cons_self).2
    · exact txE_mem (fun g hg => h g (List.mem_cons_of_mem _ hg)) s hs
theorem txM_mem : ∀ {l : List Made}, (∀ m ∈ l, MB m) → (∀ s ∈ txM l, s.size ≤ 50) ∧ (txM l).length ≤ l.length * 23 ∧ ol l ≤ l.length * 30
  | [], _ => ⟨fun s hs => (by cases hs), Nat.le_refl _, Nat.le_refl _⟩
  | m :: l, h => by
    obtain ⟨i1, i2, i3⟩ := txM_mem (l := l) fun g hg => h g (List.mem_cons_of_mem _ hg)
    obtain ⟨h1, ⟨h2, h3⟩, h4⟩ := h m List.mem_cons_self
    have hn := numT_size m.outs.length
    refine ⟨fun s hs => ?_, ?_, ?_⟩
    · rcases List.mem_cons.1 hs with rfl | hs
      · exact h1
      rcases List.mem_cons.1 hs with rfl | hs
      · exact h4
      rcases List.mem_cons.1 hs with rfl | hs
      · omega
      rcases List.mem_append.1 hs with hs | hs
      · exact txF_mem h3 s hs
      · exact i1 s hs
    · simp only [txM, List.length_cons, List.length_append, txF_len]; omega
    · simp only [ol, List.length_cons]; omega
theorem JB.fit {j : Job} (h : JB j) : (∀ s ∈ txJ j, s.size ≤ 50) ∧ jw j + j.acts.length + j.ins.length + j.envs.length + j.deps.length + ol j.deps + 100 ≤ 140737488350000 := by
  obtain ⟨h1, ⟨h2, h3⟩, ⟨h4, h5⟩, ⟨h6, h7⟩, ⟨h8, h9⟩⟩ := h
  obtain ⟨m1, m2, m3⟩ := txM_mem h9
  have n1 := numT_size j.acts.length
  have n2 := numT_size j.ins.length
  have n3 := numT_size j.envs.length
  have n4 := numT_size j.deps.length
  have ha : ∀ s ∈ txJ j, s.size ≤ 50 := fun s hs => by
    rcases List.mem_cons.1 hs with rfl | hs
    · exact h1
    rcases List.mem_cons.1 hs with rfl | hs
    · omega
    rcases List.mem_append.1 hs with hs | hs
    · exact h3 s hs
    rcases List.mem_cons.1 hs with rfl | hs
    · omega
    rcases List.mem_append.1 hs with hs | hs
    · exact txF_mem h5 s hs
    rcases List.mem_cons.1 hs with rfl | hs
    · omega
    rcases List.mem_append.1 hs with hs | hs
    · exact txE_mem h7 s hs
    rcases List.mem_cons.1 hs with rfl | hs
    · omega
    · exact m1 s hs
  refine ⟨ha, ?_⟩
  have hs := sw_le ha
  have hl : (txJ j).length ≤ 300 := by
    simp only [txJ, List.length_cons, List.length_append, txF_len, txE_len]
    omega
  unfold jw
  omega
theorem JB.ok {j : Job} (h : JB j) : Job.ty.ok j := by
  obtain ⟨h1, ⟨h2, h3⟩, ⟨h4, h5⟩, ⟨h6, h7⟩, ⟨h8, h9⟩⟩ := h
  have fo : ∀ f : File, f.path.size ≤ 50 ∧ f.text.size ≤ 50 → File.ty.ok f := fun f hf => ⟨show f.path.size ≤ 140737488351232 by omega, show f.text.size ≤ 140737488351232 by omega, trivial⟩
  exact ⟨show j.name.size ≤ 140737488351232 by omega, ⟨show j.acts.length * 16 ≤ 140737488351232 by omega, fun x hx => show x.size ≤ 140737488351232 by have := h3 x hx; omega⟩, ⟨show j.ins.length * 32 ≤ 140737488351232 by omega, fun x hx => fo x (h5 x hx)⟩,
    ⟨show j.envs.length * 32 ≤ 140737488351232 by omega, fun x hx => ⟨show x.name.size ≤ 140737488351232 by have := h7 x hx; omega, show x.val.size ≤ 140737488351232 by have := h7 x hx; omega, trivial⟩⟩,
    ⟨show j.deps.length * 56 ≤ 140737488351232 by omega, fun x hx => ⟨show x.task.size ≤ 140737488351232 by have := (h9 x hx).1; omega, ⟨show x.outs.length * 32 ≤ 140737488351232 by have := (h9 x hx).2.1.1; omega, fun y hy => fo y ((h9 x hx).2.1.2 y hy)⟩, show x.log.size ≤ 140737488351232 by have := (h9 x hx).2.2; omega, trivial⟩⟩, trivial⟩
theorem jobEq_refl (a : Job) : jobEq a a = true := (jobEq_iff a a).2 rfl
theorem JB.same {a b : Job} (ha : JB a) (hb : JB b) : ((strOfNums (jkey a)).toList == (strOfNums (jkey b)).toList) = jobEq a b :=
  key_same (fun s hs => by have := ha.fit.1 s hs; omega) (fun s hs => by have := hb.fit.1 s hs; omega)
theorem jkey_pos (j : Job) (h : JB j) : 0 < (jkey j).length := by
  unfold jkey
  rw [putL_enc _ _ (fun s hs => by have := h.fit.1 s hs; omega)]
  simp [txJ, encS, enc1, hiL]
theorem bytesB {h : Hp} {b : Nat} {xs : List Int} (hb : h b = some (some (rows B xs))) : bytesA h (.sl b 0 xs.length 1 false) = some xs := by
  have hn := B.num xs
  have hl := B.count xs
  have ht : List.take xs.length (rows B xs) = rows B xs := List.take_of_length_le (by omega)
  simp [bytesA, hb, hn, hl, ht]
def A4 : AC := (.seq (.ops [⟨(some 2), none, .q (.mov (.c (.sc (.bool false))))⟩])
  (.seq (.ops [⟨(some 3), none, .q (.mov (.t 0))⟩, ⟨(some 4), none, .q (.llen (.t 3))⟩, ⟨(some 5), none, .q (.bin .gtr (.t 4) (.c (.sc (.int .i64 1048576))))⟩, ⟨(some 2), none, .q (.mov (.t 5))⟩])
  .ret))
theorem K4 : Tryd.f4.body.bind (comp Tryd.prog) = some A4 ∧ Tryd.f4.ntmps = 6 ∧ Tryd.f4.results.toList.mapM (resB Tryd.prog) = some [.mov (.t 2)] := ⟨by kernel_rfl, by kernel_rfl, by kernel_rfl⟩
theorem R4 (code : List Int) : Ret Tryd.prog 4 [.ro (rows B code) code.length] (.sc (.bool (decide ((1048576 : Int) < code.length)))) [.un] := by
  refine Ret.run Tryd.func4 K4 (by simp) rfl rfl 500 ?_
  simp [A4, iniρ]
def A3 : AC := (.seq (.ops [⟨(some 2), none, .q (.mov (.c (.sc (.bool false))))⟩])
  (.seq (.seq (.ops [⟨(some 7), none, .q (.mov (.t 0))⟩, ⟨(some 8), none, .c (.c (.clo 4 [])) [(.t 7)]⟩])
  (.cond (.t 8) (.seq (.ops [⟨(some 2), none, .q (.mov (.c (.sc (.bool true))))⟩])
  .ret)
  .skip))
  (.seq (.ops [⟨(some 10), none, .q (.mov (.t 0))⟩, ⟨(some 11), none, .c (.c (.clo 5 [])) [(.t 10)]⟩, ⟨(some 9), none, .q (.mov (.t 11))⟩, ⟨(some 12), none, .q (.ext (.t 9) 0)⟩, ⟨(some 13), none, .q (.ext (.t 9) 1)⟩, ⟨(some 3), none, .w (.alloc [(.sc (.string ⟨#[]⟩)), .em, .em, .em, .em])⟩, ⟨(some 4), none, .w (.alloc [(.sc (.string ⟨#[]⟩)), .em, .em, .em, .em])⟩, ⟨none, none, .w (.store 5 (.t 3) (.t 12))⟩, ⟨none, none, .w (.store 5 (.t 4) (.t 13))⟩])
  (.seq (.ops [⟨(some 14), none, .q (.mov (.t 0))⟩, ⟨(some 15), none, .c (.c (.clo 6 [])) [(.t 14)]⟩, ⟨(some 5), none, .w (.alloc [(.sc (.string ⟨#[]⟩)), .em, .em, .em, .em])⟩, ⟨none, none, .w (.store 5 (.t 5) (.t 15))⟩])
  (.seq (.any [(⟨(some 16), none, .q (.load true 5 (.t 3))⟩, []), (⟨(some 17), none, .c (.c (.clo 7 [])) [(.t 16)]⟩, [0]), (⟨(some 18), none, .q (.bstr (.t 17))⟩, [1]), (⟨(some 19), none, .q (.load true 5 (.t 4))⟩, []), (⟨(some 20), none, .c (.c (.clo 7 [])) [(.t 19)]⟩, [3, 1]), (⟨(some 21), none, .q (.bstr (.t 20))⟩, [4]), (⟨(some 22), none, .q (.bin .eql (.t 18) (.t 21))⟩, [2, 5]), (⟨(some 6), none, .q (.mov (.t 22))⟩, [6, 4, 0, 1, 2, 3, 4, 5, 6])])
  (.seq (.any [(⟨(some 23), none, .q (.mov (.t 6))⟩, []), (⟨(some 24), none, .q (.load true 5 (.t 3))⟩, []), (⟨(some 25), none, .q (.load true 5 (.t 4))⟩, []), (⟨(some 26), none, .c (.c (.clo 8 [])) [(.t 24), (.t 25)]⟩, [1, 2]), (⟨(some 27), none, .q (.beq false (.t 23) (.t 26))⟩, [0, 3]), (⟨(some 28), none, .q (.mov (.t 27))⟩, [4, 3]), (⟨(some 29), (some (28, true)), .q (.load true 5 (.t 3))⟩, [5]), (⟨(some 30), (some (28, true)), .q (.load true 5 (.t 4))⟩, [5]), (⟨(some 31), (some (28, true)), .c (.c (.clo 8 [])) [(.t 29), (.t 30)]⟩, [6, 7, 5, 5]), (⟨(some 32), (some (28, true)), .q (.load true 5 (.t 3))⟩, [5]), (⟨(some 33), (some (28, true)), .q (.load true 5 (.t 4))⟩, [5]), (⟨(some 34), (some (28, true)), .c (.c (.clo 9 [])) [(.t 32), (.t 33)]⟩, [9, 10, 8, 5]), (⟨(some 35), (some (28, true)), .q (.beq false (.t 31) (.t 34))⟩, [8, 11, 5]), (⟨(some 36), none, .q (.pick (.t 28) (.t 35) (.c (.sc (.bool false))))⟩, [5, 12]), (⟨(some 37), none, .q (.mov (.t 36))⟩, [13, 11]), (⟨(some 38), (some (37, true)), .q (.load true 5 (.t 3))⟩, [14]), (⟨(some 39), (some (37, true)), .q (.load true 5 (.t 3))⟩, [14]), (⟨(some 40), (some (37, true)), .c (.c (.clo 8 [])) [(.t 38), (.t 39)]⟩, [15, 16, 14, 14]), (⟨(some 41), none, .q (.pick (.t 37) (.t 40) (.c (.sc (.bool false))))⟩, [14, 17]), (⟨(some 42), none, .q (.mov (.t 41))⟩, [18, 17]), (⟨(some 43), (some (42, true)), .q (.load true 5 (.t 5))⟩, [19]), (⟨(some 44), (some (42, true)), .c (.c (.clo 7 [])) [(.t 43)]⟩, [20, 19, 19]), (⟨(some 45), (some (42, true)), .q (.bstr (.t 44))⟩, [21, 19]), (⟨(some 46), (some (42, true)), .q (.load true 5 (.t 5))⟩, [19]), (⟨(some 47), (some (42, true)), .c (.c (.clo 10 [])) [(.t 46)]⟩, [23, 21, 19]), (⟨(some 48), (some (42, true)), .q (.bstr (.t 47))⟩, [24, 19]), (⟨(some 49), (some (42, true)), .q (.bin .eql (.t 45) (.t 48))⟩, [22, 25, 19]), (⟨(some 50), none, .q (.pick (.t 42) (.t 49) (.c (.sc (.bool false))))⟩, [19, 26]), (⟨(some 51), none, .q (.mov (.t 50))⟩, [27, 24]), (⟨(some 52), (some (51, true)), .q (.load true 5 (.t 3))⟩, [28]), (⟨(some 53), (some (51, true)), .c (.c (.clo 7 [])) [(.t 52)]⟩, [29, 28, 28]), (⟨(some 54), (some (51, true)), .q (.llen (.t 53))⟩, [30, 28]), (⟨(some 55), (some (51, true)), .q (.bin .gtr (.t 54) (.c (.sc (.int .i64 0))))⟩, [31, 28]), (⟨(some 56), none, .q (.pick (.t 51) (.t 55) (.c (.sc (.bool false))))⟩, [28, 32]), (⟨(some 2), none, .q (.mov (.t 56))⟩, [33, 30, 0, 1, 2, 3, 4, 5, 6, 7, 8, 9, 10, 11, 12, 13, 14, 15, 16, 17, 18, 19, 20, 21, 22, 23, 24, 25, 26, 27, 28, 29, 30, 31, 32, 33])])
  .ret))))))
theorem K3 : Tryd.f3.body.bind (comp Tryd.prog) = some A3 ∧ Tryd.f3.ntmps = 57 ∧ Tryd.f3.results.toList.mapM (resB Tryd.prog) = some [.mov (.t 2)] := ⟨by kernel_rfl, by kernel_rfl, by kernel_rfl⟩
set_option maxHeartbeats 8000000 in
set_option maxRecDepth 100000 in
theorem R3 (code : List Int) (hx : Ty.byte.slice.ok code) : Ret Tryd.prog 3 [.ro (rows Ty.byte.cs code) code.length] (.sc (.bool true)) [.un] := by
  change Ret Tryd.prog 3 [.ro (rows B code) code.length] (.sc (.bool true)) [.un]
  obtain ⟨ba, bb⟩ := sjP_JB hx
  have bk := jobV_JB (newC_ok hx)
  have r1 := R5 code hx
  have r2 := R6 code hx
  obtain ⟨a, hea⟩ : ∃ x, x = (sjP code).1 := ⟨_, rfl⟩
  obtain ⟨b, heb⟩ : ∃ x, x = (sjP code).2 := ⟨_, rfl⟩
  obtain ⟨k, hek⟩ : ∃ x, x = jobV (newC code) := ⟨_, rfl⟩
  rw [← hea] at ba r1
  rw [← heb] at bb r1
  rw [← hek] at bk r2
  have f1 : flt (.tup [.agg (Job.ty.oc a), .agg (Job.ty.oc b)]) = true := by
    have h1 := Job.ty.flL a
    have h2 := Job.ty.flL b
    simp only [flt, flt.fltL, Bool.and_eq_true]
    exact ⟨h1, h2, trivial⟩
  have f2 : flt (.agg (Job.ty.oc k)) = true := by simpa [flt] using Job.ty.flL k
  have hs := ba.same bb
  have hp := jkey_pos a ba
  have i1 := Ty.str.frL a.acts
  have i2 := File.frL a.ins
  have i3 := Env.frL a.envs
  have i4 := Made.frL a.deps
  have j1 := Ty.str.frL b.acts
  have j2 := File.frL b.ins
  have j3 := Env.frL b.envs
  have j4 := Made.frL b.deps
  have k1 := Ty.str.frL k.acts
  have k2 := File.frL k.ins
  have k3 := Env.frL k.envs
  have k4 := Made.frL k.deps
  have oa := ba.ok
  have ob := bb.ok
  have lb : ∀ j : Job, JB j → j.acts.length < 4611686018427387904 ∧ j.ins.length < 4611686018427387904 ∧ j.envs.length < 4611686018427387904 ∧ j.deps.length < 4611686018427387904 ∧ ∀ m ∈ j.deps, m.outs.length < 4611686018427387904 := fun j h => ⟨by have := h.2.1.1; omega, by have := h.2.2.1.1; omega, by have := h.2.2.2.1.1; omega, by have := h.2.2.2.2.1; omega, fun m hm => by have := (h.2.2.2.2.2 m hm).2.1.1; omega⟩
  have rk : ∀ j : Job, JB j → Ret Tryd.prog 7 [.agg (Job.ty.cs j)] (.own (rows B (jkey j)) (jkey j).length 1) [.un] := fun j h => R7 j (lb j h).1 (lb j h).2.1 (lb j h).2.2.1 (lb j h).2.2.2.1 (lb j h).2.2.2.2 h.fit.2
  have rs : ∀ j : Job, JB j → Ret Tryd.prog 10 [.agg (Job.ty.cs j)] (.own (rows B (jkey j)) (jkey j).length 1) [.un] := fun j h => R10 j (lb j h).1 (lb j h).2.1 (lb j h).2.2.1 (lb j h).2.2.2.1 (lb j h).2.2.2.2 h.fit.2
  obtain ⟨ka, hka⟩ : ∃ x, x = jkey a := ⟨_, rfl⟩
  obtain ⟨kb, hkb⟩ : ∃ x, x = jkey b := ⟨_, rfl⟩
  obtain ⟨kk, hkk⟩ : ∃ x, x = jkey k := ⟨_, rfl⟩
  have ra := rk a ba
  have rb := rk b bb
  have rk1 := rk k bk
  have rk2 := rs k bk
  rw [← hka] at ra hs hp
  rw [← hkb] at rb hs
  rw [← hkk] at rk1 rk2
  refine Ret.run Tryd.func3 K3 (by simp) rfl rfl 900 ?_
  simp [A3, iniρ, over]
  refine callK.ro 0 rfl (by kernel_rfl) (by simp [roc_ro]) (R4 code) rfl rfl rfl ?_
  by_cases hb : (1048576 : Int) < code.length
  · simp [hb]
  simp [hb]
  refine callK.ro 11 rfl (by kernel_rfl) (by simp [roc_ro]) r1 f1 (by simp [inst, instL, Job.oce, upd_app]; exact ⟨rfl, rfl⟩) rfl ?_
  simp [over]
  refine callK.ro 15 rfl (by kernel_rfl) (by simp [roc_ro]) r2 f2 (by simp [inst, instL, Job.oce, upd_app]; exact ⟨rfl, rfl⟩) rfl ?_
  simp [over]
  refine T.le (Le.told [(3, .ref 3 0), (4, .ref 4 0), (5, .ref 5 0)] [(3, [.sc (.string a.name), .sl 12001001 0 a.acts.length 1 false, .sl 12001002 0 a.ins.length 2 false, .sl 12001003 0 a.envs.length 2 false, .sl 12001004 0 a.deps.length 3 false]), (4, [.sc (.string b.name), .sl 12002001 0 b.acts.length 1 false, .sl 12002002 0 b.ins.length 2 false, .sl 12002003 0 b.envs.length 2 false, .sl 12002004 0 b.deps.length 3 false]), (5, [.sc (.string k.name), .sl 16001 0 k.acts.length 1 false, .sl 16002 0 k.ins.length 2 false, .sl 16003 0 k.envs.length 2 false, .sl 16004 0 k.deps.length 3 false]), (12001001, rows Ty.str.oc a.acts), (12001002, rows File.ty.oc a.ins), (12001003, rows Env.ty.oc a.envs), (12001004, rows Made.ty.oc a.deps), (12002001, rows Ty.str.oc b.acts), (12002002, rows File.ty.oc b.ins), (12002003, rows Env.ty.oc b.envs), (12002004, rows Made.ty.oc b.deps), (16001, rows Ty.str.oc k.acts), (16002, rows File.ty.oc k.ins), (16003, rows Env.ty.oc k.envs), (16004, rows Made.ty.oc k.deps)]
    (by simp [toldT, menQ_ref, upd_app]) (by simp [toldB, mens_cons, mens_nil, mens_idf, menQ_sl, menQ_sc, menQ_em, i1, i2, i3, i4, j1, j2, j3, j4, k1, k2, k3, k4, upd_app])) ?_
  simp only [toldρ, toldH]
  refine T.textW 400 [([], []), ([17], []), ([], [20]), ([], [17]), ([20], []), ([], []), ([], []), ([], [])] mixed (by kernel_rfl) (by kernel_rfl) ?_
  simp [over]
  refine callWK.ro 17 rfl (by kernel_rfl) (by simp [roc_agg, roc_agg8, List.mapM_cons, List.mapM_nil, roc_sc, str_roc7, File.roc7, Env.roc7, Made.roc7, upd_app, hideH_app, merge_app, Job.cse]) ra (B_fl _) (by simp [inst, upd_app, hideH_app]; exact ⟨rfl, rfl⟩) (by rfl) ?_
  simp [over, merge_nil, hideH_nil, bytesB]
  refine callWK.ro 20 rfl (by kernel_rfl) (by simp [roc_agg, roc_agg8, List.mapM_cons, List.mapM_nil, roc_sc, str_roc7, File.roc7, Env.roc7, Made.roc7, upd_app, hideH_app, merge_app, Job.cse]) rb (B_fl _) (by simp [inst, upd_app, hideH_app]; exact ⟨rfl, rfl⟩) (by rfl) ?_
  simp [over, merge_nil, hideH_nil, bytesB, hs]
  refine T.le (Le.told [(3, .ref 3 0), (4, .ref 4 0), (5, .ref 5 0), (6, .sc (.bool (jobEq a b)))] [(3, [.sc (.string a.name), .sl 12001001 0 a.acts.length 1 false, .sl 12001002 0 a.ins.length 2 false, .sl 12001003 0 a.envs.length 2 false, .sl 12001004 0 a.deps.length 3 false]), (4, [.sc (.string b.name), .sl 12002001 0 b.acts.length 1 false, .sl 12002002 0 b.ins.length 2 false, .sl 12002003 0 b.envs.length 2 false, .sl 12002004 0 b.deps.length 3 false]), (5, [.sc (.string k.name), .sl 16001 0 k.acts.length 1 false, .sl 16002 0 k.ins.length 2 false, .sl 16003 0 k.envs.length 2 false, .sl 16004 0 k.deps.length 3 false]), (12001001, rows Ty.str.oc a.acts), (12001002, rows File.ty.oc a.ins), (12001003, rows Env.ty.oc a.envs), (12001004, rows Made.ty.oc a.deps), (12002001, rows Ty.str.oc b.acts), (12002002, rows File.ty.oc b.ins), (12002003, rows Env.ty.oc b.envs), (12002004, rows Made.ty.oc b.deps), (16001, rows Ty.str.oc k.acts), (16002, rows File.ty.oc k.ins), (16003, rows Env.ty.oc k.envs), (16004, rows Made.ty.oc k.deps)]
    (by simp [toldT, menQ_ref, menQ_sc, upd_app]) (by simp [toldB, mens_cons, mens_nil, mens_idf, menQ_sl, menQ_sc, menQ_em, i1, i2, i3, i4, j1, j2, j3, j4, k1, k2, k3, k4, upd_app, merge_app, hideH_app])) ?_
  simp only [toldρ, toldH]
  refine T.textP 900 [[], [], [], [1, 2], [0, 3], [3, 4], [5], [5], [5, 6, 7], [5], [5], [5, 8, 9, 10], [5, 8, 11], [5, 12], [11, 13], [14], [14], [14, 15, 16], [14, 17], [17, 18], [19], [19, 20], [19, 21], [19], [19, 21, 23], [19, 21, 24], [19, 21, 22, 24, 25], [19, 21, 24, 26], [21, 24, 27], [21, 24, 28], [21, 24, 28, 29], [21, 24, 28, 30], [21, 24, 28, 30, 31], [21, 24, 28, 30, 32], [0, 1, 2, 3, 4, 5, 6, 7, 8, 9, 10, 11, 12, 13, 14, 15, 16, 17, 18, 19, 20, 21, 22, 23, 24, 25, 26, 27, 28, 29, 30, 31, 32, 33]] [([], [44, 47, 53]), ([], [44, 47, 53]), ([], [44, 47, 53]), ([], [44, 47, 53]), ([], [44, 47, 53]), ([], [44, 47, 53]), ([], [44, 47, 53]), ([], [44, 47, 53]), ([], [44, 47, 53]), ([], [44, 47, 53]), ([], [44, 47, 53]), ([], [44, 47, 53]), ([], [44, 47, 53]), ([], [44, 47, 53]), ([], [44, 47, 53]), ([], [44, 47, 53]), ([], [44, 47, 53]), ([], [44, 47, 53]), ([], [44, 47, 53]), ([], [53]), ([], [47, 53]), ([44], []), ([], [47, 53]), ([], [44, 53]), ([47], []), ([], [53]), ([], [53]), ([], [53]), ([], []), ([], []), ([53], []), ([], []), ([], []), ([], []), ([], [])] mixed (by kernel_rfl) (by kernel_rfl) ?_
  simp [over, merge_nil, hideH_nil]
  refine callWK.ro 0 rfl (by kernel_rfl) (by simp [roc_agg, roc_agg8, List.mapM_cons, List.mapM_nil, roc_sc, str_roc7, File.roc7, Env.roc7, Made.roc7, upd_app, hideH_app, merge_app, Job.cse]) (R8 a b oa) rfl rfl (by rfl) ?_
  simp [over, merge_nil, hideH_nil]
  refine callWK.ro 0 rfl (by kernel_rfl) (by simp [roc_agg, roc_agg8, List.mapM_cons, List.mapM_nil, roc_sc, str_roc7, File.roc7, Env.roc7, Made.roc7, upd_app, hideH_app, merge_app, Job.cse]) (R8 a b oa) rfl rfl (by rfl) ?_
  simp [over, merge_nil, hideH_nil]
  refine callWK.ro 0 rfl (by kernel_rfl) (by simp [roc_agg, roc_agg8, List.mapM_cons, List.mapM_nil, roc_sc, str_roc7, File.roc7, Env.roc7, Made.roc7, upd_app, hideH_app, merge_app, Job.cse]) (R9 a b oa) rfl rfl (by rfl) ?_
  simp [over, merge_nil, hideH_nil]
  refine callWK.ro 0 rfl (by kernel_rfl) (by simp [roc_agg, roc_agg8, List.mapM_cons, List.mapM_nil, roc_sc, str_roc7, File.roc7, Env.roc7, Made.roc7, upd_app, hideH_app, merge_app, Job.cse]) (R8 a a oa) rfl rfl (by rfl) ?_
  simp [over, merge_nil, hideH_nil, jobEq_refl]
  refine callWK.ro 44 rfl (by kernel_rfl) (by simp [roc_agg, roc_agg8, List.mapM_cons, List.mapM_nil, roc_sc, str_roc7, File.roc7, Env.roc7, Made.roc7, upd_app, hideH_app, merge_app, Job.cse]) rk1 (B_fl _) (by simp [inst, upd_app, hideH_app, merge_app]; exact ⟨rfl, rfl⟩) (by rfl) ?_
  simp [over, merge_nil, hideH_nil, bytesB]
  refine callWK.ro 47 rfl (by kernel_rfl) (by simp [roc_agg, roc_agg8, List.mapM_cons, List.mapM_nil, roc_sc, str_roc7, File.roc7, Env.roc7, Made.roc7, upd_app, hideH_app, merge_app, Job.cse]) rk2 (B_fl _) (by simp [inst, upd_app, hideH_app, merge_app]; exact ⟨rfl, rfl⟩) (by rfl) ?_
  simp [over, merge_nil, hideH_nil, bytesB]
  refine callWK.ro 53 rfl (by kernel_rfl) (by simp [roc_agg, roc_agg8, List.mapM_cons, List.mapM_nil, roc_sc, str_roc7, File.roc7, Env.roc7, Made.roc7, upd_app, hideH_app, merge_app, Job.cse]) ra (B_fl _) (by simp [inst, upd_app, hideH_app, merge_app]; exact ⟨rfl, rfl⟩) (by rfl) ?_
  simp [over, merge_nil, hideH_nil, hp]
end Go.Proofs.YtepjkkaemlpmgaaDoor.Am
