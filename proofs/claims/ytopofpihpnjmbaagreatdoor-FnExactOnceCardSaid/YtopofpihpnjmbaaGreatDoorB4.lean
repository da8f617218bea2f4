/- The small machine and the contracts of the functions, part 4 (KeyOf, Marks, Mark, Slots, Marks3, CacheGet, Copies, CachePut, MarksM, PutLaw, Once, OnceS, OnceLaw); no condition. -/
import Derived.Test.YtopofpihpnjmbaaGreatDoorProg
import Derived.Test.YtopofpihpnjmbaaGreatDoorAmZ
import Derived.Test.YtopofpihpnjmbaaGreatDoorAmP
import Derived.Test.YtopofpihpnjmbaaGreatDoorB3
import Derived.Test.YtopofpihpnjmbaaGreatDoorAmK
import Derived.KernelRfl
import Derived.Test.YtopofpihpnjmbaaGreatDoorB1
import Derived.Test.YtopofpihpnjmbaaGreatDoorAmM
import Derived.Test.YtopofpihpnjmbaaGreatDoorAmN
import Derived.Test.YtopofpihpnjmbaaGreatDoorB2
namespace Go.Proofs.YtopofpihpnjmbaaGreatDoor.Am
open Go Go.Proofs
set_option linter.unusedSimpArgs false
set_option linter.unusedVariables false
attribute [local congr] ZL yp Zm
attribute [local simp] YI yI ZI YH ZA Zv zI yz Yh zl zA Zi Zl Yz zJ zB YA yA yG ZG zG YX yX ZY zY ZS zS yS yB Za yc wblk ZB Yv yK YK aval dOk za ev_t ev_c Zt zv yT Yy isIo hasIo sbin endR fin resL one outL out1 clo1 cloL coe coeL shut shut.shutL wantA weff cellsOf fillA deref natOf ρ0_app ZX plain plain.plainL ye Ze zj Yp Ym ZJ zw zk yi yJ Zp Yl nilA srcOf Yn Zq Yo renA rb
def jw (j : Job) : Nat := sw (txJ j)
theorem zev (j : Job) : jkey j = putL (putT (putL (putT (putFl (putL (putT (putT [] j.name) (numT j.acts.length)) j.acts) j.ins) (numT j.envs.length)) (txE j.envs)) (numT j.deps.length)) (txM j.deps) := by
  unfold jkey
  rw [zbH]
  simp only [txJ, putL, zaD]
theorem jw_eq (j : Job) : jw j = j.name.size + 2 + ((numT j.acts.length).size + 2) + sw j.acts + ((numT j.ins.length).size + 2) + sw (txF j.ins) + ((numT j.envs.length).size + 2) + sw (txE j.envs) + ((numT j.deps.length).size + 2) + sw (txM j.deps) := by
  unfold jw
  simp only [txJ, sw, zb4]
  omega
theorem zaE (b : List Int) (l : List File) : (putFl b l).length ≤ b.length + ((numT l.length).size + 2 + sw (txF l)) := by
  rw [zbH]
  exact zcF _ b
theorem fw_sw : ∀ l : List File, fw l = sw (txF l)
  | [] => rfl
  | f :: l => by simp only [fw, txF, sw, fw_sw l]; omega
theorem Br {h : Hp} {b : Nat} {xs : List Int} (e : h b = some (some (rows B xs))) : roc h 8 (.sl b 0 xs.length 1 false) = some (.ro (rows B xs) xs.length) := B.roc e
theorem Br0 {h : Hp} {b : Nat} (e : h b = some (some [])) : roc h 8 (.sl b 0 0 1 false) = some (.ro (rows B []) 0) := B.roc (xs := []) e
theorem findB {a b x y c : Nat} (h1 : c ≠ x) (h2 : c ≠ y) : [(a, x), (b, y)].find? (fun p => p.2 == c) = none := by simp [Ne.symm h1, Ne.symm h2]
def ol : List Made → Nat
  | [] => 0
  | m :: l => m.outs.length + 20 + ol l
theorem zdZ : ∀ l : List File, l.length ≤ sw (txF l)
  | [] => Nat.le_refl _
  | f :: l => by have := zdZ l; simp only [txF, sw, List.length_cons]; omega
def A72 : AC := (.seq (.ops [wO 1 (.box (.t 0)), qO 2 (.mov (.c .em))])
  (.seq (.any [(qO 10 (.fadr 0 (.t 1)), []), (qO 11 (.load false 1 (.t 10)), [0]), (cO 12 147 [(.c .em), .t 11], [1]), (qO 13 (.fadr 1 (.t 1)), []), (qO 14 (.load false 1 (.t 13)), [3]), (qO 15 (.llen (.t 14)), [4]), (cO 16 148 [.t 15], [5, 2]), (cO 17 147 [.t 12, .t 16], [2, 6, 6]), (qO 3 (.mov (.t 17)), [7, 7, 0, 1, 2, 3, 4, 5, 6, 7])])
  (.seq (.seq (.ops [qO 18 (.fadr 1 (.t 1)), qO 19 (.load false 1 (.t 18)), qO 20 (.llen (.t 19)), qO 21 (.mov (iC 0))])
  (.block 0 (.loop (.seq (.ops [qO 22 (.bin .lss (.t 21) (.t 20))])
  (.seq (.cond (.t 22) .skip
  (.exit 0))
  (.seq (.block 1 (.seq (.ops [qO 23 (.iadr 1 (.t 19) (.t 21)), qO 24 (.load false 1 (.t 23)), qO 5 (.mov (.t 24))])
  (.ops [qO 25 (.mov (.t 3)), qO 26 (.mov (.t 5)), cO 27 147 [.t 25, .t 26], qO 3 (.mov (.t 27))])))
  (.ops [qO 28 (.bin .add (.t 21) (iC 1)), qO 21 (.mov (.t 28))])))))))
  (.seq (.ops [qO 29 (.mov (.t 3)), qO 30 (.fadr 2 (.t 1)), qO 31 (.load false 1 (.t 30)), cO 32 149 [.t 29, .t 31], qO 3 (.mov (.t 32))])
  (.seq (.ops [qO 33 (.mov (.t 3)), qO 34 (.fadr 3 (.t 1)), qO 35 (.load false 1 (.t 34)), qO 36 (.llen (.t 35)), cO 37 148 [.t 36], cO 38 147 [.t 33, .t 37], qO 3 (.mov (.t 38))])
  (.seq (.seq (.ops [qO 39 (.fadr 3 (.t 1)), qO 40 (.load false 1 (.t 39)), qO 41 (.llen (.t 40)), qO 42 (.mov (iC 0))])
  (.block 2 (.loop (.seq (.ops [qO 43 (.bin .lss (.t 42) (.t 41))])
  (.seq (.cond (.t 43) .skip
  (.exit 2))
  (.seq (.block 3 (.seq (.ops [qO 44 (.iadr 2 (.t 40) (.t 42)), qO 45 (.load true 2 (.t 44)), wO 7 (.alloc [(.sc (.string ⟨#[]⟩)), (.sc (.string ⟨#[]⟩))]), nO (.store 2 (.t 7) (.t 45))])
  (.any [(qO 46 (.mov (.t 3)), []), (qO 47 (.fadr 0 (.t 7)), []), (qO 48 (.load false 1 (.t 47)), [1]), (cO 49 147 [.t 46, .t 48], [0, 2]), (qO 50 (.fadr 1 (.t 7)), []), (qO 51 (.load false 1 (.t 50)), [4]), (cO 52 147 [.t 49, .t 51], [3, 5, 3]), (qO 3 (.mov (.t 52)), [6, 6, 0, 1, 2, 3, 4, 5, 6])])))
  (.ops [qO 53 (.bin .add (.t 42) (iC 1)), qO 42 (.mov (.t 53))])))))))
  (.seq (.ops [qO 54 (.mov (.t 3)), qO 55 (.fadr 4 (.t 1)), qO 56 (.load false 1 (.t 55)), qO 57 (.llen (.t 56)), cO 58 148 [.t 57], cO 59 147 [.t 54, .t 58], qO 3 (.mov (.t 59))])
  (.seq (.seq (.ops [qO 60 (.fadr 4 (.t 1)), qO 61 (.load false 1 (.t 60)), qO 62 (.llen (.t 61)), qO 63 (.mov (iC 0))])
  (.block 4 (.loop (.seq (.ops [qO 64 (.bin .lss (.t 63) (.t 62))])
  (.seq (.cond (.t 64) .skip
  (.exit 4))
  (.seq (.block 5 (.seq (.ops [qO 65 (.iadr 3 (.t 61) (.t 63)), qO 66 (.load true 3 (.t 65)), wO 9 (.alloc [(.sc (.string ⟨#[]⟩)), .em, (.sc (.string ⟨#[]⟩))]), nO (.store 3 (.t 9) (.t 66))])
  (.any [(qO 67 (.mov (.t 3)), []), (qO 68 (.fadr 0 (.t 9)), []), (qO 69 (.load false 1 (.t 68)), [1]), (cO 70 147 [.t 67, .t 69], [0, 2]), (qO 71 (.fadr 2 (.t 9)), []), (qO 72 (.load false 1 (.t 71)), [4]), (cO 73 147 [.t 70, .t 72], [3, 5, 3]), (qO 74 (.fadr 1 (.t 9)), []), (qO 75 (.load false 1 (.t 74)), [7]), (cO 76 149 [.t 73, .t 75], [6, 8, 6]), (qO 3 (.mov (.t 76)), [9, 9, 0, 1, 2, 3, 4, 5, 6, 7, 8, 9])])))
  (.ops [qO 77 (.bin .add (.t 63) (iC 1)), qO 63 (.mov (.t 77))])))))))
  (.seq (.ops [qO 78 (.mov (.t 3)), qO 2 (.mov (.t 78))])
  .ret)))))))))
theorem K72 : Kf Tryz.prog Tryz.f72 A72 79 [.mov (.t 2)] := ⟨by kernel_rfl, by kernel_rfl, by kernel_rfl⟩
set_option maxHeartbeats 4000000 in
theorem R72 (j : Job) (h1 : j.acts.length < 4611686018427387904) (h2 : j.ins.length < 4611686018427387904) (h3 : j.envs.length < 4611686018427387904) (h4 : j.deps.length < 4611686018427387904) (jfit : ∀ m ∈ j.deps, m.outs.length < 4611686018427387904) (hb : jw j + j.acts.length + j.ins.length + j.envs.length + j.deps.length + ol j.deps + 100 ≤ 140737488350000) : Ret Tryz.prog 72 [.agg (Job.ty.cs j)] (.own (rows B (jkey j)) (jkey j).length 1) [.un] := by
  have hn := jw_eq j
  have z1 := Yi j.acts.length
  rw [hn] at hb
  have p0 := zh [] j.name
  have p1 := zh (putT [] j.name) (numT j.acts.length)
  simp only [List.length_nil] at p0
  have hk := zev j
  obtain ⟨b0, hb0⟩ : ∃ b, b = putT (putT [] j.name) (numT j.acts.length) := ⟨_, rfl⟩
  rw [← hb0] at hk p1
  obtain ⟨b1, hb1⟩ : ∃ b, b = putL b0 j.acts := ⟨_, rfl⟩
  rw [← hb1] at hk
  have p2 := zaE b1 j.ins
  obtain ⟨b2, hb2⟩ : ∃ b, b = putFl b1 j.ins := ⟨_, rfl⟩
  rw [← hb2] at hk p2
  have p3 := zh b2 (numT j.envs.length)
  obtain ⟨b3, hb3⟩ : ∃ b, b = putT b2 (numT j.envs.length) := ⟨_, rfl⟩
  rw [← hb3] at hk p3
  obtain ⟨b4, hb4⟩ : ∃ b, b = putL b3 (txE j.envs) := ⟨_, rfl⟩
  rw [← hb4] at hk
  have p5 := zh b4 (numT j.deps.length)
  obtain ⟨b5, hb5⟩ : ∃ b, b = putT b4 (numT j.deps.length) := ⟨_, rfl⟩
  rw [← hb5] at hk p5
  have hz2 := fw_sw j.ins
  have y2 := Yi j.ins.length
  have y3 := Yi j.envs.length
  have y4 := Yi j.deps.length
  have r0 := R147 (putT [] j.name) (numT j.acts.length) (by omega)
  rw [← hb0] at r0
  refine Ret.run Tryz.func72 K72 (by simp) rfl rfl 900 ?_
  simp [A72, iniρ, Job.cse]
  refine T.textW 400 [([], []), ([], []), ([12], []), ([], [12]), ([], [12]), ([], [12]), ([], []), ([12, 17], []), ([], [])] mixed (by kernel_rfl) (by kernel_rfl) ?_
  simp [Zb, yb]
  refine Yf.mvE 12 1 rfl (by kernel_rfl) (by simp [za]) (by simp [za, ya]) (R147 [] j.name (by simp only [List.length_nil]; omega)) (B_fl _) (by simp [inst, za, Za]; exact ⟨rfl, rfl⟩) (by rfl) ?_
  simp [Zb, yb]
  refine Yf.ro 0 rfl (by kernel_rfl) (by simp [ya]) (R148 j.acts.length h1) rfl rfl (by rfl) ?_
  simp [Zb, yb]
  refine Yf.mv1 17 12 rfl (by kernel_rfl) (by simp [za]) (by simp [za, Za]) (B_cnt _) (Zd B.fr _) (by simp [za, ya]) r0 (B_fl _) (by simp [inst, za, Za]; exact ⟨rfl, rfl⟩) (by rfl) ?_
  simp [Zb, yb]
  refine T.le (Le.reseat [1, 3, 19, 20, 21] [(1, 1), (17, 60)] (by simp) (by simp [za, yc, Za, menB, Yb]) (by
    intro c hc cs hcs
    simp at hc
    rcases hc with rfl | rfl
    · simp [za, yc, Za] at hcs
      subst hcs
      simp [Job.cse, Yb]
    · simp [za, yc, Za] at hcs
      subst hcs
      exact Ye (Zd B.fr _))) ?_
  refine T.rounds (μ := fun i : List ByteArray × List ByteArray × List Int => i.2.1.length)
    (fun i s => i.1 ++ i.2.1 = j.acts ∧ putL i.2.2 i.2.1 = b1 ∧ i.2.2.length + sw i.2.1 + ((numT j.ins.length).size + 2 + sw (txF j.ins) + ((numT j.envs.length).size + 2) + sw (txE j.envs) + ((numT j.deps.length).size + 2) + sw (txM j.deps) + (j.ins.length + j.envs.length + j.deps.length + ol j.deps + 100)) ≤ 140737488350000 ∧ s.ρ 1 = .ref 1 0 ∧ s.ρ 3 = .sl 60 0 i.2.2.length 1 false ∧ s.ρ 19 = .ro (rows Ty.str.cs j.acts) j.acts.length ∧ s.ρ 20 = .sc (.int .i64 j.acts.length) ∧ s.ρ 21 = .sc (.int .i64 i.1.length) ∧ s.h 1 = some (some (Job.ty.cs j)) ∧ s.h 60 = some (some (rows B i.2.2)) ∧ (∀ c, c ≠ 60 → c ≠ 1 → s.h c = none) ∧ s.n = 79) ([], j.acts, b0) (by simp [za, Job.cse, hb1]; exact ⟨by omega, fun c hc h1 => by rw [findB h1 hc]⟩) ?_
  rintro ⟨pre, rest, cur⟩ ⟨ρ, hh, n⟩ ⟨hx, hE, hw, k1, k3, k19, k20, k21, q1, b60, bf, rfl⟩
  simp only at hx hE hw k1 k3 k19 k20 k21 q1 b60 bf
  refine Zf (n := 400) ?_
  cases rest
  case cons x rest =>
    have hle : pre.length + (rest.length + 1) = j.acts.length := by rw [← hx]; simp
    have hlt : (pre.length : Int) < j.acts.length := by omega
    have hwr : IntKind.i64.wrap ((pre.length : Int) + 1) = pre.length + 1 := Ya (by omega) (by omega)
    have hd := Yd Ty.str.csn pre (x :: rest)
    rw [hx, Zc] at hd
    rw [show pre.length * Ty.str.n = pre.length from Nat.mul_one _] at hd
    have hd : List.drop (pre.length) (rows Ty.str.cs j.acts) = AV.sc (.string x) :: rows Ty.str.cs rest := hd
    rw [sw] at hw
    have c1 := zh cur x
    have f27 := bf 27 (by decide) (by decide)
    simp [k1, k3, k19, k20, k21, hlt, hd]
    refine callK.mv1 27 60 rfl (by kernel_rfl) (by simp [za]) (by simp [za, b60]) (B_cnt _) (Zd B.fr _) (by simp [za, ya]) (R147 cur x (by omega)) (B_fl _) (by simp [inst, za, f27]; exact ⟨rfl, rfl⟩) rfl ?_
    simp [k1, k3, k19, k20, k21, hwr]
    refine ⟨pre ++ [x], rest, by simp, putT cur x, _, (Le.reseat [1, 3, 19, 20, 21] [(1, 1), (27, 60)] (by simp) (by simp [za, yc, Za, menB, Yb, k1, k3, k19, k20, k21, q1]) (by
      intro c hc cs hcs
      simp at hc
      rcases hc with rfl | rfl
      · simp [za, yc, Za, k1, k3, k19, k20, k21, q1] at hcs
        subst hcs
        simp [Job.cse, Yb]
      · simp [za, yc, Za] at hcs
        subst hcs
        exact Ye (Zd B.fr _))), by simpa using hx, hE, by omega, ?_⟩
    simp [za, yc, Za, k1, k3, k19, k20, k21, q1]
    exact fun c hc h1 => by rw [findB h1 hc]
  have hxl : pre.length = j.acts.length := by rw [← hx]; simp
  have hE : cur = b1 := hE
  subst cur
  clear hx
  simp [k1, k3, k19, k20, k21, hxl]
  refine T.on 400 ?_
  have r2 := R149 b1 j.ins h2 (by omega)
  rw [← hb2] at r2
  have r3 := R147 b2 (numT j.envs.length) (by omega)
  rw [← hb3] at r3
  have f32 := bf 32 (by decide) (by decide)
  have f38 := bf 38 (by decide) (by decide)
  simp [k1, k3, q1, b60, Job.cse]
  refine callK.mv1 32 60 rfl (by kernel_rfl) (by simp [za]) (by simp [za, b60]) (B_cnt _) (Zd B.fr _) (by simp [za, zd]) r2 (B_fl _) (by simp [inst, za, f32]; exact ⟨rfl, rfl⟩) rfl ?_
  simp [k1, q1, Job.cse]
  refine callK.ro 0 rfl (by kernel_rfl) (by simp [ya]) (R148 j.envs.length h3) rfl rfl rfl ?_
  simp
  refine callK.mv1 38 32 rfl (by kernel_rfl) (by simp [za]) (by simp [za]) (B_cnt _) (Zd B.fr _) (by simp [za, ya]) r3 (B_fl _) (by simp [inst, za, f38]; exact ⟨rfl, rfl⟩) rfl ?_
  simp [k1, q1, Job.cse]
  refine T.le (Le.reseat [1, 3, 40, 41, 42] [(1, 1), (38, 60)] (by simp) (by simp [za, yc, Za, menB, Yb, k1, q1]) (by
    intro c hc cs hcs
    simp at hc
    rcases hc with rfl | rfl
    · simp [za, yc, Za, k1, q1] at hcs
      subst hcs
      simp [Job.cse, Yb]
    · simp [za, yc, Za] at hcs
      subst hcs
      exact Ye (Zd B.fr _))) ?_
  refine T.rounds (μ := fun i : List Env × List Env × List Int => i.2.1.length)
    (fun i s => i.1 ++ i.2.1 = j.envs ∧ putL i.2.2 (txE i.2.1) = b4 ∧ i.2.2.length + sw (txE i.2.1) + ((numT j.deps.length).size + 2 + sw (txM j.deps) + (j.deps.length + ol j.deps + 100)) ≤ 140737488350000 ∧ s.ρ 1 = .ref 1 0 ∧ s.ρ 3 = .sl 60 0 i.2.2.length 1 false ∧ s.ρ 40 = .ro (rows Env.ty.cs j.envs) j.envs.length ∧ s.ρ 41 = .sc (.int .i64 j.envs.length) ∧ s.ρ 42 = .sc (.int .i64 i.1.length) ∧ s.h 1 = some (some (Job.ty.cs j)) ∧ s.h 60 = some (some (rows B i.2.2)) ∧ (∀ c, c ≠ 60 → c ≠ 1 → s.h c = none) ∧ s.n = 79) ([], j.envs, b3) (by simp [za, Job.cse, k1, q1, hb4]; exact ⟨by omega, fun c hc h1 => by rw [findB h1 hc]⟩) ?_
  rintro ⟨pre, rest, cur⟩ ⟨ρ, hh, n⟩ ⟨hx, hE, hw, k1, k3, k40, k41, k42, q1, b60, bf, rfl⟩
  simp only at hx hE hw k1 k3 k40 k41 k42 q1 b60 bf
  refine Zf (n := 400) ?_
  cases rest
  case cons x rest =>
    have hle : pre.length + (rest.length + 1) = j.envs.length := by rw [← hx]; simp
    have hlt : (pre.length : Int) < j.envs.length := by omega
    have hwr : IntKind.i64.wrap ((pre.length : Int) + 1) = pre.length + 1 := Ya (by omega) (by omega)
    have hd := Yd Env.ty.csn pre (x :: rest)
    rw [hx, Zc] at hd
    have hd : List.drop (pre.length * 2) (rows Env.ty.cs j.envs) = AV.sc (.string x.name) :: AV.sc (.string x.val) :: rows Env.ty.cs rest := hd
    rw [txE, sw, sw] at hw
    rw [txE] at hE
    have c1 := zh cur x.name
    have c2 := zh (putT cur x.name) x.val
    have f7 := bf 7 (by decide) (by decide)
    have f49 := bf 49 (by decide) (by decide)
    have f52 := bf 52 (by decide) (by decide)
    simp [k1, k3, k40, k41, k42, hlt, hd, f7, over]
    refine T.textW 400 [([], []), ([], []), ([], []), ([60, 49], []), ([], [49, 60]), ([], [49, 60]), ([49, 52], []), ([], [])] mixed (by kernel_rfl) (by kernel_rfl) ?_
    simp [k1, k3, k40, k41, k42, Zb, yb]
    refine Yf.mv1 49 60 rfl (by kernel_rfl) (by simp [za]) (by simp [za, Za, b60]) (B_cnt _) (Zd B.fr _) (by simp [za, ya]) (R147 cur x.name (by omega)) (B_fl _) (by simp [inst, za, Za, f49]; exact ⟨rfl, rfl⟩) (by rfl) ?_
    simp [Zb, yb]
    refine Yf.mv1 52 49 rfl (by kernel_rfl) (by simp [za]) (by simp [za, Za]) (B_cnt _) (Zd B.fr _) (by simp [za, ya]) (R147 (putT cur x.name) x.val (by omega)) (B_fl _) (by simp [inst, za, Za, f52]; exact ⟨rfl, rfl⟩) (by rfl) ?_
    simp [k1, k3, k40, k41, k42, hwr, Zb, yb]
    refine ⟨pre ++ [x], rest, by simp, putT (putT cur x.name) x.val, _, (Le.reseat [1, 3, 40, 41, 42] [(1, 1), (52, 60)] (by simp) (by simp [za, yc, Za, menB, Yb, k1, k3, k40, k41, k42, q1]) (by
      intro c hc cs hcs
      simp at hc
      rcases hc with rfl | rfl
      · simp [za, yc, Za, k1, k3, k40, k41, k42, q1] at hcs
        subst hcs
        simp [Job.cse, Yb]
      · simp [za, yc, Za] at hcs
        subst hcs
        exact Ye (Zd B.fr _))), by simpa using hx, hE, by omega, ?_⟩
    simp [za, yc, Za, k1, k3, k40, k41, k42, q1]
    exact fun c hc h1 => by rw [findB h1 hc]
  have hxl : pre.length = j.envs.length := by rw [← hx]; simp
  have hE : cur = b4 := hE
  subst cur
  clear hx
  simp [k1, k3, k40, k41, k42, hxl]
  refine T.on 400 ?_
  have r5 := R147 b4 (numT j.deps.length) (by omega)
  rw [← hb5] at r5
  have f59 := bf 59 (by decide) (by decide)
  simp [k1, k3, q1, b60, Job.cse]
  refine callK.ro 0 rfl (by kernel_rfl) (by simp [ya]) (R148 j.deps.length h4) rfl rfl rfl ?_
  simp
  refine callK.mv1 59 60 rfl (by kernel_rfl) (by simp [za, k3]) (by simp [za, b60]) (B_cnt _) (Zd B.fr _) (by simp [za, ya]) r5 (B_fl _) (by simp [inst, za, f59]; exact ⟨rfl, rfl⟩) rfl ?_
  simp [k1, q1, Job.cse]
  refine T.le (Le.reseat [1, 3, 61, 62, 63] [(1, 1), (59, 60)] (by simp) (by simp [za, yc, Za, menB, Yb, k1, q1]) (by
    intro c hc cs hcs
    simp at hc
    rcases hc with rfl | rfl
    · simp [za, yc, Za, k1, q1] at hcs
      subst hcs
      simp [Job.cse, Yb]
    · simp [za, yc, Za] at hcs
      subst hcs
      exact Ye (Zd B.fr _))) ?_
  refine T.rounds (μ := fun i : List Made × List Made × List Int => i.2.1.length)
    (fun i s => i.1 ++ i.2.1 = j.deps ∧ putL i.2.2 (txM i.2.1) = jkey j ∧ i.2.2.length + sw (txM i.2.1) + (ol i.2.1 + 100) ≤ 140737488350000 ∧ s.ρ 1 = .ref 1 0 ∧ s.ρ 3 = .sl 60 0 i.2.2.length 1 false ∧ s.ρ 61 = .ro (rows Made.ty.cs j.deps) j.deps.length ∧ s.ρ 62 = .sc (.int .i64 j.deps.length) ∧ s.ρ 63 = .sc (.int .i64 i.1.length) ∧ s.h 1 = some (some (Job.ty.cs j)) ∧ s.h 60 = some (some (rows B i.2.2)) ∧ (∀ c, c ≠ 60 → c ≠ 1 → s.h c = none) ∧ s.n = 79) ([], j.deps, b5) (by simp [za, Job.cse, k1, q1, hk]; exact ⟨by omega, fun c hc h1 => by rw [findB h1 hc]⟩) ?_
  rintro ⟨pre, rest, cur⟩ ⟨ρ, hh, n⟩ ⟨hx, hE, hw, k1, k3, k61, k62, k63, q1, b60, bf, rfl⟩
  simp only at hx hE hw k1 k3 k61 k62 k63 q1 b60 bf
  refine Zf (n := 400) ?_
  cases rest
  case cons x rest =>
    have hle : pre.length + (rest.length + 1) = j.deps.length := by rw [← hx]; simp
    have hlt : (pre.length : Int) < j.deps.length := by omega
    have hwr : IntKind.i64.wrap ((pre.length : Int) + 1) = pre.length + 1 := Ya (by omega) (by omega)
    have hd := Yd Made.ty.csn pre (x :: rest)
    rw [hx, Zc] at hd
    have hd : List.drop (pre.length * 3) (rows Made.ty.cs j.deps) = AV.sc (.string x.task) :: .ro (rows File.ty.cs x.outs) x.outs.length :: .sc (.string x.log) :: rows Made.ty.cs rest := hd
    rw [txM, sw, sw, sw, zb4, ol] at hw
    rw [txM] at hE
    have hf := fw_sw x.outs
    have hfl := zdZ x.outs
    have hns := Yi x.outs.length
    have c1 := zh cur x.task
    have c2 := zh (putT cur x.task) x.log
    have c3 := zaE (putT (putT cur x.task) x.log) x.outs
    have hE : putL (putFl (putT (putT cur x.task) x.log) x.outs) (txM rest) = jkey j := by rw [zbH, ← zaD]; exact hE
    have hrest := jfit x (by rw [← hx]; simp)
    have f9 := bf 9 (by decide) (by decide)
    have f70 := bf 70 (by decide) (by decide)
    have f73 := bf 73 (by decide) (by decide)
    have f76 := bf 76 (by decide) (by decide)
    simp [k1, k3, k61, k62, k63, hlt, hd, f9, over]
    refine T.textW 400 [([], []), ([], []), ([], []), ([60, 70], []), ([], [60, 70]), ([], [60, 70]), ([70, 73], []), ([], [60, 70, 73]), ([], [60, 70, 73]), ([73, 76], []), ([], [])] mixed (by kernel_rfl) (by kernel_rfl) ?_
    simp [k1, k3, k61, k62, k63, Zb, yb]
    refine Yf.mv1 70 60 rfl (by kernel_rfl) (by simp [za]) (by simp [za, Za, b60]) (B_cnt _) (Zd B.fr _) (by simp [za, ya]) (R147 cur x.task (by omega)) (B_fl _) (by simp [inst, za, Za, f70]; exact ⟨rfl, rfl⟩) (by rfl) ?_
    simp [Zb, yb]
    refine Yf.mv1 73 70 rfl (by kernel_rfl) (by simp [za]) (by simp [za, Za]) (B_cnt _) (Zd B.fr _) (by simp [za, ya]) (R147 (putT cur x.task) x.log (by omega)) (B_fl _) (by simp [inst, za, Za, f73]; exact ⟨rfl, rfl⟩) (by rfl) ?_
    simp [Zb, yb]
    refine Yf.mv1 76 73 rfl (by kernel_rfl) (by simp [za]) (by simp [za, Za]) (B_cnt _) (Zd B.fr _) (by simp [za, zd]) (R149 (putT (putT cur x.task) x.log) x.outs hrest (by omega)) (B_fl _) (by simp [inst, za, Za, f76]; exact ⟨rfl, rfl⟩) (by rfl) ?_
    simp [k1, k3, k61, k62, k63, hwr, Zb, yb]
    refine ⟨pre ++ [x], rest, by simp, putFl (putT (putT cur x.task) x.log) x.outs, _, (Le.reseat [1, 3, 61, 62, 63] [(1, 1), (76, 60)] (by simp) (by simp [za, yc, Za, menB, Yb, k1, k3, k61, k62, k63, q1]) (by
      intro c hc cs hcs
      simp at hc
      rcases hc with rfl | rfl
      · simp [za, yc, Za, k1, k3, k61, k62, k63, q1] at hcs
        subst hcs
        simp [Job.cse, Yb]
      · simp [za, yc, Za] at hcs
        subst hcs
        exact Ye (Zd B.fr _))), by simpa using hx, hE, by omega, ?_⟩
    simp [za, yc, Za, k1, k3, k61, k62, k63, q1]
    exact fun c hc h1 => by rw [findB h1 hc]
  have hxl : pre.length = j.deps.length := by rw [← hx]; simp
  have hE : cur = jkey j := hE
  subst cur
  clear hx
  simp [k1, k3, k61, k62, k63, hxl]
  refine T.on 400 ?_
  simp [k1, k3, q1, b60, ex1, B.count, Zd B.fr]
def A69 : AC := (.seq (.ops [wO 1 (.box (.t 0)), qO 2 (.mov (.c .em))])
  (.seq (.any [(wO 7 (.bsl 1 0 [] []), []), (qO 8 (.fadr 0 (.t 1)), []), (qO 9 (.load false 1 (.t 8)), [1]), (cO 10 141 [.t 7, .t 9], [0, 2]), (qO 11 (.fadr 1 (.t 1)), []), (qO 12 (.load false 1 (.t 11)), [4]), (qO 13 (.llen (.t 12)), [5]), (cO 14 140 [.t 10, .t 13], [3, 6, 3]), (qO 3 (.mov (.t 14)), [7, 7, 0, 1, 2, 3, 4, 5, 6, 7])])
  (.seq (.seq (.ops [qO 4 (.mov (iC 0))])
  (.block 0 (.loop (.seq (.seq (.ops [qO 15 (.mov (.t 4)), qO 16 (.fadr 1 (.t 1)), qO 17 (.load false 1 (.t 16)), qO 18 (.llen (.t 17)), qO 19 (.bin .lss (.t 15) (.t 18))])
  (.cond (.t 19) .skip
  (.exit 0)))
  (.seq (.block 1 (.ops [qO 22 (.mov (.t 3)), qO 23 (.fadr 1 (.t 1)), qO 24 (.load false 1 (.t 23)), qO 25 (.mov (.t 4)), qO 26 (.iadr 1 (.t 24) (.t 25)), qO 27 (.load false 1 (.t 26)), cO 28 141 [.t 22, .t 27], qO 3 (.mov (.t 28))]))
  (.ops [qO 20 (.mov (.t 4)), qO 21 (.bin .add (.t 20) (iC 1)), qO 4 (.mov (.t 21))]))))))
  (.seq (.any [(qO 29 (.mov (.t 3)), []), (qO 30 (.fadr 2 (.t 1)), []), (qO 31 (.load false 1 (.t 30)), [1]), (cO 32 142 [.t 29, .t 31], [0, 2]), (qO 33 (.fadr 3 (.t 1)), []), (qO 34 (.load false 1 (.t 33)), [4]), (qO 35 (.llen (.t 34)), [5]), (cO 36 140 [.t 32, .t 35], [3, 6, 3]), (qO 3 (.mov (.t 36)), [7, 7, 0, 1, 2, 3, 4, 5, 6, 7])])
  (.seq (.seq (.ops [qO 5 (.mov (iC 0))])
  (.block 2 (.loop (.seq (.seq (.ops [qO 37 (.mov (.t 5)), qO 38 (.fadr 3 (.t 1)), qO 39 (.load false 1 (.t 38)), qO 40 (.llen (.t 39)), qO 41 (.bin .lss (.t 37) (.t 40))])
  (.cond (.t 41) .skip
  (.exit 2)))
  (.seq (.block 3 (.any [(qO 44 (.mov (.t 3)), []), (qO 45 (.fadr 3 (.t 1)), []), (qO 46 (.load false 1 (.t 45)), [1]), (qO 47 (.mov (.t 5)), []), (qO 48 (.iadr 2 (.t 46) (.t 47)), [2, 3]), (qO 49 (.fadr 0 (.t 48)), [4]), (qO 50 (.load false 1 (.t 49)), [5]), (cO 51 141 [.t 44, .t 50], [0, 6]), (qO 52 (.fadr 3 (.t 1)), []), (qO 53 (.load false 1 (.t 52)), [8]), (qO 54 (.mov (.t 5)), []), (qO 55 (.iadr 2 (.t 53) (.t 54)), [9, 10]), (qO 56 (.fadr 1 (.t 55)), [11]), (qO 57 (.load false 1 (.t 56)), [12]), (cO 58 141 [.t 51, .t 57], [7, 13, 7]), (qO 3 (.mov (.t 58)), [14, 14, 0, 1, 2, 3, 4, 5, 6, 7, 8, 9, 10, 11, 12, 13, 14])]))
  (.ops [qO 42 (.mov (.t 5)), qO 43 (.bin .add (.t 42) (iC 1)), qO 5 (.mov (.t 43))]))))))
  (.seq (.ops [qO 59 (.mov (.t 3)), qO 60 (.fadr 4 (.t 1)), qO 61 (.load false 1 (.t 60)), qO 62 (.llen (.t 61)), cO 63 140 [.t 59, .t 62], qO 3 (.mov (.t 63))])
  (.seq (.seq (.ops [qO 6 (.mov (iC 0))])
  (.block 4 (.loop (.seq (.seq (.ops [qO 64 (.mov (.t 6)), qO 65 (.fadr 4 (.t 1)), qO 66 (.load false 1 (.t 65)), qO 67 (.llen (.t 66)), qO 68 (.bin .lss (.t 64) (.t 67))])
  (.cond (.t 68) .skip
  (.exit 4)))
  (.seq (.block 5 (.any [(qO 71 (.mov (.t 3)), []), (qO 72 (.fadr 4 (.t 1)), []), (qO 73 (.load false 1 (.t 72)), [1]), (qO 74 (.mov (.t 6)), []), (qO 75 (.iadr 3 (.t 73) (.t 74)), [2, 3]), (qO 76 (.fadr 0 (.t 75)), [4]), (qO 77 (.load false 1 (.t 76)), [5]), (cO 78 141 [.t 71, .t 77], [0, 6]), (qO 79 (.fadr 4 (.t 1)), []), (qO 80 (.load false 1 (.t 79)), [8]), (qO 81 (.mov (.t 6)), []), (qO 82 (.iadr 3 (.t 80) (.t 81)), [9, 10]), (qO 83 (.fadr 2 (.t 82)), [11]), (qO 84 (.load false 1 (.t 83)), [12]), (cO 85 141 [.t 78, .t 84], [7, 13, 7]), (qO 86 (.fadr 4 (.t 1)), []), (qO 87 (.load false 1 (.t 86)), [15]), (qO 88 (.mov (.t 6)), []), (qO 89 (.iadr 3 (.t 87) (.t 88)), [16, 17]), (qO 90 (.fadr 1 (.t 89)), [18]), (qO 91 (.load false 1 (.t 90)), [19]), (cO 92 142 [.t 85, .t 91], [14, 20, 14]), (qO 3 (.mov (.t 92)), [21, 21, 0, 1, 2, 3, 4, 5, 6, 7, 8, 9, 10, 11, 12, 13, 14, 15, 16, 17, 18, 19, 20, 21])]))
  (.ops [qO 69 (.mov (.t 6)), qO 70 (.bin .add (.t 69) (iC 1)), qO 6 (.mov (.t 70))]))))))
  (.seq (.ops [qO 93 (.mov (.t 3)), qO 2 (.mov (.t 93))])
  .ret))))))))
theorem K69 : Kf Tryz.prog Tryz.f69 A69 94 [.mov (.t 2)] := ⟨by kernel_rfl, by kernel_rfl, by kernel_rfl⟩
set_option maxHeartbeats 4000000 in
theorem R69 (j : Job) (h1 : j.acts.length < 4611686018427387904) (h2 : j.ins.length < 4611686018427387904) (h3 : j.envs.length < 4611686018427387904) (h4 : j.deps.length < 4611686018427387904) (jfit : ∀ m ∈ j.deps, m.outs.length < 4611686018427387904) (hb : jw j + j.acts.length + j.ins.length + j.envs.length + j.deps.length + ol j.deps + 100 ≤ 140737488350000) : Ret Tryz.prog 69 [.agg (Job.ty.cs j)] (.own (rows B (jkey j)) (jkey j).length 1) [.un] := by
  have hn := jw_eq j
  have z1 := Yi j.acts.length
  rw [hn] at hb
  have p0 := zh [] j.name
  have p1 := zh (putT [] j.name) (numT j.acts.length)
  simp only [List.length_nil] at p0
  have hk := zev j
  obtain ⟨b0, hb0⟩ : ∃ b, b = putT (putT [] j.name) (numT j.acts.length) := ⟨_, rfl⟩
  rw [← hb0] at hk p1
  obtain ⟨b1, hb1⟩ : ∃ b, b = putL b0 j.acts := ⟨_, rfl⟩
  rw [← hb1] at hk
  have p2 := zaE b1 j.ins
  obtain ⟨b2, hb2⟩ : ∃ b, b = putFl b1 j.ins := ⟨_, rfl⟩
  rw [← hb2] at hk p2
  have p3 := zh b2 (numT j.envs.length)
  obtain ⟨b3, hb3⟩ : ∃ b, b = putT b2 (numT j.envs.length) := ⟨_, rfl⟩
  rw [← hb3] at hk p3
  obtain ⟨b4, hb4⟩ : ∃ b, b = putL b3 (txE j.envs) := ⟨_, rfl⟩
  rw [← hb4] at hk
  have p5 := zh b4 (numT j.deps.length)
  obtain ⟨b5, hb5⟩ : ∃ b, b = putT b4 (numT j.deps.length) := ⟨_, rfl⟩
  rw [← hb5] at hk p5
  have hz2 := fw_sw j.ins
  have y2 := Yi j.ins.length
  have y3 := Yi j.envs.length
  have y4 := Yi j.deps.length
  have r0 := R140 (putT [] j.name) j.acts.length h1 (by omega)
  rw [← hb0] at r0
  refine Ret.run Tryz.func69 K69 (by simp) rfl rfl 900 ?_
  simp [A69, iniρ, Job.cse]
  refine T.textW 400 [([7], []), ([], [7]), ([], [7]), ([10], []), ([], [7, 10]), ([], [7, 10]), ([], [7, 10]), ([14], []), ([], [])] mixed (by kernel_rfl) (by kernel_rfl) ?_
  simp [Zb, yb]
  refine Yf.ro 10 rfl (by kernel_rfl) (by simp [za, ya, Za, Br0]) (R141 [] j.name (by simp only [List.length_nil]; omega)) (B_fl _) (by simp [inst, za, Za]; exact ⟨rfl, rfl⟩) (by rfl) ?_
  simp [Zb, yb]
  refine Yf.ro 14 rfl (by kernel_rfl) (by simp [za, ya, Za, Br]) r0 (B_fl _) (by simp [inst, za, Za]; exact ⟨rfl, rfl⟩) (by rfl) ?_
  simp [Zb, yb]
  refine T.le (Le.reseat [1, 3, 4] [(1, 1), (14, 60)] (by simp) (by simp [za, yc, Za, menB, Yb]) (by
    intro c hc cs hcs
    simp at hc
    rcases hc with rfl | rfl
    · simp [za, yc, Za] at hcs
      subst hcs
      simp [Job.cse, Yb]
    · simp [za, yc, Za] at hcs
      subst hcs
      exact Ye (Zd B.fr _))) ?_
  refine T.rounds (μ := fun i : List ByteArray × List ByteArray × List Int => i.2.1.length)
    (fun i s => i.1 ++ i.2.1 = j.acts ∧ putL i.2.2 i.2.1 = b1 ∧ i.2.2.length + sw i.2.1 + ((numT j.ins.length).size + 2 + sw (txF j.ins) + ((numT j.envs.length).size + 2) + sw (txE j.envs) + ((numT j.deps.length).size + 2) + sw (txM j.deps) + (j.ins.length + j.envs.length + j.deps.length + ol j.deps + 100)) ≤ 140737488350000 ∧ s.ρ 1 = .ref 1 0 ∧ s.ρ 3 = .sl 60 0 i.2.2.length 1 false ∧ s.ρ 4 = .sc (.int .i64 i.1.length) ∧ s.h 1 = some (some (Job.ty.cs j)) ∧ s.h 60 = some (some (rows B i.2.2)) ∧ (∀ c, c ≠ 60 → c ≠ 1 → s.h c = none) ∧ s.n = 94) ([], j.acts, b0) (by simp [za, Job.cse, hb1]; exact ⟨by omega, fun c hc h1 => by rw [findB h1 hc]⟩) ?_
  rintro ⟨pre, rest, cur⟩ ⟨ρ, hh, n⟩ ⟨hx, hE, hw, k1, k3, k4, q1, b60, bf, rfl⟩
  simp only at hx hE hw k1 k3 k4 q1 b60 bf
  refine Zf (n := 400) ?_
  cases rest
  case cons x rest =>
    have hle : pre.length + (rest.length + 1) = j.acts.length := by rw [← hx]; simp
    have hlt : (pre.length : Int) < j.acts.length := by omega
    have hwr : IntKind.i64.wrap ((pre.length : Int) + 1) = pre.length + 1 := Ya (by omega) (by omega)
    have hd := Yd Ty.str.csn pre (x :: rest)
    rw [hx, Zc] at hd
    rw [show pre.length * Ty.str.n = pre.length from Nat.mul_one _] at hd
    have hd : List.drop (pre.length) (rows Ty.str.cs j.acts) = AV.sc (.string x) :: rows Ty.str.cs rest := hd
    rw [sw] at hw
    have c1 := zh cur x
    have f28 := bf 28 (by decide) (by decide)
    simp [k1, k3, k4, q1, hlt, hd, Job.cse]
    refine callK.ro 28 rfl (by kernel_rfl) (by simp [za, ya, Br, b60]) (R141 cur x (by omega)) (B_fl _) (by simp [inst, za, f28]; exact ⟨rfl, rfl⟩) rfl ?_
    simp [k1, k3, k4, hwr]
    refine ⟨pre ++ [x], rest, by simp, putT cur x, _, (Le.reseat [1, 3, 4] [(1, 1), (28, 60)] (by simp) (by simp [za, yc, Za, menB, Yb, k1, k3, k4, q1, Job.cse]) (by
      intro c hc cs hcs
      simp at hc
      rcases hc with rfl | rfl
      · simp [za, yc, Za, k1, k3, k4, q1, Job.cse] at hcs
        subst hcs
        simp [Job.cse, Yb]
      · simp [za, yc, Za] at hcs
        subst hcs
        exact Ye (Zd B.fr _))), by simpa using hx, hE, by omega, ?_⟩
    simp [za, yc, Za, k1, k3, k4, q1, Job.cse]
    exact fun c hc h1 => by rw [findB h1 hc]
  have hxl : pre.length = j.acts.length := by rw [← hx]; simp
  have hE : cur = b1 := hE
  subst cur
  clear hx
  simp [k1, k3, k4, q1, hxl, Job.cse]
  refine T.on 400 ?_
  have r2 := R142 b1 j.ins h2 (by omega)
  rw [← hb2] at r2
  have r3 := R140 b2 j.envs.length h3 (by omega)
  rw [← hb3] at r3
  have f32 := bf 32 (by decide) (by decide)
  have f36 := bf 36 (by decide) (by decide)
  refine T.textW 400 [([], []), ([], []), ([], []), ([32], []), ([], [32]), ([], [32]), ([], [32]), ([36], []), ([], [])] mixed (by kernel_rfl) (by kernel_rfl) ?_
  simp [k1, k3, q1, b60, Job.cse, Zb, yb]
  refine Yf.ro 32 rfl (by kernel_rfl) (by simp [za, zd, Za, Br, b60, k3]) r2 (B_fl _) (by simp [inst, za, Za, f32]; exact ⟨rfl, rfl⟩) (by rfl) ?_
  simp [k1, q1, Job.cse, Zb, yb]
  refine Yf.ro 36 rfl (by kernel_rfl) (by simp [za, ya, Za, Br]) r3 (B_fl _) (by simp [inst, za, Za, f36]; exact ⟨rfl, rfl⟩) (by rfl) ?_
  simp [k1, q1, Job.cse, Zb, yb]
  refine T.le (Le.reseat [1, 3, 5] [(1, 1), (36, 60)] (by simp) (by simp [za, yc, Za, menB, Yb, k1, q1]) (by
    intro c hc cs hcs
    simp at hc
    rcases hc with rfl | rfl
    · simp [za, yc, Za, k1, q1] at hcs
      subst hcs
      simp [Job.cse, Yb]
    · simp [za, yc, Za] at hcs
      subst hcs
      exact Ye (Zd B.fr _))) ?_
  refine T.rounds (μ := fun i : List Env × List Env × List Int => i.2.1.length)
    (fun i s => i.1 ++ i.2.1 = j.envs ∧ putL i.2.2 (txE i.2.1) = b4 ∧ i.2.2.length + sw (txE i.2.1) + ((numT j.deps.length).size + 2 + sw (txM j.deps) + (j.deps.length + ol j.deps + 100)) ≤ 140737488350000 ∧ s.ρ 1 = .ref 1 0 ∧ s.ρ 3 = .sl 60 0 i.2.2.length 1 false ∧ s.ρ 5 = .sc (.int .i64 i.1.length) ∧ s.h 1 = some (some (Job.ty.cs j)) ∧ s.h 60 = some (some (rows B i.2.2)) ∧ (∀ c, c ≠ 60 → c ≠ 1 → s.h c = none) ∧ s.n = 94) ([], j.envs, b3) (by simp [za, Job.cse, k1, q1, hb4]; exact ⟨by omega, fun c hc h1 => by rw [findB h1 hc]⟩) ?_
  rintro ⟨pre, rest, cur⟩ ⟨ρ, hh, n⟩ ⟨hx, hE, hw, k1, k3, k5, q1, b60, bf, rfl⟩
  simp only at hx hE hw k1 k3 k5 q1 b60 bf
  refine Zf (n := 400) ?_
  cases rest
  case cons x rest =>
    have hle : pre.length + (rest.length + 1) = j.envs.length := by rw [← hx]; simp
    have hlt : (pre.length : Int) < j.envs.length := by omega
    have hwr : IntKind.i64.wrap ((pre.length : Int) + 1) = pre.length + 1 := Ya (by omega) (by omega)
    have hd := Yd Env.ty.csn pre (x :: rest)
    rw [hx, Zc] at hd
    have hd : List.drop (pre.length * 2) (rows Env.ty.cs j.envs) = AV.sc (.string x.name) :: AV.sc (.string x.val) :: rows Env.ty.cs rest := hd
    rw [txE, sw, sw] at hw
    rw [txE] at hE
    have c1 := zh cur x.name
    have c2 := zh (putT cur x.name) x.val
    have hd1 : List.drop (pre.length * 2 + 1) (rows Env.ty.cs j.envs) = AV.sc (.string x.val) :: rows Env.ty.cs rest := by rw [← List.drop_drop, hd]; rfl
    have f51 := bf 51 (by decide) (by decide)
    have f58 := bf 58 (by decide) (by decide)
    simp [k1, k3, k5, q1, hlt, Job.cse]
    refine T.textW 400 [([], []), ([], []), ([], []), ([], []), ([], []), ([], []), ([], []), ([51], []), ([], [51]), ([], [51]), ([], [51]), ([], [51]), ([], [51]), ([], [51]), ([58], []), ([], [])] mixed (by kernel_rfl) (by kernel_rfl) ?_
    simp [k1, k3, k5, q1, hlt, hd, Job.cse, Zb, yb]
    refine Yf.ro 51 rfl (by kernel_rfl) (by simp [za, ya, Za, Br, b60]) (R141 cur x.name (by omega)) (B_fl _) (by simp [inst, za, Za, f51]; exact ⟨rfl, rfl⟩) (by rfl) ?_
    simp [k1, k3, k5, q1, hlt, hd1, Job.cse, Zb, yb]
    refine Yf.ro 58 rfl (by kernel_rfl) (by simp [za, ya, Za, Br]) (R141 (putT cur x.name) x.val (by omega)) (B_fl _) (by simp [inst, za, Za, f58]; exact ⟨rfl, rfl⟩) (by rfl) ?_
    simp [k1, k3, k5, hwr, Zb, yb]
    refine ⟨pre ++ [x], rest, by simp, putT (putT cur x.name) x.val, _, (Le.reseat [1, 3, 5] [(1, 1), (58, 60)] (by simp) (by simp [za, yc, Za, menB, Yb, k1, k3, k5, q1, Job.cse]) (by
      intro c hc cs hcs
      simp at hc
      rcases hc with rfl | rfl
      · simp [za, yc, Za, k1, k3, k5, q1, Job.cse] at hcs
        subst hcs
        simp [Job.cse, Yb]
      · simp [za, yc, Za] at hcs
        subst hcs
        exact Ye (Zd B.fr _))), by simpa using hx, hE, by omega, ?_⟩
    simp [za, yc, Za, k1, k3, k5, q1, Job.cse]
    exact fun c hc h1 => by rw [findB h1 hc]
  have hxl : pre.length = j.envs.length := by rw [← hx]; simp
  have hE : cur = b4 := hE
  subst cur
  clear hx
  simp [k1, k3, k5, q1, hxl, Job.cse]
  refine T.on 400 ?_
  have r5 := R140 b4 j.deps.length h4 (by omega)
  rw [← hb5] at r5
  have f63 := bf 63 (by decide) (by decide)
  simp [k1, k3, q1, Job.cse]
  refine callK.ro 63 rfl (by kernel_rfl) (by simp [za, ya, Br, b60, k3]) r5 (B_fl _) (by simp [inst, za, f63]; exact ⟨rfl, rfl⟩) rfl ?_
  simp [k1, q1, Job.cse]
  refine T.le (Le.reseat [1, 3, 6] [(1, 1), (63, 60)] (by simp) (by simp [za, yc, Za, menB, Yb, k1, q1]) (by
    intro c hc cs hcs
    simp at hc
    rcases hc with rfl | rfl
    · simp [za, yc, Za, k1, q1] at hcs
      subst hcs
      simp [Job.cse, Yb]
    · simp [za, yc, Za] at hcs
      subst hcs
      exact Ye (Zd B.fr _))) ?_
  refine T.rounds (μ := fun i : List Made × List Made × List Int => i.2.1.length)
    (fun i s => i.1 ++ i.2.1 = j.deps ∧ putL i.2.2 (txM i.2.1) = jkey j ∧ i.2.2.length + sw (txM i.2.1) + (ol i.2.1 + 100) ≤ 140737488350000 ∧ s.ρ 1 = .ref 1 0 ∧ s.ρ 3 = .sl 60 0 i.2.2.length 1 false ∧ s.ρ 6 = .sc (.int .i64 i.1.length) ∧ s.h 1 = some (some (Job.ty.cs j)) ∧ s.h 60 = some (some (rows B i.2.2)) ∧ (∀ c, c ≠ 60 → c ≠ 1 → s.h c = none) ∧ s.n = 94) ([], j.deps, b5) (by simp [za, Job.cse, k1, q1, hk]; exact ⟨by omega, fun c hc h1 => by rw [findB h1 hc]⟩) ?_
  rintro ⟨pre, rest, cur⟩ ⟨ρ, hh, n⟩ ⟨hx, hE, hw, k1, k3, k6, q1, b60, bf, rfl⟩
  simp only at hx hE hw k1 k3 k6 q1 b60 bf
  refine Zf (n := 400) ?_
  cases rest
  case cons x rest =>
    have hle : pre.length + (rest.length + 1) = j.deps.length := by rw [← hx]; simp
    have hlt : (pre.length : Int) < j.deps.length := by omega
    have hwr : IntKind.i64.wrap ((pre.length : Int) + 1) = pre.length + 1 := Ya (by omega) (by omega)
    have hd := Yd Made.ty.csn pre (x :: rest)
    rw [hx, Zc] at hd
    have hd : List.drop (pre.length * 3) (rows Made.ty.cs j.deps) = AV.sc (.string x.task) :: .ro (rows File.ty.cs x.outs) x.outs.length :: .sc (.string x.log) :: rows Made.ty.cs rest := hd
    rw [txM, sw, sw, sw, zb4, ol] at hw
    rw [txM] at hE
    have hf := fw_sw x.outs
    have hfl := zdZ x.outs
    have hns := Yi x.outs.length
    have c1 := zh cur x.task
    have c2 := zh (putT cur x.task) x.log
    have c3 := zaE (putT (putT cur x.task) x.log) x.outs
    have hE : putL (putFl (putT (putT cur x.task) x.log) x.outs) (txM rest) = jkey j := by rw [zbH, ← zaD]; exact hE
    have hrest := jfit x (by rw [← hx]; simp)
    have hd1 : List.drop (pre.length * 3 + 1) (rows Made.ty.cs j.deps) = .ro (rows File.ty.cs x.outs) x.outs.length :: .sc (.string x.log) :: rows Made.ty.cs rest := by rw [← List.drop_drop, hd]; rfl
    have hd2 : List.drop (pre.length * 3 + 2) (rows Made.ty.cs j.deps) = .sc (.string x.log) :: rows Made.ty.cs rest := by rw [← List.drop_drop, hd]; rfl
    have f78 := bf 78 (by decide) (by decide)
    have f85 := bf 85 (by decide) (by decide)
    have f92 := bf 92 (by decide) (by decide)
    simp [k1, k3, k6, q1, hlt, Job.cse]
    refine T.textW 400 [([], []), ([], []), ([], []), ([], []), ([], []), ([], []), ([], []), ([78], []), ([], [78]), ([], [78]), ([], [78]), ([], [78]), ([], [78]), ([], [78]), ([85], []), ([], [78, 85]), ([], [78, 85]), ([], [78, 85]), ([], [78, 85]), ([], [78, 85]), ([], [78, 85]), ([92], []), ([], [])] mixed (by kernel_rfl) (by kernel_rfl) ?_
    simp [k1, k3, k6, q1, hlt, hd, Job.cse, Zb, yb]
    refine Yf.ro 78 rfl (by kernel_rfl) (by simp [za, ya, Za, Br, b60]) (R141 cur x.task (by omega)) (B_fl _) (by simp [inst, za, Za, f78]; exact ⟨rfl, rfl⟩) (by rfl) ?_
    simp [k1, k3, k6, q1, hlt, hd2, Job.cse, Zb, yb]
    refine Yf.ro 85 rfl (by kernel_rfl) (by simp [za, ya, Za, Br]) (R141 (putT cur x.task) x.log (by omega)) (B_fl _) (by simp [inst, za, Za, f85]; exact ⟨rfl, rfl⟩) (by rfl) ?_
    simp [k1, k3, k6, q1, hlt, hd1, Job.cse, Zb, yb]
    refine Yf.ro 92 rfl (by kernel_rfl) (by simp [za, zd, Za, Br]) (R142 (putT (putT cur x.task) x.log) x.outs hrest (by omega)) (B_fl _) (by simp [inst, za, Za, f92]; exact ⟨rfl, rfl⟩) (by rfl) ?_
    simp [k1, k3, k6, hwr, Zb, yb]
    refine ⟨pre ++ [x], rest, by simp, putFl (putT (putT cur x.task) x.log) x.outs, _, (Le.reseat [1, 3, 6] [(1, 1), (92, 60)] (by simp) (by simp [za, yc, Za, menB, Yb, k1, k3, k6, q1, Job.cse]) (by
      intro c hc cs hcs
      simp at hc
      rcases hc with rfl | rfl
      · simp [za, yc, Za, k1, k3, k6, q1, Job.cse] at hcs
        subst hcs
        simp [Job.cse, Yb]
      · simp [za, yc, Za] at hcs
        subst hcs
        exact Ye (Zd B.fr _))), by simpa using hx, hE, by omega, ?_⟩
    simp [za, yc, Za, k1, k3, k6, q1, Job.cse]
    exact fun c hc h1 => by rw [findB h1 hc]
  have hxl : pre.length = j.deps.length := by rw [← hx]; simp
  have hE : cur = jkey j := hE
  subst cur
  clear hx
  simp [k1, k3, k6, q1, hxl, Job.cse]
  refine T.on 400 ?_
  simp [k1, k3, q1, b60, ex1, B.count, Zd B.fr]
def A174 : AC := (.seq (.ops [qO 2 (.mov (.c (.sc (.string ⟨#[]⟩))))])
  (.seq (.seq (.ops [qO 4 (.mov (.t 0)), qO 5 (.bin .leq (.t 4) (iC 0))])
  (.cond (.t 5) (.seq (.ops [qO 2 (.mov (.c (.sc (.string ⟨#[109, 48]⟩))))])
  .ret)
  .skip))
  (.seq (.ops [qO 3 (.mov (.c (.sc (.string ⟨#[]⟩))))])
  (.seq (.block 0 (.loop (.seq (.seq (.ops [qO 6 (.mov (.t 0)), qO 7 (.bin .gtr (.t 6) (iC 0))])
  (.cond (.t 7) .skip
  (.exit 0)))
  (.block 1 (.seq (.ops [qO 8 (.mov (.t 0)), qO 9 (.bin .rem (.t 8) (iC 10)), qO 10 (.bin .add (iC 48) (.t 9)), qO 11 (.cvi .u8 (.t 10)), wO 12 (.bsl 1 1 [(.sc (.int .u8 0))] [(0, 1, (.t 11))]), qO 13 (.bstr (.t 12)), qO 14 (.mov (.t 3)), qO 15 (.bin .add (.t 13) (.t 14)), qO 3 (.mov (.t 15))])
  (.ops [qO 16 (.mov (.t 0)), qO 17 (.bin .quo (.t 16) (iC 10)), qO 0 (.mov (.t 17))]))))))
  (.seq (.ops [qO 18 (.mov (.t 3)), qO 19 (.bin .add (.c (.sc (.string ⟨#[109]⟩))) (.t 18)), qO 2 (.mov (.t 19))])
  .ret)))))
theorem K174 : Kf Tryz.prog Tryz.f174 A174 20 [.mov (.t 2)] := ⟨by kernel_rfl, by kernel_rfl, by kernel_rfl⟩
theorem R174 (n : Nat) (h0 : 0 < n) (hn : n < 4611686018427387904) : Ret Tryz.prog 174 [.sc (.int .i64 n)] (.sc (.string (mtext n))) [.un] := by
  have hnp : ¬ ((n : Int) ≤ 0) := by omega
  refine Ret.run Tryz.func174 K174 (by simp) rfl rfl 900 ?_
  simp only [A174, iniρ]
  have hn0 : ¬ n = 0 := by omega
  simp [hnp, hn0]
  have hz0 : (⟨#[]⟩ : ByteArray).size + n ≤ n := by show 0 + n ≤ n; omega
  refine T.rounds (μ := fun i : Nat × Nat × ByteArray => i.1)
    (fun i s => i.2.1 ≤ i.1 ∧ i.2.2.size + i.2.1 ≤ n ∧ mtF i.1 i.2.1 i.2.2 = mtF n n ⟨#[]⟩ ∧ s.ρ 0 = .sc (.int .i64 i.2.1) ∧ s.ρ 3 = .sc (.string i.2.2) ∧ s.h 12 = none ∧ s.n = 20) (n, n, ⟨#[]⟩) (by simp [za, hz0]) ?_
  rintro ⟨k, m, a⟩ ⟨ρ, hh, n'⟩ ⟨hk, hs, hE, h0', h3', f1, rfl⟩
  simp only at hk hs hE h0' h3' f1
  refine Zf (n := 400) ?_
  by_cases h9 : 0 < m
  case neg =>
    have h9' : ¬ ((0 : Int) < m) := by omega
    have hE2 : a = mtF n n ⟨#[]⟩ := by rw [← hE]; cases k <;> simp [mtF, h9]
    have hsz : (⟨#[109]⟩ : ByteArray).size + a.size ≤ 9223372036854775807 := by
      have e : (⟨#[109]⟩ : ByteArray).size = 1 := rfl
      rw [e]; omega
    simp [h0', h9, h9']
    refine T.on 400 ?_
    rw [hE2] at h3' hsz
    simp [h3', hsz, mtext]
  have h9' : (0 : Int) < m := by omega
  obtain ⟨k, rfl⟩ : ∃ k', k = k' + 1 := ⟨k - 1, by omega⟩
  rw [mtF, if_pos h9] at hE
  have hq1 : (m : Int).tdiv 10 = (m : Int) / 10 := rfl
  have hw1 : IntKind.i64.wrap ((m : Int) / 10) = (m : Int) / 10 := Ya (by omega) (by omega)
  have hr2 : (m : Int).tmod 10 = (m : Int) % 10 := rfl
  have hw2 : IntKind.i64.wrap (48 + (m : Int) % 10) = 48 + (m : Int) % 10 := Ya (by omega) (by omega)
  have hsz : (strOfNums [IntKind.u8.wrap (48 + (m : Int) % 10)]).size + a.size ≤ 9223372036854775807 := by
    have := zct ((m : Int) % 10)
    rw [digM] at this
    rw [this]; omega
  simp [h0', h3', h9, h9', f1, over, hq1, hw1, hr2, hw2, zL, num8, hsz]
  refine ⟨k, by omega, m / 10, digM ((m : Int) % 10) ++ a, _, Le.reset [0, 3] [] (by simp [za, menB, Yb]) (by simp), ?_⟩
  simp [za, hE, zct]
  exact ⟨by omega, by omega, rfl⟩
theorem Yw (k : Int) (h0 : 0 < k) (hn : k < 4611686018427387904) : Ret Tryz.prog 174 [.sc (.int .i64 k)] (.sc (.string (mtI k))) [.un] := by
  have r := R174 k.toNat (by omega) (by omega)
  have e : ((k.toNat : Nat) : Int) = k := by omega
  rw [e] at r
  exact r
def File.mark (x : File) (k : Int) : File := ⟨(mtI (k)), (mtI (k + 1))⟩
def File.tot (x : File) : Nat := 1 + 1
theorem File.tote (x : File) : File.tot x = 1 + 1 := rfl
theorem File.totw (x : File) : File.tot x ≤ 3 * (1 + File.ty.wt x) := by
  rw [File.tote, File.wte]; omega
theorem File.tot1 (x : File) : 1 ≤ File.tot x := by rw [File.tote]; all_goals omega
def Need.mark (x : Need) (k : Int) : Need := ⟨(mtI (k)), (mtI (k + 1))⟩
def Need.tot (x : Need) : Nat := 1 + 1
theorem Need.tote (x : Need) : Need.tot x = 1 + 1 := rfl
theorem Need.totw (x : Need) : Need.tot x ≤ 3 * (1 + Need.ty.wt x) := by
  rw [Need.tote, Need.wte]; omega
theorem Need.tot1 (x : Need) : 1 ≤ Need.tot x := by rw [Need.tote]; all_goals omega
def Cmd.mark (x : Cmd) (k : Int) : Cmd := ⟨(mtI (k)), (mkL strMk Zh x.acts (k + 1))⟩
def Cmd.tot (x : Cmd) : Nat := 1 + toL Zh x.acts
theorem Cmd.tote (x : Cmd) : Cmd.tot x = 1 + toL Zh x.acts := rfl
theorem Cmd.totw (x : Cmd) : Cmd.tot x ≤ 3 * (1 + Cmd.ty.wt x) := by
  have w1 := zt ZQ x.acts
  rw [Cmd.tote, Cmd.wte]; omega
theorem Cmd.tot1 (x : Cmd) : 1 ≤ Cmd.tot x := by rw [Cmd.tote]; all_goals omega
def Pack.mark (x : Pack) (k : Int) : Pack := ⟨(mtI (k)), (mkL strMk Zh x.uses (k + 1)), (mkL Need.mark Need.tot x.needs (k + 1 + (toL Zh x.uses : Nat))), (mkL Cmd.mark Cmd.tot x.cmds (k + 1 + (toL Zh x.uses : Nat) + (toL Need.tot x.needs : Nat)))⟩
def Pack.tot (x : Pack) : Nat := 1 + toL Zh x.uses + toL Need.tot x.needs + toL Cmd.tot x.cmds
theorem Pack.tote (x : Pack) : Pack.tot x = 1 + toL Zh x.uses + toL Need.tot x.needs + toL Cmd.tot x.cmds := rfl
theorem Pack.totw (x : Pack) : Pack.tot x ≤ 3 * (1 + Pack.ty.wt x) := by
  have w1 := zt ZQ x.uses
  have w2 := zt Need.totw x.needs
  have w3 := zt Cmd.totw x.cmds
  rw [Pack.tote, Pack.wte]; omega
theorem Pack.tot1 (x : Pack) : 1 ≤ Pack.tot x := by rw [Pack.tote]; all_goals omega
def Env.mark (x : Env) (k : Int) : Env := ⟨(mtI (k)), (mtI (k + 1))⟩
def Env.tot (x : Env) : Nat := 1 + 1
theorem Env.tote (x : Env) : Env.tot x = 1 + 1 := rfl
theorem Env.totw (x : Env) : Env.tot x ≤ 3 * (1 + Env.ty.wt x) := by
  rw [Env.tote, Env.wte]; omega
theorem Env.tot1 (x : Env) : 1 ≤ Env.tot x := by rw [Env.tote]; all_goals omega
def Rule.mark (x : Rule) (k : Int) : Rule := ⟨(mtI (k)), (mkL strMk Zh x.on (k + 1)), (mkL strMk Zh x.ins (k + 1 + (toL Zh x.on : Nat))), (mkL strMk Zh x.envs (k + 1 + (toL Zh x.on : Nat) + (toL Zh x.ins : Nat))), ((k + 1 + (toL Zh x.on : Nat) + (toL Zh x.ins : Nat) + (toL Zh x.envs : Nat)).tmod 3 == 0)⟩
def Rule.tot (x : Rule) : Nat := 1 + toL Zh x.on + toL Zh x.ins + toL Zh x.envs + 1
theorem Rule.tote (x : Rule) : Rule.tot x = 1 + toL Zh x.on + toL Zh x.ins + toL Zh x.envs + 1 := rfl
theorem Rule.totw (x : Rule) : Rule.tot x ≤ 3 * (1 + Rule.ty.wt x) := by
  have w1 := zt ZQ x.on
  have w2 := zt ZQ x.ins
  have w3 := zt ZQ x.envs
  rw [Rule.tote, Rule.wte]; omega
theorem Rule.tot1 (x : Rule) : 1 ≤ Rule.tot x := by rw [Rule.tote]; all_goals omega
def Made.mark (x : Made) (k : Int) : Made := ⟨(mtI (k)), (mkL File.mark File.tot x.outs (k + 1)), (mtI (k + 1 + (toL File.tot x.outs : Nat)))⟩
def Made.tot (x : Made) : Nat := 1 + toL File.tot x.outs + 1
theorem Made.tote (x : Made) : Made.tot x = 1 + toL File.tot x.outs + 1 := rfl
theorem Made.totw (x : Made) : Made.tot x ≤ 3 * (1 + Made.ty.wt x) := by
  have w1 := zt File.totw x.outs
  rw [Made.tote, Made.wte]; omega
theorem Made.tot1 (x : Made) : 1 ≤ Made.tot x := by rw [Made.tote]; all_goals omega
def Mark.mark (x : Mark) (k : Int) : Mark := ⟨(mtI (k)), (k + 1)⟩
def Mark.tot (x : Mark) : Nat := 1 + 1
theorem Mark.tote (x : Mark) : Mark.tot x = 1 + 1 := rfl
theorem Mark.totw (x : Mark) : Mark.tot x ≤ 3 * (1 + Mark.ty.wt x) := by
  rw [Mark.tote, Mark.wte]; omega
theorem Mark.tot1 (x : Mark) : 1 ≤ Mark.tot x := by rw [Mark.tote]; all_goals omega
theorem File.totL : ∀ xs : List File, toL File.tot xs = 2 * xs.length
  | [] => rfl
  | x :: xs => by
    have e : File.tot x = 2 := rfl
    simp only [toL, e, File.totL xs, List.length_cons]; omega
def A95 : AC := (.seq (.ops [qO 4 (.mov (iC 0))])
  (.seq (.seq (.ops [qO 5 (.mov (iC 0))])
  (.block 0 (.loop (.seq (.seq (.ops [qO 6 (.mov (.t 5)), qO 7 (.mov (.t 0)), qO 8 (.llen (.t 7)), qO 9 (.bin .lss (.t 6) (.t 8))])
  (.cond (.t 9) .skip
  (.exit 0)))
  (.seq (.block 1 (.seq (.ops [qO 12 (.mov (.t 0)), qO 13 (.mov (.t 5)), qO 14 (.mov (.t 1)), cO 15 174 [.t 14], qO 16 (.iadr 1 (.t 12) (.t 13)), nO (.store 1 (.t 16) (.t 15))])
  (.ops [qO 17 (.mov (.t 1)), qO 18 (.bin .add (.t 17) (iC 1)), qO 1 (.mov (.t 18))])))
  (.ops [qO 10 (.mov (.t 5)), qO 11 (.bin .add (.t 10) (iC 1)), qO 5 (.mov (.t 11))]))))))
  (.seq (.ops [qO 19 (.mov (.t 1)), qO 4 (.mov (.t 19))])
  .ret)))
theorem K95 : Kf Tryz.prog Tryz.f95 A95 20 [.mov (.t 4)] := ⟨by kernel_rfl, by kernel_rfl, by kernel_rfl⟩
set_option maxHeartbeats 2000000 in
theorem R95 (xs : List (ByteArray)) (k : Int) (hk : 0 < k) (hb : k + (toL Zh xs : Nat) < 4611686018427387904) (hn : xs.length < 4611686018427387904) : MRet Tryz.prog 95 (rows Ty.str.oc xs) xs.length 1 (.sc (.int .i64 k)) (.sc (.int .i64 (k + toL Zh xs))) (rows Ty.str.oc (mkL strMk Zh xs k)) := by
  refine MRet.loop Ty.str strMk Zh (by decide) Tryz.func95 K95 xs k hn ?_
  intro ρ h M R pre x rest q hx hq hM hlt h0' h1' h5' h7' hfr hM' hR'
  have htot : toL Zh xs = toL Zh pre + (Zh x + toL Zh rest) := by rw [← hx, yD]; rfl
  have ht : Zh x = 1 := rfl
  have hM : M.length = pre.length * 1 := hM
  have h0' : ρ 0 = .sl 100000 0 xs.length 1 false := h0'
  have k2 : h 100000 = some (some (M ++ AV.sc (.string x) :: R)) := h7'
  have ho0 : over (M ++ AV.sc (.string x) :: R) (pre.length) [AV.sc (.string (mtI q))] = M ++ AV.sc (.string (mtI q)) :: R := by
    have := Z5 (M := M ++ []) (R := R) (a := AV.sc (.string x)) (x := AV.sc (.string (mtI q))) (k := pre.length) (by simp [hM])
    simpa using this
  have hw0 : IntKind.i64.wrap (q + 1) = q + 1 := Ya (by omega) (by omega)
  have g0 : pre.length + 1 ≤ M.length + (R.length + 1) := by omega
  refine Zf (n := 600) ?_
  simp [h0', h1', h5', k2, hlt, ho0, hw0, g0]
  refine callK.ro 0 rfl (by kernel_rfl) (by simp [ya, za, h1']) (Yw (q) (by omega) (by omega)) rfl rfl rfl ?_
  simp [h0', h1', h5', k2, hlt, ho0, hw0, g0]
  refine ⟨rfl, zbw.pack Ty.str (strMk x q) M R (by simp [za, h0']) ?_ (by simp [za, h5']) (by decide) ?_ ?_⟩
  · simp [za, h1', ht]; all_goals omega
  · show _ = some (some (M ++ (AV.sc (.string (mtI q)) :: R)))
    simp [za, k2]
  · intro i cs len sz hi
    match i with
    | 0 => cases hi
    | i + 1 => cases hi
def A96 : AC := (.seq (.ops [qO 4 (.mov (iC 0))])
  (.seq (.seq (.ops [qO 5 (.mov (iC 0))])
  (.block 0 (.loop (.seq (.seq (.ops [qO 6 (.mov (.t 5)), qO 7 (.mov (.t 0)), qO 8 (.llen (.t 7)), qO 9 (.bin .lss (.t 6) (.t 8))])
  (.cond (.t 9) .skip
  (.exit 0)))
  (.seq (.block 1 (.seq (.ops [qO 12 (.mov (.t 0)), qO 13 (.mov (.t 5)), qO 14 (.mov (.t 1)), cO 15 174 [.t 14], qO 16 (.iadr 2 (.t 12) (.t 13)), qO 17 (.fadr 0 (.t 16)), nO (.store 1 (.t 17) (.t 15))])
  (.seq (.ops [qO 18 (.mov (.t 1)), qO 19 (.bin .add (.t 18) (iC 1)), qO 1 (.mov (.t 19))])
  (.seq (.ops [qO 20 (.mov (.t 0)), qO 21 (.mov (.t 5)), qO 22 (.mov (.t 1)), cO 23 174 [.t 22], qO 24 (.iadr 2 (.t 20) (.t 21)), qO 25 (.fadr 1 (.t 24)), nO (.store 1 (.t 25) (.t 23))])
  (.ops [qO 26 (.mov (.t 1)), qO 27 (.bin .add (.t 26) (iC 1)), qO 1 (.mov (.t 27))])))))
  (.ops [qO 10 (.mov (.t 5)), qO 11 (.bin .add (.t 10) (iC 1)), qO 5 (.mov (.t 11))]))))))
  (.seq (.ops [qO 28 (.mov (.t 1)), qO 4 (.mov (.t 28))])
  .ret)))
theorem K96 : Kf Tryz.prog Tryz.f96 A96 29 [.mov (.t 4)] := ⟨by kernel_rfl, by kernel_rfl, by kernel_rfl⟩
set_option maxHeartbeats 2000000 in
theorem R96 (xs : List (File)) (k : Int) (hk : 0 < k) (hb : k + (toL File.tot xs : Nat) < 4611686018427387904) (hn : xs.length < 4611686018427387904) : MRet Tryz.prog 96 (rows File.ty.oc xs) xs.length 2 (.sc (.int .i64 k)) (.sc (.int .i64 (k + toL File.tot xs))) (rows File.ty.oc (mkL File.mark File.tot xs k)) := by
  refine MRet.loop File.ty File.mark File.tot (by decide) Tryz.func96 K96 xs k hn ?_
  intro ρ h M R pre x rest q hx hq hM hlt h0' h1' h5' h7' hfr hM' hR'
  have htot : toL File.tot xs = toL File.tot pre + (File.tot x + toL File.tot rest) := by rw [← hx, yD]; rfl
  have ht := File.tote x
  have hM : M.length = pre.length * 2 := hM
  have h0' : ρ 0 = .sl 100000 0 xs.length 2 false := h0'
  have k2 : h 100000 = some (some (M ++ AV.sc (.string x.path) :: AV.sc (.string x.text) :: R)) := h7'
  have ho0 : over (M ++ AV.sc (.string x.path) :: AV.sc (.string x.text) :: R) (pre.length * 2) [AV.sc (.string (mtI q))] = M ++ AV.sc (.string (mtI q)) :: AV.sc (.string x.text) :: R := by
    have := Z5 (M := M ++ []) (R := AV.sc (.string x.text) :: R) (a := AV.sc (.string x.path)) (x := AV.sc (.string (mtI q))) (k := pre.length * 2) (by simp [hM])
    simpa using this
  have hw0 : IntKind.i64.wrap (q + 1) = q + 1 := Ya (by omega) (by omega)
  have g0 : pre.length * 2 + 1 ≤ M.length + (R.length + 1 + 1) := by omega
  have ho1 : over (M ++ AV.sc (.string (mtI q)) :: AV.sc (.string x.text) :: R) (pre.length * 2 + 1) [AV.sc (.string (mtI (q + 1)))] = M ++ AV.sc (.string (mtI q)) :: AV.sc (.string (mtI (q + 1))) :: R := by
    have := Z5 (M := M ++ [AV.sc (.string (mtI q))]) (R := R) (a := AV.sc (.string x.text)) (x := AV.sc (.string (mtI (q + 1)))) (k := pre.length * 2 + 1) (by simp [hM])
    simpa using this
  have hw1 : IntKind.i64.wrap (q + 1 + 1) = q + 1 + 1 := Ya (by omega) (by omega)
  have g1 : pre.length * 2 + 1 + 1 ≤ M.length + (R.length + 1 + 1) := by omega
  refine Zf (n := 600) ?_
  simp [h0', h1', h5', k2, hlt, ho0, hw0, g0, ho1, hw1, g1]
  refine callK.ro 0 rfl (by kernel_rfl) (by simp [ya, za, h1']) (Yw (q) (by omega) (by omega)) rfl rfl rfl ?_
  simp [h0', h1', h5', k2, hlt, ho0, hw0, g0, ho1, hw1, g1]
  refine callK.ro 0 rfl (by kernel_rfl) (by simp [ya, za, h1']) (Yw (q + 1) (by omega) (by omega)) rfl rfl rfl ?_
  simp [h0', h1', h5', k2, hlt, ho0, hw0, g0, ho1, hw1, g1]
  refine ⟨rfl, zbw.pack File.ty (File.mark x q) M R (by simp [za, h0']) ?_ (by simp [za, h5']) (by decide) ?_ ?_⟩
  · simp [za, h1', ht]; all_goals omega
  · show _ = some (some (M ++ AV.sc (.string (mtI q)) :: AV.sc (.string (mtI (q + 1))) :: R))
    simp [za, k2, Zu, File.mark]
  · intro i cs len sz hi
    match i with
    | 0 => cases hi
    | 1 => cases hi
    | i + 2 => cases hi
def A100 : AC := (.seq (.ops [qO 4 (.mov (iC 0))])
  (.seq (.seq (.ops [qO 5 (.mov (iC 0))])
  (.block 0 (.loop (.seq (.seq (.ops [qO 6 (.mov (.t 5)), qO 7 (.mov (.t 0)), qO 8 (.llen (.t 7)), qO 9 (.bin .lss (.t 6) (.t 8))])
  (.cond (.t 9) .skip
  (.exit 0)))
  (.seq (.block 1 (.seq (.seq (.any [(qO 12 (.mov (.t 0)), []), (qO 13 (.mov (.t 5)), []), (qO 14 (.iadr 2 (.t 12) (.t 13)), [0, 1]), (qO 15 (.fadr 0 (.t 14)), [2]), (qO 16 (.load false 1 (.t 15)), [3]), (qO 17 (.mov (.t 1)), []), (cO 18 174 [.t 17], [5]), (qO 19 (.bin .neq (.t 16) (.t 18)), [4, 6])])
  (.cond (.t 19) (.seq (.ops [qO 4 (.mov (iC (-1)))])
  .ret)
  .skip))
  (.seq (.ops [qO 20 (.mov (.t 1)), qO 21 (.bin .add (.t 20) (iC 1)), qO 1 (.mov (.t 21))])
  (.seq (.seq (.any [(qO 22 (.mov (.t 0)), []), (qO 23 (.mov (.t 5)), []), (qO 24 (.iadr 2 (.t 22) (.t 23)), [0, 1]), (qO 25 (.fadr 1 (.t 24)), [2]), (qO 26 (.load false 1 (.t 25)), [3]), (qO 27 (.mov (.t 1)), []), (cO 28 174 [.t 27], [5]), (qO 29 (.bin .neq (.t 26) (.t 28)), [4, 6])])
  (.cond (.t 29) (.seq (.ops [qO 4 (.mov (iC (-1)))])
  .ret)
  .skip))
  (.ops [qO 30 (.mov (.t 1)), qO 31 (.bin .add (.t 30) (iC 1)), qO 1 (.mov (.t 31))])))))
  (.ops [qO 10 (.mov (.t 5)), qO 11 (.bin .add (.t 10) (iC 1)), qO 5 (.mov (.t 11))]))))))
  (.seq (.ops [qO 32 (.mov (.t 1)), qO 4 (.mov (.t 32))])
  .ret)))
theorem K100 : Kf Tryz.prog Tryz.f100 A100 33 [.mov (.t 4)] := ⟨by kernel_rfl, by kernel_rfl, by kernel_rfl⟩
set_option maxHeartbeats 2000000 in
theorem R100 (xs : List (File)) (k : Int) (hk : 0 < k) (hb : k + (toL File.tot xs : Nat) < 4611686018427387904) (hn : xs.length < 4611686018427387904) : Ret Tryz.prog 100 [.ro (rows File.ty.cs (mkL File.mark File.tot xs k)) xs.length, .sc (.int .i64 k)] (.sc (.int .i64 (k + toL File.tot xs))) [.un, .un] := by
  refine Ret.heldLoop File.ty File.mark File.tot (by decide) Tryz.func100 K100 xs k hn ?_
  intro ρ ms R pre x rest q Q hx hq hlt h0' h1' h5' hd
  have htot : toL File.tot xs = toL File.tot pre + (File.tot x + toL File.tot rest) := by rw [← hx, yD]; rfl
  have ht := File.tote x
  have hw0 : IntKind.i64.wrap (q + 1) = q + 1 := Ya (by omega) (by omega)
  have hw1 : IntKind.i64.wrap (q + 1 + 1) = q + 1 + 1 := Ya (by omega) (by omega)
  have hd0 : List.drop (pre.length * 2) ms = AV.sc (.string (mtI q)) :: AV.sc (.string (mtI (q + 1))) :: R := by
    have e : List.drop (pre.length * 2) ms = File.ty.cs (File.mark x q) ++ R := hd
    rw [e]
    simp [File.cse, File.mark, Zu]
  have hd1 : List.drop (pre.length * 2 + 1) ms = AV.sc (.string (mtI (q + 1))) :: R := by rw [← List.drop_drop, hd0]; rfl
  refine Zf (n := 600) ?_
  simp [h0', h1', h5', hlt, hw0, hw1, hd0, hd1]
  refine T.text 400 mixed (by kernel_rfl) (by kernel_rfl) ?_
  simp [h0', h1', h5', hlt, hw0, hw1, hd0, hd1]
  refine zad.by rfl (by kernel_rfl) (by simp [ya, za, h1']) (Yw (q) (by omega) (by omega)) ?_
  simp [h0', h1', h5', hlt, hw0, hw1, hd0, hd1]
  refine T.text 400 mixed (by kernel_rfl) (by kernel_rfl) ?_
  simp [h0', h1', h5', hlt, hw0, hw1, hd0, hd1]
  refine zad.by rfl (by kernel_rfl) (by simp [ya, za, h1']) (Yw (q + 1) (by omega) (by omega)) ?_
  simp [h0', h1', h5', hlt, hw0, hw1, hd0, hd1]
  refine ⟨rfl, by simp [za, h0'], ?_, by simp [za, h5'], rfl⟩
  simp [za, h1', ht]
  all_goals omega
def A97 : AC := (.seq (.ops [qO 4 (.mov (iC 0))])
  (.seq (.seq (.ops [qO 5 (.mov (iC 0))])
  (.block 0 (.loop (.seq (.seq (.ops [qO 6 (.mov (.t 5)), qO 7 (.mov (.t 0)), qO 8 (.llen (.t 7)), qO 9 (.bin .lss (.t 6) (.t 8))])
  (.cond (.t 9) .skip
  (.exit 0)))
  (.seq (.block 1 (.seq (.ops [qO 12 (.mov (.t 0)), qO 13 (.mov (.t 5)), qO 14 (.mov (.t 1)), cO 15 174 [.t 14], qO 16 (.iadr 2 (.t 12) (.t 13)), qO 17 (.fadr 0 (.t 16)), nO (.store 1 (.t 17) (.t 15))])
  (.seq (.ops [qO 18 (.mov (.t 1)), qO 19 (.bin .add (.t 18) (iC 1)), qO 1 (.mov (.t 19))])
  (.seq (.ops [qO 20 (.mov (.t 0)), qO 21 (.mov (.t 5)), qO 22 (.mov (.t 1)), cO 23 174 [.t 22], qO 24 (.iadr 2 (.t 20) (.t 21)), qO 25 (.fadr 1 (.t 24)), nO (.store 1 (.t 25) (.t 23))])
  (.ops [qO 26 (.mov (.t 1)), qO 27 (.bin .add (.t 26) (iC 1)), qO 1 (.mov (.t 27))])))))
  (.ops [qO 10 (.mov (.t 5)), qO 11 (.bin .add (.t 10) (iC 1)), qO 5 (.mov (.t 11))]))))))
  (.seq (.ops [qO 28 (.mov (.t 1)), qO 4 (.mov (.t 28))])
  .ret)))
theorem K97 : Kf Tryz.prog Tryz.f97 A97 29 [.mov (.t 4)] := ⟨by kernel_rfl, by kernel_rfl, by kernel_rfl⟩
set_option maxHeartbeats 2000000 in
theorem R97 (xs : List (Env)) (k : Int) (hk : 0 < k) (hb : k + (toL Env.tot xs : Nat) < 4611686018427387904) (hn : xs.length < 4611686018427387904) : MRet Tryz.prog 97 (rows Env.ty.oc xs) xs.length 2 (.sc (.int .i64 k)) (.sc (.int .i64 (k + toL Env.tot xs))) (rows Env.ty.oc (mkL Env.mark Env.tot xs k)) := by
  refine MRet.loop Env.ty Env.mark Env.tot (by decide) Tryz.func97 K97 xs k hn ?_
  intro ρ h M R pre x rest q hx hq hM hlt h0' h1' h5' h7' hfr hM' hR'
  have htot : toL Env.tot xs = toL Env.tot pre + (Env.tot x + toL Env.tot rest) := by rw [← hx, yD]; rfl
  have ht := Env.tote x
  have hM : M.length = pre.length * 2 := hM
  have h0' : ρ 0 = .sl 100000 0 xs.length 2 false := h0'
  have k2 : h 100000 = some (some (M ++ AV.sc (.string x.name) :: AV.sc (.string x.val) :: R)) := h7'
  have ho0 : over (M ++ AV.sc (.string x.name) :: AV.sc (.string x.val) :: R) (pre.length * 2) [AV.sc (.string (mtI q))] = M ++ AV.sc (.string (mtI q)) :: AV.sc (.string x.val) :: R := by
    have := Z5 (M := M ++ []) (R := AV.sc (.string x.val) :: R) (a := AV.sc (.string x.name)) (x := AV.sc (.string (mtI q))) (k := pre.length * 2) (by simp [hM])
    simpa using this
  have hw0 : IntKind.i64.wrap (q + 1) = q + 1 := Ya (by omega) (by omega)
  have g0 : pre.length * 2 + 1 ≤ M.length + (R.length + 1 + 1) := by omega
  have ho1 : over (M ++ AV.sc (.string (mtI q)) :: AV.sc (.string x.val) :: R) (pre.length * 2 + 1) [AV.sc (.string (mtI (q + 1)))] = M ++ AV.sc (.string (mtI q)) :: AV.sc (.string (mtI (q + 1))) :: R := by
    have := Z5 (M := M ++ [AV.sc (.string (mtI q))]) (R := R) (a := AV.sc (.string x.val)) (x := AV.sc (.string (mtI (q + 1)))) (k := pre.length * 2 + 1) (by simp [hM])
    simpa using this
  have hw1 : IntKind.i64.wrap (q + 1 + 1) = q + 1 + 1 := Ya (by omega) (by omega)
  have g1 : pre.length * 2 + 1 + 1 ≤ M.length + (R.length + 1 + 1) := by omega
  refine Zf (n := 600) ?_
  simp [h0', h1', h5', k2, hlt, ho0, hw0, g0, ho1, hw1, g1]
  refine callK.ro 0 rfl (by kernel_rfl) (by simp [ya, za, h1']) (Yw (q) (by omega) (by omega)) rfl rfl rfl ?_
  simp [h0', h1', h5', k2, hlt, ho0, hw0, g0, ho1, hw1, g1]
  refine callK.ro 0 rfl (by kernel_rfl) (by simp [ya, za, h1']) (Yw (q + 1) (by omega) (by omega)) rfl rfl rfl ?_
  simp [h0', h1', h5', k2, hlt, ho0, hw0, g0, ho1, hw1, g1]
  refine ⟨rfl, zbw.pack Env.ty (Env.mark x q) M R (by simp [za, h0']) ?_ (by simp [za, h5']) (by decide) ?_ ?_⟩
  · simp [za, h1', ht]; all_goals omega
  · show _ = some (some (M ++ AV.sc (.string (mtI q)) :: AV.sc (.string (mtI (q + 1))) :: R))
    simp [za, k2, Zu, Env.mark]
  · intro i cs len sz hi
    match i with
    | 0 => cases hi
    | 1 => cases hi
    | i + 2 => cases hi
def A98 : AC := (.seq (.ops [qO 4 (.mov (iC 0))])
  (.seq (.seq (.ops [qO 5 (.mov (iC 0))])
  (.block 0 (.loop (.seq (.seq (.ops [qO 6 (.mov (.t 5)), qO 7 (.mov (.t 0)), qO 8 (.llen (.t 7)), qO 9 (.bin .lss (.t 6) (.t 8))])
  (.cond (.t 9) .skip
  (.exit 0)))
  (.seq (.block 1 (.seq (.ops [qO 12 (.mov (.t 0)), qO 13 (.mov (.t 5)), qO 14 (.mov (.t 1)), cO 15 174 [.t 14], qO 16 (.iadr 3 (.t 12) (.t 13)), qO 17 (.fadr 0 (.t 16)), nO (.store 1 (.t 17) (.t 15))])
  (.seq (.ops [qO 18 (.mov (.t 1)), qO 19 (.bin .add (.t 18) (iC 1)), qO 1 (.mov (.t 19))])
  (.seq (.ops [qO 20 (.mov (.t 0)), qO 21 (.mov (.t 5)), qO 22 (.iadr 3 (.t 20) (.t 21)), qO 23 (.fadr 1 (.t 22)), qO 24 (.load false 1 (.t 23)), qO 25 (.mov (.t 1)), cO 26 96 [.t 24, .t 25], qO 1 (.mov (.t 26))])
  (.seq (.ops [qO 27 (.mov (.t 0)), qO 28 (.mov (.t 5)), qO 29 (.mov (.t 1)), cO 30 174 [.t 29], qO 31 (.iadr 3 (.t 27) (.t 28)), qO 32 (.fadr 2 (.t 31)), nO (.store 1 (.t 32) (.t 30))])
  (.ops [qO 33 (.mov (.t 1)), qO 34 (.bin .add (.t 33) (iC 1)), qO 1 (.mov (.t 34))]))))))
  (.ops [qO 10 (.mov (.t 5)), qO 11 (.bin .add (.t 10) (iC 1)), qO 5 (.mov (.t 11))]))))))
  (.seq (.ops [qO 35 (.mov (.t 1)), qO 4 (.mov (.t 35))])
  .ret)))
theorem K98 : Kf Tryz.prog Tryz.f98 A98 36 [.mov (.t 4)] := ⟨by kernel_rfl, by kernel_rfl, by kernel_rfl⟩
set_option maxHeartbeats 2000000 in
theorem R98 (xs : List (Made)) (k : Int) (hk : 0 < k) (hb : k + (toL Made.tot xs : Nat) < 4611686018427387904) (hn : xs.length < 4611686018427387904) : MRet Tryz.prog 98 (rows Made.ty.oc xs) xs.length 3 (.sc (.int .i64 k)) (.sc (.int .i64 (k + toL Made.tot xs))) (rows Made.ty.oc (mkL Made.mark Made.tot xs k)) := by
  refine MRet.loop Made.ty Made.mark Made.tot (by decide) Tryz.func98 K98 xs k hn ?_
  intro ρ h M R pre x rest q hx hq hM hlt h0' h1' h5' h7' hfr hM' hR'
  have htot : toL Made.tot xs = toL Made.tot pre + (Made.tot x + toL Made.tot rest) := by rw [← hx, yD]; rfl
  have ht := Made.tote x
  have hM : M.length = pre.length * 3 := hM
  have h0' : ρ 0 = .sl 100000 0 xs.length 3 false := h0'
  obtain ⟨h', k1, k2, k4, k3⟩ := Le.openRow (ρ := ρ) (n := _) 100000 R (Made.ty.oc x) 31000 M h h7' (Made.ty.ow x) (fun i hi => hfr _ (by have := hi; rw [Made.ty.ocn] at this; have e : Made.ty.n = 3 := rfl; omega)) (by right; rw [Made.ty.ocn]; decide)
  have k2 : h' 100000 = some (some (M ++ AV.sc (.string x.task) :: AV.sl 31001 0 x.outs.length 2 false :: AV.sc (.string x.log) :: R)) := k2
  have e1 := k4 1 _ _ _ rfl
  rw [show 31000 + 1 = 31001 from rfl] at e1
  refine T.le k1 ?_
  have ho0 : over (M ++ AV.sc (.string x.task) :: AV.sl 31001 0 x.outs.length 2 false :: AV.sc (.string x.log) :: R) (pre.length * 3) [AV.sc (.string (mtI q))] = M ++ AV.sc (.string (mtI q)) :: AV.sl 31001 0 x.outs.length 2 false :: AV.sc (.string x.log) :: R := by
    have := Z5 (M := M ++ []) (R := AV.sl 31001 0 x.outs.length 2 false :: AV.sc (.string x.log) :: R) (a := AV.sc (.string x.task)) (x := AV.sc (.string (mtI q))) (k := pre.length * 3) (by simp [hM])
    simpa using this
  have hw0 : IntKind.i64.wrap (q + 1) = q + 1 := Ya (by omega) (by omega)
  have g0 : pre.length * 3 + 1 ≤ M.length + (R.length + 1 + 1 + 1) := by omega
  have hd1 : List.drop (pre.length * 3 + 1) (M ++ AV.sc (.string (mtI q)) :: AV.sl 31001 0 x.outs.length 2 false :: AV.sc (.string x.log) :: R) = AV.sl 31001 0 x.outs.length 2 false :: AV.sc (.string x.log) :: R := by
    have : List.drop (M ++ [AV.sc (.string (mtI q))]).length ((M ++ [AV.sc (.string (mtI q))]) ++ (AV.sl 31001 0 x.outs.length 2 false :: AV.sc (.string x.log) :: R)) = _ := List.drop_left
    simpa [hM] using this
  have u1 := zb1 File.tot1 x.outs
  have ho2 : over (M ++ AV.sc (.string (mtI q)) :: AV.sl 31001 0 x.outs.length 2 false :: AV.sc (.string x.log) :: R) (pre.length * 3 + 2) [AV.sc (.string (mtI (q + 1 + (toL File.tot x.outs : Nat))))] = M ++ AV.sc (.string (mtI q)) :: AV.sl 31001 0 x.outs.length 2 false :: AV.sc (.string (mtI (q + 1 + (toL File.tot x.outs : Nat)))) :: R := by
    have := Z5 (M := M ++ [AV.sc (.string (mtI q)), AV.sl 31001 0 x.outs.length 2 false]) (R := R) (a := AV.sc (.string x.log)) (x := AV.sc (.string (mtI (q + 1 + (toL File.tot x.outs : Nat))))) (k := pre.length * 3 + 2) (by simp [hM])
    simpa using this
  have hw2 : IntKind.i64.wrap (q + 1 + (toL File.tot x.outs : Nat) + 1) = q + 1 + (toL File.tot x.outs : Nat) + 1 := Ya (by omega) (by omega)
  have g2 : pre.length * 3 + 2 + 1 ≤ M.length + (R.length + 1 + 1 + 1) := by omega
  refine Zf (n := 600) ?_
  simp [h0', h1', h5', k2, hlt, ho0, hw0, g0, hd1, ho2, hw2, g2]
  refine callK.ro 0 rfl (by kernel_rfl) (by simp [ya, za, h1']) (Yw (q) (by omega) (by omega)) rfl rfl rfl ?_
  simp [h0', h1', h5', k2, hlt, ho0, hw0, g0, hd1, ho2, hw2, g2]
  refine callK.io (b := 31001) (len := x.outs.length) (sz := 2) (cs := rows File.ty.oc x.outs) rfl (by kernel_rfl) (by simp [za]) (by simpa [za] using e1) (zb File.ty.ocn _) (File.ty.frL _) (by simp [za, h1']) rfl (R96 x.outs (q + 1) (by omega) (by omega) (by omega)) (Zw File.ty _ _ _ _) (zac File.ty _) rfl ?_
  simp [h0', h1', h5', k2, hlt, ho0, hw0, g0, hd1, ho2, hw2, g2]
  refine callK.ro 0 rfl (by kernel_rfl) (by simp [ya, za, h1']) (Yw (q + 1 + (toL File.tot x.outs : Nat)) (by omega) (by omega)) rfl rfl rfl ?_
  simp [h0', h1', h5', k2, hlt, ho0, hw0, g0, hd1, ho2, hw2, g2]
  refine ⟨rfl, zbw.pack Made.ty (Made.mark x q) M R (by simp [za, h0']) ?_ (by simp [za, h5']) (by decide) ?_ ?_⟩
  · simp [za, h1', ht]; all_goals omega
  · show _ = some (some (M ++ AV.sc (.string (mtI q)) :: AV.sl 31001 0 (mkL File.mark File.tot x.outs (q + 1)).length 2 false :: AV.sc (.string (mtI (q + 1 + (toL File.tot x.outs : Nat)))) :: R))
    simp [za, k2, Zu, Made.mark]
  · intro i cs len sz hi
    match i with
    | 0 => cases hi
    | 1 => cases hi; simp [za, Made.mark]
    | 2 => cases hi
    | i + 3 => cases hi
def A94 : AC := (.seq (.ops [qO 4 (.mov (iC 0))])
  (.seq (.seq (.ops [qO 5 (.mov (iC 0))])
  (.block 0 (.loop (.seq (.seq (.ops [qO 6 (.mov (.t 5)), qO 7 (.mov (.t 0)), qO 8 (.llen (.t 7)), qO 9 (.bin .lss (.t 6) (.t 8))])
  (.cond (.t 9) .skip
  (.exit 0)))
  (.seq (.block 1 (.seq (.ops [qO 12 (.mov (.t 0)), qO 13 (.mov (.t 5)), qO 14 (.mov (.t 1)), qO 15 (.cvi .u8 (.t 14)), qO 16 (.iadr 1 (.t 12) (.t 13)), nO (.store 1 (.t 16) (.t 15))])
  (.ops [qO 17 (.mov (.t 1)), qO 18 (.bin .add (.t 17) (iC 1)), qO 1 (.mov (.t 18))])))
  (.ops [qO 10 (.mov (.t 5)), qO 11 (.bin .add (.t 10) (iC 1)), qO 5 (.mov (.t 11))]))))))
  (.seq (.ops [qO 19 (.mov (.t 1)), qO 4 (.mov (.t 19))])
  .ret)))
theorem K94 : Kf Tryz.prog Tryz.f94 A94 20 [.mov (.t 4)] := ⟨by kernel_rfl, by kernel_rfl, by kernel_rfl⟩
theorem R94 (xs : List Int) (k : Int) (hk : 0 ≤ k) (hb : k + xs.length < 4611686018427387904) : MRet Tryz.prog 94 (rows B xs) xs.length 1 (.sc (.int .i64 k)) (.sc (.int .i64 (k + xs.length))) (rows B (mkB xs.length k)) := by
  constructor
  · intro hpos
    refine Ret.run Tryz.func94 K94 (by simp) rfl rfl 500 ?_
    simp [A94, iniρ]
    refine T.rounds (μ := fun i : List Int × List Int => i.2.length)
      (fun i s => i.1 ++ i.2 = xs ∧ s.ρ 0 = .sl 100000 0 xs.length 1 false ∧ s.ρ 1 = .sc (.int .i64 (k + i.1.length)) ∧ s.ρ 5 = .sc (.int .i64 i.1.length) ∧ s.h 100000 = some (some (rows B (mkB i.1.length k) ++ rows B i.2)) ∧ s.n = 20) ([], xs) (by simp [za, mkB, zf]) ?_
    rintro ⟨pre, rest⟩ ⟨ρ, hh, n⟩ ⟨hx, h0', h1', h5', h7', rfl⟩
    simp only at hx h0' h1' h5' h7'
    refine Zf (n := 400) ?_
    cases rest with
    | nil =>
      simp at hx
      subst hx
      simp [h0', h5']
      refine T.on 400 ?_
      simp [h0', h1', h7', ex1, zf, B.count, Zd B.fr, Ys, hpos, zR]
    | cons x rest =>
      have hle : pre.length + (rest.length + 1) = xs.length := by rw [← hx]; simp
      have hlt : (pre.length : Int) < xs.length := by omega
      have hw : IntKind.i64.wrap ((pre.length : Int) + 1) = pre.length + 1 := Ya (by omega) (by omega)
      have hw1 : IntKind.i64.wrap (k + (pre.length : Int) + 1) = k + pre.length + 1 := Ya (by omega) (by omega)
      have hov : over _ _ [AV.sc (.int .u8 (IntKind.u8.wrap (k + pre.length)))] = _ := ZN B.len B.len (mkB pre.length k) rest x [AV.sc (.int .u8 (IntKind.u8.wrap (k + pre.length)))] rfl
      rw [Nat.mul_one, zR] at hov
      have hle2 : pre.length + 1 ≤ (rows B (mkB pre.length k)).length + (rows B (x :: rest)).length := by rw [zb B.len, zb B.len, zR, List.length_cons]; omega
      simp [h0', h1', h5', h7', hlt, hw, hw1, hle2, hov]
      refine ⟨pre ++ [x], rest, by simp, _, Le.refl _, ?_⟩
      simp [hx, h0', za, zdh, ze, Zc, zf, B]
      omega
  · intro h
    have e : xs = [] := List.length_eq_zero_iff.1 h
    subst e
    refine Ret.run Tryz.func94 K94 (by simp) rfl rfl 500 ?_
    simp [A94, iniρ]
    refine T.rounds (μ := fun i : Nat => i) (fun i s => s.ρ 0 = .ro [] 0 ∧ s.ρ 1 = .sc (.int .i64 k) ∧ s.ρ 5 = .sc (.int .i64 0) ∧ s.n = 20) 0 (by simp [za]) ?_
    rintro i ⟨ρ, hh, n⟩ ⟨h0', h1', h5', rfl⟩
    simp only at h0' h1' h5'
    refine Zf (n := 400) ?_
    simp [h0', h5']
    refine T.on 400 ?_
    simp [h1']
def A99 : AC := (.seq (.ops [qO 4 (.mov (iC 0))])
  (.seq (.seq (.ops [qO 5 (.mov (iC 0))])
  (.block 0 (.loop (.seq (.seq (.ops [qO 6 (.mov (.t 5)), qO 7 (.mov (.t 0)), qO 8 (.llen (.t 7)), qO 9 (.bin .lss (.t 6) (.t 8))])
  (.cond (.t 9) .skip
  (.exit 0)))
  (.seq (.block 1 (.seq (.seq (.ops [qO 12 (.mov (.t 0)), qO 13 (.mov (.t 5)), qO 14 (.iadr 1 (.t 12) (.t 13)), qO 15 (.load false 1 (.t 14)), qO 16 (.mov (.t 1)), qO 17 (.cvi .u8 (.t 16)), qO 18 (.bin .neq (.t 15) (.t 17))])
  (.cond (.t 18) (.seq (.ops [qO 4 (.mov (iC (-1)))])
  .ret)
  .skip))
  (.ops [qO 19 (.mov (.t 1)), qO 20 (.bin .add (.t 19) (iC 1)), qO 1 (.mov (.t 20))])))
  (.ops [qO 10 (.mov (.t 5)), qO 11 (.bin .add (.t 10) (iC 1)), qO 5 (.mov (.t 11))]))))))
  (.seq (.ops [qO 21 (.mov (.t 1)), qO 4 (.mov (.t 21))])
  .ret)))
theorem K99 : Kf Tryz.prog Tryz.f99 A99 22 [.mov (.t 4)] := ⟨by kernel_rfl, by kernel_rfl, by kernel_rfl⟩
theorem R99 (m : Nat) (k : Int) (hk : 0 ≤ k) (hb : k + m < 4611686018427387904) : Ret Tryz.prog 99 [.ro (rows B (mkB m k)) m, .sc (.int .i64 k)] (.sc (.int .i64 (k + m))) [.un, .un] := by
  refine Ret.run Tryz.func99 K99 (by simp) rfl rfl 500 ?_
  simp [A99, iniρ]
  refine T.rounds (μ := fun i : Nat × Nat => i.2)
    (fun i s => i.1 + i.2 = m ∧ s.ρ 0 = .ro (rows B (mkB m k)) m ∧ s.ρ 1 = .sc (.int .i64 (k + i.1)) ∧ s.ρ 5 = .sc (.int .i64 i.1) ∧ s.n = 22) (0, m) (by simp [za]) ?_
  rintro ⟨pre, rest⟩ ⟨ρ, hh, n⟩ ⟨hx, h0', h1', h5', rfl⟩
  simp only at hx h0' h1' h5'
  refine Zf (n := 400) ?_
  cases rest with
  | zero =>
    simp at hx
    subst hx
    simp [h0', h5']
    refine T.on 400 ?_
    simp [h1']
  | succ rest =>
    have hlt : (pre : Int) < m := by omega
    have hd : List.drop pre (rows B (mkB m k)) = AV.sc (.int .u8 (IntKind.u8.wrap (k + pre))) :: rows B (mkB rest (k + pre + 1)) := by
      have e := zeo pre (rest + 1) k
      rw [hx] at e
      have h := Yd B.len (mkB pre k) (mkB (rest + 1) (k + pre))
      rw [Nat.mul_one, zR] at h
      rw [e, h]; rfl
    have hw : IntKind.i64.wrap ((pre : Int) + 1) = pre + 1 := Ya (by omega) (by omega)
    have hw1 : IntKind.i64.wrap (k + (pre : Int) + 1) = k + pre + 1 := Ya (by omega) (by omega)
    simp [h0', h1', h5', hlt, hd, hw, hw1]
    refine ⟨pre + 1, rest, by omega, _, Le.refl _, ?_⟩
    simp [h0', za]
    omega
def Slot.mark (x : Slot) (k : Int) : Slot := ⟨mkB x.key.length k, mkB x.b.length (k + x.key.length)⟩
def Slot.tot (x : Slot) : Nat := x.key.length + x.b.length
theorem Slot.ow2 (x : Slot) {i : Nat} {cs : List AV} {len sz : Nat} (h : (Slot.ty.oc x)[i]? = some (.own cs len sz)) : (i = 0 ∧ cs = rows B x.key ∧ len = x.key.length ∧ sz = 1) ∨ (i = 1 ∧ cs = rows B x.b ∧ len = x.b.length ∧ sz = 1) := by
  rw [Slot.oce] at h
  match i with
  | 0 => left; simp at h; exact ⟨rfl, h.1.symm, h.2.1.symm, h.2.2.symm⟩
  | 1 => right; simp at h; exact ⟨rfl, h.1.symm, h.2.1.symm, h.2.2.symm⟩
  | i + 2 => simp at h
def A32 : AC := (.seq (.ops [qO 4 (.mov (iC 0))])
  (.seq (.seq (.ops [qO 5 (.mov (iC 0))])
  (.block 0 (.loop (.seq (.seq (.ops [qO 6 (.mov (.t 5)), qO 7 (.mov (.t 0)), qO 8 (.llen (.t 7)), qO 9 (.bin .lss (.t 6) (.t 8))])
  (.cond (.t 9) .skip
  (.exit 0)))
  (.seq (.block 1 (.seq (.ops [qO 12 (.mov (.t 0)), qO 13 (.mov (.t 5)), qO 14 (.iadr 2 (.t 12) (.t 13)), qO 15 (.fadr 0 (.t 14)), qO 16 (.load false 1 (.t 15)), qO 17 (.mov (.t 1)), cO 18 94 [.t 16, .t 17], qO 1 (.mov (.t 18))])
  (.ops [qO 19 (.mov (.t 0)), qO 20 (.mov (.t 5)), qO 21 (.iadr 2 (.t 19) (.t 20)), qO 22 (.fadr 1 (.t 21)), qO 23 (.load false 1 (.t 22)), qO 24 (.mov (.t 1)), cO 25 94 [.t 23, .t 24], qO 1 (.mov (.t 25))])))
  (.ops [qO 10 (.mov (.t 5)), qO 11 (.bin .add (.t 10) (iC 1)), qO 5 (.mov (.t 11))]))))))
  (.seq (.ops [qO 26 (.mov (.t 1)), qO 4 (.mov (.t 26))])
  .ret)))
theorem K32 : Kf Tryz.prog Tryz.f32 A32 27 [.mov (.t 4)] := ⟨by kernel_rfl, by kernel_rfl, by kernel_rfl⟩
theorem R32 (xs : List Slot) (k : Int) (hk : 0 ≤ k) (hb : k + toL Slot.tot xs < 4611686018427387904) (hn : xs.length < 4611686018427387904) : MRet Tryz.prog 32 (rows Slot.ty.oc xs) xs.length 2 (.sc (.int .i64 k)) (.sc (.int .i64 (k + toL Slot.tot xs))) (rows Slot.ty.oc (mkL Slot.mark Slot.tot xs k)) := by
  constructor
  · intro hpos
    refine Ret.run Tryz.func32 K32 (by simp) rfl rfl 500 ?_
    simp [A32, iniρ]
    refine T.rounds (μ := fun i : List Slot × List Slot => i.2.length)
      (fun i s => i.1 ++ i.2 = xs ∧ s.ρ 0 = .sl 100000 0 xs.length 2 false ∧ s.ρ 1 = .sc (.int .i64 (k + toL Slot.tot i.1)) ∧ s.ρ 5 = .sc (.int .i64 i.1.length) ∧ s.h 100000 = some (some (rows Slot.ty.oc (mkL Slot.mark Slot.tot i.1 k) ++ rows Slot.ty.oc i.2)) ∧ s.h 31000 = none ∧ s.h 31001 = none ∧ s.n = 27) ([], xs) (by simp [za, mkL, toL, zf]) ?_
    rintro ⟨pre, rest⟩ ⟨ρ, hh, n⟩ ⟨hx, h0', h1', h5', h7', hf0, hf1, rfl⟩
    simp only at hx h0' h1' h5' h7' hf0 hf1
    cases rest with
    | nil =>
      refine Zf (n := 400) ?_
      simp at hx
      subst hx
      simp [h0', h5']
      refine T.on 400 ?_
      simp [h0', h1', h7', ex1, zf, Slot.ocl, Slot.frL, Ys, hpos, Zu]
    | cons x rest =>
      have hle : pre.length + (rest.length + 1) = xs.length := by rw [← hx]; simp
      have hlt : (pre.length : Int) < xs.length := by omega
      have hw : IntKind.i64.wrap ((pre.length : Int) + 1) = pre.length + 1 := Ya (by omega) (by omega)
      have htot : toL Slot.tot xs = toL Slot.tot pre + (x.key.length + x.b.length + toL Slot.tot rest) := by rw [← hx, yD]; rfl
      obtain ⟨h', k1, k2, k4, k3⟩ := Le.openRow (ρ := ρ) (n := 27) 100000 (rows Slot.ty.oc rest) (Slot.ty.oc x) 31000 (rows Slot.ty.oc (mkL Slot.mark Slot.tot pre k)) hh (by rw [h7', Zc]) (Slot.ty.ow x)
        (fun i hi => by
          rw [Slot.oce] at hi
          match i with
          | 0 => exact hf0
          | 1 => exact hf1
          | i + 2 => simp at hi; omega) (by right; rw [Slot.oce]; simp)
      have e0 := k4 0 _ _ _ (by rw [Slot.oce]; rfl)
      have e1 := k4 1 _ _ _ (by rw [Slot.oce]; rfl)
      simp only [Nat.add_zero] at e0
      have e0 : h' 31000 = some (some (rows B x.key)) := e0
      have e1 : h' 31001 = some (some (rows B x.b)) := e1
      have hl := Slot.ocl (mkL Slot.mark Slot.tot pre k)
      rw [Zu] at hl
      rw [Slot.oce] at k2
      have k2 : h' 100000 = some (some (rows Slot.ty.oc (mkL Slot.mark Slot.tot pre k) ++ AV.sl 31000 0 x.key.length 1 false :: AV.sl 31001 0 x.b.length 1 false :: rows Slot.ty.oc rest)) := k2
      have hd0 : List.drop (pre.length * 2) (rows Slot.ty.oc (mkL Slot.mark Slot.tot pre k) ++ AV.sl 31000 0 x.key.length 1 false :: AV.sl 31001 0 x.b.length 1 false :: rows Slot.ty.oc rest) = AV.sl 31000 0 x.key.length 1 false :: AV.sl 31001 0 x.b.length 1 false :: rows Slot.ty.oc rest := by
        rw [← hl, List.drop_left]
      have hd1 : List.drop (pre.length * 2 + 1) (rows Slot.ty.oc (mkL Slot.mark Slot.tot pre k) ++ AV.sl 31000 0 x.key.length 1 false :: AV.sl 31001 0 x.b.length 1 false :: rows Slot.ty.oc rest) = AV.sl 31001 0 x.b.length 1 false :: rows Slot.ty.oc rest := by
        rw [← List.drop_drop, hd0]; rfl
      refine T.le k1 ?_
      refine Zf (n := 400) ?_
      simp [h0', h1', h5', k2, hlt, hd0, hd1]
      refine callK.io (b := 31000) (len := x.key.length) (sz := 1) (cs := rows B x.key) rfl (by kernel_rfl) (by simp [za]) (by exact e0) (by simp [B.count]) (Zd B.fr _) (by simp [za, h1']) rfl (R94 x.key (k + toL Slot.tot pre) (by omega) (by omega)) (by simp [B.count, zR]) (zab B.fl _) rfl ?_
      simp [h0', h5', k2, hd0, hd1, hlt]
      refine callK.io (b := 31001) (len := x.b.length) (sz := 1) (cs := rows B x.b) rfl (by kernel_rfl) (by simp [za]) (by simpa [za] using e1) (by simp [B.count]) (Zd B.fr _) (by simp [za]) rfl (R94 x.b (k + toL Slot.tot pre + x.key.length) (by omega) (by omega)) (by simp [B.count, zR]) (zab B.fl _) rfl ?_
      simp [h0', h5', hw]
      refine ⟨pre ++ [x], rest, by simp, ?_⟩
      obtain ⟨h2, m1, m2, m3⟩ := Le.rowPack 100000 (rows Slot.ty.oc rest) (Slot.ty.oc (x.mark (k + toL Slot.tot pre))) 31000 (rows Slot.ty.oc (mkL Slot.mark Slot.tot pre k)) (upd (upd h' 31000 (some (some (rows B (mkB x.key.length (k + toL Slot.tot pre)))))) 31001 (some (some (rows B (mkB x.b.length (k + toL Slot.tot pre + x.key.length))))))
        (by simp [za, k2, Slot.oce, ysOf, Slot.mark, zR]) (Slot.ty.ow _) (fun i cs len sz hi => by
          rcases Slot.ow2 _ hi with ⟨rfl, rfl, rfl, rfl⟩ | ⟨rfl, rfl, rfl, rfl⟩
          · simp [za, Slot.mark]
          · simp [za, Slot.mark]) (by right; rw [Slot.oce]; simp)
      refine ⟨_, Le.trans (m1 _ _) (Le.reset [0, 1, 5] [100000] ?_ ?_), ?_⟩
      · simp [za, menB, Yb, h0']
      · intro b hb cs hcs
        simp at hb
        subst hb
        simp [m2] at hcs
        subst hcs
        intro y hy
        rcases List.mem_append.1 hy with hy | hy
        · exact Yj (fun x c hc => (Slot.ty.ow x c hc).fr) _ y hy
        · rcases List.mem_append.1 hy with hy | hy
          · exact (Slot.ty.ow _ y hy).fr
          · exact Yj (fun x c hc => (Slot.ty.ow x c hc).fr) _ y hy
      · simp [hx, za, h0', m2, zaY, yD, mkL, toL, ze, Zc, zf, Slot.tot]
        omega
  · intro h
    have e : xs = [] := List.length_eq_zero_iff.1 h
    subst e
    refine Ret.run Tryz.func32 K32 (by simp) rfl rfl 500 ?_
    simp [A32, iniρ]
    refine T.rounds (μ := fun i : Nat => i) (fun i s => s.ρ 0 = .ro [] 0 ∧ s.ρ 1 = .sc (.int .i64 k) ∧ s.ρ 5 = .sc (.int .i64 0) ∧ s.n = 27) 0 (by simp [za]) ?_
    rintro i ⟨ρ, hh, n⟩ ⟨h0', h1', h5', rfl⟩
    simp only at h0' h1' h5'
    refine Zf (n := 400) ?_
    simp [h0', h5']
    refine T.on 400 ?_
    simp [h1', toL]
def A35 : AC := (.seq (.ops [qO 4 (.mov (iC 0))])
  (.seq (.seq (.ops [qO 5 (.mov (iC 0))])
  (.block 0 (.loop (.seq (.seq (.ops [qO 6 (.mov (.t 5)), qO 7 (.mov (.t 0)), qO 8 (.llen (.t 7)), qO 9 (.bin .lss (.t 6) (.t 8))])
  (.cond (.t 9) .skip
  (.exit 0)))
  (.seq (.block 1 (.seq (.ops [qO 12 (.mov (.t 0)), qO 13 (.mov (.t 5)), qO 14 (.iadr 2 (.t 12) (.t 13)), qO 15 (.fadr 0 (.t 14)), qO 16 (.load false 1 (.t 15)), qO 17 (.mov (.t 1)), cO 18 99 [.t 16, .t 17], qO 1 (.mov (.t 18))])
  (.seq (.seq (.ops [qO 19 (.mov (.t 1)), qO 20 (.bin .lss (.t 19) (iC 0))])
  (.cond (.t 20) (.seq (.ops [qO 4 (.mov (iC (-1)))])
  .ret)
  .skip))
  (.seq (.ops [qO 21 (.mov (.t 0)), qO 22 (.mov (.t 5)), qO 23 (.iadr 2 (.t 21) (.t 22)), qO 24 (.fadr 1 (.t 23)), qO 25 (.load false 1 (.t 24)), qO 26 (.mov (.t 1)), cO 27 99 [.t 25, .t 26], qO 1 (.mov (.t 27))])
  (.seq (.ops [qO 28 (.mov (.t 1)), qO 29 (.bin .lss (.t 28) (iC 0))])
  (.cond (.t 29) (.seq (.ops [qO 4 (.mov (iC (-1)))])
  .ret)
  .skip))))))
  (.ops [qO 10 (.mov (.t 5)), qO 11 (.bin .add (.t 10) (iC 1)), qO 5 (.mov (.t 11))]))))))
  (.seq (.ops [qO 30 (.mov (.t 1)), qO 4 (.mov (.t 30))])
  .ret)))
theorem K35 : Kf Tryz.prog Tryz.f35 A35 31 [.mov (.t 4)] := ⟨by kernel_rfl, by kernel_rfl, by kernel_rfl⟩
theorem R35 (xs : List Slot) (k : Int) (hk : 0 ≤ k) (hb : k + toL Slot.tot xs < 4611686018427387904) (hn : xs.length < 4611686018427387904) : Ret Tryz.prog 35 [.ro (rows Slot.ty.cs (mkL Slot.mark Slot.tot xs k)) (mkL Slot.mark Slot.tot xs k).length, .sc (.int .i64 k)] (.sc (.int .i64 (k + toL Slot.tot xs))) [.un, .un] := by
  rw [Zu]
  refine Ret.run Tryz.func35 K35 (by simp) rfl rfl 500 ?_
  simp [A35, iniρ]
  obtain ⟨ms, hms⟩ : ∃ ms, ms = mkL Slot.mark Slot.tot xs k := ⟨_, rfl⟩
  rw [← hms]
  refine T.rounds (μ := fun i : List Slot × List Slot => i.2.length)
    (fun i s => i.1 ++ i.2 = xs ∧ s.ρ 0 = .ro (rows Slot.ty.cs ms) xs.length ∧ s.ρ 1 = .sc (.int .i64 (k + toL Slot.tot i.1)) ∧ s.ρ 5 = .sc (.int .i64 i.1.length) ∧ s.h = h0 ∧ s.n = 31) ([], xs) (by simp [za, toL]) ?_
  rintro ⟨pre, rest⟩ ⟨ρ, hh, n⟩ ⟨hx, h0', h1', h5', rfl, rfl⟩
  simp only at hx h0' h1' h5'
  refine Zf (n := 400) ?_
  cases rest with
  | nil =>
    simp at hx
    subst hx
    simp [h0', h5']
    refine T.on 400 ?_
    simp [h1']
  | cons x rest =>
    have hle : pre.length + (rest.length + 1) = xs.length := by rw [← hx]; simp
    have hlt : (pre.length : Int) < xs.length := by omega
    have hw : IntKind.i64.wrap ((pre.length : Int) + 1) = pre.length + 1 := Ya (by omega) (by omega)
    have htot : toL Slot.tot xs = toL Slot.tot pre + (x.key.length + x.b.length + toL Slot.tot rest) := by rw [← hx, yD]; rfl
    have hd0 : List.drop (pre.length * 2) (rows Slot.ty.cs ms) = AV.ro (rows B (mkB x.key.length (k + toL Slot.tot pre))) x.key.length :: AV.ro (rows B (mkB x.b.length (k + toL Slot.tot pre + x.key.length))) x.b.length :: rows Slot.ty.cs (mkL Slot.mark Slot.tot rest (k + toL Slot.tot pre + Slot.tot x)) := by
      have e := Yd Slot.ty.csn (mkL Slot.mark Slot.tot pre k) (mkL Slot.mark Slot.tot (x :: rest) (k + toL Slot.tot pre))
      rw [← zaY, hx, Zu, ← hms] at e
      have e : List.drop (pre.length * 2) (rows Slot.ty.cs ms) = _ := e
      rw [e, mkL, Zc, Slot.cse]
      simp only [Slot.mark, zR]
      rfl
    have hd1 : List.drop (pre.length * 2 + 1) (rows Slot.ty.cs ms) = AV.ro (rows B (mkB x.b.length (k + toL Slot.tot pre + x.key.length))) x.b.length :: rows Slot.ty.cs (mkL Slot.mark Slot.tot rest (k + toL Slot.tot pre + Slot.tot x)) := by
      rw [← List.drop_drop, hd0]; rfl
    have p1 : ¬ (k + (toL Slot.tot pre : Int) + x.key.length < 0) := by omega
    have p2 : ¬ (k + (toL Slot.tot pre : Int) + x.key.length + x.b.length < 0) := by omega
    simp [h0', h1', h5', hlt, hd0]
    refine callK.ro 0 rfl (by kernel_rfl) (by simp [zd, ya, h1']) (R99 x.key.length (k + toL Slot.tot pre) (by omega) (by omega)) rfl rfl rfl ?_
    simp [h0', h5', hlt, hd1, p1]
    refine callK.ro 0 rfl (by kernel_rfl) (by simp [zd, ya]) (R99 x.b.length (k + toL Slot.tot pre + x.key.length) (by omega) (by omega)) rfl rfl rfl ?_
    simp [h0', h5', hw, p2]
    refine ⟨pre ++ [x], rest, by simp, _, Le.refl _, ?_⟩
    simp [hx, za, h0', yD, toL, Slot.tot]
    omega
theorem Slot.totw (x : Slot) : Slot.tot x ≤ 3 * (1 + Slot.ty.wt x) := by
  rw [Slot.wte]; unfold Slot.tot; omega
def Plan.stot (x : Plan) : Nat := toL Zh x.tasks + toL zbA x.deps
theorem Plan.stote (x : Plan) : Plan.stot x = toL Zh x.tasks + toL zbA x.deps := rfl
theorem Plan.stotw (x : Plan) : Plan.stot x ≤ 3 * Plan.ty.wt x := by
  have w0 := zt ZQ x.tasks
  have w1 := zt zfa x.deps
  rw [Plan.stote, Plan.wte]; omega
def World.stot (x : World) : Nat := toL Pack.tot x.packs + toL Rule.tot x.rules + toL File.tot x.files + toL Env.tot x.envs
theorem World.stote (x : World) : World.stot x = toL Pack.tot x.packs + toL Rule.tot x.rules + toL File.tot x.files + toL Env.tot x.envs := rfl
theorem World.stotw (x : World) : World.stot x ≤ 3 * World.ty.wt x := by
  have w0 := zt Pack.totw x.packs
  have w1 := zt Rule.totw x.rules
  have w2 := zt File.totw x.files
  have w3 := zt Env.totw x.envs
  rw [World.stote, World.wte]; omega
def Job.stot (x : Job) : Nat := toL Zh x.acts + toL File.tot x.ins + toL Env.tot x.envs + toL Made.tot x.deps
theorem Job.stote (x : Job) : Job.stot x = toL Zh x.acts + toL File.tot x.ins + toL Env.tot x.envs + toL Made.tot x.deps := rfl
theorem Job.stotw (x : Job) : Job.stot x ≤ 3 * Job.ty.wt x := by
  have w1 := zt ZQ x.acts
  have w2 := zt File.totw x.ins
  have w3 := zt Env.totw x.envs
  have w4 := zt Made.totw x.deps
  rw [Job.stote, Job.wte]; omega
def Run.stot (x : Run) : Nat := World.stot x.w + Plan.stot x.p + toL Made.tot x.made + toL Mark.tot x.marks + toL Zh x.going + toL Slot.tot x.cache
theorem Run.stote (x : Run) : Run.stot x = World.stot x.w + Plan.stot x.p + toL Made.tot x.made + toL Mark.tot x.marks + toL Zh x.going + toL Slot.tot x.cache := rfl
theorem Run.stotw (x : Run) : Run.stot x ≤ 3 * Run.ty.wt x := by
  have w0 := World.stotw x.w
  have w1 := Plan.stotw x.p
  have w4 := zt Made.totw x.made
  have w5 := zt Mark.totw x.marks
  have w6 := zt ZQ x.going
  have w7 := zt Slot.totw x.cache
  rw [Run.stote, Run.wte]; omega
def A33 : AC := (.seq (.ops [wO 2 (.box (.t 0)), qO 4 (.mov (iC 0))])
  (.seq (.ops [qO 5 (.fadr 1 (.t 2)), qO 6 (.load false 1 (.t 5)), qO 7 (.mov (.t 1)), cO 8 95 [.t 6, .t 7], qO 1 (.mov (.t 8))])
  (.seq (.ops [qO 9 (.fadr 2 (.t 2)), qO 10 (.load false 1 (.t 9)), qO 11 (.mov (.t 1)), cO 12 96 [.t 10, .t 11], qO 1 (.mov (.t 12))])
  (.seq (.ops [qO 13 (.fadr 3 (.t 2)), qO 14 (.load false 1 (.t 13)), qO 15 (.mov (.t 1)), cO 16 97 [.t 14, .t 15], qO 1 (.mov (.t 16))])
  (.seq (.ops [qO 17 (.fadr 4 (.t 2)), qO 18 (.load false 1 (.t 17)), qO 19 (.mov (.t 1)), cO 20 98 [.t 18, .t 19], qO 1 (.mov (.t 20))])
  (.seq (.ops [qO 21 (.mov (.t 1)), qO 4 (.mov (.t 21))])
  .ret))))))
theorem K33 : Kf Tryz.prog Tryz.f33 A33 22 [.mov (.t 4)] := ⟨by kernel_rfl, by kernel_rfl, by kernel_rfl⟩
set_option maxHeartbeats 2000000 in
theorem R33 (x : Job) (k : Int) (hk : 0 < k) (hb : k + (Job.stot x : Nat) < 4611686018427387904) : Ret Tryz.prog 33 [.agg (Job.ty.oc x), .sc (.int .i64 k)] (.sc (.int .i64 (k + Job.stot x))) [.un, .un] := by
  have ht := Job.stote x
  have u2 : x.acts.length = toL Zh x.acts := (zdX _).symm
  have u3 := zb1 File.tot1 x.ins
  have u4 := zb1 Env.tot1 x.envs
  have u5 := zb1 Made.tot1 x.deps
  refine Ret.run Tryz.func33 K33 (by simp) rfl rfl 900 ?_
  simp [A33, iniρ, Job.oce]
  refine callK.io (b := 100001001) (len := x.acts.length) (sz := 1) (cs := rows Ty.str.oc x.acts) rfl (by kernel_rfl) (by simp [za]; all_goals rfl) (by simp [za]) (zb Ty.str.ocn _) (Ty.str.frL _) (by simp [za]) rfl (R95 x.acts (k) (by omega) (by omega) (by omega)) (Zw Ty.str _ _ _ _) (zac Ty.str _) rfl ?_
  simp [goneL]
  refine callK.io (b := 100001002) (len := x.ins.length) (sz := 2) (cs := rows File.ty.oc x.ins) rfl (by kernel_rfl) (by simp [za]; all_goals rfl) (by simp [za]) (zb File.ty.ocn _) (File.ty.frL _) (by simp [za]) rfl (R96 x.ins (k + (toL Zh x.acts : Nat)) (by omega) (by omega) (by omega)) (Zw File.ty _ _ _ _) (zac File.ty _) rfl ?_
  simp [goneL]
  refine callK.io (b := 100001003) (len := x.envs.length) (sz := 2) (cs := rows Env.ty.oc x.envs) rfl (by kernel_rfl) (by simp [za]; all_goals rfl) (by simp [za]) (zb Env.ty.ocn _) (Env.ty.frL _) (by simp [za]) rfl (R97 x.envs (k + (toL Zh x.acts : Nat) + (toL File.tot x.ins : Nat)) (by omega) (by omega) (by omega)) (Zw Env.ty _ _ _ _) (zac Env.ty _) rfl ?_
  simp [goneL]
  refine callK.io (b := 100001004) (len := x.deps.length) (sz := 3) (cs := rows Made.ty.oc x.deps) rfl (by kernel_rfl) (by simp [za]; all_goals rfl) (by simp [za]) (zb Made.ty.ocn _) (Made.ty.frL _) (by simp [za]) rfl (R98 x.deps (k + (toL Zh x.acts : Nat) + (toL File.tot x.ins : Nat) + (toL Env.tot x.envs : Nat)) (by omega) (by omega) (by omega)) (Zw Made.ty _ _ _ _) (zac Made.ty _) rfl ?_
  simp [ht]
  all_goals omega
def yw (xs : List Slot) (k : List Int) : Option Made :=
  if 0 ≤ idx (fun s => bEq s.key k) xs 0 then match xs[(idx (fun s => bEq s.key k) xs 0).toNat]? with
    | some s => match getI s.b with | some m => if zK m = true then some m else none | none => none
    | none => none
  else none
theorem zeE {b : List Int} (hb : byteL b) (hl : b.length ≤ 140737488355328) {m : Made} (h : getI b = some m) : m.task.size ≤ 1048576 ∧ m.outs.length < 4611686018427387904 ∧ ∀ x ∈ m.outs, x.path.size ≤ 1048576 := by
  obtain ⟨h1, _⟩ := zbP hb h
  exact ⟨by have := h1.task; omega, by have := h1.num; omega, fun x hx => by have := (h1.outs x hx).1; omega⟩
theorem zaO {x : Slot} (h : Slot.ty.ok x) : byteL x.b ∧ x.b.length ≤ 140737488355328 := by
  obtain ⟨_, ⟨o2, o3⟩, _⟩ := h
  refine ⟨fun y hy => o3 y hy, ?_⟩
  have : x.b.length * 1 ≤ 140737488351232 := o2
  omega
def A71 : AC := (.seq (.ops [wO 4 (.alloc [(.sc (.string ⟨#[]⟩)), .em, (.sc (.string ⟨#[]⟩))]), qO 5 (.mov (.c (.sc (.bool false))))])
  (.seq (.ops [qO 9 (.mov (.t 0)), qO 10 (.mov (.t 1)), cO 11 144 [.t 9, .t 10], qO 6 (.mov (.t 11))])
  (.seq (.seq (.ops [qO 12 (.mov (.t 6)), qO 13 (.bin .lss (.t 12) (iC 0))])
  (.cond (.t 13) (.seq (.ops [wO 14 (.build [(.sc (.string ⟨#[]⟩)), .em, (.sc (.string ⟨#[]⟩))] []), nO (.store 3 (.t 4) (.t 14)), qO 5 (.mov (.c (.sc (.bool false))))])
  .ret)
  .skip))
  (.seq (.ops [qO 16 (.mov (.t 0)), qO 17 (.mov (.t 6)), qO 18 (.iadr 2 (.t 16) (.t 17)), qO 19 (.fadr 1 (.t 18)), qO 20 (.load false 1 (.t 19)), cO 21 145 [.t 20], qO 15 (.mov (.t 21)), qO 22 (.ext (.t 15) 0), qO 23 (.ext (.t 15) 1), wO 7 (.alloc [(.sc (.string ⟨#[]⟩)), .em, (.sc (.string ⟨#[]⟩))]), nO (.store 3 (.t 7) (.t 22)), qO 8 (.mov (.t 23))])
  (.seq (.seq (.ops [qO 24 (.mov (.t 8)), qO 25 (.not (.t 24)), qO 26 (.mov (.t 25)), qG 27 26 false (.load true 3 (.t 7)), cG 28 26 false 146 [.t 27], qG 29 26 false (.not (.t 28)), qO 30 (.pick (.t 26) (.c (.sc (.bool true))) (.t 29))])
  (.cond (.t 30) (.seq (.ops [wO 31 (.build [(.sc (.string ⟨#[]⟩)), .em, (.sc (.string ⟨#[]⟩))] []), nO (.store 3 (.t 4) (.t 31)), qO 5 (.mov (.c (.sc (.bool false))))])
  .ret)
  .skip))
  (.seq (.ops [qO 32 (.load true 3 (.t 7)), nO (.store 3 (.t 4) (.t 32)), qO 5 (.mov (.c (.sc (.bool true))))])
  .ret))))))
theorem K71 : Kf Tryz.prog Tryz.f71 A71 33 [.load true 3 (.t 4), .mov (.t 5)] := ⟨by kernel_rfl, by kernel_rfl, by kernel_rfl⟩
set_option maxHeartbeats 2000000 in
theorem R71 (xs : List Slot) (k : List Int) (hx : Slot.ty.slice.ok xs) : Ret Tryz.prog 71 [.ro (rows Slot.ty.cs xs) xs.length, .ro (rows B k) k.length] (madeA (yw xs k)) [.un, .un] := by
  have hb : xs.length < 4611686018427387904 := Slot.ty.lenb (by decide) hx
  have hcg : yw xs k = if 0 ≤ idx (fun s => bEq s.key k) xs 0 then match xs[(idx (fun s => bEq s.key k) xs 0).toNat]? with
    | some s => match getI s.b with | some m => if zK m = true then some m else none | none => none
    | none => none
  else none := rfl
  have ra := R144 xs k hb
  rcases YB (fun s : Slot => bEq s.key k) xs 0 with ⟨pre, s, rest, e, h2, h1, e2⟩ | ⟨h1, e2⟩
  case inr =>
    rw [e2] at hcg ra
    rw [hcg, if_neg (by decide)]
    refine Ret.run Tryz.func71 K71 (by simp) rfl rfl 500 ?_
    simp [A71, iniρ]
    refine callK.ro 0 rfl (by kernel_rfl) (by simp [zd]) ra rfl rfl rfl ?_
    simp [over, ex1, madeA, zq, Made.oce, zf, Yb.idfreeL]
  have e2 : idx (fun s => bEq s.key k) xs 0 = (pre.length : Int) := by rw [e2]; omega
  have hg : xs[pre.length]? = some s := by rw [e]; simp
  rw [e2] at hcg ra
  rw [Int.toNat_natCast, hg, if_pos (by omega)] at hcg
  simp only at hcg
  have hso : Slot.ty.ok s := hx.2 s (by rw [e]; simp)
  obtain ⟨sb, sl⟩ := zaO hso
  have rg := R145 s.b sb sl
  obtain ⟨g, hgg⟩ : ∃ g, g = getI s.b := ⟨_, rfl⟩
  rw [← hgg] at rg hcg
  have hle : xs.length = pre.length + (rest.length + 1) := by rw [e]; simp
  have hlt : (pre.length : Int) < xs.length := by omega
  have hlt2 : pre.length < xs.length := by omega
  have hd := Yd Slot.ty.csn pre (s :: rest)
  rw [← e, Zc] at hd
  have hd : List.drop (pre.length * 2) (rows Slot.ty.cs xs) = AV.ro (rows B s.key) s.key.length :: AV.ro (rows B s.b) s.b.length :: rows Slot.ty.cs rest := hd
  have hd1 : List.drop (pre.length * 2 + 1) (rows Slot.ty.cs xs) = AV.ro (rows B s.b) s.b.length :: rows Slot.ty.cs rest := by rw [← List.drop_drop, hd]; rfl
  have n0 : ¬ ((pre.length : Int) < 0) := by omega
  rw [hcg]
  cases g with
  | none =>
    refine Ret.run Tryz.func71 K71 (by simp) rfl rfl 500 ?_
    simp [A71, iniρ]
    refine callK.ro 0 rfl (by kernel_rfl) (by simp [zd]) ra rfl rfl rfl ?_
    simp [n0, hlt, hlt2, hd1]
    refine callK.ro 21 rfl (by kernel_rfl) (by simp [zd]) rg (by simp [madeA, zq, Made.oce, zf, flt, flt.fltL]) (by simp [madeA, zq, Made.oce, inst, instL, shut, za]; exact ⟨rfl, rfl⟩) rfl ?_
    simp [over, ex1, madeA, zq, Made.oce, zf, Yb.idfreeL]
  | some m =>
    obtain ⟨z1, z2, z3⟩ := zeE sb sl hgg.symm
    have rk := R146 m z1 z2 z3
    have fm : flt (madeA (some m)) = true := by
      have := Made.ty.flL m
      simp [madeA, flt, flt.fltL, this]
    refine Ret.run Tryz.func71 K71 (by simp) rfl rfl 500 ?_
    simp [A71, iniρ]
    refine callK.ro 0 rfl (by kernel_rfl) (by simp [zd]) ra rfl rfl rfl ?_
    simp [n0, hlt, hlt2, hd1]
    refine callK.ro 21 rfl (by kernel_rfl) (by simp [zd]) rg fm (by simp [madeA, Made.oce, inst, instL, shut, za]; exact ⟨rfl, rfl⟩) rfl ?_
    simp [over]
    have hro : ∀ (h : Hp) (q : Nat), h q = some (some (rows File.ty.oc m.outs)) → roc h 7 (.sl q 0 m.outs.length 2 false) = some (.ro (rows File.ty.cs m.outs) m.outs.length) := fun h q e => File.roc7 e
    refine callK.ro 0 rfl (by kernel_rfl) (ys := [.agg (Made.ty.cs m)]) (by simp [za, Zk, List.mapM_cons, List.mapM_nil, ya, hro, Made.cse]) rk rfl rfl rfl ?_
    cases hk : zK m
    · simp [over, ex1, madeA, zq, Made.oce, zf, Yb.idfreeL]
    · simp [over, ex1, madeA, Made.oce, File.ocl, File.frL]
def A76 : AC := (.seq (.ops [wO 4 (.alloc [(.sc (.string ⟨#[]⟩)), .em, (.sc (.string ⟨#[]⟩))]), qO 5 (.mov (.c (.sc (.bool false))))])
  (.seq (.ops [qO 9 (.mov (.t 0)), qO 10 (.mov (.t 1)), cO 11 157 [.t 9, .t 10], qO 6 (.mov (.t 11))])
  (.seq (.seq (.ops [qO 12 (.mov (.t 6)), qO 13 (.bin .lss (.t 12) (iC 0))])
  (.cond (.t 13) (.seq (.ops [wO 14 (.build [(.sc (.string ⟨#[]⟩)), .em, (.sc (.string ⟨#[]⟩))] []), nO (.store 3 (.t 4) (.t 14)), qO 5 (.mov (.c (.sc (.bool false))))])
  .ret)
  .skip))
  (.seq (.ops [qO 16 (.mov (.t 0)), qO 17 (.mov (.t 6)), qO 18 (.iadr 2 (.t 16) (.t 17)), qO 19 (.fadr 1 (.t 18)), qO 20 (.load false 1 (.t 19)), cO 21 158 [.t 20], qO 15 (.mov (.t 21)), qO 22 (.ext (.t 15) 0), qO 23 (.ext (.t 15) 1), wO 7 (.alloc [(.sc (.string ⟨#[]⟩)), .em, (.sc (.string ⟨#[]⟩))]), nO (.store 3 (.t 7) (.t 22)), qO 8 (.mov (.t 23))])
  (.seq (.seq (.ops [qO 24 (.mov (.t 8)), qO 25 (.not (.t 24)), qO 26 (.mov (.t 25)), qG 27 26 false (.load true 3 (.t 7)), cG 28 26 false 138 [.t 27], qG 29 26 false (.not (.t 28)), qO 30 (.pick (.t 26) (.c (.sc (.bool true))) (.t 29))])
  (.cond (.t 30) (.seq (.ops [wO 31 (.build [(.sc (.string ⟨#[]⟩)), .em, (.sc (.string ⟨#[]⟩))] []), nO (.store 3 (.t 4) (.t 31)), qO 5 (.mov (.c (.sc (.bool false))))])
  .ret)
  .skip))
  (.seq (.ops [qO 32 (.load true 3 (.t 7)), nO (.store 3 (.t 4) (.t 32)), qO 5 (.mov (.c (.sc (.bool true))))])
  .ret))))))
theorem K76 : Kf Tryz.prog Tryz.f76 A76 33 [.load true 3 (.t 4), .mov (.t 5)] := ⟨by kernel_rfl, by kernel_rfl, by kernel_rfl⟩
set_option maxHeartbeats 2000000 in
theorem R76 (xs : List Slot) (k : List Int) (hx : Slot.ty.slice.ok xs) : Ret Tryz.prog 76 [.ro (rows Slot.ty.cs xs) xs.length, .ro (rows B k) k.length] (madeA (yw xs k)) [.un, .un] := by
  have hb : xs.length < 4611686018427387904 := Slot.ty.lenb (by decide) hx
  have hcg : yw xs k = if 0 ≤ idx (fun s => bEq s.key k) xs 0 then match xs[(idx (fun s => bEq s.key k) xs 0).toNat]? with
    | some s => match getI s.b with | some m => if zK m = true then some m else none | none => none
    | none => none
  else none := rfl
  have ra := R157 xs k hb
  rcases YB (fun s : Slot => bEq s.key k) xs 0 with ⟨pre, s, rest, e, h2, h1, e2⟩ | ⟨h1, e2⟩
  case inr =>
    rw [e2] at hcg ra
    rw [hcg, if_neg (by decide)]
    refine Ret.run Tryz.func76 K76 (by simp) rfl rfl 500 ?_
    simp [A76, iniρ]
    refine callK.ro 0 rfl (by kernel_rfl) (by simp [zd]) ra rfl rfl rfl ?_
    simp [over, ex1, madeA, zq, Made.oce, zf, Yb.idfreeL]
  have e2 : idx (fun s => bEq s.key k) xs 0 = (pre.length : Int) := by rw [e2]; omega
  have hg : xs[pre.length]? = some s := by rw [e]; simp
  rw [e2] at hcg ra
  rw [Int.toNat_natCast, hg, if_pos (by omega)] at hcg
  simp only at hcg
  have hso : Slot.ty.ok s := hx.2 s (by rw [e]; simp)
  obtain ⟨sb, sl⟩ := zaO hso
  have rg := R158 s.b sb sl
  rw [← zgu sb] at rg
  obtain ⟨g, hgg⟩ : ∃ g, g = getI s.b := ⟨_, rfl⟩
  rw [← hgg] at rg hcg
  have hle : xs.length = pre.length + (rest.length + 1) := by rw [e]; simp
  have hlt : (pre.length : Int) < xs.length := by omega
  have hlt2 : pre.length < xs.length := by omega
  have hd := Yd Slot.ty.csn pre (s :: rest)
  rw [← e, Zc] at hd
  have hd : List.drop (pre.length * 2) (rows Slot.ty.cs xs) = AV.ro (rows B s.key) s.key.length :: AV.ro (rows B s.b) s.b.length :: rows Slot.ty.cs rest := hd
  have hd1 : List.drop (pre.length * 2 + 1) (rows Slot.ty.cs xs) = AV.ro (rows B s.b) s.b.length :: rows Slot.ty.cs rest := by rw [← List.drop_drop, hd]; rfl
  have n0 : ¬ ((pre.length : Int) < 0) := by omega
  rw [hcg]
  cases g with
  | none =>
    refine Ret.run Tryz.func76 K76 (by simp) rfl rfl 500 ?_
    simp [A76, iniρ]
    refine callK.ro 0 rfl (by kernel_rfl) (by simp [zd]) ra rfl rfl rfl ?_
    simp [n0, hlt, hlt2, hd1]
    refine callK.ro 21 rfl (by kernel_rfl) (by simp [zd]) rg (by simp [madeA, zq, Made.oce, zf, flt, flt.fltL]) (by simp [madeA, zq, Made.oce, inst, instL, shut, za]; exact ⟨rfl, rfl⟩) rfl ?_
    simp [over, ex1, madeA, zq, Made.oce, zf, Yb.idfreeL]
  | some m =>
    obtain ⟨z1, z2, z3⟩ := zeE sb sl hgg.symm
    have rk := R138 m z1 z2 z3
    have fm : flt (madeA (some m)) = true := by
      have := Made.ty.flL m
      simp [madeA, flt, flt.fltL, this]
    refine Ret.run Tryz.func76 K76 (by simp) rfl rfl 500 ?_
    simp [A76, iniρ]
    refine callK.ro 0 rfl (by kernel_rfl) (by simp [zd]) ra rfl rfl rfl ?_
    simp [n0, hlt, hlt2, hd1]
    refine callK.ro 21 rfl (by kernel_rfl) (by simp [zd]) rg fm (by simp [madeA, Made.oce, inst, instL, shut, za]; exact ⟨rfl, rfl⟩) rfl ?_
    simp [over]
    have hro : ∀ (h : Hp) (q : Nat), h q = some (some (rows File.ty.oc m.outs)) → roc h 7 (.sl q 0 m.outs.length 2 false) = some (.ro (rows File.ty.cs m.outs) m.outs.length) := fun h q e => File.roc7 e
    refine callK.ro 0 rfl (by kernel_rfl) (ys := [.agg (Made.ty.cs m)]) (by simp [za, Zk, List.mapM_cons, List.mapM_nil, ya, hro, Made.cse]) rk rfl rfl rfl ?_
    cases hk : zK m
    · simp [over, ex1, madeA, zq, Made.oce, zf, Yb.idfreeL]
    · simp [over, ex1, madeA, Made.oce, File.ocl, File.frL]
def A75 : AC := (.seq (.ops [qO 2 (.mov (.c .em))])
  (.seq (.ops [wO 5 (.bsl 2 0 [] []), qO 3 (.mov (.t 5))])
  (.seq (.seq (.ops [qO 4 (.mov (iC 0))])
  (.block 0 (.loop (.seq (.seq (.ops [qO 6 (.mov (.t 4)), qO 7 (.mov (.t 0)), qO 8 (.llen (.t 7)), qO 9 (.bin .lss (.t 6) (.t 8))])
  (.cond (.t 9) .skip
  (.exit 0)))
  (.seq (.block 1 (.any [(qO 12 (.mov (.t 3)), []), (wO 13 (.bsl 1 0 [] []), []), (qO 14 (.mov (.t 0)), []), (qO 15 (.mov (.t 4)), []), (qO 16 (.iadr 2 (.t 14) (.t 15)), [2, 3]), (qO 17 (.fadr 0 (.t 16)), [4]), (qO 18 (.load false 1 (.t 17)), [5]), (wO 19 (.app 1 1 false (.t 13) (.t 18)), [1, 6]), (wO 20 (.bsl 1 0 [] []), []), (qO 21 (.mov (.t 0)), []), (qO 22 (.mov (.t 4)), []), (qO 23 (.iadr 2 (.t 21) (.t 22)), [9, 10]), (qO 24 (.fadr 1 (.t 23)), [11]), (qO 25 (.load false 1 (.t 24)), [12]), (wO 26 (.app 1 1 false (.t 20) (.t 25)), [8, 13, 7]), (wO 27 (.build [.em, .em] [(0, 1, (.t 19)), (1, 1, (.t 26))]), [7, 14]), (wO 28 (.bsl 2 1 [.em, .em] [(0, 2, (.t 27))]), [15]), (wO 29 (.app 2 48 false (.t 12) (.t 28)), [0, 16, 14]), (qO 3 (.mov (.t 29)), [17, 17, 0, 1, 2, 3, 4, 5, 6, 7, 8, 9, 10, 11, 12, 13, 14, 15, 16, 17])]))
  (.ops [qO 10 (.mov (.t 4)), qO 11 (.bin .add (.t 10) (iC 1)), qO 4 (.mov (.t 11))]))))))
  (.seq (.ops [qO 30 (.mov (.t 3)), qO 2 (.mov (.t 30))])
  .ret))))
theorem K75 : Kf Tryz.prog Tryz.f75 A75 31 [.mov (.t 2)] := ⟨by kernel_rfl, by kernel_rfl, by kernel_rfl⟩
theorem R75 (xs : List Slot) (hx : Slot.ty.slice.ok xs) : Ret Tryz.prog 75 [.ro (rows Slot.ty.cs xs) xs.length] (.own (rows Slot.ty.oc xs) xs.length 2) [.un] := by
  have hb : xs.length * 48 ≤ 140737488351232 := hx.1
  have hs : ∀ x ∈ xs, Slot.ty.ok x := hx.2
  refine Ret.run Tryz.func75 K75 (by simp) rfl rfl 500 ?_
  simp [A75, iniρ]
  refine T.rounds (μ := fun i : List Slot × List Slot => i.2.length)
    (fun i s => i.1 ++ i.2 = xs ∧ s.ρ 0 = .ro (rows Slot.ty.cs xs) xs.length ∧ s.ρ 3 = .sl 5 0 i.1.length 2 false ∧ s.ρ 4 = .sc (.int .i64 i.1.length) ∧ s.h 5 = some (some (rows Slot.ty.oc i.1)) ∧ s.h 13 = none ∧ s.h 19 = none ∧ s.h 20 = none ∧ s.h 26 = none ∧ s.h 28 = none ∧ s.h 29 = none ∧ s.n = 31) ([], xs) (by simp [za, zf]) ?_
  rintro ⟨pre, rest⟩ ⟨ρ, hh, n⟩ ⟨hx, h0', h3', h4', h7', f1, f2, f3, f4, f5, f6, rfl⟩
  simp only at hx h0' h3' h4' h7' f1 f2 f3 f4 f5 f6
  refine Zf (n := 400) ?_
  cases rest with
  | nil =>
    simp at hx
    subst hx
    simp [h0', h3', h4']
    refine T.on 400 ?_
    simp [h3', h7', ex1, Slot.ocl, Slot.frL]
  | cons x rest =>
    have hle : pre.length + (rest.length + 1) = xs.length := by rw [← hx]; simp
    have hlt : (pre.length : Int) < xs.length := by omega
    have hlt2 : pre.length < xs.length := by omega
    have hxs : Slot.ty.ok x := hs x (by rw [← hx]; simp)
    have hkb : x.key.length ≤ 140737488355328 := by have : x.key.length * 1 ≤ 140737488351232 := hxs.1.1; omega
    have hbb : x.b.length ≤ 140737488355328 := by have : x.b.length * 1 ≤ 140737488351232 := hxs.2.1.1; omega
    have hd := Yd Slot.ty.csn pre (x :: rest)
    rw [hx, Zc] at hd
    have hd : List.drop (pre.length * 2) (rows Slot.ty.cs xs) = AV.ro (rows B x.key) x.key.length :: AV.ro (rows B x.b) x.b.length :: rows Slot.ty.cs rest := hd
    have hd1 : List.drop (pre.length * 2 + 1) (rows Slot.ty.cs xs) = AV.ro (rows B x.b) x.b.length :: rows Slot.ty.cs rest := by rw [← List.drop_drop, hd]; rfl
    have hw : IntKind.i64.wrap ((pre.length : Int) + 1) = pre.length + 1 := Ya (by omega) (by omega)
    have hb1 : (pre.length + 1) * 48 ≤ 140737488355328 := by omega
    simp [h0', h3', h4', hlt]
    refine T.textW 400 [([], [13, 19, 20, 26, 28]), ([13], [20]), ([], [13, 20]), ([], [13, 20]), ([], [13, 20]), ([], [13, 20]), ([], [13, 20]), ([13, 19], [20]), ([20], [13, 19]), ([], [13, 19, 20]), ([], [13, 19, 20]), ([], [13, 19, 20]), ([], [13, 19, 20]), ([], [13, 19, 20]), ([20, 26], []), ([], []), ([28], []), ([5, 28, 29], []), ([], [])] mixed (by kernel_rfl) (by kernel_rfl) ?_
    simp [h0', h3', h4', h7', f1, f2, f3, f4, f5, f6, hlt, hlt2, hd, hd1, Zb, yb, B.count, Slot.ocl, over, hkb, hbb, hb1]
    refine ⟨pre ++ [x], rest, by simp, ?_⟩
    refine Le.grow [0, 3, 4] 29 5 [19, 26] (rows Slot.ty.oc pre) (Slot.ty.oc x) rfl (by simp [za, Slot.oce, ysOn]) (Slot.ty.ow x) (Yj (fun x c hc => (Slot.ty.ow x c hc).fr) _) ?_ (by decide) (by decide) (by simp [za, menB, Yb, h0']) ?_
    · intro i e cs len sz hi hc
      rcases Slot.ow2 _ hc with ⟨rfl, rfl, rfl, rfl⟩ | ⟨rfl, rfl, rfl, rfl⟩ <;> (simp at hi; subst hi; simp [za])
    · simp [hx, za, h0', zo, hw, ze, Zc, zf]
theorem R150 (xs : List Int) (hb : xs.length ≤ 140737488355328) : Ret Tryz.prog 150 [.ro (rows B xs) xs.length] (.own (rows B xs) xs.length 1) [.un] := Ret.clone Ty.byte rfl (bytes := 1) Tryz.func150 ⟨by kernel_rfl, by kernel_rfl, by kernel_rfl⟩ xs (by omega)
def A73 : AC := (.seq (.ops [qO 2 (.mov (.c .em))])
  (.seq (.ops [qO 3 (.mov (.c .em))])
  (.seq (.seq (.ops [qO 6 (.mov (.t 0)), qO 7 (.llen (.t 6)), qO 8 (.mov (iC 0))])
  (.block 0 (.loop (.seq (.ops [qO 9 (.bin .lss (.t 8) (.t 7))])
  (.seq (.cond (.t 9) .skip
  (.exit 0))
  (.seq (.block 1 (.seq (.ops [qO 10 (.iadr 2 (.t 6) (.t 8)), qO 11 (.load true 2 (.t 10)), wO 5 (.alloc [.em, .em]), nO (.store 2 (.t 5) (.t 11))])
  (.any [(qO 12 (.mov (.t 3)), []), (qO 13 (.fadr 0 (.t 5)), []), (qO 14 (.load false 1 (.t 13)), [1]), (cO 15 150 [.t 14], [2]), (qO 16 (.fadr 1 (.t 5)), []), (qO 17 (.load false 1 (.t 16)), [4]), (cO 18 150 [.t 17], [5, 3]), (wO 19 (.build [.em, .em] [(0, 1, (.t 15)), (1, 1, (.t 18))]), [3, 6]), (wO 20 (.bsl 2 1 [.em, .em] [(0, 2, (.t 19))]), [7]), (wO 21 (.app 2 48 false (.t 12) (.t 20)), [0, 8, 6]), (qO 3 (.mov (.t 21)), [9, 9, 0, 1, 2, 3, 4, 5, 6, 7, 8, 9])])))
  (.ops [qO 22 (.bin .add (.t 8) (iC 1)), qO 8 (.mov (.t 22))])))))))
  (.seq (.ops [qO 23 (.mov (.t 3)), qO 2 (.mov (.t 23))])
  .ret))))
theorem K73 : Kf Tryz.prog Tryz.f73 A73 24 [.mov (.t 2)] := ⟨by kernel_rfl, by kernel_rfl, by kernel_rfl⟩
theorem R73 (xs : List Slot) (hx : Slot.ty.slice.ok xs) : Ret Tryz.prog 73 [.ro (rows Slot.ty.cs xs) xs.length] (.own (rows Slot.ty.oc xs) xs.length 2) [.un] := by
  have hb : xs.length * 48 ≤ 140737488351232 := hx.1
  have hs : ∀ x ∈ xs, Slot.ty.ok x := hx.2
  refine Ret.run Tryz.func73 K73 (by simp) rfl rfl 500 ?_
  simp [A73, iniρ]
  refine T.le (Le.lay 3 40 2 (by simp [za]) (by simp)) ?_
  refine T.rounds (μ := fun i : List Slot × List Slot => i.2.length)
    (fun i s => i.1 ++ i.2 = xs ∧ s.ρ 3 = .sl 40 0 i.1.length 2 false ∧ s.ρ 6 = .ro (rows Slot.ty.cs xs) xs.length ∧ s.ρ 7 = .sc (.int .i64 xs.length) ∧ s.ρ 8 = .sc (.int .i64 i.1.length) ∧ s.h 40 = some (some (rows Slot.ty.oc i.1)) ∧ s.h 5 = none ∧ s.h 15 = none ∧ s.h 18 = none ∧ s.h 20 = none ∧ s.h 21 = none ∧ s.n = 24) ([], xs) (by simp [za, zf]) ?_
  rintro ⟨pre, rest⟩ ⟨ρ, hh, n⟩ ⟨hx, h3', h6', h7', h8', h40, f1, f2, f3, f4, f5, rfl⟩
  simp only at hx h3' h6' h7' h8' h40 f1 f2 f3 f4 f5
  refine Zf (n := 400) ?_
  cases rest with
  | nil =>
    simp at hx
    subst hx
    simp [h7', h8']
    refine T.on 400 ?_
    simp [h3', h40, ex1, Slot.ocl, Slot.frL]
  | cons x rest =>
    have hle : pre.length + (rest.length + 1) = xs.length := by rw [← hx]; simp
    have hlt : (pre.length : Int) < xs.length := by omega
    have hlt2 : pre.length < xs.length := by omega
    have hxs : Slot.ty.ok x := hs x (by rw [← hx]; simp)
    have hkb : x.key.length ≤ 140737488355328 := by have : x.key.length * 1 ≤ 140737488351232 := hxs.1.1; omega
    have hbb : x.b.length ≤ 140737488355328 := by have : x.b.length * 1 ≤ 140737488351232 := hxs.2.1.1; omega
    have hd := Yd Slot.ty.csn pre (x :: rest)
    rw [hx, Zc] at hd
    have hd : List.drop (pre.length * 2) (rows Slot.ty.cs xs) = AV.ro (rows B x.key) x.key.length :: AV.ro (rows B x.b) x.b.length :: rows Slot.ty.cs rest := hd
    have hw : IntKind.i64.wrap ((pre.length : Int) + 1) = pre.length + 1 := Ya (by omega) (by omega)
    have hb1 : (pre.length + 1) * 48 ≤ 140737488355328 := by omega
    simp [h3', h6', h7', h8', hlt, hlt2, hd, f1, over]
    refine T.textW 400 [([], [15, 18, 20]), ([], []), ([], []), ([15], []), ([], [15]), ([], [15]), ([18], []), ([], []), ([20], []), ([40, 20, 21], []), ([], [])] mixed (by kernel_rfl) (by kernel_rfl) ?_
    simp [h3', h6', h7', h8', Zb, yb]
    refine Yf.ro 15 rfl (by kernel_rfl) (by simp [zd]) (R150 x.key hkb) (B.flo _) (by simp [inst, za, f2]; exact ⟨rfl, rfl⟩) (by rfl) ?_
    simp [Zb, yb]
    refine Yf.ro 18 rfl (by kernel_rfl) (by simp [zd]) (R150 x.b hbb) (B.flo _) (by simp [inst, za, f3]; exact ⟨rfl, rfl⟩) (by rfl) ?_
    simp [h3', h6', h7', h8', h40, f1, f2, f3, f4, f5, Zb, yb, B.count, Slot.ocl, over, hb1]
    refine ⟨pre ++ [x], rest, by simp, ?_⟩
    refine Le.grow [3, 6, 7, 8] 21 40 [15, 18] (rows Slot.ty.oc pre) (Slot.ty.oc x) rfl (by simp [za, Slot.oce, ysOn]) (Slot.ty.ow x) (Yj (fun x c hc => (Slot.ty.ow x c hc).fr) _) ?_ (by decide) (by decide) (by simp [za, menB, Yb, h6', h7']) ?_
    · intro i e cs len sz hi hc
      rcases Slot.ow2 _ hc with ⟨rfl, rfl, rfl, rfl⟩ | ⟨rfl, rfl, rfl, rfl⟩ <;> (simp at hi; subst hi; simp [za])
    · simp [hx, za, h6', h7', zo, hw, ze, Zc, zf]
def zu : List Slot → List Slot
  | [] => []
  | x :: l => if l.length = 0 ∨ YC (x :: l) = true then x :: l else zu l
def zr (xs : List Slot) (k : List Int) (m : Made) : List Slot :=
  if zK m = true ∧ (putM m).length ≤ 3000 then zu ((xs.filter fun s => !bEq s.key k) ++ [⟨k, putM m⟩]) else xs
theorem zan : ∀ (l : List Slot), ∃ a, a ++ zu l = l
  | [] => ⟨[], rfl⟩
  | x :: l => by
    by_cases h : l.length = 0 ∨ YC (x :: l) = true
    · exact ⟨[], by rw [zu, if_pos h]; rfl⟩
    · obtain ⟨a, e⟩ := zan l
      exact ⟨x :: a, by rw [zu, if_neg h, List.cons_append, e]⟩
theorem zd7 {α : Type} {f : α → List AV} {q : AV → Prop} (h : ∀ x, ∀ c ∈ f x, q c) (xs : List α) : ∀ c ∈ rows f xs, q c := by
  intro c hc
  simp only [rows, List.mem_flatten, List.mem_map] at hc
  obtain ⟨_, ⟨x, _, rfl⟩, hc⟩ := hc
  exact h x c hc
def A153 : AC := (.seq (.ops [wO 2 (.box (.t 0)), qO 3 (.mov (.c (.sc (.bool false))))])
  (.seq (.ops [qO 4 (.fadr 0 (.t 2)), qO 5 (.load false 1 (.t 4)), qO 6 (.load false 1 (.t 1)), cO 7 154 [.t 5, .t 6], qO 3 (.mov (.t 7))])
  .ret))
theorem K153 : Kf Tryz.prog Tryz.f153 A153 8 [.mov (.t 3)] := ⟨by kernel_rfl, by kernel_rfl, by kernel_rfl⟩
theorem R153 (s : Slot) (k : List Int) : Ret Tryz.prog 153 [.agg (Slot.ty.cs s), .rp [.ro (rows B k) k.length] 0] (.sc (.bool (bEq s.key k))) [.un, .un] := by
  refine Ret.run Tryz.func153 K153 (by simp) rfl rfl 500 ?_
  simp [A153, iniρ, Slot.cseB]
  refine callK.ro 7 rfl (by kernel_rfl) (by simp [zd, ya, yd, za]; rfl) (R154 s.key k) rfl rfl rfl ?_
  simp
theorem R152 (g : FuncId) (caps : List AV) (f : Slot → Bool) (hg : callB Tryz.prog g = true) (hsh : shut.shutL caps = true) (xs : List Slot) (hR : ∀ x ∈ xs, Ret Tryz.prog g (.agg (Slot.ty.cs x) :: caps) (.sc (.bool (f x))) (.un :: caps.map fun _ => .un)) (hb : xs.length < 4611686018427387904) :
    Ret Tryz.prog 152 [.own (rows Slot.ty.oc xs) xs.length 2, .clo g caps] (.own (rows Slot.ty.oc (xs.filter fun x => !f x)) (xs.filter fun x => !f x).length 2) [.un, .un] :=
  Ret.deleteFuncO Slot.ty (by decide) (ix := 205) Tryz.func152 ⟨by kernel_rfl, by kernel_rfl, by kernel_rfl⟩ g caps f hg (by kernel_rfl) hsh xs hR (R205 g caps f hg hsh xs hR hb) hb
theorem R156 (xs : List Slot) : Ret Tryz.prog 156 [.own (rows Slot.ty.oc xs) xs.length 2] (.own (rows Slot.ty.oc xs) xs.length 2) [.un] := Ret.clip Slot.ty Tryz.func156 ⟨by kernel_rfl, by kernel_rfl, by kernel_rfl⟩ xs
def A74 : AC := (.seq (.ops [wO 4 (.box (.t 1)), wO 5 (.box (.t 2)), qO 6 (.mov (.c .em))])
  (.seq (.ops [qO 9 (.mov (.t 0)), cO 10 73 [.t 9], qO 7 (.mov (.t 10))])
  (.seq (.ops [qO 11 (.load true 3 (.t 5)), cO 12 151 [.t 11], qO 8 (.mov (.t 12))])
  (.seq (.seq (.ops [qO 13 (.load true 3 (.t 5)), cO 14 146 [.t 13], qO 15 (.not (.t 14)), qO 16 (.mov (.t 15)), qG 17 16 false (.mov (.t 8)), qG 18 16 false (.llen (.t 17)), qG 19 16 false (.bin .gtr (.t 18) (iC 3000)), qO 20 (.pick (.t 16) (.c (.sc (.bool true))) (.t 19))])
  (.cond (.t 20) (.seq (.ops [qO 21 (.mov (.t 7)), qO 6 (.mov (.t 21))])
  .ret)
  .skip))
  (.seq (.ops [qO 22 (.mov (.t 7)), qO 23 (.mkf 153 [.t 4]), cO 24 152 [.t 22, .t 23], qO 7 (.mov (.t 24))])
  (.seq (.ops [qO 25 (.mov (.t 7)), qO 26 (.load false 1 (.t 4)), cO 27 150 [.t 26], qO 28 (.mov (.t 8)), wO 29 (.build [.em, .em] [(0, 1, (.t 27)), (1, 1, (.t 28))]), wO 30 (.bsl 2 1 [.em, .em] [(0, 2, (.t 29))]), wO 31 (.app 2 48 false (.t 25) (.t 30)), qO 7 (.mov (.t 31))])
  (.seq (.block 0 (.loop (.seq (.seq (.ops [qO 32 (.mov (.t 7)), qO 33 (.llen (.t 32)), qO 34 (.bin .gtr (.t 33) (iC 1)), qO 35 (.mov (.t 34)), qG 36 35 true (.mov (.t 7)), cG 37 35 true 155 [.t 36], qG 38 35 true (.not (.t 37)), qO 39 (.pick (.t 35) (.t 38) (.c (.sc (.bool false))))])
  (.cond (.t 39) .skip
  (.exit 0)))
  (.block 1 (.ops [qO 40 (.mov (.t 7)), qO 41 (.subl 2 (.t 40) (some (iC 1)) none), qO 7 (.mov (.t 41))])))))
  (.seq (.ops [qO 42 (.mov (.t 7)), cO 43 156 [.t 42], qO 6 (.mov (.t 43))])
  .ret))))))))
theorem K74 : Kf Tryz.prog Tryz.f74 A74 44 [.mov (.t 6)] := ⟨by kernel_rfl, by kernel_rfl, by kernel_rfl⟩
set_option maxHeartbeats 4000000 in
theorem R74 (xs : List Slot) (k : List Int) (m : Made) (hx : Slot.ty.slice.ok xs) (hk : k.length ≤ 140737488355328) (h1 : m.task.size ≤ 1048576) (hn : m.outs.length < 4611686018427387904) (hp : ∀ x ∈ m.outs, x.path.size ≤ 1048576) (hm : mw m ≤ 140737488350000) :
    Ret Tryz.prog 74 [.ro (rows Slot.ty.cs xs) xs.length, .ro (rows B k) k.length, .agg (Made.ty.cs m)] (.own (rows Slot.ty.oc (zr xs k m)) (zr xs k m).length 2) [.un, .un, .un] := by
  have hb : xs.length * 48 ≤ 140737488351232 := hx.1
  have hb2 : xs.length < 4611686018427387904 := by omega
  have r1 := R73 xs hx
  have r2 := R151 m hn hm
  have r3 := R146 m h1 hn hp
  obtain ⟨pb, hpb⟩ : ∃ pb, pb = putM m := ⟨_, rfl⟩
  rw [← hpb] at r2
  obtain ⟨mo, hmo⟩ : ∃ mo, mo = zK m := ⟨_, rfl⟩
  rw [← hmo] at r3
  have hS : zr xs k m = if mo = true ∧ pb.length ≤ 3000 then zu ((xs.filter fun s => !bEq s.key k) ++ [⟨k, pb⟩]) else xs := by rw [zr, hmo, hpb]
  rw [hS]
  refine Ret.run Tryz.func74 K74 (by simp) rfl rfl 500 ?_
  simp [A74, iniρ, Made.cse]
  refine callK.ro 10 rfl (by kernel_rfl) (by simp [zd]) r1 (Slot.ty.flo xs) (by simp [inst, za]; exact ⟨rfl, rfl⟩) rfl ?_
  simp
  refine callK.ro 12 rfl (by kernel_rfl) (by simp [zd, ya, yd, za]; rfl) r2 (B_fl _) (by simp [inst, za]; exact ⟨rfl, rfl⟩) rfl ?_
  simp
  refine callK.ro 14 rfl (by kernel_rfl) (by simp [zd, ya, yd, za]; rfl) r3 rfl rfl rfl ?_
  cases hc : mo
  case false =>
    simp [ex1, Slot.ocl, Slot.frL]
  by_cases hl : pb.length ≤ 3000
  case neg =>
    have hl' : (3000 : Int) < pb.length := by omega
    simp [hl, hl', ex1, Slot.ocl, Slot.frL]
  have hl' : ¬ (3000 : Int) < pb.length := by omega
  have rd := R152 153 [.rp [.ro (rows B k) k.length] 0] (fun s => bEq s.key k) (by kernel_rfl) rfl xs (fun x _ => R153 x k) hb2
  obtain ⟨ys, hys⟩ : ∃ ys, ys = xs.filter fun s => !bEq s.key k := ⟨_, rfl⟩
  have hyl : ys.length ≤ xs.length := by rw [hys]; exact List.length_filter_le _ _
  rw [← hys] at rd
  simp [hl, hl', ← hys]
  refine callK.mv1 24 10 rfl (by kernel_rfl) (by simp [za]) (by simp [za]) (Slot.ocl xs) (Slot.frL xs) (vs := [.clo 153 [.rp [.ro (rows B k) k.length] 0]]) (by simp [roc, za]) rd (Slot.ty.flo _) (by simp [inst, za]; exact ⟨rfl, rfl⟩) rfl ?_
  have hb1 : (ys.length + 1) * 48 ≤ 140737488355328 := by omega
  simp
  refine callK.ro 27 rfl (by kernel_rfl) (by simp [zd, za]) (R150 k hk) (B.flo _) (by simp [inst, za]; exact ⟨rfl, rfl⟩) (by rfl) ?_
  simp [B.count, Slot.ocl, over, hb1]
  have hall : rows Slot.ty.oc (ys ++ [⟨k, pb⟩]) = rows Slot.ty.oc ys ++ Slot.ty.oc ⟨k, pb⟩ := by rw [ze, Zc, zf, List.append_nil]
  obtain ⟨zs, hzs⟩ : ∃ zs, zs = ys ++ [(⟨k, pb⟩ : Slot)] := ⟨_, rfl⟩
  have hzn : zs.length ≤ xs.length + 1 := by rw [hzs]; simp; omega
  rw [← hzs]
  refine T.roundsL (μ := fun i : List Slot × List Slot => i.2.length)
    (fun i s => i.1 ++ i.2 = zs ∧ 0 < i.2.length ∧ zu i.2 = zu zs ∧ s.ρ 7 = .sl 31 (i.1.length * 2) i.2.length 2 false ∧ s.h = oneH 31 (rows Slot.ty.oc zs) ∧ s.n = 44) ([], zs) ?_ ?_
  · refine Le.grow [7] 31 31 [27, 12] (rows Slot.ty.oc ys) (Slot.ty.oc ⟨k, pb⟩) rfl (by simp [za, Slot.oce, ysOn]) (Slot.ty.ow _) (Yj (fun x c hc => (Slot.ty.ow x c hc).fr) _) ?_ (by decide) (by decide) (by simp [za, menB]) ?_
    · intro i e cs len sz hi hc
      rcases Slot.ow2 _ hc with ⟨rfl, rfl, rfl, rfl⟩ | ⟨rfl, rfl, rfl, rfl⟩ <;> (simp at hi; subst hi; simp [za])
    · refine ⟨by simp, by simp [hzs], rfl, ?_, ?_, rfl⟩
      · simp [za, Zq, renA, rb, hzs]
      · rw [hzs, hall]
  rintro ⟨pre, rest⟩ ⟨ρ, hh, n⟩ ⟨hx2, hpos, hD, h7', rfl, rfl⟩
  simp only at hx2 hpos hD h7'
  refine Zf (n := 400) ?_
  cases rest with
  | nil => simp at hpos
  | cons x rest =>
    have hle : pre.length + (rest.length + 1) = zs.length := by rw [← hx2]; simp
    have hroc : roc (oneH 31 (rows Slot.ty.oc zs)) 8 (.sl 31 (pre.length * 2) (rest.length + 1) 2 false) = some (.ro (rows Slot.ty.cs (x :: rest)) (x :: rest).length) := Ty.rocO Slot.ty (xs := x :: rest) (by decide) (pre := rows Slot.ty.oc pre) (by rw [← hx2, ze]; simp [zo]) (Slot.ocl pre)
    have hdr : (rows Slot.ty.oc zs).drop (pre.length * 2) = rows Slot.ty.oc (x :: rest) := by rw [← hx2]; exact Yd Slot.ty.ocn pre (x :: rest)
    have hof : pre.length * 2 ≤ (rows Slot.ty.oc zs).length := by rw [Slot.ocl]; omega
    have hfr : ∀ c ∈ rows Slot.ty.oc zs, Yb c = true := Yj (fun x c hc => (Slot.ty.ow x c hc).fr) _
    have rok := R155 (x :: rest) (by simp only [List.length_cons]; omega)
    have rcl := R156 (x :: rest)
    simp only [List.length_cons] at h7' rok hroc rcl
    by_cases hz : rest.length = 0
    · have hz0 : ¬ (1 : Int) < rest.length + 1 := by omega
      have e : zu zs = x :: rest := by rw [← hD, zu, if_pos (.inl hz)]
      rw [e]
      simp [h7', hz0]
      refine T.le (Le.front (off := pre.length * 2) (len := rest.length + 1) (sz := 2) (lim := false) [] 7 31 (by simp [za, h7']) (by simp [zo]) hof (by simp) hfr) ?_
      rw [hdr]
      refine T.on 400 ?_
      simp [za]
      refine callK.mv1 43 31 rfl (by kernel_rfl) (by simp [za]) (by simp [zo]) (Slot.ocl (x :: rest)) (Slot.frL _) (vs := []) (by simp) rcl (Slot.ty.flo (x :: rest)) (by simp [inst, za, zo]; exact ⟨rfl, rfl⟩) rfl ?_
      simp [ex1, Slot.ocl, Slot.frL]
    · have hz0 : (1 : Int) < rest.length + 1 := by omega
      simp [h7', hz0]
      refine callK.ro 37 rfl (by kernel_rfl) (by simp [hroc]) rok rfl rfl rfl ?_
      cases hco : YC (x :: rest) with
      | true =>
        have e : zu zs = x :: rest := by rw [← hD, zu, if_pos (.inr hco)]
        rw [e]
        simp [h7']
        refine T.le (Le.front (off := pre.length * 2) (len := rest.length + 1) (sz := 2) (lim := false) [] 7 31 (by simp [za, h7']) (by simp [zo]) hof (by simp) hfr) ?_
        rw [hdr]
        refine T.on 400 ?_
        simp [za]
        refine callK.mv1 43 31 rfl (by kernel_rfl) (by simp [za]) (by simp [zo]) (Slot.ocl (x :: rest)) (Slot.frL _) (vs := []) (by simp) rcl (Slot.ty.flo (x :: rest)) (by simp [inst, za, zo]; exact ⟨rfl, rfl⟩) rfl ?_
        simp [ex1, Slot.ocl, Slot.frL]
      | false =>
        have hno : ¬ (rest.length = 0 ∨ YC (x :: rest) = true) := by rw [hco]; simp [hz]
        have hD2 : zu rest = zu zs := by rw [← hD, zu, if_neg hno]
        simp [h7']
        refine ⟨pre ++ [x], rest, by simp, _, Le.refl _, ?_⟩
        simp [hx2, hD2, za]
        omega
def A68 : AC := (.seq (.ops [wO 5 (.box (.t 2)), qO 6 (.mov (.c .em))])
  (.seq (.ops [qO 11 (.mov (.t 0)), cO 12 75 [.t 11], qO 7 (.mov (.t 12))])
  (.seq (.ops [qO 13 (.load true 3 (.t 5)), cO 14 137 [.t 13], qO 8 (.mov (.t 14))])
  (.seq (.seq (.ops [qO 15 (.load true 3 (.t 5)), cO 16 138 [.t 15], qO 17 (.not (.t 16)), qO 18 (.mov (.t 17)), qG 19 18 false (.mov (.t 8)), qG 20 18 false (.llen (.t 19)), qG 21 18 false (.bin .gtr (.t 20) (iC 3000)), qO 22 (.pick (.t 18) (.c (.sc (.bool true))) (.t 21))])
  (.cond (.t 22) (.seq (.ops [qO 23 (.mov (.t 7)), qO 6 (.mov (.t 23))])
  .ret)
  .skip))
  (.seq (.ops [wO 24 (.bsl 2 0 [] []), qO 9 (.mov (.t 24))])
  (.seq (.seq (.ops [qO 10 (.mov (iC 0))])
  (.block 0 (.loop (.seq (.seq (.ops [qO 25 (.mov (.t 10)), qO 26 (.mov (.t 7)), qO 27 (.llen (.t 26)), qO 28 (.bin .lss (.t 25) (.t 27))])
  (.cond (.t 28) .skip
  (.exit 0)))
  (.seq (.block 1 (.seq (.any [(qO 31 (.mov (.t 7)), []), (qO 32 (.mov (.t 10)), []), (qO 33 (.iadr 2 (.t 31) (.t 32)), [0, 1]), (qO 34 (.fadr 0 (.t 33)), [2]), (qO 35 (.load false 1 (.t 34)), [3]), (qO 36 (.bstr (.t 35)), [4]), (qO 37 (.mov (.t 1)), []), (qO 38 (.bstr (.t 37)), [6]), (qO 39 (.bin .neq (.t 36) (.t 38)), [5, 7])])
  (.cond (.t 39) (.ops [qO 40 (.mov (.t 9)), qO 41 (.mov (.t 7)), qO 42 (.mov (.t 10)), qO 43 (.iadr 2 (.t 41) (.t 42)), qO 44 (.load true 2 (.t 43)), wO 45 (.bsl 2 1 [.em, .em] [(0, 2, (.t 44))]), wO 46 (.app 2 48 false (.t 40) (.t 45)), qO 9 (.mov (.t 46))])
  .skip)))
  (.ops [qO 29 (.mov (.t 10)), qO 30 (.bin .add (.t 29) (iC 1)), qO 10 (.mov (.t 30))]))))))
  (.seq (.ops [qO 47 (.mov (.t 9)), wO 48 (.bsl 1 0 [] []), qO 49 (.mov (.t 1)), wO 50 (.app 1 1 false (.t 48) (.t 49)), qO 51 (.mov (.t 8)), wO 52 (.build [.em, .em] [(0, 1, (.t 50)), (1, 1, (.t 51))]), wO 53 (.bsl 2 1 [.em, .em] [(0, 2, (.t 52))]), wO 54 (.app 2 48 false (.t 47) (.t 53)), qO 9 (.mov (.t 54))])
  (.seq (.block 2 (.loop (.seq (.seq (.ops [qO 55 (.mov (.t 9)), qO 56 (.llen (.t 55)), qO 57 (.bin .gtr (.t 56) (iC 1)), qO 58 (.mov (.t 57)), qG 59 58 true (.mov (.t 9)), cG 60 58 true 139 [.t 59], qG 61 58 true (.not (.t 60)), qO 62 (.pick (.t 58) (.t 61) (.c (.sc (.bool false))))])
  (.cond (.t 62) .skip
  (.exit 2)))
  (.block 3 (.ops [wO 63 (.bsl 2 0 [] []), qO 64 (.mov (.t 9)), qO 65 (.subl 2 (.t 64) (some (iC 1)) none), wO 66 (.app 2 48 false (.t 63) (.t 65)), qO 9 (.mov (.t 66))])))))
  (.seq (.ops [qO 67 (.mov (.t 9)), qO 6 (.mov (.t 67))])
  .ret)))))))))
theorem K68 : Kf Tryz.prog Tryz.f68 A68 68 [.mov (.t 6)] := ⟨by kernel_rfl, by kernel_rfl, by kernel_rfl⟩
set_option maxHeartbeats 4000000 in
theorem R68 (xs : List Slot) (k : List Int) (m : Made) (hx : Slot.ty.slice.ok xs) (hk : k.length ≤ 140737488355328) (h1 : m.task.size ≤ 1048576) (hn : m.outs.length < 4611686018427387904) (hp : ∀ x ∈ m.outs, x.path.size ≤ 1048576) (hm : mw m ≤ 140737488350000) :
    Ret Tryz.prog 68 [.ro (rows Slot.ty.cs xs) xs.length, .ro (rows B k) k.length, .agg (Made.ty.cs m)] (.own (rows Slot.ty.oc (zr xs k m)) (zr xs k m).length 2) [.un, .un, .un] := by
  have hb : xs.length * 48 ≤ 140737488351232 := hx.1
  have hb2 : xs.length < 4611686018427387904 := by omega
  have r1 := R75 xs hx
  have r2 := R137 m hn hm
  have r3 := R138 m h1 hn hp
  obtain ⟨pb, hpb⟩ : ∃ pb, pb = putM m := ⟨_, rfl⟩
  rw [← hpb] at r2
  obtain ⟨mo, hmo⟩ : ∃ mo, mo = zK m := ⟨_, rfl⟩
  rw [← hmo] at r3
  have hS : zr xs k m = if mo = true ∧ pb.length ≤ 3000 then zu ((xs.filter fun s => !bEq s.key k) ++ [⟨k, pb⟩]) else xs := by rw [zr, hmo, hpb]
  rw [hS]
  refine Ret.runT Tryz.func68 K68 (by simp) rfl rfl ?_
  refine Zf (n := 500) ?_
  simp [A68, iniρ, Made.cse, Zx]
  refine callK.ro 12 rfl (by kernel_rfl) (by simp [zd]) r1 (Slot.ty.flo xs) (by simp [inst, za]; exact ⟨rfl, rfl⟩) rfl ?_
  simp
  refine callK.ro 14 rfl (by kernel_rfl) (by simp [zd, ya, yd, za]; rfl) r2 (B_fl _) (by simp [inst, za]; exact ⟨rfl, rfl⟩) rfl ?_
  simp
  refine callK.ro 16 rfl (by kernel_rfl) (by simp [zd, ya, yd, za]; rfl) r3 rfl rfl rfl ?_
  cases hc : mo
  case false =>
    simp
    refine ⟨_, Le.refl _, ?_⟩
    simp [ex1, Slot.ocl, Slot.frL]
  by_cases hl : pb.length ≤ 3000
  case neg =>
    have hl' : (3000 : Int) < pb.length := by omega
    simp [hl, hl']
    refine ⟨_, Le.refl _, ?_⟩
    simp [ex1, Slot.ocl, Slot.frL]
  have hl' : ¬ (3000 : Int) < pb.length := by omega
  obtain ⟨zs, hzs⟩ : ∃ zs, zs = (xs.filter fun s => !bEq s.key k) ++ [(⟨k, pb⟩ : Slot)] := ⟨_, rfl⟩
  rw [if_pos ⟨rfl, hl⟩, ← hzs]
  simp [hl']
  refine T.rounds (μ := fun i : List Slot × List Slot × List Slot => i.2.1.length)
    (fun i s => i.1 ++ i.2.1 = xs ∧ i.2.2 ++ i.2.1.filter (fun s => !bEq s.key k) = xs.filter (fun s => !bEq s.key k) ∧ i.2.2.length ≤ i.1.length ∧ s.ρ 1 = .ro (rows B k) k.length ∧ s.ρ 7 = .sl 12 0 xs.length 2 false ∧ s.ρ 8 = .sl 14 0 pb.length 1 false ∧ s.ρ 9 = .sl 24 0 i.2.2.length 2 false ∧ s.ρ 10 = .sc (.int .i64 i.1.length) ∧ s.h 12 = some (some (List.replicate (i.1.length * 2) .un ++ rows Slot.ty.oc i.2.1)) ∧ s.h 14 = some (some (rows B pb)) ∧ s.h 24 = some (some (rows Slot.ty.oc i.2.2)) ∧
      s.h 45 = none ∧ s.h 46 = none ∧ s.h 48 = none ∧ s.h 50 = none ∧ s.h 52 = none ∧ s.h 53 = none ∧ s.h 54 = none ∧ s.h 31000 = none ∧ s.h 31001 = none ∧ s.n = 68) ([], xs, []) (by simp [za, zf]) ?_
  rintro ⟨pre, rest, out⟩ ⟨ρ, hh, n⟩ ⟨hx2, hF, hol, k1, k7, k8, k9, k10, b12, b14, b24, f45, f46, f48, f50, f52, f53, f54, f310, f311, rfl⟩
  simp only at hx2 hF hol k1 k7 k8 k9 k10 b12 b14 b24 f45 f46 f48 f50 f52 f53 f54 f310 f311
  have hon : out.length ≤ xs.length := by
    have := congrArg List.length hx2
    simp at this; omega
  cases rest with
  | nil =>
    refine Zf (n := 400) ?_
    simp at hx2
    subst hx2
    rw [List.filter_nil, List.append_nil] at hF
    rw [← hF] at hzs
    have hb1 : (out.length + 1) * 48 ≤ 140737488355328 := by omega
    simp [k7, k10]
    refine T.on 400 ?_
    simp [k1, k8, k9, b14, b24, f45, f46, f48, f50, f52, f53, f54, B.count, Slot.ocl, over, hb1, hk]
    have hzn : zs.length ≤ pre.length + 1 := by rw [hzs]; simp; omega
    refine T.roundsL (μ := fun i : List Slot => i.length)
      (fun i s => 0 < i.length ∧ i.length ≤ zs.length ∧ zu i = zu zs ∧ s.ρ 9 = .sl 24 0 i.length 2 false ∧ s.h = oneH 24 (rows Slot.ty.oc i) ∧ s.n = 68) zs ?_ ?_
    · refine Le.grow [9] 54 24 [50, 14] (rows Slot.ty.oc out) (Slot.ty.oc ⟨k, pb⟩) rfl (by simp [za, Slot.oce, ysOn]) (Slot.ty.ow _) (Ye (Slot.frL out)) ?_ (by decide) (by decide) (by simp [za, menB]) ?_
      · intro i e cs len sz hi hc
        rcases Slot.ow2 _ hc with ⟨rfl, rfl, rfl, rfl⟩ | ⟨rfl, rfl, rfl, rfl⟩ <;> (simp at hi; subst hi; simp [za, b14])
      · refine ⟨?_, Nat.le_refl _, rfl, ?_, ?_, rfl⟩
        · simp [hzs]
        · simp [za, Zq, renA, rb, hzs]
        · rw [hzs, ze, Zc, zf, List.append_nil]
    rintro rest ⟨ρ, hh, n⟩ ⟨hpos, hrz, hD, h9', rfl, rfl⟩
    simp only at h9'
    cases rest with
    | nil => simp at hpos
    | cons x rest =>
      have hroc : roc (oneH 24 (rows Slot.ty.oc (x :: rest))) 8 (.sl 24 0 (rest.length + 1) 2 false) = some (.ro (rows Slot.ty.cs (x :: rest)) (rest.length + 1)) := Slot.roc8 (xs := x :: rest) (by simp [zo])
      have hl2 : (rows Slot.ty.oc (x :: rest)).length = (rest.length + 1) * 2 := Slot.ocl (x :: rest)
      have hb2 : rest.length * 48 ≤ 140737488355328 := by simp only [List.length_cons] at hrz; omega
      have rok := R139 (x :: rest) (by simp only [List.length_cons] at hrz ⊢; omega)
      simp only [List.length_cons] at h9' rok
      by_cases hz : rest.length = 0
      · have hz0 : ¬ (1 : Int) < rest.length + 1 := by omega
        have e : zu zs = x :: rest := by rw [← hD, zu, if_pos (.inl hz)]
        rw [e]
        refine Zf (n := 400) ?_
        simp [h9', hz0]
        refine T.on 400 ?_
        simp [h9', Zx]
        refine ⟨_, Le.refl _, ?_⟩
        simp [ex1, zo, hl2, Slot.frL]
      · have hz0 : (1 : Int) < rest.length + 1 := by omega
        cases hco : YC (x :: rest) with
        | true =>
          have e : zu zs = x :: rest := by rw [← hD, zu, if_pos (.inr hco)]
          rw [e]
          refine Zf (n := 400) ?_
          simp [h9', hz0]
          refine callK.ro 60 rfl (by kernel_rfl) (by simp [hroc]) rok rfl rfl rfl ?_
          simp [h9', hco]
          refine T.on 400 ?_
          simp [h9', Zx]
          refine ⟨_, Le.refl _, ?_⟩
          simp [ex1, zo, hl2, Slot.frL]
        | false =>
          have hno : ¬ (rest.length = 0 ∨ YC (x :: rest) = true) := by rw [hco]; simp [hz]
          have hD2 : zu rest = zu zs := by rw [← hD, zu, if_neg hno]
          obtain ⟨h', l1, l2, l3, l4, l5⟩ := Le.openAll 24 [] (rows Slot.ty.oc rest) 200000 (Slot.ty.oc x) (oneH 24 (rows Slot.ty.oc (x :: rest))) (by rw [zo, if_pos rfl, Zc, List.append_nil]) (zd7 Slot.ty.ow rest) (fun i _ => by rw [zo, if_neg (by omega)]) (by omega)
          rw [zcJ, List.append_nil] at l2
          obtain ⟨ps, hps⟩ : ∃ ps, ps = numb Slot.ty.n 200000 rest := ⟨_, rfl⟩
          rw [← hps] at l2
          have hNB : ∀ p ∈ ps, NB Slot.ty h' p := by rw [hps]; exact NB.of Slot.ty rest 200000 l3
          have hpx : ps.map (·.2) = rest := by rw [hps]; exact zbK _ _ _
          have hplen : ps.length = rest.length := by rw [← hpx, List.length_map]
          have hf : ∀ b, b ≠ 24 → b < 200000 → h' b = none := fun b h1 h2 => by rw [l4 b h1 (by omega), zo, if_neg h1]
          have f63 := hf 63 (by decide) (by decide)
          have f66 := hf 66 (by decide) (by decide)
          have hroc2 : roc h' 8 (.sl 24 0 (rest.length + 1) 2 false) = some (.ro (rows Slot.ty.cs (x :: rest)) (rest.length + 1)) := by
            refine zfU l2 ?_ ?_
            · rw [List.length_append, Slot.ty.ocn, zb (zem Slot.ty), hplen]
              show 2 + rest.length * 2 = _
              omega
            · rw [List.mapM_append, Slot.ty.rc h' 7 x (by decide), zek Slot.ty (by decide) ps hNB, hpx]
              rfl
          have hd2 : (Slot.ty.oc x ++ rows (nm Slot.ty) ps).drop 2 = rows (nm Slot.ty) ps := rfl
          have hnl : (rows (nm Slot.ty) ps).length = rest.length * 2 := by rw [zb (zem Slot.ty), hplen]; rfl
          have htk : (rows (nm Slot.ty) ps).take (rest.length * 2) = rows (nm Slot.ty) ps := by rw [← hnl, List.take_length]
          have hplc : plain.plainL (rows (nm Slot.ty) ps) = true := zel Slot.ty ps
          have hxl2 : (Slot.ty.oc x).length = 2 := rfl
          have hin : 2 + rest.length * 2 ≤ (Slot.ty.oc x ++ rows (nm Slot.ty) ps).length := by rw [List.length_append, hnl, Slot.ty.ocn]; exact Nat.le_refl _
          have hidn : (ids Slot.ty.n ps).Nodup ∧ ∀ b ∈ ids Slot.ty.n ps, 200000 ≤ b := by
            rw [hps, zbO]
            exact ⟨List.nodup_range', fun b hb => by rw [List.mem_range'_1] at hb; omega⟩
          refine T.le (l1 _ _) ?_
          refine Zf (n := 400) ?_
          simp [h9', hz0]
          refine callK.ro 60 rfl (by kernel_rfl) (by simp [hroc2]) rok rfl rfl rfl ?_
          simp [h9', hco, l2, f63, f66, hd2, htk, over, hb2, hplc, hin, hnl, hxl2]
          refine ⟨rest, by simp, ?_⟩
          refine Le.ex ?_
          refine Le.trimPack Slot.ty 66 (rest.length * 2) ps (by simp [za]) htk (fun p hp i cs len sz hi => ?_) hidn.1 (fun h => by have := hidn.2 _ h; omega) (fun h2 e2 => ?_)
          · have hin : i < Slot.ty.n := by have := (List.getElem?_eq_some_iff.1 hi).1; rwa [Slot.ty.ocn] at this
            have hge := hidn.2 _ (zeB hin ps hp)
            have e := hNB p hp i cs len sz hi
            simp only [Zt, St.set, za]
            rw [if_neg (by omega), if_neg (by omega), if_neg (by omega)]
            exact e
          · rw [hpx] at e2
            refine ⟨_, Le.reseat [9] [(66, 24)] (by simp) (by simp [za, menB]) ?_, ?_⟩
            · intro b hb2 cs hcs
              simp at hb2
              subst hb2
              have hcs : h2 66 = some (some cs) := hcs
              rw [e2] at hcs
              obtain rfl : rows Slot.ty.oc rest = cs := by simpa using hcs
              exact Ye (Slot.frL rest)
            · simp only [List.length_cons] at hrz
              refine ⟨by omega, by omega, hD2, by simp [za, Zq, renA, rb], ?_, rfl⟩
              funext c
              by_cases hc24 : c = 24
              · subst hc24; simp [Yo, e2, zo]
              · have h24' : ¬ 24 = c := fun e => hc24 e.symm
                simp [Yo, zo, hc24, h24']
  | cons x rest =>
    have hle : pre.length + (rest.length + 1) = xs.length := by rw [← hx2]; simp
    have hlt : (pre.length : Int) < xs.length := by omega
    have hlt2 : pre.length < xs.length := by omega
    have hw : IntKind.i64.wrap ((pre.length : Int) + 1) = pre.length + 1 := Ya (by omega) (by omega)
    have hb1 : (out.length + 1) * 48 ≤ 140737488355328 := by omega
    obtain ⟨h', l1, l2, l3, l4⟩ := Le.openRow (ρ := ρ) (n := 68) 12 (rows Slot.ty.oc rest) (Slot.ty.oc x) 31000 (List.replicate (pre.length * 2) .un) hh (by rw [b12, Zc]) (Slot.ty.ow x) (fun i hi => by
      rw [Slot.oce] at hi
      match i with
      | 0 => exact f310
      | 1 => exact f311
      | i + 2 => simp at hi; omega) (by left; decide)
    have e0 := l3 0 _ _ _ (by rw [Slot.oce]; rfl)
    have e1 := l3 1 _ _ _ (by rw [Slot.oce]; rfl)
    simp only [Nat.add_zero] at e0
    have e0 : h' 31000 = some (some (rows B x.key)) := e0
    have e1 : h' 31001 = some (some (rows B x.b)) := e1
    have hxl : (Slot.ty.oc x).length = 2 := rfl
    have q : ∀ b, b ≠ 12 → b < 31000 → h' b = hh b := fun b h1 h2 => l4 b h1 (.inl h2)
    have b14' := (q 14 (by decide) (by decide)).trans b14
    have b24' := (q 24 (by decide) (by decide)).trans b24
    have g45 := (q 45 (by decide) (by decide)).trans f45
    have g46 := (q 46 (by decide) (by decide)).trans f46
    have g48 := (q 48 (by decide) (by decide)).trans f48
    have g50 := (q 50 (by decide) (by decide)).trans f50
    have g52 := (q 52 (by decide) (by decide)).trans f52
    have g53 := (q 53 (by decide) (by decide)).trans f53
    have g54 := (q 54 (by decide) (by decide)).trans f54
    rw [Slot.oce] at l2
    have l2 : h' 12 = some (some (List.replicate (pre.length * 2) .un ++ AV.sl 31000 0 x.key.length 1 false :: AV.sl 31001 0 x.b.length 1 false :: rows Slot.ty.oc rest)) := l2
    have hd0 : List.drop (pre.length * 2) (List.replicate (pre.length * 2) AV.un ++ AV.sl 31000 0 x.key.length 1 false :: AV.sl 31001 0 x.b.length 1 false :: rows Slot.ty.oc rest) = AV.sl 31000 0 x.key.length 1 false :: AV.sl 31001 0 x.b.length 1 false :: rows Slot.ty.oc rest := by
      rw [List.drop_left']
      simp
    have hbt : List.take x.key.length (rows B x.key) = rows B x.key := by rw [← B.count, List.take_length]
    have hrep : List.replicate (pre.length * 2) AV.un ++ (List.replicate 2 AV.un ++ rows Slot.ty.oc rest) = List.replicate ((pre.length + 1) * 2) .un ++ rows Slot.ty.oc rest := by
      rw [← List.append_assoc, List.replicate_append_replicate, Nat.succ_mul]
    have hidu : ∀ y ∈ List.replicate ((pre.length + 1) * 2) AV.un ++ rows Slot.ty.oc rest, Yb y = true := fun y hy => by
      rcases List.mem_append.1 hy with hy | hy
      · rw [(List.mem_replicate.1 hy).2]; rfl
      · exact Ye (Slot.frL rest) y hy
    refine T.le l1 ?_
    refine Zf (n := 400) ?_
    simp [k7, k10, hlt]
    refine T.text 400 mixed (by kernel_rfl) (by kernel_rfl) ?_
    by_cases hq : (strOfNums x.key).toList = (strOfNums k).toList
    · have hq' : bEq x.key k = true := by simp [bEq, hq]
      simp [k1, k7, k10, l2, e0, e1, hlt, hlt2, hd0, zL, B.count, B.num, hq, hw, hbt]
      refine ⟨pre ++ [x], rest, by simp, out, ?_⟩
      refine Le.ex ⟨_, Le.blur 12 (List.replicate (pre.length * 2) .un) [AV.sl 31000 0 x.key.length 1 false, AV.sl 31001 0 x.b.length 1 false] (rows Slot.ty.oc rest) (by simp [za, l2]) rfl, ?_⟩
      rw [show ([AV.sl 31000 0 x.key.length 1 false, AV.sl 31001 0 x.b.length 1 false] : List AV).length = 2 from rfl, hrep]
      refine ⟨_, Le.reseat [1, 7, 8, 9, 10] [(12, 12), (14, 14), (24, 24)] (by simp) (by simp [za, menB, Yb, k1, k7, k8, k9]) ?_, ?_⟩
      · intro b hb2 cs hcs
        simp at hb2
        rcases hb2 with rfl | rfl | rfl
        · simp [za] at hcs
          subst hcs
          exact hidu
        · simp [za, b14'] at hcs
          subst hcs
          exact fun x hx => Ye (Zd B.fr _) x hx
        · simp [za, b24'] at hcs
          subst hcs
          exact Ye (Slot.frL out)
      · simp [hx2, za, Zq, Yo, renA, rb, k1, k7, k8, k9, b14', b24', ← hF, hq', hw]
        omega
    · have hq' : bEq x.key k = false := by simp [bEq, hq]
      simp [k1, k7, k9, k10, l2, e0, e1, b24', g45, g46, hlt, hlt2, hd0, zL, B.count, B.num, hq, hw, Slot.ocl, over, hb1, hbt]
      refine ⟨pre ++ [x], rest, by simp, out ++ [x], ?_⟩
      refine Le.packOnX 46 (Slot.ty.oc x) [31000, 31001] (rows Slot.ty.oc out) rfl (by simp [za, Slot.oce, ysOn]) (Slot.ty.ow _) ?_ (by decide) (by decide) (fun h2 p1 p2 => ?_)
      · intro i d cs len sz hi hc
        rcases Slot.ow2 _ hc with ⟨rfl, rfl, rfl, rfl⟩ | ⟨rfl, rfl, rfl, rfl⟩ <;> (simp at hi; subst hi; simp [za, e0, e1])
      have p12 := p2 12 (by decide) (by decide)
      have p14 := p2 14 (by decide) (by decide)
      simp [za, l2] at p12
      simp [za, b14'] at p14
      refine Le.ex ⟨_, Le.blur 12 (List.replicate (pre.length * 2) .un) [AV.sl 31000 0 x.key.length 1 false, AV.sl 31001 0 x.b.length 1 false] (rows Slot.ty.oc rest) p12 rfl, ?_⟩
      rw [show ([AV.sl 31000 0 x.key.length 1 false, AV.sl 31001 0 x.b.length 1 false] : List AV).length = 2 from rfl, hrep]
      have hox : rows Slot.ty.oc (out ++ [x]) = rows Slot.ty.oc out ++ Slot.ty.oc x := by rw [ze, Zc, zf, List.append_nil]
      rw [← hox] at p1
      refine ⟨_, Le.reseat [1, 7, 8, 9, 10] [(46, 24), (12, 12), (14, 14)] (by simp) (by simp [za, menB, Yb, k1, k7, k8]) ?_, ?_⟩
      · intro b hb2 cs hcs
        simp at hb2
        rcases hb2 with rfl | rfl | rfl
        · simp [za, p1] at hcs
          subst hcs
          exact Ye (Slot.frL (out ++ [x]))
        · simp [za] at hcs
          subst hcs
          exact hidu
        · simp [za, p14] at hcs
          subst hcs
          exact fun x hx => Ye (Zd B.fr _) x hx
      · simp [hx2, za, Zq, Yo, renA, rb, k1, k7, k8, p14, p1, ← hF, hq', hw]
        omega
theorem zfE {m : Made} (h : Fit m) : Made.ty.ok m := by
  have e1 := h.task
  have e2 := h.log
  have e3 := h.num
  refine ⟨?_, ⟨?_, fun x hx => ?_⟩, ?_, trivial⟩
  · show m.task.size ≤ _; omega
  · show m.outs.length * 32 ≤ _; omega
  · obtain ⟨p1, p2⟩ := h.outs x hx
    refine ⟨?_, ?_, trivial⟩
    · show x.path.size ≤ _; omega
    · show x.text.size ≤ _; omega
  · show m.log.size ≤ _; omega
theorem zdI : Fit zq := ⟨Nat.zero_le _, Nat.zero_le _, (fun f hf => absurd hf List.not_mem_nil), Nat.zero_le _⟩
theorem zcu {xs : List Slot} {k : List Int} {m : Made} (hx : Slot.ty.slice.ok xs) (h : yw xs k = some m) : Fit m := by
  unfold yw at h
  split at h
  case isFalse => cases h
  cases hs : xs[(idx (fun s => bEq s.key k) xs 0).toNat]? with
  | none => rw [hs] at h; cases h
  | some s =>
    rw [hs] at h
    simp only at h
    obtain ⟨sb, sl⟩ := zaO (hx.2 s (List.mem_of_getElem? hs))
    cases hg : getI s.b with
    | none => rw [hg] at h; cases h
    | some m' =>
      rw [hg] at h
      simp only at h
      split at h
      · cases h; exact (zbP sb hg).1
      · cases h
def A34 : AC := (.seq (.ops [wO 2 (.box (.t 0)), qO 4 (.mov (iC 0))])
  (.seq (.ops [qO 5 (.fadr 1 (.t 2)), qO 6 (.load false 1 (.t 5)), qO 7 (.mov (.t 1)), cO 8 96 [.t 6, .t 7], qO 1 (.mov (.t 8))])
  (.seq (.ops [qO 9 (.mov (.t 1)), qO 4 (.mov (.t 9))])
  .ret)))
theorem K34 : Kf Tryz.prog Tryz.f34 A34 10 [.mov (.t 4)] := ⟨by kernel_rfl, by kernel_rfl, by kernel_rfl⟩
theorem R34 (m : Made) (k : Int) (hk : 0 < k) (hb : k + (toL File.tot m.outs : Nat) < 4611686018427387904) (hn : m.outs.length < 4611686018427387904) : MRetM Tryz.prog 34 (.string m.task) (.string m.log) (rows File.ty.oc m.outs) m.outs.length 2 (.sc (.int .i64 k)) (.sc (.int .i64 (k + toL File.tot m.outs))) (rows File.ty.oc (mkL File.mark File.tot m.outs k)) := by
  have r := R96 m.outs k hk hb hn
  constructor
  · intro hpos
    refine Ret.run Tryz.func34 K34 (by simp) rfl rfl 500 ?_
    simp [A34, iniρ]
    refine callK.io (b := 100001001) (len := m.outs.length) (sz := 2) (cs := rows File.ty.oc m.outs) rfl (by kernel_rfl) (by simp [za]) (by simp [za]) (zb File.ty.ocn _) (File.ty.frL _) (by simp [za]) rfl r (Zw File.ty _ _ _ _) (zac File.ty _) rfl ?_
    simp [ex1, File.ocl, Zu, File.frL, Ys, hpos, outC]
  · intro h0
    have r2 := r.2 h0
    refine Ret.run Tryz.func34 K34 (by simp) rfl rfl 500 ?_
    simp [A34, iniρ]
    refine callK.ro 0 rfl (by kernel_rfl) (by simp [zd, ya]) r2 rfl rfl rfl ?_
    simp
def A36 : AC := (.seq (.ops [wO 2 (.box (.t 0)), qO 4 (.mov (iC 0))])
  (.seq (.ops [qO 5 (.fadr 1 (.t 2)), qO 6 (.load false 1 (.t 5)), qO 7 (.mov (.t 1)), cO 8 100 [.t 6, .t 7], qO 1 (.mov (.t 8))])
  (.seq (.seq (.ops [qO 9 (.mov (.t 1)), qO 10 (.bin .lss (.t 9) (iC 0))])
  (.cond (.t 10) (.seq (.ops [qO 4 (.mov (iC (-1)))])
  .ret)
  .skip))
  (.seq (.ops [qO 11 (.mov (.t 1)), qO 4 (.mov (.t 11))])
  .ret))))
theorem K36 : Kf Tryz.prog Tryz.f36 A36 12 [.mov (.t 4)] := ⟨by kernel_rfl, by kernel_rfl, by kernel_rfl⟩
theorem R36 (m : Made) (k : Int) (hk : 0 < k) (hb : k + (toL File.tot m.outs : Nat) < 4611686018427387904) (hn : m.outs.length < 4611686018427387904) : Ret Tryz.prog 36 [.agg [.sc (.string m.task), .ro (rows File.ty.cs (mkL File.mark File.tot m.outs k)) m.outs.length, .sc (.string m.log)], .sc (.int .i64 k)] (.sc (.int .i64 (k + toL File.tot m.outs))) [.un, .un] := by
  have p : ¬ (k + (toL File.tot m.outs : Nat) < 0) := by omega
  refine Ret.run Tryz.func36 K36 (by simp) rfl rfl 500 ?_
  simp [A36, iniρ]
  refine callK.ro 0 rfl (by kernel_rfl) (by simp [zd, ya]) (R100 m.outs k hk hb hn) rfl rfl rfl ?_
  simp [p]
theorem Slot.rocm {h : Hp} {b n : Nat} {ms : List Slot} {lim : Bool} (hb : h b = some (some (rows Slot.ty.oc ms))) (hl : ms.length = n) : roc h 8 (.sl b 0 n 2 lim) = some (.ro (rows Slot.ty.cs ms) n) := by subst hl; exact Slot.roc8 hb
theorem zcB {xs : List Slot} {k : List Int} {m : Made} {x : Slot} (h : x ∈ zr xs k m) : x ∈ xs ∨ (x = ⟨k, putM m⟩ ∧ (putM m).length ≤ 3000) := by
  unfold zr at h
  split at h
  case isFalse => exact .inl h
  case isTrue hc =>
    obtain ⟨a, e⟩ := zan ((xs.filter fun s => !bEq s.key k) ++ [⟨k, putM m⟩])
    have h2 : x ∈ (xs.filter fun s => !bEq s.key k) ++ [(⟨k, putM m⟩ : Slot)] := by rw [← e]; exact List.mem_append_right _ h
    rcases List.mem_append.1 h2 with h2 | h2
    · exact .inl (List.mem_filter.1 h2).1
    · exact .inr ⟨by simpa using h2, hc.2⟩
theorem zbi (f : Slot → Bool) : ∀ xs : List Slot, toL Slot.tot (xs.filter f) ≤ toL Slot.tot xs
  | [] => Nat.le_refl _
  | x :: xs => by
    have ih := zbi f xs
    rw [List.filter_cons]
    split <;> simp only [toL] <;> omega
theorem zdC (xs : List Slot) (k : List Int) (m : Made) (hx : Slot.ty.slice.ok xs) (hxl : xs.length ≤ 2000000) (hk : Ty.byte.slice.ok k) : Slot.ty.slice.ok (zr xs k m) ∧ (zr xs k m).length ≤ xs.length + 1 ∧ toL Slot.tot (zr xs k m) ≤ toL Slot.tot xs + k.length + 3000 := by
  have hlen : (zr xs k m).length ≤ xs.length + 1 ∧ toL Slot.tot (zr xs k m) ≤ toL Slot.tot xs + k.length + 3000 := by
    unfold zr
    split
    case isFalse => exact ⟨by omega, by omega⟩
    case isTrue hc =>
      obtain ⟨a, e⟩ := zan ((xs.filter fun s => !bEq s.key k) ++ [⟨k, putM m⟩])
      have h1 := congrArg List.length e
      have h2 := congrArg (toL Slot.tot) e
      have h3 := List.length_filter_le (fun s : Slot => !bEq s.key k) xs
      have h4 := zbi (fun s : Slot => !bEq s.key k) xs
      have h5 := hc.2
      rw [yD, yD] at h2
      simp only [toL, Slot.tot] at h2 h4 ⊢
      simp only [List.length_append, List.length_singleton] at h1
      exact ⟨by omega, by omega⟩
  refine ⟨⟨?_, fun x hm => ?_⟩, hlen.1, hlen.2⟩
  · show (zr xs k m).length * 48 ≤ 140737488351232
    have := hlen.1
    omega
  · rcases zcB hm with hm | ⟨rfl, hl⟩
    · exact hx.2 x hm
    · refine ⟨hk, ⟨?_, y8 m⟩, trivial⟩
      show (putM m).length * 1 ≤ 140737488351232
      omega
theorem zaA {α : Type} {wt : α → Nat} : ∀ {l : List α} {x : α}, x ∈ l → wt x ≤ wtL wt l
  | y :: l, x, h => by
    simp only [wtL]
    rcases List.mem_cons.1 h with rfl | h
    · omega
    · have := zaA (wt := wt) h; omega
theorem zdi {j : Job} : ∀ (l : List ByteArray) {m : Made}, Sm m → (∀ s ∈ l, s.size ≤ 1048576) → Sm (makeF j m l).1
  | [], m, h, _ => h
  | s :: l, m, h, hs => by
    rw [makeF]
    split
    · exact zdi l (zcV h (hs s List.mem_cons_self)) fun t ht => hs t (List.mem_cons_of_mem _ ht)
    · exact h
theorem zbp {j : Job} : ∀ (l : List ByteArray) (m : Made), (makeF j m l).1.task = m.task
  | [], m => rfl
  | s :: l, m => by
    rw [makeF]
    split
    · rw [zbp l, zcx]
    · rfl
theorem zbL {j : Job} (hs : ∀ s ∈ j.acts, s.size ≤ 1048576) : Sm (makeV j).1 := zdi _ ⟨Nat.zero_le _, fun x hx => (by cases hx), Nat.zero_le _⟩ hs
theorem zak (j : Job) : (makeV j).1.task = j.name := zbp _ _
theorem fw_le {k : Nat} : ∀ {l : List File}, (∀ x ∈ l, x.path.size ≤ k ∧ x.text.size ≤ 60) → fw l ≤ l.length * (k + 64)
  | [], _ => Nat.zero_le _
  | x :: l, h => by
    have h1 := h x List.mem_cons_self
    have h2 := fw_le fun y hy => h y (List.mem_cons_of_mem x hy)
    rw [fw, List.length_cons, Nat.add_mul, Nat.one_mul]
    omega
theorem Sm.w {m : Made} (h : Sm m) (ht : m.task.size ≤ 1048576) : mw m ≤ 140737488350000 := by
  have h1 := fw_le h.f
  have h2 := h.n
  have h3 := h.l
  unfold mw
  have h4 : m.outs.length * (1048576 + 64) ≤ 6 * (1048576 + 64) := Nat.mul_le_mul_right _ h2
  omega
structure OJ (j : Job) : Prop where
  l : JL j
  s : ∀ s ∈ j.acts, s.size ≤ 1048576
  n : j.name.size ≤ 1048576
  b : jw j + j.acts.length + j.ins.length + j.envs.length + j.deps.length + ol j.deps + 100 ≤ 140737488350000
theorem OJ.key {j : Job} (h : OJ j) : (jkey j).length ≤ 140737488350000 := by
  have h1 := zcF (txJ j) []
  have h2 := h.b
  unfold jw at h2
  unfold jkey
  simp only [List.length_nil] at h1
  omega
def keptO (l : List Slot) (j : Job) (keep : Bool) : Option Made := if keep then (match yw l (jkey j) with | some m => if m.task.toList = j.name.toList then some m else none | none => none) else none
def onceV (l : List Slot) (j : Job) (keep : Bool) : List Slot × Made × Int :=
  match keptO l j keep with
  | some m => (l, m, 2)
  | none => if (makeV j).2 then (if keep then zr l (jkey j) (makeV j).1 else l, (makeV j).1, 1) else (l, zq, 3)
theorem ZF (m : Made) (b : Bool) : flt (.tup [.agg (Made.ty.oc m), .sc (.bool b)]) = true := by
  have h1 := Made.ty.flL m
  simp only [flt, flt.fltL, Bool.and_eq_true] at h1 ⊢
  exact ⟨h1, trivial, trivial⟩
theorem zdj (o : Option Made) : madeA o = .tup [.agg (Made.ty.oc (o.getD zq)), .sc (.bool o.isSome)] := by cases o <;> rfl
theorem YN : Made.ty.oc zq = [.sc (.string ⟨#[]⟩), .own [] 0 2, .sc (.string ⟨#[]⟩)] := rfl
theorem zet {l : List Slot} {j : Job} {keep : Bool} (h : keptO l j keep = none) : onceV l j keep = if (makeV j).2 then (if keep then zr l (jkey j) (makeV j).1 else l, (makeV j).1, 1) else (l, zq, 3) := by unfold onceV; rw [h]
theorem zcm {l : List Slot} {j : Job} {m : Made} (h : yw l (jkey j) = some m) (ht : m.task.toList = j.name.toList) : onceV l j true = (l, m, 2) := by
  have h2 : keptO l j true = some m := by simp [keptO, h, ht]
  unfold onceV; rw [h2]
theorem zcn {l : List Slot} {j : Job} (h : yw l (jkey j) = none) : keptO l j true = none := by simp [keptO, h]
theorem zbr {l : List Slot} {j : Job} {m : Made} (h : yw l (jkey j) = some m) (ht : ¬ m.task.toList = j.name.toList) : keptO l j true = none := by simp [keptO, h, ht]
theorem zbF {h : Hp} {b : Nat} {m : Made} (e : h b = some (some (rows File.ty.oc m.outs))) : roc h 7 (.sl b 0 m.outs.length 2 false) = some (.ro (rows File.ty.cs m.outs) m.outs.length) := File.roc7 e
def A17 : AC := (.seq (.ops [wO 4 (.box (.t 1)), qO 6 (.mov (.c .em)), wO 7 (.alloc [(.sc (.string ⟨#[]⟩)), .em, (.sc (.string ⟨#[]⟩))]), qO 8 (.mov (iC 0))])
  (.seq (.seq (.ops [qO 13 (.mov (.t 2))])
  (.cond (.t 13) (.seq (.ops [qO 15 (.mov (.t 0)), qO 16 (.load true 5 (.t 4)), cO 17 72 [.t 16], cO 18 71 [.t 15, .t 17], qO 14 (.mov (.t 18)), qO 19 (.ext (.t 14) 0), qO 20 (.ext (.t 14) 1), wO 9 (.alloc [(.sc (.string ⟨#[]⟩)), .em, (.sc (.string ⟨#[]⟩))]), nO (.store 3 (.t 9) (.t 19)), qO 10 (.mov (.t 20))])
  (.seq (.ops [qO 21 (.mov (.t 10)), qO 22 (.mov (.t 21)), qG 23 22 true (.fadr 0 (.t 9)), qG 24 22 true (.load false 1 (.t 23)), qG 25 22 true (.fadr 0 (.t 4)), qG 26 22 true (.load false 1 (.t 25)), qG 27 22 true (.bin .eql (.t 24) (.t 26)), qO 28 (.pick (.t 22) (.t 27) (.c (.sc (.bool false))))])
  (.cond (.t 28) (.seq (.any [(qO 29 (.mov (.t 0)), []), (cO 30 73 [.t 29], [0]), (qO 31 (.load true 3 (.t 9)), []), (qO 6 (.mov (.t 30)), [1, 1, 0, 1]), (nO (.store 3 (.t 7) (.t 31)), [2, 3, 0, 1, 2, 3]), (qO 8 (.mov (iC 2)), [4, 0, 1, 2, 3, 4])])
  .ret)
  .skip)))
  .skip))
  (.seq (.ops [qO 33 (.load true 5 (.t 4)), cO 34 24 [.t 33], qO 32 (.mov (.t 34)), qO 35 (.ext (.t 32) 0), qO 36 (.ext (.t 32) 1), wO 11 (.alloc [(.sc (.string ⟨#[]⟩)), .em, (.sc (.string ⟨#[]⟩))]), nO (.store 3 (.t 11) (.t 35)), qO 12 (.mov (.t 36))])
  (.seq (.block 0 (.seq (.ops [qO 38 (.mov (.t 12)), qO 39 (.not (.t 38)), qO 37 (.mov (.t 39))])
  (.cond (.t 37) (.seq (.ops [qO 40 (.mov (.t 0)), cO 41 73 [.t 40], wO 42 (.build [(.sc (.string ⟨#[]⟩)), .em, (.sc (.string ⟨#[]⟩))] []), qO 6 (.mov (.t 41)), nO (.store 3 (.t 7) (.t 42)), qO 8 (.mov (iC 3))])
  .ret)
  (.seq (.ops [qO 44 (.mov (.t 2)), qO 43 (.mov (.t 44))])
  (.cond (.t 43) (.seq (.any [(qO 45 (.mov (.t 0)), []), (qO 46 (.load true 5 (.t 4)), []), (cO 47 72 [.t 46], [1]), (qO 48 (.load true 3 (.t 11)), []), (cO 49 74 [.t 45, .t 47, .t 48], [0, 2, 3, 2]), (qO 50 (.load true 3 (.t 11)), []), (qO 6 (.mov (.t 49)), [4, 4, 0, 1, 2, 3, 4]), (nO (.store 3 (.t 7) (.t 50)), [5, 6, 0, 1, 2, 3, 4, 5, 6]), (qO 8 (.mov (iC 1)), [7, 0, 1, 2, 3, 4, 5, 6, 7])])
  .ret)
  .skip)))))
  (.seq (.any [(qO 51 (.mov (.t 0)), []), (cO 52 73 [.t 51], [0]), (qO 53 (.load true 3 (.t 11)), []), (qO 6 (.mov (.t 52)), [1, 1, 0, 1]), (nO (.store 3 (.t 7) (.t 53)), [2, 3, 0, 1, 2, 3]), (qO 8 (.mov (iC 1)), [4, 0, 1, 2, 3, 4])])
  .ret)))))
theorem K17 : Kf Tryz.prog Tryz.f17 A17 54 [.mov (.t 6), .load true 3 (.t 7), .mov (.t 8)] := ⟨by kernel_rfl, by kernel_rfl, by kernel_rfl⟩
set_option maxHeartbeats 8000000 in
set_option maxRecDepth 20000 in
theorem R17 (xs : List Slot) (j : Job) (keep : Bool) (hx : Slot.ty.slice.ok xs) (hj : OJ j) : Ret Tryz.prog 17 [.ro (rows Slot.ty.cs xs) xs.length, .agg (Job.ty.cs j), .sc (.bool keep)] (.tup [.own (rows Slot.ty.oc (onceV xs j keep).1) (onceV xs j keep).1.length 2, .agg (Made.ty.oc (onceV xs j keep).2.1), .sc (.int .i64 (onceV xs j keep).2.2)]) [.un, .un, .un] := by
  have hkl := hj.key
  have rK := R72 j (by have := hj.l.a; omega) hj.l.i hj.l.e hj.l.d hj.l.o hj.b
  have rM := R24 j hj.l hj.s
  have rC := R73 xs hx
  have rG := R71 xs (jkey j) hx
  rw [zdj] at rG
  have sm := zbL hj.s
  have ht := zak j
  have hno := fun keep => zet (l := xs) (j := j) (keep := keep)
  have hso := fun m => zcm (l := xs) (j := j) (m := m)
  have hnn := zcn (l := xs) (j := j)
  have hot := fun m => zbr (l := xs) (j := j) (m := m)
  obtain ⟨mk, hmk⟩ : ∃ p, p = makeV j := ⟨_, rfl⟩
  rw [← hmk] at rM sm ht
  simp only [← hmk] at hno
  have rP := R74 xs (jkey j) mk.1 hx (by omega) (by rw [ht]; exact hj.n) (by have := sm.n; omega) (fun x hx => (sm.f x hx).1) (sm.w (by rw [ht]; exact hj.n))
  obtain ⟨k, hk⟩ : ∃ k, k = jkey j := ⟨_, rfl⟩
  simp only [← hk] at rK rG rP hno hso hnn hot
  obtain ⟨sp, hsp⟩ : ∃ s, s = zr xs k mk.1 := ⟨_, rfl⟩
  rw [← hsp] at rP
  simp only [← hsp] at hno
  have hid := File.frL mk.1.outs
  have hsx := Slot.frL xs
  have hss := Slot.frL sp
  obtain ⟨g, hg⟩ : ∃ g, g = yw xs k := ⟨_, rfl⟩
  rw [← hg] at rG
  simp only [← hg] at hso hnn hot
  refine Ret.run Tryz.func17 K17 (by simp) rfl rfl 900 ?_
  cases keep with
  | false =>
    have hO := hno false (by rfl)
    simp [A17, iniρ, over, Job.cse]
    refine callK.ro 34 rfl (by kernel_rfl) (by simp [yd, zd, ya, za, Job.cse]) rM (ZF _ _) (by simp [inst, instL, Made.oce, za]; exact ⟨rfl, rfl⟩) rfl ?_
    cases hok : mk.2 with
    | false =>
      rw [hok] at hO
      rw [hO]
      simp [over, hok]
      refine callK.own 41 rfl (by kernel_rfl) (by simp [zd]) rC (Slot.ty.flo xs) (by simp [za]) rfl ?_
      simp [over, ex1, za, Slot.ocl, hsx, YN]
    | true =>
      rw [hok] at hO
      rw [hO]
      simp [over, hok]
      refine T.textW 400 [([], []), ([52], []), ([], [52]), ([], []), ([7], []), ([], [])] mixed (by kernel_rfl) (by kernel_rfl) ?_
      simp [over, Zb, yb]
      refine Yf.ro 52 rfl (by kernel_rfl) (by simp [zd]) rC (Slot.ty.flo xs) (by simp [inst, za, Za]; exact ⟨rfl, rfl⟩) (by rfl) ?_
      simp [over, Zb, yb, ex1, za, yc, Za, Slot.ocl, File.ocl, hsx, hid, Made.oce]
  | true =>
    simp [A17, iniρ, over, Job.cse]
    refine callK.ro 17 rfl (by kernel_rfl) (by simp [yd, zd, ya, za, Job.cse]) rK (B_fl _) (by simp [inst, za]; exact ⟨rfl, rfl⟩) rfl ?_
    simp [over]
    refine callK.ro 18 rfl (by kernel_rfl) (by simp [zd, Br, za]) rG (ZF _ _) (by simp [inst, instL, Made.oce, za]; exact ⟨rfl, rfl⟩) rfl ?_
    cases g with
    | none =>
      have hO := hno true (hnn rfl)
      simp [over]
      refine callK.le (Le.told [(0, .ro (rows Slot.ty.cs xs) xs.length), (2, .sc (.bool true)), (4, .ref 4 0), (7, .ref 7 0), (33, .agg (Job.ty.cs j))] [(4, Job.ty.cs j), (7, [.sc (.string ⟨#[]⟩), .em, .sc (.string ⟨#[]⟩)])] (by simp [toldT, Y0, yF, YF, menQ, Yb, Yb.idfreeL, za, Job.cse]) (by simp [toldB, yO, Z0, yF, zaj, YF, Yb, za, Job.cse])) ?_
      simp only [toldρ, toldH]
      refine callK.ro 34 rfl (by kernel_rfl) (by simp [yd, zd, ya, za, Job.cse]) rM (ZF _ _) (by simp [inst, instL, Made.oce, za]; exact ⟨rfl, rfl⟩) rfl ?_
      cases hok : mk.2 with
      | false =>
        rw [hok] at hO
        rw [hO]
        simp [over, hok]
        refine callK.own 41 rfl (by kernel_rfl) (by simp [zd, za]) rC (Slot.ty.flo xs) (by simp [za]) rfl ?_
        simp [over, ex1, za, Slot.ocl, hsx, YN]
      | true =>
        rw [hok] at hO
        rw [hO]
        simp [over, hok]
        refine T.textW 400 [([], [47]), ([], []), ([47], []), ([], [47]), ([49], []), ([], [47, 49]), ([], []), ([7], []), ([], [])] mixed (by kernel_rfl) (by kernel_rfl) ?_
        simp [over, Zb, yb, Job.cse]
        refine Yf.ro 47 rfl (by kernel_rfl) (by simp [yd, zd, ya, za, Job.cse]) rK (B_fl _) (by simp [inst, za, Za]; exact ⟨rfl, rfl⟩) (by rfl) ?_
        simp [over, Zb, yb]
        refine Yf.ro 49 rfl (by kernel_rfl) (by simp [yd, Zk, List.mapM_cons, List.mapM_nil, zd, ya, Br, zbF, za, Za, Made.cse]) rP (Slot.ty.flo _) (by simp [inst, za, Za]; exact ⟨rfl, rfl⟩) (by rfl) ?_
        simp [over, Zb, yb, ex1, za, yc, Za, Slot.ocl, File.ocl, hss, hid, Made.oce]
    | some y =>
      have hidy := File.frL y.outs
      by_cases hn : y.task.toList = j.name.toList
      · have hO := hso y rfl hn
        rw [hO]
        simp [over, hn]
        refine T.textW 400 [([], []), ([30], []), ([], [30]), ([], []), ([7], []), ([], [])] mixed (by kernel_rfl) (by kernel_rfl) ?_
        simp [over, Zb, yb]
        refine Yf.ro 30 rfl (by kernel_rfl) (by simp [zd]) rC (Slot.ty.flo xs) (by simp [inst, za, Za]; exact ⟨rfl, rfl⟩) (by rfl) ?_
        simp [over, Zb, yb, ex1, za, yc, Za, Slot.ocl, File.ocl, hsx, hidy, Made.oce]
      have hO := hno true (hot y rfl hn)
      simp [over, hn]
      refine callK.le (Le.told [(0, .ro (rows Slot.ty.cs xs) xs.length), (2, .sc (.bool true)), (4, .ref 4 0), (7, .ref 7 0), (33, .agg (Job.ty.cs j))] [(4, Job.ty.cs j), (7, [.sc (.string ⟨#[]⟩), .em, .sc (.string ⟨#[]⟩)])] (by simp [toldT, Y0, yF, YF, menQ, Yb, Yb.idfreeL, za, Job.cse]) (by simp [toldB, yO, Z0, yF, zaj, YF, Yb, za, Job.cse])) ?_
      simp only [toldρ, toldH]
      refine callK.ro 34 rfl (by kernel_rfl) (by simp [yd, zd, ya, za, Job.cse]) rM (ZF _ _) (by simp [inst, instL, Made.oce, za]; exact ⟨rfl, rfl⟩) rfl ?_
      cases hok : mk.2 with
      | false =>
        rw [hok] at hO
        rw [hO]
        simp [over, hok]
        refine callK.own 41 rfl (by kernel_rfl) (by simp [zd, za]) rC (Slot.ty.flo xs) (by simp [za]) rfl ?_
        simp [over, ex1, za, Slot.ocl, hsx, YN]
      | true =>
        rw [hok] at hO
        rw [hO]
        simp [over, hok]
        refine T.textW 400 [([], [47]), ([], []), ([47], []), ([], [47]), ([49], []), ([], [47, 49]), ([], []), ([7], []), ([], [])] mixed (by kernel_rfl) (by kernel_rfl) ?_
        simp [over, Zb, yb, Job.cse]
        refine Yf.ro 47 rfl (by kernel_rfl) (by simp [yd, zd, ya, za, Job.cse]) rK (B_fl _) (by simp [inst, za, Za]; exact ⟨rfl, rfl⟩) (by rfl) ?_
        simp [over, Zb, yb]
        refine Yf.ro 49 rfl (by kernel_rfl) (by simp [yd, Zk, List.mapM_cons, List.mapM_nil, zd, ya, Br, zbF, za, Za, Made.cse]) rP (Slot.ty.flo _) (by simp [inst, za, Za]; exact ⟨rfl, rfl⟩) (by rfl) ?_
        simp [over, Zb, yb, ex1, za, yc, Za, Slot.ocl, File.ocl, hss, hid, Made.oce]
def A18 : AC := (.seq (.ops [wO 4 (.box (.t 1)), qO 6 (.mov (.c .em)), wO 7 (.alloc [(.sc (.string ⟨#[]⟩)), .em, (.sc (.string ⟨#[]⟩))]), qO 8 (.mov (iC 0))])
  (.seq (.ops [qO 13 (.mov (.t 0)), cO 14 75 [.t 13], qO 9 (.mov (.t 14))])
  (.seq (.ops [qO 15 (.load true 5 (.t 4)), cO 16 69 [.t 15], qO 10 (.mov (.t 16))])
  (.seq (.ops [qO 18 (.mov (.t 0)), qO 19 (.mov (.t 10)), cO 20 76 [.t 18, .t 19], qO 17 (.mov (.t 20)), qO 21 (.ext (.t 17) 0), qO 22 (.ext (.t 17) 1), wO 11 (.alloc [(.sc (.string ⟨#[]⟩)), .em, (.sc (.string ⟨#[]⟩))]), nO (.store 3 (.t 11) (.t 21)), qO 12 (.mov (.t 22))])
  (.seq (.seq (.ops [qO 23 (.mov (.t 2)), qO 24 (.mov (.t 23)), qG 25 24 true (.mov (.t 12)), qO 26 (.pick (.t 24) (.t 25) (.c (.sc (.bool false)))), qO 27 (.mov (.t 26)), qG 28 27 true (.fadr 0 (.t 11)), qG 29 27 true (.load false 1 (.t 28)), qG 30 27 true (.fadr 0 (.t 4)), qG 31 27 true (.load false 1 (.t 30)), qG 32 27 true (.bin .eql (.t 29) (.t 31)), qO 33 (.pick (.t 27) (.t 32) (.c (.sc (.bool false))))])
  (.cond (.t 33) (.seq (.any [(qO 34 (.mov (.t 9)), []), (qO 35 (.load true 3 (.t 11)), []), (qO 6 (.mov (.t 34)), [0, 0]), (nO (.store 3 (.t 7) (.t 35)), [1, 2, 0, 1, 2]), (qO 8 (.mov (iC 2)), [3, 0, 1, 2, 3])])
  .ret)
  .skip))
  (.seq (.ops [qO 37 (.load true 5 (.t 4)), cO 38 67 [.t 37], qO 36 (.mov (.t 38)), qO 39 (.ext (.t 36) 0), qO 40 (.ext (.t 36) 1), nO (.store 3 (.t 11) (.t 39)), qO 12 (.mov (.t 40))])
  (.seq (.seq (.ops [qO 41 (.mov (.t 12)), qO 42 (.not (.t 41))])
  (.cond (.t 42) (.seq (.ops [qO 43 (.mov (.t 9)), wO 44 (.build [(.sc (.string ⟨#[]⟩)), .em, (.sc (.string ⟨#[]⟩))] []), qO 6 (.mov (.t 43)), nO (.store 3 (.t 7) (.t 44)), qO 8 (.mov (iC 3))])
  .ret)
  .skip))
  (.seq (.seq (.ops [qO 45 (.mov (.t 2))])
  (.cond (.t 45) (.ops [qO 46 (.mov (.t 0)), qO 47 (.mov (.t 10)), qO 48 (.load true 3 (.t 11)), cO 49 68 [.t 46, .t 47, .t 48], qO 9 (.mov (.t 49))])
  .skip))
  (.seq (.any [(qO 50 (.mov (.t 9)), []), (qO 51 (.load true 3 (.t 11)), []), (qO 6 (.mov (.t 50)), [0, 0]), (nO (.store 3 (.t 7) (.t 51)), [1, 2, 0, 1, 2]), (qO 8 (.mov (iC 1)), [3, 0, 1, 2, 3])])
  .ret)))))))))
theorem K18 : Kf Tryz.prog Tryz.f18 A18 52 [.mov (.t 6), .load true 3 (.t 7), .mov (.t 8)] := ⟨by kernel_rfl, by kernel_rfl, by kernel_rfl⟩
set_option maxHeartbeats 8000000 in
set_option maxRecDepth 20000 in
theorem R18 (xs : List Slot) (j : Job) (keep : Bool) (hx : Slot.ty.slice.ok xs) (hj : OJ j) : Ret Tryz.prog 18 [.ro (rows Slot.ty.cs xs) xs.length, .agg (Job.ty.cs j), .sc (.bool keep)] (.tup [.own (rows Slot.ty.oc (onceV xs j keep).1) (onceV xs j keep).1.length 2, .agg (Made.ty.oc (onceV xs j keep).2.1), .sc (.int .i64 (onceV xs j keep).2.2)]) [.un, .un, .un] := by
  have hkl := hj.key
  have rK := R69 j (by have := hj.l.a; omega) hj.l.i hj.l.e hj.l.d hj.l.o hj.b
  have rM := R67 j hj.l hj.s (by have := hj.n; omega)
  have rC := R75 xs hx
  have rG := R76 xs (jkey j) hx
  rw [zdj] at rG
  have sm := zbL hj.s
  have ht := zak j
  have hno := fun keep => zet (l := xs) (j := j) (keep := keep)
  have hso := fun m => zcm (l := xs) (j := j) (m := m)
  have hnn := zcn (l := xs) (j := j)
  have hot := fun m => zbr (l := xs) (j := j) (m := m)
  obtain ⟨mk, hmk⟩ : ∃ p, p = makeV j := ⟨_, rfl⟩
  rw [← hmk] at rM sm ht
  simp only [← hmk] at hno
  have rP := R68 xs (jkey j) mk.1 hx (by omega) (by rw [ht]; exact hj.n) (by have := sm.n; omega) (fun x hx => (sm.f x hx).1) (sm.w (by rw [ht]; exact hj.n))
  obtain ⟨k, hk⟩ : ∃ k, k = jkey j := ⟨_, rfl⟩
  simp only [← hk] at rK rG rP hno hso hnn hot
  obtain ⟨sp, hsp⟩ : ∃ s, s = zr xs k mk.1 := ⟨_, rfl⟩
  rw [← hsp] at rP
  simp only [← hsp] at hno
  have hid := File.frL mk.1.outs
  have hsx := Slot.frL xs
  have hss := Slot.frL sp
  obtain ⟨g, hg⟩ : ∃ g, g = yw xs k := ⟨_, rfl⟩
  rw [← hg] at rG
  simp only [← hg] at hso hnn hot
  have hidg := File.frL (g.getD zq).outs
  have hbk := Zd B.fr k
  refine Ret.run Tryz.func18 K18 (by simp) rfl rfl 900 ?_
  simp [A18, iniρ, over, Job.cse]
  refine callK.own 14 rfl (by kernel_rfl) (by simp [zd]) rC (Slot.ty.flo xs) (by simp [za]) rfl ?_
  simp
  refine callK.ro 16 rfl (by kernel_rfl) (by simp [yd, zd, ya, za, Job.cse]) rK (B_fl _) (by simp [inst, za]; exact ⟨rfl, rfl⟩) rfl ?_
  simp
  refine callK.ro 20 rfl (by kernel_rfl) (by simp [zd, Br, za]) rG (ZF _ _) (by simp [inst, instL, Made.oce, za]; exact ⟨rfl, rfl⟩) rfl ?_
  have kept : ∀ y : Made, g = some y → keep = true → y.task.toList = j.name.toList → onceV xs j keep = (xs, y, 2) := fun y h1 h2 h3 => by rw [h2]; exact hso y h1 h3
  by_cases hc : ∃ y, g = some y ∧ keep = true ∧ y.task.toList = j.name.toList
  · obtain ⟨y, hy, hk1, hn⟩ := hc
    have hO := kept y hy hk1 hn
    rw [hO]
    subst hy
    subst hk1
    have hidy : Yb.idfreeL (rows File.ty.oc y.outs) = true := hidg
    simp [over, hn]
    refine T.textW 400 [([], []), ([], []), ([], []), ([7], []), ([], [])] mixed (by kernel_rfl) (by kernel_rfl) ?_
    simp [over, Zb, yb, ex1, za, yc, Za, Slot.ocl, File.ocl, hsx, hidy, Made.oce]
  have hO : onceV xs j keep = if mk.2 = true then (if keep = true then sp else xs, mk.1, 1) else (xs, zq, 3) := hno keep (by
    cases keep with
    | false => rfl
    | true =>
      cases g with
      | none => exact hnn rfl
      | some y => exact hot y rfl fun h => hc ⟨y, rfl, rfl, h⟩)
  cases keep with
  | false =>
    simp [over]
    refine callK.ro 38 rfl (by kernel_rfl) (by simp [yd, zd, ya, za, Job.cse]) rM (ZF _ _) (by simp [inst, instL, Made.oce, za]; exact ⟨rfl, rfl⟩) rfl ?_
    cases hok : mk.2 with
    | false =>
      rw [hok] at hO
      have hO : onceV xs j false = (xs, zq, 3) := hO
      rw [hO]
      simp [over, hok, ex1, za, Slot.ocl, hsx, YN]
    | true =>
      rw [hok] at hO
      have hO : onceV xs j false = (xs, mk.1, 1) := hO
      rw [hO]
      simp [over, hok]
      refine T.textW 400 [([], []), ([], []), ([], []), ([7], []), ([], [])] mixed (by kernel_rfl) (by kernel_rfl) ?_
      simp [over, Zb, yb, ex1, za, yc, Za, Slot.ocl, File.ocl, hsx, hss, hid, Made.oce]
  | true =>
    cases g with
    | none =>
      simp [over]
      refine callK.ro 38 rfl (by kernel_rfl) (by simp [yd, zd, ya, za, Job.cse]) rM (ZF _ _) (by simp [inst, instL, Made.oce, za]; exact ⟨rfl, rfl⟩) rfl ?_
      cases hok : mk.2 with
      | false =>
        rw [hok] at hO
        have hO : onceV xs j true = (xs, zq, 3) := hO
        rw [hO]
        simp [over, hok, ex1, za, Slot.ocl, hsx, YN]
      | true =>
        rw [hok] at hO
        have hO : onceV xs j true = (sp, mk.1, 1) := hO
        rw [hO]
        simp [over, hok]
        refine callK.ro 49 rfl (by kernel_rfl) (by simp [yd, Zk, List.mapM_cons, List.mapM_nil, zd, ya, Br, zbF, za, Za, Made.cse]) rP (Slot.ty.flo _) (by simp [inst, za, Za]; exact ⟨rfl, rfl⟩) rfl ?_
        simp [over]
        refine T.textW 400 [([], []), ([], []), ([], []), ([7], []), ([], [])] mixed (by kernel_rfl) (by kernel_rfl) ?_
        simp [over, Zb, yb, ex1, za, yc, Za, Slot.ocl, File.ocl, hsx, hss, hid, Made.oce]
    | some y =>
      have hn : ¬ y.task.toList = j.name.toList := fun h => hc ⟨y, rfl, rfl, h⟩
      simp [over, hn]
      refine callK.ro 38 rfl (by kernel_rfl) (by simp [yd, zd, ya, za, Job.cse]) rM (ZF _ _) (by simp [inst, instL, Made.oce, za]; exact ⟨rfl, rfl⟩) rfl ?_
      cases hok : mk.2 with
      | false =>
        rw [hok] at hO
        have hO : onceV xs j true = (xs, zq, 3) := hO
        rw [hO]
        simp [over, hok, ex1, za, Slot.ocl, hsx, YN]
      | true =>
        rw [hok] at hO
        have hO : onceV xs j true = (sp, mk.1, 1) := hO
        rw [hO]
        simp [over, hok]
        refine callK.ro 49 rfl (by kernel_rfl) (by simp [yd, Zk, List.mapM_cons, List.mapM_nil, zd, ya, Br, zbF, za, Za, Made.cse]) rP (Slot.ty.flo _) (by simp [inst, za, Za]; exact ⟨rfl, rfl⟩) rfl ?_
        simp [over]
        refine T.textW 400 [([], []), ([], []), ([], []), ([7], []), ([], [])] mixed (by kernel_rfl) (by kernel_rfl) ?_
        simp [over, Zb, yb, ex1, za, yc, Za, Slot.ocl, File.ocl, hsx, hss, hid, Made.oce]
theorem zft : ∀ l : List ByteArray, sw l ≤ wtL Ty.str.wt l + 2 * l.length
  | [] => Nat.zero_le _
  | x :: l => by
    have ih := zft l
    have e : Ty.str.wt x = x.size := rfl
    simp only [sw, wtL, List.length_cons]
    omega
theorem zcy : ∀ l : List File, sw (txF l) ≤ wtL File.ty.wt l + 4 * l.length
  | [] => Nat.zero_le _
  | x :: l => by
    have ih := zcy l
    have e := File.wte x
    simp only [txF, sw, wtL, List.length_cons]
    omega
theorem zfu : ∀ l : List Env, sw (txE l) ≤ wtL Env.ty.wt l + 4 * l.length
  | [] => Nat.zero_le _
  | x :: l => by
    have ih := zfu l
    have e := Env.wte x
    simp only [txE, sw, wtL, List.length_cons]
    omega
theorem zdY : ∀ l : List Made, sw (txM l) + ol l ≤ 10 * wtL Made.ty.wt l + 40 * l.length
  | [] => Nat.zero_le _
  | x :: l => by
    have ih := zdY l
    have e := Made.wte x
    have h1 := zcy x.outs
    have h2 := Yi x.outs.length
    simp only [txM, sw, zb4, ol, wtL, List.length_cons]
    omega
theorem OJ.of {j : Job} (h : Job.ty.wt j ≤ 1048576) : OJ j := by
  rw [Job.wte] at h
  have h1 := zft j.acts
  have h2 := zcy j.ins
  have h3 := zfu j.envs
  have h4 := zdY j.deps
  have n1 := Yi j.acts.length
  have n2 := Yi j.ins.length
  have n3 := Yi j.envs.length
  have n4 := Yi j.deps.length
  refine ⟨⟨by omega, by omega, by omega, by omega, fun m hm => ?_, fun f hf => ?_⟩, fun s hs => ?_, by omega, ?_⟩
  · have := zaA (wt := Made.ty.wt) hm
    rw [Made.wte] at this
    omega
  · have := zaA (wt := File.ty.wt) hf
    rw [File.wte] at this
    omega
  · have := zaA (wt := Ty.str.wt) hs
    have e : Ty.str.wt s = s.size := rfl
    omega
  · rw [jw_eq]
    omega
theorem zdH {l : List Slot} {j : Job} {keep : Bool} (hl : Slot.ty.slice.ok l) (hn : l.length ≤ 2000000) (hj : OJ j) : Slot.ty.slice.ok (onceV l j keep).1 ∧ (onceV l j keep).1.length ≤ l.length + 1 ∧ toL Slot.tot (onceV l j keep).1 ≤ toL Slot.tot l + (jkey j).length + 3000 := by
  have hb : (jkey j).length * 1 ≤ 140737488351232 := by have := hj.key; omega
  have hp := zdC l (jkey j) (makeV j).1 hl hn ⟨hb, zew j⟩
  unfold onceV
  split
  · exact ⟨hl, by simp only; omega, by simp only; omega⟩
  · split
    · split
      · exact hp
      · exact ⟨hl, by simp only; omega, by simp only; omega⟩
    · exact ⟨hl, by simp only; omega, by simp only; omega⟩
theorem zeh {l : List Slot} {j : Job} {keep : Bool} (hl : Slot.ty.slice.ok l) (hj : OJ j) : Made.ty.ok (onceV l j keep).2.1 ∧ (onceV l j keep).2.1.outs.length ≤ 100000 := by
  have hsm := zbL hj.s
  have ht := zak j
  unfold onceV
  split
  · rename_i m hm
    have hg : yw l (jkey j) = some m := by
      unfold keptO at hm
      split at hm
      · split at hm
        · split at hm
          · rename_i h _; rw [h]; exact hm
          · cases hm
        · cases hm
      · cases hm
    have hf := zcu hl hg
    exact ⟨zfE hf, by have := hf.num; simp only; omega⟩
  · split
    · refine ⟨hsm.made (by rw [ht]; have := hj.n; omega), ?_⟩
      have := hsm.n
      simp only
      omega
    · exact ⟨zfE zdI, Nat.zero_le _⟩
end Go.Proofs.YtopofpihpnjmbaaGreatDoor.Am
