/- The small machine and the contracts of the functions, part 4 (Copies, CachePut, MarksM, PutLaw, Once, OnceS, OnceLaw, Damage, DrawCache, DrawCache2, DrawJob, JobBounds, DrawOnce, CachesLaw, OnceLaw2); no condition. -/
import Derived.Test.YtopofpihpnjmbaaGreatDoorProg
import Derived.Test.YtopofpihpnjmbaaGreatDoorAmZ
import Derived.Test.YtopofpihpnjmbaaGreatDoorAmP
import Derived.Test.YtopofpihpnjmbaaGreatDoorB3
import Derived.KernelRfl
import Derived.Test.YtopofpihpnjmbaaGreatDoorAmN
import Derived.Test.YtopofpihpnjmbaaGreatDoorB2
import Derived.Test.YtopofpihpnjmbaaGreatDoorB1
import Derived.Test.YtopofpihpnjmbaaGreatDoorAmV
namespace Go.Proofs.YtopofpihpnjmbaaGreatDoor.Am
open Go Go.Proofs
set_option linter.unusedSimpArgs false
set_option linter.unusedVariables false
attribute [local congr] yP yt zq
attribute [local simp] yM ZM zM yL zC Zy YL ZB zk Zo YB Zk Yo yB YM YC yC ZC zJ YI yI y1 Z1 Z2 Y1 ZW zW yW ZD Za Ya wblk zD yy YO zP aval dOk za ev_t ev_c zw zy yZ yA isIo hasIo sbin endR fin resL one outL out1 clo1 cloL coe coeL shut shut.shutL wantA weff cellsOf fillA deref natOf ρ0_app Y0 plain plain.plainL Zf Ye Yk Yt Zq yH Zw Zn yk ZN zt Zp nilA srcOf Zr Yp yn renA rb
def A75 : AC := (.seq (.ops [qO 2 (.mov (.c .em))])
  (.seq (.ops [wO 5 (.bsl 2 0 [] []), qO 3 (.mov (.t 5))])
  (.seq (.seq (.ops [qO 4 (.mov (iC 0))])
  (.block 0 (.loop (.seq (.seq (.ops [qO 6 (.mov (.t 4)), qO 7 (.mov (.t 0)), qO 8 (.llen (.t 7)), qO 9 (.bin .lss (.t 6) (.t 8))])
  (.cond (.t 9) .skip
  (.exit 0)))
  (.seq (.block 1 (.any [(qO 12 (.mov (.t 3)), []), (wO 13 (.bsl 1 0 [] []), []), (qO 14 (.mov (.t 0)), []), (qO 15 (.mov (.t 4)), []), (qO 16 (.iadr 2 (.t 14) (.t 15)), [2, 3]), (qO 17 (.fadr 0 (.t 16)), [4]), (qO 18 (.load false 1 (.t 17)), [5]), (wO 19 (.app 1 1 false (.t 13) (.t 18)), [1, 6]), (wO 20 (.bsl 1 0 [] []), []), (qO 21 (.mov (.t 0)), []), (qO 22 (.mov (.t 4)), []), (qO 23 (.iadr 2 (.t 21) (.t 22)), [9, 10]), (qO 24 (.fadr 1 (.t 23)), [11]), (qO 25 (.load false 1 (.t 24)), [12]), (wO 26 (.app 1 1 false (.t 20) (.t 25)), [8, 13, 7]), (wO 27 (.build [.em, .em] [(0, 1, (.t 19)), (1, 1, (.t 26))]), [7, 14]), (wO 28 (.bsl 2 1 [.em, .em] [(0, 2, (.t 27))]), [15]), (wO 29 (.app 2 48 false (.t 12) (.t 28)), [0, 16, 14]), (qO 3 (.mov (.t 29)), [17, 17, 0, 1, 2, 3, 4, 5, 6, 7, 8, 9, 10, 11, 12, 13, 14, 15, 16, 17])]))
  (.ops [qO 10 (.mov (.t 4)), qO 11 (.bin .add (.t 10) (iC 1)), qO 4 (.mov (.t 11))]))))))
  (.seq (.ops [qO 30 (.mov (.t 3)), qO 2 (.mov (.t 30))])
  .ret))))
theorem K75 : Kf Tryz.prog Tryz.f75 A75 31 [.mov (.t 2)] := ⟨by kernel_rfl, by kernel_rfl, by kernel_rfl⟩
theorem R75 (xs : List Slot) (hx : Slot.ty.slice.ok xs) : Ret Tryz.prog 75 [.ro (rows Slot.ty.cs xs) xs.length] (.own (rows Slot.ty.oc xs) xs.length 2) [.un] := by
  have hb : xs.length * 48 ≤ 140737488351232 := hx.1
  have hs : ∀ x ∈ xs, Slot.ty.ok x := hx.2
  refine Ret.run Tryz.func75 K75 (by simp) rfl rfl 500 ?_
  simp [A75, iniρ]
  refine T.rounds (μ := fun i : List Slot × List Slot => i.2.length)
    (fun i s => i.1 ++ i.2 = xs ∧ s.ρ 0 = .ro (rows Slot.ty.cs xs) xs.length ∧ s.ρ 3 = .sl 5 0 i.1.length 2 false ∧ s.ρ 4 = .sc (.int .i64 i.1.length) ∧ s.h 5 = some (some (rows Slot.ty.oc i.1)) ∧ s.h 13 = none ∧ s.h 19 = none ∧ s.h 20 = none ∧ s.h 26 = none ∧ s.h 28 = none ∧ s.h 29 = none ∧ s.n = 31) ([], xs) (by simp [za, Yf]) ?_
  rintro ⟨pre, rest⟩ ⟨ρ, hh, n⟩ ⟨hx, h0', h3', h4', h7', f1, f2, f3, f4, f5, f6, rfl⟩
  simp only at hx h0' h3' h4' h7' f1 f2 f3 f4 f5 f6
  refine yg (n := 400) ?_
  cases rest with
  | nil =>
    simp at hx
    subst hx
    simp [h0', h3', h4']
    refine T.on 400 ?_
    simp [h3', h7', ex1, Slot.ocl, Slot.frL]
  | cons x rest =>
    have hle : pre.length + (rest.length + 1) = xs.length := by rw [← hx]; simp
    have hlt : (pre.length : Int) < xs.length := by omega
    have hlt2 : pre.length < xs.length := by omega
    have hxs : Slot.ty.ok x := hs x (by rw [← hx]; simp)
    have hkb : x.key.length ≤ 140737488355328 := by have : x.key.length * 1 ≤ 140737488351232 := hxs.1.1; omega
    have hbb : x.b.length ≤ 140737488355328 := by have : x.b.length * 1 ≤ 140737488351232 := hxs.2.1.1; omega
    have hd := ye Slot.ty.csn pre (x :: rest)
    rw [hx, yc] at hd
    have hd : List.drop (pre.length * 2) (rows Slot.ty.cs xs) = AV.ro (rows B x.key) x.key.length :: AV.ro (rows B x.b) x.b.length :: rows Slot.ty.cs rest := hd
    have hd1 : List.drop (pre.length * 2 + 1) (rows Slot.ty.cs xs) = AV.ro (rows B x.b) x.b.length :: rows Slot.ty.cs rest := by rw [← List.drop_drop, hd]; rfl
    have hw : IntKind.i64.wrap ((pre.length : Int) + 1) = pre.length + 1 := zc (by omega) (by omega)
    have hb1 : (pre.length + 1) * 48 ≤ 140737488355328 := by omega
    simp [h0', h3', h4', hlt]
    refine T.textW 400 [([], [13, 19, 20, 26, 28]), ([13], [20]), ([], [13, 20]), ([], [13, 20]), ([], [13, 20]), ([], [13, 20]), ([], [13, 20]), ([13, 19], [20]), ([20], [13, 19]), ([], [13, 19, 20]), ([], [13, 19, 20]), ([], [13, 19, 20]), ([], [13, 19, 20]), ([], [13, 19, 20]), ([20, 26], []), ([], []), ([28], []), ([5, 28, 29], []), ([], [])] mixed (by kernel_rfl) (by kernel_rfl) ?_
    simp [h0', h3', h4', h7', f1, f2, f3, f4, f5, f6, hlt, hlt2, hd, hd1, Zb, yb, B.count, Slot.ocl, over, hkb, hbb, hb1]
    refine ⟨pre ++ [x], rest, by simp, ?_⟩
    refine Le.grow [0, 3, 4] 29 5 [19, 26] (rows Slot.ty.oc pre) (Slot.ty.oc x) rfl (by simp [za, Slot.oce, ysOn]) (Slot.ty.ow x) (Ym (fun x c hc => (Slot.ty.ow x c hc).fr) _) ?_ (by decide) (by decide) (by simp [za, menB, zb, h0']) ?_
    · intro i e cs len sz hi hc
      rcases Slot.ow2 _ hc with ⟨rfl, rfl, rfl, rfl⟩ | ⟨rfl, rfl, rfl, rfl⟩ <;> (simp at hi; subst hi; simp [za])
    · simp [hx, za, h0', yr, hw, Yd, yc, Yf]
theorem R150 (xs : List Int) (hb : xs.length ≤ 140737488355328) : Ret Tryz.prog 150 [.ro (rows B xs) xs.length] (.own (rows B xs) xs.length 1) [.un] := Ret.clone Ty.byte rfl (bytes := 1) Tryz.func150 ⟨by kernel_rfl, by kernel_rfl, by kernel_rfl⟩ xs (by omega)
def A73 : AC := (.seq (.ops [qO 2 (.mov (.c .em))])
  (.seq (.ops [qO 3 (.mov (.c .em))])
  (.seq (.seq (.ops [qO 6 (.mov (.t 0)), qO 7 (.llen (.t 6)), qO 8 (.mov (iC 0))])
  (.block 0 (.loop (.seq (.ops [qO 9 (.bin .lss (.t 8) (.t 7))])
  (.seq (.cond (.t 9) .skip
  (.exit 0))
  (.seq (.block 1 (.seq (.ops [qO 10 (.iadr 2 (.t 6) (.t 8)), qO 11 (.load true 2 (.t 10)), wO 5 (.alloc [.em, .em]), nO (.store 2 (.t 5) (.t 11))])
  (.any [(qO 12 (.mov (.t 3)), []), (qO 13 (.fadr 0 (.t 5)), []), (qO 14 (.load false 1 (.t 13)), [1]), (cO 15 150 [.t 14], [2]), (qO 16 (.fadr 1 (.t 5)), []), (qO 17 (.load false 1 (.t 16)), [4]), (cO 18 150 [.t 17], [5, 3]), (wO 19 (.build [.em, .em] [(0, 1, (.t 15)), (1, 1, (.t 18))]), [3, 6]), (wO 20 (.bsl 2 1 [.em, .em] [(0, 2, (.t 19))]), [7]), (wO 21 (.app 2 48 false (.t 12) (.t 20)), [0, 8, 6]), (qO 3 (.mov (.t 21)), [9, 9, 0, 1, 2, 3, 4, 5, 6, 7, 8, 9])])))
  (.ops [qO 22 (.bin .add (.t 8) (iC 1)), qO 8 (.mov (.t 22))])))))))
  (.seq (.ops [qO 23 (.mov (.t 3)), qO 2 (.mov (.t 23))])
  .ret))))
theorem K73 : Kf Tryz.prog Tryz.f73 A73 24 [.mov (.t 2)] := ⟨by kernel_rfl, by kernel_rfl, by kernel_rfl⟩
theorem R73 (xs : List Slot) (hx : Slot.ty.slice.ok xs) : Ret Tryz.prog 73 [.ro (rows Slot.ty.cs xs) xs.length] (.own (rows Slot.ty.oc xs) xs.length 2) [.un] := by
  have hb : xs.length * 48 ≤ 140737488351232 := hx.1
  have hs : ∀ x ∈ xs, Slot.ty.ok x := hx.2
  refine Ret.run Tryz.func73 K73 (by simp) rfl rfl 500 ?_
  simp [A73, iniρ]
  refine T.le (Le.lay 3 40 2 (by simp [za]) (by simp)) ?_
  refine T.rounds (μ := fun i : List Slot × List Slot => i.2.length)
    (fun i s => i.1 ++ i.2 = xs ∧ s.ρ 3 = .sl 40 0 i.1.length 2 false ∧ s.ρ 6 = .ro (rows Slot.ty.cs xs) xs.length ∧ s.ρ 7 = .sc (.int .i64 xs.length) ∧ s.ρ 8 = .sc (.int .i64 i.1.length) ∧ s.h 40 = some (some (rows Slot.ty.oc i.1)) ∧ s.h 5 = none ∧ s.h 15 = none ∧ s.h 18 = none ∧ s.h 20 = none ∧ s.h 21 = none ∧ s.n = 24) ([], xs) (by simp [za, Yf]) ?_
  rintro ⟨pre, rest⟩ ⟨ρ, hh, n⟩ ⟨hx, h3', h6', h7', h8', h40, f1, f2, f3, f4, f5, rfl⟩
  simp only at hx h3' h6' h7' h8' h40 f1 f2 f3 f4 f5
  refine yg (n := 400) ?_
  cases rest with
  | nil =>
    simp at hx
    subst hx
    simp [h7', h8']
    refine T.on 400 ?_
    simp [h3', h40, ex1, Slot.ocl, Slot.frL]
  | cons x rest =>
    have hle : pre.length + (rest.length + 1) = xs.length := by rw [← hx]; simp
    have hlt : (pre.length : Int) < xs.length := by omega
    have hlt2 : pre.length < xs.length := by omega
    have hxs : Slot.ty.ok x := hs x (by rw [← hx]; simp)
    have hkb : x.key.length ≤ 140737488355328 := by have : x.key.length * 1 ≤ 140737488351232 := hxs.1.1; omega
    have hbb : x.b.length ≤ 140737488355328 := by have : x.b.length * 1 ≤ 140737488351232 := hxs.2.1.1; omega
    have hd := ye Slot.ty.csn pre (x :: rest)
    rw [hx, yc] at hd
    have hd : List.drop (pre.length * 2) (rows Slot.ty.cs xs) = AV.ro (rows B x.key) x.key.length :: AV.ro (rows B x.b) x.b.length :: rows Slot.ty.cs rest := hd
    have hw : IntKind.i64.wrap ((pre.length : Int) + 1) = pre.length + 1 := zc (by omega) (by omega)
    have hb1 : (pre.length + 1) * 48 ≤ 140737488355328 := by omega
    simp [h3', h6', h7', h8', hlt, hlt2, hd, f1, over]
    refine T.textW 400 [([], [15, 18, 20]), ([], []), ([], []), ([15], []), ([], [15]), ([], [15]), ([18], []), ([], []), ([20], []), ([40, 20, 21], []), ([], [])] mixed (by kernel_rfl) (by kernel_rfl) ?_
    simp [h3', h6', h7', h8', Zb, yb]
    refine yf.ro 15 rfl (by kernel_rfl) (by simp [ze]) (R150 x.key hkb) (B.flo _) (by simp [inst, za, f2]; exact ⟨rfl, rfl⟩) (by rfl) ?_
    simp [Zb, yb]
    refine yf.ro 18 rfl (by kernel_rfl) (by simp [ze]) (R150 x.b hbb) (B.flo _) (by simp [inst, za, f3]; exact ⟨rfl, rfl⟩) (by rfl) ?_
    simp [h3', h6', h7', h8', h40, f1, f2, f3, f4, f5, Zb, yb, B.count, Slot.ocl, over, hb1]
    refine ⟨pre ++ [x], rest, by simp, ?_⟩
    refine Le.grow [3, 6, 7, 8] 21 40 [15, 18] (rows Slot.ty.oc pre) (Slot.ty.oc x) rfl (by simp [za, Slot.oce, ysOn]) (Slot.ty.ow x) (Ym (fun x c hc => (Slot.ty.ow x c hc).fr) _) ?_ (by decide) (by decide) (by simp [za, menB, zb, h6', h7']) ?_
    · intro i e cs len sz hi hc
      rcases Slot.ow2 _ hc with ⟨rfl, rfl, rfl, rfl⟩ | ⟨rfl, rfl, rfl, rfl⟩ <;> (simp at hi; subst hi; simp [za])
    · simp [hx, za, h6', h7', yr, hw, Yd, yc, Yf]
def Zu : List Slot → List Slot
  | [] => []
  | x :: l => if l.length = 0 ∨ zx (x :: l) = true then x :: l else Zu l
def Zh (xs : List Slot) (k : List Int) (m : Made) : List Slot :=
  if YD m = true ∧ (putM m).length ≤ 3000 then Zu ((xs.filter fun s => !bEq s.key k) ++ [⟨k, putM m⟩]) else xs
theorem zaA : ∀ (l : List Slot), ∃ a, a ++ Zu l = l
  | [] => ⟨[], rfl⟩
  | x :: l => by
    by_cases h : l.length = 0 ∨ zx (x :: l) = true
    · exact ⟨[], by rw [Zu, if_pos h]; rfl⟩
    · obtain ⟨a, e⟩ := zaA l
      exact ⟨x :: a, by rw [Zu, if_neg h, List.cons_append, e]⟩
theorem zeJ {α : Type} {f : α → List AV} {q : AV → Prop} (h : ∀ x, ∀ c ∈ f x, q c) (xs : List α) : ∀ c ∈ rows f xs, q c := by
  intro c hc
  simp only [rows, List.mem_flatten, List.mem_map] at hc
  obtain ⟨_, ⟨x, _, rfl⟩, hc⟩ := hc
  exact h x c hc
theorem Slot.frC (xs : List Slot) : zb.idfreeL (rows Slot.ty.cs xs) = true := Yx _ (zB (Ym Slot.ty.sh xs))
def A153 : AC := (.seq (.ops [wO 2 (.box (.t 0)), qO 3 (.mov (.c (.sc (.bool false))))])
  (.seq (.ops [qO 4 (.fadr 0 (.t 2)), qO 5 (.load false 1 (.t 4)), qO 6 (.load false 1 (.t 1)), cO 7 154 [.t 5, .t 6], qO 3 (.mov (.t 7))])
  .ret))
theorem K153 : Kf Tryz.prog Tryz.f153 A153 8 [.mov (.t 3)] := ⟨by kernel_rfl, by kernel_rfl, by kernel_rfl⟩
theorem R153 (s : Slot) (k : List Int) : Ret Tryz.prog 153 [.agg (Slot.ty.cs s), .rp [.ro (rows B k) k.length] 0] (.sc (.bool (bEq s.key k))) [.un, .un] := by
  refine Ret.run Tryz.func153 K153 (by simp) rfl rfl 500 ?_
  simp [A153, iniρ, Slot.cseB]
  refine callK.ro 7 rfl (by kernel_rfl) (by simp [ze, Yc, Zg, za]; rfl) (R154 s.key k) rfl rfl rfl ?_
  simp
theorem R152 (g : FuncId) (caps : List AV) (f : Slot → Bool) (hg : callB Tryz.prog g = true) (hsh : shut.shutL caps = true) (xs : List Slot) (hR : ∀ x ∈ xs, Ret Tryz.prog g (.agg (Slot.ty.cs x) :: caps) (.sc (.bool (f x))) (.un :: caps.map fun _ => .un)) (hb : xs.length < 4611686018427387904) :
    Ret Tryz.prog 152 [.own (rows Slot.ty.oc xs) xs.length 2, .clo g caps] (.own (rows Slot.ty.oc (xs.filter fun x => !f x)) (xs.filter fun x => !f x).length 2) [.un, .un] :=
  Ret.deleteFuncO Slot.ty (by decide) (ix := 205) Tryz.func152 ⟨by kernel_rfl, by kernel_rfl, by kernel_rfl⟩ g caps f hg (by kernel_rfl) hsh xs hR (R205 g caps f hg hsh xs hR hb) hb
theorem R156 (xs : List Slot) : Ret Tryz.prog 156 [.own (rows Slot.ty.oc xs) xs.length 2] (.own (rows Slot.ty.oc xs) xs.length 2) [.un] := Ret.clip Slot.ty Tryz.func156 ⟨by kernel_rfl, by kernel_rfl, by kernel_rfl⟩ xs
def A74 : AC := (.seq (.ops [wO 4 (.box (.t 1)), wO 5 (.box (.t 2)), qO 6 (.mov (.c .em))])
  (.seq (.ops [qO 9 (.mov (.t 0)), cO 10 73 [.t 9], qO 7 (.mov (.t 10))])
  (.seq (.ops [qO 11 (.load true 3 (.t 5)), cO 12 151 [.t 11], qO 8 (.mov (.t 12))])
  (.seq (.seq (.ops [qO 13 (.load true 3 (.t 5)), cO 14 146 [.t 13], qO 15 (.not (.t 14)), qO 16 (.mov (.t 15)), qG 17 16 false (.mov (.t 8)), qG 18 16 false (.llen (.t 17)), qG 19 16 false (.bin .gtr (.t 18) (iC 3000)), qO 20 (.pick (.t 16) (.c (.sc (.bool true))) (.t 19))])
  (.cond (.t 20) (.seq (.ops [qO 21 (.mov (.t 7)), qO 6 (.mov (.t 21))])
  .ret)
  .skip))
  (.seq (.ops [qO 22 (.mov (.t 7)), qO 23 (.mkf 153 [.t 4]), cO 24 152 [.t 22, .t 23], qO 7 (.mov (.t 24))])
  (.seq (.ops [qO 25 (.mov (.t 7)), qO 26 (.load false 1 (.t 4)), cO 27 150 [.t 26], qO 28 (.mov (.t 8)), wO 29 (.build [.em, .em] [(0, 1, (.t 27)), (1, 1, (.t 28))]), wO 30 (.bsl 2 1 [.em, .em] [(0, 2, (.t 29))]), wO 31 (.app 2 48 false (.t 25) (.t 30)), qO 7 (.mov (.t 31))])
  (.seq (.block 0 (.loop (.seq (.seq (.ops [qO 32 (.mov (.t 7)), qO 33 (.llen (.t 32)), qO 34 (.bin .gtr (.t 33) (iC 1)), qO 35 (.mov (.t 34)), qG 36 35 true (.mov (.t 7)), cG 37 35 true 155 [.t 36], qG 38 35 true (.not (.t 37)), qO 39 (.pick (.t 35) (.t 38) (.c (.sc (.bool false))))])
  (.cond (.t 39) .skip
  (.exit 0)))
  (.block 1 (.ops [qO 40 (.mov (.t 7)), qO 41 (.subl 2 (.t 40) (some (iC 1)) none), qO 7 (.mov (.t 41))])))))
  (.seq (.ops [qO 42 (.mov (.t 7)), cO 43 156 [.t 42], qO 6 (.mov (.t 43))])
  .ret))))))))
theorem K74 : Kf Tryz.prog Tryz.f74 A74 44 [.mov (.t 6)] := ⟨by kernel_rfl, by kernel_rfl, by kernel_rfl⟩
set_option maxHeartbeats 4000000 in
theorem R74 (xs : List Slot) (k : List Int) (m : Made) (hx : Slot.ty.slice.ok xs) (hk : k.length ≤ 140737488355328) (h1 : m.task.size ≤ 1048576) (hn : m.outs.length < 4611686018427387904) (hp : ∀ x ∈ m.outs, x.path.size ≤ 1048576) (hm : mw m ≤ 140737488350000) :
    Ret Tryz.prog 74 [.ro (rows Slot.ty.cs xs) xs.length, .ro (rows B k) k.length, .agg (Made.ty.cs m)] (.own (rows Slot.ty.oc (Zh xs k m)) (Zh xs k m).length 2) [.un, .un, .un] := by
  have hb : xs.length * 48 ≤ 140737488351232 := hx.1
  have hb2 : xs.length < 4611686018427387904 := by omega
  have r1 := R73 xs hx
  have r2 := R151 m hn hm
  have r3 := R146 m h1 hn hp
  obtain ⟨pb, hpb⟩ : ∃ pb, pb = putM m := ⟨_, rfl⟩
  rw [← hpb] at r2
  obtain ⟨mo, hmo⟩ : ∃ mo, mo = YD m := ⟨_, rfl⟩
  rw [← hmo] at r3
  have hS : Zh xs k m = if mo = true ∧ pb.length ≤ 3000 then Zu ((xs.filter fun s => !bEq s.key k) ++ [⟨k, pb⟩]) else xs := by rw [Zh, hmo, hpb]
  rw [hS]
  refine Ret.run Tryz.func74 K74 (by simp) rfl rfl 500 ?_
  simp [A74, iniρ, Made.cse]
  refine callK.ro 10 rfl (by kernel_rfl) (by simp [ze]) r1 (Slot.ty.flo xs) (by simp [inst, za]; exact ⟨rfl, rfl⟩) rfl ?_
  simp
  refine callK.ro 12 rfl (by kernel_rfl) (by simp [ze, Yc, Zg, za]; rfl) r2 (B_fl _) (by simp [inst, za]; exact ⟨rfl, rfl⟩) rfl ?_
  simp
  refine callK.ro 14 rfl (by kernel_rfl) (by simp [ze, Yc, Zg, za]; rfl) r3 rfl rfl rfl ?_
  cases hc : mo
  case false =>
    simp [ex1, Slot.ocl, Slot.frL]
  by_cases hl : pb.length ≤ 3000
  case neg =>
    have hl' : (3000 : Int) < pb.length := by omega
    simp [hl, hl', ex1, Slot.ocl, Slot.frL]
  have hl' : ¬ (3000 : Int) < pb.length := by omega
  have rd := R152 153 [.rp [.ro (rows B k) k.length] 0] (fun s => bEq s.key k) (by kernel_rfl) rfl xs (fun x _ => R153 x k) hb2
  obtain ⟨ys, hys⟩ : ∃ ys, ys = xs.filter fun s => !bEq s.key k := ⟨_, rfl⟩
  have hyl : ys.length ≤ xs.length := by rw [hys]; exact List.length_filter_le _ _
  rw [← hys] at rd
  simp [hl, hl', ← hys]
  refine callK.mv1 24 10 rfl (by kernel_rfl) (by simp [za]) (by simp [za]) (Slot.ocl xs) (Slot.frL xs) (vs := [.clo 153 [.rp [.ro (rows B k) k.length] 0]]) (by simp [roc, za]) rd (Slot.ty.flo _) (by simp [inst, za]; exact ⟨rfl, rfl⟩) rfl ?_
  have hb1 : (ys.length + 1) * 48 ≤ 140737488355328 := by omega
  simp
  refine callK.ro 27 rfl (by kernel_rfl) (by simp [ze, za]) (R150 k hk) (B.flo _) (by simp [inst, za]; exact ⟨rfl, rfl⟩) (by rfl) ?_
  simp [B.count, Slot.ocl, over, hb1]
  have hall : rows Slot.ty.oc (ys ++ [⟨k, pb⟩]) = rows Slot.ty.oc ys ++ Slot.ty.oc ⟨k, pb⟩ := by rw [Yd, yc, Yf, List.append_nil]
  obtain ⟨zs, hzs⟩ : ∃ zs, zs = ys ++ [(⟨k, pb⟩ : Slot)] := ⟨_, rfl⟩
  have hzn : zs.length ≤ xs.length + 1 := by rw [hzs]; simp; omega
  rw [← hzs]
  refine T.roundsL (μ := fun i : List Slot × List Slot => i.2.length)
    (fun i s => i.1 ++ i.2 = zs ∧ 0 < i.2.length ∧ Zu i.2 = Zu zs ∧ s.ρ 7 = .sl 31 (i.1.length * 2) i.2.length 2 false ∧ s.h = oneH 31 (rows Slot.ty.oc zs) ∧ s.n = 44) ([], zs) ?_ ?_
  · refine Le.grow [7] 31 31 [27, 12] (rows Slot.ty.oc ys) (Slot.ty.oc ⟨k, pb⟩) rfl (by simp [za, Slot.oce, ysOn]) (Slot.ty.ow _) (Ym (fun x c hc => (Slot.ty.ow x c hc).fr) _) ?_ (by decide) (by decide) (by simp [za, menB]) ?_
    · intro i e cs len sz hi hc
      rcases Slot.ow2 _ hc with ⟨rfl, rfl, rfl, rfl⟩ | ⟨rfl, rfl, rfl, rfl⟩ <;> (simp at hi; subst hi; simp [za])
    · refine ⟨by simp, by simp [hzs], rfl, ?_, ?_, rfl⟩
      · simp [za, Yp, renA, rb, hzs]
      · rw [hzs, hall]
  rintro ⟨pre, rest⟩ ⟨ρ, hh, n⟩ ⟨hx2, hpos, hD, h7', rfl, rfl⟩
  simp only at hx2 hpos hD h7'
  refine yg (n := 400) ?_
  cases rest with
  | nil => simp at hpos
  | cons x rest =>
    have hle : pre.length + (rest.length + 1) = zs.length := by rw [← hx2]; simp
    have hroc : roc (oneH 31 (rows Slot.ty.oc zs)) 8 (.sl 31 (pre.length * 2) (rest.length + 1) 2 false) = some (.ro (rows Slot.ty.cs (x :: rest)) (x :: rest).length) := Ty.rocO Slot.ty (xs := x :: rest) (by decide) (pre := rows Slot.ty.oc pre) (by rw [← hx2, Yd]; simp [yr]) (Slot.ocl pre)
    have hdr : (rows Slot.ty.oc zs).drop (pre.length * 2) = rows Slot.ty.oc (x :: rest) := by rw [← hx2]; exact ye Slot.ty.ocn pre (x :: rest)
    have hof : pre.length * 2 ≤ (rows Slot.ty.oc zs).length := by rw [Slot.ocl]; omega
    have hfr : ∀ c ∈ rows Slot.ty.oc zs, zb c = true := Ym (fun x c hc => (Slot.ty.ow x c hc).fr) _
    have rok := R155 (x :: rest) (by simp only [List.length_cons]; omega)
    have rcl := R156 (x :: rest)
    simp only [List.length_cons] at h7' rok hroc rcl
    by_cases hz : rest.length = 0
    · have hz0 : ¬ (1 : Int) < rest.length + 1 := by omega
      have e : Zu zs = x :: rest := by rw [← hD, Zu, if_pos (.inl hz)]
      rw [e]
      simp [h7', hz0]
      refine T.le (Le.front (off := pre.length * 2) (len := rest.length + 1) (sz := 2) (lim := false) [] 7 31 (by simp [za, h7']) (by simp [yr]) hof (by simp) hfr) ?_
      rw [hdr]
      refine T.on 400 ?_
      simp [za]
      refine callK.mv1 43 31 rfl (by kernel_rfl) (by simp [za]) (by simp [yr]) (Slot.ocl (x :: rest)) (Slot.frL _) (vs := []) (by simp) rcl (Slot.ty.flo (x :: rest)) (by simp [inst, za, yr]; exact ⟨rfl, rfl⟩) rfl ?_
      simp [ex1, Slot.ocl, Slot.frL]
    · have hz0 : (1 : Int) < rest.length + 1 := by omega
      simp [h7', hz0]
      refine callK.ro 37 rfl (by kernel_rfl) (by simp [hroc]) rok rfl rfl rfl ?_
      cases hco : zx (x :: rest) with
      | true =>
        have e : Zu zs = x :: rest := by rw [← hD, Zu, if_pos (.inr hco)]
        rw [e]
        simp [h7']
        refine T.le (Le.front (off := pre.length * 2) (len := rest.length + 1) (sz := 2) (lim := false) [] 7 31 (by simp [za, h7']) (by simp [yr]) hof (by simp) hfr) ?_
        rw [hdr]
        refine T.on 400 ?_
        simp [za]
        refine callK.mv1 43 31 rfl (by kernel_rfl) (by simp [za]) (by simp [yr]) (Slot.ocl (x :: rest)) (Slot.frL _) (vs := []) (by simp) rcl (Slot.ty.flo (x :: rest)) (by simp [inst, za, yr]; exact ⟨rfl, rfl⟩) rfl ?_
        simp [ex1, Slot.ocl, Slot.frL]
      | false =>
        have hno : ¬ (rest.length = 0 ∨ zx (x :: rest) = true) := by rw [hco]; simp [hz]
        have hD2 : Zu rest = Zu zs := by rw [← hD, Zu, if_neg hno]
        simp [h7']
        refine ⟨pre ++ [x], rest, by simp, _, Le.refl _, ?_⟩
        simp [hx2, hD2, za]
        omega
def A68 : AC := (.seq (.ops [wO 5 (.box (.t 2)), qO 6 (.mov (.c .em))])
  (.seq (.ops [qO 11 (.mov (.t 0)), cO 12 75 [.t 11], qO 7 (.mov (.t 12))])
  (.seq (.ops [qO 13 (.load true 3 (.t 5)), cO 14 137 [.t 13], qO 8 (.mov (.t 14))])
  (.seq (.seq (.ops [qO 15 (.load true 3 (.t 5)), cO 16 138 [.t 15], qO 17 (.not (.t 16)), qO 18 (.mov (.t 17)), qG 19 18 false (.mov (.t 8)), qG 20 18 false (.llen (.t 19)), qG 21 18 false (.bin .gtr (.t 20) (iC 3000)), qO 22 (.pick (.t 18) (.c (.sc (.bool true))) (.t 21))])
  (.cond (.t 22) (.seq (.ops [qO 23 (.mov (.t 7)), qO 6 (.mov (.t 23))])
  .ret)
  .skip))
  (.seq (.ops [wO 24 (.bsl 2 0 [] []), qO 9 (.mov (.t 24))])
  (.seq (.seq (.ops [qO 10 (.mov (iC 0))])
  (.block 0 (.loop (.seq (.seq (.ops [qO 25 (.mov (.t 10)), qO 26 (.mov (.t 7)), qO 27 (.llen (.t 26)), qO 28 (.bin .lss (.t 25) (.t 27))])
  (.cond (.t 28) .skip
  (.exit 0)))
  (.seq (.block 1 (.seq (.any [(qO 31 (.mov (.t 7)), []), (qO 32 (.mov (.t 10)), []), (qO 33 (.iadr 2 (.t 31) (.t 32)), [0, 1]), (qO 34 (.fadr 0 (.t 33)), [2]), (qO 35 (.load false 1 (.t 34)), [3]), (qO 36 (.bstr (.t 35)), [4]), (qO 37 (.mov (.t 1)), []), (qO 38 (.bstr (.t 37)), [6]), (qO 39 (.bin .neq (.t 36) (.t 38)), [5, 7])])
  (.cond (.t 39) (.ops [qO 40 (.mov (.t 9)), qO 41 (.mov (.t 7)), qO 42 (.mov (.t 10)), qO 43 (.iadr 2 (.t 41) (.t 42)), qO 44 (.load true 2 (.t 43)), wO 45 (.bsl 2 1 [.em, .em] [(0, 2, (.t 44))]), wO 46 (.app 2 48 false (.t 40) (.t 45)), qO 9 (.mov (.t 46))])
  .skip)))
  (.ops [qO 29 (.mov (.t 10)), qO 30 (.bin .add (.t 29) (iC 1)), qO 10 (.mov (.t 30))]))))))
  (.seq (.ops [qO 47 (.mov (.t 9)), wO 48 (.bsl 1 0 [] []), qO 49 (.mov (.t 1)), wO 50 (.app 1 1 false (.t 48) (.t 49)), qO 51 (.mov (.t 8)), wO 52 (.build [.em, .em] [(0, 1, (.t 50)), (1, 1, (.t 51))]), wO 53 (.bsl 2 1 [.em, .em] [(0, 2, (.t 52))]), wO 54 (.app 2 48 false (.t 47) (.t 53)), qO 9 (.mov (.t 54))])
  (.seq (.block 2 (.loop (.seq (.seq (.ops [qO 55 (.mov (.t 9)), qO 56 (.llen (.t 55)), qO 57 (.bin .gtr (.t 56) (iC 1)), qO 58 (.mov (.t 57)), qG 59 58 true (.mov (.t 9)), cG 60 58 true 139 [.t 59], qG 61 58 true (.not (.t 60)), qO 62 (.pick (.t 58) (.t 61) (.c (.sc (.bool false))))])
  (.cond (.t 62) .skip
  (.exit 2)))
  (.block 3 (.ops [wO 63 (.bsl 2 0 [] []), qO 64 (.mov (.t 9)), qO 65 (.subl 2 (.t 64) (some (iC 1)) none), wO 66 (.app 2 48 false (.t 63) (.t 65)), qO 9 (.mov (.t 66))])))))
  (.seq (.ops [qO 67 (.mov (.t 9)), qO 6 (.mov (.t 67))])
  .ret)))))))))
theorem K68 : Kf Tryz.prog Tryz.f68 A68 68 [.mov (.t 6)] := ⟨by kernel_rfl, by kernel_rfl, by kernel_rfl⟩
set_option maxHeartbeats 4000000 in
theorem R68 (xs : List Slot) (k : List Int) (m : Made) (hx : Slot.ty.slice.ok xs) (hk : k.length ≤ 140737488355328) (h1 : m.task.size ≤ 1048576) (hn : m.outs.length < 4611686018427387904) (hp : ∀ x ∈ m.outs, x.path.size ≤ 1048576) (hm : mw m ≤ 140737488350000) :
    Ret Tryz.prog 68 [.ro (rows Slot.ty.cs xs) xs.length, .ro (rows B k) k.length, .agg (Made.ty.cs m)] (.own (rows Slot.ty.oc (Zh xs k m)) (Zh xs k m).length 2) [.un, .un, .un] := by
  have hb : xs.length * 48 ≤ 140737488351232 := hx.1
  have hb2 : xs.length < 4611686018427387904 := by omega
  have r1 := R75 xs hx
  have r2 := R137 m hn hm
  have r3 := R138 m h1 hn hp
  obtain ⟨pb, hpb⟩ : ∃ pb, pb = putM m := ⟨_, rfl⟩
  rw [← hpb] at r2
  obtain ⟨mo, hmo⟩ : ∃ mo, mo = YD m := ⟨_, rfl⟩
  rw [← hmo] at r3
  have hS : Zh xs k m = if mo = true ∧ pb.length ≤ 3000 then Zu ((xs.filter fun s => !bEq s.key k) ++ [⟨k, pb⟩]) else xs := by rw [Zh, hmo, hpb]
  rw [hS]
  refine Ret.runT Tryz.func68 K68 (by simp) rfl rfl ?_
  refine yg (n := 500) ?_
  simp [A68, iniρ, Made.cse, Zj]
  refine callK.ro 12 rfl (by kernel_rfl) (by simp [ze]) r1 (Slot.ty.flo xs) (by simp [inst, za]; exact ⟨rfl, rfl⟩) rfl ?_
  simp
  refine callK.ro 14 rfl (by kernel_rfl) (by simp [ze, Yc, Zg, za]; rfl) r2 (B_fl _) (by simp [inst, za]; exact ⟨rfl, rfl⟩) rfl ?_
  simp
  refine callK.ro 16 rfl (by kernel_rfl) (by simp [ze, Yc, Zg, za]; rfl) r3 rfl rfl rfl ?_
  cases hc : mo
  case false =>
    simp
    refine ⟨_, Le.refl _, ?_⟩
    simp [ex1, Slot.ocl, Slot.frL]
  by_cases hl : pb.length ≤ 3000
  case neg =>
    have hl' : (3000 : Int) < pb.length := by omega
    simp [hl, hl']
    refine ⟨_, Le.refl _, ?_⟩
    simp [ex1, Slot.ocl, Slot.frL]
  have hl' : ¬ (3000 : Int) < pb.length := by omega
  obtain ⟨zs, hzs⟩ : ∃ zs, zs = (xs.filter fun s => !bEq s.key k) ++ [(⟨k, pb⟩ : Slot)] := ⟨_, rfl⟩
  rw [if_pos ⟨rfl, hl⟩, ← hzs]
  simp [hl']
  refine T.rounds (μ := fun i : List Slot × List Slot × List Slot => i.2.1.length)
    (fun i s => i.1 ++ i.2.1 = xs ∧ i.2.2 ++ i.2.1.filter (fun s => !bEq s.key k) = xs.filter (fun s => !bEq s.key k) ∧ i.2.2.length ≤ i.1.length ∧ s.ρ 1 = .ro (rows B k) k.length ∧ s.ρ 7 = .sl 12 0 xs.length 2 false ∧ s.ρ 8 = .sl 14 0 pb.length 1 false ∧ s.ρ 9 = .sl 24 0 i.2.2.length 2 false ∧ s.ρ 10 = .sc (.int .i64 i.1.length) ∧ s.h 12 = some (some (List.replicate (i.1.length * 2) .un ++ rows Slot.ty.oc i.2.1)) ∧ s.h 14 = some (some (rows B pb)) ∧ s.h 24 = some (some (rows Slot.ty.oc i.2.2)) ∧
      s.h 45 = none ∧ s.h 46 = none ∧ s.h 48 = none ∧ s.h 50 = none ∧ s.h 52 = none ∧ s.h 53 = none ∧ s.h 54 = none ∧ s.h 31000 = none ∧ s.h 31001 = none ∧ s.n = 68) ([], xs, []) (by simp [za, Yf]) ?_
  rintro ⟨pre, rest, out⟩ ⟨ρ, hh, n⟩ ⟨hx2, hF, hol, k1, k7, k8, k9, k10, b12, b14, b24, f45, f46, f48, f50, f52, f53, f54, f310, f311, rfl⟩
  simp only at hx2 hF hol k1 k7 k8 k9 k10 b12 b14 b24 f45 f46 f48 f50 f52 f53 f54 f310 f311
  have hon : out.length ≤ xs.length := by
    have := congrArg List.length hx2
    simp at this; omega
  cases rest with
  | nil =>
    refine yg (n := 400) ?_
    simp at hx2
    subst hx2
    rw [List.filter_nil, List.append_nil] at hF
    rw [← hF] at hzs
    have hb1 : (out.length + 1) * 48 ≤ 140737488355328 := by omega
    simp [k7, k10]
    refine T.on 400 ?_
    simp [k1, k8, k9, b14, b24, f45, f46, f48, f50, f52, f53, f54, B.count, Slot.ocl, over, hb1, hk]
    have hzn : zs.length ≤ pre.length + 1 := by rw [hzs]; simp; omega
    refine T.roundsL (μ := fun i : List Slot => i.length)
      (fun i s => 0 < i.length ∧ i.length ≤ zs.length ∧ Zu i = Zu zs ∧ s.ρ 9 = .sl 24 0 i.length 2 false ∧ s.h = oneH 24 (rows Slot.ty.oc i) ∧ s.n = 68) zs ?_ ?_
    · refine Le.grow [9] 54 24 [50, 14] (rows Slot.ty.oc out) (Slot.ty.oc ⟨k, pb⟩) rfl (by simp [za, Slot.oce, ysOn]) (Slot.ty.ow _) (yd (Slot.frL out)) ?_ (by decide) (by decide) (by simp [za, menB]) ?_
      · intro i e cs len sz hi hc
        rcases Slot.ow2 _ hc with ⟨rfl, rfl, rfl, rfl⟩ | ⟨rfl, rfl, rfl, rfl⟩ <;> (simp at hi; subst hi; simp [za, b14])
      · refine ⟨?_, Nat.le_refl _, rfl, ?_, ?_, rfl⟩
        · simp [hzs]
        · simp [za, Yp, renA, rb, hzs]
        · rw [hzs, Yd, yc, Yf, List.append_nil]
    rintro rest ⟨ρ, hh, n⟩ ⟨hpos, hrz, hD, h9', rfl, rfl⟩
    simp only at h9'
    cases rest with
    | nil => simp at hpos
    | cons x rest =>
      have hroc : roc (oneH 24 (rows Slot.ty.oc (x :: rest))) 8 (.sl 24 0 (rest.length + 1) 2 false) = some (.ro (rows Slot.ty.cs (x :: rest)) (rest.length + 1)) := Slot.roc8 (xs := x :: rest) (by simp [yr])
      have hl2 : (rows Slot.ty.oc (x :: rest)).length = (rest.length + 1) * 2 := Slot.ocl (x :: rest)
      have hb2 : rest.length * 48 ≤ 140737488355328 := by simp only [List.length_cons] at hrz; omega
      have rok := R139 (x :: rest) (by simp only [List.length_cons] at hrz ⊢; omega)
      simp only [List.length_cons] at h9' rok
      by_cases hz : rest.length = 0
      · have hz0 : ¬ (1 : Int) < rest.length + 1 := by omega
        have e : Zu zs = x :: rest := by rw [← hD, Zu, if_pos (.inl hz)]
        rw [e]
        refine yg (n := 400) ?_
        simp [h9', hz0]
        refine T.on 400 ?_
        simp [h9', Zj]
        refine ⟨_, Le.refl _, ?_⟩
        simp [ex1, yr, hl2, Slot.frL]
      · have hz0 : (1 : Int) < rest.length + 1 := by omega
        cases hco : zx (x :: rest) with
        | true =>
          have e : Zu zs = x :: rest := by rw [← hD, Zu, if_pos (.inr hco)]
          rw [e]
          refine yg (n := 400) ?_
          simp [h9', hz0]
          refine callK.ro 60 rfl (by kernel_rfl) (by simp [hroc]) rok rfl rfl rfl ?_
          simp [h9', hco]
          refine T.on 400 ?_
          simp [h9', Zj]
          refine ⟨_, Le.refl _, ?_⟩
          simp [ex1, yr, hl2, Slot.frL]
        | false =>
          have hno : ¬ (rest.length = 0 ∨ zx (x :: rest) = true) := by rw [hco]; simp [hz]
          have hD2 : Zu rest = Zu zs := by rw [← hD, Zu, if_neg hno]
          obtain ⟨h', l1, l2, l3, l4, l5⟩ := Le.openAll 24 [] (rows Slot.ty.oc rest) 200000 (Slot.ty.oc x) (oneH 24 (rows Slot.ty.oc (x :: rest))) (by rw [yr, if_pos rfl, yc, List.append_nil]) (zeJ Slot.ty.ow rest) (fun i _ => by rw [yr, if_neg (by omega)]) (by omega)
          rw [zda, List.append_nil] at l2
          obtain ⟨ps, hps⟩ : ∃ ps, ps = numb Slot.ty.n 200000 rest := ⟨_, rfl⟩
          rw [← hps] at l2
          have hNB : ∀ p ∈ ps, NB Slot.ty h' p := by rw [hps]; exact NB.of Slot.ty rest 200000 l3
          have hpx : ps.map (·.2) = rest := by rw [hps]; exact zb7 _ _ _
          have hplen : ps.length = rest.length := by rw [← hpx, List.length_map]
          have hf : ∀ b, b ≠ 24 → b < 200000 → h' b = none := fun b h1 h2 => by rw [l4 b h1 (by omega), yr, if_neg h1]
          have f63 := hf 63 (by decide) (by decide)
          have f66 := hf 66 (by decide) (by decide)
          have hroc2 : roc h' 8 (.sl 24 0 (rest.length + 1) 2 false) = some (.ro (rows Slot.ty.cs (x :: rest)) (rest.length + 1)) := by
            refine zgI l2 ?_ ?_
            · rw [List.length_append, Slot.ty.ocn, Yb (ze2 Slot.ty), hplen]
              show 2 + rest.length * 2 = _
              omega
            · rw [List.mapM_append, Slot.ty.rc h' 7 x (by decide), ze0 Slot.ty (by decide) ps hNB, hpx]
              rfl
          have hd2 : (Slot.ty.oc x ++ rows (nm Slot.ty) ps).drop 2 = rows (nm Slot.ty) ps := rfl
          have hnl : (rows (nm Slot.ty) ps).length = rest.length * 2 := by rw [Yb (ze2 Slot.ty), hplen]; rfl
          have htk : (rows (nm Slot.ty) ps).take (rest.length * 2) = rows (nm Slot.ty) ps := by rw [← hnl, List.take_length]
          have hplc : plain.plainL (rows (nm Slot.ty) ps) = true := ze1 Slot.ty ps
          have hxl2 : (Slot.ty.oc x).length = 2 := rfl
          have hin : 2 + rest.length * 2 ≤ (Slot.ty.oc x ++ rows (nm Slot.ty) ps).length := by rw [List.length_append, hnl, Slot.ty.ocn]; exact Nat.le_refl _
          have hidn : (ids Slot.ty.n ps).Nodup ∧ ∀ b ∈ ids Slot.ty.n ps, 200000 ≤ b := by
            rw [hps, zcc]
            exact ⟨List.nodup_range', fun b hb => by rw [List.mem_range'_1] at hb; omega⟩
          refine T.le (l1 _ _) ?_
          refine yg (n := 400) ?_
          simp [h9', hz0]
          refine callK.ro 60 rfl (by kernel_rfl) (by simp [hroc2]) rok rfl rfl rfl ?_
          simp [h9', hco, l2, f63, f66, hd2, htk, over, hb2, hplc, hin, hnl, hxl2]
          refine ⟨rest, by simp, ?_⟩
          refine Le.ex ?_
          refine Le.trimPack Slot.ty 66 (rest.length * 2) ps (by simp [za]) htk (fun p hp i cs len sz hi => ?_) hidn.1 (fun h => by have := hidn.2 _ h; omega) (fun h2 e2 => ?_)
          · have hin : i < Slot.ty.n := by have := (List.getElem?_eq_some_iff.1 hi).1; rwa [Slot.ty.ocn] at this
            have hge := hidn.2 _ (zfi hin ps hp)
            have e := hNB p hp i cs len sz hi
            simp only [zw, St.set, za]
            rw [if_neg (by omega), if_neg (by omega), if_neg (by omega)]
            exact e
          · rw [hpx] at e2
            refine ⟨_, Le.reseat [9] [(66, 24)] (by simp) (by simp [za, menB]) ?_, ?_⟩
            · intro b hb2 cs hcs
              simp at hb2
              subst hb2
              have hcs : h2 66 = some (some cs) := hcs
              rw [e2] at hcs
              obtain rfl : rows Slot.ty.oc rest = cs := by simpa using hcs
              exact yd (Slot.frL rest)
            · simp only [List.length_cons] at hrz
              refine ⟨by omega, by omega, hD2, by simp [za, Yp, renA, rb], ?_, rfl⟩
              funext c
              by_cases hc24 : c = 24
              · subst hc24; simp [yn, e2, yr]
              · have h24' : ¬ 24 = c := fun e => hc24 e.symm
                simp [yn, yr, hc24, h24']
  | cons x rest =>
    have hle : pre.length + (rest.length + 1) = xs.length := by rw [← hx2]; simp
    have hlt : (pre.length : Int) < xs.length := by omega
    have hlt2 : pre.length < xs.length := by omega
    have hw : IntKind.i64.wrap ((pre.length : Int) + 1) = pre.length + 1 := zc (by omega) (by omega)
    have hb1 : (out.length + 1) * 48 ≤ 140737488355328 := by omega
    obtain ⟨h', l1, l2, l3, l4⟩ := Le.openRow (ρ := ρ) (n := 68) 12 (rows Slot.ty.oc rest) (Slot.ty.oc x) 31000 (List.replicate (pre.length * 2) .un) hh (by rw [b12, yc]) (Slot.ty.ow x) (fun i hi => by
      rw [Slot.oce] at hi
      match i with
      | 0 => exact f310
      | 1 => exact f311
      | i + 2 => simp at hi; omega) (by left; decide)
    have e0 := l3 0 _ _ _ (by rw [Slot.oce]; rfl)
    have e1 := l3 1 _ _ _ (by rw [Slot.oce]; rfl)
    simp only [Nat.add_zero] at e0
    have e0 : h' 31000 = some (some (rows B x.key)) := e0
    have e1 : h' 31001 = some (some (rows B x.b)) := e1
    have hxl : (Slot.ty.oc x).length = 2 := rfl
    have q : ∀ b, b ≠ 12 → b < 31000 → h' b = hh b := fun b h1 h2 => l4 b h1 (.inl h2)
    have b14' := (q 14 (by decide) (by decide)).trans b14
    have b24' := (q 24 (by decide) (by decide)).trans b24
    have g45 := (q 45 (by decide) (by decide)).trans f45
    have g46 := (q 46 (by decide) (by decide)).trans f46
    have g48 := (q 48 (by decide) (by decide)).trans f48
    have g50 := (q 50 (by decide) (by decide)).trans f50
    have g52 := (q 52 (by decide) (by decide)).trans f52
    have g53 := (q 53 (by decide) (by decide)).trans f53
    have g54 := (q 54 (by decide) (by decide)).trans f54
    rw [Slot.oce] at l2
    have l2 : h' 12 = some (some (List.replicate (pre.length * 2) .un ++ AV.sl 31000 0 x.key.length 1 false :: AV.sl 31001 0 x.b.length 1 false :: rows Slot.ty.oc rest)) := l2
    have hd0 : List.drop (pre.length * 2) (List.replicate (pre.length * 2) AV.un ++ AV.sl 31000 0 x.key.length 1 false :: AV.sl 31001 0 x.b.length 1 false :: rows Slot.ty.oc rest) = AV.sl 31000 0 x.key.length 1 false :: AV.sl 31001 0 x.b.length 1 false :: rows Slot.ty.oc rest := by
      rw [List.drop_left']
      simp
    have hbt : List.take x.key.length (rows B x.key) = rows B x.key := by rw [← B.count, List.take_length]
    have hrep : List.replicate (pre.length * 2) AV.un ++ (List.replicate 2 AV.un ++ rows Slot.ty.oc rest) = List.replicate ((pre.length + 1) * 2) .un ++ rows Slot.ty.oc rest := by
      rw [← List.append_assoc, List.replicate_append_replicate, Nat.succ_mul]
    have hidu : ∀ y ∈ List.replicate ((pre.length + 1) * 2) AV.un ++ rows Slot.ty.oc rest, zb y = true := fun y hy => by
      rcases List.mem_append.1 hy with hy | hy
      · rw [(List.mem_replicate.1 hy).2]; rfl
      · exact yd (Slot.frL rest) y hy
    refine T.le l1 ?_
    refine yg (n := 400) ?_
    simp [k7, k10, hlt]
    refine T.text 400 mixed (by kernel_rfl) (by kernel_rfl) ?_
    by_cases hq : (strOfNums x.key).toList = (strOfNums k).toList
    · have hq' : bEq x.key k = true := by simp [bEq, hq]
      simp [k1, k7, k10, l2, e0, e1, hlt, hlt2, hd0, ZP, B.count, B.num, hq, hw, hbt]
      refine ⟨pre ++ [x], rest, by simp, out, ?_⟩
      refine Le.ex ⟨_, Le.blur 12 (List.replicate (pre.length * 2) .un) [AV.sl 31000 0 x.key.length 1 false, AV.sl 31001 0 x.b.length 1 false] (rows Slot.ty.oc rest) (by simp [za, l2]) rfl, ?_⟩
      rw [show ([AV.sl 31000 0 x.key.length 1 false, AV.sl 31001 0 x.b.length 1 false] : List AV).length = 2 from rfl, hrep]
      refine ⟨_, Le.reseat [1, 7, 8, 9, 10] [(12, 12), (14, 14), (24, 24)] (by simp) (by simp [za, menB, zb, k1, k7, k8, k9]) ?_, ?_⟩
      · intro b hb2 cs hcs
        simp at hb2
        rcases hb2 with rfl | rfl | rfl
        · simp [za] at hcs
          subst hcs
          exact hidu
        · simp [za, b14'] at hcs
          subst hcs
          exact fun x hx => yd (Zd B.fr _) x hx
        · simp [za, b24'] at hcs
          subst hcs
          exact yd (Slot.frL out)
      · simp [hx2, za, Yp, yn, renA, rb, k1, k7, k8, k9, b14', b24', ← hF, hq', hw]
        omega
    · have hq' : bEq x.key k = false := by simp [bEq, hq]
      simp [k1, k7, k9, k10, l2, e0, e1, b24', g45, g46, hlt, hlt2, hd0, ZP, B.count, B.num, hq, hw, Slot.ocl, over, hb1, hbt]
      refine ⟨pre ++ [x], rest, by simp, out ++ [x], ?_⟩
      refine Le.packOnX 46 (Slot.ty.oc x) [31000, 31001] (rows Slot.ty.oc out) rfl (by simp [za, Slot.oce, ysOn]) (Slot.ty.ow _) ?_ (by decide) (by decide) (fun h2 p1 p2 => ?_)
      · intro i d cs len sz hi hc
        rcases Slot.ow2 _ hc with ⟨rfl, rfl, rfl, rfl⟩ | ⟨rfl, rfl, rfl, rfl⟩ <;> (simp at hi; subst hi; simp [za, e0, e1])
      have p12 := p2 12 (by decide) (by decide)
      have p14 := p2 14 (by decide) (by decide)
      simp [za, l2] at p12
      simp [za, b14'] at p14
      refine Le.ex ⟨_, Le.blur 12 (List.replicate (pre.length * 2) .un) [AV.sl 31000 0 x.key.length 1 false, AV.sl 31001 0 x.b.length 1 false] (rows Slot.ty.oc rest) p12 rfl, ?_⟩
      rw [show ([AV.sl 31000 0 x.key.length 1 false, AV.sl 31001 0 x.b.length 1 false] : List AV).length = 2 from rfl, hrep]
      have hox : rows Slot.ty.oc (out ++ [x]) = rows Slot.ty.oc out ++ Slot.ty.oc x := by rw [Yd, yc, Yf, List.append_nil]
      rw [← hox] at p1
      refine ⟨_, Le.reseat [1, 7, 8, 9, 10] [(46, 24), (12, 12), (14, 14)] (by simp) (by simp [za, menB, zb, k1, k7, k8]) ?_, ?_⟩
      · intro b hb2 cs hcs
        simp at hb2
        rcases hb2 with rfl | rfl | rfl
        · simp [za, p1] at hcs
          subst hcs
          exact yd (Slot.frL (out ++ [x]))
        · simp [za] at hcs
          subst hcs
          exact hidu
        · simp [za, p14] at hcs
          subst hcs
          exact fun x hx => yd (Zd B.fr _) x hx
      · simp [hx2, za, Yp, yn, renA, rb, k1, k7, k8, p14, p1, ← hF, hq', hw]
        omega
theorem zgr {m : Made} (h : Fit m) : Made.ty.ok m := by
  have e1 := h.task
  have e2 := h.log
  have e3 := h.num
  refine ⟨?_, ⟨?_, fun x hx => ?_⟩, ?_, trivial⟩
  · show m.task.size ≤ _; omega
  · show m.outs.length * 32 ≤ _; omega
  · obtain ⟨p1, p2⟩ := h.outs x hx
    refine ⟨?_, ?_, trivial⟩
    · show x.path.size ≤ _; omega
    · show x.text.size ≤ _; omega
  · show m.log.size ≤ _; omega
theorem zej : Fit Yr := ⟨Nat.zero_le _, Nat.zero_le _, (fun f hf => absurd hf List.not_mem_nil), Nat.zero_le _⟩
theorem zcS {xs : List Slot} {k : List Int} {m : Made} (hx : Slot.ty.slice.ok xs) (h : Yv xs k = some m) : Fit m := by
  unfold Yv at h
  split at h
  case isFalse => cases h
  cases hs : xs[(idx (fun s => bEq s.key k) xs 0).toNat]? with
  | none => rw [hs] at h; cases h
  | some s =>
    rw [hs] at h
    simp only at h
    obtain ⟨sb, sl⟩ := za0 (hx.2 s (List.mem_of_getElem? hs))
    cases hg : getI s.b with
    | none => rw [hg] at h; cases h
    | some m' =>
      rw [hg] at h
      simp only at h
      split at h
      · cases h; exact (zcd sb hg).1
      · cases h
theorem zc2 {xs : List Slot} {k : List Int} {m : Made} {x : Slot} (h : x ∈ Zh xs k m) : x ∈ xs ∨ (x = ⟨k, putM m⟩ ∧ (putM m).length ≤ 3000) := by
  unfold Zh at h
  split at h
  case isFalse => exact .inl h
  case isTrue hc =>
    obtain ⟨a, e⟩ := zaA ((xs.filter fun s => !bEq s.key k) ++ [⟨k, putM m⟩])
    have h2 : x ∈ (xs.filter fun s => !bEq s.key k) ++ [(⟨k, putM m⟩ : Slot)] := by rw [← e]; exact List.mem_append_right _ h
    rcases List.mem_append.1 h2 with h2 | h2
    · exact .inl (List.mem_filter.1 h2).1
    · exact .inr ⟨by simpa using h2, hc.2⟩
theorem zbx (f : Slot → Bool) : ∀ xs : List Slot, toL Slot.tot (xs.filter f) ≤ toL Slot.tot xs
  | [] => Nat.le_refl _
  | x :: xs => by
    have ih := zbx f xs
    rw [List.filter_cons]
    split <;> simp only [toL] <;> omega
theorem Y4 (xs : List Slot) (k : List Int) (m : Made) (hx : Slot.ty.slice.ok xs) (hxl : xs.length ≤ 2000000) (hk : Ty.byte.slice.ok k) : Slot.ty.slice.ok (Zh xs k m) ∧ (Zh xs k m).length ≤ xs.length + 1 ∧ toL Slot.tot (Zh xs k m) ≤ toL Slot.tot xs + k.length + 3000 := by
  have hlen : (Zh xs k m).length ≤ xs.length + 1 ∧ toL Slot.tot (Zh xs k m) ≤ toL Slot.tot xs + k.length + 3000 := by
    unfold Zh
    split
    case isFalse => exact ⟨by omega, by omega⟩
    case isTrue hc =>
      obtain ⟨a, e⟩ := zaA ((xs.filter fun s => !bEq s.key k) ++ [⟨k, putM m⟩])
      have h1 := congrArg List.length e
      have h2 := congrArg (toL Slot.tot) e
      have h3 := List.length_filter_le (fun s : Slot => !bEq s.key k) xs
      have h4 := zbx (fun s : Slot => !bEq s.key k) xs
      have h5 := hc.2
      rw [Y7, Y7] at h2
      simp only [toL, Slot.tot] at h2 h4 ⊢
      simp only [List.length_append, List.length_singleton] at h1
      exact ⟨by omega, by omega⟩
  refine ⟨⟨?_, fun x hm => ?_⟩, hlen.1, hlen.2⟩
  · show (Zh xs k m).length * 48 ≤ 140737488351232
    have := hlen.1
    omega
  · rcases zc2 hm with hm | ⟨rfl, hl⟩
    · exact hx.2 x hm
    · refine ⟨hk, ⟨?_, zaj m⟩, trivial⟩
      show (putM m).length * 1 ≤ 140737488351232
      omega
theorem zaO {α : Type} {wt : α → Nat} : ∀ {l : List α} {x : α}, x ∈ l → wt x ≤ wtL wt l
  | y :: l, x, h => by
    simp only [wtL]
    rcases List.mem_cons.1 h with rfl | h
    · omega
    · have := zaO (wt := wt) h; omega
theorem zdM {j : Job} : ∀ (l : List ByteArray) {m : Made}, Sm m → (∀ s ∈ l, s.size ≤ 1048576) → Sm (makeF j m l).1
  | [], m, h, _ => h
  | s :: l, m, h, hs => by
    rw [makeF]
    split
    · exact zdM l (zdo h (hs s List.mem_cons_self)) fun t ht => hs t (List.mem_cons_of_mem _ ht)
    · exact h
theorem zbI {j : Job} : ∀ (l : List ByteArray) (m : Made), (makeF j m l).1.task = m.task
  | [], m => rfl
  | s :: l, m => by
    rw [makeF]
    split
    · rw [zbI l, zcW]
    · rfl
theorem zam {j : Job} (hs : ∀ s ∈ j.acts, s.size ≤ 1048576) : Sm (makeV j).1 := zdM _ ⟨Nat.zero_le _, fun x hx => (by cases hx), Nat.zero_le _⟩ hs
theorem YK (j : Job) : (makeV j).1.task = j.name := zbI _ _
theorem zfm {k : Nat} : ∀ {l : List File}, (∀ x ∈ l, x.path.size ≤ k ∧ x.text.size ≤ 60) → fw l ≤ l.length * (k + 64)
  | [], _ => Nat.zero_le _
  | x :: l, h => by
    have h1 := h x List.mem_cons_self
    have h2 := zfm fun y hy => h y (List.mem_cons_of_mem x hy)
    rw [fw, List.length_cons, Nat.add_mul, Nat.one_mul]
    omega
theorem Sm.w {m : Made} (h : Sm m) (ht : m.task.size ≤ 1048576) : mw m ≤ 140737488350000 := by
  have h1 := zfm h.f
  have h2 := h.n
  have h3 := h.l
  unfold mw
  have h4 : m.outs.length * (1048576 + 64) ≤ 6 * (1048576 + 64) := Nat.mul_le_mul_right _ h2
  omega
structure OJ (j : Job) : Prop where
  l : JL j
  s : ∀ s ∈ j.acts, s.size ≤ 1048576
  n : j.name.size ≤ 1048576
  b : jw j + j.acts.length + j.ins.length + j.envs.length + j.deps.length + ol j.deps + 100 ≤ 140737488350000
theorem OJ.key {j : Job} (h : OJ j) : (jkey j).length ≤ 140737488350000 := by
  have h1 := zb2 (txJ j) []
  have h2 := h.b
  unfold jw at h2
  unfold jkey
  simp only [List.length_nil] at h1
  omega
def keptO (l : List Slot) (j : Job) (keep : Bool) : Option Made := if keep then (match Yv l (jkey j) with | some m => if m.task.toList = j.name.toList then some m else none | none => none) else none
def onceV (l : List Slot) (j : Job) (keep : Bool) : List Slot × Made × Int :=
  match keptO l j keep with
  | some m => (l, m, 2)
  | none => if (makeV j).2 then (if keep then Zh l (jkey j) (makeV j).1 else l, (makeV j).1, 1) else (l, Yr, 3)
theorem Yz (m : Made) (b : Bool) : flt (.tup [.agg (Made.ty.oc m), .sc (.bool b)]) = true := by
  have h1 := Made.ty.flL m
  simp only [flt, flt.fltL, Bool.and_eq_true] at h1 ⊢
  exact ⟨h1, trivial, trivial⟩
theorem zdO (o : Option Made) : madeA o = .tup [.agg (Made.ty.oc (o.getD Yr)), .sc (.bool o.isSome)] := by cases o <;> rfl
theorem ZS : Made.ty.oc Yr = [.sc (.string ⟨#[]⟩), .own [] 0 2, .sc (.string ⟨#[]⟩)] := rfl
theorem zde {l : List Slot} {j : Job} {keep : Bool} (h : keptO l j keep = none) : onceV l j keep = if (makeV j).2 then (if keep then Zh l (jkey j) (makeV j).1 else l, (makeV j).1, 1) else (l, Yr, 3) := by unfold onceV; rw [h]
theorem zbd {l : List Slot} {j : Job} {m : Made} (h : Yv l (jkey j) = some m) (ht : m.task.toList = j.name.toList) : onceV l j true = (l, m, 2) := by
  have h2 : keptO l j true = some m := by simp [keptO, h, ht]
  unfold onceV; rw [h2]
theorem zcJ {l : List Slot} {j : Job} (h : Yv l (jkey j) = none) : keptO l j true = none := by simp [keptO, h]
theorem zbL {l : List Slot} {j : Job} {m : Made} (h : Yv l (jkey j) = some m) (ht : ¬ m.task.toList = j.name.toList) : keptO l j true = none := by simp [keptO, h, ht]
theorem Ys {h : Hp} {b : Nat} {m : Made} (e : h b = some (some (rows File.ty.oc m.outs))) : roc h 7 (.sl b 0 m.outs.length 2 false) = some (.ro (rows File.ty.cs m.outs) m.outs.length) := File.roc7 e
def A17 : AC := (.seq (.ops [wO 4 (.box (.t 1)), qO 6 (.mov (.c .em)), wO 7 (.alloc [(.sc (.string ⟨#[]⟩)), .em, (.sc (.string ⟨#[]⟩))]), qO 8 (.mov (iC 0))])
  (.seq (.seq (.ops [qO 13 (.mov (.t 2))])
  (.cond (.t 13) (.seq (.ops [qO 15 (.mov (.t 0)), qO 16 (.load true 5 (.t 4)), cO 17 72 [.t 16], cO 18 71 [.t 15, .t 17], qO 14 (.mov (.t 18)), qO 19 (.ext (.t 14) 0), qO 20 (.ext (.t 14) 1), wO 9 (.alloc [(.sc (.string ⟨#[]⟩)), .em, (.sc (.string ⟨#[]⟩))]), nO (.store 3 (.t 9) (.t 19)), qO 10 (.mov (.t 20))])
  (.seq (.ops [qO 21 (.mov (.t 10)), qO 22 (.mov (.t 21)), qG 23 22 true (.fadr 0 (.t 9)), qG 24 22 true (.load false 1 (.t 23)), qG 25 22 true (.fadr 0 (.t 4)), qG 26 22 true (.load false 1 (.t 25)), qG 27 22 true (.bin .eql (.t 24) (.t 26)), qO 28 (.pick (.t 22) (.t 27) (.c (.sc (.bool false))))])
  (.cond (.t 28) (.seq (.any [(qO 29 (.mov (.t 0)), []), (cO 30 73 [.t 29], [0]), (qO 31 (.load true 3 (.t 9)), []), (qO 6 (.mov (.t 30)), [1, 1, 0, 1]), (nO (.store 3 (.t 7) (.t 31)), [2, 3, 0, 1, 2, 3]), (qO 8 (.mov (iC 2)), [4, 0, 1, 2, 3, 4])])
  .ret)
  .skip)))
  .skip))
  (.seq (.ops [qO 33 (.load true 5 (.t 4)), cO 34 24 [.t 33], qO 32 (.mov (.t 34)), qO 35 (.ext (.t 32) 0), qO 36 (.ext (.t 32) 1), wO 11 (.alloc [(.sc (.string ⟨#[]⟩)), .em, (.sc (.string ⟨#[]⟩))]), nO (.store 3 (.t 11) (.t 35)), qO 12 (.mov (.t 36))])
  (.seq (.block 0 (.seq (.ops [qO 38 (.mov (.t 12)), qO 39 (.not (.t 38)), qO 37 (.mov (.t 39))])
  (.cond (.t 37) (.seq (.ops [qO 40 (.mov (.t 0)), cO 41 73 [.t 40], wO 42 (.build [(.sc (.string ⟨#[]⟩)), .em, (.sc (.string ⟨#[]⟩))] []), qO 6 (.mov (.t 41)), nO (.store 3 (.t 7) (.t 42)), qO 8 (.mov (iC 3))])
  .ret)
  (.seq (.ops [qO 44 (.mov (.t 2)), qO 43 (.mov (.t 44))])
  (.cond (.t 43) (.seq (.any [(qO 45 (.mov (.t 0)), []), (qO 46 (.load true 5 (.t 4)), []), (cO 47 72 [.t 46], [1]), (qO 48 (.load true 3 (.t 11)), []), (cO 49 74 [.t 45, .t 47, .t 48], [0, 2, 3, 2]), (qO 50 (.load true 3 (.t 11)), []), (qO 6 (.mov (.t 49)), [4, 4, 0, 1, 2, 3, 4]), (nO (.store 3 (.t 7) (.t 50)), [5, 6, 0, 1, 2, 3, 4, 5, 6]), (qO 8 (.mov (iC 1)), [7, 0, 1, 2, 3, 4, 5, 6, 7])])
  .ret)
  .skip)))))
  (.seq (.any [(qO 51 (.mov (.t 0)), []), (cO 52 73 [.t 51], [0]), (qO 53 (.load true 3 (.t 11)), []), (qO 6 (.mov (.t 52)), [1, 1, 0, 1]), (nO (.store 3 (.t 7) (.t 53)), [2, 3, 0, 1, 2, 3]), (qO 8 (.mov (iC 1)), [4, 0, 1, 2, 3, 4])])
  .ret)))))
theorem K17 : Kf Tryz.prog Tryz.f17 A17 54 [.mov (.t 6), .load true 3 (.t 7), .mov (.t 8)] := ⟨by kernel_rfl, by kernel_rfl, by kernel_rfl⟩
set_option maxHeartbeats 8000000 in
set_option maxRecDepth 20000 in
theorem R17 (xs : List Slot) (j : Job) (keep : Bool) (hx : Slot.ty.slice.ok xs) (hj : OJ j) : Ret Tryz.prog 17 [.ro (rows Slot.ty.cs xs) xs.length, .agg (Job.ty.cs j), .sc (.bool keep)] (.tup [.own (rows Slot.ty.oc (onceV xs j keep).1) (onceV xs j keep).1.length 2, .agg (Made.ty.oc (onceV xs j keep).2.1), .sc (.int .i64 (onceV xs j keep).2.2)]) [.un, .un, .un] := by
  have hkl := hj.key
  have rK := R72 j (by have := hj.l.a; omega) hj.l.i hj.l.e hj.l.d hj.l.o hj.b
  have rM := R24 j hj.l hj.s
  have rC := R73 xs hx
  have rG := R71 xs (jkey j) hx
  rw [zdO] at rG
  have sm := zam hj.s
  have ht := YK j
  have hno := fun keep => zde (l := xs) (j := j) (keep := keep)
  have hso := fun m => zbd (l := xs) (j := j) (m := m)
  have hnn := zcJ (l := xs) (j := j)
  have hot := fun m => zbL (l := xs) (j := j) (m := m)
  obtain ⟨mk, hmk⟩ : ∃ p, p = makeV j := ⟨_, rfl⟩
  rw [← hmk] at rM sm ht
  simp only [← hmk] at hno
  have rP := R74 xs (jkey j) mk.1 hx (by omega) (by rw [ht]; exact hj.n) (by have := sm.n; omega) (fun x hx => (sm.f x hx).1) (sm.w (by rw [ht]; exact hj.n))
  obtain ⟨k, hk⟩ : ∃ k, k = jkey j := ⟨_, rfl⟩
  simp only [← hk] at rK rG rP hno hso hnn hot
  obtain ⟨sp, hsp⟩ : ∃ s, s = Zh xs k mk.1 := ⟨_, rfl⟩
  rw [← hsp] at rP
  simp only [← hsp] at hno
  have hid := File.frL mk.1.outs
  have hsx := Slot.frL xs
  have hss := Slot.frL sp
  obtain ⟨g, hg⟩ : ∃ g, g = Yv xs k := ⟨_, rfl⟩
  rw [← hg] at rG
  simp only [← hg] at hso hnn hot
  refine Ret.run Tryz.func17 K17 (by simp) rfl rfl 900 ?_
  cases keep with
  | false =>
    have hO := hno false (by rfl)
    simp [A17, iniρ, over, Job.cse]
    refine callK.ro 34 rfl (by kernel_rfl) (by simp [Zg, ze, Yc, za, Job.cse]) rM (Yz _ _) (by simp [inst, instL, Made.oce, za]; exact ⟨rfl, rfl⟩) rfl ?_
    cases hok : mk.2 with
    | false =>
      rw [hok] at hO
      rw [hO]
      simp [over, hok]
      refine callK.own 41 rfl (by kernel_rfl) (by simp [ze]) rC (Slot.ty.flo xs) (by simp [za]) rfl ?_
      simp [over, ex1, za, Slot.ocl, hsx, ZS]
    | true =>
      rw [hok] at hO
      rw [hO]
      simp [over, hok]
      refine T.textW 400 [([], []), ([52], []), ([], [52]), ([], []), ([7], []), ([], [])] mixed (by kernel_rfl) (by kernel_rfl) ?_
      simp [over, Zb, yb]
      refine yf.ro 52 rfl (by kernel_rfl) (by simp [ze]) rC (Slot.ty.flo xs) (by simp [inst, za, Za]; exact ⟨rfl, rfl⟩) (by rfl) ?_
      simp [over, Zb, yb, ex1, za, Ya, Za, Slot.ocl, File.ocl, hsx, hid, Made.oce]
  | true =>
    simp [A17, iniρ, over, Job.cse]
    refine callK.ro 17 rfl (by kernel_rfl) (by simp [Zg, ze, Yc, za, Job.cse]) rK (B_fl _) (by simp [inst, za]; exact ⟨rfl, rfl⟩) rfl ?_
    simp [over]
    refine callK.ro 18 rfl (by kernel_rfl) (by simp [ze, Br, za]) rG (Yz _ _) (by simp [inst, instL, Made.oce, za]; exact ⟨rfl, rfl⟩) rfl ?_
    cases g with
    | none =>
      have hO := hno true (hnn rfl)
      simp [over]
      refine callK.le (Le.told [(0, .ro (rows Slot.ty.cs xs) xs.length), (2, .sc (.bool true)), (4, .ref 4 0), (7, .ref 7 0), (33, .agg (Job.ty.cs j))] [(4, Job.ty.cs j), (7, [.sc (.string ⟨#[]⟩), .em, .sc (.string ⟨#[]⟩)])] (by simp [toldT, yJ, zA, YH, menQ, zb, zb.idfreeL, za, Job.cse]) (by simp [toldB, yD, ZJ, zA, zO, YH, zb, za, Job.cse])) ?_
      simp only [toldρ, toldH]
      refine callK.ro 34 rfl (by kernel_rfl) (by simp [Zg, ze, Yc, za, Job.cse]) rM (Yz _ _) (by simp [inst, instL, Made.oce, za]; exact ⟨rfl, rfl⟩) rfl ?_
      cases hok : mk.2 with
      | false =>
        rw [hok] at hO
        rw [hO]
        simp [over, hok]
        refine callK.own 41 rfl (by kernel_rfl) (by simp [ze, za]) rC (Slot.ty.flo xs) (by simp [za]) rfl ?_
        simp [over, ex1, za, Slot.ocl, hsx, ZS]
      | true =>
        rw [hok] at hO
        rw [hO]
        simp [over, hok]
        refine T.textW 400 [([], [47]), ([], []), ([47], []), ([], [47]), ([49], []), ([], [47, 49]), ([], []), ([7], []), ([], [])] mixed (by kernel_rfl) (by kernel_rfl) ?_
        simp [over, Zb, yb, Job.cse]
        refine yf.ro 47 rfl (by kernel_rfl) (by simp [Zg, ze, Yc, za, Job.cse]) rK (B_fl _) (by simp [inst, za, Za]; exact ⟨rfl, rfl⟩) (by rfl) ?_
        simp [over, Zb, yb]
        refine yf.ro 49 rfl (by kernel_rfl) (by simp [Zg, Yh, List.mapM_cons, List.mapM_nil, ze, Yc, Br, Ys, za, Za, Made.cse]) rP (Slot.ty.flo _) (by simp [inst, za, Za]; exact ⟨rfl, rfl⟩) (by rfl) ?_
        simp [over, Zb, yb, ex1, za, Ya, Za, Slot.ocl, File.ocl, hss, hid, Made.oce]
    | some y =>
      have hidy := File.frL y.outs
      by_cases hn : y.task.toList = j.name.toList
      · have hO := hso y rfl hn
        rw [hO]
        simp [over, hn]
        refine T.textW 400 [([], []), ([30], []), ([], [30]), ([], []), ([7], []), ([], [])] mixed (by kernel_rfl) (by kernel_rfl) ?_
        simp [over, Zb, yb]
        refine yf.ro 30 rfl (by kernel_rfl) (by simp [ze]) rC (Slot.ty.flo xs) (by simp [inst, za, Za]; exact ⟨rfl, rfl⟩) (by rfl) ?_
        simp [over, Zb, yb, ex1, za, Ya, Za, Slot.ocl, File.ocl, hsx, hidy, Made.oce]
      have hO := hno true (hot y rfl hn)
      simp [over, hn]
      refine callK.le (Le.told [(0, .ro (rows Slot.ty.cs xs) xs.length), (2, .sc (.bool true)), (4, .ref 4 0), (7, .ref 7 0), (33, .agg (Job.ty.cs j))] [(4, Job.ty.cs j), (7, [.sc (.string ⟨#[]⟩), .em, .sc (.string ⟨#[]⟩)])] (by simp [toldT, yJ, zA, YH, menQ, zb, zb.idfreeL, za, Job.cse]) (by simp [toldB, yD, ZJ, zA, zO, YH, zb, za, Job.cse])) ?_
      simp only [toldρ, toldH]
      refine callK.ro 34 rfl (by kernel_rfl) (by simp [Zg, ze, Yc, za, Job.cse]) rM (Yz _ _) (by simp [inst, instL, Made.oce, za]; exact ⟨rfl, rfl⟩) rfl ?_
      cases hok : mk.2 with
      | false =>
        rw [hok] at hO
        rw [hO]
        simp [over, hok]
        refine callK.own 41 rfl (by kernel_rfl) (by simp [ze, za]) rC (Slot.ty.flo xs) (by simp [za]) rfl ?_
        simp [over, ex1, za, Slot.ocl, hsx, ZS]
      | true =>
        rw [hok] at hO
        rw [hO]
        simp [over, hok]
        refine T.textW 400 [([], [47]), ([], []), ([47], []), ([], [47]), ([49], []), ([], [47, 49]), ([], []), ([7], []), ([], [])] mixed (by kernel_rfl) (by kernel_rfl) ?_
        simp [over, Zb, yb, Job.cse]
        refine yf.ro 47 rfl (by kernel_rfl) (by simp [Zg, ze, Yc, za, Job.cse]) rK (B_fl _) (by simp [inst, za, Za]; exact ⟨rfl, rfl⟩) (by rfl) ?_
        simp [over, Zb, yb]
        refine yf.ro 49 rfl (by kernel_rfl) (by simp [Zg, Yh, List.mapM_cons, List.mapM_nil, ze, Yc, Br, Ys, za, Za, Made.cse]) rP (Slot.ty.flo _) (by simp [inst, za, Za]; exact ⟨rfl, rfl⟩) (by rfl) ?_
        simp [over, Zb, yb, ex1, za, Ya, Za, Slot.ocl, File.ocl, hss, hid, Made.oce]
def A18 : AC := (.seq (.ops [wO 4 (.box (.t 1)), qO 6 (.mov (.c .em)), wO 7 (.alloc [(.sc (.string ⟨#[]⟩)), .em, (.sc (.string ⟨#[]⟩))]), qO 8 (.mov (iC 0))])
  (.seq (.ops [qO 13 (.mov (.t 0)), cO 14 75 [.t 13], qO 9 (.mov (.t 14))])
  (.seq (.ops [qO 15 (.load true 5 (.t 4)), cO 16 69 [.t 15], qO 10 (.mov (.t 16))])
  (.seq (.ops [qO 18 (.mov (.t 0)), qO 19 (.mov (.t 10)), cO 20 76 [.t 18, .t 19], qO 17 (.mov (.t 20)), qO 21 (.ext (.t 17) 0), qO 22 (.ext (.t 17) 1), wO 11 (.alloc [(.sc (.string ⟨#[]⟩)), .em, (.sc (.string ⟨#[]⟩))]), nO (.store 3 (.t 11) (.t 21)), qO 12 (.mov (.t 22))])
  (.seq (.seq (.ops [qO 23 (.mov (.t 2)), qO 24 (.mov (.t 23)), qG 25 24 true (.mov (.t 12)), qO 26 (.pick (.t 24) (.t 25) (.c (.sc (.bool false)))), qO 27 (.mov (.t 26)), qG 28 27 true (.fadr 0 (.t 11)), qG 29 27 true (.load false 1 (.t 28)), qG 30 27 true (.fadr 0 (.t 4)), qG 31 27 true (.load false 1 (.t 30)), qG 32 27 true (.bin .eql (.t 29) (.t 31)), qO 33 (.pick (.t 27) (.t 32) (.c (.sc (.bool false))))])
  (.cond (.t 33) (.seq (.any [(qO 34 (.mov (.t 9)), []), (qO 35 (.load true 3 (.t 11)), []), (qO 6 (.mov (.t 34)), [0, 0]), (nO (.store 3 (.t 7) (.t 35)), [1, 2, 0, 1, 2]), (qO 8 (.mov (iC 2)), [3, 0, 1, 2, 3])])
  .ret)
  .skip))
  (.seq (.ops [qO 37 (.load true 5 (.t 4)), cO 38 67 [.t 37], qO 36 (.mov (.t 38)), qO 39 (.ext (.t 36) 0), qO 40 (.ext (.t 36) 1), nO (.store 3 (.t 11) (.t 39)), qO 12 (.mov (.t 40))])
  (.seq (.seq (.ops [qO 41 (.mov (.t 12)), qO 42 (.not (.t 41))])
  (.cond (.t 42) (.seq (.ops [qO 43 (.mov (.t 9)), wO 44 (.build [(.sc (.string ⟨#[]⟩)), .em, (.sc (.string ⟨#[]⟩))] []), qO 6 (.mov (.t 43)), nO (.store 3 (.t 7) (.t 44)), qO 8 (.mov (iC 3))])
  .ret)
  .skip))
  (.seq (.seq (.ops [qO 45 (.mov (.t 2))])
  (.cond (.t 45) (.ops [qO 46 (.mov (.t 0)), qO 47 (.mov (.t 10)), qO 48 (.load true 3 (.t 11)), cO 49 68 [.t 46, .t 47, .t 48], qO 9 (.mov (.t 49))])
  .skip))
  (.seq (.any [(qO 50 (.mov (.t 9)), []), (qO 51 (.load true 3 (.t 11)), []), (qO 6 (.mov (.t 50)), [0, 0]), (nO (.store 3 (.t 7) (.t 51)), [1, 2, 0, 1, 2]), (qO 8 (.mov (iC 1)), [3, 0, 1, 2, 3])])
  .ret)))))))))
theorem K18 : Kf Tryz.prog Tryz.f18 A18 52 [.mov (.t 6), .load true 3 (.t 7), .mov (.t 8)] := ⟨by kernel_rfl, by kernel_rfl, by kernel_rfl⟩
set_option maxHeartbeats 8000000 in
set_option maxRecDepth 20000 in
theorem R18 (xs : List Slot) (j : Job) (keep : Bool) (hx : Slot.ty.slice.ok xs) (hj : OJ j) : Ret Tryz.prog 18 [.ro (rows Slot.ty.cs xs) xs.length, .agg (Job.ty.cs j), .sc (.bool keep)] (.tup [.own (rows Slot.ty.oc (onceV xs j keep).1) (onceV xs j keep).1.length 2, .agg (Made.ty.oc (onceV xs j keep).2.1), .sc (.int .i64 (onceV xs j keep).2.2)]) [.un, .un, .un] := by
  have hkl := hj.key
  have rK := R69 j (by have := hj.l.a; omega) hj.l.i hj.l.e hj.l.d hj.l.o hj.b
  have rM := R67 j hj.l hj.s (by have := hj.n; omega)
  have rC := R75 xs hx
  have rG := R76 xs (jkey j) hx
  rw [zdO] at rG
  have sm := zam hj.s
  have ht := YK j
  have hno := fun keep => zde (l := xs) (j := j) (keep := keep)
  have hso := fun m => zbd (l := xs) (j := j) (m := m)
  have hnn := zcJ (l := xs) (j := j)
  have hot := fun m => zbL (l := xs) (j := j) (m := m)
  obtain ⟨mk, hmk⟩ : ∃ p, p = makeV j := ⟨_, rfl⟩
  rw [← hmk] at rM sm ht
  simp only [← hmk] at hno
  have rP := R68 xs (jkey j) mk.1 hx (by omega) (by rw [ht]; exact hj.n) (by have := sm.n; omega) (fun x hx => (sm.f x hx).1) (sm.w (by rw [ht]; exact hj.n))
  obtain ⟨k, hk⟩ : ∃ k, k = jkey j := ⟨_, rfl⟩
  simp only [← hk] at rK rG rP hno hso hnn hot
  obtain ⟨sp, hsp⟩ : ∃ s, s = Zh xs k mk.1 := ⟨_, rfl⟩
  rw [← hsp] at rP
  simp only [← hsp] at hno
  have hid := File.frL mk.1.outs
  have hsx := Slot.frL xs
  have hss := Slot.frL sp
  obtain ⟨g, hg⟩ : ∃ g, g = Yv xs k := ⟨_, rfl⟩
  rw [← hg] at rG
  simp only [← hg] at hso hnn hot
  have hidg := File.frL (g.getD Yr).outs
  have hbk := Zd B.fr k
  refine Ret.run Tryz.func18 K18 (by simp) rfl rfl 900 ?_
  simp [A18, iniρ, over, Job.cse]
  refine callK.own 14 rfl (by kernel_rfl) (by simp [ze]) rC (Slot.ty.flo xs) (by simp [za]) rfl ?_
  simp
  refine callK.ro 16 rfl (by kernel_rfl) (by simp [Zg, ze, Yc, za, Job.cse]) rK (B_fl _) (by simp [inst, za]; exact ⟨rfl, rfl⟩) rfl ?_
  simp
  refine callK.ro 20 rfl (by kernel_rfl) (by simp [ze, Br, za]) rG (Yz _ _) (by simp [inst, instL, Made.oce, za]; exact ⟨rfl, rfl⟩) rfl ?_
  have kept : ∀ y : Made, g = some y → keep = true → y.task.toList = j.name.toList → onceV xs j keep = (xs, y, 2) := fun y h1 h2 h3 => by rw [h2]; exact hso y h1 h3
  by_cases hc : ∃ y, g = some y ∧ keep = true ∧ y.task.toList = j.name.toList
  · obtain ⟨y, hy, hk1, hn⟩ := hc
    have hO := kept y hy hk1 hn
    rw [hO]
    subst hy
    subst hk1
    have hidy : zb.idfreeL (rows File.ty.oc y.outs) = true := hidg
    simp [over, hn]
    refine T.textW 400 [([], []), ([], []), ([], []), ([7], []), ([], [])] mixed (by kernel_rfl) (by kernel_rfl) ?_
    simp [over, Zb, yb, ex1, za, Ya, Za, Slot.ocl, File.ocl, hsx, hidy, Made.oce]
  have hO : onceV xs j keep = if mk.2 = true then (if keep = true then sp else xs, mk.1, 1) else (xs, Yr, 3) := hno keep (by
    cases keep with
    | false => rfl
    | true =>
      cases g with
      | none => exact hnn rfl
      | some y => exact hot y rfl fun h => hc ⟨y, rfl, rfl, h⟩)
  cases keep with
  | false =>
    simp [over]
    refine callK.ro 38 rfl (by kernel_rfl) (by simp [Zg, ze, Yc, za, Job.cse]) rM (Yz _ _) (by simp [inst, instL, Made.oce, za]; exact ⟨rfl, rfl⟩) rfl ?_
    cases hok : mk.2 with
    | false =>
      rw [hok] at hO
      have hO : onceV xs j false = (xs, Yr, 3) := hO
      rw [hO]
      simp [over, hok, ex1, za, Slot.ocl, hsx, ZS]
    | true =>
      rw [hok] at hO
      have hO : onceV xs j false = (xs, mk.1, 1) := hO
      rw [hO]
      simp [over, hok]
      refine T.textW 400 [([], []), ([], []), ([], []), ([7], []), ([], [])] mixed (by kernel_rfl) (by kernel_rfl) ?_
      simp [over, Zb, yb, ex1, za, Ya, Za, Slot.ocl, File.ocl, hsx, hss, hid, Made.oce]
  | true =>
    cases g with
    | none =>
      simp [over]
      refine callK.ro 38 rfl (by kernel_rfl) (by simp [Zg, ze, Yc, za, Job.cse]) rM (Yz _ _) (by simp [inst, instL, Made.oce, za]; exact ⟨rfl, rfl⟩) rfl ?_
      cases hok : mk.2 with
      | false =>
        rw [hok] at hO
        have hO : onceV xs j true = (xs, Yr, 3) := hO
        rw [hO]
        simp [over, hok, ex1, za, Slot.ocl, hsx, ZS]
      | true =>
        rw [hok] at hO
        have hO : onceV xs j true = (sp, mk.1, 1) := hO
        rw [hO]
        simp [over, hok]
        refine callK.ro 49 rfl (by kernel_rfl) (by simp [Zg, Yh, List.mapM_cons, List.mapM_nil, ze, Yc, Br, Ys, za, Za, Made.cse]) rP (Slot.ty.flo _) (by simp [inst, za, Za]; exact ⟨rfl, rfl⟩) rfl ?_
        simp [over]
        refine T.textW 400 [([], []), ([], []), ([], []), ([7], []), ([], [])] mixed (by kernel_rfl) (by kernel_rfl) ?_
        simp [over, Zb, yb, ex1, za, Ya, Za, Slot.ocl, File.ocl, hsx, hss, hid, Made.oce]
    | some y =>
      have hn : ¬ y.task.toList = j.name.toList := fun h => hc ⟨y, rfl, rfl, h⟩
      simp [over, hn]
      refine callK.ro 38 rfl (by kernel_rfl) (by simp [Zg, ze, Yc, za, Job.cse]) rM (Yz _ _) (by simp [inst, instL, Made.oce, za]; exact ⟨rfl, rfl⟩) rfl ?_
      cases hok : mk.2 with
      | false =>
        rw [hok] at hO
        have hO : onceV xs j true = (xs, Yr, 3) := hO
        rw [hO]
        simp [over, hok, ex1, za, Slot.ocl, hsx, ZS]
      | true =>
        rw [hok] at hO
        have hO : onceV xs j true = (sp, mk.1, 1) := hO
        rw [hO]
        simp [over, hok]
        refine callK.ro 49 rfl (by kernel_rfl) (by simp [Zg, Yh, List.mapM_cons, List.mapM_nil, ze, Yc, Br, Ys, za, Za, Made.cse]) rP (Slot.ty.flo _) (by simp [inst, za, Za]; exact ⟨rfl, rfl⟩) rfl ?_
        simp [over]
        refine T.textW 400 [([], []), ([], []), ([], []), ([7], []), ([], [])] mixed (by kernel_rfl) (by kernel_rfl) ?_
        simp [over, Zb, yb, ex1, za, Ya, Za, Slot.ocl, File.ocl, hsx, hss, hid, Made.oce]
theorem zgh : ∀ l : List ByteArray, sw l ≤ wtL Ty.str.wt l + 2 * l.length
  | [] => Nat.zero_le _
  | x :: l => by
    have ih := zgh l
    have e : Ty.str.wt x = x.size := rfl
    simp only [sw, wtL, List.length_cons]
    omega
theorem zcZ : ∀ l : List File, sw (txF l) ≤ wtL File.ty.wt l + 4 * l.length
  | [] => Nat.zero_le _
  | x :: l => by
    have ih := zcZ l
    have e := File.wte x
    simp only [txF, sw, wtL, List.length_cons]
    omega
theorem zgi : ∀ l : List Env, sw (txE l) ≤ wtL Env.ty.wt l + 4 * l.length
  | [] => Nat.zero_le _
  | x :: l => by
    have ih := zgi l
    have e := Env.wte x
    simp only [txE, sw, wtL, List.length_cons]
    omega
theorem zeC : ∀ l : List Made, sw (txM l) + ol l ≤ 10 * wtL Made.ty.wt l + 40 * l.length
  | [] => Nat.zero_le _
  | x :: l => by
    have ih := zeC l
    have e := Made.wte x
    have h1 := zcZ x.outs
    have h2 := Zi x.outs.length
    simp only [txM, sw, zcq, ol, wtL, List.length_cons]
    omega
theorem OJ.of {j : Job} (h : Job.ty.wt j ≤ 1048576) : OJ j := by
  rw [Job.wte] at h
  have h1 := zgh j.acts
  have h2 := zcZ j.ins
  have h3 := zgi j.envs
  have h4 := zeC j.deps
  have n1 := Zi j.acts.length
  have n2 := Zi j.ins.length
  have n3 := Zi j.envs.length
  have n4 := Zi j.deps.length
  refine ⟨⟨by omega, by omega, by omega, by omega, fun m hm => ?_, fun f hf => ?_⟩, fun s hs => ?_, by omega, ?_⟩
  · have := zaO (wt := Made.ty.wt) hm
    rw [Made.wte] at this
    omega
  · have := zaO (wt := File.ty.wt) hf
    rw [File.wte] at this
    omega
  · have := zaO (wt := Ty.str.wt) hs
    have e : Ty.str.wt s = s.size := rfl
    omega
  · rw [jw_eq]
    omega
theorem zbF {l : List Slot} {j : Job} {keep : Bool} (hl : Slot.ty.slice.ok l) (hn : l.length ≤ 2000000) (hj : OJ j) : Slot.ty.slice.ok (onceV l j keep).1 ∧ (onceV l j keep).1.length ≤ l.length + 1 ∧ toL Slot.tot (onceV l j keep).1 ≤ toL Slot.tot l + (jkey j).length + 3000 := by
  have hb : (jkey j).length * 1 ≤ 140737488351232 := by have := hj.key; omega
  have hp := Y4 l (jkey j) (makeV j).1 hl hn ⟨hb, zcK j⟩
  unfold onceV
  split
  · exact ⟨hl, by simp only; omega, by simp only; omega⟩
  · split
    · split
      · exact hp
      · exact ⟨hl, by simp only; omega, by simp only; omega⟩
    · exact ⟨hl, by simp only; omega, by simp only; omega⟩
theorem zcE {l : List Slot} {j : Job} {keep : Bool} (hl : Slot.ty.slice.ok l) (hj : OJ j) : Made.ty.ok (onceV l j keep).2.1 ∧ (onceV l j keep).2.1.outs.length ≤ 100000 := by
  have hsm := zam hj.s
  have ht := YK j
  unfold onceV
  split
  · rename_i m hm
    have hg : Yv l (jkey j) = some m := by
      unfold keptO at hm
      split at hm
      · split at hm
        · split at hm
          · rename_i h _; rw [h]; exact hm
          · cases hm
        · cases hm
      · cases hm
    have hf := zcS hl hg
    exact ⟨zgr hf, by have := hf.num; simp only; omega⟩
  · split
    · refine ⟨hsm.made (by rw [ht]; have := hj.n; omega), ?_⟩
      have := hsm.n
      simp only
      omega
    · exact ⟨zgr zej, Nat.zero_le _⟩
def xr (y v : Int) : Int := IntKind.u8.wrap (((y % 2 ^ IntKind.u8.bits).toNat ^^^ (v % 2 ^ IntKind.u8.bits).toNat : Nat) : Int)
theorem zcu : ∀ (xs : List Int) (i : Nat) (z : Int), (rows B xs).set i (.sc (.int .u8 z)) = rows B (xs.set i z)
  | [], _, _ => rfl
  | x :: xs, 0, z => by rw [yc]; simp [B, yc]
  | x :: xs, i + 1, z => by rw [yc]; simp [B, yc, zcu xs i z]
def dmg (xs : List Slot) (i a v : Int) : List Slot :=
  if inR i 0 (xs.length - 1) = true ∧ 0 ≤ a then
    match xs[i.toNat]? with
    | some x => if x.b.length = 0 then xs else xs.set i.toNat ⟨x.key, x.b.set (a.toNat % x.b.length) (xr (x.b.getD (a.toNat % x.b.length) 0) (IntKind.u8.wrap v))⟩
    | none => xs
  else xs
def A70 : AC := (.seq (.ops [qO 8 (.mov (.c .em))])
  (.seq (.ops [qO 10 (.mov (.t 0)), cO 11 75 [.t 10], qO 9 (.mov (.t 11))])
  (.seq (.seq (.ops [qO 12 (.mov (.t 1)), qO 13 (.mov (.t 0)), qO 14 (.llen (.t 13)), qO 15 (.bin .sub (.t 14) (iC 1)), cO 16 143 [.t 12, iC 0, .t 15], qO 17 (.not (.t 16)), qO 18 (.mov (.t 17)), qG 19 18 false (.mov (.t 0)), qG 20 18 false (.mov (.t 1)), qG 21 18 false (.iadr 2 (.t 19) (.t 20)), qG 22 18 false (.fadr 1 (.t 21)), qG 23 18 false (.load false 1 (.t 22)), qG 24 18 false (.llen (.t 23)), qG 25 18 false (.bin .eql (.t 24) (iC 0)), qO 26 (.pick (.t 18) (.c (.sc (.bool true))) (.t 25)), qO 27 (.mov (.t 26)), qG 28 27 false (.mov (.t 2)), qG 29 27 false (.bin .lss (.t 28) (iC 0)), qO 30 (.pick (.t 27) (.c (.sc (.bool true))) (.t 29))])
  (.cond (.t 30) (.seq (.ops [qO 31 (.mov (.t 9)), qO 8 (.mov (.t 31))])
  .ret)
  .skip))
  (.seq (.any [(qO 32 (.mov (.t 9)), []), (qO 33 (.mov (.t 1)), []), (qO 34 (.iadr 2 (.t 32) (.t 33)), [0, 1]), (qO 35 (.fadr 1 (.t 34)), [2]), (qO 36 (.load false 1 (.t 35)), [3]), (qO 37 (.mov (.t 2)), []), (qO 38 (.mov (.t 0)), []), (qO 39 (.mov (.t 1)), []), (qO 40 (.iadr 2 (.t 38) (.t 39)), [6, 7]), (qO 41 (.fadr 1 (.t 40)), [8]), (qO 42 (.load false 1 (.t 41)), [9]), (qO 43 (.llen (.t 42)), [10]), (qO 44 (.bin .rem (.t 37) (.t 43)), [5, 11]), (qO 45 (.iadr 1 (.t 36) (.t 44)), [4, 12]), (qO 46 (.load false 1 (.t 45)), [13]), (qO 47 (.mov (.t 3)), []), (qO 48 (.cvi .u8 (.t 47)), [15]), (qO 49 (.bin .xor (.t 46) (.t 48)), [14, 16]), (qO 50 (.iadr 1 (.t 36) (.t 44)), [4, 12, 0, 1, 2, 3, 4, 5, 6, 7, 8, 9, 10, 11, 12, 13, 14, 15, 16, 17]), (nO (.store 1 (.t 50) (.t 49)), [18, 17, 0, 1, 2, 3, 4, 5, 6, 7, 8, 9, 10, 11, 12, 13, 14, 15, 16, 17])])
  (.seq (.ops [qO 51 (.mov (.t 9)), qO 8 (.mov (.t 51))])
  .ret)))))
theorem K70 : Kf Tryz.prog Tryz.f70 A70 52 [.mov (.t 8)] := ⟨by kernel_rfl, by kernel_rfl, by kernel_rfl⟩
set_option maxHeartbeats 1000000 in
theorem R70 (xs : List Slot) (i a v : Int) (hx : Slot.ty.slice.ok xs) (ha : Ty.int.ok a) : Ret Tryz.prog 70 [.ro (rows Slot.ty.cs xs) xs.length, .sc (.int .i64 i), .sc (.int .i64 a), .sc (.int .i64 v)] (.own (rows Slot.ty.oc (dmg xs i a v)) (dmg xs i a v).length 2) [.un, .un, .un, .un] := by
  have hb : xs.length * 48 ≤ 140737488351232 := hx.1
  have hs : ∀ x ∈ xs, Slot.ty.ok x := hx.2
  have hfl : flt (.own (rows Slot.ty.oc xs) xs.length 2) = true := by
    have h : flt.fltL [.own (rows Slot.ty.oc xs) xs.length 2] = true := Slot.ty.slice.flL xs
    simpa [flt.fltL] using h
  have hw : IntKind.i64.wrap ((xs.length : Int) - 1) = xs.length - 1 := zc (by omega) (by omega)
  refine Ret.run Tryz.func70 K70 (by simp) rfl rfl 900 ?_
  simp [A70, iniρ]
  refine callK.own 11 rfl (by kernel_rfl) (by simp [ze]) (R75 xs hx) hfl (by simp) rfl ?_
  simp [hw]
  refine callK.ro 0 rfl (by kernel_rfl) (by simp [Yc]) (R143 i 0 (xs.length - 1)) rfl rfl rfl ?_
  by_cases hR : inR i 0 (xs.length - 1) = true
  case neg =>
    have hR2 : inR i 0 (xs.length - 1) = false := by simpa using hR
    have e : dmg xs i a v = xs := by simp [dmg, hR2]
    simp [hR2, e, ex1, Slot.ocl, Slot.frL]
  obtain ⟨pre, x, rest, hxs, hn⟩ : ∃ pre x rest, xs = pre ++ x :: rest ∧ i = (pre.length : Int) := by
    simp only [inR, Bool.and_eq_true, decide_eq_true_eq] at hR
    have hlt : i.toNat < xs.length := by omega
    refine ⟨xs.take i.toNat, xs[i.toNat], xs.drop (i.toNat + 1), by simp, ?_⟩
    rw [List.length_take]
    omega
  have hle : xs.length = pre.length + (rest.length + 1) := by rw [hxs]; simp
  have hlt : pre.length < xs.length := by omega
  have hlt2 : (pre.length : Int) < xs.length := by omega
  have hg : xs[pre.length]? = some x := by rw [hxs]; simp
  have hd := ye Slot.ty.csn pre (x :: rest)
  rw [← hxs, yc] at hd
  have hd : List.drop (pre.length * 2) (rows Slot.ty.cs xs) = AV.ro (rows B x.key) x.key.length :: AV.ro (rows B x.b) x.b.length :: rows Slot.ty.cs rest := hd
  have hd1 : List.drop (pre.length * 2 + 1) (rows Slot.ty.cs xs) = AV.ro (rows B x.b) x.b.length :: rows Slot.ty.cs rest := by rw [← List.drop_drop, hd]; rfl
  subst hn
  by_cases hB : x.b.length = 0
  case pos =>
    have e : dmg xs pre.length a v = xs := by simp [dmg, hg, hB]
    simp [hR, hlt, hlt2, hd1, hB, e, ex1, Slot.ocl, Slot.frL]
  have hB2 : ¬ ((x.b.length : Int) = 0) := by omega
  by_cases hA : a < 0
  case pos =>
    have hA2 : ¬ (0 ≤ a) := by omega
    have e : dmg xs pre.length a v = xs := by simp [dmg, hA2]
    simp [hR, hlt, hlt2, hd1, hB, hB2, hA, e, ex1, Slot.ocl, Slot.frL]
  obtain ⟨m, rfl⟩ : ∃ m : Nat, a = m := ⟨a.toNat, by omega⟩
  have hm : ¬ ((m : Int) < 0) := by omega
  simp [hR, hlt, hlt2, hd1, hB, hB2, hm]
  obtain ⟨bp, y, br, hbs, hbl⟩ : ∃ bp y br, x.b = bp ++ y :: br ∧ bp.length = m % x.b.length := by
    have hq : m % x.b.length < x.b.length := Nat.mod_lt _ (by omega)
    refine ⟨x.b.take (m % x.b.length), x.b[m % x.b.length], x.b.drop (m % x.b.length + 1), by simp, ?_⟩
    rw [List.length_take]
    omega
  have hbq : bp.length < x.b.length := by rw [hbs]; simp
  have hoc : rows Slot.ty.oc xs = rows Slot.ty.oc pre ++ (AV.own (rows B x.key) x.key.length 1 :: AV.own (rows B x.b) x.b.length 1 :: rows Slot.ty.oc rest) := by rw [hxs, Yd, yc]; rfl
  have hj : (rows Slot.ty.oc xs)[pre.length * 2 + 1]? = some (.own (rows B x.b) x.b.length 1) := by rw [hoc]; exact zgq Slot.ty.ocn pre _ 1
  refine T.le (Le.open 11 (pre.length * 2 + 1) 60 (by simp [za]) hj (by simp [za]) (Zd B.fr _)) ?_
  have hst : (rows Slot.ty.oc xs).set (pre.length * 2 + 1) (.sl 60 0 x.b.length 1 false) = rows Slot.ty.oc pre ++ (AV.own (rows B x.key) x.key.length 1 :: .sl 60 0 x.b.length 1 false :: rows Slot.ty.oc rest) := by rw [hoc]; exact zeT (n := 2) Slot.ty.ocn pre _ 1 _
  have ho1 : List.drop (pre.length * 2 + 1) (rows Slot.ty.oc pre ++ (AV.own (rows B x.key) x.key.length 1 :: .sl 60 0 x.b.length 1 false :: rows Slot.ty.oc rest)) = .sl 60 0 x.b.length 1 false :: rows Slot.ty.oc rest := by
    rw [← List.drop_drop, ← Slot.ocl pre, List.drop_left]; rfl
  have hrem : (m : Int).tmod x.b.length = bp.length := by rw [hbl]; rfl
  have hyd : List.drop bp.length (rows B x.b) = AV.sc (.int .u8 y) :: rows B br := by
    have := ye B.len bp (y :: br)
    rw [← hbs, Nat.mul_one] at this
    rw [this]; rfl
  have hle3 : bp.length + 1 ≤ x.b.length := hbq
  refine T.cutW 400 [([], []), ([], []), ([], []), ([], []), ([], []), ([], []), ([], []), ([], []), ([], []), ([], []), ([], []), ([], []), ([], []), ([], []), ([], []), ([], []), ([], []), ([], []), ([], []), ([60], [])] mixed (by kernel_rfl) (by kernel_rfl) ?_
  simp [hlt, hlt2, hd1, hst, ho1, hB, hB2, hrem, hyd, hbq, hle3, B.count, over, Zb, yb, zdk]
  refine ⟨_, Le.pack 11 (pre.length * 2 + 1) (i := 60) (len := x.b.length) (sz := 1) (cs' := rows B (x.b.set bp.length (xr y (IntKind.u8.wrap v)))) (by simp [za]; rfl) ?_ (by simp [za, zcu, xr]) (by decide) (by simp [B.count]) (Zd B.fr _), ?_⟩
  · exact zgq (n := 2) Slot.ty.ocn pre _ 1
  have hgd : x.b.getD (m % x.b.length) 0 = y := by rw [← hbl, hbs]; simp
  have e : dmg xs pre.length m v = pre ++ ⟨x.key, x.b.set bp.length (xr y (IntKind.u8.wrap v))⟩ :: rest := by
    have hgd' := hgd
    simp [dmg, hR, hg, hB] at hgd' ⊢
    rw [hgd', ← hbl, hxs]
    simp
  have hst2 : (rows Slot.ty.oc pre ++ (AV.own (rows B x.key) x.key.length 1 :: .sl 60 0 x.b.length 1 false :: rows Slot.ty.oc rest)).set (pre.length * 2 + 1) (.own (rows B (x.b.set bp.length (xr y (IntKind.u8.wrap v)))) x.b.length 1) = rows Slot.ty.oc (pre ++ ⟨x.key, x.b.set bp.length (xr y (IntKind.u8.wrap v))⟩ :: rest) := by
    refine Eq.trans (zeT (n := 2) Slot.ty.ocn pre _ 1 _) ?_
    rw [Yd, yc, Slot.oce]
    simp
    exact ⟨rfl, rfl⟩
  have hl9 : (pre ++ (⟨x.key, x.b.set bp.length (xr y (IntKind.u8.wrap v))⟩ : Slot) :: rest).length = xs.length := by rw [hle]; simp
  rw [e, hl9]
  refine T.on 400 ?_
  have hl10 : (pre.length + (rest.length + 1)) * 2 = xs.length * 2 := by rw [hle]
  simp [hst2, ex1, Slot.ocl, Slot.frL, hl10]
def keyL : List ByteArray := [⟨#[]⟩, ⟨#[107]⟩, ⟨#[107, 49]⟩, ⟨#[107, 50]⟩, ⟨#[107, 51]⟩, ⟨#[107, 52]⟩]
def keyV (c : Cur) : List Int := sB (pickS keyL c 6)
theorem zaR (c : Cur) : (keyV c).length ≤ 2 := by rw [keyV, zad]; exact Yy (by decide) c 6
theorem zfa (c : Cur) : Ty.byte.slice.ok (keyV c) := ⟨by show (keyV c).length * 1 ≤ 140737488351232; have := zaR c; omega, zbZ _⟩
def A132 : AC := (.seq (.ops [qO 2 (.mov (.c .em))])
  (.seq (.ops [qO 3 (.mov (.t 0)), wO 4 (.bsl 1 6 [(.sc (.string ⟨#[]⟩)), (.sc (.string ⟨#[]⟩)), (.sc (.string ⟨#[]⟩)), (.sc (.string ⟨#[]⟩)), (.sc (.string ⟨#[]⟩)), (.sc (.string ⟨#[]⟩))] [(0, 1, (.c (.sc (.string ⟨#[]⟩)))), (1, 1, (.c (.sc (.string ⟨#[107]⟩)))), (2, 1, (.c (.sc (.string ⟨#[107, 49]⟩)))), (3, 1, (.c (.sc (.string ⟨#[107, 50]⟩)))), (4, 1, (.c (.sc (.string ⟨#[107, 51]⟩)))), (5, 1, (.c (.sc (.string ⟨#[107, 52]⟩))))]), cO 5 41 [.t 3, .t 4], wO 6 (.byt (.t 5)), qO 2 (.mov (.t 6))])
  .ret))
theorem K132 : Kf Tryz.prog Tryz.f132 A132 7 [.mov (.t 2)] := ⟨by kernel_rfl, by kernel_rfl, by kernel_rfl⟩
theorem R132 (c : Cur) (hc : c.ok) : Ret Tryz.prog 132 [.bx c.cs] (.ro (rows B (keyV c)) (keyV c).length) [.bx (ya c 6).cs] := by
  have fr : ∀ c : Cur, zb.idfreeL c.cs = true := fun c => rfl
  have r1 : Ret Tryz.prog 41 [.bx c.cs, .own (rows Ty.str.oc keyL) 6 1] (.sc (.string (pickS keyL c 6))) [.bx (ya c 6).cs, .un] := R41 c hc keyL (by decide)
  have hl : (pickS keyL c 6).size = (keyV c).length := (zad _).symm
  refine Ret.run Tryz.func132 K132 (by simp) rfl rfl 500 ?_
  simp [A132, iniρ, over]
  refine callK.bm 100000 4 (len := 6) (sz := 1) rfl (by kernel_rfl) (by simp [za]) (by simp [za]) (fr c) (by simp [za]) (by simp [za]; rfl) (by rfl) (by rfl) (by decide) r1 rfl rfl ?_
  simp [ex1, fr, yj, ZI, hl]
  rfl
def zaM : Nat → Cur → Cur
  | 0, c => c
  | n + 1, c => zaM n (byteC c)
def YT : Nat → Cur → List Int
  | 0, _ => []
  | n + 1, c => byteV c :: YT n (byteC c)
theorem zcT : ∀ (n : Nat) {c : Cur}, c.ok → (zaM n c).ok
  | 0, _, h => h
  | n + 1, _, h => zcT n (ZK h)
theorem zbR : ∀ (n : Nat) (c : Cur), (YT n c).length = n
  | 0, _ => rfl
  | n + 1, c => by simp [YT, zbR n]
theorem zbq : ∀ (n : Nat) (c : Cur), byteL (YT n c)
  | 0, _ => fun x hx => by cases hx
  | n + 1, c => fun x hx => by
    rcases List.mem_cons.1 hx with rfl | hx
    · exact ZH c
    · exact zbq n _ x hx
def A133 : AC := (.seq (.ops [qO 4 (.mov (.c .em))])
  (.seq (.ops [wO 7 (.bsl 1 0 [] []), qO 5 (.mov (.t 7))])
  (.seq (.seq (.ops [qO 6 (.mov (iC 0))])
  (.block 0 (.loop (.seq (.seq (.ops [qO 8 (.mov (.t 6)), qO 9 (.mov (.t 1)), qO 10 (.bin .lss (.t 8) (.t 9))])
  (.cond (.t 10) .skip
  (.exit 0)))
  (.seq (.block 1 (.ops [qO 13 (.mov (.t 5)), qO 14 (.mov (.t 0)), cO 15 104 [.t 14], qO 16 (.cvi .u8 (.t 15)), wO 17 (.bsl 1 1 [(.sc (.int .u8 0))] [(0, 1, (.t 16))]), wO 18 (.app 1 1 false (.t 13) (.t 17)), qO 5 (.mov (.t 18))]))
  (.ops [qO 11 (.mov (.t 6)), qO 12 (.bin .add (.t 11) (iC 1)), qO 6 (.mov (.t 12))]))))))
  (.seq (.ops [qO 19 (.mov (.t 5)), qO 4 (.mov (.t 19))])
  .ret))))
theorem K133 : Kf Tryz.prog Tryz.f133 A133 20 [.mov (.t 4)] := ⟨by kernel_rfl, by kernel_rfl, by kernel_rfl⟩
theorem R133 (c : Cur) (hc : c.ok) (k : Nat) (hk : k ≤ 1000000) : Ret Tryz.prog 133 [.bx c.cs, .sc (.int .i64 k)] (.own (rows B (YT k c)) (YT k c).length 1) [.bx (zaM k c).cs, .un] := by
  have fr : ∀ c : Cur, zb.idfreeL c.cs = true := fun c => rfl
  refine Ret.run Tryz.func133 K133 (by simp) rfl rfl 500 ?_
  simp [A133, iniρ, over]
  refine T.rounds (μ := fun i : List Int × Cur × Nat => i.2.2)
    (fun i s => i.1.length + i.2.2 = k ∧ i.2.1.ok ∧ i.1 ++ YT i.2.2 i.2.1 = YT k c ∧ zaM i.2.2 i.2.1 = zaM k c ∧ s.ρ 0 = .ref 100000 0 ∧ s.ρ 1 = .sc (.int .i64 k) ∧ s.ρ 5 = .sl 7 0 i.1.length 1 false ∧ s.ρ 6 = .sc (.int .i64 i.1.length) ∧ s.h 100000 = some (some i.2.1.cs) ∧ s.h 7 = some (some (rows B i.1)) ∧ s.h 17 = none ∧ s.h 18 = none ∧ s.n = 20) ([], c, k) (by simp [za, hc, Yf]) ?_
  rintro ⟨pre, d, j⟩ ⟨ρ, hh, n⟩ ⟨hl, hd, hE, hC, k0, k1, k5, k6, bc, b7, f17, f18, rfl⟩
  simp only at hl hd hE hC k0 k1 k5 k6 bc b7 f17 f18
  refine yg (n := 400) ?_
  cases j with
  | zero =>
    have e : pre = YT k c := by rw [← hE]; simp [YT]
    have e2 : d = zaM k c := hC
    have hn : ¬ ((pre.length : Int) < k) := by omega
    simp [k1, k6, hn]
    refine T.on 400 ?_
    rw [← e, ← e2]
    simp [k0, k5, bc, b7, ex1, B.count, fr, yj, Zd B.fr pre]
  | succ j =>
    have hlt : (pre.length : Int) < k := by omega
    have hw : IntKind.i64.wrap ((pre.length : Int) + 1) = pre.length + 1 := zc (by omega) (by omega)
    have hr := ZH d
    have hw8 : IntKind.u8.wrap (byteV d) = byteV d := by simp [IntKind.wrap, IntKind.bits, IntKind.signed]; omega
    have hb1 : pre.length + 1 ≤ 140737488355328 := by omega
    simp [k0, k1, k5, k6, hlt]
    refine callK.bx (b := 100000) 0 rfl (by kernel_rfl) (by simp [za, k0]) (by simp [za, bc]) (fr d) rfl (by simp) (R104 d hd) rfl (by rfl) rfl ?_
    simp [k0, k5, k6, bc, b7, f17, f18, hw, hw8, over, B.count, hb1]
    refine ⟨pre ++ [byteV d], byteC d, j, by omega, _, Le.reseat [0, 1, 5, 6] [(18, 7), (100000, 100000)] (by simp) (by simp [za, menB, zb, k0, k1]) ?_, ?_⟩
    · intro b hb cs hcs
      simp at hb
      rcases hb with rfl | rfl
      · simp [za] at hcs
        subst hcs
        have := yd (Zd B.fr (pre ++ [byteV d]))
        rwa [Yd] at this
      · simp [za] at hcs
        subst hcs
        exact yd (fr _)
    · simp [za, Yp, yn, renA, rb, k0, k1, f17, Yd, yc, Yf, ZK hd]
      refine ⟨by omega, ?_, hC, rfl⟩
      rw [← hE]; rfl
def zbS : ByteArray := ⟨#[97, 35, 98, 117, 105, 108, 100]⟩
def draws : Nat → Cur → List Slot → List Slot × Cur
  | 0, c, l => (l, c)
  | n + 1, c, l => draws n (madeC (ya c 6)) (Zh l (keyV c) (madeV (ya c 6) zbS))
def drawP (c : Cur) : List Slot × Cur := draws (zf c 6).toNat (ya c 6) []
theorem fw_le {n k : Nat} : ∀ {l : List File}, l.length ≤ k → (∀ x ∈ l, x.path.size ≤ n ∧ x.text.size ≤ n) → fw l ≤ k * (2 * n + 4)
  | [], _, _ => Nat.zero_le _
  | x :: l, hk, h => by
    cases k with
    | zero => simp at hk
    | succ k =>
      have ih := fw_le (n := n) (k := k) (l := l) (by simpa using hk) fun y hy => h y (by simp [hy])
      have hx := h x (by simp)
      rw [Nat.succ_mul]
      simp only [fw]; omega
structure MadeSz (m : Made) : Prop where
  t : m.task.size ≤ 1000
  n : m.outs.length ≤ 20
  p : ∀ x ∈ m.outs, x.path.size ≤ 1000
  w : mw m ≤ 100000
theorem zf2 {c : Cur} (hc : c.ok) {t : ByteArray} (ht : t.size ≤ 1000) : MadeSz (madeV c t) := by
  obtain ⟨_, h2, h3⟩ := zV hc
  have hd : (pickS doneL c 3).size ≤ 5 := Yy (by decide) _ _
  have hf := fw_le (n := 5) (k := 2) h2 h3
  have hf : fw (madeV c t).outs ≤ 2 * (2 * 5 + 4) := hf
  have h2 : (madeV c t).outs.length ≤ 2 := h2
  have hlog : (madeV c t).log.size ≤ 5 := hd
  have htk : (madeV c t).task.size = t.size := rfl
  refine ⟨by rw [htk]; exact ht, by omega, fun x hx => by have := (h3 x hx).1; omega, ?_⟩
  unfold mw; omega
structure CacheSz (l : List Slot) (n w : Nat) : Prop where
  ok : Slot.ty.slice.ok l
  n : l.length ≤ n
  w : toL Slot.tot l ≤ w
theorem CacheSz.nil : CacheSz [] 0 0 := ⟨⟨by decide, fun x hx => by cases hx⟩, Nat.le_refl _, Nat.le_refl _⟩
theorem CacheSz.put {l : List Slot} {n w : Nat} (h : CacheSz l n w) (hn : n ≤ 1000000) (c : Cur) (m : Made) : CacheSz (Zh l (keyV c) m) (n + 1) (w + 3002) := by
  obtain ⟨h1, h2, h3⟩ := Y4 l (keyV c) m h.ok (by have := h.n; omega) (zfa c)
  have := h.n; have := h.w; have := zaR c
  exact ⟨h1, by omega, by omega⟩
theorem zd3 : ∀ (j : Nat) (c : Cur) (l : List Slot) (n w : Nat), c.ok → CacheSz l n w → n + j ≤ 1000 → (draws j c l).2.ok ∧ CacheSz (draws j c l).1 (n + j) (w + 3002 * j)
  | 0, c, l, n, w, hc, h, _ => ⟨hc, h⟩
  | j + 1, c, l, n, w, hc, h, hn => by
    obtain ⟨h1, h2⟩ := zd3 j (madeC (ya c 6)) (Zh l (keyV c) (madeV (ya c 6) zbS)) (n + 1) (w + 3002) (zV (Ze hc 6)).1 (h.put (by omega) c _) (by omega)
    refine ⟨h1, ?_⟩
    have e1 : n + 1 + j = n + (j + 1) := by omega
    have e2 : w + 3002 + 3002 * j = w + 3002 * (j + 1) := by omega
    rw [e1, e2] at h2
    exact h2
theorem zd4 {c : Cur} (hc : c.ok) : (drawP c).2.ok ∧ CacheSz (drawP c).1 5 15010 := by
  obtain ⟨q1, q2⟩ := zj c (n := 6) (by omega)
  obtain ⟨h1, h2⟩ := zd3 (zf c 6).toNat (ya c 6) [] 0 0 (Ze hc 6) CacheSz.nil (by omega)
  have h2 : CacheSz (drawP c).1 _ _ := h2
  exact ⟨h1, h2.ok, by have := h2.n; omega, by have := h2.w; omega⟩
def A131 : AC := (.seq (.ops [qO 2 (.mov (.c .em))])
  (.seq (.ops [wO 5 (.bsl 2 0 [] []), qO 3 (.mov (.t 5))])
  (.seq (.seq (.ops [qO 6 (.mov (.t 0)), cO 7 39 [.t 6, iC 6], qO 4 (.mov (.t 7))])
  (.block 0 (.loop (.seq (.seq (.ops [qO 8 (.mov (.t 4)), qO 9 (.bin .gtr (.t 8) (iC 0))])
  (.cond (.t 9) .skip
  (.exit 0)))
  (.seq (.block 1 (.ops [qO 12 (.mov (.t 3)), qO 13 (.mov (.t 0)), cO 14 132 [.t 13], qO 15 (.mov (.t 0)), cO 16 40 [.t 15, (.c (.sc (.string ⟨#[97, 35, 98, 117, 105, 108, 100]⟩)))], cO 17 68 [.t 12, .t 14, .t 16], qO 3 (.mov (.t 17))]))
  (.ops [qO 10 (.mov (.t 4)), qO 11 (.bin .sub (.t 10) (iC 1)), qO 4 (.mov (.t 11))]))))))
  (.seq (.ops [qO 18 (.mov (.t 3)), qO 2 (.mov (.t 18))])
  .ret))))
theorem K131 : Kf Tryz.prog Tryz.f131 A131 19 [.mov (.t 2)] := ⟨by kernel_rfl, by kernel_rfl, by kernel_rfl⟩
set_option maxHeartbeats 2000000 in
theorem R131 (c : Cur) (hc : c.ok) : Ret Tryz.prog 131 [.bx c.cs] (.own (rows Slot.ty.oc (drawP c).1) (drawP c).1.length 2) [.bx (drawP c).2.cs] := by
  have fr : ∀ c : Cur, zb.idfreeL c.cs = true := fun c => rfl
  refine Ret.run Tryz.func131 K131 (by simp) rfl rfl 500 ?_
  simp [A131, iniρ, over]
  refine callK.bx (b := 100000) 0 rfl (by kernel_rfl) (by simp [za]) (by simp [za]) (fr _) (by simp [za]) (by simp) (R39 c hc 6) rfl (by rfl) rfl ?_
  obtain ⟨q1, q2⟩ := zj c (n := 6) (by omega)
  obtain ⟨m, hm⟩ : ∃ m : Nat, zf c 6 = m := ⟨(zf c 6).toNat, by omega⟩
  have hP : draws m (ya c 6) [] = drawP c := by simp [drawP, hm]
  rw [hm] at q2 ⊢
  simp
  refine T.rounds (μ := fun i : Nat × Cur × List Slot => i.1)
    (fun i s => i.2.1.ok ∧ CacheSz i.2.2 (6 - i.1) 100000 ∧ i.1 ≤ 5 ∧ toL Slot.tot i.2.2 + 3002 * i.1 ≤ 30000 ∧ draws i.1 i.2.1 i.2.2 = drawP c ∧ s.ρ 0 = .ref 100000 0 ∧ s.ρ 3 = .sl 5 0 i.2.2.length 2 false ∧ s.ρ 4 = .sc (.int .i64 i.1) ∧ s.h 100000 = some (some i.2.1.cs) ∧ s.h 5 = some (some (rows Slot.ty.oc i.2.2)) ∧ s.h 17001 = none ∧ s.h 17 = none ∧ s.n = 19) (m, ya c 6, []) ?_ ?_
  · simp [za, Ze hc, Yf, hP, toL]
    exact ⟨⟨CacheSz.nil.ok, Nat.zero_le _, Nat.zero_le _⟩, by omega, by omega⟩
  rintro ⟨j, d, l⟩ ⟨ρ, hh, n⟩ ⟨hd, hl, hj, hw, hE, k0, k3, k4, bc, b5, f1, f2, rfl⟩
  simp only at hd hl hj hw hE k0 k3 k4 bc b5 f1 f2
  refine yg (n := 400) ?_
  cases j with
  | zero =>
    have hE : (l, d) = drawP c := hE
    simp [k4]
    refine T.on 400 ?_
    rw [← hE]
    simp [k0, k3, bc, b5, ex1, Slot.ocl, Slot.frL, fr, yj]
  | succ j =>
    have hd6 := Ze hd 6
    obtain ⟨hdm, _⟩ := zV hd6
    have hpos : (0 : Int) < (j : Int) + 1 := by omega
    have hw1 : IntKind.i64.wrap (j : Int) = j := zc (by omega) (by omega)
    have hms := zf2 (c := ya d 6) hd6 (t := zbS) (by decide)
    have hkl := zaR d
    have rk := R132 d hd
    have rm := R40 (ya d 6) hd6 zbS
    have hmn := hms.n
    have hmt := hms.t
    have hmw := hms.w
    have rp := R68 l (keyV d) (madeV (ya d 6) zbS) hl.ok (by omega) (by omega) (by omega) (fun x hx => by have := hms.p x hx; omega) (by omega)
    obtain ⟨mk, hmk⟩ : ∃ mk, mk = madeV (ya d 6) zbS := ⟨_, rfl⟩
    have hE2 : draws j (madeC (ya d 6)) (Zh l (keyV d) mk) = drawP c := by rw [← hE, hmk]; rfl
    rw [← hmk] at rm rp
    have hput := hl.put (by omega) d mk
    rw [Made.oce] at rm
    rw [Made.cse] at rp
    simp [k0, k3, k4, hpos]
    refine callK.bx (b := 100000) 14 rfl (by kernel_rfl) (by simp [za, k0]) (by simp [za, bc]) (fr _) (by simp [za]) (by simp) rk rfl (by simp [inst, shut, za]; exact ⟨rfl, rfl⟩) rfl ?_
    simp [k0]
    refine callK.bx (b := 100000) 16 rfl (by kernel_rfl) (by simp [za, k0]) (by simp [za]) (fr _) (by simp [za]; rfl) (by simp [shut]) rm rfl (by simp [inst, instL, shut, za, f1]; exact ⟨rfl, rfl⟩) rfl ?_
    simp [k3]
    refine callK.ro 17 rfl (by kernel_rfl) (by simp [Yh, List.mapM_cons, List.mapM_nil, Yc, ze, Slot.roc8, File.roc7, za, b5, k3]) rp (Slot.ty.flo _) (by simp [inst, za, f2]; exact ⟨rfl, rfl⟩) rfl ?_
    simp [k4, hw1]
    obtain ⟨z1, z2, z3⟩ := Y4 l (keyV d) mk hl.ok (by have := hl.n; omega) (zfa d)
    refine ⟨j, by omega, madeC (ya d 6), Zh l (keyV d) mk, _, Le.reseat [0, 3, 4] [(17, 5), (100000, 100000)] (by simp) (by simp [za, menB, zb, k0]) ?_, ?_⟩
    · intro b hb cs hcs
      simp at hb
      rcases hb with rfl | rfl
      · simp [za] at hcs
        subst hcs
        exact yd (Slot.frL _)
      · simp [za] at hcs
        subst hcs
        exact yd (fr _)
    · have hn := hl.n
      refine ⟨hdm, ⟨z1, by omega, by omega⟩, by omega, by omega, hE2, ?_⟩
      simp [za, Yp, yn, renA, rb, k0]
def zzB : List Int := [122, 122]
def zK (i : Nat) : Slot := ⟨sB (⟨#[122]⟩ ++ numT i), []⟩
def zKs : Nat → List Slot
  | 0 => []
  | n + 1 => zKs n ++ [zK n]
def anyL (c : Cur) : List Slot × Cur :=
  let l := (drawP c).1
  let c1 := (drawP c).2
  let c2 := ya c1 10
  if zf c1 10 = 0 then (l ++ [⟨keyV c2, YT 3 (ya c2 6)⟩], zaM 3 (ya c2 6))
  else if zf c1 10 = 1 then (l ++ [⟨zzB, List.replicate (2900 + zf c2 102).toNat 0⟩], ya c2 102)
  else if zf c1 10 = 2 then (l ++ zKs 18, c2)
  else if zf c1 10 = 3 then (dmg l (zf c2 3) (zf (ya c2 3) 40) (1 + zf (ya (ya c2 3) 40) 255), ya (ya (ya c2 3) 40) 255)
  else (l, c2)
theorem zdz {h : Hp} {k : Nat} {cs : List AV} {len sz : Nat} (hs : shut.shutL cs = true) : roc h (k + 1) (.own cs len sz) = some (.ro cs len) := by
  rw [roc, if_neg (by simp [shut])]
  simp only [ZO hs, Option.map_some]
theorem zhx (xs : List Int) : shut.shutL (rows B xs) = true := zB (Ym (q := shut) (fun x c hc => by simp [B] at hc; subst hc; rfl) xs)
theorem Le.growC {st : St} {I : St → Prop} (b i : Nat) (l : List Slot) (k v : List Int) (hne : i ≠ b) (hb : st.h b = some (some (rows Slot.ty.oc l ++ [.ro (rows B k) k.length, .sl i 0 v.length 1 false]))) (hi : st.h i = some (some (rows B v)))
    (hI : ∀ h', h' b = some (some (rows Slot.ty.cs (l ++ [⟨k, v⟩]))) → (∀ c, c ≠ b → c ≠ i → h' c = st.h c) → I ⟨st.ρ, h', st.n⟩) : ∃ s, Le st s ∧ I s := by
  have hset : (rows Slot.ty.oc l ++ [AV.ro (rows B k) k.length, .sl i 0 v.length 1 false]).set (l.length * 2 + 1) (.own (rows B v) v.length 1) = rows Slot.ty.oc l ++ [.ro (rows B k) k.length, .own (rows B v) v.length 1] := by
    rw [← Slot.ocl, List.set_append_right _ _ (by omega)]
    simp
  have hget : (rows Slot.ty.oc l ++ [AV.ro (rows B k) k.length, .sl i 0 v.length 1 false])[l.length * 2 + 1]? = some (.sl i 0 v.length 1 false) := by
    rw [← Slot.ocl, List.getElem?_append_right (by omega)]
    simp
  have l1 := Le.pack b (l.length * 2 + 1) hb hget hi hne (by rw [B.count, Nat.mul_one]) (Zd B.fr v)
  rw [hset] at l1
  have l2 := Le.mute (st := ⟨st.ρ, upd (upd (upd st.h i (some none)) b (some none)) b (some (some (rows Slot.ty.oc l ++ [.ro (rows B k) k.length, .own (rows B v) v.length 1]))), st.n⟩) b (ys := rows Slot.ty.cs (l ++ [⟨k, v⟩])) (Zc _ _ _) (by
    rw [List.mapM_append, Slot.ty.rcs _ (by decide) l, Yd, yc, Yf, List.append_nil]
    simp only [List.mapM_cons, List.mapM_nil, ze, zdz (zhx v)]
    rfl)
  refine ⟨_, Le.trans l1 l2, hI _ (Zc _ _ _) fun c h1 h2 => ?_⟩
  simp only [za]
  rw [if_neg h1, if_neg h1, if_neg h1, if_neg h2]
theorem Le.growE {st : St} {I : St → Prop} (b : Nat) (l : List Slot) (k : List Int) (hb : st.h b = some (some (rows Slot.ty.cs l ++ [.ro (rows B k) k.length, .em])))
    (hI : ∀ h', h' b = some (some (rows Slot.ty.cs (l ++ [⟨k, []⟩]))) → (∀ c, c ≠ b → h' c = st.h c) → I ⟨st.ρ, h', st.n⟩) : ∃ s, Le st s ∧ I s := by
  have hset : (rows Slot.ty.cs l ++ [AV.ro (rows B k) k.length, .em]).set (l.length * 2 + 1) (.own [] 0 1) = rows Slot.ty.cs l ++ [.ro (rows B k) k.length, .own [] 0 1] := by
    rw [← Slot.csl, List.set_append_right _ _ (by omega)]
    simp
  have hget : (rows Slot.ty.cs l ++ [AV.ro (rows B k) k.length, .em])[l.length * 2 + 1]? = some .em := by
    rw [← Slot.csl, List.getElem?_append_right (by omega)]
    simp
  have l1 := Le.layC b (l.length * 2 + 1) 1 hb hget
  rw [hset] at l1
  have l2 := Le.mute (st := ⟨st.ρ, upd (upd st.h b (some none)) b (some (some (rows Slot.ty.cs l ++ [.ro (rows B k) k.length, .own [] 0 1]))), st.n⟩) b (ys := rows Slot.ty.cs (l ++ [⟨k, []⟩])) (Zc _ _ _) (by
    rw [List.mapM_append, ZO (zB (Ym Slot.ty.sh l)), Yd, yc, Yf, List.append_nil]
    simp only [List.mapM_cons, List.mapM_nil, ze, zdz (show shut.shutL [] = true from rfl)]
    rfl)
  refine ⟨_, Le.trans l1 l2, hI _ (Zc _ _ _) fun c h1 => ?_⟩
  simp only [za]
  rw [if_neg h1, if_neg h1, if_neg h1]
theorem zaV : ∀ n, (zKs n).length = n
  | 0 => rfl
  | n + 1 => by simp [zKs, zaV n]
def A64 : AC := (.seq (.ops [qO 2 (.mov (.c .em))])
  (.seq (.ops [qO 5 (.mov (.t 0)), cO 6 131 [.t 5], qO 3 (.mov (.t 6))])
  (.seq (.seq (.ops [qO 7 (.mov (.t 0)), cO 8 39 [.t 7, iC 10]])
  (.block 0 (.seq (.ops [qO 10 (.bin .eql (.t 8) (iC 0)), qO 9 (.mov (.t 10))])
  (.cond (.t 9) (.ops [qO 11 (.mov (.t 3)), qO 12 (.mov (.t 0)), cO 13 132 [.t 12], qO 14 (.mov (.t 0)), cO 15 133 [.t 14, iC 3], wO 16 (.build [.em, .em] [(0, 1, (.t 13)), (1, 1, (.t 15))]), wO 17 (.bsl 2 1 [.em, .em] [(0, 2, (.t 16))]), wO 18 (.app 2 48 false (.t 11) (.t 17)), qO 3 (.mov (.t 18))])
  (.seq (.ops [qO 20 (.bin .eql (.t 8) (iC 1)), qO 19 (.mov (.t 20))])
  (.cond (.t 19) (.ops [qO 21 (.mov (.t 3)), wO 22 (.bsl 1 2 [(.sc (.int .u8 0)), (.sc (.int .u8 0))] [(0, 1, (.c (.sc (.int .u8 122)))), (1, 1, (.c (.sc (.int .u8 122))))]), wO 23 (.fz (.t 22)), qO 24 (.mov (.t 0)), cO 25 39 [.t 24, iC 102], qO 26 (.bin .add (iC 2900) (.t 25)), wO 27 (.mk 1 1 [(.sc (.int .u8 0))] (.t 26) (.t 26)), wO 28 (.build [.em, .em] [(0, 1, (.t 23)), (1, 1, (.t 27))]), wO 29 (.bsl 2 1 [.em, .em] [(0, 2, (.t 28))]), wO 30 (.app 2 48 false (.t 21) (.t 29)), qO 3 (.mov (.t 30))])
  (.seq (.ops [qO 32 (.bin .eql (.t 8) (iC 2)), qO 31 (.mov (.t 32))])
  (.cond (.t 31) (.seq (.ops [qO 4 (.mov (iC 0))])
  (.block 1 (.loop (.seq (.seq (.ops [qO 33 (.mov (.t 4)), qO 34 (.bin .lss (.t 33) (iC 18))])
  (.cond (.t 34) .skip
  (.exit 1)))
  (.seq (.block 2 (.ops [qO 37 (.mov (.t 3)), qO 38 (.mov (.t 4)), cO 39 134 [.t 38], qO 40 (.bin .add (.c (.sc (.string ⟨#[122]⟩))) (.t 39)), wO 41 (.byt (.t 40)), wO 42 (.build [.em, .em] [(0, 1, (.t 41))]), wO 43 (.bsl 2 1 [.em, .em] [(0, 2, (.t 42))]), wO 44 (.app 2 48 false (.t 37) (.t 43)), qO 3 (.mov (.t 44))]))
  (.ops [qO 35 (.mov (.t 4)), qO 36 (.bin .add (.t 35) (iC 1)), qO 4 (.mov (.t 36))]))))))
  (.seq (.ops [qO 46 (.bin .eql (.t 8) (iC 3)), qO 45 (.mov (.t 46))])
  (.cond (.t 45) (.ops [qO 47 (.mov (.t 3)), qO 48 (.mov (.t 0)), cO 49 39 [.t 48, iC 3], qO 50 (.mov (.t 0)), cO 51 39 [.t 50, iC 40], qO 52 (.mov (.t 0)), cO 53 39 [.t 52, iC 255], qO 54 (.bin .add (iC 1) (.t 53)), cO 55 70 [.t 47, .t 49, .t 51, .t 54], qO 3 (.mov (.t 55))])
  .skip))))))))))
  (.seq (.ops [qO 56 (.mov (.t 3)), qO 2 (.mov (.t 56))])
  .ret))))
theorem K64 : Kf Tryz.prog Tryz.f64 A64 57 [.mov (.t 2)] := ⟨by kernel_rfl, by kernel_rfl, by kernel_rfl⟩
set_option maxHeartbeats 4000000 in
theorem R64 (c : Cur) (hc : c.ok) : Ret Tryz.prog 64 [.bx c.cs] (.own (rows Slot.ty.cs (anyL c).1) (anyL c).1.length 2) [.bx (anyL c).2.cs] := by
  have fr : ∀ c : Cur, zb.idfreeL c.cs = true := fun c => rfl
  obtain ⟨hc1, hl⟩ := zd4 hc
  have hc2 := Ze hc1 10
  have rd := R131 c hc
  obtain ⟨l, hle⟩ : ∃ l, l = (drawP c).1 := ⟨_, rfl⟩
  obtain ⟨c1, hce⟩ : ∃ c1, c1 = (drawP c).2 := ⟨_, rfl⟩
  obtain ⟨c2, hce2⟩ : ∃ c2, c2 = ya c1 10 := ⟨_, rfl⟩
  have hA : anyL c = if zf c1 10 = 0 then (l ++ [⟨keyV c2, YT 3 (ya c2 6)⟩], zaM 3 (ya c2 6))
    else if zf c1 10 = 1 then (l ++ [⟨zzB, List.replicate (2900 + zf c2 102).toNat 0⟩], ya c2 102)
    else if zf c1 10 = 2 then (l ++ zKs 18, c2)
    else if zf c1 10 = 3 then (dmg l (zf c2 3) (zf (ya c2 3) 40) (1 + zf (ya (ya c2 3) 40) 255), ya (ya (ya c2 3) 40) 255)
    else (l, c2) := by subst hle hce hce2; rfl
  rw [← hle, ← hce] at rd
  rw [← hle] at hl
  rw [← hce] at hc1 hc2
  have hn := hl.n
  have hb1 : (l.length + 1) * 48 ≤ 140737488355328 := by omega
  have rb := R39 c1 hc1 10
  rw [← hce2] at hc2 rb
  obtain ⟨s, hs⟩ : ∃ s, s = zf c1 10 := ⟨_, rfl⟩
  rw [hA, ← hs]
  rw [← hs] at rb
  refine Ret.runT Tryz.func64 K64 (by simp) rfl rfl ?_
  refine yg (n := 500) ?_
  simp [A64, iniρ, Zj]
  refine callK.bx (b := 100000) 6 rfl (by kernel_rfl) (by simp [za]) (by simp [za]) (fr _) (by simp [za]) (by simp) rd rfl (by simp [inst, za]; exact ⟨rfl, rfl⟩) rfl ?_
  simp
  refine callK.bx (b := 100000) 0 rfl (by kernel_rfl) (by simp [za]) (by simp [za]) (fr _) (by simp [za]) (by simp) rb rfl (by rfl) rfl ?_
  by_cases k0 : s = 0
  case pos =>
    simp [k0]
    refine callK.bx (b := 100000) 13 rfl (by kernel_rfl) (by simp [za]) (by simp [za]) (fr _) (by simp [za]) (by simp) (R132 c2 hc2) rfl (by simp [inst, shut, za]; exact ⟨rfl, rfl⟩) rfl ?_
    simp
    refine callK.bx (b := 100000) 15 rfl (by kernel_rfl) (by simp [za]) (by simp [za]) (fr _) (by simp [za]) (by simp) (R133 (ya c2 6) (Ze hc2 6) 3 (by decide)) rfl (by simp [inst, za]; exact ⟨rfl, rfl⟩) rfl ?_
    simp [Slot.ocl, over, hb1]
    rw [Zj]
    refine Le.growC 18 15 l (keyV c2) (YT 3 (ya c2 6)) (by decide) (by simp [za]) (by simp [za]) (fun h2 e1 e2 => ?_)
    have e3 := e2 100000 (by decide) (by decide)
    simp [za] at e3
    simp [ex1, e1, e3, za, Slot.csl, Slot.frC, fr, yj]
  by_cases k1 : s = 1
  case pos =>
    obtain ⟨q1, q2⟩ := zj c2 (n := 102) (by omega)
    obtain ⟨v, hv⟩ : ∃ v : Nat, zf c2 102 = v := ⟨(zf c2 102).toNat, by omega⟩
    have rz := R39 c2 hc2 102
    rw [hv] at q2 rz
    obtain ⟨w, hvw⟩ : ∃ w : Nat, (2900 : Int) + (v : Int) = w := ⟨2900 + v, rfl⟩
    have hw : IntKind.i64.wrap (w : Int) = w := zc (by omega) (by omega)
    have hz1 : (w : Int) ≤ 281474976710656 := by omega
    have hz2 : (w : Int) ≤ 9223372036854775807 := by omega
    simp [k1, hv, hvw, over, scB]
    refine callK.bx (b := 100000) 0 rfl (by kernel_rfl) (by simp [za]) (by simp [za]) (fr _) (by simp [za]) (by simp) rz rfl (by rfl) rfl ?_
    simp [hvw, hw, hz1, hz2, Slot.ocl, over, hb1]
    rw [Zj]
    refine Le.growC 30 27 l zzB (List.replicate w 0) (by decide) (by simp [za]; exact ⟨rfl, rfl⟩) (by simp [za, zeK]) (fun h2 e1 e2 => ?_)
    have e3 := e2 100000 (by decide) (by decide)
    simp [za] at e3
    simp [ex1, e1, e3, za, Slot.csl, Slot.frC, fr, yj]
  by_cases k3 : s = 3
  case pos =>
    have hc3 := Ze hc2 3
    have hc4 := Ze hc3 40
    obtain ⟨q1, q2⟩ := zj c2 (n := 3) (by omega)
    obtain ⟨q3, q4⟩ := zj (ya c2 3) (n := 40) (by omega)
    obtain ⟨q5, q6⟩ := zj (ya (ya c2 3) 40) (n := 255) (by omega)
    have hw : IntKind.i64.wrap (1 + zf (ya (ya c2 3) 40) 255) = 1 + zf (ya (ya c2 3) 40) 255 := zc (by omega) (by omega)
    have rg := R70 l (zf c2 3) (zf (ya c2 3) 40) (1 + zf (ya (ya c2 3) 40) 255) hl.ok ⟨by omega, by omega⟩
    simp [k3]
    refine callK.bx (b := 100000) 0 rfl (by kernel_rfl) (by simp [za]) (by simp [za]) (fr _) (by simp [za]) (by simp) (R39 c2 hc2 3) rfl (by rfl) rfl ?_
    simp
    refine callK.bx (b := 100000) 0 rfl (by kernel_rfl) (by simp [za]) (by simp [za]) (fr _) (by simp [za]) (by simp) (R39 _ hc3 40) rfl (by rfl) rfl ?_
    simp
    refine callK.bx (b := 100000) 0 rfl (by kernel_rfl) (by simp [za]) (by simp [za]) (fr _) (by simp [za]) (by simp) (R39 _ hc4 255) rfl (by rfl) rfl ?_
    simp [hw]
    refine callK.ro 55 rfl (by kernel_rfl) (by simp [Yc, Slot.roc8, za]) rg (Slot.ty.flo _) (by simp [inst, za]; exact ⟨rfl, rfl⟩) rfl ?_
    simp
    rw [Zj]
    refine ⟨_, Le.muteT Slot.ty (by decide) 55 (xs := dmg l (zf c2 3) (zf (ya c2 3) 40) (1 + zf (ya (ya c2 3) 40) 255)) (by simp [za]), ?_⟩
    simp [ex1, za, Slot.csl, Slot.frC, fr, yj]
  by_cases k2 : s = 2
  case neg =>
    simp [k0, k1, k2, k3]
    rw [Zj]
    refine ⟨_, Le.muteT Slot.ty (by decide) 6 (xs := l) (by simp [za]), ?_⟩
    simp [ex1, za, Slot.csl, Slot.frC, fr, yj]
  simp [k2]
  refine T.le (Le.muteT Slot.ty (by decide) 6 (xs := l) (by simp [za])) ?_
  refine T.rounds (μ := fun j : Nat => 18 - j)
    (fun j s => j ≤ 18 ∧ s.ρ 0 = .ref 100000 0 ∧ s.ρ 3 = .sl 6 0 (l.length + j) 2 false ∧ s.ρ 4 = .sc (.int .i64 j) ∧ s.h 100000 = some (some c2.cs) ∧ s.h 6 = some (some (rows Slot.ty.cs (l ++ zKs j))) ∧ s.h 43 = none ∧ s.h 44 = none ∧ s.n = 57) 0 (by simp [za, zKs]) ?_
  rintro j ⟨ρ, hh, n⟩ ⟨hj, r0, r3, r4, bc, b6, f43, f44, rfl⟩
  simp only at hj r0 r3 r4 bc b6 f43 f44
  refine yg (n := 400) ?_
  have hlen : (l ++ zKs j).length = l.length + j := by rw [List.length_append, zaV]
  have hcl : (rows Slot.ty.cs (l ++ zKs j)).length = (l.length + j) * 2 := by rw [Slot.csl, hlen]
  by_cases hj2 : j = 18
  · subst hj2
    simp [r4]
    refine T.on 400 ?_
    simp [r3]
    rw [Zj]
    refine ⟨_, Le.refl _, ?_⟩
    have := Slot.frC (l ++ zKs 18)
    simp [ex1, r0, b6, bc, hcl, this, hlen, zaV, fr, yj]
  · have hlt : (j : Int) < 18 := by omega
    have hw : IntKind.i64.wrap ((j : Int) + 1) = j + 1 := zc (by omega) (by omega)
    have hb2 : (l.length + j + 1) * 48 ≤ 140737488355328 := Nat.le_trans (Nat.mul_le_mul_right 48 (show l.length + j + 1 ≤ 24 by omega)) (by decide)
    have hz := Zi j
    have hcat : (⟨#[122]⟩ : ByteArray).size + (numT j).size ≤ 9223372036854775807 := by
      show 1 + _ ≤ _
      omega
    have hkl : (⟨#[122]⟩ ++ numT j : ByteArray).size = (sB (⟨#[122]⟩ ++ numT j)).length := (zad _).symm
    simp [r3, r4, hlt]
    refine callK.ro 0 rfl (by kernel_rfl) (by simp [Yc]) (R134 j (by omega)) rfl rfl rfl ?_
    simp [r3, r4, b6, f43, f44, hw, hcl, over, hb2, ZI, hkl, hcat]
    refine ⟨j + 1, by omega, ?_⟩
    refine Le.ex ?_
    refine Le.growE 44 (l ++ zKs j) (sB (⟨#[122]⟩ ++ numT j)) (by simp [za]) (fun h2 e1 e2 => ?_)
    have e3 := e2 100000 (by decide)
    simp [za, bc] at e3
    have e4 : l ++ zKs j ++ [⟨sB (⟨#[122]⟩ ++ numT j), []⟩] = l ++ zKs (j + 1) := by simp [zKs, zK]
    rw [e4] at e1
    refine ⟨_, Le.reseat (st := ⟨_, h2, _⟩) [0, 3, 4] [(44, 6), (100000, 100000)] (by simp) (by simp [za, menB, zb, r0]) ?_, ?_⟩
    · intro b hb cs hcs
      simp at hb
      rcases hb with rfl | rfl
      · simp [e1] at hcs
        subst hcs
        exact yd (Slot.frC _)
      · simp [e3] at hcs
        subst hcs
        exact yd (fr _)
    · simp [za, Yp, yn, renA, rb, r0, e1, e3]
      omega
theorem zg8 (z : Int) : 0 ≤ IntKind.u8.wrap z ∧ IntKind.u8.wrap z ≤ 255 := by
  unfold IntKind.wrap
  simp [IntKind.signed, IntKind.bits]
  omega
theorem zgw (xs : List Slot) (i a v : Int) (hx : Slot.ty.slice.ok xs) : (dmg xs i a v).length = xs.length ∧ Slot.ty.slice.ok (dmg xs i a v) ∧ toL Slot.tot (dmg xs i a v) = toL Slot.tot xs := by
  unfold dmg
  split
  case isFalse => exact ⟨rfl, hx, rfl⟩
  split
  case h_2 => exact ⟨rfl, hx, rfl⟩
  rename_i x hg
  split
  · exact ⟨rfl, hx, rfl⟩
  obtain ⟨hlt, hgx⟩ := List.getElem?_eq_some_iff.1 hg
  generalize hz : xr _ _ = z
  have hzr : 0 ≤ z ∧ z ≤ 255 := by rw [← hz]; exact zg8 _
  have hxs : xs = xs.take i.toNat ++ x :: xs.drop (i.toNat + 1) := by rw [← hgx]; simp
  have hxo : Slot.ty.ok x := hx.2 x (List.mem_of_getElem? hg)
  refine ⟨by simp, ⟨?_, fun y hy => ?_⟩, ?_⟩
  · rw [List.length_set]; exact hx.1
  · rcases List.mem_or_eq_of_mem_set hy with hy | rfl
    · exact hx.2 y hy
    · obtain ⟨o1, ⟨o2, o3⟩, o4⟩ := hxo
      refine ⟨o1, ⟨?_, fun w hw => ?_⟩, o4⟩
      · show (x.b.set _ z).length * _ ≤ _
        rw [List.length_set]; exact o2
      · rcases List.mem_or_eq_of_mem_set hw with hw | rfl
        · exact o3 w hw
        · exact hzr
  · rw [List.set_eq_take_append_cons_drop, if_pos hlt]
    conv => rhs; rw [hxs]
    rw [Y7, Y7]
    simp [toL, Slot.tot]
theorem zgg : ∀ n : Nat, n ≤ 20 → CacheSz (zKs n) n (n * (n + 2))
  | 0, _ => CacheSz.nil
  | n + 1, hn => by
    have ih := zgg n (by omega)
    have hz := Zi n
    have hk : (zK n).key.length ≤ n + 2 := by
      have e : (zK n).key.length = (⟨#[122]⟩ ++ numT n : ByteArray).size := zad _
      rw [e, ByteArray.size_append]
      have : (⟨#[122]⟩ : ByteArray).size = 1 := rfl
      omega
    have hb : (zK n).b.length = 0 := rfl
    refine ⟨⟨?_, fun x hx => ?_⟩, ?_, ?_⟩
    · show (zKs (n + 1)).length * 48 ≤ 140737488351232
      rw [zaV]; omega
    · rcases List.mem_append.1 hx with hx | hx
      · exact ih.ok.2 x hx
      · obtain rfl : x = zK n := by simpa using hx
        exact ⟨⟨show (zK n).key.length * 1 ≤ 140737488351232 by omega, zbZ _⟩, ⟨show (zK n).b.length * 1 ≤ 140737488351232 by omega, fun x hx => by cases hx⟩, trivial⟩
    · rw [zaV]; omega
    · have := ih.w
      simp only [zKs, Y7, toL, Slot.tot, hb]
      have e : (n + 1) * (n + 1 + 2) = n * (n + 2) + (2 * n + 3) := by
        rw [Nat.add_mul, Nat.one_mul, show n + 1 + 2 = (n + 2) + 1 from rfl, Nat.mul_add, Nat.mul_one]; omega
      rw [e]
      generalize n * (n + 2) = p at this ⊢
      omega
theorem CacheSz.app {a b : List Slot} {n w n2 w2 : Nat} (h : CacheSz a n w) (k : CacheSz b n2 w2) (hn : n + n2 ≤ 1000) : CacheSz (a ++ b) (n + n2) (w + w2) := by
  have h1 := h.n; have h2 := k.n; have h3 := h.w; have h4 := k.w
  refine ⟨⟨?_, fun x hx => (List.mem_append.1 hx).elim (h.ok.2 x) (k.ok.2 x)⟩, ?_, ?_⟩
  · show (a ++ b).length * 48 ≤ 140737488351232
    rw [List.length_append]; omega
  · rw [List.length_append]; omega
  · rw [Y7]; omega
theorem CacheSz.one {k v : List Int} {w : Nat} (hk : byteL k) (hv : byteL v) (hw : k.length + v.length ≤ w) (hw2 : w ≤ 1000000) : CacheSz [⟨k, v⟩] 1 w := by
  refine ⟨⟨by show (1 : Nat) * 48 ≤ 140737488351232; decide, fun x hx => ?_⟩, Nat.le_refl _, ?_⟩
  · obtain rfl : x = ⟨k, v⟩ := by simpa using hx
    exact ⟨⟨show k.length * 1 ≤ 140737488351232 by omega, hk⟩, ⟨show v.length * 1 ≤ 140737488351232 by omega, hv⟩, trivial⟩
  · simp only [toL, Slot.tot]; omega
theorem zfL {c : Cur} (hc : c.ok) : (anyL c).2.ok ∧ CacheSz (anyL c).1 23 30000 := by
  obtain ⟨hc1, hl⟩ := zd4 hc
  have hc2 := Ze hc1 10
  have up : ∀ {l : List Slot} {n w : Nat}, CacheSz l n w → n ≤ 23 → w ≤ 30000 → CacheSz l 23 30000 := fun h h1 h2 => ⟨h.ok, Nat.le_trans h.n h1, Nat.le_trans h.w h2⟩
  unfold anyL
  simp only
  split
  · refine ⟨zcT 3 (Ze hc2 6), up (hl.app (CacheSz.one (w := 5) (zbZ _) (zbq 3 _) ?_ (by decide)) (by decide)) (by decide) (by decide)⟩
    have := zaR (ya (drawP c).2 10)
    have e : (sB (pickS keyL (ya (drawP c).2 10) 6)).length = (keyV (ya (drawP c).2 10)).length := rfl
    rw [zbR]; omega
  · split
    · obtain ⟨q1, q2⟩ := zj (ya (drawP c).2 10) (n := 102) (by omega)
      refine ⟨Ze hc2 102, up (hl.app (CacheSz.one (w := 4000) (fun x hx => by simp [zzB] at hx; omega) (fun x hx => by rw [(List.mem_replicate.1 hx).2]; decide) ?_ (by decide)) (by decide)) (by decide) (by decide)⟩
      rw [List.length_replicate]
      show 2 + _ ≤ _
      omega
    · split
      · exact ⟨hc2, up (hl.app (zgg 18 (by decide)) (by decide)) (by decide) (by decide)⟩
      · split
        · obtain ⟨d1, d2, d3⟩ := zgw (drawP c).1 (zf (ya (drawP c).2 10) 3) (zf (ya (ya (drawP c).2 10) 3) 40) (1 + zf (ya (ya (ya (drawP c).2 10) 3) 40) 255) hl.ok
          exact ⟨Ze (Ze (Ze hc2 3) 40) 255, d2, by rw [d1]; have := hl.n; omega, by rw [d3]; have := hl.w; omega⟩
        · exact ⟨hc2, up hl (by decide) (by decide)⟩
def A21 : AC := (.seq (.ops [qO 4 (.mov (.c (.sc (.bool false))))])
  (.seq (.seq (.ops [qO 6 (.mov (.t 0)), qO 7 (.llen (.t 6)), qO 8 (.mov (.t 1)), qO 9 (.llen (.t 8)), qO 10 (.bin .neq (.t 7) (.t 9))])
  (.cond (.t 10) (.seq (.ops [qO 4 (.mov (.c (.sc (.bool false))))])
  .ret)
  .skip))
  (.seq (.seq (.ops [qO 5 (.mov (iC 0))])
  (.block 0 (.loop (.seq (.seq (.ops [qO 11 (.mov (.t 5)), qO 12 (.mov (.t 0)), qO 13 (.llen (.t 12)), qO 14 (.bin .lss (.t 11) (.t 13))])
  (.cond (.t 14) .skip
  (.exit 0)))
  (.seq (.block 1 (.seq (.any [(qO 17 (.mov (.t 0)), []), (qO 18 (.mov (.t 5)), []), (qO 19 (.iadr 2 (.t 17) (.t 18)), [0, 1]), (qO 20 (.fadr 0 (.t 19)), [2]), (qO 21 (.load false 1 (.t 20)), [3]), (qO 22 (.bstr (.t 21)), [4]), (qO 23 (.mov (.t 1)), []), (qO 24 (.mov (.t 5)), []), (qO 25 (.iadr 2 (.t 23) (.t 24)), [6, 7]), (qO 26 (.fadr 0 (.t 25)), [8]), (qO 27 (.load false 1 (.t 26)), [9]), (qO 28 (.bstr (.t 27)), [10]), (qO 29 (.bin .neq (.t 22) (.t 28)), [5, 11]), (qO 30 (.mov (.t 29)), [12]), (qG 31 30 false (.mov (.t 0)), [13]), (qG 32 30 false (.mov (.t 5)), [13]), (qG 33 30 false (.iadr 2 (.t 31) (.t 32)), [14, 15, 13]), (qG 34 30 false (.fadr 1 (.t 33)), [16, 13]), (qG 35 30 false (.load false 1 (.t 34)), [17, 13]), (qG 36 30 false (.bstr (.t 35)), [18, 13]), (qG 37 30 false (.mov (.t 1)), [13]), (qG 38 30 false (.mov (.t 5)), [13]), (qG 39 30 false (.iadr 2 (.t 37) (.t 38)), [20, 21, 13]), (qG 40 30 false (.fadr 1 (.t 39)), [22, 13]), (qG 41 30 false (.load false 1 (.t 40)), [23, 13]), (qG 42 30 false (.bstr (.t 41)), [24, 13]), (qG 43 30 false (.bin .neq (.t 36) (.t 42)), [19, 25, 13]), (qO 44 (.pick (.t 30) (.c (.sc (.bool true))) (.t 43)), [13, 26])])
  (.cond (.t 44) (.seq (.ops [qO 4 (.mov (.c (.sc (.bool false))))])
  .ret)
  .skip)))
  (.ops [qO 15 (.mov (.t 5)), qO 16 (.bin .add (.t 15) (iC 1)), qO 5 (.mov (.t 16))]))))))
  (.seq (.ops [qO 4 (.mov (.c (.sc (.bool true))))])
  .ret))))
theorem K21 : Kf Tryz.prog Tryz.f21 A21 45 [.mov (.t 4)] := ⟨by kernel_rfl, by kernel_rfl, by kernel_rfl⟩
theorem R21 (xs : List Slot) (hb : xs.length < 4611686018427387904) : Ret Tryz.prog 21 [.ro (rows Slot.ty.cs xs) xs.length, .ro (rows Slot.ty.cs xs) xs.length] (.sc (.bool true)) [.un, .un] := by
  refine Ret.run Tryz.func21 K21 (by simp) rfl rfl 500 ?_
  simp [A21, iniρ]
  refine T.rounds (μ := fun i : List Slot × List Slot => i.2.length)
    (fun i s => i.1 ++ i.2 = xs ∧ s.ρ 0 = .ro (rows Slot.ty.cs xs) xs.length ∧ s.ρ 1 = .ro (rows Slot.ty.cs xs) xs.length ∧ s.ρ 5 = .sc (.int .i64 i.1.length) ∧ s.n = 45) ([], xs) (by simp [za]) ?_
  rintro ⟨pre, rest⟩ ⟨ρ, hh, n⟩ ⟨hx, h0', h1', h5', rfl⟩
  simp only at hx h0' h1' h5'
  refine yg (n := 400) ?_
  cases rest with
  | nil =>
    simp at hx
    subst hx
    simp [h0', h5']
    refine T.on 400 ?_
    simp
  | cons x rest =>
    have hlt : (pre.length : Int) < xs.length := by rw [← hx]; simp only [List.length_append, List.length_cons]; omega
    have hd := ye Slot.ty.csn pre (x :: rest)
    rw [hx, yc] at hd
    have hd : List.drop (pre.length * 2) (rows Slot.ty.cs xs) = .ro (rows B x.key) x.key.length :: .ro (rows B x.b) x.b.length :: rows Slot.ty.cs rest := hd
    have hd1 : List.drop (pre.length * 2 + 1) (rows Slot.ty.cs xs) = .ro (rows B x.b) x.b.length :: rows Slot.ty.cs rest := by rw [← List.drop_drop, hd]; rfl
    have hw : IntKind.i64.wrap ((pre.length : Int) + 1) = pre.length + 1 := zc (by omega) (by omega)
    simp [h0', h1', h5', hlt]
    refine T.text 400 mixed (by kernel_rfl) (by kernel_rfl) ?_
    simp [h0', h1', h5', hlt, hd, hd1, ZP, B.count, B.num, hw]
    refine ⟨pre ++ [x], rest, by simp, _, Le.refl _, ?_⟩
    simp [hx, h0', h1', za]
def pathL : List ByteArray := [⟨#[97, 47, 120]⟩, ⟨#[97, 47, 121]⟩, ⟨#[97, 47, 115, 114, 99, 47, 109]⟩, ⟨#[98, 47, 120]⟩, ⟨#[98, 47, 116, 46, 109, 100]⟩, ⟨#[99, 47, 120]⟩, ⟨#[99, 47, 115, 114, 99, 47, 110, 46, 103, 111]⟩, ⟨#[116, 111, 112]⟩]
def fourL : List ByteArray := [⟨#[]⟩, ⟨#[49]⟩, ⟨#[104, 101, 108, 108, 111]⟩, ⟨#[116, 119, 111, 10]⟩]
def jnamL : List ByteArray := [⟨#[98, 35, 98, 117, 105, 108, 100]⟩, ⟨#[99, 35, 116, 101, 115, 116]⟩]
def jenvL : List ByteArray := [⟨#[]⟩, ⟨#[102, 97, 115, 116]⟩]
def actL : List ByteArray := [⟨#[112, 117, 116, 32, 104, 105, 32, 62, 32, 111]⟩, ⟨#[112, 117, 116, 32, 97, 32, 98, 32, 99, 32, 62, 32, 112]⟩, ⟨#[99, 97, 116, 32, 97, 47, 120, 32, 62, 32, 111]⟩, ⟨#[99, 97, 116, 32, 97, 47, 120, 32, 98, 47, 120, 32, 97, 47, 121, 32, 62, 32, 113]⟩, ⟨#[99, 97, 116, 32, 116, 111, 112, 32, 62, 32, 111]⟩, ⟨#[101, 110, 118, 32, 109, 111, 100, 101, 32, 62, 32, 101]⟩, ⟨#[101, 110, 118, 32, 110, 111, 110, 101, 32, 62, 32, 101]⟩, ⟨#[117, 115, 101, 32, 97, 35, 98, 117, 105, 108, 100, 32, 111, 32, 62, 32, 113]⟩, ⟨#[117, 115, 101, 32, 97, 35, 98, 117, 105, 108, 100, 32, 112, 32, 62, 32, 114]⟩, ⟨#[117, 115, 101, 32, 98, 35, 116, 101, 115, 116, 32, 111, 32, 62, 32, 113]⟩, ⟨#[108, 111, 103, 32, 100, 111, 110, 101]⟩, ⟨#[108, 111, 103, 32, 97, 32, 98]⟩, ⟨#[102, 97, 105, 108]⟩, ⟨#[112, 117, 116, 32, 104, 105, 32, 62, 32, 115]⟩, ⟨#[112, 117, 116, 32, 104, 105, 32, 62, 32, 116]⟩, ⟨#[112, 117, 116, 32, 104, 105, 32, 62, 32, 117]⟩, ⟨#[112, 117, 116, 32, 104, 105, 32, 62, 32, 118]⟩]
def aB : ByteArray := ⟨#[97, 35, 98, 117, 105, 108, 100]⟩
def bT : ByteArray := ⟨#[98, 35, 116, 101, 115, 116]⟩
def modeT : ByteArray := ⟨#[109, 111, 100, 101]⟩
def fileD (c : Cur) : File := ⟨pickS pathL c 8, pickS fourL (ya c 8) 4⟩
def zbk : Nat → Cur → List File → List File × Cur
  | 0, c, l => (l, c)
  | n + 1, c, l => zbk n (ya (ya c 8) 4) (yh l (fileD c)).1
def yX (c : Cur) : List File × Cur := zbk (zf c 9).toNat (ya c 9) []
def actsP : Nat → Cur → List ByteArray → List ByteArray × Cur
  | 0, c, l => (l, c)
  | n + 1, c, l => actsP n (ya c 17) (l ++ [pickS actL c 17])
def actsF (c : Cur) : List ByteArray × Cur := actsP (1 + zf c 4).toNat (ya c 4) []
def depA (c : Cur) : List Made × Cur := if zf c 3 = 0 then ([], ya c 3) else ([madeV (ya c 3) aB], madeC (ya c 3))
def depB (p : List Made × Cur) : List Made × Cur := if zf p.2 3 = 0 then (p.1 ++ [madeV (ya p.2 3) bT], madeC (ya p.2 3)) else (p.1, ya p.2 3)
def jF (c : Cur) : List File × Cur := yX (ya c 2)
def jA (c : Cur) : List ByteArray × Cur := actsF (ya (jF c).2 2)
def jD (c : Cur) : List Made × Cur := depB (depA (jA c).2)
def jobV (c : Cur) : Job := ⟨pickS jnamL c 2, (jA c).1, (jF c).1, [⟨modeT, pickS jenvL (jF c).2 2⟩], (jD c).1⟩
def jobC (c : Cur) : Cur := (jD c).2
theorem Cur.len3 (c d : Cur) : c.cs.length = d.cs.length := rfl
theorem zaz (c : Cur) : (fileD c).path.size ≤ 10 ∧ (fileD c).text.size ≤ 10 := ⟨Yy (by decide) _ _, Yy (by decide) _ _⟩
theorem zcP : ∀ (n : Nat) (c : Cur) (l : List File), c.ok → (∀ x ∈ l, x.path.size ≤ 10 ∧ x.text.size ≤ 10) → (zbk n c l).2.ok ∧ (zbk n c l).1.length ≤ l.length + n ∧ ∀ x ∈ (zbk n c l).1, x.path.size ≤ 10 ∧ x.text.size ≤ 10
  | 0, c, l, hc, h => ⟨hc, Nat.le_refl _, h⟩
  | n + 1, c, l, hc, h => by
    have hl := YU l (fileD c)
    obtain ⟨h1, h2, h3⟩ := zcP n (ya (ya c 8) 4) (yh l (fileD c)).1 (Ze (Ze hc 8) 4) (fun x hx => (yU l (fileD c) x hx).elim (fun e => e ▸ zaz c) (h x))
    exact ⟨h1, Nat.le_trans h2 (by omega), h3⟩
theorem zfp {c : Cur} (hc : c.ok) : (yX c).2.ok ∧ (yX c).1.length ≤ 8 ∧ ∀ x ∈ (yX c).1, x.path.size ≤ 10 ∧ x.text.size ≤ 10 := by
  obtain ⟨q1, q2⟩ := zj c (n := 9) (by omega)
  obtain ⟨h1, h2, h3⟩ := zcP (zf c 9).toNat (ya c 9) [] (Ze hc 9) (by simp)
  refine ⟨h1, Nat.le_trans h2 ?_, h3⟩
  simp only [List.length_nil]
  omega
theorem zd8 : ∀ (n : Nat) (c : Cur) (l : List ByteArray), c.ok → (∀ x ∈ l, x.size ≤ 19) → (actsP n c l).2.ok ∧ (actsP n c l).1.length = l.length + n ∧ ∀ x ∈ (actsP n c l).1, x.size ≤ 19
  | 0, c, l, hc, h => ⟨hc, rfl, h⟩
  | n + 1, c, l, hc, h => by
    obtain ⟨h1, h2, h3⟩ := zd8 n (ya c 17) (l ++ [pickS actL c 17]) (Ze hc 17) (fun x hx => by
      rcases List.mem_append.1 hx with hx | hx
      · exact h x hx
      · rw [List.mem_singleton.1 hx]; exact Yy (by decide) _ _)
    refine ⟨h1, ?_, h3⟩
    show (actsP n _ _).1.length = _
    rw [h2]
    simp only [List.length_append, List.length_cons, List.length_nil]
    omega
theorem zgf {c : Cur} (hc : c.ok) : (actsF c).2.ok ∧ (1 ≤ (actsF c).1.length ∧ (actsF c).1.length ≤ 4) ∧ ∀ x ∈ (actsF c).1, x.size ≤ 19 := by
  obtain ⟨q1, q2⟩ := zj c (n := 4) (by omega)
  obtain ⟨h1, h2, h3⟩ := zd8 (1 + zf c 4).toNat (ya c 4) [] (Ze hc 4) (by simp)
  refine ⟨h1, ?_, h3⟩
  show 1 ≤ (actsP _ _ _).1.length ∧ (actsP _ _ _).1.length ≤ 4
  rw [h2]
  simp only [List.length_nil]
  omega
def zbc (m : Made) : Prop := m.task.size ≤ 7 ∧ m.outs.length ≤ 2 ∧ (∀ x ∈ m.outs, x.path.size ≤ 5 ∧ x.text.size ≤ 5) ∧ m.log.size ≤ 5
theorem zbb {c : Cur} (hc : c.ok) {t : ByteArray} (ht : t.size ≤ 7) : zbc (madeV c t) := by
  obtain ⟨_, h2, h3⟩ := zV hc
  exact ⟨ht, h2, h3, Yy (by decide) _ _⟩
theorem zg0 {c : Cur} (hc : c.ok) : (depA c).2.ok ∧ (depA c).1.length ≤ 1 ∧ ∀ m ∈ (depA c).1, zbc m := by
  unfold depA
  split
  · exact ⟨Ze hc 3, Nat.zero_le _, fun m hm => by cases hm⟩
  · refine ⟨(zV (Ze hc 3)).1, Nat.le_refl _, fun m hm => ?_⟩
    rw [List.mem_singleton.1 hm]
    exact zbb (Ze hc 3) (by decide)
theorem zgZ {p : List Made × Cur} (hc : p.2.ok) (hl : p.1.length ≤ 1) (hs : ∀ m ∈ p.1, zbc m) : (depB p).2.ok ∧ (depB p).1.length ≤ 2 ∧ ∀ m ∈ (depB p).1, zbc m := by
  unfold depB
  split
  · refine ⟨(zV (Ze hc 3)).1, ?_, fun m hm => ?_⟩
    · simp only [List.length_append, List.length_cons, List.length_nil]; omega
    · rcases List.mem_append.1 hm with hm | hm
      · exact hs m hm
      · rw [List.mem_singleton.1 hm]
        exact zbb (Ze hc 3) (by decide)
  · exact ⟨Ze hc 3, Nat.le_trans hl (by decide), hs⟩
theorem jF_ok {c : Cur} (hc : c.ok) : (jF c).2.ok ∧ (jF c).1.length ≤ 8 ∧ ∀ x ∈ (jF c).1, x.path.size ≤ 10 ∧ x.text.size ≤ 10 := zfp (Ze hc 2)
theorem jA_ok {c : Cur} (hc : c.ok) : (jA c).2.ok ∧ (1 ≤ (jA c).1.length ∧ (jA c).1.length ≤ 4) ∧ ∀ x ∈ (jA c).1, x.size ≤ 19 := zgf (Ze (jF_ok hc).1 2)
theorem jD_ok {c : Cur} (hc : c.ok) : (jD c).2.ok ∧ (jD c).1.length ≤ 2 ∧ ∀ m ∈ (jD c).1, zbc m := by
  obtain ⟨h1, h2, h3⟩ := zg0 (jA_ok hc).1
  exact zgZ h1 h2 h3
theorem zfc {c : Cur} (hc : c.ok) : (jobC c).ok := (jD_ok hc).1
def A177 : AC := (.seq (.ops [qO 2 (.mov (.c (.sc (.string ⟨#[]⟩))))])
  (.seq (.ops [qO 3 (.mov (.t 0)), wO 4 (.bsl 1 8 [(.sc (.string ⟨#[]⟩)), (.sc (.string ⟨#[]⟩)), (.sc (.string ⟨#[]⟩)), (.sc (.string ⟨#[]⟩)), (.sc (.string ⟨#[]⟩)), (.sc (.string ⟨#[]⟩)), (.sc (.string ⟨#[]⟩)), (.sc (.string ⟨#[]⟩))] [(0, 1, (.c (.sc (.string ⟨#[97, 47, 120]⟩)))), (1, 1, (.c (.sc (.string ⟨#[97, 47, 121]⟩)))), (2, 1, (.c (.sc (.string ⟨#[97, 47, 115, 114, 99, 47, 109]⟩)))), (3, 1, (.c (.sc (.string ⟨#[98, 47, 120]⟩)))), (4, 1, (.c (.sc (.string ⟨#[98, 47, 116, 46, 109, 100]⟩)))), (5, 1, (.c (.sc (.string ⟨#[99, 47, 120]⟩)))), (6, 1, (.c (.sc (.string ⟨#[99, 47, 115, 114, 99, 47, 110, 46, 103, 111]⟩)))), (7, 1, (.c (.sc (.string ⟨#[116, 111, 112]⟩))))]), cO 5 41 [.t 3, .t 4], qO 2 (.mov (.t 5))])
  .ret))
theorem K177 : Kf Tryz.prog Tryz.f177 A177 6 [.mov (.t 2)] := ⟨by kernel_rfl, by kernel_rfl, by kernel_rfl⟩
theorem R177 (c : Cur) (hc : c.ok) : Ret Tryz.prog 177 [.bx c.cs] (.sc (.string (pickS pathL c 8))) [.bx (ya c 8).cs] := by
  have fr : ∀ c : Cur, zb.idfreeL c.cs = true := fun c => rfl
  have r1 : Ret Tryz.prog 41 [.bx c.cs, .own (rows Ty.str.oc pathL) 8 1] (.sc (.string (pickS pathL c 8))) [.bx (ya c 8).cs, .un] := R41 c hc pathL (by decide)
  refine Ret.run Tryz.func177 K177 (by simp) rfl rfl 900 ?_
  simp [A177, iniρ, over]
  refine callK.bm 100000 4 (len := 8) (sz := 1) rfl (by kernel_rfl) (by simp [za]) (by simp [za]) (fr c) (by simp [za]) (by simp [za]; rfl) (by rfl) (by rfl) (by decide) r1 rfl rfl ?_
  simp [ex1, fr, yj]
def A135 : AC := (.seq (.ops [qO 2 (.mov (.c (.sc (.string ⟨#[]⟩))))])
  (.seq (.ops [qO 3 (.mov (.t 0)), wO 4 (.bsl 1 17 [(.sc (.string ⟨#[]⟩)), (.sc (.string ⟨#[]⟩)), (.sc (.string ⟨#[]⟩)), (.sc (.string ⟨#[]⟩)), (.sc (.string ⟨#[]⟩)), (.sc (.string ⟨#[]⟩)), (.sc (.string ⟨#[]⟩)), (.sc (.string ⟨#[]⟩)), (.sc (.string ⟨#[]⟩)), (.sc (.string ⟨#[]⟩)), (.sc (.string ⟨#[]⟩)), (.sc (.string ⟨#[]⟩)), (.sc (.string ⟨#[]⟩)), (.sc (.string ⟨#[]⟩)), (.sc (.string ⟨#[]⟩)), (.sc (.string ⟨#[]⟩)), (.sc (.string ⟨#[]⟩))] [(0, 1, (.c (.sc (.string ⟨#[112, 117, 116, 32, 104, 105, 32, 62, 32, 111]⟩)))), (1, 1, (.c (.sc (.string ⟨#[112, 117, 116, 32, 97, 32, 98, 32, 99, 32, 62, 32, 112]⟩)))), (2, 1, (.c (.sc (.string ⟨#[99, 97, 116, 32, 97, 47, 120, 32, 62, 32, 111]⟩)))), (3, 1, (.c (.sc (.string ⟨#[99, 97, 116, 32, 97, 47, 120, 32, 98, 47, 120, 32, 97, 47, 121, 32, 62, 32, 113]⟩)))), (4, 1, (.c (.sc (.string ⟨#[99, 97, 116, 32, 116, 111, 112, 32, 62, 32, 111]⟩)))), (5, 1, (.c (.sc (.string ⟨#[101, 110, 118, 32, 109, 111, 100, 101, 32, 62, 32, 101]⟩)))), (6, 1, (.c (.sc (.string ⟨#[101, 110, 118, 32, 110, 111, 110, 101, 32, 62, 32, 101]⟩)))), (7, 1, (.c (.sc (.string ⟨#[117, 115, 101, 32, 97, 35, 98, 117, 105, 108, 100, 32, 111, 32, 62, 32, 113]⟩)))), (8, 1, (.c (.sc (.string ⟨#[117, 115, 101, 32, 97, 35, 98, 117, 105, 108, 100, 32, 112, 32, 62, 32, 114]⟩)))), (9, 1, (.c (.sc (.string ⟨#[117, 115, 101, 32, 98, 35, 116, 101, 115, 116, 32, 111, 32, 62, 32, 113]⟩)))), (10, 1, (.c (.sc (.string ⟨#[108, 111, 103, 32, 100, 111, 110, 101]⟩)))), (11, 1, (.c (.sc (.string ⟨#[108, 111, 103, 32, 97, 32, 98]⟩)))), (12, 1, (.c (.sc (.string ⟨#[102, 97, 105, 108]⟩)))), (13, 1, (.c (.sc (.string ⟨#[112, 117, 116, 32, 104, 105, 32, 62, 32, 115]⟩)))), (14, 1, (.c (.sc (.string ⟨#[112, 117, 116, 32, 104, 105, 32, 62, 32, 116]⟩)))), (15, 1, (.c (.sc (.string ⟨#[112, 117, 116, 32, 104, 105, 32, 62, 32, 117]⟩)))), (16, 1, (.c (.sc (.string ⟨#[112, 117, 116, 32, 104, 105, 32, 62, 32, 118]⟩))))]), cO 5 41 [.t 3, .t 4], qO 2 (.mov (.t 5))])
  .ret))
theorem K135 : Kf Tryz.prog Tryz.f135 A135 6 [.mov (.t 2)] := ⟨by kernel_rfl, by kernel_rfl, by kernel_rfl⟩
theorem R135 (c : Cur) (hc : c.ok) : Ret Tryz.prog 135 [.bx c.cs] (.sc (.string (pickS actL c 17))) [.bx (ya c 17).cs] := by
  have fr : ∀ c : Cur, zb.idfreeL c.cs = true := fun c => rfl
  have r1 : Ret Tryz.prog 41 [.bx c.cs, .own (rows Ty.str.oc actL) 17 1] (.sc (.string (pickS actL c 17))) [.bx (ya c 17).cs, .un] := R41 c hc actL (by decide)
  refine Ret.run Tryz.func135 K135 (by simp) rfl rfl 900 ?_
  simp [A135, iniρ, over]
  refine callK.bm 100000 4 (len := 17) (sz := 1) rfl (by kernel_rfl) (by simp [za]) (by simp [za]) (fr c) (by simp [za]) (by simp [za]; rfl) (by rfl) (by rfl) (by decide) r1 rfl rfl ?_
  simp [ex1, fr, yj]
def A103 : AC := (.seq (.ops [qO 2 (.mov (.c .em))])
  (.seq (.ops [wO 5 (.bsl 2 0 [] []), qO 3 (.mov (.t 5))])
  (.seq (.seq (.ops [qO 6 (.mov (.t 0)), cO 7 39 [.t 6, iC 9], qO 4 (.mov (.t 7))])
  (.block 0 (.loop (.seq (.seq (.ops [qO 8 (.mov (.t 4)), qO 9 (.bin .gtr (.t 8) (iC 0))])
  (.cond (.t 9) .skip
  (.exit 0)))
  (.seq (.block 1 (.ops [qO 13 (.mov (.t 3)), qO 14 (.mov (.t 0)), cO 15 177 [.t 14], qO 16 (.mov (.t 0)), wO 17 (.bsl 1 4 [(.sc (.string ⟨#[]⟩)), (.sc (.string ⟨#[]⟩)), (.sc (.string ⟨#[]⟩)), (.sc (.string ⟨#[]⟩))] [(0, 1, (.c (.sc (.string ⟨#[]⟩)))), (1, 1, (.c (.sc (.string ⟨#[49]⟩)))), (2, 1, (.c (.sc (.string ⟨#[104, 101, 108, 108, 111]⟩)))), (3, 1, (.c (.sc (.string ⟨#[116, 119, 111, 10]⟩))))]), cO 18 41 [.t 16, .t 17], wO 19 (.build [(.sc (.string ⟨#[]⟩)), (.sc (.string ⟨#[]⟩))] [(0, 1, (.t 15)), (1, 1, (.t 18))]), cO 20 105 [.t 13, .t 19], qO 12 (.mov (.t 20)), qO 21 (.ext (.t 12) 0), qO 22 (.ext (.t 12) 1), qO 3 (.mov (.t 21))]))
  (.ops [qO 10 (.mov (.t 4)), qO 11 (.bin .sub (.t 10) (iC 1)), qO 4 (.mov (.t 11))]))))))
  (.seq (.ops [qO 23 (.mov (.t 3)), qO 2 (.mov (.t 23))])
  .ret))))
theorem K103 : Kf Tryz.prog Tryz.f103 A103 24 [.mov (.t 2)] := ⟨by kernel_rfl, by kernel_rfl, by kernel_rfl⟩
set_option maxHeartbeats 2000000 in
theorem R103 (c : Cur) (hc : c.ok) : Ret Tryz.prog 103 [.bx c.cs] (.own (rows File.ty.oc (yX c).1) (yX c).1.length 2) [.bx (yX c).2.cs] := by
  have fr : ∀ c : Cur, zb.idfreeL c.cs = true := fun c => rfl
  refine Ret.run Tryz.func103 K103 (by simp) rfl rfl 900 ?_
  simp [A103, iniρ, over]
  refine callK.bx (b := 100000) 0 rfl (by kernel_rfl) (by simp [za]) (by simp [za]) (fr _) (by simp [za]) (by simp) (R39 c hc 9) rfl (by rfl) rfl ?_
  obtain ⟨q1, q2⟩ := zj c (n := 9) (by omega)
  obtain ⟨m, hm⟩ : ∃ m : Nat, zf c 9 = m := ⟨(zf c 9).toNat, by omega⟩
  have hP : zbk m (ya c 9) [] = yX c := by simp [yX, hm]
  rw [hm] at q2 ⊢
  simp
  refine T.le (Le.reseat [0, 3, 4] [(100000, 100000), (5, 60)] (by simp) (by simp [za, menB, zb]) (by
    intro b hb cs hcs
    simp at hb
    rcases hb with rfl | rfl
    · simp [za] at hcs
      subst hcs
      exact yd (fr _)
    · simp [za] at hcs
      subst hcs
      simp)) ?_
  refine T.rounds (μ := fun i : Nat × Cur × List File => i.1)
    (fun i s => i.2.1.ok ∧ i.2.2.length + i.1 ≤ 9 ∧ (∀ x ∈ i.2.2, x.path.size ≤ 10 ∧ x.text.size ≤ 10) ∧ zbk i.1 i.2.1 i.2.2 = yX c ∧ s.ρ 0 = .ref 100000 0 ∧ s.ρ 3 = .sl 60 0 i.2.2.length 2 false ∧ s.ρ 4 = .sc (.int .i64 i.1) ∧ s.h 100000 = some (some i.2.1.cs) ∧ s.h 60 = some (some (rows File.ty.oc i.2.2)) ∧ s.h 17 = none ∧ s.h 21000 = none ∧ s.n = 24) (m, ya c 9, []) (by simp [za, Yf, hP, Ze, hc]; omega) ?_
  rintro ⟨j, d, out⟩ ⟨ρ, hh, n⟩ ⟨hd, hj, hs, hE, k0, k3, k4, kc, kf, f1, f2, rfl⟩
  simp only at hd hj hs hE k0 k3 k4 kc kf f1 f2
  refine yg (n := 400) ?_
  cases j
  case succ j =>
    have hw : IntKind.i64.wrap (j : Int) = j := zc (by omega) (by omega)
    have hpos : (0 : Int) < (j : Int) + 1 := by omega
    have rb : Ret Tryz.prog 41 [.bx (ya d 8).cs, .own (rows Ty.str.oc fourL) 4 1] (.sc (.string (fileD d).text)) [.bx (ya (ya d 8) 4).cs, .un] := R41 _ (Ze hd 8) fourL (by decide)
    have hok : File.ty.slice.ok out := ⟨show out.length * 32 ≤ 140737488351232 by omega, fun x hx => ⟨show x.path.size ≤ 140737488351232 by have := hs x hx; omega, show x.text.size ≤ 140737488351232 by have := hs x hx; omega, trivial⟩⟩
    have rp := R105 out (fileD d) hok (fun x hx => by have := hs x hx; omega) (by have := zaz d; omega)
    simp [k4, hpos]
    refine callK.bx (b := 100000) 0 rfl (by kernel_rfl) (by simp [za, k0]) (by simp [za, kc]) (fr _) (by simp [za]) (by simp) (R177 d hd) rfl (by rfl) rfl ?_
    simp [k0, f1, over]
    refine callK.bm 100000 17 (len := 4) (sz := 1) rfl (by kernel_rfl) (by simp [za, k0]) (by simp [za]) (fr _) (by simp [za]) (by simp [za]; rfl) (by rfl) (by rfl) (by decide) rb rfl rfl ?_
    simp [over]
    refine callK.ro 20 rfl (by kernel_rfl) (by simp [Zg, File.roc8, File.cse, za, k3, kf, fileD]) rp (by simpa [flt, flt.fltL] using zbi (Ym (q := flt) (fun x c hc => (File.ty.ow x c hc).fl) _)) (by simp [inst, instL, za, f2]; exact ⟨rfl, rfl⟩) rfl ?_
    simp [k4, hw]
    refine ⟨j, by omega, ya (ya d 8) 4, (yh out (fileD d)).1, _, Le.reseat [0, 3, 4] [(100000, 100000), (21000, 60)] (by simp) (by simp [za, menB, zb, k0]) (by
      intro b hb cs hcs
      simp at hb
      rcases hb with rfl | rfl
      · simp [za] at hcs
        subst hcs
        exact yd (fr _)
      · simp [za] at hcs
        subst hcs
        exact yd (File.frL _)), ?_⟩
    have hl := YU out (fileD d)
    have hz := zaz d
    simp [za, k0, Ze, hd]
    exact ⟨by omega, fun x hx => (yU out (fileD d) x hx).elim (fun e => e ▸ hz) (hs x), hE⟩
  have hE1 : out = (yX c).1 := by rw [← hE]; rfl
  have hE2 : d = (yX c).2 := by rw [← hE]; rfl
  simp [k4]
  refine T.on 400 ?_
  simp [k0, k3, kc, kf, ex1, File.ocl, File.frL, fr, yj, hE1, hE2]
def A65 : AC := (.seq (.ops [wO 2 (.alloc [(.sc (.string ⟨#[]⟩)), .em, .em, .em, .em])])
  (.seq (.ops [qO 5 (.mov (.t 0)), wO 6 (.bsl 1 2 [(.sc (.string ⟨#[]⟩)), (.sc (.string ⟨#[]⟩))] [(0, 1, (.c (.sc (.string ⟨#[98, 35, 98, 117, 105, 108, 100]⟩)))), (1, 1, (.c (.sc (.string ⟨#[99, 35, 116, 101, 115, 116]⟩))))]), cO 7 41 [.t 5, .t 6], qO 8 (.mov (.t 0)), cO 9 103 [.t 8], qO 10 (.mov (.t 0)), wO 11 (.bsl 1 2 [(.sc (.string ⟨#[]⟩)), (.sc (.string ⟨#[]⟩))] [(0, 1, (.c (.sc (.string ⟨#[]⟩)))), (1, 1, (.c (.sc (.string ⟨#[102, 97, 115, 116]⟩))))]), cO 12 41 [.t 10, .t 11], wO 13 (.build [(.sc (.string ⟨#[]⟩)), (.sc (.string ⟨#[]⟩))] [(0, 1, (.c (.sc (.string ⟨#[109, 111, 100, 101]⟩)))), (1, 1, (.t 12))]), wO 14 (.bsl 2 1 [(.sc (.string ⟨#[]⟩)), (.sc (.string ⟨#[]⟩))] [(0, 2, (.t 13))]), wO 15 (.bsl 3 0 [] []), wO 16 (.build [(.sc (.string ⟨#[]⟩)), .em, .em, .em, .em] [(0, 1, (.t 7)), (2, 1, (.t 9)), (3, 1, (.t 14)), (4, 1, (.t 15))]), wO 3 (.alloc [(.sc (.string ⟨#[]⟩)), .em, .em, .em, .em]), nO (.store 5 (.t 3) (.t 16))])
  (.seq (.seq (.ops [qO 17 (.mov (.t 0)), cO 18 39 [.t 17, iC 4], qO 19 (.bin .add (iC 1) (.t 18)), qO 4 (.mov (.t 19))])
  (.block 0 (.loop (.seq (.seq (.ops [qO 20 (.mov (.t 4)), qO 21 (.bin .gtr (.t 20) (iC 0))])
  (.cond (.t 21) .skip
  (.exit 0)))
  (.seq (.block 1 (.any [(qO 24 (.fadr 1 (.t 3)), []), (qO 25 (.load false 1 (.t 24)), [0]), (qO 26 (.mov (.t 0)), []), (cO 27 135 [.t 26], [2]), (wO 28 (.bsl 1 1 [(.sc (.string ⟨#[]⟩))] [(0, 1, (.t 27))]), [3]), (wO 29 (.app 1 16 false (.t 25) (.t 28)), [1, 4, 3]), (qO 30 (.fadr 1 (.t 3)), [0, 1, 2, 3, 4, 5]), (nO (.store 1 (.t 30) (.t 29)), [6, 5, 5, 0, 1, 2, 3, 4, 5])]))
  (.ops [qO 22 (.mov (.t 4)), qO 23 (.bin .sub (.t 22) (iC 1)), qO 4 (.mov (.t 23))]))))))
  (.seq (.seq (.ops [qO 31 (.mov (.t 0)), cO 32 66 [.t 31, iC 3], qO 33 (.not (.t 32))])
  (.cond (.t 33) (.any [(qO 34 (.fadr 4 (.t 3)), []), (qO 35 (.load false 1 (.t 34)), [0]), (qO 36 (.mov (.t 0)), []), (cO 37 40 [.t 36, (.c (.sc (.string ⟨#[97, 35, 98, 117, 105, 108, 100]⟩)))], [2]), (wO 38 (.bsl 3 1 [(.sc (.string ⟨#[]⟩)), .em, (.sc (.string ⟨#[]⟩))] [(0, 3, (.t 37))]), [3]), (wO 39 (.app 3 56 false (.t 35) (.t 38)), [1, 4, 3]), (qO 40 (.fadr 4 (.t 3)), [0, 1, 2, 3, 4, 5]), (nO (.store 1 (.t 40) (.t 39)), [6, 5, 5, 0, 1, 2, 3, 4, 5])])
  .skip))
  (.seq (.seq (.ops [qO 41 (.mov (.t 0)), cO 42 66 [.t 41, iC 3]])
  (.cond (.t 42) (.any [(qO 43 (.fadr 4 (.t 3)), []), (qO 44 (.load false 1 (.t 43)), [0]), (qO 45 (.mov (.t 0)), []), (cO 46 40 [.t 45, (.c (.sc (.string ⟨#[98, 35, 116, 101, 115, 116]⟩)))], [2]), (wO 47 (.bsl 3 1 [(.sc (.string ⟨#[]⟩)), .em, (.sc (.string ⟨#[]⟩))] [(0, 3, (.t 46))]), [3]), (wO 48 (.app 3 56 false (.t 44) (.t 47)), [1, 4, 3]), (qO 49 (.fadr 4 (.t 3)), [0, 1, 2, 3, 4, 5]), (nO (.store 1 (.t 49) (.t 48)), [6, 5, 5, 0, 1, 2, 3, 4, 5])])
  .skip))
  (.seq (.ops [qO 50 (.load true 5 (.t 3)), nO (.store 5 (.t 2) (.t 50))])
  .ret))))))
theorem K65 : Kf Tryz.prog Tryz.f65 A65 51 [.load true 5 (.t 2)] := ⟨by kernel_rfl, by kernel_rfl, by kernel_rfl⟩
set_option maxHeartbeats 8000000 in
set_option maxRecDepth 20000 in
theorem R65 (c : Cur) (hc : c.ok) : Ret Tryz.prog 65 [.bx c.cs] (.agg (Job.ty.oc (jobV c))) [.bx (jobC c).cs] := by
  have fr : ∀ c : Cur, zb.idfreeL c.cs = true := fun c => rfl
  have hcF := jF_ok hc
  have hcA := jA_ok hc
  have r1 : Ret Tryz.prog 41 [.bx c.cs, .own (rows Ty.str.oc jnamL) 2 1] (.sc (.string (pickS jnamL c 2))) [.bx (ya c 2).cs, .un] := R41 c hc jnamL (by decide)
  have r2 : Ret Tryz.prog 41 [.bx (jF c).2.cs, .own (rows Ty.str.oc jenvL) 2 1] (.sc (.string (pickS jenvL (jF c).2 2))) [.bx (ya (jF c).2 2).cs, .un] := R41 _ hcF.1 jenvL (by decide)
  have rF : Ret Tryz.prog 103 [.bx (ya c 2).cs] (.own (rows File.ty.oc (jF c).1) (jF c).1.length 2) [.bx (jF c).2.cs] := R103 _ (Ze hc 2)
  obtain ⟨nm, hnm⟩ : ∃ t, t = pickS jnamL c 2 := ⟨_, rfl⟩
  obtain ⟨ev, hev⟩ : ∃ t, t = pickS jenvL (jF c).2 2 := ⟨_, rfl⟩
  obtain ⟨fs, hfs⟩ : ∃ t, t = (jF c).1 := ⟨_, rfl⟩
  rw [← hnm] at r1
  rw [← hev] at r2
  rw [← hfs] at rF
  obtain ⟨q1, q2⟩ := zj (ya (jF c).2 2) (n := 4) (by omega)
  obtain ⟨m, hm⟩ : ∃ m : Nat, zf (ya (jF c).2 2) 4 = m := ⟨(zf (ya (jF c).2 2) 4).toNat, by omega⟩
  have hw1 : IntKind.i64.wrap (1 + (m : Int)) = ((m + 1 : Nat) : Int) := by rw [zc (by omega) (by omega)]; omega
  have hP : actsP (m + 1) (ya (ya (jF c).2 2) 4) [] = jA c := by
    show _ = actsP (1 + zf (ya (jF c).2 2) 4).toNat _ []
    rw [hm, show (1 + (m : Int)).toNat = m + 1 by omega]
  refine Ret.runT Tryz.func65 K65 (by simp) rfl rfl ?_
  refine yg (n := 900) ?_
  simp [A65, iniρ, over, Zj]
  refine callK.bm 100000 6 (len := 2) (sz := 1) rfl (by kernel_rfl) (by simp [za]) (by simp [za]) (fr c) (by simp [za]) (by simp [za]; rfl) (by rfl) (by rfl) (by decide) r1 rfl rfl ?_
  simp [over]
  refine callK.bx (b := 100000) 9 rfl (by kernel_rfl) (by simp [za]) (by simp [za]) (fr _) (by simp [za]) (by simp) rF rfl (by simp [inst, za]; exact ⟨rfl, rfl⟩) rfl ?_
  simp [over]
  refine callK.bm 100000 11 (len := 2) (sz := 1) rfl (by kernel_rfl) (by simp [za]) (by simp [za]) (fr _) (by simp [za]) (by simp [za]; rfl) (by rfl) (by rfl) (by decide) r2 rfl rfl ?_
  simp [over]
  refine callK.bx (b := 100000) 0 rfl (by kernel_rfl) (by simp [za]) (by simp [za]) (fr _) (by simp [za]) (by simp) (R39 _ (Ze hcF.1 2) 4) rfl (by rfl) rfl ?_
  rw [hm] at q2 ⊢
  simp [hw1]
  refine T.le (Le.layC 3 1 1 (by simp [za]; rfl) rfl) ?_
  refine T.le (Le.pack 3 2 (i := 9) (len := fs.length) (sz := 2) (cs' := rows File.ty.oc fs) (by simp [za]; rfl) (by rfl) (by simp [za]) (by decide) (by simp [File.ocl]) (File.frL _)) ?_
  refine T.le (Le.pack 3 3 (i := 14) (len := 1) (sz := 2) (cs' := [.sc (.string modeT), .sc (.string ev)]) (by simp [za]; rfl) (by rfl) (by simp [za, modeT]) (by decide) (by rfl) (by rfl)) ?_
  refine T.le (Le.pack 3 4 (i := 15) (len := 0) (sz := 3) (cs' := []) (by simp [za]; rfl) (by rfl) (by simp [za]) (by decide) (by rfl) (by rfl)) ?_
  refine T.le (Le.reseat [0, 2, 3, 4] [(100000, 100000), (2, 2), (3, 3)] (by simp) (by simp [za, menB, zb]) (by
    intro b hb cs hcs
    simp at hb
    rcases hb with rfl | rfl | rfl
    · simp [za] at hcs
      subst hcs
      exact yd (fr _)
    · simp [za] at hcs
      subst hcs
      simp [zb]
    · simp [za] at hcs
      subst hcs
      have hf2 := File.frL fs
      simp [zb, zb.idfreeL, hf2])) ?_
  have hap : ∀ (l : List ByteArray) (g : ByteArray), rows Ty.str.oc l ++ [.sc (.string g)] = rows Ty.str.oc (l ++ [g]) := fun l g => by rw [Yd]; rfl
  refine T.rounds (μ := fun i : Nat × Cur × List ByteArray => i.1)
    (fun i s => i.2.1.ok ∧ i.2.2.length + i.1 ≤ 9 ∧ actsP i.1 i.2.1 i.2.2 = jA c ∧ s.ρ 0 = .ref 100000 0 ∧ s.ρ 2 = .ref 2 0 ∧ s.ρ 3 = .ref 3 0 ∧ s.ρ 4 = .sc (.int .i64 i.1) ∧ s.h 100000 = some (some i.2.1.cs) ∧ s.h 2 = some (some [.sc (.string ⟨#[]⟩), .em, .em, .em, .em]) ∧
      s.h 3 = some (some [.sc (.string nm), .own (rows Ty.str.oc i.2.2) i.2.2.length 1, .own (rows File.ty.oc fs) fs.length 2, .own [.sc (.string modeT), .sc (.string ev)] 1 2, .own [] 0 3]) ∧ (∀ b, b ≠ 100000 → b ≠ 2 → b ≠ 3 → s.h b = none) ∧ s.n = 51) (m + 1, ya (ya (jF c).2 2) 4, []) (by
      simp [za, Yf, hP, Ze, hcF.1, List.set]
      exact ⟨by omega, fun b h1 h2 h3 => by simp [Ne.symm h1, Ne.symm h2, Ne.symm h3]⟩) ?_
  rintro ⟨j, d, l⟩ ⟨ρ, hh, n⟩ ⟨hd, hj, hE, k0, k2, k3, k4, kc, g2, g3, bf, rfl⟩
  simp only at hd hj hE k0 k2 k3 k4 kc g2 g3 bf
  have f60 := bf 60 (by decide) (by decide) (by decide)
  refine T.le (Le.open 3 1 60 g3 rfl f60 (Ty.str.frL _)) ?_
  refine yg (n := 900) ?_
  cases j
  case succ j =>
   as_aux_lemma =>
    have hw : IntKind.i64.wrap (j : Int) = j := zc (by omega) (by omega)
    have hpos : (0 : Int) < (j : Int) + 1 := by omega
    have f28 := bf 28 (by decide) (by decide) (by decide)
    have f29 := bf 29 (by decide) (by decide) (by decide)
    have hcap : (l.length + 1) * 16 ≤ 140737488355328 := Nat.le_trans (Nat.mul_le_mul_right 16 (show l.length + 1 ≤ 10 by omega)) (by decide)
    have hlen : (rows Ty.str.oc l).length = l.length := by rw [Yb Ty.str.ocn]; exact Nat.mul_one _
    simp [k4, hpos]
    refine T.textW 400 [([], [28, 100000]), ([], [28, 100000]), ([], []), ([100000], []), ([28], []), ([60, 28, 29], []), ([], []), ([3], [])] mixed (by kernel_rfl) (by kernel_rfl) ?_
    simp [k0, k3, over]
    refine yf.bx (b := 100000) 0 rfl (by kernel_rfl) (by simp [za, k0]) (by simp [za, Za, kc]) (fr _) (by simp [za]) (by simp) (R135 d hd) rfl (by rfl) (by rfl) ?_
    simp [k0, k3, f28, f29, over, Zb, yb, hcap, hlen, hap]
    simp [k4, hw]
    refine ⟨j, by omega, ya d 17, l ++ [pickS actL d 17], _, Le.trans (Le.pack 3 1 (i := 29) (len := l.length + 1) (sz := 1) (cs' := rows Ty.str.oc (l ++ [pickS actL d 17])) (by simp [za, Ya, Za, hap]; rfl) (by rfl) (by simp [za, Ya, Za, hap]) (by decide) (by rw [Yb Ty.str.ocn]; simp [Ty.str]) (Ty.str.frL _)) (Le.reseat [0, 2, 3, 4] [(100000, 100000), (2, 2), (3, 3)] (by simp) (by simp [za, menB, zb, k0, k2, k3]) (by
      intro b hb cs hcs
      simp at hb
      rcases hb with rfl | rfl | rfl
      · simp [za, Ya, Za] at hcs
        subst hcs
        exact yd (fr _)
      · simp [za, Ya, Za, g2] at hcs
        subst hcs
        simp [zb]
      · simp [za, Ya, Za] at hcs
        subst hcs
        have hf := Ty.str.frL (l ++ [pickS actL d 17])
        have hf2 := File.frL fs
        simp [zb, zb.idfreeL, hf, hf2])), ?_⟩
    simp [za, Ya, Za, k0, k2, k3, g2, Ze, hd]
    exact ⟨by omega, hE, fun b h1 h2 h3 => by simp [Ne.symm h1, Ne.symm h2, Ne.symm h3]⟩
  have hE1 : l = (jA c).1 := by rw [← hE]; rfl
  have hE2 : d = (jA c).2 := by rw [← hE]; rfl
  have hlen : (rows Ty.str.oc l).length = l.length := by rw [Yb Ty.str.ocn]; exact Nat.mul_one _
  have hidl := Ty.str.frL l
  have hJ : Job.ty.oc (jobV c) = [.sc (.string nm), .own (rows Ty.str.oc l) l.length 1, .own (rows File.ty.oc fs) fs.length 2, .own [.sc (.string modeT), .sc (.string ev)] 1 2, .own (rows Made.ty.oc (depB (depA d)).1) (depB (depA d)).1.length 3] := by
    rw [Job.oce, hE1, hE2, hnm, hev, hfs]; rfl
  have hC : jobC c = (depB (depA d)).2 := by rw [hE2]; rfl
  have f61 := bf 61 (by decide) (by decide) (by decide)
  have f62 := bf 62 (by decide) (by decide) (by decide)
  have f63 := bf 63 (by decide) (by decide) (by decide)
  have f28 := bf 28 (by decide) (by decide) (by decide)
  have f29 := bf 29 (by decide) (by decide) (by decide)
  have f38 := bf 38 (by decide) (by decide) (by decide)
  have f39 := bf 39 (by decide) (by decide) (by decide)
  have f47 := bf 47 (by decide) (by decide) (by decide)
  have f48 := bf 48 (by decide) (by decide) (by decide)
  have f38001 := bf 38001 (by decide) (by decide) (by decide)
  have f47001 := bf 47001 (by decide) (by decide) (by decide)
  have hd1 := Ze hd 3
  simp [k4]
  refine T.on 900 ?_
  simp [k0]
  refine callK.le (Le.open 3 4 61 (by simp [za]; rfl) rfl (by simp [za, f61]) rfl) ?_
  refine callK.le (Le.open 3 2 62 (by simp [za]; rfl) rfl (by simp [za, f62]) (File.frL _)) ?_
  refine callK.le (Le.open 3 3 63 (by simp [za]; rfl) rfl (by simp [za, f63]) rfl) ?_
  refine callK.bx (b := 100000) 0 rfl (by kernel_rfl) (by simp [za, k0]) (by simp [za, Ya, Za, kc]) (fr _) (by simp [za]) (by simp [shut]) (R66 (d) (hd) 3) (Cur.len3 _ _) (by rfl) rfl ?_
  by_cases kA : zf d 3 = 0
  case pos =>
   as_aux_lemma =>
    simp [kA]
    refine callK.bx (b := 100000) 0 rfl (by kernel_rfl) (by simp [za, k0]) (by simp [za, Ya, Za, kc]) (fr _) (by simp [za]) (by simp [shut]) (R66 (ya d 3) (hd1) 3) (Cur.len3 _ _) (by rfl) rfl ?_
    by_cases kB : zf (ya d 3) 3 = 0
    case pos =>
     as_aux_lemma =>
      have hD : depB (depA d) = ([madeV (ya (ya d 3) 3) bT], madeC (ya (ya d 3) 3)) := by simp [depB, depA, kA, kB]
      have hd2 := Ze hd1 3
      simp [kB, k0, k3]
      refine T.textW 400 [([], [47, 47001, 100000]), ([], [47, 47001, 100000]), ([], []), ([100000, 47001], []), ([47], []), ([47, 61, 48], []), ([], []), ([3], [])] mixed (by kernel_rfl) (by kernel_rfl) ?_
      simp [k0, k3, over, k2, g2, f38, f39, f47, f48, f38001, f47001, f61]
      refine yf.bx (b := 100000) 46 rfl (by kernel_rfl) (by simp [za, k0]) (by simp [za, Za, kc]) (fr _) rfl (by simp [shut]) (R40 (ya (ya d 3) 3) (hd2) bT) (Cur.len3 _ _) (by simp [inst, instL, Made.oce, za, Za, k2, g2, f38, f39, f47, f48, f38001, f47001, f61]; exact ⟨rfl, rfl⟩) (by rfl) ?_
      simp [k0, k3, over, Zb, yb, k2, g2, f38, f39, f47, f48, f38001, f47001, f61]
      rw [Zj]
      refine ⟨_, Le.pack 48 1 (i := 47001) (len := (madeV (ya (ya d 3) 3) bT).outs.length) (sz := 2) (cs' := rows File.ty.oc (madeV (ya (ya d 3) 3) bT).outs) (by simp [za, Ya]; rfl) (by rfl) (by simp [za, Ya]) (by decide) (by simp [File.ocl]) (File.frL _), ?_⟩
      as_aux_lemma => simp [over, ex1, File.ocl, File.frL, fr, yj, k0, k2, k3, g2, kc, hlen, hidl, za, Ya, Za, hJ, hC, hD, Made.oce, yc, Yf, zb, zb.idfreeL, kA, kB]
    have hD : depB (depA d) = ([], ya (ya d 3) 3) := by simp [depB, depA, kA, kB]
    simp [kB, k0, k3, k2, g2, za]
    rw [Zj]
    refine ⟨_, Le.refl _, ?_⟩
    as_aux_lemma => simp [over, ex1, File.ocl, File.frL, fr, yj, k0, k2, k3, g2, kc, hlen, hidl, za, Ya, Za, hJ, hC, hD, Made.oce, yc, Yf, zb, zb.idfreeL, kA, kB, f61]
  case neg =>
   as_aux_lemma =>
    simp [kA, k0, k3]
    refine T.textW 400 [([], [38, 38001, 100000]), ([], [38, 38001, 100000]), ([], []), ([100000, 38001], []), ([38], []), ([38, 61, 39], []), ([], []), ([3], [])] mixed (by kernel_rfl) (by kernel_rfl) ?_
    simp [k0, k3, over, k2, g2, f38, f39, f47, f48, f38001, f47001, f61]
    refine yf.bx (b := 100000) 37 rfl (by kernel_rfl) (by simp [za, k0]) (by simp [za, Za, kc]) (fr _) rfl (by simp [shut]) (R40 (ya d 3) (hd1) aB) (Cur.len3 _ _) (by simp [inst, instL, Made.oce, za, Za, k2, g2, f38, f39, f47, f48, f38001, f47001, f61]; exact ⟨rfl, rfl⟩) (by rfl) ?_
    simp [k0, k3, over, Zb, yb, k2, g2, f38, f39, f47, f48, f38001, f47001, f61]
    have hd2 := (zV hd1).1
    refine callK.le (Le.pack 39 1 (i := 38001) (len := (madeV (ya d 3) aB).outs.length) (sz := 2) (cs' := rows File.ty.oc (madeV (ya d 3) aB).outs) (by simp [za, Ya]; rfl) (by rfl) (by simp [za, Ya]) (by decide) (by simp [File.ocl]) (File.frL _)) ?_
    have f63l := File.frL fs
    have f64l := File.frL (madeV (ya d 3) aB).outs
    refine callK.le (Le.told [(0, .ref 100000 0), (2, .ref 2 0), (3, .ref 3 0), (41, .ref 100000 0)] [(100000, (madeC (ya d 3)).cs), (2, [.sc (.string ⟨#[]⟩), .em, .em, .em, .em]), (3, [.sc (.string nm), .sl 60 0 l.length 1 false, .sl 62 0 fs.length 2 false, .sl 63 0 1 2 false, .sl 39 0 1 3 false]), (60, rows Ty.str.oc l), (62, rows File.ty.oc fs), (63, [.sc (.string modeT), .sc (.string ev)]), (39, [.sc (.string (madeV (ya d 3) aB).task), .own (rows File.ty.oc (madeV (ya d 3) aB).outs) (madeV (ya d 3) aB).outs.length 2, .sc (.string (madeV (ya d 3) aB).log)])] (by simp [toldT, yJ, za, Ya, Za, k0, k2, k3]) (by simp [toldB, yD, ZJ, zb9, za9, zA, zO, zal, fr, f63l, f64l, hidl, za, Ya, Za, kc, g2])) ?_
    simp only [toldρ, toldH]
    refine callK.bx (b := 100000) 0 rfl (by kernel_rfl) (by simp [za, k0]) (by simp [za, Ya, Za, kc]) (fr _) (by simp [za]) (by simp [shut]) (R66 (madeC (ya d 3)) (hd2) 3) (Cur.len3 _ _) (by rfl) rfl ?_
    by_cases kB : zf (madeC (ya d 3)) 3 = 0
    case pos =>
     as_aux_lemma =>
      have hD : depB (depA d) = ([(madeV (ya d 3) aB), madeV (ya (madeC (ya d 3)) 3) bT], madeC (ya (madeC (ya d 3)) 3)) := by simp [depB, depA, kA, kB]
      have hd3 := Ze hd2 3
      simp [kB, k0, k3]
      refine T.textW 400 [([], [47, 47001, 100000]), ([], [47, 47001, 100000]), ([], []), ([100000, 47001], []), ([47], []), ([47, 39, 48], []), ([], []), ([3], [])] mixed (by kernel_rfl) (by kernel_rfl) ?_
      simp [k0, k3, over, k2, g2, f38, f39, f47, f48, f38001, f47001]
      refine yf.bx (b := 100000) 46 rfl (by kernel_rfl) (by simp [za, k0]) (by simp [za, Za, kc]) (fr _) rfl (by simp [shut]) (R40 (ya (madeC (ya d 3)) 3) (hd3) bT) (Cur.len3 _ _) (by simp [inst, instL, Made.oce, za, Za, k2, g2, f38, f39, f47, f48, f38001, f47001]; exact ⟨rfl, rfl⟩) (by rfl) ?_
      simp [k0, k3, over, Zb, yb, k2, g2, f38, f39, f47, f48, f38001, f47001]
      rw [Zj]
      refine ⟨_, Le.pack 48 4 (i := 47001) (len := (madeV (ya (madeC (ya d 3)) 3) bT).outs.length) (sz := 2) (cs' := rows File.ty.oc (madeV (ya (madeC (ya d 3)) 3) bT).outs) (by simp [za, Ya]; rfl) (by rfl) (by simp [za, Ya]) (by decide) (by simp [File.ocl]) (File.frL _), ?_⟩
      as_aux_lemma => simp [over, ex1, File.ocl, File.frL, fr, yj, k0, k2, k3, g2, kc, hlen, hidl, za, Ya, Za, hJ, hC, hD, Made.oce, yc, Yf, zb, zb.idfreeL, kA, kB]
    have hD : depB (depA d) = ([(madeV (ya d 3) aB)], ya (madeC (ya d 3)) 3) := by simp [depB, depA, kA, kB]
    simp [kB, k0, k3, k2, g2, za]
    rw [Zj]
    refine ⟨_, Le.refl _, ?_⟩
    as_aux_lemma => simp [over, ex1, File.ocl, File.frL, fr, yj, k0, k2, k3, g2, kc, hlen, hidl, za, Ya, Za, hJ, hC, hD, Made.oce, yc, Yf, zb, zb.idfreeL, kA, kB]
def MB (m : Made) : Prop := m.task.size ≤ 50 ∧ (m.outs.length ≤ 10 ∧ ∀ f ∈ m.outs, f.path.size ≤ 50 ∧ f.text.size ≤ 50) ∧ m.log.size ≤ 50
def JB (j : Job) : Prop := j.name.size ≤ 50 ∧ (j.acts.length ≤ 10 ∧ ∀ s ∈ j.acts, s.size ≤ 50) ∧ (j.ins.length ≤ 10 ∧ ∀ f ∈ j.ins, f.path.size ≤ 50 ∧ f.text.size ≤ 50) ∧ (j.envs.length ≤ 10 ∧ ∀ e ∈ j.envs, e.name.size ≤ 50 ∧ e.val.size ≤ 50) ∧ (j.deps.length ≤ 10 ∧ ∀ m ∈ j.deps, MB m)
theorem zbc.mb {m : Made} (h : zbc m) : MB m := ⟨by have := h.1; omega, ⟨by have := h.2.1; omega, fun f hf => by have := h.2.2.1 f hf; omega⟩, by have := h.2.2.2; omega⟩
theorem zdf {c : Cur} (hc : c.ok) : JB (jobV c) := by
  obtain ⟨_, f1, f2⟩ := jF_ok hc
  obtain ⟨_, ⟨_, a1⟩, a2⟩ := jA_ok hc
  obtain ⟨_, d1, d2⟩ := jD_ok hc
  have he : (pickS jenvL (jF c).2 2).size ≤ 50 := Yy (by decide) _ _
  refine ⟨Yy (by decide) _ _, ⟨show (jA c).1.length ≤ 10 by omega, fun x hx => by have := a2 x hx; omega⟩, ⟨show (jF c).1.length ≤ 10 by omega, fun x hx => by have := f2 x hx; omega⟩, ⟨show 1 ≤ 10 by decide, fun x hx => ?_⟩, ⟨show (jD c).1.length ≤ 10 by omega, fun x hx => (d2 x hx).mb⟩⟩
  have hx : x ∈ [(⟨modeT, pickS jenvL (jF c).2 2⟩ : Env)] := hx
  rw [List.mem_singleton] at hx
  subst hx
  exact ⟨show 4 ≤ 50 by decide, he⟩
theorem sw_le {k : Nat} : ∀ {l : List ByteArray}, (∀ s ∈ l, s.size ≤ k) → sw l ≤ l.length * (k + 2)
  | [], _ => Nat.zero_le _
  | s :: l, h => by
    have h1 := h s List.mem_cons_self
    have h2 := sw_le fun t ht => h t (List.mem_cons_of_mem s ht)
    rw [sw, List.length_cons, Nat.add_mul, Nat.one_mul]
    omega
theorem zcY : ∀ l : List File, (txF l).length = l.length * 2
  | [] => rfl
  | f :: l => by simp only [txF, List.length_cons, zcY l]; omega
theorem zeB : ∀ l : List Env, (txE l).length = l.length * 2
  | [] => rfl
  | f :: l => by simp only [txE, List.length_cons, zeB l]; omega
theorem zcX {k : Nat} : ∀ {l : List File}, (∀ f ∈ l, f.path.size ≤ k ∧ f.text.size ≤ k) → ∀ s ∈ txF l, s.size ≤ k
  | [], _, s, hs => by cases hs
  | f :: l, h, s, hs => by
    rcases List.mem_cons.1 hs with rfl | hs
    · exact (h f List.mem_cons_self).1
    rcases List.mem_cons.1 hs with rfl | hs
    · exact (h f List.mem_cons_self).2
    · exact zcX (fun g hg => h g (List.mem_cons_of_mem _ hg)) s hs
theorem zeA {k : Nat} : ∀ {l : List Env}, (∀ f ∈ l, f.name.size ≤ k ∧ f.val.size ≤ k) → ∀ s ∈ txE l, s.size ≤ k
  | [], _, s, hs => by cases hs
  | f :: l, h, s, hs => by
    rcases List.mem_cons.1 hs with rfl | hs
    · exact (h f List.mem_cons_self).1
    rcases List.mem_cons.1 hs with rfl | hs
    · exact (h f List.mem_cons_self).2
    · exact zeA (fun g hg => h g (List.mem_cons_of_mem _ hg)) s hs
theorem zez : ∀ {l : List Made}, (∀ m ∈ l, MB m) → (∀ s ∈ txM l, s.size ≤ 50) ∧ (txM l).length ≤ l.length * 23 ∧ ol l ≤ l.length * 30
  | [], _ => ⟨fun s hs => (by cases hs), Nat.le_refl _, Nat.le_refl _⟩
  | m :: l, h => by
    obtain ⟨i1, i2, i3⟩ := zez (l := l) fun g hg => h g (List.mem_cons_of_mem _ hg)
    obtain ⟨h1, ⟨h2, h3⟩, h4⟩ := h m List.mem_cons_self
    have hn := Zi m.outs.length
    refine ⟨fun s hs => ?_, ?_, ?_⟩
    · rcases List.mem_cons.1 hs with rfl | hs
      · exact h1
      rcases List.mem_cons.1 hs with rfl | hs
      · exact h4
      rcases List.mem_cons.1 hs with rfl | hs
      · omega
      rcases List.mem_append.1 hs with hs | hs
      · exact zcX h3 s hs
      · exact i1 s hs
    · simp only [txM, List.length_cons, List.length_append, zcY]; omega
    · simp only [ol, List.length_cons]; omega
theorem JB.fit {j : Job} (h : JB j) : (∀ s ∈ txJ j, s.size ≤ 50) ∧ jw j + j.acts.length + j.ins.length + j.envs.length + j.deps.length + ol j.deps + 100 ≤ 140737488350000 := by
  obtain ⟨h1, ⟨h2, h3⟩, ⟨h4, h5⟩, ⟨h6, h7⟩, ⟨h8, h9⟩⟩ := h
  obtain ⟨m1, m2, m3⟩ := zez h9
  have n1 := Zi j.acts.length
  have n2 := Zi j.ins.length
  have n3 := Zi j.envs.length
  have n4 := Zi j.deps.length
  have ha : ∀ s ∈ txJ j, s.size ≤ 50 := fun s hs => by
    rcases List.mem_cons.1 hs with rfl | hs
    · exact h1
    rcases List.mem_cons.1 hs with rfl | hs
    · omega
    rcases List.mem_append.1 hs with hs | hs
    · exact h3 s hs
    rcases List.mem_cons.1 hs with rfl | hs
    · omega
    rcases List.mem_append.1 hs with hs | hs
    · exact zcX h5 s hs
    rcases List.mem_cons.1 hs with rfl | hs
    · omega
    rcases List.mem_append.1 hs with hs | hs
    · exact zeA h7 s hs
    rcases List.mem_cons.1 hs with rfl | hs
    · omega
    · exact m1 s hs
  refine ⟨ha, ?_⟩
  have hs := sw_le ha
  have hl : (txJ j).length ≤ 300 := by
    simp only [txJ, List.length_cons, List.length_append, zcY, zeB]
    omega
  unfold jw
  omega
theorem JB.ok {j : Job} (h : JB j) : Job.ty.ok j := by
  obtain ⟨h1, ⟨h2, h3⟩, ⟨h4, h5⟩, ⟨h6, h7⟩, ⟨h8, h9⟩⟩ := h
  have fo : ∀ f : File, f.path.size ≤ 50 ∧ f.text.size ≤ 50 → File.ty.ok f := fun f hf => ⟨show f.path.size ≤ 140737488351232 by omega, show f.text.size ≤ 140737488351232 by omega, trivial⟩
  exact ⟨show j.name.size ≤ 140737488351232 by omega, ⟨show j.acts.length * 16 ≤ 140737488351232 by omega, fun x hx => show x.size ≤ 140737488351232 by have := h3 x hx; omega⟩, ⟨show j.ins.length * 32 ≤ 140737488351232 by omega, fun x hx => fo x (h5 x hx)⟩,
    ⟨show j.envs.length * 32 ≤ 140737488351232 by omega, fun x hx => ⟨show x.name.size ≤ 140737488351232 by have := h7 x hx; omega, show x.val.size ≤ 140737488351232 by have := h7 x hx; omega, trivial⟩⟩,
    ⟨show j.deps.length * 56 ≤ 140737488351232 by omega, fun x hx => ⟨show x.task.size ≤ 140737488351232 by have := (h9 x hx).1; omega, ⟨show x.outs.length * 32 ≤ 140737488351232 by have := (h9 x hx).2.1.1; omega, fun y hy => fo y ((h9 x hx).2.1.2 y hy)⟩, show x.log.size ≤ 140737488351232 by have := (h9 x hx).2.2; omega, trivial⟩⟩, trivial⟩
theorem JB.oj {j : Job} (h : JB j) : OJ j := by
  obtain ⟨h1, ⟨h2, h3⟩, ⟨h4, h5⟩, ⟨h6, h7⟩, ⟨h8, h9⟩⟩ := h
  exact ⟨⟨by omega, by omega, by omega, by omega, fun m hm => by have := (h9 m hm).2.1.1; omega, fun f hf => by have := (h5 f hf).2; omega⟩, fun s hs => by have := h3 s hs; omega, by omega, (show JB j from ⟨h1, ⟨h2, h3⟩, ⟨h4, h5⟩, ⟨h6, h7⟩, ⟨h8, h9⟩⟩).fit.2⟩
def zzT : ByteArray := ⟨#[122, 35, 122]⟩
def doA (c1 : Cur) (l0 : List Slot) (j : Job) : List Slot × Cur :=
  if zf c1 2 = 0 then
    let l1 := if (makeV j).2 then Zh l0 (jkey j) (makeV j).1 else l0
    let c2 := ya c1 2
    let c3 := ya c2 4
    if zf c2 4 = 0 then (dmg l1 ((l1.length : Int) - 1) (zf c3 60) (1 + zf (ya c3 60) 255), ya (ya c3 60) 255)
    else if zf c2 4 = 1 then (Zh l1 (jkey j) ⟨zzT, (makeV j).1.outs, (makeV j).1.log⟩, c3)
    else (l1, c3)
  else (l0, ya c1 2)
def doL (code : List Int) : List Slot := (anyL (newC code)).1
def doC (code : List Int) : Cur := (anyL (newC code)).2
def doP (code : List Int) : List Slot × Job × Bool :=
  ((doA (jobC (doC code)) (doL code) (jobV (doC code))).1, jobV (doC code), !(zf (doA (jobC (doC code)) (doL code) (jobV (doC code))).2 4 == 0))
theorem rocC2 {h : Hp} {b : Nat} {xs : List Slot} {lim : Bool} (hb : h b = some (some (rows Slot.ty.cs xs))) : roc h 8 (.sl b 0 xs.length 2 lim) = some (.ro (rows Slot.ty.cs xs) xs.length) := zcw hb (Slot.csl xs) (zB (Ym Slot.ty.sh xs))
theorem z8 {xs : List Slot} {j : Job} (m : Made) (hx : Slot.ty.slice.ok xs) (hxl : xs.length ≤ 1000) (hj : OJ j) : Slot.ty.slice.ok (Zh xs (jkey j) m) ∧ (Zh xs (jkey j) m).length ≤ xs.length + 1 := by
  have hb : (jkey j).length * 1 ≤ 140737488351232 := by have := hj.key; omega
  obtain ⟨h1, h2, _⟩ := Y4 xs (jkey j) m hx (by omega) ⟨hb, zcK j⟩
  exact ⟨h1, h2⟩
theorem zhq {c1 : Cur} {l0 : List Slot} {j : Job} (hc : c1.ok) (hx : Slot.ty.slice.ok l0) (hl : l0.length ≤ 100) (hj : OJ j) : (doA c1 l0 j).2.ok ∧ Slot.ty.slice.ok (doA c1 l0 j).1 ∧ (doA c1 l0 j).1.length ≤ 200 := by
  unfold doA
  split
  · simp only
    have h1 : Slot.ty.slice.ok (if (makeV j).2 then Zh l0 (jkey j) (makeV j).1 else l0) ∧ (if (makeV j).2 then Zh l0 (jkey j) (makeV j).1 else l0).length ≤ 101 := by
      have := z8 (makeV j).1 hx (by omega) hj
      split
      · exact ⟨this.1, by omega⟩
      · exact ⟨hx, by omega⟩
    generalize (if (makeV j).2 then Zh l0 (jkey j) (makeV j).1 else l0) = l1 at h1
    obtain ⟨h1, h2⟩ := h1
    have hc2 := Ze hc 2
    split
    · obtain ⟨d1, d2, _⟩ := zgw l1 ((l1.length : Int) - 1) (zf (ya (ya c1 2) 4) 60) (1 + zf (ya (ya (ya c1 2) 4) 60) 255) h1
      exact ⟨Ze (Ze (Ze hc2 4) 60) 255, d2, by simp only; omega⟩
    · split
      · have := z8 ⟨zzT, (makeV j).1.outs, (makeV j).1.log⟩ h1 (by omega) hj
        exact ⟨Ze hc2 4, this.1, by simp only; omega⟩
      · exact ⟨Ze hc2 4, h1, by simp only; omega⟩
  · exact ⟨Ze hc 2, hx, by simp only; omega⟩
def A16 : AC := (.seq (.ops [qO 2 (.mov (.c .em)), wO 3 (.alloc [(.sc (.string ⟨#[]⟩)), .em, .em, .em, .em]), qO 4 (.mov (.c (.sc (.bool false))))])
  (.seq (.ops [qO 10 (.mov (.t 0)), cO 11 37 [.t 10], qO 5 (.mov (.t 11))])
  (.seq (.ops [qO 12 (.mov (.t 5)), cO 13 64 [.t 12], qO 6 (.mov (.t 13))])
  (.seq (.ops [qO 14 (.mov (.t 5)), cO 15 65 [.t 14], wO 7 (.alloc [(.sc (.string ⟨#[]⟩)), .em, .em, .em, .em]), nO (.store 5 (.t 7) (.t 15))])
  (.seq (.seq (.ops [qO 16 (.mov (.t 5)), cO 17 66 [.t 16, iC 2]])
  (.cond (.t 17) (.seq (.ops [qO 19 (.load true 5 (.t 7)), cO 20 67 [.t 19], qO 18 (.mov (.t 20)), qO 21 (.ext (.t 18) 0), qO 22 (.ext (.t 18) 1), wO 8 (.alloc [(.sc (.string ⟨#[]⟩)), .em, (.sc (.string ⟨#[]⟩))]), nO (.store 3 (.t 8) (.t 21)), qO 9 (.mov (.t 22))])
  (.seq (.seq (.ops [qO 23 (.mov (.t 9))])
  (.cond (.t 23) (.any [(qO 24 (.mov (.t 6)), []), (qO 25 (.load true 5 (.t 7)), []), (cO 26 69 [.t 25], [1]), (qO 27 (.load true 3 (.t 8)), []), (cO 28 68 [.t 24, .t 26, .t 27], [0, 2, 3, 2]), (qO 6 (.mov (.t 28)), [4, 4, 0, 1, 2, 3, 4])])
  .skip))
  (.seq (.ops [qO 29 (.mov (.t 5)), cO 30 39 [.t 29, iC 4]])
  (.block 0 (.seq (.ops [qO 32 (.bin .eql (.t 30) (iC 0)), qO 31 (.mov (.t 32))])
  (.cond (.t 31) (.ops [qO 33 (.mov (.t 6)), qO 34 (.mov (.t 6)), qO 35 (.llen (.t 34)), qO 36 (.bin .sub (.t 35) (iC 1)), qO 37 (.mov (.t 5)), cO 38 39 [.t 37, iC 60], qO 39 (.mov (.t 5)), cO 40 39 [.t 39, iC 255], qO 41 (.bin .add (iC 1) (.t 40)), cO 42 70 [.t 33, .t 36, .t 38, .t 41], qO 6 (.mov (.t 42))])
  (.seq (.ops [qO 44 (.bin .eql (.t 30) (iC 1)), qO 43 (.mov (.t 44))])
  (.cond (.t 43) (.seq (.ops [qO 45 (.fadr 0 (.t 8)), nO (.store 1 (.t 45) (.c (.sc (.string ⟨#[122, 35, 122]⟩))))])
  (.any [(qO 46 (.mov (.t 6)), []), (qO 47 (.load true 5 (.t 7)), []), (cO 48 69 [.t 47], [1]), (qO 49 (.load true 3 (.t 8)), []), (cO 50 68 [.t 46, .t 48, .t 49], [0, 2, 3, 2]), (qO 6 (.mov (.t 50)), [4, 4, 0, 1, 2, 3, 4])]))
  .skip))))))))
  .skip))
  (.seq (.any [(qO 51 (.mov (.t 6)), []), (qO 52 (.load true 5 (.t 7)), []), (qO 53 (.mov (.t 5)), []), (cO 54 66 [.t 53, iC 4], [2]), (qO 55 (.not (.t 54)), [3]), (qO 2 (.mov (.t 51)), [0, 3, 0]), (nO (.store 5 (.t 3) (.t 52)), [1, 5, 0, 1, 5]), (qO 4 (.mov (.t 55)), [4, 6, 0, 1, 2, 3, 4, 5, 6])])
  .ret))))))
theorem K16 : Kf Tryz.prog Tryz.f16 A16 56 [.mov (.t 2), .load true 5 (.t 3), .mov (.t 4)] := ⟨by kernel_rfl, by kernel_rfl, by kernel_rfl⟩
set_option maxHeartbeats 8000000 in
set_option maxRecDepth 20000 in
theorem R16 (code : List Int) (hx : Ty.byte.slice.ok code) : Ret Tryz.prog 16 [.ro (rows B code) code.length] (.tup [.own (rows Slot.ty.cs (doP code).1) (doP code).1.length 2, .agg (Job.ty.oc (doP code).2.1), .sc (.bool (doP code).2.2)]) [.un] := by
  have fr : ∀ c : Cur, zb.idfreeL c.cs = true := fun c => rfl
  have hc0 := zdb hx
  obtain ⟨hc1, hl⟩ := zfL hc0
  have ra := R64 _ hc0
  have hP : doP code = ((doA (jobC (doC code)) (doL code) (jobV (doC code))).1, jobV (doC code), !(zf (doA (jobC (doC code)) (doL code) (jobV (doC code))).2 4 == 0)) := rfl
  obtain ⟨l, hle⟩ : ∃ l, l = doL code := ⟨_, rfl⟩
  obtain ⟨c0, hce⟩ : ∃ c, c = doC code := ⟨_, rfl⟩
  rw [← hle, ← hce] at hP
  change Ret _ _ _ (.own (rows Slot.ty.cs (doL code)) (doL code).length 2) [.bx (doC code).cs] at ra
  change (doC code).ok at hc1
  change CacheSz (doL code) 23 30000 at hl
  rw [← hle, ← hce] at ra
  rw [← hle] at hl
  rw [← hce] at hc1
  have rj := R65 _ hc1
  have jb := zdf hc1
  have hcj := zfc hc1
  obtain ⟨j, hj⟩ : ∃ j, j = jobV c0 := ⟨_, rfl⟩
  obtain ⟨c1, hc1e⟩ : ∃ c, c = jobC c0 := ⟨_, rfl⟩
  rw [← hj, ← hc1e] at rj hP
  rw [← hj] at jb
  rw [← hc1e] at hcj
  have oj := jb.oj
  have hok := hl.ok
  have hln := hl.n
  have i1 := Ty.str.frL j.acts
  have i2 := File.frL j.ins
  have i3 := Env.frL j.envs
  have i4 := Made.frL j.deps
  have l1 := zU j.acts
  have rM := R67 j oj.l oj.s (by have := oj.n; omega)
  have rK := R69 j (by have := oj.l.a; omega) oj.l.i oj.l.e oj.l.d oj.l.o oj.b
  have hkl := oj.key
  have sm := zam oj.s
  have ht := YK j
  have hD : doA c1 l j = if zf c1 2 = 0 then (if zf (ya c1 2) 4 = 0 then (dmg (if (makeV j).2 then Zh l (jkey j) (makeV j).1 else l) (((if (makeV j).2 then Zh l (jkey j) (makeV j).1 else l).length : Int) - 1) (zf (ya (ya c1 2) 4) 60) (1 + zf (ya (ya (ya c1 2) 4) 60) 255), ya (ya (ya (ya c1 2) 4) 60) 255)
    else if zf (ya c1 2) 4 = 1 then (Zh (if (makeV j).2 then Zh l (jkey j) (makeV j).1 else l) (jkey j) ⟨zzT, (makeV j).1.outs, (makeV j).1.log⟩, ya (ya c1 2) 4) else ((if (makeV j).2 then Zh l (jkey j) (makeV j).1 else l), ya (ya c1 2) 4)) else (l, ya c1 2) := rfl
  have hS := z8 (makeV j).1 hok (by omega) oj
  obtain ⟨mk, hmk⟩ : ∃ p, p = makeV j := ⟨_, rfl⟩
  rw [← hmk] at rM sm ht hD hS
  have hwm := sm.w (by rw [ht]; exact oj.n)
  have rP := R68 l (jkey j) mk.1 hok (by omega) (by rw [ht]; exact oj.n) (by have := sm.n; omega) (fun x hx => (sm.f x hx).1) hwm
  have hmz : ∀ xs : List Slot, Slot.ty.slice.ok xs → Ret Tryz.prog 68 [.ro (rows Slot.ty.cs xs) xs.length, .ro (rows B (jkey j)) (jkey j).length, .agg (Made.ty.cs ⟨zzT, mk.1.outs, mk.1.log⟩)] (.own (rows Slot.ty.oc (Zh xs (jkey j) ⟨zzT, mk.1.outs, mk.1.log⟩)) (Zh xs (jkey j) ⟨zzT, mk.1.outs, mk.1.log⟩).length 2) [.un, .un, .un] := fun xs h => R68 xs (jkey j) ⟨zzT, mk.1.outs, mk.1.log⟩ h (by omega) (show zzT.size ≤ 1048576 by decide) (by have := sm.n; simp only; omega) (fun x hx => (sm.f x hx).1) (Sm.w ⟨sm.n, sm.f, sm.l⟩ (show zzT.size ≤ 1048576 by decide))
  obtain ⟨k, hk⟩ : ∃ k, k = jkey j := ⟨_, rfl⟩
  rw [← hk] at rK rP hD hS
  simp only [← hk] at hmz
  have him := File.frL mk.1.outs
  have hcA := Ze hcj 2
  have hcB := Ze hcA 4
  rw [hP]
  refine Ret.runT Tryz.func16 K16 (by simp) rfl rfl ?_
  refine yg (n := 900) ?_
  simp [A16, iniρ, over, Zj]
  refine callK.cut [.ro] 50 (r := [(none, none)]) rfl (by kernel_rfl) rfl (by rfl) (by rfl) (by simp [Zt, shut, za]) (by simp [Yg, ze, za]; rfl) (by rfl) (R37 code hx) (by rfl) (by rfl) (by simp [inst, za]; exact ⟨rfl, rfl⟩) rfl ?_
  simp [over]
  refine callK.bx (b := 50) 13 rfl (by kernel_rfl) (by simp [za]) (by simp [za]) (fr _) (by simp [za]) (by simp) ra (Cur.len3 _ _) (by simp [inst, za]; exact ⟨rfl, rfl⟩) rfl ?_
  simp [over]
  refine callK.bx (b := 50) 15 rfl (by kernel_rfl) (by simp [za]) (by simp [za]) (fr _) (by simp [za]) (by simp) rj (Cur.len3 _ _) (by simp [inst, instL, Job.oce, za]; exact ⟨rfl, rfl⟩) rfl ?_
  simp [over]
  refine callK.bx (b := 50) 0 rfl (by kernel_rfl) (by simp [za]) (by simp [za]) (fr _) (by simp [za]) (by simp) (R66 c1 hcj 2) (Cur.len3 _ _) (by rfl) rfl ?_
  by_cases h0 : zf c1 2 = 0
  case neg =>
   as_aux_lemma =>
    have hD : doA c1 l j = (l, ya c1 2) := by rw [hD, if_neg h0]
    rw [hD]
    simp [h0]
    refine T.textW 400 [([], [50]), ([], [50]), ([], []), ([50], []), ([], [3]), ([], []), ([3], []), ([], [])] mixed (by kernel_rfl) (by kernel_rfl) ?_
    simp [over, Zb, yb]
    refine yf.bx (b := 50) 0 rfl (by kernel_rfl) (by simp [za]) (by simp [za, Ya, Za]) (fr _) (by simp [za]) (by simp) (R66 (ya c1 2) (hcA) 4) (Cur.len3 _ _) (by rfl) (by rfl) ?_
    simp [over, Zb, yb]
    rw [Zj]
    refine ⟨_, Le.refl _, ?_⟩
    simp [over, ex1, za, Ya, Za, Slot.csl, Slot.frC, Job.oce, l1, i1, i2, i3, i4, File.ocl, Env.ocl, Made.ocl]
  rw [if_pos h0] at hD
  simp [h0, over]
  refine callK.ro 20 rfl (by kernel_rfl) (by simp [Zg, Yh, List.mapM_cons, List.mapM_nil, Yc, yq, File.roc7, Env.roc7, Made.roc7, za, Job.cse]) rM (Yz _ _) (by simp [inst, instL, Made.oce, za]; exact ⟨rfl, rfl⟩) rfl ?_
  cases hmo : mk.2 with
  | false =>
    rw [hmo] at hD
    simp [hmo, over]
    refine callK.le (Le.told [(2, .em), (3, .ref 3 0), (5, .ref 50 0), (6, .sl 13 0 l.length 2 false), (7, .ref 7 0), (8, .ref 8 0), (29, .ref 50 0)] [(50, (ya c1 2).cs), (3, [.sc (.string ⟨#[]⟩), .em, .em, .em, .em]), (7, [.sc (.string j.name), .sl 16001 0 j.acts.length 1 false, .sl 16002 0 j.ins.length 2 false, .sl 16003 0 j.envs.length 2 false, .sl 16004 0 j.deps.length 3 false]), (16001, rows Ty.str.oc j.acts), (16002, rows File.ty.oc j.ins), (16003, rows Env.ty.oc j.envs), (16004, rows Made.ty.oc j.deps), (8, [.sc (.string mk.1.task), .sl 21001001 0 mk.1.outs.length 2 false, .sc (.string mk.1.log)]), (21001001, rows File.ty.oc mk.1.outs), (13, rows Slot.ty.cs l)]
      (by simp [toldT, yJ, za9, zO, za]) (by simp [toldB, yD, ZJ, zb9, za9, zA, zO, fr, i1, i2, i3, i4, him, Slot.frC, za, Ya, Za])) ?_
    simp only [toldρ, toldH]
    refine callK.bx (b := 50) 0 rfl (by kernel_rfl) (by simp [za]) (by simp [za]) (fr _) (by simp [za]) (by simp) (R39 (ya c1 2) hcA 4) (Cur.len3 _ _) (by rfl) rfl ?_
    by_cases v0 : zf (ya c1 2) 4 = 0
    case pos =>
     as_aux_lemma =>
      have hD : doA c1 l j = (dmg l ((l.length : Int) - 1) (zf (ya (ya c1 2) 4) 60) (1 + zf (ya (ya (ya c1 2) 4) 60) 255), ya (ya (ya (ya c1 2) 4) 60) 255) := by rw [hD, if_pos v0]; rfl
      rw [hD]
      obtain ⟨q5, q6⟩ := zj (ya (ya (ya c1 2) 4) 60) (n := 255) (by omega)
      obtain ⟨q3, q4⟩ := zj (ya (ya c1 2) 4) (n := 60) (by omega)
      have hw : IntKind.i64.wrap (1 + zf (ya (ya (ya c1 2) 4) 60) 255) = 1 + zf (ya (ya (ya c1 2) 4) 60) 255 := zc (by omega) (by omega)
      have hw2 : IntKind.i64.wrap ((l.length : Int) - 1) = (l.length : Int) - 1 := zc (by omega) (by omega)
      have rg := R70 l ((l.length : Int) - 1) (zf (ya (ya c1 2) 4) 60) (1 + zf (ya (ya (ya c1 2) 4) 60) 255) hok ⟨by omega, by omega⟩
      obtain ⟨ld, hld⟩ : ∃ x, x = dmg l ((l.length : Int) - 1) (zf (ya (ya c1 2) 4) 60) (1 + zf (ya (ya (ya c1 2) 4) 60) 255) := ⟨_, rfl⟩
      rw [← hld] at rg ⊢
      simp [v0, hw2]
      refine callK.bx (b := 50) 0 rfl (by kernel_rfl) (by simp [za]) (by simp [za]) (fr _) (by simp [za]) (by simp) (R39 (ya (ya c1 2) 4) hcB 60) (Cur.len3 _ _) (by rfl) rfl ?_
      simp
      refine callK.bx (b := 50) 0 rfl (by kernel_rfl) (by simp [za]) (by simp [za]) (fr _) (by simp [za]) (by simp) (R39 _ (Ze hcB 60) 255) (Cur.len3 _ _) (by rfl) rfl ?_
      simp [hw, hw2]
      refine callK.ro 42 rfl (by kernel_rfl) (by simp [Yc, rocC2, za]) rg (Slot.ty.flo _) (by simp [inst, za]; exact ⟨rfl, rfl⟩) rfl ?_
      simp
      refine T.le (Le.muteT Slot.ty (by decide) 42 (xs := ld) (by simp [za])) ?_
      refine T.textW 400 [([], [50]), ([], [50]), ([], []), ([50], []), ([], [3]), ([], []), ([3], []), ([], [])] mixed (by kernel_rfl) (by kernel_rfl) ?_
      simp [over, Zb, yb]
      refine yf.bx (b := 50) 0 rfl (by kernel_rfl) (by simp [za]) (by simp [za, Ya, Za]) (fr _) (by simp [za]) (by simp) (R66 (ya (ya (ya (ya c1 2) 4) 60) 255) (Ze (Ze hcB 60) 255) 4) (Cur.len3 _ _) (by rfl) (by rfl) ?_
      simp [over, Zb, yb]
      rw [Zj]
      refine ⟨_, Le.refl _, ?_⟩
      simp [over, ex1, za, Ya, Za, Slot.csl, Slot.frC, Job.oce, l1, i1, i2, i3, i4, File.ocl, Env.ocl, Made.ocl]
    by_cases v1 : zf (ya c1 2) 4 = 1
    case pos =>
     as_aux_lemma =>
      have hD : doA c1 l j = (Zh l k ⟨zzT, mk.1.outs, mk.1.log⟩, ya (ya c1 2) 4) := by rw [hD, if_neg v0, if_pos v1]; rfl
      rw [hD]
      have rz := hmz l hok
      obtain ⟨ld, hld⟩ : ∃ x, x = Zh l k ⟨zzT, mk.1.outs, mk.1.log⟩ := ⟨_, rfl⟩
      rw [← hld] at rz ⊢
      simp [v0, v1, over]
      refine T.textW 400 [([], [48]), ([], []), ([48], []), ([], [48]), ([57], []), ([], [])] mixed (by kernel_rfl) (by kernel_rfl) ?_
      simp [over, Zb, yb]
      refine yf.ro 48 rfl (by kernel_rfl) (by simp [Zg, Yh, List.mapM_cons, List.mapM_nil, Yc, yq, File.roc7, Env.roc7, Made.roc7, za, Za, Job.cse]) rK (B_fl _) (by simp [inst, za, Za]; exact ⟨rfl, rfl⟩) (by rfl) ?_
      simp [over, Zb, yb]
      refine yf.ro 57 rfl (by kernel_rfl) (by simp [Zg, Yh, List.mapM_cons, List.mapM_nil, Yc, rocC2, Br, Ys, za, Ya, Za, Made.cse, zzT]) rz (Slot.ty.flo _) (by simp [inst, za, Za]; exact ⟨rfl, rfl⟩) (by rfl) ?_
      simp [over, Zb, yb]
      refine T.le (Le.muteT Slot.ty (by decide) 57 (xs := ld) (by simp [za, Ya])) ?_
      refine T.textW 400 [([], [50]), ([], [50]), ([], []), ([50], []), ([], [3]), ([], []), ([3], []), ([], [])] mixed (by kernel_rfl) (by kernel_rfl) ?_
      simp [over, Zb, yb]
      refine yf.bx (b := 50) 0 rfl (by kernel_rfl) (by simp [za]) (by simp [za, Ya, Za]) (fr _) (by simp [za]) (by simp) (R66 (ya (ya c1 2) 4) (hcB) 4) (Cur.len3 _ _) (by rfl) (by rfl) ?_
      simp [over, Zb, yb]
      rw [Zj]
      refine ⟨_, Le.refl _, ?_⟩
      simp [over, ex1, za, Ya, Za, Slot.csl, Slot.frC, Job.oce, l1, i1, i2, i3, i4, File.ocl, Env.ocl, Made.ocl]
    have hD : doA c1 l j = (l, ya (ya c1 2) 4) := by rw [hD, if_neg v0, if_neg v1]; rfl
    rw [hD]
    simp [v0, v1]
    refine T.textW 400 [([], [50]), ([], [50]), ([], []), ([50], []), ([], [3]), ([], []), ([3], []), ([], [])] mixed (by kernel_rfl) (by kernel_rfl) ?_
    simp [over, Zb, yb]
    refine yf.bx (b := 50) 0 rfl (by kernel_rfl) (by simp [za]) (by simp [za, Ya, Za]) (fr _) (by simp [za]) (by simp) (R66 (ya (ya c1 2) 4) (hcB) 4) (Cur.len3 _ _) (by rfl) (by rfl) ?_
    simp [over, Zb, yb]
    rw [Zj]
    refine ⟨_, Le.refl _, ?_⟩
    simp [over, ex1, za, Ya, Za, Slot.csl, Slot.frC, Job.oce, l1, i1, i2, i3, i4, File.ocl, Env.ocl, Made.ocl]
  | true =>
    rw [hmo] at hD
    simp [hmo, over]
    refine T.textW 400 [([], [26]), ([], []), ([26], []), ([], [26]), ([28], []), ([], [])] mixed (by kernel_rfl) (by kernel_rfl) ?_
    simp [over, Zb, yb]
    refine yf.ro 26 rfl (by kernel_rfl) (by simp [Zg, Yh, List.mapM_cons, List.mapM_nil, Yc, yq, File.roc7, Env.roc7, Made.roc7, za, Za, Job.cse]) rK (B_fl _) (by simp [inst, za, Za]; exact ⟨rfl, rfl⟩) (by rfl) ?_
    simp [over, Zb, yb]
    refine yf.ro 28 rfl (by kernel_rfl) (by simp [Zg, Yh, List.mapM_cons, List.mapM_nil, Yc, rocC2, Br, Ys, za, Ya, Za, Made.cse]) rP (Slot.ty.flo _) (by simp [inst, za, Za]; exact ⟨rfl, rfl⟩) (by rfl) ?_
    simp [over, Zb, yb]
    have hL1 : Slot.ty.slice.ok (Zh l k mk.1) ∧ (Zh l k mk.1).length ≤ 30 := ⟨hS.1, by have := hS.2; omega⟩
    obtain ⟨lq, hlq⟩ : ∃ x, x = Zh l k mk.1 := ⟨_, rfl⟩
    rw [← hlq] at hL1 hD
    simp only [← hlq]
    refine callK.le (Le.muteT Slot.ty (by decide) 28 (xs := lq) (by simp [za, Ya])) ?_
    refine callK.le (Le.told [(2, .em), (3, .ref 3 0), (5, .ref 50 0), (6, .sl 28 0 lq.length 2 false), (7, .ref 7 0), (8, .ref 8 0), (29, .ref 50 0)] [(50, (ya c1 2).cs), (3, [.sc (.string ⟨#[]⟩), .em, .em, .em, .em]), (7, [.sc (.string j.name), .sl 16001 0 j.acts.length 1 false, .sl 16002 0 j.ins.length 2 false, .sl 16003 0 j.envs.length 2 false, .sl 16004 0 j.deps.length 3 false]), (16001, rows Ty.str.oc j.acts), (16002, rows File.ty.oc j.ins), (16003, rows Env.ty.oc j.envs), (16004, rows Made.ty.oc j.deps), (8, [.sc (.string mk.1.task), .sl 21001001 0 mk.1.outs.length 2 false, .sc (.string mk.1.log)]), (21001001, rows File.ty.oc mk.1.outs), (28, rows Slot.ty.cs lq)]
      (by simp [toldT, yJ, za9, zO, za]) (by simp [toldB, yD, ZJ, zb9, za9, zA, zO, fr, i1, i2, i3, i4, him, Slot.frC, za, Ya, Za])) ?_
    simp only [toldρ, toldH]
    refine callK.bx (b := 50) 0 rfl (by kernel_rfl) (by simp [za]) (by simp [za]) (fr _) (by simp [za]) (by simp) (R39 (ya c1 2) hcA 4) (Cur.len3 _ _) (by rfl) rfl ?_
    by_cases v0 : zf (ya c1 2) 4 = 0
    case pos =>
     as_aux_lemma =>
      have hD : doA c1 l j = (dmg lq ((lq.length : Int) - 1) (zf (ya (ya c1 2) 4) 60) (1 + zf (ya (ya (ya c1 2) 4) 60) 255), ya (ya (ya (ya c1 2) 4) 60) 255) := by rw [hD, if_pos v0]; rfl
      rw [hD]
      obtain ⟨q5, q6⟩ := zj (ya (ya (ya c1 2) 4) 60) (n := 255) (by omega)
      obtain ⟨q3, q4⟩ := zj (ya (ya c1 2) 4) (n := 60) (by omega)
      have hw : IntKind.i64.wrap (1 + zf (ya (ya (ya c1 2) 4) 60) 255) = 1 + zf (ya (ya (ya c1 2) 4) 60) 255 := zc (by omega) (by omega)
      have hw2 : IntKind.i64.wrap ((lq.length : Int) - 1) = (lq.length : Int) - 1 := zc (by omega) (by omega)
      have rg := R70 lq ((lq.length : Int) - 1) (zf (ya (ya c1 2) 4) 60) (1 + zf (ya (ya (ya c1 2) 4) 60) 255) hL1.1 ⟨by omega, by omega⟩
      obtain ⟨ld, hld⟩ : ∃ x, x = dmg lq ((lq.length : Int) - 1) (zf (ya (ya c1 2) 4) 60) (1 + zf (ya (ya (ya c1 2) 4) 60) 255) := ⟨_, rfl⟩
      rw [← hld] at rg ⊢
      simp [v0, hw2]
      refine callK.bx (b := 50) 0 rfl (by kernel_rfl) (by simp [za]) (by simp [za]) (fr _) (by simp [za]) (by simp) (R39 (ya (ya c1 2) 4) hcB 60) (Cur.len3 _ _) (by rfl) rfl ?_
      simp
      refine callK.bx (b := 50) 0 rfl (by kernel_rfl) (by simp [za]) (by simp [za]) (fr _) (by simp [za]) (by simp) (R39 _ (Ze hcB 60) 255) (Cur.len3 _ _) (by rfl) rfl ?_
      simp [hw, hw2]
      refine callK.ro 42 rfl (by kernel_rfl) (by simp [Yc, rocC2, za]) rg (Slot.ty.flo _) (by simp [inst, za]; exact ⟨rfl, rfl⟩) rfl ?_
      simp
      refine T.le (Le.muteT Slot.ty (by decide) 42 (xs := ld) (by simp [za])) ?_
      refine T.textW 400 [([], [50]), ([], [50]), ([], []), ([50], []), ([], [3]), ([], []), ([3], []), ([], [])] mixed (by kernel_rfl) (by kernel_rfl) ?_
      simp [over, Zb, yb]
      refine yf.bx (b := 50) 0 rfl (by kernel_rfl) (by simp [za]) (by simp [za, Ya, Za]) (fr _) (by simp [za]) (by simp) (R66 (ya (ya (ya (ya c1 2) 4) 60) 255) (Ze (Ze hcB 60) 255) 4) (Cur.len3 _ _) (by rfl) (by rfl) ?_
      simp [over, Zb, yb]
      rw [Zj]
      refine ⟨_, Le.refl _, ?_⟩
      simp [over, ex1, za, Ya, Za, Slot.csl, Slot.frC, Job.oce, l1, i1, i2, i3, i4, File.ocl, Env.ocl, Made.ocl]
    by_cases v1 : zf (ya c1 2) 4 = 1
    case pos =>
     as_aux_lemma =>
      have hD : doA c1 l j = (Zh lq k ⟨zzT, mk.1.outs, mk.1.log⟩, ya (ya c1 2) 4) := by rw [hD, if_neg v0, if_pos v1]; rfl
      rw [hD]
      have rz := hmz lq hL1.1
      obtain ⟨ld, hld⟩ : ∃ x, x = Zh lq k ⟨zzT, mk.1.outs, mk.1.log⟩ := ⟨_, rfl⟩
      rw [← hld] at rz ⊢
      simp [v0, v1, over]
      refine T.textW 400 [([], [48]), ([], []), ([48], []), ([], [48]), ([57], []), ([], [])] mixed (by kernel_rfl) (by kernel_rfl) ?_
      simp [over, Zb, yb]
      refine yf.ro 48 rfl (by kernel_rfl) (by simp [Zg, Yh, List.mapM_cons, List.mapM_nil, Yc, yq, File.roc7, Env.roc7, Made.roc7, za, Za, Job.cse]) rK (B_fl _) (by simp [inst, za, Za]; exact ⟨rfl, rfl⟩) (by rfl) ?_
      simp [over, Zb, yb]
      refine yf.ro 57 rfl (by kernel_rfl) (by simp [Zg, Yh, List.mapM_cons, List.mapM_nil, Yc, rocC2, Br, Ys, za, Ya, Za, Made.cse, zzT]) rz (Slot.ty.flo _) (by simp [inst, za, Za]; exact ⟨rfl, rfl⟩) (by rfl) ?_
      simp [over, Zb, yb]
      refine T.le (Le.muteT Slot.ty (by decide) 57 (xs := ld) (by simp [za, Ya])) ?_
      refine T.textW 400 [([], [50]), ([], [50]), ([], []), ([50], []), ([], [3]), ([], []), ([3], []), ([], [])] mixed (by kernel_rfl) (by kernel_rfl) ?_
      simp [over, Zb, yb]
      refine yf.bx (b := 50) 0 rfl (by kernel_rfl) (by simp [za]) (by simp [za, Ya, Za]) (fr _) (by simp [za]) (by simp) (R66 (ya (ya c1 2) 4) (hcB) 4) (Cur.len3 _ _) (by rfl) (by rfl) ?_
      simp [over, Zb, yb]
      rw [Zj]
      refine ⟨_, Le.refl _, ?_⟩
      simp [over, ex1, za, Ya, Za, Slot.csl, Slot.frC, Job.oce, l1, i1, i2, i3, i4, File.ocl, Env.ocl, Made.ocl]
    have hD : doA c1 l j = (lq, ya (ya c1 2) 4) := by rw [hD, if_neg v0, if_neg v1]; rfl
    rw [hD]
    simp [v0, v1]
    refine T.textW 400 [([], [50]), ([], [50]), ([], []), ([50], []), ([], [3]), ([], []), ([3], []), ([], [])] mixed (by kernel_rfl) (by kernel_rfl) ?_
    simp [over, Zb, yb]
    refine yf.bx (b := 50) 0 rfl (by kernel_rfl) (by simp [za]) (by simp [za, Ya, Za]) (fr _) (by simp [za]) (by simp) (R66 (ya (ya c1 2) 4) (hcB) 4) (Cur.len3 _ _) (by rfl) (by rfl) ?_
    simp [over, Zb, yb]
    rw [Zj]
    refine ⟨_, Le.refl _, ?_⟩
    simp [over, ex1, za, Ya, Za, Slot.csl, Slot.frC, Job.oce, l1, i1, i2, i3, i4, File.ocl, Env.ocl, Made.ocl]
theorem zgd (a : List Int) : bEq a a = true := by simp [bEq]
theorem zbm (s : Slot) : ∀ a : List Slot, ∃ a', Zu (a ++ [s]) = a' ++ [s] ∧ (∀ x ∈ a', x ∈ a) ∧ (a' = [] ∨ zx (a' ++ [s]) = true)
  | [] => ⟨[], by simp [Zu], by simp, .inl rfl⟩
  | x :: a => by
    obtain ⟨a', h1, h2, h3⟩ := zbm s a
    by_cases h : (a ++ [s]).length = 0 ∨ zx (x :: (a ++ [s])) = true
    · have hc : zx (x :: (a ++ [s])) = true := h.resolve_left (by simp)
      exact ⟨x :: a, by rw [List.cons_append, Zu, if_pos h], fun y hy => hy, .inr hc⟩
    · refine ⟨a', ?_, fun y hy => List.mem_cons_of_mem _ (h2 y hy), h3⟩
      rw [List.cons_append, Zu, if_neg h, h1]
theorem zdU (f : Slot → Bool) (s : Slot) (hs : f s = true) : ∀ (a : List Slot) (i : Int), (∀ x ∈ a, f x = false) → idx f (a ++ [s]) i = i + a.length
  | [], i, _ => by simp [idx, hs]
  | x :: a, i, h => by
    have ih := zdU f s hs a (i + 1) fun y hy => h y (by simp [hy])
    rw [List.cons_append, idx, if_neg (by rw [h x (by simp)]; decide), ih, List.length_cons]
    omega
theorem zec {xs : List Slot} {k : List Int} {m : Made} (hm : YD m = true) (hl : (putM m).length ≤ 3000) : ∃ a, Zh xs k m = a ++ [⟨k, putM m⟩] ∧ (∀ x ∈ a, x ∈ xs ∧ bEq x.key k = false) ∧ (a = [] ∨ zx (Zh xs k m) = true) := by
  obtain ⟨a, h1, h2, h3⟩ := zbm ⟨k, putM m⟩ (xs.filter fun s => !bEq s.key k)
  have e : Zh xs k m = a ++ [⟨k, putM m⟩] := by rw [Zh, if_pos ⟨hm, hl⟩, h1]
  refine ⟨a, e, fun x hx => ?_, ?_⟩
  · obtain ⟨q1, q2⟩ := List.mem_filter.1 (h2 x hx)
    exact ⟨q1, by simpa using q2⟩
  · rw [e]; exact h3
theorem zgU {xs : List Slot} {k : List Int} {m : Made} (hf : Fit m) (hm : YD m = true) (hl : (putM m).length ≤ 3000) : Yv (Zh xs k m) k = some m := by
  obtain ⟨a, e, h, _⟩ := zec (xs := xs) (k := k) hm hl
  rw [e]
  have hi : idx (fun s : Slot => bEq s.key k) (a ++ [⟨k, putM m⟩]) 0 = a.length := by
    rw [zdU (fun s : Slot => bEq s.key k) ⟨k, putM m⟩ (zgd k) a 0 fun x hx => (h x hx).2]
    omega
  unfold Yv
  rw [hi, if_pos (by omega)]
  have hg : (a ++ [(⟨k, putM m⟩ : Slot)])[((a.length : Nat) : Int).toNat]? = some ⟨k, putM m⟩ := by simp
  rw [hg]
  simp only [zdW hf]
  rw [if_pos hm]
structure AnySz (m : Made) : Prop where
  t : m.task.size ≤ 10
  l : m.log.size ≤ 210
  n : m.outs.length ≤ 8
  f : ∀ x ∈ m.outs, x.path.size ≤ 30 ∧ x.text.size ≤ 30
theorem AnySz.fit {m : Made} (h : AnySz m) : Fit m := ⟨by have := h.t; omega, by have := h.l; omega, fun x hx => by have := h.f x hx; omega, by have := h.n; omega⟩
theorem AnySz.w {m : Made} (h : AnySz m) : mw m ≤ 800 := by
  have hf := fw_le (n := 30) (k := 8) h.n h.f
  have h1 := h.t; have h2 := h.l; have h3 := h.n
  unfold mw; omega
theorem AnySz.put {m : Made} (h : AnySz m) : (putM m).length ≤ 900 := by
  have h1 := zaU m
  have h2 := h.w
  have e : (putM m).length = (bodyM m).length + 2 := by simp [putM, sumsL]
  omega
theorem zbG : ∀ {l : List File}, zH l = true ↔ ∀ x ∈ l, Zl x.path = true
  | [] => by simp [zH]
  | x :: l => by simp [zH, zbG (l := l)]
structure Gd (m : Made) : Prop where
  p : ∀ x ∈ m.outs, Zl x.path = true
  f : Yw m.outs = true
theorem zef {l : List File} {f : File} (h : (yh l f).2 = true) : Yw (yh l f).1 = true := by
  unfold yh at h ⊢
  split at h
  · rename_i hf; rw [if_pos hf]; exact hf
  · cases h
theorem ze7 {w : ByteArray} {n : Nat} {o : ByteArray} {b : Bool} (h : kindS w n o b = true) (h1 : ¬ isW w [108, 111, 103] = true) (h2 : ¬ isW w [102, 97, 105, 108] = true) : Zl o = true := by
  unfold kindS at h
  split at h
  · simp only [Bool.and_eq_true] at h; exact h.2
  split at h
  · simp only [Bool.and_eq_true] at h; exact h.2
  split at h
  · simp only [Bool.and_eq_true] at h; exact h.2
  split at h
  · simp only [Bool.and_eq_true] at h; exact h.2
  first | cases h | (simp [h1, h2] at h)
theorem zgb {j : Job} {m : Made} (h : Gd m) {w o : ByteArray} {ws : List ByteArray} (ho : ¬ isW w [108, 111, 103] = true → ¬ isW w [102, 97, 105, 108] = true → Zl o = true) : Gd (doAct j m w ws o).1 := by
  unfold doAct
  split
  · exact h
  · rename_i h2
    split
    · split
      · exact h
      · exact ⟨h.p, h.f⟩
    · rename_i h1
      split
      · rename_i hc
        simp only [Bool.and_eq_true, decide_eq_true_eq] at hc
        refine ⟨fun x hx => ?_, zef hc.2.1⟩
        rcases zaK _ _ x hx with rfl | hx
        · exact ho h1 h2
        · exact h.p x hx
      · exact h
theorem zg3 {j : Job} {m : Made} (h : Gd m) {s : ByteArray} : Gd (actV j m s).1 := by
  unfold actV
  split
  · rename_i hok
    refine zgb h fun h1 h2 => ?_
    unfold yQ at hok
    simp only [Bool.and_eq_true] at hok
    exact ze7 hok.2.2 h1 h2
  · exact h
theorem zdN {j : Job} : ∀ (l : List ByteArray) {m : Made}, Gd m → Gd (makeF j m l).1
  | [], m, h => h
  | s :: l, m, h => by
    rw [makeF]
    split
    · exact zdN l (zg3 h)
    · exact h
theorem zf1 (j : Job) : Gd (makeV j).1 := zdN _ ⟨fun x hx => (by cases hx), (show Yw [] = true by decide)⟩
theorem zc7 {x : ByteArray} (h : Zl x = true) : x.size ≤ 12 := by
  unfold Zl inR at h
  simp only [Bool.and_eq_true, decide_eq_true_eq] at h
  omega
structure Kept (m : Made) : Prop where
  fit : Fit m
  ok : YD m = true
  len : (putM m).length ≤ 3000
theorem zek {c : Cur} (hc : c.ok) : Kept (makeV (jobV c)).1 := by
  have hj := (zdf hc).oj
  have sm := zam hj.s
  have ht := YK (jobV c)
  have gd := zf1 (jobV c)
  have hn : (pickS jnamL c 2).size ≤ 10 := Yy (by decide) _ _
  have hnm : (jobV c).name = pickS jnamL c 2 := rfl
  have hpt : (YR (jobV c).name).isSome = true := by
    rw [hnm]
    obtain ⟨q1, q2⟩ := zj c (n := 2) (by omega)
    unfold pickS
    generalize zf c 2 = v at q1 q2
    have hv : v = 0 ∨ v = 1 := by omega
    rcases hv with rfl | rfl <;> decide
  rw [hnm] at ht
  obtain ⟨m, hm⟩ : ∃ m, m = (makeV (jobV c)).1 := ⟨_, rfl⟩
  rw [← hm] at sm ht gd ⊢
  have s1 := sm.n
  have s2 := sm.l
  have hp : ∀ x ∈ m.outs, x.path.size ≤ 12 ∧ x.text.size ≤ 60 := fun x hx => ⟨zc7 (gd.p x hx), (sm.f x hx).2⟩
  have hw : mw m ≤ 900 := by
    have h1 := zfm hp
    have h4 : m.outs.length * (12 + 64) ≤ 6 * (12 + 64) := Nat.mul_le_mul_right _ s1
    unfold mw
    rw [ht]
    omega
  have hb := zaU m
  refine ⟨⟨by rw [ht]; omega, by omega, fun x hx => by have := hp x hx; omega, by omega⟩, ?_, ?_⟩
  · unfold YD zS
    rw [ht, ← hnm, hpt, zbG.2 gd.p, gd.f]
    simp only [Bool.true_and, Bool.and_true, Bool.and_eq_true, decide_eq_true_eq]
    omega
  · unfold putM
    rw [List.length_append]
    show _ + 2 ≤ 3000
    omega
theorem zei (l : List Slot) (j : Job) (keep : Bool) (hk : (makeV j).2 = true → Kept (makeV j).1) :
    (∃ m, onceV l j keep = (l, m, 2)) ∨ (onceV l j keep = (l, Yr, 3) ∧ (makeV j).2 = false) ∨ (onceV l j keep = (l, (makeV j).1, 1) ∧ (makeV j).2 = true ∧ keep = false) ∨
      (∃ x, onceV l j keep = (x, (makeV j).1, 1) ∧ (makeV j).2 = true ∧ keep = true ∧ onceV x j keep = (x, (makeV j).1, 2)) := by
  cases hq : keptO l j keep with
  | some m => left; exact ⟨m, by unfold onceV; rw [hq]⟩
  | none =>
    right
    have hO := zde hq
    cases hm : (makeV j).2 with
    | false =>
      left
      rw [hm] at hO
      exact ⟨hO, rfl⟩
    | true =>
      right
      rw [hm] at hO
      cases keep with
      | false => left; exact ⟨hO, rfl, rfl⟩
      | true =>
        right
        obtain ⟨h1, h2, h3⟩ := hk hm
        refine ⟨_, hO, rfl, rfl, ?_⟩
        exact zbd (zgU h1 h2 h3) (by rw [YK])
def howB (n : Int) : ByteArray := if n = 1 then ⟨#[109, 97, 100, 101]⟩ else if n = 2 then ⟨#[107, 101, 112, 116]⟩ else if n = 3 then ⟨#[102, 97, 105, 108, 101, 100]⟩ else if n = 4 then ⟨#[108, 101, 102, 116]⟩ else ⟨#[]⟩
def A22 : AC := (.seq (.ops [qO 2 (.mov (.c (.sc (.string ⟨#[]⟩))))])
  (.seq (.seq (.ops [qO 3 (.mov (.t 0))])
  (.block 0 (.seq (.ops [qO 5 (.bin .eql (.t 3) (iC 1)), qO 4 (.mov (.t 5))])
  (.cond (.t 4) (.seq (.ops [qO 2 (.mov (.c (.sc (.string ⟨#[109, 97, 100, 101]⟩))))])
  .ret)
  (.seq (.ops [qO 7 (.bin .eql (.t 3) (iC 2)), qO 6 (.mov (.t 7))])
  (.cond (.t 6) (.seq (.ops [qO 2 (.mov (.c (.sc (.string ⟨#[107, 101, 112, 116]⟩))))])
  .ret)
  (.seq (.ops [qO 9 (.bin .eql (.t 3) (iC 3)), qO 8 (.mov (.t 9))])
  (.cond (.t 8) (.seq (.ops [qO 2 (.mov (.c (.sc (.string ⟨#[102, 97, 105, 108, 101, 100]⟩))))])
  .ret)
  (.seq (.ops [qO 11 (.bin .eql (.t 3) (iC 4)), qO 10 (.mov (.t 11))])
  (.cond (.t 10) (.seq (.ops [qO 2 (.mov (.c (.sc (.string ⟨#[108, 101, 102, 116]⟩))))])
  .ret)
  .skip))))))))))
  (.seq (.ops [qO 2 (.mov (.c (.sc (.string ⟨#[]⟩))))])
  .ret)))
theorem K22 : Kf Tryz.prog Tryz.f22 A22 12 [.mov (.t 2)] := ⟨by kernel_rfl, by kernel_rfl, by kernel_rfl⟩
theorem R22 (n : Int) : Ret Tryz.prog 22 [.sc (.int .i64 n)] (.sc (.string (howB n))) [.un] := by
  refine Ret.run Tryz.func22 K22 (by simp) rfl rfl 500 ?_
  by_cases k1 : n = 1
  · simp [A22, iniρ, howB, k1]
  by_cases k2 : n = 2
  · simp [A22, iniρ, howB, k2]
  by_cases k3 : n = 3
  · simp [A22, iniρ, howB, k3]
  by_cases k4 : n = 4
  · simp [A22, iniρ, howB, k4]
  simp [A22, iniρ, howB, k1, k2, k3, k4]
def A23 : AC := (.seq (.ops [qO 2 (.mov (.c (.sc (.string ⟨#[]⟩))))])
  (.seq (.seq (.ops [qO 3 (.mov (.t 0))])
  (.block 0 (.seq (.ops [qO 5 (.bin .eql (.t 3) (iC 1)), qO 4 (.mov (.t 5))])
  (.cond (.t 4) (.seq (.ops [qO 2 (.mov (.c (.sc (.string ⟨#[109, 97, 100, 101]⟩))))])
  .ret)
  (.seq (.ops [qO 7 (.bin .eql (.t 3) (iC 2)), qO 6 (.mov (.t 7))])
  (.cond (.t 6) (.seq (.ops [qO 2 (.mov (.c (.sc (.string ⟨#[107, 101, 112, 116]⟩))))])
  .ret)
  (.seq (.ops [qO 9 (.bin .eql (.t 3) (iC 3)), qO 8 (.mov (.t 9))])
  (.cond (.t 8) (.seq (.ops [qO 2 (.mov (.c (.sc (.string ⟨#[102, 97, 105, 108, 101, 100]⟩))))])
  .ret)
  (.seq (.ops [qO 11 (.bin .eql (.t 3) (iC 4)), qO 10 (.mov (.t 11))])
  (.cond (.t 10) (.seq (.ops [qO 2 (.mov (.c (.sc (.string ⟨#[108, 101, 102, 116]⟩))))])
  .ret)
  .skip))))))))))
  (.seq (.ops [qO 2 (.mov (.c (.sc (.string ⟨#[]⟩))))])
  .ret)))
theorem K23 : Kf Tryz.prog Tryz.f23 A23 12 [.mov (.t 2)] := ⟨by kernel_rfl, by kernel_rfl, by kernel_rfl⟩
theorem R23 (n : Int) : Ret Tryz.prog 23 [.sc (.int .i64 n)] (.sc (.string (howB n))) [.un] := by
  refine Ret.run Tryz.func23 K23 (by simp) rfl rfl 500 ?_
  by_cases k1 : n = 1
  · simp [A23, iniρ, howB, k1]
  by_cases k2 : n = 2
  · simp [A23, iniρ, howB, k2]
  by_cases k3 : n = 3
  · simp [A23, iniρ, howB, k3]
  by_cases k4 : n = 4
  · simp [A23, iniρ, howB, k4]
  simp [A23, iniρ, howB, k1, k2, k3, k4]
def A19 : AC := (.seq (.ops [qO 2 (.mov (iC 0))])
  (.seq (.ops [qO 4 (.mov (.t 0)), cO 5 37 [.t 4], qO 3 (.mov (.t 5))])
  (.seq (.ops [qO 6 (.mov (.t 3)), cO 7 39 [.t 6, iC 7], qO 8 (.bin .sub (.t 7) (iC 1)), qO 2 (.mov (.t 8))])
  .ret)))
theorem K19 : Kf Tryz.prog Tryz.f19 A19 9 [.mov (.t 2)] := ⟨by kernel_rfl, by kernel_rfl, by kernel_rfl⟩
theorem R19 (code : List Int) (hx : Ty.byte.slice.ok code) : Ret Tryz.prog 19 [.ro (rows B code) code.length] (.sc (.int .i64 (zf (newC code) 7 - 1))) [.un] := by
  have fr : ∀ c : Cur, zb.idfreeL c.cs = true := fun c => rfl
  have hc0 := zdb hx
  obtain ⟨q1, q2⟩ := zj (newC code) (n := 7) (by omega)
  have hw : IntKind.i64.wrap (zf (newC code) 7 - 1) = zf (newC code) 7 - 1 := zc (by omega) (by omega)
  refine Ret.run Tryz.func19 K19 (by simp) rfl rfl 900 ?_
  simp [A19, iniρ, over]
  refine callK.cut [.ro] 50 (r := [(none, none)]) rfl (by kernel_rfl) rfl (by rfl) (by rfl) (by simp [Zt, shut, za]) (by simp [Yg, ze, za]; rfl) (by rfl) (R37 code hx) (by rfl) (by rfl) (by simp [inst, za]; exact ⟨rfl, rfl⟩) rfl ?_
  simp [over]
  refine callK.bx (b := 50) 0 rfl (by kernel_rfl) (by simp [za]) (by simp [za]) (fr _) (by simp [za]) (by simp) (R39 _ hc0 7) (Cur.len3 _ _) (by rfl) rfl ?_
  simp [hw]
end Go.Proofs.YtopofpihpnjmbaaGreatDoor.Am
