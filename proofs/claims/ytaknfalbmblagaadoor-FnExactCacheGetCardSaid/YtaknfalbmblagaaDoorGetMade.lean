/- The functions of the program, each by its contract: GetMade; no condition. -/
import Derived.Test.YtaknfalbmblagaaDoorProg
import Derived.Test.YtaknfalbmblagaaDoorAmZ
import Derived.Test.YtaknfalbmblagaaDoorAmP
import Derived.Test.YtaknfalbmblagaaDoorReader
import Derived.KernelRfl
namespace Go.Proofs.YtaknfalbmblagaaDoor.Am
open Go Go.Proofs
set_option linter.unusedSimpArgs false
set_option linter.unusedVariables false
attribute [local congr] T_congr callK_congr callWK_congr
attribute [local simp] run_nil run_op0 run_opg run_seq run_cond run_block run_ret run_skip run_skip_after run_skip_blk run_exit run_exit_after run_exit_blk run_loop run_any runS_nil runS_op0 runS_opg runW_nil runW_op0 runW_opg exec_q exec_w exec_c exec_n execW_q execW_w execW_c restW_app hideH_app merge_app wblk rest_app restS_app execS_q execS_c aval dOk upd_app ev_t ev_c setO_some setO_none put_mk pinsOf isIo hasIo sbin endR fin resL one outL out1 clo1 cloL coe coeL shut shut.shutL wantA weff cellsOf fillA deref natOf ρ0_app h0_app plain plain.plainL keep_app keepH_app andThen_normal andThen_ret andThen_exit pop_nil pop_after pop_after_ret pop_after_exit pop_blk pop_blk_ret pop_blk_exit nilA srcOf srcCells keepR_app keepHR_app renA rb
def rdN (b : List Int) : Nat → Int → Bool → List File × Int × Bool
  | 0, a, bad => ([], a, bad)
  | k + 1, a, bad => (⟨(nextT b a bad).1, (nextT b (nextT b a bad).2.1 (nextT b a bad).2.2).1⟩ :: (rdN b k (nextT b (nextT b a bad).2.1 (nextT b a bad).2.2).2.1 (nextT b (nextT b a bad).2.1 (nextT b a bad).2.2).2.2).1, (rdN b k (nextT b (nextT b a bad).2.1 (nextT b a bad).2.2).2.1 (nextT b (nextT b a bad).2.1 (nextT b a bad).2.2).2.2).2)
/-- the head of what is read: two texts and a number -/
def rdH (b : List Int) (bad : Bool) : ByteArray × ByteArray × ByteArray × Int × Bool :=
  ((nextT b 0 bad).1, (nextT b (nextT b 0 bad).2.1 (nextT b 0 bad).2.2).1,
    nextT b (nextT b (nextT b 0 bad).2.1 (nextT b 0 bad).2.2).2.1 (nextT b (nextT b 0 bad).2.1 (nextT b 0 bad).2.2).2.2)
def getI (b : List Int) : Option Made :=
  if (parseN (rdH b false).2.2.1 1000).isSome = true ∧ (rdN b ((parseN (rdH b false).2.2.1 1000).getD 0) (rdH b false).2.2.2.1 (rdH b false).2.2.2.2).2.2 = false ∧ bEq (putM ⟨(rdH b false).1, (rdN b ((parseN (rdH b false).2.2.1 1000).getD 0) (rdH b false).2.2.2.1 (rdH b false).2.2.2.2).1, (rdH b false).2.1⟩) b = true then
    some ⟨(rdH b false).1, (rdN b ((parseN (rdH b false).2.2.1 1000).getD 0) (rdH b false).2.2.2.1 (rdH b false).2.2.2.2).1, (rdH b false).2.1⟩ else none
def noMade : Made := ⟨⟨#[]⟩, [], ⟨#[]⟩⟩
def madeA : Option Made → AV
  | some m => .tup [.agg (Made.ty.oc m), .sc (.bool true)]
  | none => .tup [.agg (Made.ty.oc noMade), .sc (.bool false)]
theorem getT_rng {b : List Int} {a : Int} {s : ByteArray} {n : Int} (h : getT b a = some (s, n)) : s.size ≤ 60000 ∧ 0 ≤ a ∧ n = a + 2 + s.size ∧ n ≤ b.length := by
  unfold getT at h
  split at h
  · split at h
    · rename_i h1 h2
      simp only [Option.some.injEq, Prod.mk.injEq] at h
      obtain ⟨rfl, rfl⟩ := h
      have e : (strOfNums ((b.drop (a.toNat + 2)).take (lenAt b a.toNat))).size = lenAt b a.toNat := by
        rw [strOfNums_size, List.length_take, List.length_drop]; omega
      rw [e]
      omega
    · cases h
  · cases h
theorem nextT_rng (b : List Int) (a : Int) (bad : Bool) (h0 : 0 ≤ a ∧ a ≤ b.length) : (nextT b a bad).1.size ≤ 60000 ∧ 0 ≤ (nextT b a bad).2.1 ∧ (nextT b a bad).2.1 ≤ b.length := by
  unfold nextT
  cases hg : getT b a with
  | none => exact ⟨Nat.zero_le _, h0⟩
  | some p =>
    obtain ⟨s, n⟩ := p
    obtain ⟨h1, h2, h3, h4⟩ := getT_rng hg
    cases bad with
    | true => exact ⟨Nat.zero_le _, h0⟩
    | false => exact ⟨h1, (by show (0 : Int) ≤ n; omega), h4⟩
theorem rdN_len (b : List Int) : ∀ (k : Nat) (a : Int) (bad : Bool), (rdN b k a bad).1.length = k
  | 0, _, _ => rfl
  | k + 1, a, bad => by rw [rdN, List.length_cons, rdN_len b k]
theorem rdN_fw (b : List Int) : ∀ (k : Nat) (a : Int) (bad : Bool), (0 ≤ a ∧ a ≤ b.length) → fw (rdN b k a bad).1 ≤ 120004 * k
  | 0, _, _, _ => Nat.zero_le _
  | k + 1, a, bad, h => by
    have h1 := nextT_rng b a bad h
    have h2 := nextT_rng b _ (nextT b a bad).2.2 h1.2
    have h3 := rdN_fw b k _ (nextT b (nextT b a bad).2.1 (nextT b a bad).2.2).2.2 h2.2
    rw [rdN, fw]
    simp only
    omega
theorem parseN_le {s : ByteArray} {k : Nat} (h : parseN s 1000 = some k) : k ≤ 1000 := by
  unfold parseN at h
  split at h
  · rename_i h1
    cases h
    have := h1.2.2.2
    omega
  · cases h
theorem int_ok {b : List Int} {a : Int} (hl : b.length ≤ 140737488355328) (h : 0 ≤ a ∧ a ≤ b.length) : Ty.int.ok a := by
  show _ ∧ _
  constructor <;> omega
/- 22: loop.example/g00464/impl.GetMade -/
def A22 : AC := (.seq (.ops [⟨(some 2), none, .w (.alloc [(.sc (.string ⟨#[]⟩)), .em, (.sc (.string ⟨#[]⟩))])⟩, ⟨(some 3), none, .q (.mov (.c (.sc (.bool false))))⟩])
  (.seq (.ops [⟨(some 9), none, .q (.mov (.t 0))⟩, ⟨(some 10), none, .w (.build [.em, (.sc (.int .i64 0)), (.sc (.bool false))] [(0, 1, (.t 9))])⟩, ⟨(some 4), none, .w (.alloc [.em, (.sc (.int .i64 0)), (.sc (.bool false))])⟩, ⟨none, none, .w (.store 3 (.t 4) (.t 10))⟩])
  (.seq (.ops [⟨(some 11), none, .c (.c (.clo 38 [])) [(.t 4)]⟩, ⟨(some 12), none, .w (.build [(.sc (.string ⟨#[]⟩)), .em, (.sc (.string ⟨#[]⟩))] [(0, 1, (.t 11))])⟩, ⟨(some 5), none, .w (.alloc [(.sc (.string ⟨#[]⟩)), .em, (.sc (.string ⟨#[]⟩))])⟩, ⟨none, none, .w (.store 3 (.t 5) (.t 12))⟩])
  (.seq (.ops [⟨(some 13), none, .c (.c (.clo 38 [])) [(.t 4)]⟩, ⟨(some 14), none, .q (.fadr 2 (.t 5))⟩, ⟨none, none, .w (.store 1 (.t 14) (.t 13))⟩])
  (.seq (.ops [⟨(some 16), none, .c (.c (.clo 38 [])) [(.t 4)]⟩, ⟨(some 17), none, .c (.c (.clo 39 [])) [(.t 16), (.c (.sc (.int .i64 1000)))]⟩, ⟨(some 15), none, .q (.mov (.t 17))⟩, ⟨(some 18), none, .q (.ext (.t 15) 0)⟩, ⟨(some 19), none, .q (.ext (.t 15) 1)⟩, ⟨(some 6), none, .q (.mov (.t 18))⟩, ⟨(some 7), none, .q (.mov (.t 19))⟩])
  (.seq (.seq (.ops [⟨(some 20), none, .q (.mov (.t 6))⟩, ⟨(some 21), none, .q (.mov (.c (.sc (.int .i64 0))))⟩])
  (.block 0 (.loop (.seq (.ops [⟨(some 22), none, .q (.bin .lss (.t 21) (.t 20))⟩])
  (.seq (.cond (.t 22) .skip
  (.exit 0))
  (.seq (.block 1 (.seq (.ops [⟨(some 23), none, .c (.c (.clo 38 [])) [(.t 4)]⟩, ⟨(some 24), none, .w (.build [(.sc (.string ⟨#[]⟩)), (.sc (.string ⟨#[]⟩))] [(0, 1, (.t 23))])⟩, ⟨(some 8), none, .w (.alloc [(.sc (.string ⟨#[]⟩)), (.sc (.string ⟨#[]⟩))])⟩, ⟨none, none, .w (.store 2 (.t 8) (.t 24))⟩])
  (.seq (.ops [⟨(some 25), none, .c (.c (.clo 38 [])) [(.t 4)]⟩, ⟨(some 26), none, .q (.fadr 1 (.t 8))⟩, ⟨none, none, .w (.store 1 (.t 26) (.t 25))⟩])
  (.ops [⟨(some 27), none, .q (.fadr 1 (.t 5))⟩, ⟨(some 28), none, .q (.load false 1 (.t 27))⟩, ⟨(some 29), none, .q (.load true 2 (.t 8))⟩, ⟨(some 30), none, .w (.bsl 2 1 [(.sc (.string ⟨#[]⟩)), (.sc (.string ⟨#[]⟩))] [(0, 2, (.t 29))])⟩, ⟨(some 31), none, .w (.app 2 32 false (.t 28) (.t 30))⟩, ⟨(some 32), none, .q (.fadr 1 (.t 5))⟩, ⟨none, none, .w (.store 1 (.t 32) (.t 31))⟩]))))
  (.ops [⟨(some 33), none, .q (.bin .add (.t 21) (.c (.sc (.int .i64 1))))⟩, ⟨(some 21), none, .q (.mov (.t 33))⟩])))))))
  (.seq (.seq (.ops [⟨(some 34), none, .q (.mov (.t 7))⟩, ⟨(some 35), none, .q (.not (.t 34))⟩, ⟨(some 36), none, .q (.mov (.t 35))⟩, ⟨(some 37), (some (36, false)), .q (.fadr 2 (.t 4))⟩, ⟨(some 38), (some (36, false)), .q (.load false 1 (.t 37))⟩, ⟨(some 39), none, .q (.pick (.t 36) (.c (.sc (.bool true))) (.t 38))⟩, ⟨(some 40), none, .q (.mov (.t 39))⟩, ⟨(some 41), (some (40, false)), .q (.load true 3 (.t 5))⟩, ⟨(some 42), (some (40, false)), .c (.c (.clo 40 [])) [(.t 41)]⟩, ⟨(some 43), (some (40, false)), .q (.mov (.t 0))⟩, ⟨(some 44), (some (40, false)), .c (.c (.clo 37 [])) [(.t 42), (.t 43)]⟩, ⟨(some 45), (some (40, false)), .q (.not (.t 44))⟩, ⟨(some 46), none, .q (.pick (.t 40) (.c (.sc (.bool true))) (.t 45))⟩])
  (.cond (.t 46) (.seq (.ops [⟨(some 47), none, .w (.build [(.sc (.string ⟨#[]⟩)), .em, (.sc (.string ⟨#[]⟩))] [])⟩, ⟨none, none, .w (.store 3 (.t 2) (.t 47))⟩, ⟨(some 3), none, .q (.mov (.c (.sc (.bool false))))⟩])
  .ret)
  .skip))
  (.seq (.ops [⟨(some 48), none, .q (.load true 3 (.t 5))⟩, ⟨none, none, .w (.store 3 (.t 2) (.t 48))⟩, ⟨(some 3), none, .q (.mov (.c (.sc (.bool true))))⟩])
  .ret))))))))
theorem K22 : Tryd.f22.body.bind (comp Tryd.prog) = some A22 ∧ Tryd.f22.ntmps = 49 ∧ Tryd.f22.results.toList.mapM (resB Tryd.prog) = some [.load true 3 (.t 2), .mov (.t 3)] := ⟨by kernel_rfl, by kernel_rfl, by kernel_rfl⟩
set_option maxHeartbeats 4000000 in
theorem R22 (b : List Int) (hb : byteL b) (hl : b.length ≤ 140737488355328) : Ret Tryd.prog 22 [.ro (rows B b) b.length] (madeA (getI b)) [.un] := by
  have g0 : (0 : Int) ≤ 0 ∧ (0 : Int) ≤ b.length := ⟨Int.le_refl _, by omega⟩
  have g1 := nextT_rng b 0 false g0
  have r1 := R38 b 0 false (int_ok hl g0) hb hl
  obtain ⟨x, hx⟩ : ∃ x, x = nextT b 0 false := ⟨_, rfl⟩
  rw [← hx] at g1 r1
  have g2 := nextT_rng b x.2.1 x.2.2 g1.2
  have r2 := R38 b x.2.1 x.2.2 (int_ok hl g1.2) hb hl
  obtain ⟨y, hy⟩ : ∃ y, y = nextT b x.2.1 x.2.2 := ⟨_, rfl⟩
  rw [← hy] at g2 r2
  have g3 := nextT_rng b y.2.1 y.2.2 g2.2
  have r3 := R38 b y.2.1 y.2.2 (int_ok hl g2.2) hb hl
  obtain ⟨z, hz⟩ : ∃ z, z = nextT b y.2.1 y.2.2 := ⟨_, rfl⟩
  rw [← hz] at g3 r3
  have hH : rdH b false = (x.1, y.1, z) := by unfold rdH; rw [← hx, ← hy, ← hz]
  have rp := R39 z.1 1000 (by constructor <;> decide)
  obtain ⟨pn, hpn⟩ : ∃ pn, pn = parseN z.1 1000 := ⟨_, rfl⟩
  have hk : pn.getD 0 ≤ 1000 := by
    cases h : pn with
    | none => exact Nat.zero_le _
    | some k => exact parseN_le (hpn.symm.trans h)
  rw [← hpn] at rp
  obtain ⟨N, hN⟩ : ∃ N, N = pn.getD 0 := ⟨_, rfl⟩
  rw [← hN] at hk
  have hgI : getI b = if pn.isSome = true ∧ (rdN b N z.2.1 z.2.2).2.2 = false ∧ bEq (putM ⟨x.1, (rdN b N z.2.1 z.2.2).1, y.1⟩) b = true then some ⟨x.1, (rdN b N z.2.1 z.2.2).1, y.1⟩ else none := by
    unfold getI
    rw [hH]
    simp only
    rw [← hpn, ← hN]
  have hfl := rdN_fw b N z.2.1 z.2.2 g3.2
  have hln := rdN_len b N z.2.1 z.2.2
  obtain ⟨R, hR⟩ : ∃ R, R = rdN b N z.2.1 z.2.2 := ⟨_, rfl⟩
  rw [← hR] at hgI hfl hln
  have np : numA pn = .tup [.sc (.int .i64 N), .sc (.bool pn.isSome)] := by
    rw [hN]; cases pn <;> rfl
  rw [np] at rp
  rw [hgI]
  refine Ret.run Tryd.func22 K22 (by simp) rfl rfl 900 ?_
  simp [A22, iniρ, over]
  refine callK.bx (b := 4) 0 rfl (by kernel_rfl) (by simp [upd_app]) (by simp [upd_app]) (by simp [idfree.idfreeL, idfree]) rfl (by simp) r1 rfl rfl rfl ?_
  simp [over]
  refine callK.bx (b := 4) 0 rfl (by kernel_rfl) (by simp [upd_app]) (by simp [upd_app]) (by simp [idfree.idfreeL, idfree]) rfl (by simp) r2 rfl rfl rfl ?_
  simp [over]
  refine callK.bx (b := 4) 0 rfl (by kernel_rfl) (by simp [upd_app]) (by simp [upd_app]) (by simp [idfree.idfreeL, idfree]) rfl (by simp) r3 rfl rfl rfl ?_
  simp [over]
  refine callK.ro 0 rfl (by kernel_rfl) (by simp [upd_app, roc_sc]) rp rfl (by simp [inst, instL, shut]; exact ⟨rfl, rfl⟩) rfl ?_
  simp
  refine T.le (Le.layC 5 1 2 (by simp [upd_app]; rfl) rfl) ?_
  refine T.rounds (μ := fun i : List File × Nat × Int × Opt => i.2.1)
    (fun i s => i.1.length + i.2.1 = N ∧ (0 ≤ i.2.2.1 ∧ i.2.2.1 ≤ b.length) ∧ (i.1 ++ (rdN b i.2.1 i.2.2.1 i.2.2.2.v).1, (rdN b i.2.1 i.2.2.1 i.2.2.2.v).2) = R ∧ s.ρ 0 = .ro (rows B b) b.length ∧ s.ρ 2 = .ref 2 0 ∧ s.ρ 4 = .ref 4 0 ∧ s.ρ 5 = .ref 5 0 ∧ s.ρ 7 = .sc (.bool pn.isSome) ∧ s.ρ 20 = .sc (.int .i64 N) ∧ s.ρ 21 = .sc (.int .i64 i.1.length) ∧
      s.h 2 = some (some [.sc (.string ⟨#[]⟩), .em, .sc (.string ⟨#[]⟩)]) ∧ s.h 4 = some (some [.ro (rows B b) b.length, .sc (.int .i64 i.2.2.1), .sc (.bool i.2.2.2.v)]) ∧ s.h 5 = some (some [.sc (.string x.1), .own (rows File.ty.oc i.1) i.1.length 2, .sc (.string y.1)]) ∧ (∀ c, c ≠ 2 → c ≠ 4 → c ≠ 5 → s.h c = none) ∧ s.n = 49) ([], N, z.2.1, ⟨z.2.2⟩) (by
      simp [upd_app, rows_nil, hR]
      exact ⟨g3.2, fun c h1 h2 h3 => by simp [h1, h2, h3]⟩) ?_
  rintro ⟨acc, k, a, ⟨bad⟩⟩ ⟨ρ, hh, n⟩ ⟨hkN, ga, hE, k0, k2, k4, k5, k7, k20, k21, b2, b4, b5, bf, rfl⟩
  simp only at hkN ga hE k0 k2 k4 k5 k7 k20 k21 b2 b4 b5 bf
  have f60 := bf 60 (by decide) (by decide) (by decide)
  refine T.le (Le.open 5 1 60 b5 rfl f60 (File.frL acc)) ?_
  refine run_ok (n := 600) ?_
  cases k with
  | zero =>
    have hE : (acc, a, bad) = R := by rw [← hE]; simp [rdN]
    subst hE
    have hkN : acc.length = N := hkN
    subst hkN
    simp only at hfl hln
    simp [k20, k21]
    refine T.on 600 ?_
    by_cases hs : pn.isSome = true
    case neg =>
      have hs' : pn.isSome = false := by simpa using hs
      rw [if_neg (fun h => hs h.1)]
      simp [k0, k2, k4, k5, k7, b2, b4, hs', over, ex1, madeA, noMade, Made.oce, rows_nil, idfree.idfreeL]
    by_cases hbd : bad = false
    case neg =>
      have hbd' : bad = true := by simpa using hbd
      rw [if_neg (fun h => hbd h.2.1)]
      simp [k0, k2, k4, k5, k7, b2, b4, hs, hbd', over, ex1, madeA, noMade, Made.oce, rows_nil, idfree.idfreeL]
    obtain ⟨m, hm⟩ : ∃ m : Made, m = ⟨x.1, acc, y.1⟩ := ⟨_, rfl⟩
    have rM := R40 m (by rw [hm]; show acc.length < _; omega) (by rw [hm]; unfold mw; simp only; omega)
    rw [← hm]
    have hro : ∀ (h : Hp), h 60 = some (some (rows File.ty.oc acc)) → roc h 7 (.sl 60 0 acc.length 2 false) = some (.ro (rows File.ty.cs acc) acc.length) := fun h e => File.roc7 e
    simp [k5, k4, k7, b4, hs, hbd]
    refine callK.own 61 rfl (by kernel_rfl) (ys := [.agg (Made.ty.cs m)]) (by simp [upd_app, roc_agg8, List.mapM_cons, List.mapM_nil, roc_sc, hro, Made.cse, hm]) rM (B_fl _) (by simp [upd_app, bf]) rfl ?_
    simp [k0]
    have hrb : ∀ (h : Hp), h 61 = some (some (rows B (putM m))) → roc h 8 (.sl 61 0 (putM m).length 1 false) = some (.ro (rows B (putM m)) (putM m).length) := fun h e => B.roc e
    refine callK.ro 0 rfl (by kernel_rfl) (by simp [upd_app, roc_ro, hrb]) (R37 (putM m) b) rfl rfl rfl ?_
    cases hq : bEq (putM m) b
    · simp [k0, k2, k4, k5, k7, b2, b4, hs, hbd, over, ex1, madeA, noMade, Made.oce, rows_nil, idfree.idfreeL]
    · simp [k0, k2, k4, k5, k7, b2, b4, hs, hbd, over, ex1, madeA, Made.oce, hm, File.ocl, File.frL]
  | succ k =>
    have hlt : (acc.length : Int) < N := by omega
    have hwr : IntKind.i64.wrap ((acc.length : Int) + 1) = acc.length + 1 := wrap_i64 (by omega) (by omega)
    have e1 := nextT_rng b a bad ga
    have s1 := R38 b a bad (int_ok hl ga) hb hl
    rw [rdN] at hE
    obtain ⟨u, hu⟩ : ∃ u, u = nextT b a bad := ⟨_, rfl⟩
    rw [← hu] at e1 s1 hE
    have e2 := nextT_rng b u.2.1 u.2.2 e1.2
    have s2 := R38 b u.2.1 u.2.2 (int_ok hl e1.2) hb hl
    obtain ⟨v, hv⟩ : ∃ v, v = nextT b u.2.1 u.2.2 := ⟨_, rfl⟩
    rw [← hv] at e2 s2 hE
    have hcap : (acc.length + 1) * 32 ≤ 140737488355328 := by omega
    have hap : rows File.ty.oc acc ++ [.sc (.string u.1), .sc (.string v.1)] = rows File.ty.oc (acc ++ [⟨u.1, v.1⟩]) := by rw [rows_append, rows_cons, rows_nil]; rfl
    simp [k20, k21, hlt]
    refine callK.bx (b := 4) 0 rfl (by kernel_rfl) (by simp [upd_app, k4]) (by simp [upd_app, b4]) (by simp [idfree.idfreeL, idfree]) rfl (by simp) s1 rfl rfl rfl ?_
    simp [k4, k5, bf, over]
    refine callK.bx (b := 4) 0 rfl (by kernel_rfl) (by simp [upd_app, k4]) (by simp [upd_app]) (by simp [idfree.idfreeL, idfree]) rfl (by simp) s2 rfl rfl rfl ?_
    simp [k5, k21, bf, over, File.ocl, hcap, hwr, hap]
    refine ⟨acc ++ [⟨u.1, v.1⟩], k, by omega, v.2.1, ⟨v.2.2⟩, _, Le.trans (Le.pack 5 1 (i := 31) (len := acc.length + 1) (sz := 2) (cs' := rows File.ty.oc (acc ++ [⟨u.1, v.1⟩])) (by simp [upd_app]; rfl) rfl (by simp [upd_app]) (by decide) (by rw [File.ocl]; simp) (File.frL _)) (Le.reset [0, 2, 4, 5, 7, 20, 21] [2, 4, 5] ?_ ?_), by simp; omega, e2.2, by rw [← hE]; simp, ?_⟩
    · simp [upd_app, menB, idfree, k0, k2, k4, k5, k7, k20]
    · intro c hc cs hcs
      simp at hc
      rcases hc with rfl | rfl | rfl
      · simp [upd_app, b2] at hcs; subst hcs; simp [idfree]
      · simp [upd_app] at hcs; subst hcs; simp [idfree]
      · simp [upd_app] at hcs; subst hcs; simp [idfree, File.frL]
    · simp [upd_app, k0, k2, k4, k5, k7, k20, b2, keepH_app]
      exact fun c h1 h2 h3 => by simp [h1, h2, h3]
end Go.Proofs.YtaknfalbmblagaaDoor.Am
