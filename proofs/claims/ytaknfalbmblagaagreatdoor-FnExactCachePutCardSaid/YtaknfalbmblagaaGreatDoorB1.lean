/- The small machine and the contracts of the functions, part 1 (Words, Paths, Cut, Base, Types, Plumb, Job, Sames, Files, Tasks, Texts, Num, Itoa, Parse, Nums, Puts); no condition. -/
import Derived.Test.YtaknfalbmblagaaGreatDoorProg
import Derived.Test.YtaknfalbmblagaaGreatDoorAmZ
import Derived.Test.YtaknfalbmblagaaGreatDoorAmP
import Derived.KernelRfl
import Derived.Test.YtaknfalbmblagaaGreatDoorAmL
import Derived.Test.YtaknfalbmblagaaGreatDoorAmD
import Derived.Test.YtaknfalbmblagaaGreatDoorAmM
import Derived.Test.YtaknfalbmblagaaGreatDoorAmK
namespace Go.Proofs.YtaknfalbmblagaaGreatDoor.Am
open Go Go.Proofs
set_option linter.unusedSimpArgs false
set_option linter.unusedVariables false
attribute [local congr] T_congr callK_congr callWK_congr
attribute [local simp] run_nil run_op0 run_opg run_seq run_cond run_block run_ret run_skip run_skip_after run_skip_blk run_exit run_exit_after run_exit_blk run_loop run_any runS_nil runS_op0 runS_opg runW_nil runW_op0 runW_opg exec_q exec_w exec_c exec_n execW_q execW_w execW_c restW_app hideH_app merge_app wblk rest_app restS_app execS_q execS_c aval dOk upd_app ev_t ev_c setO_some setO_none put_mk pinsOf isIo hasIo sbin endR fin resL one outL out1 clo1 cloL coe coeL shut shut.shutL wantA weff cellsOf fillA deref natOf ρ0_app h0_app plain plain.plainL keep_app keepH_app andThen_normal andThen_ret andThen_exit pop_nil pop_after pop_after_ret pop_after_exit pop_blk pop_blk_ret pop_blk_exit nilA srcOf srcCells keepR_app keepHR_app renA rb
def inR (x a b : Int) : Bool := decide (a ≤ x) && decide (x ≤ b)
def smallI (n : Int) : Bool := decide (97 ≤ n) && decide (n ≤ 122)
def figI (n : Int) : Bool := decide (48 ≤ n) && decide (n ≤ 57)
def nameC (i : Nat) (c : UInt8) : Bool := smallI (c.toNat : Int) || (decide (i ≠ 0) && (figI (c.toNat : Int) || decide ((c.toNat : Int) = 45)))
def nameL : List UInt8 → Nat → Bool
  | [], _ => true
  | c :: l, i => nameC i c && nameL l (i + 1)
def nameOk (s : ByteArray) : Bool := nameL s.data.toList 0 && inR s.size 1 10
theorem str_get {s : ByteArray} {pre rest : List UInt8} {c : UInt8} (h : pre ++ c :: rest = s.data.toList) : s[pre.length]? = some c := by
  have h2 : s.data.toList[pre.length]? = some c := by rw [← h]; simp
  have hlt : pre.length < s.size := by
    have := (List.getElem?_eq_some_iff.1 h2).1
    simpa using this
  have h3 : s.data[pre.length]? = some c := by rw [← Array.getElem?_toList]; exact h2
  rw [Array.getElem?_eq_some_iff] at h3
  obtain ⟨h4, h5⟩ := h3
  have : s[pre.length]? = some s[pre.length] := getElem?_pos s pre.length hlt
  rw [this]
  congr 1
theorem str_len {s : ByteArray} {l : List UInt8} (h : l = s.data.toList) : s.size = l.length := by subst h; exact Array.length_toList.symm
theorem bl_tot (a b : List UInt8) : (Op.bytesLess a b || a == b) = !(Op.bytesLess b a) := by
  induction a generalizing b with
  | nil => cases b <;> simp [Op.bytesLess]
  | cons x a ih =>
    cases b with
    | nil => simp [Op.bytesLess]
    | cons y b =>
      simp only [Op.bytesLess]
      by_cases h1 : x < y
      · have h2 : ¬ y < x := fun h => by have := UInt8.lt_iff_toNat_lt.1 h; have := UInt8.lt_iff_toNat_lt.1 h1; omega
        have h3 : ¬ y = x := fun h => by subst h; exact h2 h1
        simp [h1, h2, h3]
      · by_cases h2 : y < x
        · have h3 : ¬ x = y := fun h => by subst h; exact h1 h2
          simp [h1, h2, h3]
        · have h3 : x = y := by
            apply UInt8.toNat_inj.1
            have := mt UInt8.lt_iff_toNat_lt.2 h1; have := mt UInt8.lt_iff_toNat_lt.2 h2; omega
          subst h3
          simp [h1, ih]
/- 64: loop.example/g00464/spec.l1In -/
def A64 : AC := (.seq (.ops [⟨(some 6), none, .q (.mov (.c (.sc (.bool false))))⟩])
  (.seq (.ops [⟨(some 7), none, .q (.mov (.t 0))⟩, ⟨(some 8), none, .q (.mov (.t 1))⟩, ⟨(some 9), none, .q (.bin .geq (.t 7) (.t 8))⟩, ⟨(some 10), none, .q (.mov (.t 9))⟩, ⟨(some 11), (some (10, true)), .q (.mov (.t 0))⟩, ⟨(some 12), (some (10, true)), .q (.mov (.t 2))⟩, ⟨(some 13), (some (10, true)), .q (.bin .leq (.t 11) (.t 12))⟩, ⟨(some 14), none, .q (.pick (.t 10) (.t 13) (.c (.sc (.bool false))))⟩, ⟨(some 6), none, .q (.mov (.t 14))⟩])
  .ret))
theorem K64 : Tryz.f64.body.bind (comp Tryz.prog) = some A64 ∧ Tryz.f64.ntmps = 15 ∧ Tryz.f64.results.toList.mapM (resB Tryz.prog) = some [.mov (.t 6)] := ⟨by kernel_rfl, by kernel_rfl, by kernel_rfl⟩
theorem R64 (x a b : Int) : Ret Tryz.prog 64 [.sc (.int .i64 x), .sc (.int .i64 a), .sc (.int .i64 b)] (.sc (.bool (inR x a b))) [.un, .un, .un] := by
  refine Ret.run Tryz.func64 K64 (by simp) rfl rfl 500 ?_
  by_cases h : a ≤ x <;> simp [A64, iniρ, inR, h]
/- 62: loop.example/g00464/impl.inRange -/
def A62 : AC := (.seq (.ops [⟨(some 6), none, .q (.mov (.c (.sc (.bool false))))⟩])
  (.seq (.ops [⟨(some 7), none, .q (.mov (.t 0))⟩, ⟨(some 8), none, .q (.mov (.t 1))⟩, ⟨(some 9), none, .q (.bin .geq (.t 7) (.t 8))⟩, ⟨(some 10), none, .q (.mov (.t 9))⟩, ⟨(some 11), (some (10, true)), .q (.mov (.t 0))⟩, ⟨(some 12), (some (10, true)), .q (.mov (.t 2))⟩, ⟨(some 13), (some (10, true)), .q (.bin .leq (.t 11) (.t 12))⟩, ⟨(some 14), none, .q (.pick (.t 10) (.t 13) (.c (.sc (.bool false))))⟩, ⟨(some 6), none, .q (.mov (.t 14))⟩])
  .ret))
theorem K62 : Tryz.f62.body.bind (comp Tryz.prog) = some A62 ∧ Tryz.f62.ntmps = 15 ∧ Tryz.f62.results.toList.mapM (resB Tryz.prog) = some [.mov (.t 6)] := ⟨by kernel_rfl, by kernel_rfl, by kernel_rfl⟩
theorem R62 (x a b : Int) : Ret Tryz.prog 62 [.sc (.int .i64 x), .sc (.int .i64 a), .sc (.int .i64 b)] (.sc (.bool (inR x a b))) [.un, .un, .un] := by
  refine Ret.run Tryz.func62 K62 (by simp) rfl rfl 500 ?_
  by_cases h : a ≤ x <;> simp [A62, iniρ, inR, h]
/- 119: loop.example/g00464/impl.isSmall -/
def A119 : AC := (.seq (.ops [⟨(some 2), none, .q (.mov (.c (.sc (.bool false))))⟩])
  (.seq (.ops [⟨(some 3), none, .q (.mov (.t 0))⟩, ⟨(some 4), none, .q (.bin .geq (.t 3) (.c (.sc (.int .u8 97))))⟩, ⟨(some 5), none, .q (.mov (.t 4))⟩, ⟨(some 6), (some (5, true)), .q (.mov (.t 0))⟩, ⟨(some 7), (some (5, true)), .q (.bin .leq (.t 6) (.c (.sc (.int .u8 122))))⟩, ⟨(some 8), none, .q (.pick (.t 5) (.t 7) (.c (.sc (.bool false))))⟩, ⟨(some 2), none, .q (.mov (.t 8))⟩])
  .ret))
theorem K119 : Tryz.f119.body.bind (comp Tryz.prog) = some A119 ∧ Tryz.f119.ntmps = 9 ∧ Tryz.f119.results.toList.mapM (resB Tryz.prog) = some [.mov (.t 2)] := ⟨by kernel_rfl, by kernel_rfl, by kernel_rfl⟩
theorem R119 (c : UInt8) : Ret Tryz.prog 119 [.sc (.int .u8 c.toNat)] (.sc (.bool (smallI c.toNat))) [.un] := by
  refine Ret.run Tryz.func119 K119 (by simp) rfl rfl 500 ?_
  by_cases h : (97 : Int) ≤ c.toNat <;> simp [A119, iniρ, smallI, h]
/- 102: loop.example/g00464/impl.isFigure -/
def A102 : AC := (.seq (.ops [⟨(some 2), none, .q (.mov (.c (.sc (.bool false))))⟩])
  (.seq (.ops [⟨(some 3), none, .q (.mov (.t 0))⟩, ⟨(some 4), none, .q (.bin .geq (.t 3) (.c (.sc (.int .u8 48))))⟩, ⟨(some 5), none, .q (.mov (.t 4))⟩, ⟨(some 6), (some (5, true)), .q (.mov (.t 0))⟩, ⟨(some 7), (some (5, true)), .q (.bin .leq (.t 6) (.c (.sc (.int .u8 57))))⟩, ⟨(some 8), none, .q (.pick (.t 5) (.t 7) (.c (.sc (.bool false))))⟩, ⟨(some 2), none, .q (.mov (.t 8))⟩])
  .ret))
theorem K102 : Tryz.f102.body.bind (comp Tryz.prog) = some A102 ∧ Tryz.f102.ntmps = 9 ∧ Tryz.f102.results.toList.mapM (resB Tryz.prog) = some [.mov (.t 2)] := ⟨by kernel_rfl, by kernel_rfl, by kernel_rfl⟩
theorem R102 (c : UInt8) : Ret Tryz.prog 102 [.sc (.int .u8 c.toNat)] (.sc (.bool (figI c.toNat))) [.un] := by
  refine Ret.run Tryz.func102 K102 (by simp) rfl rfl 500 ?_
  by_cases h : (48 : Int) ≤ c.toNat <;> simp [A102, iniρ, figI, h]
/- 117: loop.example/g00464/spec.l1Small -/
def A117 : AC := (.seq (.ops [⟨(some 2), none, .q (.mov (.c (.sc (.bool false))))⟩])
  (.seq (.ops [⟨(some 3), none, .q (.mov (.t 0))⟩, ⟨(some 4), none, .q (.cvi .i64 (.t 3))⟩, ⟨(some 5), none, .c (.c (.clo 64 [])) [(.t 4), (.c (.sc (.int .i64 97))), (.c (.sc (.int .i64 122)))]⟩, ⟨(some 2), none, .q (.mov (.t 5))⟩])
  .ret))
theorem K117 : Tryz.f117.body.bind (comp Tryz.prog) = some A117 ∧ Tryz.f117.ntmps = 6 ∧ Tryz.f117.results.toList.mapM (resB Tryz.prog) = some [.mov (.t 2)] := ⟨by kernel_rfl, by kernel_rfl, by kernel_rfl⟩
theorem R117 (c : UInt8) : Ret Tryz.prog 117 [.sc (.int .u8 c.toNat)] (.sc (.bool (smallI c.toNat))) [.un] := by
  have hw : IntKind.i64.wrap (c.toNat : Int) = c.toNat := wrap_i64 (by omega) (by have := c.toNat_lt; omega)
  refine Ret.run Tryz.func117 K117 (by simp) rfl rfl 500 ?_
  simp [A117, iniρ, hw]
  refine callK.ro 0 rfl (by kernel_rfl) (by simp [roc_sc]) (R64 c.toNat 97 122) rfl rfl rfl ?_
  simp [inR, smallI]
/- 105: loop.example/g00464/spec.l1Digit -/
def A105 : AC := (.seq (.ops [⟨(some 2), none, .q (.mov (.c (.sc (.bool false))))⟩])
  (.seq (.ops [⟨(some 3), none, .q (.mov (.t 0))⟩, ⟨(some 4), none, .q (.cvi .i64 (.t 3))⟩, ⟨(some 5), none, .c (.c (.clo 64 [])) [(.t 4), (.c (.sc (.int .i64 48))), (.c (.sc (.int .i64 57)))]⟩, ⟨(some 2), none, .q (.mov (.t 5))⟩])
  .ret))
theorem K105 : Tryz.f105.body.bind (comp Tryz.prog) = some A105 ∧ Tryz.f105.ntmps = 6 ∧ Tryz.f105.results.toList.mapM (resB Tryz.prog) = some [.mov (.t 2)] := ⟨by kernel_rfl, by kernel_rfl, by kernel_rfl⟩
theorem R105 (c : UInt8) : Ret Tryz.prog 105 [.sc (.int .u8 c.toNat)] (.sc (.bool (figI c.toNat))) [.un] := by
  have hw : IntKind.i64.wrap (c.toNat : Int) = c.toNat := wrap_i64 (by omega) (by have := c.toNat_lt; omega)
  refine Ret.run Tryz.func105 K105 (by simp) rfl rfl 500 ?_
  simp [A105, iniρ, hw]
  refine callK.ro 0 rfl (by kernel_rfl) (by simp [roc_sc]) (R64 c.toNat 48 57) rfl rfl rfl ?_
  simp [inR, figI]
/- 107: loop.example/g00464/spec.NameOk -/
def A107 : AC := (.seq (.ops [⟨(some 2), none, .q (.mov (.c (.sc (.bool false))))⟩])
  (.seq (.seq (.ops [⟨(some 3), none, .q (.mov (.c (.sc (.int .i64 0))))⟩])
  (.block 0 (.loop (.seq (.seq (.ops [⟨(some 4), none, .q (.mov (.t 3))⟩, ⟨(some 5), none, .q (.mov (.t 0))⟩, ⟨(some 6), none, .q (.slen (.t 5))⟩, ⟨(some 7), none, .q (.bin .lss (.t 4) (.t 6))⟩])
  (.cond (.t 7) .skip
  (.exit 0)))
  (.seq (.block 1 (.seq (.ops [⟨(some 10), none, .q (.mov (.t 0))⟩, ⟨(some 11), none, .q (.mov (.t 3))⟩, ⟨(some 12), none, .q (.idx (.t 10) (.t 11))⟩, ⟨(some 13), none, .c (.c (.clo 117 [])) [(.t 12)]⟩, ⟨(some 14), none, .q (.not (.t 13))⟩, ⟨(some 15), none, .q (.mov (.t 14))⟩, ⟨(some 16), (some (15, true)), .q (.mov (.t 3))⟩, ⟨(some 17), (some (15, true)), .q (.bin .eql (.t 16) (.c (.sc (.int .i64 0))))⟩, ⟨(some 18), (some (15, true)), .q (.mov (.t 17))⟩, ⟨(some 19), (some (18, false)), .q (.mov (.t 0))⟩, ⟨(some 20), (some (18, false)), .q (.mov (.t 3))⟩, ⟨(some 21), (some (18, false)), .q (.idx (.t 19) (.t 20))⟩, ⟨(some 22), (some (18, false)), .c (.c (.clo 105 [])) [(.t 21)]⟩, ⟨(some 23), (some (18, false)), .q (.not (.t 22))⟩, ⟨(some 24), (some (18, false)), .q (.mov (.t 23))⟩, ⟨(some 25), (some (24, true)), .q (.mov (.t 0))⟩, ⟨(some 26), (some (24, true)), .q (.mov (.t 3))⟩, ⟨(some 27), (some (24, true)), .q (.idx (.t 25) (.t 26))⟩, ⟨(some 28), (some (24, true)), .q (.bin .neq (.t 27) (.c (.sc (.int .u8 45))))⟩, ⟨(some 29), (some (18, false)), .q (.pick (.t 24) (.t 28) (.c (.sc (.bool false))))⟩, ⟨(some 30), (some (15, true)), .q (.pick (.t 18) (.c (.sc (.bool true))) (.t 29))⟩, ⟨(some 31), none, .q (.pick (.t 15) (.t 30) (.c (.sc (.bool false))))⟩])
  (.cond (.t 31) (.seq (.ops [⟨(some 2), none, .q (.mov (.c (.sc (.bool false))))⟩])
  .ret)
  .skip)))
  (.ops [⟨(some 8), none, .q (.mov (.t 3))⟩, ⟨(some 9), none, .q (.bin .add (.t 8) (.c (.sc (.int .i64 1))))⟩, ⟨(some 3), none, .q (.mov (.t 9))⟩]))))))
  (.seq (.ops [⟨(some 32), none, .q (.mov (.t 0))⟩, ⟨(some 33), none, .q (.slen (.t 32))⟩, ⟨(some 34), none, .c (.c (.clo 64 [])) [(.t 33), (.c (.sc (.int .i64 1))), (.c (.sc (.int .i64 10)))]⟩, ⟨(some 2), none, .q (.mov (.t 34))⟩])
  .ret)))
theorem K107 : Tryz.f107.body.bind (comp Tryz.prog) = some A107 ∧ Tryz.f107.ntmps = 35 ∧ Tryz.f107.results.toList.mapM (resB Tryz.prog) = some [.mov (.t 2)] := ⟨by kernel_rfl, by kernel_rfl, by kernel_rfl⟩
theorem R107 (s : ByteArray) (hs : s.size ≤ 140737488351232) : Ret Tryz.prog 107 [.sc (.string s)] (.sc (.bool (nameOk s))) [.un] := by
  refine Ret.run Tryz.func107 K107 (by simp) rfl rfl 500 ?_
  simp [A107, iniρ]
  refine T.rounds (μ := fun i : List UInt8 × List UInt8 => i.2.length)
    (fun i t => i.1 ++ i.2 = s.data.toList ∧ nameL i.2 i.1.length = nameL s.data.toList 0 ∧ t.ρ 0 = .sc (.string s) ∧ t.ρ 3 = .sc (.int .i64 i.1.length) ∧ t.h = h0 ∧ t.n = 35) ([], s.data.toList) (by simp [upd_app]) ?_
  rintro ⟨pre, rest⟩ ⟨ρ, hh, n⟩ ⟨hx, hE, k0, k3, rfl, rfl⟩
  simp only at hx hE k0 k3
  have hsz := str_len hx
  refine run_ok (n := 400) ?_
  cases rest with
  | nil =>
    simp at hsz
    simp [k0, k3, hsz]
    refine T.on 400 ?_
    simp [k0]
    refine callK.ro 0 rfl (by kernel_rfl) (by simp [roc_sc]) (R64 s.size 1 10) rfl rfl rfl ?_
    simp [nameOk, ← hE, nameL]
  | cons c rest =>
    have hg := str_get hx
    simp at hsz
    have hlt : (pre.length : Int) < s.size := by omega
    have hw : IntKind.i64.wrap ((pre.length : Int) + 1) = pre.length + 1 := wrap_i64 (by omega) (by omega)
    simp [k0, k3, hlt, hg]
    refine callK.ro 0 rfl (by kernel_rfl) (by simp [roc_sc]) (R117 c) rfl rfl rfl ?_
    have step : nameC pre.length c = true → ∀ (Q : Prop), (nameL rest (pre.length + 1) = nameL s.data.toList 0 → Q) → Q := fun h Q k => k (by rw [← hE]; simp [nameL, h])
    have stop : nameC pre.length c = false → nameOk s = false := fun h => by simp [nameOk, ← hE, nameL, h]
    cases h1 : smallI (c.toNat : Int)
    · by_cases hz : pre.length = 0
      · have := stop (by simp [nameC, h1, hz])
        simp [k0, k3, h1, hz, hlt, hg, this]
      · have hz' : pre ≠ [] := fun e => hz (by simp [e])
        simp [k0, k3, h1, hz, hz', hlt, hg]
        refine callK.ro 0 rfl (by kernel_rfl) (by simp [roc_sc]) (R105 c) rfl rfl rfl ?_
        cases h2 : figI (c.toNat : Int)
        · by_cases h3 : (c.toNat : Int) = 45
          · simp [k0, k3, h1, h2, hz, hz', hlt, hg, h3, hw]
            refine step (by simp [nameC, h1, h2, hz, hz', h3]) _ fun hE2 => ?_
            refine ⟨pre ++ [c], rest, by simp, _, Le.refl _, ?_⟩
            simp [hx, k0, hE2, upd_app]
          · have := stop (by simp [nameC, h1, h2, hz, hz', h3])
            simp [k0, k3, h1, h2, hz, hz', hlt, hg, h3, this]
        · simp [k0, k3, h1, h2, hz, hz', hlt, hg, hw]
          refine step (by simp [nameC, h1, h2, hz, hz']) _ fun hE2 => ?_
          refine ⟨pre ++ [c], rest, by simp, _, Le.refl _, ?_⟩
          simp [hx, k0, hE2, upd_app]
    · simp [k0, k3, h1, hlt, hg, hw]
      refine step (by simp [nameC, h1]) _ fun hE2 => ?_
      refine ⟨pre ++ [c], rest, by simp, _, Le.refl _, ?_⟩
      simp [hx, k0, hE2, upd_app]
/- 111: loop.example/g00464/impl.NameOk -/
def A111 : AC := (.seq (.ops [⟨(some 2), none, .q (.mov (.c (.sc (.bool false))))⟩])
  (.seq (.seq (.ops [⟨(some 3), none, .q (.mov (.c (.sc (.int .i64 0))))⟩])
  (.block 0 (.loop (.seq (.seq (.ops [⟨(some 4), none, .q (.mov (.t 3))⟩, ⟨(some 5), none, .q (.mov (.t 0))⟩, ⟨(some 6), none, .q (.slen (.t 5))⟩, ⟨(some 7), none, .q (.bin .lss (.t 4) (.t 6))⟩])
  (.cond (.t 7) .skip
  (.exit 0)))
  (.seq (.block 1 (.seq (.ops [⟨(some 10), none, .q (.mov (.t 0))⟩, ⟨(some 11), none, .q (.mov (.t 3))⟩, ⟨(some 12), none, .q (.idx (.t 10) (.t 11))⟩, ⟨(some 13), none, .c (.c (.clo 119 [])) [(.t 12)]⟩, ⟨(some 14), none, .q (.not (.t 13))⟩, ⟨(some 15), none, .q (.mov (.t 14))⟩, ⟨(some 16), (some (15, true)), .q (.mov (.t 3))⟩, ⟨(some 17), (some (15, true)), .q (.bin .eql (.t 16) (.c (.sc (.int .i64 0))))⟩, ⟨(some 18), (some (15, true)), .q (.mov (.t 17))⟩, ⟨(some 19), (some (18, false)), .q (.mov (.t 0))⟩, ⟨(some 20), (some (18, false)), .q (.mov (.t 3))⟩, ⟨(some 21), (some (18, false)), .q (.idx (.t 19) (.t 20))⟩, ⟨(some 22), (some (18, false)), .c (.c (.clo 102 [])) [(.t 21)]⟩, ⟨(some 23), (some (18, false)), .q (.not (.t 22))⟩, ⟨(some 24), (some (18, false)), .q (.mov (.t 23))⟩, ⟨(some 25), (some (24, true)), .q (.mov (.t 0))⟩, ⟨(some 26), (some (24, true)), .q (.mov (.t 3))⟩, ⟨(some 27), (some (24, true)), .q (.idx (.t 25) (.t 26))⟩, ⟨(some 28), (some (24, true)), .q (.bin .neq (.t 27) (.c (.sc (.int .u8 45))))⟩, ⟨(some 29), (some (18, false)), .q (.pick (.t 24) (.t 28) (.c (.sc (.bool false))))⟩, ⟨(some 30), (some (15, true)), .q (.pick (.t 18) (.c (.sc (.bool true))) (.t 29))⟩, ⟨(some 31), none, .q (.pick (.t 15) (.t 30) (.c (.sc (.bool false))))⟩])
  (.cond (.t 31) (.seq (.ops [⟨(some 2), none, .q (.mov (.c (.sc (.bool false))))⟩])
  .ret)
  .skip)))
  (.ops [⟨(some 8), none, .q (.mov (.t 3))⟩, ⟨(some 9), none, .q (.bin .add (.t 8) (.c (.sc (.int .i64 1))))⟩, ⟨(some 3), none, .q (.mov (.t 9))⟩]))))))
  (.seq (.ops [⟨(some 32), none, .q (.mov (.t 0))⟩, ⟨(some 33), none, .q (.slen (.t 32))⟩, ⟨(some 34), none, .c (.c (.clo 62 [])) [(.t 33), (.c (.sc (.int .i64 1))), (.c (.sc (.int .i64 10)))]⟩, ⟨(some 2), none, .q (.mov (.t 34))⟩])
  .ret)))
theorem K111 : Tryz.f111.body.bind (comp Tryz.prog) = some A111 ∧ Tryz.f111.ntmps = 35 ∧ Tryz.f111.results.toList.mapM (resB Tryz.prog) = some [.mov (.t 2)] := ⟨by kernel_rfl, by kernel_rfl, by kernel_rfl⟩
theorem R111 (s : ByteArray) (hs : s.size ≤ 140737488351232) : Ret Tryz.prog 111 [.sc (.string s)] (.sc (.bool (nameOk s))) [.un] := by
  refine Ret.run Tryz.func111 K111 (by simp) rfl rfl 500 ?_
  simp [A111, iniρ]
  refine T.rounds (μ := fun i : List UInt8 × List UInt8 => i.2.length)
    (fun i t => i.1 ++ i.2 = s.data.toList ∧ nameL i.2 i.1.length = nameL s.data.toList 0 ∧ t.ρ 0 = .sc (.string s) ∧ t.ρ 3 = .sc (.int .i64 i.1.length) ∧ t.h = h0 ∧ t.n = 35) ([], s.data.toList) (by simp [upd_app]) ?_
  rintro ⟨pre, rest⟩ ⟨ρ, hh, n⟩ ⟨hx, hE, k0, k3, rfl, rfl⟩
  simp only at hx hE k0 k3
  have hsz := str_len hx
  refine run_ok (n := 400) ?_
  cases rest with
  | nil =>
    simp at hsz
    simp [k0, k3, hsz]
    refine T.on 400 ?_
    simp [k0]
    refine callK.ro 0 rfl (by kernel_rfl) (by simp [roc_sc]) (R62 s.size 1 10) rfl rfl rfl ?_
    simp [nameOk, ← hE, nameL]
  | cons c rest =>
    have hg := str_get hx
    simp at hsz
    have hlt : (pre.length : Int) < s.size := by omega
    have hw : IntKind.i64.wrap ((pre.length : Int) + 1) = pre.length + 1 := wrap_i64 (by omega) (by omega)
    simp [k0, k3, hlt, hg]
    refine callK.ro 0 rfl (by kernel_rfl) (by simp [roc_sc]) (R119 c) rfl rfl rfl ?_
    have step : nameC pre.length c = true → ∀ (Q : Prop), (nameL rest (pre.length + 1) = nameL s.data.toList 0 → Q) → Q := fun h Q k => k (by rw [← hE]; simp [nameL, h])
    have stop : nameC pre.length c = false → nameOk s = false := fun h => by simp [nameOk, ← hE, nameL, h]
    cases h1 : smallI (c.toNat : Int)
    · by_cases hz : pre.length = 0
      · have := stop (by simp [nameC, h1, hz])
        simp [k0, k3, h1, hz, hlt, hg, this]
      · have hz' : pre ≠ [] := fun e => hz (by simp [e])
        simp [k0, k3, h1, hz, hz', hlt, hg]
        refine callK.ro 0 rfl (by kernel_rfl) (by simp [roc_sc]) (R102 c) rfl rfl rfl ?_
        cases h2 : figI (c.toNat : Int)
        · by_cases h3 : (c.toNat : Int) = 45
          · simp [k0, k3, h1, h2, hz, hz', hlt, hg, h3, hw]
            refine step (by simp [nameC, h1, h2, hz, hz', h3]) _ fun hE2 => ?_
            refine ⟨pre ++ [c], rest, by simp, _, Le.refl _, ?_⟩
            simp [hx, k0, hE2, upd_app]
          · have := stop (by simp [nameC, h1, h2, hz, hz', h3])
            simp [k0, k3, h1, h2, hz, hz', hlt, hg, h3, this]
        · simp [k0, k3, h1, h2, hz, hz', hlt, hg, hw]
          refine step (by simp [nameC, h1, h2, hz, hz']) _ fun hE2 => ?_
          refine ⟨pre ++ [c], rest, by simp, _, Le.refl _, ?_⟩
          simp [hx, k0, hE2, upd_app]
    · simp [k0, k3, h1, hlt, hg, hw]
      refine step (by simp [nameC, h1]) _ fun hE2 => ?_
      refine ⟨pre ++ [c], rest, by simp, _, Le.refl _, ?_⟩
      simp [hx, k0, hE2, upd_app]
end Go.Proofs.YtaknfalbmblagaaGreatDoor.Am
namespace Go.Proofs.YtaknfalbmblagaaGreatDoor.Am
open Go Go.Proofs
set_option linter.unusedSimpArgs false
set_option linter.unusedVariables false
attribute [local congr] T_congr callK_congr callWK_congr
attribute [local simp] run_nil run_op0 run_opg run_seq run_cond run_block run_ret run_skip run_skip_after run_skip_blk run_exit run_exit_after run_exit_blk run_loop run_any runS_nil runS_op0 runS_opg runW_nil runW_op0 runW_opg exec_q exec_w exec_c exec_n execW_q execW_w execW_c restW_app hideH_app merge_app wblk rest_app restS_app execS_q execS_c aval dOk upd_app ev_t ev_c setO_some setO_none put_mk pinsOf isIo hasIo sbin endR fin resL one outL out1 clo1 cloL coe coeL shut shut.shutL wantA weff cellsOf fillA deref natOf ρ0_app h0_app plain plain.plainL keep_app keepH_app andThen_normal andThen_ret andThen_exit pop_nil pop_after pop_after_ret pop_after_exit pop_blk pop_blk_ret pop_blk_exit nilA srcOf srcCells keepR_app keepHR_app renA rb
def lttI (n : Int) : Bool := smallI n || figI n || n == 46 || n == 45 || n == 95
def letL : List UInt8 → Bool
  | [] => true
  | c :: l => lttI (c.toNat : Int) && letL l
def partOk (s : ByteArray) : Bool := letL s.data.toList && (inR s.size 1 12 && !(s.toList == [46]) && !(s.toList == [46, 46]))
/- 108: loop.example/g00464/spec.l5Letter -/
def A108 : AC := (.seq (.ops [⟨(some 2), none, .q (.mov (.c (.sc (.bool false))))⟩])
  (.seq (.ops [⟨(some 3), none, .q (.mov (.t 0))⟩, ⟨(some 4), none, .c (.c (.clo 117 [])) [(.t 3)]⟩, ⟨(some 5), none, .q (.mov (.t 4))⟩, ⟨(some 6), (some (5, false)), .q (.mov (.t 0))⟩, ⟨(some 7), (some (5, false)), .c (.c (.clo 105 [])) [(.t 6)]⟩, ⟨(some 8), none, .q (.pick (.t 5) (.c (.sc (.bool true))) (.t 7))⟩, ⟨(some 9), none, .q (.mov (.t 8))⟩, ⟨(some 10), (some (9, false)), .q (.mov (.t 0))⟩, ⟨(some 11), (some (9, false)), .q (.bin .eql (.t 10) (.c (.sc (.int .u8 46))))⟩, ⟨(some 12), none, .q (.pick (.t 9) (.c (.sc (.bool true))) (.t 11))⟩, ⟨(some 13), none, .q (.mov (.t 12))⟩, ⟨(some 14), (some (13, false)), .q (.mov (.t 0))⟩, ⟨(some 15), (some (13, false)), .q (.bin .eql (.t 14) (.c (.sc (.int .u8 45))))⟩, ⟨(some 16), none, .q (.pick (.t 13) (.c (.sc (.bool true))) (.t 15))⟩, ⟨(some 17), none, .q (.mov (.t 16))⟩, ⟨(some 18), (some (17, false)), .q (.mov (.t 0))⟩, ⟨(some 19), (some (17, false)), .q (.bin .eql (.t 18) (.c (.sc (.int .u8 95))))⟩, ⟨(some 20), none, .q (.pick (.t 17) (.c (.sc (.bool true))) (.t 19))⟩, ⟨(some 2), none, .q (.mov (.t 20))⟩])
  .ret))
theorem K108 : Tryz.f108.body.bind (comp Tryz.prog) = some A108 ∧ Tryz.f108.ntmps = 21 ∧ Tryz.f108.results.toList.mapM (resB Tryz.prog) = some [.mov (.t 2)] := ⟨by kernel_rfl, by kernel_rfl, by kernel_rfl⟩
theorem R108 (c : UInt8) : Ret Tryz.prog 108 [.sc (.int .u8 c.toNat)] (.sc (.bool (lttI c.toNat))) [.un] := by
  refine Ret.run Tryz.func108 K108 (by simp) rfl rfl 500 ?_
  simp [A108, iniρ]
  refine callK.ro 0 rfl (by kernel_rfl) (by simp [roc_sc]) (R117 c) rfl rfl rfl ?_
  cases h1 : smallI (c.toNat : Int)
  case true => simp [lttI, h1]
  simp
  refine callK.ro 0 rfl (by kernel_rfl) (by simp [roc_sc]) (R105 c) rfl rfl rfl ?_
  cases h2 : figI (c.toNat : Int)
  case true => simp [lttI, h1, h2]
  by_cases h3 : (c.toNat : Int) = 46
  · simp [lttI, h1, h2, h3]
  by_cases h4 : (c.toNat : Int) = 45
  · simp [lttI, h1, h2, h3, h4]
  simp [lttI, h1, h2, h3, h4]
/- 86: loop.example/g00464/spec.l5Name -/
def A86 : AC := (.seq (.ops [⟨(some 2), none, .q (.mov (.c (.sc (.bool false))))⟩])
  (.seq (.seq (.ops [⟨(some 3), none, .q (.mov (.c (.sc (.int .i64 0))))⟩])
  (.block 0 (.loop (.seq (.seq (.ops [⟨(some 4), none, .q (.mov (.t 3))⟩, ⟨(some 5), none, .q (.mov (.t 0))⟩, ⟨(some 6), none, .q (.slen (.t 5))⟩, ⟨(some 7), none, .q (.bin .lss (.t 4) (.t 6))⟩])
  (.cond (.t 7) .skip
  (.exit 0)))
  (.seq (.block 1 (.seq (.ops [⟨(some 10), none, .q (.mov (.t 0))⟩, ⟨(some 11), none, .q (.mov (.t 3))⟩, ⟨(some 12), none, .q (.idx (.t 10) (.t 11))⟩, ⟨(some 13), none, .c (.c (.clo 108 [])) [(.t 12)]⟩, ⟨(some 14), none, .q (.not (.t 13))⟩])
  (.cond (.t 14) (.seq (.ops [⟨(some 2), none, .q (.mov (.c (.sc (.bool false))))⟩])
  .ret)
  .skip)))
  (.ops [⟨(some 8), none, .q (.mov (.t 3))⟩, ⟨(some 9), none, .q (.bin .add (.t 8) (.c (.sc (.int .i64 1))))⟩, ⟨(some 3), none, .q (.mov (.t 9))⟩]))))))
  (.seq (.ops [⟨(some 15), none, .q (.mov (.t 0))⟩, ⟨(some 16), none, .q (.slen (.t 15))⟩, ⟨(some 17), none, .c (.c (.clo 64 [])) [(.t 16), (.c (.sc (.int .i64 1))), (.c (.sc (.int .i64 12)))]⟩, ⟨(some 18), none, .q (.mov (.t 17))⟩, ⟨(some 19), (some (18, true)), .q (.mov (.t 0))⟩, ⟨(some 20), (some (18, true)), .q (.bin .neq (.t 19) (.c (.sc (.string ⟨#[46]⟩))))⟩, ⟨(some 21), none, .q (.pick (.t 18) (.t 20) (.c (.sc (.bool false))))⟩, ⟨(some 22), none, .q (.mov (.t 21))⟩, ⟨(some 23), (some (22, true)), .q (.mov (.t 0))⟩, ⟨(some 24), (some (22, true)), .q (.bin .neq (.t 23) (.c (.sc (.string ⟨#[46, 46]⟩))))⟩, ⟨(some 25), none, .q (.pick (.t 22) (.t 24) (.c (.sc (.bool false))))⟩, ⟨(some 2), none, .q (.mov (.t 25))⟩])
  .ret)))
theorem K86 : Tryz.f86.body.bind (comp Tryz.prog) = some A86 ∧ Tryz.f86.ntmps = 26 ∧ Tryz.f86.results.toList.mapM (resB Tryz.prog) = some [.mov (.t 2)] := ⟨by kernel_rfl, by kernel_rfl, by kernel_rfl⟩
theorem R86 (s : ByteArray) (hs : s.size ≤ 140737488351232) : Ret Tryz.prog 86 [.sc (.string s)] (.sc (.bool (partOk s))) [.un] := by
  refine Ret.run Tryz.func86 K86 (by simp) rfl rfl 500 ?_
  simp [A86, iniρ]
  refine T.rounds (μ := fun i : List UInt8 × List UInt8 => i.2.length)
    (fun i t => i.1 ++ i.2 = s.data.toList ∧ letL i.2 = letL s.data.toList ∧ t.ρ 0 = .sc (.string s) ∧ t.ρ 3 = .sc (.int .i64 i.1.length) ∧ t.h = h0 ∧ t.n = 26) ([], s.data.toList) (by simp [upd_app]) ?_
  rintro ⟨pre, rest⟩ ⟨ρ, hh, n⟩ ⟨hx, hE, k0, k3, rfl, rfl⟩
  simp only at hx hE k0 k3
  have hsz := str_len hx
  refine run_ok (n := 400) ?_
  cases rest with
  | nil =>
    simp at hsz
    simp [k0, k3, hsz]
    refine T.on 400 ?_
    simp [k0]
    refine callK.ro 0 rfl (by kernel_rfl) (by simp [roc_sc]) (R64 s.size 1 12) rfl rfl rfl ?_
    have hL : letL s.data.toList = true := by rw [← hE]; rfl
    cases h1 : inR s.size 1 12
    case false => simp [partOk, h1]
    by_cases h2 : s.toList = [46]
    case pos => simp [k0, partOk, h1, h2]
    have h2' : (s.toList == [46]) = false := by simpa using h2
    by_cases h3 : s.toList = [46, 46]
    · simp [k0, partOk, h1, h2, h2', h3, hL]
    · have h3' : (s.toList == [46, 46]) = false := by simpa using h3
      simp [k0, partOk, h1, h2, h2', h3, h3', hL]
  | cons c rest =>
    have hg := str_get hx
    simp at hsz
    have hlt : (pre.length : Int) < s.size := by omega
    have hw : IntKind.i64.wrap ((pre.length : Int) + 1) = pre.length + 1 := wrap_i64 (by omega) (by omega)
    simp [k0, k3, hlt, hg]
    refine callK.ro 0 rfl (by kernel_rfl) (by simp [roc_sc]) (R108 c) rfl rfl rfl ?_
    cases h1 : lttI (c.toNat : Int)
    · have : partOk s = false := by simp [partOk, ← hE, letL, h1]
      simp [this]
    · simp [k3, hw]
      refine ⟨pre ++ [c], rest, by simp, _, Le.refl _, ?_⟩
      simp [hx, k0, upd_app, ← hE, letL, h1]
def splitP (s : ByteArray) (b : Int) : Nat → Nat → List UInt8 → List ByteArray
  | f, i, [] => [s.extract f i]
  | f, i, c :: l => if (c.toNat : Int) = b then s.extract f i :: splitP s b (i + 1) (i + 1) l else splitP s b f (i + 1) l
def splitS (s : ByteArray) (b : Int) : List ByteArray := splitP s b 0 0 s.data.toList
structure Opt where
  v : Bool
/- 106: loop.example/g00464/spec.Split -/
def A106 : AC := (.seq (.ops [⟨(some 4), none, .q (.mov (.c .em))⟩])
  (.seq (.ops [⟨(some 8), none, .w (.bsl 1 0 [] [])⟩, ⟨(some 5), none, .q (.mov (.t 8))⟩])
  (.seq (.ops [⟨(some 6), none, .q (.mov (.c (.sc (.int .i64 0))))⟩])
  (.seq (.seq (.ops [⟨(some 7), none, .q (.mov (.c (.sc (.int .i64 0))))⟩])
  (.block 0 (.loop (.seq (.seq (.ops [⟨(some 9), none, .q (.mov (.t 7))⟩, ⟨(some 10), none, .q (.mov (.t 0))⟩, ⟨(some 11), none, .q (.slen (.t 10))⟩, ⟨(some 12), none, .q (.bin .leq (.t 9) (.t 11))⟩])
  (.cond (.t 12) .skip
  (.exit 0)))
  (.seq (.block 1 (.seq (.ops [⟨(some 15), none, .q (.mov (.t 7))⟩, ⟨(some 16), none, .q (.mov (.t 0))⟩, ⟨(some 17), none, .q (.slen (.t 16))⟩, ⟨(some 18), none, .q (.bin .eql (.t 15) (.t 17))⟩, ⟨(some 19), none, .q (.mov (.t 18))⟩, ⟨(some 20), (some (19, false)), .q (.mov (.t 0))⟩, ⟨(some 21), (some (19, false)), .q (.mov (.t 7))⟩, ⟨(some 22), (some (19, false)), .q (.idx (.t 20) (.t 21))⟩, ⟨(some 23), (some (19, false)), .q (.mov (.t 1))⟩, ⟨(some 24), (some (19, false)), .q (.bin .eql (.t 22) (.t 23))⟩, ⟨(some 25), none, .q (.pick (.t 19) (.c (.sc (.bool true))) (.t 24))⟩])
  (.cond (.t 25) (.seq (.ops [⟨(some 26), none, .q (.mov (.t 5))⟩, ⟨(some 27), none, .q (.mov (.t 0))⟩, ⟨(some 28), none, .q (.mov (.t 6))⟩, ⟨(some 29), none, .q (.mov (.t 7))⟩, ⟨(some 30), none, .q (.subs (.t 27) (some (.t 28)) (some (.t 29)))⟩, ⟨(some 31), none, .w (.bsl 1 1 [(.sc (.string ⟨#[]⟩))] [(0, 1, (.t 30))])⟩, ⟨(some 32), none, .w (.app 1 16 false (.t 26) (.t 31))⟩, ⟨(some 5), none, .q (.mov (.t 32))⟩])
  (.ops [⟨(some 33), none, .q (.mov (.t 7))⟩, ⟨(some 34), none, .q (.bin .add (.t 33) (.c (.sc (.int .i64 1))))⟩, ⟨(some 6), none, .q (.mov (.t 34))⟩]))
  .skip)))
  (.ops [⟨(some 13), none, .q (.mov (.t 7))⟩, ⟨(some 14), none, .q (.bin .add (.t 13) (.c (.sc (.int .i64 1))))⟩, ⟨(some 7), none, .q (.mov (.t 14))⟩]))))))
  (.seq (.ops [⟨(some 35), none, .q (.mov (.t 5))⟩, ⟨(some 4), none, .q (.mov (.t 35))⟩])
  .ret)))))
theorem K106 : Tryz.f106.body.bind (comp Tryz.prog) = some A106 ∧ Tryz.f106.ntmps = 36 ∧ Tryz.f106.results.toList.mapM (resB Tryz.prog) = some [.mov (.t 4)] := ⟨by kernel_rfl, by kernel_rfl, by kernel_rfl⟩
theorem R106 (s : ByteArray) (b : Int) (hs : s.size ≤ 1048576) : Ret Tryz.prog 106 [.sc (.string s), .sc (.int .u8 b)] (.own (rows Ty.str.oc (splitS s b)) (splitS s b).length 1) [.un, .un] := by
  refine Ret.run Tryz.func106 K106 (by simp) rfl rfl 900 ?_
  simp [A106, iniρ, over]
  -- ended: the last part is out
  refine T.rounds (μ := fun i : List UInt8 × List UInt8 × List ByteArray × Nat × Opt => i.2.1.length + (if i.2.2.2.2.v then 0 else 1))
    (fun i t => i.1 ++ i.2.1 = s.data.toList ∧ i.2.2.2.1 ≤ i.1.length ∧ i.2.2.1.length ≤ i.1.length + (if i.2.2.2.2.v then 1 else 0) ∧ (if i.2.2.2.2.v then i.2.1 = [] ∧ i.2.2.1 = splitS s b else i.2.2.1 ++ splitP s b i.2.2.2.1 i.1.length i.2.1 = splitS s b) ∧
      t.ρ 0 = .sc (.string s) ∧ t.ρ 1 = .sc (.int .u8 b) ∧ t.ρ 5 = .sl 8 0 i.2.2.1.length 1 false ∧ (i.2.2.2.2.v = false → t.ρ 6 = .sc (.int .i64 i.2.2.2.1)) ∧ t.ρ 7 = .sc (.int .i64 (i.1.length + (if i.2.2.2.2.v then 1 else 0))) ∧ t.h 8 = some (some (rows Ty.str.oc i.2.2.1)) ∧ t.h 31 = none ∧ t.h 32 = none ∧ t.n = 36) ([], s.data.toList, [], 0, ⟨false⟩) (by simp [upd_app, rows_nil, splitS]) ?_
  rintro ⟨pre, rest, out, f, ⟨e⟩⟩ ⟨ρ, hh, n⟩ ⟨hx, hf, ho, hE, k0, k1, k5, k6, k7, k8, f1, f2, rfl⟩
  simp only at hx hf ho hE k0 k1 k5 k6 k7 k8 f1 f2
  have hsz := str_len hx
  refine run_ok (n := 400) ?_
  cases e with
  | true =>
    simp at hE k7
    obtain ⟨rfl, hE⟩ := hE
    simp at hsz
    have h1 : ¬ ((pre.length : Int) + 1 ≤ s.size) := by omega
    simp [k0, k7, h1]
    refine T.on 400 ?_
    have hid : idfree.idfreeL (rows Ty.str.oc (splitS s b)) = true := Ty.str.frL _
    simp [k5, k8, ex1, hE, str_ocl, hid]
  | false =>
    simp at hE k6 k7 ho
    have hps : pre.length ≤ s.size := by rw [hsz]; simp
    have hw : IntKind.i64.wrap ((pre.length : Int) + 1) = pre.length + 1 := wrap_i64 (by omega) (by omega)
    have hcap : (out.length + 1) * 16 ≤ 140737488355328 := by omega
    have hap : ∀ (l : List ByteArray) (g : ByteArray), rows Ty.str.oc l ++ [.sc (.string g)] = rows Ty.str.oc (l ++ [g]) := fun l g => by rw [rows_append]; rfl
    cases rest with
    | nil =>
      simp at hsz
      simp [k0, k1, k5, k6, k7, k8, f1, f2, hsz, hw, over, str_ocl, hcap, hap, hf]
      refine ⟨pre, [], out ++ [s.extract f pre.length], f, ⟨true⟩, ⟨rfl, rfl⟩, _, Le.reseat [0, 1, 5, 7] [(32, 8)] (by simp) (by simp [upd_app, menB, idfree, k0, k1]) ?_, ?_⟩
      · intro b' hb cs hcs
        simp at hb
        subst hb
        simp [upd_app] at hcs
        subst hcs
        exact rows_all (fun x c hc => (Ty.str.ow x c hc).fr) _
      · have hE2 : out ++ [s.extract f pre.length] = splitS s b := hE
        simp [upd_app, k0, k1, hE2]
        refine ⟨by simpa using hx, hf, ?_⟩
        rw [← hE2]; simp; omega
    | cons c rest =>
      have hg := str_get hx
      simp at hsz
      have hlt : (pre.length : Int) < s.size := by omega
      have hlt2 : pre.length < s.size := by omega
      have hle : (pre.length : Int) ≤ s.size := by omega
      have hne : ¬ ((pre.length : Int) = s.size) := by omega
      have hne2 : ¬ (pre.length = s.size) := by omega
      rw [splitP] at hE
      by_cases hc : (c.toNat : Int) = b
      · rw [if_pos hc] at hE
        simp [k0, k1, k5, k6, k7, k8, f1, f2, hlt, hle, hne, hne2, hg, hc, hw, hps, over, str_ocl, hcap, hap, hf]
        refine ⟨pre ++ [c], rest, out ++ [s.extract f pre.length], pre.length + 1, ⟨false⟩, by simp, _, Le.reseat [0, 1, 5, 6, 7] [(32, 8)] (by simp) (by simp [upd_app, menB, idfree, k0, k1]) ?_, ?_⟩
        · intro b' hb cs hcs
          simp at hb
          subst hb
          simp [upd_app] at hcs
          subst hcs
          exact rows_all (fun x c hc => (Ty.str.ow x c hc).fr) _
        · simp [upd_app, k0, k1, hx, hE]
          omega
      · have hcb : ((c.toNat : Int) == b) = false := by simpa using hc
        rw [if_neg hc] at hE
        simp [k0, k1, k5, k6, k7, k8, f1, f2, hlt, hle, hne, hne2, hg, hc, hcb, hw, over, str_ocl, hap]
        refine ⟨pre ++ [c], rest, out, f, ⟨false⟩, by simp, _, Le.refl _, ?_⟩
        simp [upd_app, k0, k1, k5, k6, k8, f1, f2, hx, hE]
        omega
def allPart : List ByteArray → Bool
  | [] => true
  | x :: l => partOk x && allPart l
def pathOk (s : ByteArray) : Bool := allPart (splitS s 47) && decide ((splitS s 47).length ≤ 4)
theorem splitP_size (s : ByteArray) (b : Int) : ∀ (l : List UInt8) (f i : Nat), ∀ x ∈ splitP s b f i l, x.size ≤ s.size
  | [], f, i, x, h => by
    simp [splitP] at h
    subst h
    rw [ByteArray.size_extract]; omega
  | c :: l, f, i, x, h => by
    rw [splitP] at h
    split at h
    · rcases List.mem_cons.1 h with rfl | h
      · rw [ByteArray.size_extract]; omega
      · exact splitP_size s b l _ _ x h
    · exact splitP_size s b l _ _ x h
theorem splitP_len (s : ByteArray) (b : Int) : ∀ (l : List UInt8) (f i : Nat), (splitP s b f i l).length ≤ l.length + 1
  | [], f, i => by simp [splitP]
  | c :: l, f, i => by
    rw [splitP]
    split
    · have := splitP_len s b l (i + 1) (i + 1); simp; omega
    · have := splitP_len s b l f (i + 1); simp; omega
/- 109: loop.example/g00464/spec.PathOk -/
def A109 : AC := (.seq (.ops [⟨(some 2), none, .q (.mov (.c (.sc (.bool false))))⟩])
  (.seq (.ops [⟨(some 5), none, .q (.mov (.t 0))⟩, ⟨(some 6), none, .c (.c (.clo 106 [])) [(.t 5), (.c (.sc (.int .u8 47)))]⟩, ⟨(some 3), none, .q (.mov (.t 6))⟩])
  (.seq (.seq (.ops [⟨(some 4), none, .q (.mov (.c (.sc (.int .i64 0))))⟩])
  (.block 0 (.loop (.seq (.seq (.ops [⟨(some 7), none, .q (.mov (.t 4))⟩, ⟨(some 8), none, .q (.mov (.t 3))⟩, ⟨(some 9), none, .q (.llen (.t 8))⟩, ⟨(some 10), none, .q (.bin .lss (.t 7) (.t 9))⟩])
  (.cond (.t 10) .skip
  (.exit 0)))
  (.seq (.block 1 (.seq (.ops [⟨(some 13), none, .q (.mov (.t 3))⟩, ⟨(some 14), none, .q (.mov (.t 4))⟩, ⟨(some 15), none, .q (.iadr 1 (.t 13) (.t 14))⟩, ⟨(some 16), none, .q (.load false 1 (.t 15))⟩, ⟨(some 17), none, .c (.c (.clo 86 [])) [(.t 16)]⟩, ⟨(some 18), none, .q (.not (.t 17))⟩])
  (.cond (.t 18) (.seq (.ops [⟨(some 2), none, .q (.mov (.c (.sc (.bool false))))⟩])
  .ret)
  .skip)))
  (.ops [⟨(some 11), none, .q (.mov (.t 4))⟩, ⟨(some 12), none, .q (.bin .add (.t 11) (.c (.sc (.int .i64 1))))⟩, ⟨(some 4), none, .q (.mov (.t 12))⟩]))))))
  (.seq (.ops [⟨(some 19), none, .q (.mov (.t 3))⟩, ⟨(some 20), none, .q (.llen (.t 19))⟩, ⟨(some 21), none, .q (.bin .leq (.t 20) (.c (.sc (.int .i64 4))))⟩, ⟨(some 2), none, .q (.mov (.t 21))⟩])
  .ret))))
theorem K109 : Tryz.f109.body.bind (comp Tryz.prog) = some A109 ∧ Tryz.f109.ntmps = 22 ∧ Tryz.f109.results.toList.mapM (resB Tryz.prog) = some [.mov (.t 2)] := ⟨by kernel_rfl, by kernel_rfl, by kernel_rfl⟩
theorem R109 (s : ByteArray) (hs : s.size ≤ 1048576) : Ret Tryz.prog 109 [.sc (.string s)] (.sc (.bool (pathOk s))) [.un] := by
  have hz : ∀ x ∈ splitS s 47, x.size ≤ s.size := splitP_size s 47 _ 0 0
  have hl : (splitS s 47).length ≤ s.size + 1 := by
    have := splitP_len s 47 s.data.toList 0 0
    simpa [splitS] using this
  obtain ⟨ps, hps⟩ : ∃ ps, ps = splitS s 47 := ⟨_, rfl⟩
  have rs := R106 s 47 hs
  rw [← hps] at hz hl rs
  refine Ret.run Tryz.func109 K109 (by simp) rfl rfl 900 ?_
  simp [A109, iniρ]
  refine callK.own 6 rfl (by kernel_rfl) (by simp [roc_sc]) rs (Ty.str.flo ps) (by simp) rfl ?_
  simp
  refine T.rounds (μ := fun i : List ByteArray × List ByteArray => i.2.length)
    (fun i t => i.1 ++ i.2 = ps ∧ allPart i.2 = allPart ps ∧ t.ρ 3 = .sl 6 0 ps.length 1 false ∧ t.ρ 4 = .sc (.int .i64 i.1.length) ∧ t.h 6 = some (some (rows Ty.str.oc ps)) ∧ t.n = 22) ([], ps) (by simp [upd_app]) ?_
  rintro ⟨pre, rest⟩ ⟨ρ, hh, n⟩ ⟨hx, hE, k3, k4, k6, rfl⟩
  simp only at hx hE k3 k4 k6
  refine run_ok (n := 400) ?_
  cases rest with
  | nil =>
    have hxl : pre.length = ps.length := by rw [← hx]; simp
    have hA : allPart ps = true := by rw [← hE]; rfl
    simp [k3, k4, hxl]
    refine T.on 400 ?_
    simp [k3, pathOk, ← hps, hA]
    try omega
  | cons x rest =>
    have hle : pre.length + (rest.length + 1) = ps.length := by rw [← hx]; simp
    have hlt : (pre.length : Int) < ps.length := by omega
    have hlt2 : pre.length < ps.length := by omega
    have hw : IntKind.i64.wrap ((pre.length : Int) + 1) = pre.length + 1 := wrap_i64 (by omega) (by omega)
    have hd := rows_drop Ty.str.ocn pre (x :: rest)
    rw [hx, rows_cons] at hd
    have hd : List.drop pre.length (rows Ty.str.oc ps) = AV.sc (.string x) :: rows Ty.str.oc rest := by
      have h2 := hd
      rwa [show pre.length * Ty.str.n = pre.length from Nat.mul_one _] at h2
    simp [k3, k4, k6, hlt, hlt2, hd]
    have hxz := hz x (by rw [← hx]; simp)
    refine callK.ro 0 rfl (by kernel_rfl) (by simp [roc_sc]) (R86 x (by omega)) rfl rfl rfl ?_
    cases h1 : partOk x
    · have hA : allPart ps = false := by rw [← hE]; simp [allPart, h1]
      simp [pathOk, ← hps, hA]
    · simp [k4, hw]
      refine ⟨pre ++ [x], rest, by simp, _, Le.refl _, ?_⟩
      simp [hx, k3, k6, upd_app, ← hE, allPart, h1]
end Go.Proofs.YtaknfalbmblagaaGreatDoor.Am
namespace Go.Proofs.YtaknfalbmblagaaGreatDoor.Am
open Go Go.Proofs
set_option linter.unusedSimpArgs false
set_option linter.unusedVariables false
attribute [local congr] T_congr callK_congr callWK_congr
attribute [local simp] run_nil run_op0 run_opg run_seq run_cond run_block run_ret run_skip run_skip_after run_skip_blk run_exit run_exit_after run_exit_blk run_loop run_any runS_nil runS_op0 runS_opg runW_nil runW_op0 runW_opg exec_q exec_w exec_c exec_n execW_q execW_w execW_c restW_app hideH_app merge_app wblk rest_app restS_app execS_q execS_c aval dOk upd_app ev_t ev_c setO_some setO_none put_mk pinsOf isIo hasIo sbin endR fin resL one outL out1 clo1 cloL coe coeL shut shut.shutL wantA weff cellsOf fillA deref natOf ρ0_app h0_app plain plain.plainL keep_app keepH_app andThen_normal andThen_ret andThen_exit pop_nil pop_after pop_after_ret pop_after_exit pop_blk pop_blk_ret pop_blk_exit nilA srcOf srcCells keepR_app keepHR_app renA rb
theorem extract_toList (s : ByteArray) (i j : Nat) : (s.extract i j).data.toList = (s.data.toList.take j).drop i := by
  rw [ByteArray.data_extract, Array.toList_extract, List.extract_eq_take_drop, List.drop_take]
theorem ixB_cases (c : UInt8) : ∀ l : List UInt8, (Lib.indexByte l c = -1 ∧ c ∉ l) ∨ ∃ p q, l = p ++ c :: q ∧ c ∉ p ∧ Lib.indexByte l c = (p.length : Int)
  | [] => .inl ⟨rfl, by simp⟩
  | x :: l => by
    by_cases h : x = c
    · subst h
      exact .inr ⟨[], l, rfl, by simp, by simp [Lib.indexByte]⟩
    · have h2 : (x == c) = false := by simpa using h
      rcases ixB_cases c l with ⟨e, hn⟩ | ⟨p, q, e, hn, e2⟩
      · left
        refine ⟨by simp [Lib.indexByte, h2, e], fun hm => ?_⟩
        rcases List.mem_cons.1 hm with e2 | e2
        · exact h e2.symm
        · exact hn e2
      · right
        refine ⟨x :: p, q, by rw [e]; rfl, fun hm => ?_, ?_⟩
        · rcases List.mem_cons.1 hm with e3 | e3
          · exact h e3.symm
          · exact hn e3
        · have h3 : (Lib.indexByte l c == -1) = false := by rw [e2]; simp
          rw [Lib.indexByte, h2, h3, e2]
          simp
theorem u8_eq {x c : UInt8} : ((x.toNat : Int) = (c.toNat : Int)) ↔ x = c := ⟨fun h => UInt8.toNat_inj.1 (by omega), fun h => by rw [h]⟩
theorem splitP_miss (s : ByteArray) (c : UInt8) (f : Nat) : ∀ (l : List UInt8) (i : Nat), c ∉ l → splitP s (c.toNat : Int) f i l = [s.extract f (i + l.length)]
  | [], i, _ => rfl
  | x :: l, i, h => by
    have hx : ¬ ((x.toNat : Int) = (c.toNat : Int)) := fun e => h (by rw [u8_eq.1 e]; exact List.mem_cons_self ..)
    rw [splitP, if_neg hx, splitP_miss s c f l (i + 1) (fun hm => h (List.mem_cons_of_mem _ hm))]
    congr 2
    simp only [List.length_cons]; omega
theorem splitP_hit (s : ByteArray) (c : UInt8) (f : Nat) (q : List UInt8) : ∀ (p : List UInt8) (i : Nat), c ∉ p → splitP s (c.toNat : Int) f i (p ++ c :: q) = s.extract f (i + p.length) :: splitP s (c.toNat : Int) (i + p.length + 1) (i + p.length + 1) q
  | [], i, _ => by rw [List.nil_append, splitP, if_pos rfl]; rfl
  | x :: p, i, h => by
    have hx : ¬ ((x.toNat : Int) = (c.toNat : Int)) := fun e => h (by rw [u8_eq.1 e]; exact List.mem_cons_self ..)
    rw [List.cons_append, splitP, if_neg hx, splitP_hit s c f q p (i + 1) (fun hm => h (List.mem_cons_of_mem _ hm))]
    have e : i + 1 + p.length = i + (x :: p).length := by simp only [List.length_cons]; omega
    rw [e]
theorem splitP_cnt (s : ByteArray) (c : UInt8) : ∀ (l : List UInt8) (f i : Nat), (splitP s (c.toNat : Int) f i l).length = l.count c + 1
  | [], _, _ => rfl
  | x :: l, f, i => by
    rw [splitP]
    by_cases h : x = c
    · rw [if_pos (u8_eq.2 h), List.length_cons, splitP_cnt s c l, h, List.count_cons_self]
    · rw [if_neg (fun e => h (u8_eq.1 e)), splitP_cnt s c l, List.count_cons_of_ne (fun e => h (by simpa using e))]
theorem R132 (s : ByteArray) (c : UInt8) : Ret Tryz.prog 132 [.sc (.string s), .sc (.string ⟨#[c]⟩)] (.sc (.int .i64 (Lib.indexByte s.data.toList c))) [.un, .un] :=
  Ret.twoOf rfl rfl rfl fun w => Any.strings_Index_one Tryz.lays143 s c w
theorem R123 (s : ByteArray) (c : UInt8) : Ret Tryz.prog 123 [.sc (.string s), .sc (.string ⟨#[c]⟩)] (.sc (.int .i64 (Lib.indexByte s.data.toList c))) [.un, .un] :=
  Ret.twoOf rfl rfl rfl fun w => Any.stringslite_Index_one Tryz.lays219 s c w
theorem R131 (s : ByteArray) (c : UInt8) : Ret Tryz.prog 131 [.sc (.string s), .sc (.string ⟨#[c]⟩)] (.sc (.int .i64 (Lib.countByte s.data.toList c))) [.un, .un] :=
  Ret.twoOf rfl rfl rfl fun w => Any.strings_Count_one Tryz.lays138 s c w
def cutF (s : ByteArray) (c : UInt8) : ByteArray × ByteArray × Bool :=
  if 0 ≤ Lib.indexByte s.data.toList c then (s.extract 0 (Lib.indexByte s.data.toList c).toNat, s.extract ((Lib.indexByte s.data.toList c).toNat + 1) s.size, true) else (s, ⟨#[]⟩, false)
def cutRes (x : ByteArray × ByteArray × Bool) : AV := .tup [.sc (.string x.1), .sc (.string x.2.1), .sc (.bool x.2.2)]
/- 118: internal/stringslite.Cut -/
def A118 : AC := (.seq (.ops [⟨(some 4), none, .q (.mov (.c (.sc (.string ⟨#[]⟩))))⟩, ⟨(some 5), none, .q (.mov (.c (.sc (.string ⟨#[]⟩))))⟩, ⟨(some 6), none, .q (.mov (.c (.sc (.bool false))))⟩])
  (.seq (.seq (.ops [⟨(some 8), none, .q (.mov (.t 0))⟩, ⟨(some 9), none, .q (.mov (.t 1))⟩, ⟨(some 10), none, .c (.c (.clo 123 [])) [(.t 8), (.t 9)]⟩, ⟨(some 7), none, .q (.mov (.t 10))⟩])
  (.seq (.ops [⟨(some 11), none, .q (.mov (.t 7))⟩, ⟨(some 12), none, .q (.bin .geq (.t 11) (.c (.sc (.int .i64 0))))⟩])
  (.cond (.t 12) (.seq (.any [(⟨(some 13), none, .q (.mov (.t 0))⟩, []), (⟨(some 14), none, .q (.mov (.t 7))⟩, []), (⟨(some 15), none, .q (.subs (.t 13) none (some (.t 14)))⟩, [0, 1]), (⟨(some 16), none, .q (.mov (.t 0))⟩, []), (⟨(some 17), none, .q (.mov (.t 7))⟩, []), (⟨(some 18), none, .q (.mov (.t 1))⟩, []), (⟨(some 19), none, .q (.slen (.t 18))⟩, [5]), (⟨(some 20), none, .q (.bin .add (.t 17) (.t 19))⟩, [4, 6]), (⟨(some 21), none, .q (.subs (.t 16) (some (.t 20)) none)⟩, [3, 7]), (⟨(some 4), none, .q (.mov (.t 15))⟩, [2, 0, 1, 2]), (⟨(some 5), none, .q (.mov (.t 21))⟩, [8, 9, 0, 1, 2, 3, 4, 5, 6, 7, 8, 9]), (⟨(some 6), none, .q (.mov (.c (.sc (.bool true))))⟩, [10, 0, 1, 2, 3, 4, 5, 6, 7, 8, 9, 10])])
  .ret)
  .skip)))
  (.seq (.ops [⟨(some 22), none, .q (.mov (.t 0))⟩, ⟨(some 4), none, .q (.mov (.t 22))⟩, ⟨(some 5), none, .q (.mov (.c (.sc (.string ⟨#[]⟩))))⟩, ⟨(some 6), none, .q (.mov (.c (.sc (.bool false))))⟩])
  .ret)))
theorem K118 : Tryz.f118.body.bind (comp Tryz.prog) = some A118 ∧ Tryz.f118.ntmps = 23 ∧ Tryz.f118.results.toList.mapM (resB Tryz.prog) = some [.mov (.t 4), .mov (.t 5), .mov (.t 6)] := ⟨by kernel_rfl, by kernel_rfl, by kernel_rfl⟩
theorem R118 (s : ByteArray) (c : UInt8) (hs : s.size ≤ 140737488351232) : Ret Tryz.prog 118 [.sc (.string s), .sc (.string ⟨#[c]⟩)] (cutRes (cutF s c)) [.un, .un] := by
  refine Ret.run Tryz.func118 K118 (by simp) rfl rfl 500 ?_
  simp [A118, iniρ]
  refine callK.ro 0 rfl (by kernel_rfl) (by simp [roc_sc]) (R123 s c) rfl rfl rfl ?_
  rcases ixB_cases c s.data.toList with ⟨e, hn⟩ | ⟨p, q, e, hn, e2⟩
  · simp [e, cutF, cutRes]
  · have hsz := str_len e.symm
    have hl : p.length + 1 ≤ s.size := by rw [hsz]; simp
    have h0 : (0 : Int) ≤ p.length := by omega
    have hw : IntKind.i64.wrap ((p.length : Int) + 1) = p.length + 1 := wrap_i64 (by omega) (by omega)
    have h1 : (0 : Int) ≤ (p.length : Int) + 1 := by omega
    have h2 : ((p.length : Int) + 1).toNat = p.length + 1 := by omega
    have h3 : p.length ≤ s.size := by omega
    have hc : (⟨#[c]⟩ : ByteArray).size = 1 := rfl
    simp [e2, h0]
    refine T.text 400 mixed (by kernel_rfl) (by kernel_rfl) ?_
    simp [e2, h0, h1, h2, h3, hw, hl, hc, cutF, cutRes]
/- 110: strings.Cut -/
def A110 : AC := (.seq (.ops [⟨(some 4), none, .q (.mov (.c (.sc (.string ⟨#[]⟩))))⟩, ⟨(some 5), none, .q (.mov (.c (.sc (.string ⟨#[]⟩))))⟩, ⟨(some 6), none, .q (.mov (.c (.sc (.bool false))))⟩])
  (.seq (.ops [⟨(some 7), none, .q (.mov (.t 0))⟩, ⟨(some 8), none, .q (.mov (.t 1))⟩, ⟨(some 9), none, .c (.c (.clo 118 [])) [(.t 7), (.t 8)]⟩, ⟨(some 10), none, .q (.ext (.t 9) 0)⟩, ⟨(some 11), none, .q (.ext (.t 9) 1)⟩, ⟨(some 12), none, .q (.ext (.t 9) 2)⟩, ⟨(some 4), none, .q (.mov (.t 10))⟩, ⟨(some 5), none, .q (.mov (.t 11))⟩, ⟨(some 6), none, .q (.mov (.t 12))⟩])
  .ret))
theorem K110 : Tryz.f110.body.bind (comp Tryz.prog) = some A110 ∧ Tryz.f110.ntmps = 13 ∧ Tryz.f110.results.toList.mapM (resB Tryz.prog) = some [.mov (.t 4), .mov (.t 5), .mov (.t 6)] := ⟨by kernel_rfl, by kernel_rfl, by kernel_rfl⟩
theorem R110 (s : ByteArray) (c : UInt8) (hs : s.size ≤ 140737488351232) : Ret Tryz.prog 110 [.sc (.string s), .sc (.string ⟨#[c]⟩)] (cutRes (cutF s c)) [.un, .un] := by
  refine Ret.run Tryz.func110 K110 (by simp) rfl rfl 500 ?_
  simp [A110, iniρ]
  refine callK.ro 0 rfl (by kernel_rfl) (by simp [roc_sc]) (R118 s c hs) rfl (by simp [cutRes, inst, instL, shut]; exact ⟨rfl, rfl⟩) rfl ?_
  simp [cutRes]
theorem drop_str {s : ByteArray} {f : Nat} : (s.extract f s.size).data.toList = s.data.toList.drop f := by
  rw [extract_toList, show s.size = s.data.toList.length by rw [Array.length_toList]; rfl, List.take_length]
theorem extr0 {s : ByteArray} {f m : Nat} (h : f + m ≤ s.size) : (s.extract f s.size).extract 0 m = s.extract f (f + m) := by
  rw [ByteArray.extract_extract, Nat.add_zero, Nat.min_eq_left h]
theorem extr1 {s : ByteArray} {f m n : Nat} (h : s.size ≤ f + n) : (s.extract f s.size).extract m n = s.extract (f + m) s.size := by
  rw [ByteArray.extract_extract, Nat.min_eq_right h]
theorem rows_repl (n : Nat) (x : ByteArray) : rows Ty.str.oc (List.replicate n x) = List.replicate n (.sc (.string x)) := by
  induction n with
  | zero => rfl
  | succ n ih => rw [List.replicate_succ, List.replicate_succ, rows_cons, ih]; rfl
theorem over_str (l : List ByteArray) (n : Nat) (x : ByteArray) : over (rows Ty.str.oc (l ++ List.replicate (n + 1) ⟨#[]⟩)) l.length [.sc (.string x)] = rows Ty.str.oc ((l ++ [x]) ++ List.replicate n ⟨#[]⟩) := by
  rw [rows_append, rows_append, rows_append, rows_repl, rows_repl, List.replicate_succ]
  have e : (rows Ty.str.oc l).length = l.length := by rw [rows_length Ty.str.ocn]; exact Nat.mul_one _
  show (rows Ty.str.oc l ++ AV.sc (.string ⟨#[]⟩) :: List.replicate n (AV.sc (.string ⟨#[]⟩))).set l.length (.sc (.string x)) = _
  rw [← e, List.set_append_right _ _ (Nat.le_refl _), Nat.sub_self]
  show _ = (rows Ty.str.oc l ++ [AV.sc (.string x)]) ++ _
  simp
/- 124: strings.genSplit -/
def A124 : AC := (.seq (.ops [⟨(some 8), none, .q (.mov (.c .em))⟩])
  (.seq (.seq (.ops [⟨(some 12), none, .q (.mov (.t 3))⟩, ⟨(some 13), none, .q (.bin .eql (.t 12) (.c (.sc (.int .i64 0))))⟩])
  (.cond (.t 13) (.seq (.ops [⟨(some 8), none, .q (.mov (.c .em))⟩])
  .ret)
  .skip))
  (.seq (.seq (.ops [⟨(some 14), none, .q (.mov (.t 1))⟩, ⟨(some 15), none, .q (.bin .eql (.t 14) (.c (.sc (.string ⟨#[]⟩))))⟩])
  (.cond (.t 15) (.seq (.ops [⟨(some 16), none, .q (.mov (.t 0))⟩, ⟨(some 17), none, .q (.mov (.t 3))⟩, ⟨(some 18), none, .c (.c (.clo 130 [])) [(.t 16), (.t 17)]⟩, ⟨(some 8), none, .q (.mov (.t 18))⟩])
  .ret)
  .skip))
  (.seq (.seq (.ops [⟨(some 19), none, .q (.mov (.t 3))⟩, ⟨(some 20), none, .q (.bin .lss (.t 19) (.c (.sc (.int .i64 0))))⟩])
  (.cond (.t 20) (.ops [⟨(some 21), none, .q (.mov (.t 0))⟩, ⟨(some 22), none, .q (.mov (.t 1))⟩, ⟨(some 23), none, .c (.c (.clo 131 [])) [(.t 21), (.t 22)]⟩, ⟨(some 24), none, .q (.bin .add (.t 23) (.c (.sc (.int .i64 1))))⟩, ⟨(some 3), none, .q (.mov (.t 24))⟩])
  .skip))
  (.seq (.ops [⟨(some 25), none, .q (.mov (.t 3))⟩, ⟨(some 26), none, .q (.mov (.t 0))⟩, ⟨(some 27), none, .q (.slen (.t 26))⟩, ⟨(some 28), none, .q (.bin .add (.t 27) (.c (.sc (.int .i64 1))))⟩, ⟨(some 29), none, .q (.mm true (.t 25) (.t 28))⟩, ⟨(some 3), none, .q (.mov (.t 29))⟩])
  (.seq (.ops [⟨(some 30), none, .q (.mov (.t 3))⟩, ⟨(some 31), none, .w (.mk 1 16 [(.sc (.string ⟨#[]⟩))] (.t 30) (.t 30))⟩, ⟨(some 9), none, .q (.mov (.t 31))⟩])
  (.seq (.ops [⟨(some 32), none, .q (.mov (.t 3))⟩, ⟨(some 33), none, .q (.bin .sub (.t 32) (.c (.sc (.int .i64 1))))⟩, ⟨(some 3), none, .q (.mov (.t 33))⟩])
  (.seq (.ops [⟨(some 10), none, .q (.mov (.c (.sc (.int .i64 0))))⟩])
  (.seq (.block 0 (.loop (.seq (.seq (.ops [⟨(some 34), none, .q (.mov (.t 10))⟩, ⟨(some 35), none, .q (.mov (.t 3))⟩, ⟨(some 36), none, .q (.bin .lss (.t 34) (.t 35))⟩])
  (.cond (.t 36) .skip
  (.exit 0)))
  (.block 1 (.seq (.ops [⟨(some 37), none, .q (.mov (.t 0))⟩, ⟨(some 38), none, .q (.mov (.t 1))⟩, ⟨(some 39), none, .c (.c (.clo 132 [])) [(.t 37), (.t 38)]⟩, ⟨(some 11), none, .q (.mov (.t 39))⟩])
  (.seq (.seq (.ops [⟨(some 40), none, .q (.mov (.t 11))⟩, ⟨(some 41), none, .q (.bin .lss (.t 40) (.c (.sc (.int .i64 0))))⟩])
  (.cond (.t 41) (.exit 0)
  .skip))
  (.seq (.ops [⟨(some 42), none, .q (.mov (.t 9))⟩, ⟨(some 43), none, .q (.mov (.t 10))⟩, ⟨(some 44), none, .q (.mov (.t 0))⟩, ⟨(some 45), none, .q (.mov (.t 11))⟩, ⟨(some 46), none, .q (.mov (.t 2))⟩, ⟨(some 47), none, .q (.bin .add (.t 45) (.t 46))⟩, ⟨(some 48), none, .q (.subs (.t 44) none (some (.t 47)))⟩, ⟨(some 49), none, .q (.iadr 1 (.t 42) (.t 43))⟩, ⟨none, none, .w (.store 1 (.t 49) (.t 48))⟩])
  (.seq (.ops [⟨(some 50), none, .q (.mov (.t 0))⟩, ⟨(some 51), none, .q (.mov (.t 11))⟩, ⟨(some 52), none, .q (.mov (.t 1))⟩, ⟨(some 53), none, .q (.slen (.t 52))⟩, ⟨(some 54), none, .q (.bin .add (.t 51) (.t 53))⟩, ⟨(some 55), none, .q (.subs (.t 50) (some (.t 54)) none)⟩, ⟨(some 0), none, .q (.mov (.t 55))⟩])
  (.ops [⟨(some 56), none, .q (.mov (.t 10))⟩, ⟨(some 57), none, .q (.bin .add (.t 56) (.c (.sc (.int .i64 1))))⟩, ⟨(some 10), none, .q (.mov (.t 57))⟩])))))))))
  (.seq (.ops [⟨(some 58), none, .q (.mov (.t 9))⟩, ⟨(some 59), none, .q (.mov (.t 10))⟩, ⟨(some 60), none, .q (.mov (.t 0))⟩, ⟨(some 61), none, .q (.iadr 1 (.t 58) (.t 59))⟩, ⟨none, none, .w (.store 1 (.t 61) (.t 60))⟩])
  (.seq (.ops [⟨(some 62), none, .q (.mov (.t 9))⟩, ⟨(some 63), none, .q (.mov (.t 10))⟩, ⟨(some 64), none, .q (.bin .add (.t 63) (.c (.sc (.int .i64 1))))⟩, ⟨(some 65), none, .q (.subl 1 (.t 62) none (some (.t 64)))⟩, ⟨(some 8), none, .q (.mov (.t 65))⟩])
  .ret)))))))))))
theorem K124 : Tryz.f124.body.bind (comp Tryz.prog) = some A124 ∧ Tryz.f124.ntmps = 66 ∧ Tryz.f124.results.toList.mapM (resB Tryz.prog) = some [.mov (.t 8)] := ⟨by kernel_rfl, by kernel_rfl, by kernel_rfl⟩
set_option maxHeartbeats 1000000 in
theorem R124 (s : ByteArray) (c : UInt8) (hs : s.size ≤ 1048576) : Ret Tryz.prog 124 [.sc (.string s), .sc (.string ⟨#[c]⟩), .sc (.int .i64 0), .sc (.int .i64 (-1))] (.own (rows Ty.str.oc (splitS s c.toNat)) (splitS s c.toNat).length 1) [.un, .un, .un, .un] := by
  obtain ⟨N, hN⟩ : ∃ N, N = s.data.toList.count c := ⟨_, rfl⟩
  have hlen : (splitS s c.toNat).length = N + 1 := by rw [hN]; exact splitP_cnt s c s.data.toList 0 0
  have hNs : N ≤ s.size := by rw [hN, show s.size = s.data.toList.length by rw [Array.length_toList]; rfl]; exact List.count_le_length
  have hC := R131 s c
  rw [show Lib.countByte s.data.toList c = N from hN.symm] at hC
  have hcc : (⟨#[c]⟩ : ByteArray).size = 1 := rfl
  have hne : ¬ ((⟨#[c]⟩ : ByteArray).toList = []) := by rw [Lib.toList_data]; simp
  have w1 : IntKind.i64.wrap ((N : Int) + 1) = N + 1 := wrap_i64 (by omega) (by omega)
  have w2 : IntKind.i64.wrap ((s.size : Int) + 1) = s.size + 1 := wrap_i64 (by omega) (by omega)
  have w3 : IntKind.i64.wrap ((N : Int) + 1 - 1) = N := by rw [show (N : Int) + 1 - 1 = N by omega]; exact wrap_i64 (by omega) (by omega)
  have hmin : min ((N : Int) + 1) (s.size + 1) = N + 1 := by omega
  refine Ret.run Tryz.func124 K124 (by simp) rfl rfl 900 ?_
  simp [A124, iniρ, hne]
  refine callK.ro 0 rfl (by kernel_rfl) (by simp [roc_sc]) hC rfl rfl rfl ?_
  have n1 : ¬ (s.size < N) := by omega
  have n2 : (0 : Int) ≤ (N : Int) + 1 := by omega
  have n3 : ((N : Int) + 1) * 16 ≤ 281474976710656 := by omega
  have n4 : (N : Int) + 1 ≤ 9223372036854775807 := by omega
  have n5 : ((N : Int) + 1).toNat = N + 1 := by omega
  have w0 : IntKind.i64.wrap (N : Int) = N := wrap_i64 (by omega) (by omega)
  simp [w1, w2, w3, n1, n2, n3, n4, n5]
  refine T.rounds (μ := fun i : List ByteArray × Nat × List UInt8 => i.2.2.length)
    (fun i t => i.2.1 ≤ s.size ∧ i.2.2 = s.data.toList.drop i.2.1 ∧ i.1 ++ splitP s c.toNat i.2.1 i.2.1 i.2.2 = splitS s c.toNat ∧ t.ρ 0 = .sc (.string (s.extract i.2.1 s.size)) ∧ t.ρ 1 = .sc (.string ⟨#[c]⟩) ∧ t.ρ 2 = .sc (.int .i64 0) ∧ t.ρ 3 = .sc (.int .i64 N) ∧ t.ρ 9 = .sl 31 0 (N + 1) 1 false ∧ t.ρ 10 = .sc (.int .i64 i.1.length) ∧
      t.h 31 = some (some (rows Ty.str.oc (i.1 ++ List.replicate (N + 1 - i.1.length) ⟨#[]⟩))) ∧ t.n = 66) ([], 0, s.data.toList) (by simp [upd_app, splitS, rows_repl, w0]) ?_
  rintro ⟨done, f, l⟩ ⟨ρ, hh, n⟩ ⟨hf, hl, hE, k0, k1, k2, k3, k9, k10, k31, rfl⟩
  simp only at hf hl hE k0 k1 k2 k3 k9 k10 k31
  have hn2 := congrArg List.length hE
  rw [List.length_append, splitP_cnt, hlen] at hn2
  refine run_ok (n := 400) ?_
  have lt1 : (done.length : Int) ≤ N := by omega
  have hI := R132 (s.extract f s.size) c
  rw [drop_str, ← hl] at hI
  have fsz : (s.extract f s.size).size = s.size - f := by rw [ByteArray.size_extract]; omega
  have hlsz : l.length = s.size - f := by rw [hl, List.length_drop]; rfl
  by_cases hlt : done.length < N
  case neg =>
    obtain rfl : done.length = N := by omega
    have hcn : c ∉ l := fun hm => by have := List.count_pos_iff.2 hm; omega
    rw [splitP_miss s c f l f hcn] at hE
    have e2 : f + l.length = s.size := by omega
    rw [e2] at hE
    have hov := over_str done 0 (s.extract f s.size)
    rw [List.replicate_zero, List.append_nil, hE] at hov
    rw [show done.length + 1 - done.length = 0 + 1 by omega] at k31
    have hrl : (rows Ty.str.oc (done ++ List.replicate (0 + 1) (⟨#[]⟩ : ByteArray))).length = done.length + 1 := by rw [rows_length Ty.str.ocn]; simp; exact Nat.mul_one _
    have hrs : (rows Ty.str.oc (splitS s c.toNat)).length = done.length + 1 := by rw [rows_length Ty.str.ocn, hlen]; exact Nat.mul_one _
    have hid : idfree.idfreeL (rows Ty.str.oc (splitS s c.toNat)) = true := Ty.str.frL _
    obtain ⟨R, hR⟩ : ∃ R, R = rows Ty.str.oc (done ++ List.replicate (0 + 1) (⟨#[]⟩ : ByteArray)) := ⟨_, rfl⟩
    rw [← hR] at k31 hov hrl
    have lt3 : (done.length : Int) < done.length + 1 := by omega
    have w5 : IntKind.i64.wrap ((done.length : Int) + 1) = done.length + 1 := w1
    simp [k3, k10]
    refine T.on 400 ?_
    simp [k0, k9, k10, k31, lt3, hrl, hov, w5, n2, n5, ex1, hrs, hid, hlen]
  rcases ixB_cases c l with ⟨e, hn⟩ | ⟨p, q, e, hn, e2⟩
  · have : l.count c = 0 := List.count_eq_zero.2 hn
    omega
  have hsz2 : p.length + (q.length + 1) = s.size - f := by rw [← hlsz, e]; simp
  have lt2 : (done.length : Int) < N := by omega
  have hov := over_str done (N - done.length) (s.extract f (f + p.length))
  rw [show N - done.length + 1 = N + 1 - done.length by omega, show N - done.length = N + 1 - (done.length + 1) by omega] at hov
  have hrl : (rows Ty.str.oc (done ++ List.replicate (N + 1 - done.length) (⟨#[]⟩ : ByteArray))).length = N + 1 := by rw [rows_length Ty.str.ocn]; simp; show _ * 1 = _; omega
  obtain ⟨R, hR⟩ : ∃ R, R = rows Ty.str.oc (done ++ List.replicate (N + 1 - done.length) (⟨#[]⟩ : ByteArray)) := ⟨_, rfl⟩
  rw [← hR] at k31 hov hrl
  have x0 := extr0 (s := s) (f := f) (m := p.length) (by omega)
  have x1 := extr1 (s := s) (f := f) (m := p.length + 1) (n := s.size - f) (by omega)
  have wp : IntKind.i64.wrap (p.length : Int) = p.length := wrap_i64 (by omega) (by omega)
  have wp1 : IntKind.i64.wrap ((p.length : Int) + 1) = p.length + 1 := wrap_i64 (by omega) (by omega)
  have wd1 : IntKind.i64.wrap ((done.length : Int) + 1) = done.length + 1 := wrap_i64 (by omega) (by omega)
  have q0 : ¬ ((p.length : Int) < 0) := by omega
  have q1 : (0 : Int) ≤ (p.length : Int) + 1 := by omega
  have q2 : ((p.length : Int) + 1).toNat = p.length + 1 := by omega
  have q3 : p.length ≤ s.size - f := by omega
  have q4 : p.length + 1 ≤ s.size - f := by omega
  have q5 : (done.length : Int) < N + 1 := by omega
  have q6 : done.length + 1 ≤ N + 1 := by omega
  rw [e2] at hI
  simp [k0, k1, k3, k10, lt2]
  refine callK.ro 0 rfl (by kernel_rfl) (by simp [roc_sc]) hI rfl rfl rfl ?_
  simp [k0, k1, k2, k9, k10, k31, lt2, q0, q1, q2, q3, q4, q5, q6, wp, wp1, wd1, fsz, hcc, hrl, hov, x0, x1]
  have hq : q = s.data.toList.drop (f + p.length + 1) := by
    have h := congrArg (List.drop (p.length + 1)) (hl.symm.trans e)
    rw [List.drop_drop, show p.length + 1 = (p ++ [c]).length by simp, show p ++ c :: q = (p ++ [c]) ++ q by simp, List.drop_left] at h
    rw [← h]; simp; congr 1
  refine ⟨done ++ [s.extract f (f + p.length)], f + p.length + 1, q, by rw [e]; simp; omega, _, Le.refl _, by omega, hq, ?_, ?_⟩
  · rw [e, splitP_hit s c f q p f hn] at hE
    rw [← hE]; simp
  · simp [upd_app, k0, k1, k2, k3, k9, show f + (p.length + 1) = f + p.length + 1 by omega]
/- 120: strings.Split -/
def A120 : AC := (.seq (.ops [⟨(some 4), none, .q (.mov (.c .em))⟩])
  (.seq (.ops [⟨(some 5), none, .q (.mov (.t 0))⟩, ⟨(some 6), none, .q (.mov (.t 1))⟩, ⟨(some 7), none, .c (.c (.clo 124 [])) [(.t 5), (.t 6), (.c (.sc (.int .i64 0))), (.c (.sc (.int .i64 (-1))))]⟩, ⟨(some 4), none, .q (.mov (.t 7))⟩])
  .ret))
theorem K120 : Tryz.f120.body.bind (comp Tryz.prog) = some A120 ∧ Tryz.f120.ntmps = 8 ∧ Tryz.f120.results.toList.mapM (resB Tryz.prog) = some [.mov (.t 4)] := ⟨by kernel_rfl, by kernel_rfl, by kernel_rfl⟩
theorem R120 (s : ByteArray) (c : UInt8) (hs : s.size ≤ 1048576) : Ret Tryz.prog 120 [.sc (.string s), .sc (.string ⟨#[c]⟩)] (.own (rows Ty.str.oc (splitS s c.toNat)) (splitS s c.toNat).length 1) [.un, .un] := by
  have hl : (rows Ty.str.oc (splitS s c.toNat)).length = (splitS s c.toNat).length := by rw [rows_length Ty.str.ocn]; exact Nat.mul_one _
  have hid : idfree.idfreeL (rows Ty.str.oc (splitS s c.toNat)) = true := Ty.str.frL _
  refine Ret.run Tryz.func120 K120 (by simp) rfl rfl 500 ?_
  simp [A120, iniρ]
  refine callK.own 7 rfl (by kernel_rfl) (by simp [roc_sc]) (R124 s c hs) (Ty.str.flo _) (by simp) rfl ?_
  simp [ex1, hl, hid]
end Go.Proofs.YtaknfalbmblagaaGreatDoor.Am
namespace Go.Proofs.YtaknfalbmblagaaGreatDoor.Am
open Go Go.Proofs
set_option linter.unusedSimpArgs false
set_option linter.unusedVariables false
attribute [local congr] T_congr callK_congr callWK_congr
attribute [local simp] run_nil run_op0 run_opg run_seq run_cond run_block run_ret run_skip run_skip_after run_skip_blk run_exit run_exit_after run_exit_blk run_loop run_any runS_nil runS_op0 runS_opg runW_nil runW_op0 runW_opg exec_q exec_w exec_c exec_n execW_q execW_w execW_c restW_app hideH_app merge_app wblk rest_app restS_app execS_q execS_c aval dOk upd_app ev_t ev_c setO_some setO_none put_mk pinsOf isIo hasIo sbin endR fin resL one outL out1 clo1 cloL coe coeL shut shut.shutL wantA weff cellsOf fillA deref natOf ρ0_app h0_app plain plain.plainL keep_app keepH_app andThen_normal andThen_ret andThen_exit pop_nil pop_after pop_after_ret pop_after_exit pop_blk pop_blk_ret pop_blk_exit nilA srcOf srcCells keepR_app keepHR_app renA rb
/- 96: loop.example/g00464/laws.szByteS -/
def A96 : AC := (.seq (.ops [⟨(some 4), none, .q (.mov (.c (.sc (.int .i64 0))))⟩])
  (.seq (.ops [⟨(some 5), none, .q (.mov (.t 1))⟩, ⟨(some 6), none, .q (.mov (.t 0))⟩, ⟨(some 7), none, .q (.llen (.t 6))⟩, ⟨(some 8), none, .q (.bin .sub (.t 5) (.t 7))⟩, ⟨(some 1), none, .q (.mov (.t 8))⟩])
  (.seq (.seq (.ops [⟨(some 9), none, .q (.mov (.t 1))⟩, ⟨(some 10), none, .q (.bin .lss (.t 9) (.c (.sc (.int .i64 0))))⟩])
  (.cond (.t 10) (.seq (.ops [⟨(some 4), none, .q (.mov (.c (.sc (.int .i64 (-1)))))⟩])
  .ret)
  .skip))
  (.seq (.ops [⟨(some 11), none, .q (.mov (.t 1))⟩, ⟨(some 4), none, .q (.mov (.t 11))⟩])
  .ret))))
theorem K96 : Tryz.f96.body.bind (comp Tryz.prog) = some A96 ∧ Tryz.f96.ntmps = 12 ∧ Tryz.f96.results.toList.mapM (resB Tryz.prog) = some [.mov (.t 4)] := ⟨by kernel_rfl, by kernel_rfl, by kernel_rfl⟩
theorem R96 (xs : List Int) (hx : Ty.byte.slice.ok xs) : Sz Tryz.prog 96 (.ro (rows Ty.byte.cs xs) xs.length) (Ty.byte.slice.wt xs) := by
  intro l h0 h1
  have hb := Ty.byte.lenb (by decide) hx
  have hw : IntKind.i64.wrap (l - xs.length) = l - xs.length := wrap_i64 (by omega) (by omega)
  have hz : wtL Ty.byte.wt xs = 0 := wtL_zero (fun _ => rfl) xs
  by_cases hn : l - (xs.length : Int) < 0
  · refine ⟨-1, .inl (by decide), ?_⟩
    refine Ret.run Tryz.func96 K96 (by simp) rfl rfl 500 ?_
    simp [A96, iniρ, hw, hn]; try omega
  · refine ⟨l - xs.length, .inr ?_, ?_⟩
    · show _ = l - ((xs.length + wtL Ty.byte.wt xs : Nat) : Int); rw [hz]; omega
    refine Ret.run Tryz.func96 K96 (by simp) rfl rfl 500 ?_
    simp [A96, iniρ, hw, hn]; try omega
/- 30: loop.example/g00464/laws.toByteS -/
def A30 : AC := (.seq (.ops [⟨(some 2), none, .q (.mov (.c .em))⟩])
  (.seq (.ops [⟨(some 5), none, .q (.mov (.t 0))⟩, ⟨(some 6), none, .q (.llen (.t 5))⟩, ⟨(some 7), none, .w (.mk 1 1 [(.sc (.int .u8 0))] (.t 6) (.t 6))⟩, ⟨(some 3), none, .q (.mov (.t 7))⟩])
  (.seq (.seq (.ops [⟨(some 4), none, .q (.mov (.c (.sc (.int .i64 0))))⟩])
  (.block 0 (.loop (.seq (.seq (.ops [⟨(some 8), none, .q (.mov (.t 4))⟩, ⟨(some 9), none, .q (.mov (.t 0))⟩, ⟨(some 10), none, .q (.llen (.t 9))⟩, ⟨(some 11), none, .q (.bin .lss (.t 8) (.t 10))⟩])
  (.cond (.t 11) .skip
  (.exit 0)))
  (.seq (.block 1 (.ops [⟨(some 14), none, .q (.mov (.t 3))⟩, ⟨(some 15), none, .q (.mov (.t 4))⟩, ⟨(some 16), none, .q (.mov (.t 0))⟩, ⟨(some 17), none, .q (.mov (.t 4))⟩, ⟨(some 18), none, .q (.iadr 1 (.t 16) (.t 17))⟩, ⟨(some 19), none, .q (.load false 1 (.t 18))⟩, ⟨(some 20), none, .q (.iadr 1 (.t 14) (.t 15))⟩, ⟨none, none, .w (.store 1 (.t 20) (.t 19))⟩]))
  (.ops [⟨(some 12), none, .q (.mov (.t 4))⟩, ⟨(some 13), none, .q (.bin .add (.t 12) (.c (.sc (.int .i64 1))))⟩, ⟨(some 4), none, .q (.mov (.t 13))⟩]))))))
  (.seq (.ops [⟨(some 21), none, .q (.mov (.t 3))⟩, ⟨(some 2), none, .q (.mov (.t 21))⟩])
  .ret))))
theorem K30 : Tryz.f30.body.bind (comp Tryz.prog) = some A30 ∧ Tryz.f30.ntmps = 22 ∧ Tryz.f30.results.toList.mapM (resB Tryz.prog) = some [.mov (.t 2)] := ⟨by kernel_rfl, by kernel_rfl, by kernel_rfl⟩
theorem R30 (xs : List Int) (hx : Ty.byte.slice.ok xs) : Ret Tryz.prog 30 [.ro (rows Ty.byte.cs xs) xs.length] (.own (rows Ty.byte.oc xs) xs.length 1) [.un] := by
  have hb : xs.length * 1 ≤ 140737488351232 := hx.1
  show Ret Tryz.prog 30 [.ro (rows B xs) xs.length] (.own (rows B xs) xs.length 1) [.un]
  refine Ret.run Tryz.func30 K30 (by simp) rfl rfl 500 ?_
  have h1 : (xs.length : Int) ≤ 281474976710656 := by omega
  have h2 : (xs.length : Int) ≤ 9223372036854775807 := by omega
  simp [A30, iniρ, h1, h2]
  refine T.rounds (μ := fun i : List Int × List Int => i.2.length)
    (fun i s => i.1 ++ i.2 = xs ∧ s.ρ 0 = .ro (rows B xs) xs.length ∧ s.ρ 3 = .sl 7 0 xs.length 1 false ∧ s.ρ 4 = .sc (.int .i64 i.1.length) ∧ s.h 7 = some (some (rows B i.1 ++ rows Bz i.2)) ∧ s.n = 22) ([], xs) (by simp [upd_app, rows_nil, B.rep]) ?_
  rintro ⟨pre, rest⟩ ⟨ρ, hh, n⟩ ⟨hx, h0', h3', h4', h7', rfl⟩
  simp only at hx h0' h3' h4' h7'
  refine run_ok (n := 400) ?_
  cases rest with
  | nil =>
    simp at hx
    subst hx
    simp [h0', h3', h4']
    refine T.on 400 ?_
    simp [h3', h7', ex1, rows_nil, B.count, idfreeL_rows B.fr]
  | cons x rest =>
    have hlt : (pre.length : Int) < xs.length := by rw [← hx]; simp only [List.length_append, List.length_cons]; omega
    have hd := rows_drop B.len pre (x :: rest)
    rw [hx, rows_cons, Nat.mul_one] at hd
    have hw : IntKind.i64.wrap ((pre.length : Int) + 1) = pre.length + 1 := wrap_i64 (by omega) (by omega)
    have hov : over _ _ [AV.sc (.int .u8 x)] = _ := rows_over B.len Bz.len pre rest x
    rw [Nat.mul_one] at hov
    have hle : pre.length + 1 ≤ (rows B pre).length + (rows Bz (x :: rest)).length := by rw [rows_length B.len, rows_length Bz.len, List.length_cons]; omega
    simp [h0', h3', h4', h7', hlt, hd, B, hw, hle, hov]
    refine ⟨pre ++ [x], rest, by simp, _, Le.refl _, ?_⟩
    simp [hx, h0', h3', upd_app]
/- 33: loop.example/g00464/laws.eqByteS -/
def A33 : AC := (.seq (.ops [⟨(some 4), none, .q (.mov (.c (.sc (.bool false))))⟩])
  (.seq (.seq (.ops [⟨(some 6), none, .q (.mov (.t 0))⟩, ⟨(some 7), none, .q (.llen (.t 6))⟩, ⟨(some 8), none, .q (.mov (.t 1))⟩, ⟨(some 9), none, .q (.llen (.t 8))⟩, ⟨(some 10), none, .q (.bin .neq (.t 7) (.t 9))⟩])
  (.cond (.t 10) (.seq (.ops [⟨(some 4), none, .q (.mov (.c (.sc (.bool false))))⟩])
  .ret)
  .skip))
  (.seq (.seq (.ops [⟨(some 5), none, .q (.mov (.c (.sc (.int .i64 0))))⟩])
  (.block 0 (.loop (.seq (.seq (.ops [⟨(some 11), none, .q (.mov (.t 5))⟩, ⟨(some 12), none, .q (.mov (.t 0))⟩, ⟨(some 13), none, .q (.llen (.t 12))⟩, ⟨(some 14), none, .q (.bin .lss (.t 11) (.t 13))⟩])
  (.cond (.t 14) .skip
  (.exit 0)))
  (.seq (.block 1 (.seq (.any [(⟨(some 17), none, .q (.mov (.t 0))⟩, []), (⟨(some 18), none, .q (.mov (.t 5))⟩, []), (⟨(some 19), none, .q (.iadr 1 (.t 17) (.t 18))⟩, [0, 1]), (⟨(some 20), none, .q (.load false 1 (.t 19))⟩, [2]), (⟨(some 21), none, .q (.mov (.t 1))⟩, []), (⟨(some 22), none, .q (.mov (.t 5))⟩, []), (⟨(some 23), none, .q (.iadr 1 (.t 21) (.t 22))⟩, [4, 5]), (⟨(some 24), none, .q (.load false 1 (.t 23))⟩, [6]), (⟨(some 25), none, .q (.bin .neq (.t 20) (.t 24))⟩, [3, 7])])
  (.cond (.t 25) (.seq (.ops [⟨(some 4), none, .q (.mov (.c (.sc (.bool false))))⟩])
  .ret)
  .skip)))
  (.ops [⟨(some 15), none, .q (.mov (.t 5))⟩, ⟨(some 16), none, .q (.bin .add (.t 15) (.c (.sc (.int .i64 1))))⟩, ⟨(some 5), none, .q (.mov (.t 16))⟩]))))))
  (.seq (.ops [⟨(some 4), none, .q (.mov (.c (.sc (.bool true))))⟩])
  .ret))))
theorem K33 : Tryz.f33.body.bind (comp Tryz.prog) = some A33 ∧ Tryz.f33.ntmps = 26 ∧ Tryz.f33.results.toList.mapM (resB Tryz.prog) = some [.mov (.t 4)] := ⟨by kernel_rfl, by kernel_rfl, by kernel_rfl⟩
theorem R33 (xs : List Int) (hx : Ty.byte.slice.ok xs) : Ret Tryz.prog 33 [.ro (rows Ty.byte.cs xs) xs.length, .ro (rows Ty.byte.cs xs) xs.length] (.sc (.bool true)) [.un, .un] := by
  have hb := Ty.byte.lenb (by decide) hx
  show Ret Tryz.prog 33 [.ro (rows B xs) xs.length, .ro (rows B xs) xs.length] (.sc (.bool true)) [.un, .un]
  refine Ret.run Tryz.func33 K33 (by simp) rfl rfl 500 ?_
  simp [A33, iniρ]
  refine T.rounds (μ := fun i : List Int × List Int => i.2.length)
    (fun i s => i.1 ++ i.2 = xs ∧ s.ρ 0 = .ro (rows B xs) xs.length ∧ s.ρ 1 = .ro (rows B xs) xs.length ∧ s.ρ 5 = .sc (.int .i64 i.1.length) ∧ s.h = h0 ∧ s.n = 26) ([], xs) (by simp [upd_app]) ?_
  rintro ⟨pre, rest⟩ ⟨ρ, hh, n⟩ ⟨hx, h0', h1', h5', rfl, rfl⟩
  simp only at hx h0' h1' h5'
  refine run_ok (n := 400) ?_
  cases rest with
  | nil =>
    simp at hx
    subst hx
    simp [h0', h5']
    refine T.on 400 ?_
    simp
  | cons x rest =>
    have hlt : (pre.length : Int) < xs.length := by rw [← hx]; simp only [List.length_append, List.length_cons]; omega
    have hd := rows_drop B.len pre (x :: rest)
    rw [hx, rows_cons, Nat.mul_one] at hd
    have hw : IntKind.i64.wrap ((pre.length : Int) + 1) = pre.length + 1 := wrap_i64 (by omega) (by omega)
    simp [h0', h1', h5', hlt]
    refine T.text 400 mixed (by kernel_rfl) (by kernel_rfl) ?_
    simp [h0', h1', h5', hlt, hd, B, hw]
    refine ⟨pre ++ [x], rest, by simp, _, Le.refl _, ?_⟩
    simp [hx, h0', h1', upd_app]
end Go.Proofs.YtaknfalbmblagaaGreatDoor.Am
namespace Go.Proofs.YtaknfalbmblagaaGreatDoor.Am
open Go Go.Proofs
set_option linter.unusedSimpArgs false
set_option linter.unusedVariables false
attribute [local congr] T_congr callK_congr callWK_congr
attribute [local simp] run_nil run_op0 run_opg run_seq run_cond run_block run_ret run_skip run_skip_after run_skip_blk run_exit run_exit_after run_exit_blk run_loop run_any runS_nil runS_op0 runS_opg runW_nil runW_op0 runW_opg exec_q exec_w exec_c exec_n execW_q execW_w execW_c restW_app hideH_app merge_app wblk rest_app restS_app execS_q execS_c aval dOk upd_app ev_t ev_c setO_some setO_none put_mk pinsOf isIo hasIo sbin endR fin resL one outL out1 clo1 cloL coe coeL shut shut.shutL wantA weff cellsOf fillA deref natOf ρ0_app h0_app plain plain.plainL keep_app keepH_app andThen_normal andThen_ret andThen_exit pop_nil pop_after pop_after_ret pop_after_exit pop_blk pop_blk_ret pop_blk_exit nilA srcOf srcCells keepR_app keepHR_app renA rb
structure File where
  path : ByteArray
  text : ByteArray
def File.ty : Ty File := Ty.struct (Ty.str.cons (Ty.str.cons Ty.nil)) (fun x => (x.path, x.text, ())) (fun p => ⟨p.1, p.2.1⟩) (fun _ => rfl) 32
theorem File.cse (x : File) : File.ty.cs x = [.sc (.string x.path), .sc (.string x.text)] := rfl
theorem File.oce (x : File) : File.ty.oc x = [.sc (.string x.path), .sc (.string x.text)] := rfl
theorem File.wte (x : File) : File.ty.wt x = x.path.size + (x.text.size + 0) := rfl
theorem File.ocl (xs : List File) : (rows File.ty.oc xs).length = xs.length * 2 := rows_length File.ty.ocn xs
theorem File.frL (xs : List File) : idfree.idfreeL (rows File.ty.oc xs) = true := File.ty.frL xs
theorem File.roc8 {h : Hp} {b : Nat} {xs : List File} {lim : Bool} (hb : h b = some (some (rows File.ty.oc xs))) : roc h 8 (.sl b 0 xs.length 2 lim) = some (.ro (rows File.ty.cs xs) xs.length) := File.ty.roc8 (by decide) hb
theorem File.roc7 {h : Hp} {b : Nat} {xs : List File} {lim : Bool} (hb : h b = some (some (rows File.ty.oc xs))) : roc h 7 (.sl b 0 xs.length 2 lim) = some (.ro (rows File.ty.cs xs) xs.length) := File.ty.roc7 (by decide) hb
structure Need where
  name : ByteArray
  range : ByteArray
def Need.ty : Ty Need := Ty.struct (Ty.str.cons (Ty.str.cons Ty.nil)) (fun x => (x.name, x.range, ())) (fun p => ⟨p.1, p.2.1⟩) (fun _ => rfl) 32
theorem Need.cse (x : Need) : Need.ty.cs x = [.sc (.string x.name), .sc (.string x.range)] := rfl
theorem Need.oce (x : Need) : Need.ty.oc x = [.sc (.string x.name), .sc (.string x.range)] := rfl
theorem Need.wte (x : Need) : Need.ty.wt x = x.name.size + (x.range.size + 0) := rfl
theorem Need.ocl (xs : List Need) : (rows Need.ty.oc xs).length = xs.length * 2 := rows_length Need.ty.ocn xs
theorem Need.frL (xs : List Need) : idfree.idfreeL (rows Need.ty.oc xs) = true := Need.ty.frL xs
theorem Need.roc8 {h : Hp} {b : Nat} {xs : List Need} {lim : Bool} (hb : h b = some (some (rows Need.ty.oc xs))) : roc h 8 (.sl b 0 xs.length 2 lim) = some (.ro (rows Need.ty.cs xs) xs.length) := Need.ty.roc8 (by decide) hb
theorem Need.roc7 {h : Hp} {b : Nat} {xs : List Need} {lim : Bool} (hb : h b = some (some (rows Need.ty.oc xs))) : roc h 7 (.sl b 0 xs.length 2 lim) = some (.ro (rows Need.ty.cs xs) xs.length) := Need.ty.roc7 (by decide) hb
structure Cmd where
  task : ByteArray
  acts : List ByteArray
def Cmd.ty : Ty Cmd := Ty.struct (Ty.str.cons (Ty.str.slice.cons Ty.nil)) (fun x => (x.task, x.acts, ())) (fun p => ⟨p.1, p.2.1⟩) (fun _ => rfl) 40
theorem Cmd.cse (x : Cmd) : Cmd.ty.cs x = [.sc (.string x.task), .ro (rows Ty.str.cs x.acts) x.acts.length] := rfl
theorem Cmd.oce (x : Cmd) : Cmd.ty.oc x = [.sc (.string x.task), .own (rows Ty.str.oc x.acts) x.acts.length 1] := rfl
theorem Cmd.wte (x : Cmd) : Cmd.ty.wt x = x.task.size + ((x.acts.length + wtL Ty.str.wt x.acts) + 0) := rfl
theorem Cmd.ocl (xs : List Cmd) : (rows Cmd.ty.oc xs).length = xs.length * 2 := rows_length Cmd.ty.ocn xs
theorem Cmd.frL (xs : List Cmd) : idfree.idfreeL (rows Cmd.ty.oc xs) = true := Cmd.ty.frL xs
theorem Cmd.roc8 {h : Hp} {b : Nat} {xs : List Cmd} {lim : Bool} (hb : h b = some (some (rows Cmd.ty.oc xs))) : roc h 8 (.sl b 0 xs.length 2 lim) = some (.ro (rows Cmd.ty.cs xs) xs.length) := Cmd.ty.roc8 (by decide) hb
theorem Cmd.roc7 {h : Hp} {b : Nat} {xs : List Cmd} {lim : Bool} (hb : h b = some (some (rows Cmd.ty.oc xs))) : roc h 7 (.sl b 0 xs.length 2 lim) = some (.ro (rows Cmd.ty.cs xs) xs.length) := Cmd.ty.roc7 (by decide) hb
structure Pack where
  name : ByteArray
  uses : List ByteArray
  needs : List Need
  cmds : List Cmd
def Pack.ty : Ty Pack := Ty.struct (Ty.str.cons (Ty.str.slice.cons (Need.ty.slice.cons (Cmd.ty.slice.cons Ty.nil)))) (fun x => (x.name, x.uses, x.needs, x.cmds, ())) (fun p => ⟨p.1, p.2.1, p.2.2.1, p.2.2.2.1⟩) (fun _ => rfl) 88
theorem Pack.cse (x : Pack) : Pack.ty.cs x = [.sc (.string x.name), .ro (rows Ty.str.cs x.uses) x.uses.length, .ro (rows Need.ty.cs x.needs) x.needs.length, .ro (rows Cmd.ty.cs x.cmds) x.cmds.length] := rfl
theorem Pack.oce (x : Pack) : Pack.ty.oc x = [.sc (.string x.name), .own (rows Ty.str.oc x.uses) x.uses.length 1, .own (rows Need.ty.oc x.needs) x.needs.length 2, .own (rows Cmd.ty.oc x.cmds) x.cmds.length 2] := rfl
theorem Pack.wte (x : Pack) : Pack.ty.wt x = x.name.size + ((x.uses.length + wtL Ty.str.wt x.uses) + ((x.needs.length + wtL Need.ty.wt x.needs) + ((x.cmds.length + wtL Cmd.ty.wt x.cmds) + 0))) := rfl
theorem Pack.ocl (xs : List Pack) : (rows Pack.ty.oc xs).length = xs.length * 4 := rows_length Pack.ty.ocn xs
theorem Pack.frL (xs : List Pack) : idfree.idfreeL (rows Pack.ty.oc xs) = true := Pack.ty.frL xs
theorem Pack.roc8 {h : Hp} {b : Nat} {xs : List Pack} {lim : Bool} (hb : h b = some (some (rows Pack.ty.oc xs))) : roc h 8 (.sl b 0 xs.length 4 lim) = some (.ro (rows Pack.ty.cs xs) xs.length) := Pack.ty.roc8 (by decide) hb
theorem Pack.roc7 {h : Hp} {b : Nat} {xs : List Pack} {lim : Bool} (hb : h b = some (some (rows Pack.ty.oc xs))) : roc h 7 (.sl b 0 xs.length 4 lim) = some (.ro (rows Pack.ty.cs xs) xs.length) := Pack.ty.roc7 (by decide) hb
structure Env where
  name : ByteArray
  val : ByteArray
def Env.ty : Ty Env := Ty.struct (Ty.str.cons (Ty.str.cons Ty.nil)) (fun x => (x.name, x.val, ())) (fun p => ⟨p.1, p.2.1⟩) (fun _ => rfl) 32
theorem Env.cse (x : Env) : Env.ty.cs x = [.sc (.string x.name), .sc (.string x.val)] := rfl
theorem Env.oce (x : Env) : Env.ty.oc x = [.sc (.string x.name), .sc (.string x.val)] := rfl
theorem Env.wte (x : Env) : Env.ty.wt x = x.name.size + (x.val.size + 0) := rfl
theorem Env.ocl (xs : List Env) : (rows Env.ty.oc xs).length = xs.length * 2 := rows_length Env.ty.ocn xs
theorem Env.frL (xs : List Env) : idfree.idfreeL (rows Env.ty.oc xs) = true := Env.ty.frL xs
theorem Env.roc8 {h : Hp} {b : Nat} {xs : List Env} {lim : Bool} (hb : h b = some (some (rows Env.ty.oc xs))) : roc h 8 (.sl b 0 xs.length 2 lim) = some (.ro (rows Env.ty.cs xs) xs.length) := Env.ty.roc8 (by decide) hb
theorem Env.roc7 {h : Hp} {b : Nat} {xs : List Env} {lim : Bool} (hb : h b = some (some (rows Env.ty.oc xs))) : roc h 7 (.sl b 0 xs.length 2 lim) = some (.ro (rows Env.ty.cs xs) xs.length) := Env.ty.roc7 (by decide) hb
structure Rule where
  task : ByteArray
  on : List ByteArray
  ins : List ByteArray
  envs : List ByteArray
  keep : Bool
def Rule.ty : Ty Rule := Ty.struct (Ty.str.cons (Ty.str.slice.cons (Ty.str.slice.cons (Ty.str.slice.cons (Ty.bool.cons Ty.nil))))) (fun x => (x.task, x.on, x.ins, x.envs, x.keep, ())) (fun p => ⟨p.1, p.2.1, p.2.2.1, p.2.2.2.1, p.2.2.2.2.1⟩) (fun _ => rfl) 96
theorem Rule.cse (x : Rule) : Rule.ty.cs x = [.sc (.string x.task), .ro (rows Ty.str.cs x.on) x.on.length, .ro (rows Ty.str.cs x.ins) x.ins.length, .ro (rows Ty.str.cs x.envs) x.envs.length, .sc (.bool x.keep)] := rfl
theorem Rule.oce (x : Rule) : Rule.ty.oc x = [.sc (.string x.task), .own (rows Ty.str.oc x.on) x.on.length 1, .own (rows Ty.str.oc x.ins) x.ins.length 1, .own (rows Ty.str.oc x.envs) x.envs.length 1, .sc (.bool x.keep)] := rfl
theorem Rule.wte (x : Rule) : Rule.ty.wt x = x.task.size + ((x.on.length + wtL Ty.str.wt x.on) + ((x.ins.length + wtL Ty.str.wt x.ins) + ((x.envs.length + wtL Ty.str.wt x.envs) + (0 + 0)))) := rfl
theorem Rule.ocl (xs : List Rule) : (rows Rule.ty.oc xs).length = xs.length * 5 := rows_length Rule.ty.ocn xs
theorem Rule.frL (xs : List Rule) : idfree.idfreeL (rows Rule.ty.oc xs) = true := Rule.ty.frL xs
theorem Rule.roc8 {h : Hp} {b : Nat} {xs : List Rule} {lim : Bool} (hb : h b = some (some (rows Rule.ty.oc xs))) : roc h 8 (.sl b 0 xs.length 5 lim) = some (.ro (rows Rule.ty.cs xs) xs.length) := Rule.ty.roc8 (by decide) hb
theorem Rule.roc7 {h : Hp} {b : Nat} {xs : List Rule} {lim : Bool} (hb : h b = some (some (rows Rule.ty.oc xs))) : roc h 7 (.sl b 0 xs.length 5 lim) = some (.ro (rows Rule.ty.cs xs) xs.length) := Rule.ty.roc7 (by decide) hb
structure World where
  packs : List Pack
  rules : List Rule
  files : List File
  envs : List Env
def World.ty : Ty World := Ty.struct (Pack.ty.slice.cons (Rule.ty.slice.cons (File.ty.slice.cons (Env.ty.slice.cons Ty.nil)))) (fun x => (x.packs, x.rules, x.files, x.envs, ())) (fun p => ⟨p.1, p.2.1, p.2.2.1, p.2.2.2.1⟩) (fun _ => rfl) 96
theorem World.cse (x : World) : World.ty.cs x = [.ro (rows Pack.ty.cs x.packs) x.packs.length, .ro (rows Rule.ty.cs x.rules) x.rules.length, .ro (rows File.ty.cs x.files) x.files.length, .ro (rows Env.ty.cs x.envs) x.envs.length] := rfl
theorem World.oce (x : World) : World.ty.oc x = [.own (rows Pack.ty.oc x.packs) x.packs.length 4, .own (rows Rule.ty.oc x.rules) x.rules.length 5, .own (rows File.ty.oc x.files) x.files.length 2, .own (rows Env.ty.oc x.envs) x.envs.length 2] := rfl
theorem World.wte (x : World) : World.ty.wt x = (x.packs.length + wtL Pack.ty.wt x.packs) + ((x.rules.length + wtL Rule.ty.wt x.rules) + ((x.files.length + wtL File.ty.wt x.files) + ((x.envs.length + wtL Env.ty.wt x.envs) + 0))) := rfl
theorem World.ocl (xs : List World) : (rows World.ty.oc xs).length = xs.length * 4 := rows_length World.ty.ocn xs
theorem World.frL (xs : List World) : idfree.idfreeL (rows World.ty.oc xs) = true := World.ty.frL xs
theorem World.roc8 {h : Hp} {b : Nat} {xs : List World} {lim : Bool} (hb : h b = some (some (rows World.ty.oc xs))) : roc h 8 (.sl b 0 xs.length 4 lim) = some (.ro (rows World.ty.cs xs) xs.length) := World.ty.roc8 (by decide) hb
theorem World.roc7 {h : Hp} {b : Nat} {xs : List World} {lim : Bool} (hb : h b = some (some (rows World.ty.oc xs))) : roc h 7 (.sl b 0 xs.length 4 lim) = some (.ro (rows World.ty.cs xs) xs.length) := World.ty.roc7 (by decide) hb
structure Plan where
  tasks : List ByteArray
  deps : List (List ByteArray)
def Plan.ty : Ty Plan := Ty.struct (Ty.str.slice.cons (Ty.str.slice.slice.cons Ty.nil)) (fun x => (x.tasks, x.deps, ())) (fun p => ⟨p.1, p.2.1⟩) (fun _ => rfl) 48
theorem Plan.cse (x : Plan) : Plan.ty.cs x = [.ro (rows Ty.str.cs x.tasks) x.tasks.length, .ro (rows Ty.str.slice.cs x.deps) x.deps.length] := rfl
theorem Plan.oce (x : Plan) : Plan.ty.oc x = [.own (rows Ty.str.oc x.tasks) x.tasks.length 1, .own (rows Ty.str.slice.oc x.deps) x.deps.length 1] := rfl
theorem Plan.wte (x : Plan) : Plan.ty.wt x = (x.tasks.length + wtL Ty.str.wt x.tasks) + ((x.deps.length + wtL Ty.str.slice.wt x.deps) + 0) := rfl
theorem Plan.ocl (xs : List Plan) : (rows Plan.ty.oc xs).length = xs.length * 2 := rows_length Plan.ty.ocn xs
theorem Plan.frL (xs : List Plan) : idfree.idfreeL (rows Plan.ty.oc xs) = true := Plan.ty.frL xs
theorem Plan.roc8 {h : Hp} {b : Nat} {xs : List Plan} {lim : Bool} (hb : h b = some (some (rows Plan.ty.oc xs))) : roc h 8 (.sl b 0 xs.length 2 lim) = some (.ro (rows Plan.ty.cs xs) xs.length) := Plan.ty.roc8 (by decide) hb
theorem Plan.roc7 {h : Hp} {b : Nat} {xs : List Plan} {lim : Bool} (hb : h b = some (some (rows Plan.ty.oc xs))) : roc h 7 (.sl b 0 xs.length 2 lim) = some (.ro (rows Plan.ty.cs xs) xs.length) := Plan.ty.roc7 (by decide) hb
structure Made where
  task : ByteArray
  outs : List File
  log : ByteArray
def Made.ty : Ty Made := Ty.struct (Ty.str.cons (File.ty.slice.cons (Ty.str.cons Ty.nil))) (fun x => (x.task, x.outs, x.log, ())) (fun p => ⟨p.1, p.2.1, p.2.2.1⟩) (fun _ => rfl) 56
theorem Made.cse (x : Made) : Made.ty.cs x = [.sc (.string x.task), .ro (rows File.ty.cs x.outs) x.outs.length, .sc (.string x.log)] := rfl
theorem Made.oce (x : Made) : Made.ty.oc x = [.sc (.string x.task), .own (rows File.ty.oc x.outs) x.outs.length 2, .sc (.string x.log)] := rfl
theorem Made.wte (x : Made) : Made.ty.wt x = x.task.size + ((x.outs.length + wtL File.ty.wt x.outs) + (x.log.size + 0)) := rfl
theorem Made.ocl (xs : List Made) : (rows Made.ty.oc xs).length = xs.length * 3 := rows_length Made.ty.ocn xs
theorem Made.frL (xs : List Made) : idfree.idfreeL (rows Made.ty.oc xs) = true := Made.ty.frL xs
theorem Made.roc8 {h : Hp} {b : Nat} {xs : List Made} {lim : Bool} (hb : h b = some (some (rows Made.ty.oc xs))) : roc h 8 (.sl b 0 xs.length 3 lim) = some (.ro (rows Made.ty.cs xs) xs.length) := Made.ty.roc8 (by decide) hb
theorem Made.roc7 {h : Hp} {b : Nat} {xs : List Made} {lim : Bool} (hb : h b = some (some (rows Made.ty.oc xs))) : roc h 7 (.sl b 0 xs.length 3 lim) = some (.ro (rows Made.ty.cs xs) xs.length) := Made.ty.roc7 (by decide) hb
structure Mark where
  task : ByteArray
  how : Int
def Mark.ty : Ty Mark := Ty.struct (Ty.str.cons (Ty.int.cons Ty.nil)) (fun x => (x.task, x.how, ())) (fun p => ⟨p.1, p.2.1⟩) (fun _ => rfl) 24
theorem Mark.cse (x : Mark) : Mark.ty.cs x = [.sc (.string x.task), .sc (.int .i64 x.how)] := rfl
theorem Mark.oce (x : Mark) : Mark.ty.oc x = [.sc (.string x.task), .sc (.int .i64 x.how)] := rfl
theorem Mark.wte (x : Mark) : Mark.ty.wt x = x.task.size + (0 + 0) := rfl
theorem Mark.ocl (xs : List Mark) : (rows Mark.ty.oc xs).length = xs.length * 2 := rows_length Mark.ty.ocn xs
theorem Mark.frL (xs : List Mark) : idfree.idfreeL (rows Mark.ty.oc xs) = true := Mark.ty.frL xs
theorem Mark.roc8 {h : Hp} {b : Nat} {xs : List Mark} {lim : Bool} (hb : h b = some (some (rows Mark.ty.oc xs))) : roc h 8 (.sl b 0 xs.length 2 lim) = some (.ro (rows Mark.ty.cs xs) xs.length) := Mark.ty.roc8 (by decide) hb
theorem Mark.roc7 {h : Hp} {b : Nat} {xs : List Mark} {lim : Bool} (hb : h b = some (some (rows Mark.ty.oc xs))) : roc h 7 (.sl b 0 xs.length 2 lim) = some (.ro (rows Mark.ty.cs xs) xs.length) := Mark.ty.roc7 (by decide) hb
structure Slot where
  key : List Int
  b : List Int
def Slot.ty : Ty Slot := Ty.struct (Ty.byte.slice.cons (Ty.byte.slice.cons Ty.nil)) (fun x => (x.key, x.b, ())) (fun p => ⟨p.1, p.2.1⟩) (fun _ => rfl) 48
theorem Slot.cse (x : Slot) : Slot.ty.cs x = [.ro (rows Ty.byte.cs x.key) x.key.length, .ro (rows Ty.byte.cs x.b) x.b.length] := rfl
theorem Slot.oce (x : Slot) : Slot.ty.oc x = [.own (rows Ty.byte.oc x.key) x.key.length 1, .own (rows Ty.byte.oc x.b) x.b.length 1] := rfl
theorem Slot.wte (x : Slot) : Slot.ty.wt x = (x.key.length + wtL Ty.byte.wt x.key) + ((x.b.length + wtL Ty.byte.wt x.b) + 0) := rfl
theorem Slot.ocl (xs : List Slot) : (rows Slot.ty.oc xs).length = xs.length * 2 := rows_length Slot.ty.ocn xs
theorem Slot.frL (xs : List Slot) : idfree.idfreeL (rows Slot.ty.oc xs) = true := Slot.ty.frL xs
theorem Slot.roc8 {h : Hp} {b : Nat} {xs : List Slot} {lim : Bool} (hb : h b = some (some (rows Slot.ty.oc xs))) : roc h 8 (.sl b 0 xs.length 2 lim) = some (.ro (rows Slot.ty.cs xs) xs.length) := Slot.ty.roc8 (by decide) hb
theorem Slot.roc7 {h : Hp} {b : Nat} {xs : List Slot} {lim : Bool} (hb : h b = some (some (rows Slot.ty.oc xs))) : roc h 7 (.sl b 0 xs.length 2 lim) = some (.ro (rows Slot.ty.cs xs) xs.length) := Slot.ty.roc7 (by decide) hb
structure Run where
  w : World
  p : Plan
  slots : Int
  goOn : Bool
  made : List Made
  marks : List Mark
  going : List ByteArray
  cache : List Slot
def Run.ty : Ty Run := Ty.struct (World.ty.cons (Plan.ty.cons (Ty.int.cons (Ty.bool.cons (Made.ty.slice.cons (Mark.ty.slice.cons (Ty.str.slice.cons (Slot.ty.slice.cons Ty.nil)))))))) (fun x => (x.w, x.p, x.slots, x.goOn, x.made, x.marks, x.going, x.cache, ())) (fun p => ⟨p.1, p.2.1, p.2.2.1, p.2.2.2.1, p.2.2.2.2.1, p.2.2.2.2.2.1, p.2.2.2.2.2.2.1, p.2.2.2.2.2.2.2.1⟩) (fun _ => rfl) 256
theorem Run.cse (x : Run) : Run.ty.cs x = [.ro (rows Pack.ty.cs x.w.packs) x.w.packs.length, .ro (rows Rule.ty.cs x.w.rules) x.w.rules.length, .ro (rows File.ty.cs x.w.files) x.w.files.length, .ro (rows Env.ty.cs x.w.envs) x.w.envs.length, .ro (rows Ty.str.cs x.p.tasks) x.p.tasks.length, .ro (rows Ty.str.slice.cs x.p.deps) x.p.deps.length, .sc (.int .i64 x.slots), .sc (.bool x.goOn), .ro (rows Made.ty.cs x.made) x.made.length, .ro (rows Mark.ty.cs x.marks) x.marks.length, .ro (rows Ty.str.cs x.going) x.going.length, .ro (rows Slot.ty.cs x.cache) x.cache.length] := rfl
theorem Run.oce (x : Run) : Run.ty.oc x = [.own (rows Pack.ty.oc x.w.packs) x.w.packs.length 4, .own (rows Rule.ty.oc x.w.rules) x.w.rules.length 5, .own (rows File.ty.oc x.w.files) x.w.files.length 2, .own (rows Env.ty.oc x.w.envs) x.w.envs.length 2, .own (rows Ty.str.oc x.p.tasks) x.p.tasks.length 1, .own (rows Ty.str.slice.oc x.p.deps) x.p.deps.length 1, .sc (.int .i64 x.slots), .sc (.bool x.goOn), .own (rows Made.ty.oc x.made) x.made.length 3, .own (rows Mark.ty.oc x.marks) x.marks.length 2, .own (rows Ty.str.oc x.going) x.going.length 1, .own (rows Slot.ty.oc x.cache) x.cache.length 2] := rfl
theorem Run.wte (x : Run) : Run.ty.wt x = World.ty.wt x.w + (Plan.ty.wt x.p + (0 + (0 + ((x.made.length + wtL Made.ty.wt x.made) + ((x.marks.length + wtL Mark.ty.wt x.marks) + ((x.going.length + wtL Ty.str.wt x.going) + ((x.cache.length + wtL Slot.ty.wt x.cache) + 0))))))) := rfl
theorem Run.ocl (xs : List Run) : (rows Run.ty.oc xs).length = xs.length * 12 := rows_length Run.ty.ocn xs
theorem Run.frL (xs : List Run) : idfree.idfreeL (rows Run.ty.oc xs) = true := Run.ty.frL xs
theorem Run.roc8 {h : Hp} {b : Nat} {xs : List Run} {lim : Bool} (hb : h b = some (some (rows Run.ty.oc xs))) : roc h 8 (.sl b 0 xs.length 12 lim) = some (.ro (rows Run.ty.cs xs) xs.length) := Run.ty.roc8 (by decide) hb
theorem Run.roc7 {h : Hp} {b : Nat} {xs : List Run} {lim : Bool} (hb : h b = some (some (rows Run.ty.oc xs))) : roc h 7 (.sl b 0 xs.length 12 lim) = some (.ro (rows Run.ty.cs xs) xs.length) := Run.ty.roc7 (by decide) hb
structure Job where
  name : ByteArray
  acts : List ByteArray
  ins : List File
  envs : List Env
  deps : List Made
def Job.ty : Ty Job := Ty.struct (Ty.str.cons (Ty.str.slice.cons (File.ty.slice.cons (Env.ty.slice.cons (Made.ty.slice.cons Ty.nil))))) (fun x => (x.name, x.acts, x.ins, x.envs, x.deps, ())) (fun p => ⟨p.1, p.2.1, p.2.2.1, p.2.2.2.1, p.2.2.2.2.1⟩) (fun _ => rfl) 112
theorem Job.cse (x : Job) : Job.ty.cs x = [.sc (.string x.name), .ro (rows Ty.str.cs x.acts) x.acts.length, .ro (rows File.ty.cs x.ins) x.ins.length, .ro (rows Env.ty.cs x.envs) x.envs.length, .ro (rows Made.ty.cs x.deps) x.deps.length] := rfl
theorem Job.oce (x : Job) : Job.ty.oc x = [.sc (.string x.name), .own (rows Ty.str.oc x.acts) x.acts.length 1, .own (rows File.ty.oc x.ins) x.ins.length 2, .own (rows Env.ty.oc x.envs) x.envs.length 2, .own (rows Made.ty.oc x.deps) x.deps.length 3] := rfl
theorem Job.wte (x : Job) : Job.ty.wt x = x.name.size + ((x.acts.length + wtL Ty.str.wt x.acts) + ((x.ins.length + wtL File.ty.wt x.ins) + ((x.envs.length + wtL Env.ty.wt x.envs) + ((x.deps.length + wtL Made.ty.wt x.deps) + 0)))) := rfl
theorem Job.ocl (xs : List Job) : (rows Job.ty.oc xs).length = xs.length * 5 := rows_length Job.ty.ocn xs
theorem Job.frL (xs : List Job) : idfree.idfreeL (rows Job.ty.oc xs) = true := Job.ty.frL xs
theorem Job.roc8 {h : Hp} {b : Nat} {xs : List Job} {lim : Bool} (hb : h b = some (some (rows Job.ty.oc xs))) : roc h 8 (.sl b 0 xs.length 5 lim) = some (.ro (rows Job.ty.cs xs) xs.length) := Job.ty.roc8 (by decide) hb
theorem Job.roc7 {h : Hp} {b : Nat} {xs : List Job} {lim : Bool} (hb : h b = some (some (rows Job.ty.oc xs))) : roc h 7 (.sl b 0 xs.length 5 lim) = some (.ro (rows Job.ty.cs xs) xs.length) := Job.ty.roc7 (by decide) hb
structure Doc where
  name : ByteArray
  text : ByteArray
def Doc.ty : Ty Doc := Ty.struct (Ty.str.cons (Ty.str.cons Ty.nil)) (fun x => (x.name, x.text, ())) (fun p => ⟨p.1, p.2.1⟩) (fun _ => rfl) 32
theorem Doc.cse (x : Doc) : Doc.ty.cs x = [.sc (.string x.name), .sc (.string x.text)] := rfl
theorem Doc.oce (x : Doc) : Doc.ty.oc x = [.sc (.string x.name), .sc (.string x.text)] := rfl
theorem Doc.wte (x : Doc) : Doc.ty.wt x = x.name.size + (x.text.size + 0) := rfl
theorem Doc.ocl (xs : List Doc) : (rows Doc.ty.oc xs).length = xs.length * 2 := rows_length Doc.ty.ocn xs
theorem Doc.frL (xs : List Doc) : idfree.idfreeL (rows Doc.ty.oc xs) = true := Doc.ty.frL xs
theorem Doc.roc8 {h : Hp} {b : Nat} {xs : List Doc} {lim : Bool} (hb : h b = some (some (rows Doc.ty.oc xs))) : roc h 8 (.sl b 0 xs.length 2 lim) = some (.ro (rows Doc.ty.cs xs) xs.length) := Doc.ty.roc8 (by decide) hb
theorem Doc.roc7 {h : Hp} {b : Nat} {xs : List Doc} {lim : Bool} (hb : h b = some (some (rows Doc.ty.oc xs))) : roc h 7 (.sl b 0 xs.length 2 lim) = some (.ro (rows Doc.ty.cs xs) xs.length) := Doc.ty.roc7 (by decide) hb
structure Op where
  kind : Int
  a : ByteArray
  b : ByteArray
def Op.ty : Ty Op := Ty.struct (Ty.int.cons (Ty.str.cons (Ty.str.cons Ty.nil))) (fun x => (x.kind, x.a, x.b, ())) (fun p => ⟨p.1, p.2.1, p.2.2.1⟩) (fun _ => rfl) 40
theorem Op.cse (x : Op) : Op.ty.cs x = [.sc (.int .i64 x.kind), .sc (.string x.a), .sc (.string x.b)] := rfl
theorem Op.oce (x : Op) : Op.ty.oc x = [.sc (.int .i64 x.kind), .sc (.string x.a), .sc (.string x.b)] := rfl
theorem Op.wte (x : Op) : Op.ty.wt x = 0 + (x.a.size + (x.b.size + 0)) := rfl
theorem Op.ocl (xs : List Op) : (rows Op.ty.oc xs).length = xs.length * 3 := rows_length Op.ty.ocn xs
theorem Op.frL (xs : List Op) : idfree.idfreeL (rows Op.ty.oc xs) = true := Op.ty.frL xs
theorem Op.roc8 {h : Hp} {b : Nat} {xs : List Op} {lim : Bool} (hb : h b = some (some (rows Op.ty.oc xs))) : roc h 8 (.sl b 0 xs.length 3 lim) = some (.ro (rows Op.ty.cs xs) xs.length) := Op.ty.roc8 (by decide) hb
theorem Op.roc7 {h : Hp} {b : Nat} {xs : List Op} {lim : Bool} (hb : h b = some (some (rows Op.ty.oc xs))) : roc h 7 (.sl b 0 xs.length 3 lim) = some (.ro (rows Op.ty.cs xs) xs.length) := Op.ty.roc7 (by decide) hb
structure Disk where
  sure : List Doc
  pend : List Op
def Disk.ty : Ty Disk := Ty.struct (Doc.ty.slice.cons (Op.ty.slice.cons Ty.nil)) (fun x => (x.sure, x.pend, ())) (fun p => ⟨p.1, p.2.1⟩) (fun _ => rfl) 48
theorem Disk.cse (x : Disk) : Disk.ty.cs x = [.ro (rows Doc.ty.cs x.sure) x.sure.length, .ro (rows Op.ty.cs x.pend) x.pend.length] := rfl
theorem Disk.oce (x : Disk) : Disk.ty.oc x = [.own (rows Doc.ty.oc x.sure) x.sure.length 2, .own (rows Op.ty.oc x.pend) x.pend.length 3] := rfl
theorem Disk.wte (x : Disk) : Disk.ty.wt x = (x.sure.length + wtL Doc.ty.wt x.sure) + ((x.pend.length + wtL Op.ty.wt x.pend) + 0) := rfl
theorem Disk.ocl (xs : List Disk) : (rows Disk.ty.oc xs).length = xs.length * 2 := rows_length Disk.ty.ocn xs
theorem Disk.frL (xs : List Disk) : idfree.idfreeL (rows Disk.ty.oc xs) = true := Disk.ty.frL xs
theorem Disk.roc8 {h : Hp} {b : Nat} {xs : List Disk} {lim : Bool} (hb : h b = some (some (rows Disk.ty.oc xs))) : roc h 8 (.sl b 0 xs.length 2 lim) = some (.ro (rows Disk.ty.cs xs) xs.length) := Disk.ty.roc8 (by decide) hb
theorem Disk.roc7 {h : Hp} {b : Nat} {xs : List Disk} {lim : Bool} (hb : h b = some (some (rows Disk.ty.oc xs))) : roc h 7 (.sl b 0 xs.length 2 lim) = some (.ro (rows Disk.ty.cs xs) xs.length) := Disk.ty.roc7 (by decide) hb
structure Ver where
  a : Int
  b : Int
  c : Int
  pre : List ByteArray
def Ver.ty : Ty Ver := Ty.struct (Ty.int.cons (Ty.int.cons (Ty.int.cons (Ty.str.slice.cons Ty.nil)))) (fun x => (x.a, x.b, x.c, x.pre, ())) (fun p => ⟨p.1, p.2.1, p.2.2.1, p.2.2.2.1⟩) (fun _ => rfl) 48
theorem Ver.cse (x : Ver) : Ver.ty.cs x = [.sc (.int .i64 x.a), .sc (.int .i64 x.b), .sc (.int .i64 x.c), .ro (rows Ty.str.cs x.pre) x.pre.length] := rfl
theorem Ver.oce (x : Ver) : Ver.ty.oc x = [.sc (.int .i64 x.a), .sc (.int .i64 x.b), .sc (.int .i64 x.c), .own (rows Ty.str.oc x.pre) x.pre.length 1] := rfl
theorem Ver.wte (x : Ver) : Ver.ty.wt x = 0 + (0 + (0 + ((x.pre.length + wtL Ty.str.wt x.pre) + 0))) := rfl
theorem Ver.ocl (xs : List Ver) : (rows Ver.ty.oc xs).length = xs.length * 4 := rows_length Ver.ty.ocn xs
theorem Ver.frL (xs : List Ver) : idfree.idfreeL (rows Ver.ty.oc xs) = true := Ver.ty.frL xs
theorem Ver.roc8 {h : Hp} {b : Nat} {xs : List Ver} {lim : Bool} (hb : h b = some (some (rows Ver.ty.oc xs))) : roc h 8 (.sl b 0 xs.length 4 lim) = some (.ro (rows Ver.ty.cs xs) xs.length) := Ver.ty.roc8 (by decide) hb
theorem Ver.roc7 {h : Hp} {b : Nat} {xs : List Ver} {lim : Bool} (hb : h b = some (some (rows Ver.ty.oc xs))) : roc h 7 (.sl b 0 xs.length 4 lim) = some (.ro (rows Ver.ty.cs xs) xs.length) := Ver.ty.roc7 (by decide) hb
structure Cmp where
  op : Int
  v : Ver
def Cmp.ty : Ty Cmp := Ty.struct (Ty.int.cons (Ver.ty.cons Ty.nil)) (fun x => (x.op, x.v, ())) (fun p => ⟨p.1, p.2.1⟩) (fun _ => rfl) 56
theorem Cmp.cse (x : Cmp) : Cmp.ty.cs x = [.sc (.int .i64 x.op), .sc (.int .i64 x.v.a), .sc (.int .i64 x.v.b), .sc (.int .i64 x.v.c), .ro (rows Ty.str.cs x.v.pre) x.v.pre.length] := rfl
theorem Cmp.oce (x : Cmp) : Cmp.ty.oc x = [.sc (.int .i64 x.op), .sc (.int .i64 x.v.a), .sc (.int .i64 x.v.b), .sc (.int .i64 x.v.c), .own (rows Ty.str.oc x.v.pre) x.v.pre.length 1] := rfl
theorem Cmp.wte (x : Cmp) : Cmp.ty.wt x = 0 + (Ver.ty.wt x.v + 0) := rfl
theorem Cmp.ocl (xs : List Cmp) : (rows Cmp.ty.oc xs).length = xs.length * 5 := rows_length Cmp.ty.ocn xs
theorem Cmp.frL (xs : List Cmp) : idfree.idfreeL (rows Cmp.ty.oc xs) = true := Cmp.ty.frL xs
theorem Cmp.roc8 {h : Hp} {b : Nat} {xs : List Cmp} {lim : Bool} (hb : h b = some (some (rows Cmp.ty.oc xs))) : roc h 8 (.sl b 0 xs.length 5 lim) = some (.ro (rows Cmp.ty.cs xs) xs.length) := Cmp.ty.roc8 (by decide) hb
theorem Cmp.roc7 {h : Hp} {b : Nat} {xs : List Cmp} {lim : Bool} (hb : h b = some (some (rows Cmp.ty.oc xs))) : roc h 7 (.sl b 0 xs.length 5 lim) = some (.ro (rows Cmp.ty.cs xs) xs.length) := Cmp.ty.roc7 (by decide) hb
structure Entry where
  name : ByteArray
  v : Ver
  needs : List Need
def Entry.ty : Ty Entry := Ty.struct (Ty.str.cons (Ver.ty.cons (Need.ty.slice.cons Ty.nil))) (fun x => (x.name, x.v, x.needs, ())) (fun p => ⟨p.1, p.2.1, p.2.2.1⟩) (fun _ => rfl) 88
theorem Entry.cse (x : Entry) : Entry.ty.cs x = [.sc (.string x.name), .sc (.int .i64 x.v.a), .sc (.int .i64 x.v.b), .sc (.int .i64 x.v.c), .ro (rows Ty.str.cs x.v.pre) x.v.pre.length, .ro (rows Need.ty.cs x.needs) x.needs.length] := rfl
theorem Entry.oce (x : Entry) : Entry.ty.oc x = [.sc (.string x.name), .sc (.int .i64 x.v.a), .sc (.int .i64 x.v.b), .sc (.int .i64 x.v.c), .own (rows Ty.str.oc x.v.pre) x.v.pre.length 1, .own (rows Need.ty.oc x.needs) x.needs.length 2] := rfl
theorem Entry.wte (x : Entry) : Entry.ty.wt x = x.name.size + (Ver.ty.wt x.v + ((x.needs.length + wtL Need.ty.wt x.needs) + 0)) := rfl
theorem Entry.ocl (xs : List Entry) : (rows Entry.ty.oc xs).length = xs.length * 6 := rows_length Entry.ty.ocn xs
theorem Entry.frL (xs : List Entry) : idfree.idfreeL (rows Entry.ty.oc xs) = true := Entry.ty.frL xs
theorem Entry.roc8 {h : Hp} {b : Nat} {xs : List Entry} {lim : Bool} (hb : h b = some (some (rows Entry.ty.oc xs))) : roc h 8 (.sl b 0 xs.length 6 lim) = some (.ro (rows Entry.ty.cs xs) xs.length) := Entry.ty.roc8 (by decide) hb
theorem Entry.roc7 {h : Hp} {b : Nat} {xs : List Entry} {lim : Bool} (hb : h b = some (some (rows Entry.ty.oc xs))) : roc h 7 (.sl b 0 xs.length 6 lim) = some (.ro (rows Entry.ty.cs xs) xs.length) := Entry.ty.roc7 (by decide) hb
structure Pick where
  name : ByteArray
  v : Ver
def Pick.ty : Ty Pick := Ty.struct (Ty.str.cons (Ver.ty.cons Ty.nil)) (fun x => (x.name, x.v, ())) (fun p => ⟨p.1, p.2.1⟩) (fun _ => rfl) 64
theorem Pick.cse (x : Pick) : Pick.ty.cs x = [.sc (.string x.name), .sc (.int .i64 x.v.a), .sc (.int .i64 x.v.b), .sc (.int .i64 x.v.c), .ro (rows Ty.str.cs x.v.pre) x.v.pre.length] := rfl
theorem Pick.oce (x : Pick) : Pick.ty.oc x = [.sc (.string x.name), .sc (.int .i64 x.v.a), .sc (.int .i64 x.v.b), .sc (.int .i64 x.v.c), .own (rows Ty.str.oc x.v.pre) x.v.pre.length 1] := rfl
theorem Pick.wte (x : Pick) : Pick.ty.wt x = x.name.size + (Ver.ty.wt x.v + 0) := rfl
theorem Pick.ocl (xs : List Pick) : (rows Pick.ty.oc xs).length = xs.length * 5 := rows_length Pick.ty.ocn xs
theorem Pick.frL (xs : List Pick) : idfree.idfreeL (rows Pick.ty.oc xs) = true := Pick.ty.frL xs
theorem Pick.roc8 {h : Hp} {b : Nat} {xs : List Pick} {lim : Bool} (hb : h b = some (some (rows Pick.ty.oc xs))) : roc h 8 (.sl b 0 xs.length 5 lim) = some (.ro (rows Pick.ty.cs xs) xs.length) := Pick.ty.roc8 (by decide) hb
theorem Pick.roc7 {h : Hp} {b : Nat} {xs : List Pick} {lim : Bool} (hb : h b = some (some (rows Pick.ty.oc xs))) : roc h 7 (.sl b 0 xs.length 5 lim) = some (.ro (rows Pick.ty.cs xs) xs.length) := Pick.ty.roc7 (by decide) hb
theorem strDrop (pre rest : List ByteArray) (x : ByteArray) : List.drop pre.length (rows Ty.str.cs (pre ++ x :: rest)) = .sc (.string x) :: rows Ty.str.cs rest := by
  have h := rows_drop Ty.str.csn pre (x :: rest)
  have h : List.drop (pre.length * 1) (rows Ty.str.cs (pre ++ x :: rest)) = rows Ty.str.cs (x :: rest) := h
  rw [Nat.mul_one] at h
  rw [h, rows_cons]; rfl
end Go.Proofs.YtaknfalbmblagaaGreatDoor.Am
namespace Go.Proofs.YtaknfalbmblagaaGreatDoor.Am
open Go Go.Proofs
set_option linter.unusedSimpArgs false
set_option linter.unusedVariables false
attribute [local congr] T_congr callK_congr callWK_congr
attribute [local simp] run_nil run_op0 run_opg run_seq run_cond run_block run_ret run_skip run_skip_after run_skip_blk run_exit run_exit_after run_exit_blk run_loop run_any runS_nil runS_op0 runS_opg runW_nil runW_op0 runW_opg exec_q exec_w exec_c exec_n execW_q execW_w execW_c restW_app hideH_app merge_app wblk rest_app restS_app execS_q execS_c aval dOk upd_app ev_t ev_c setO_some setO_none put_mk pinsOf isIo hasIo sbin endR fin resL one outL out1 clo1 cloL coe coeL shut shut.shutL wantA weff cellsOf fillA deref natOf ρ0_app h0_app plain plain.plainL keep_app keepH_app andThen_normal andThen_ret andThen_exit pop_nil pop_after pop_after_ret pop_after_exit pop_blk pop_blk_ret pop_blk_exit nilA srcOf srcCells keepR_app keepHR_app renA rb
/- 97: loop.example/g00464/laws.szFile -/
def A97 : AC := (.seq (.ops [⟨(some 2), none, .w (.box (.t 0))⟩, ⟨(some 4), none, .q (.mov (.c (.sc (.int .i64 0))))⟩])
  (.seq (.ops [⟨(some 5), none, .q (.mov (.t 1))⟩, ⟨(some 6), none, .q (.fadr 0 (.t 2))⟩, ⟨(some 7), none, .q (.load false 1 (.t 6))⟩, ⟨(some 8), none, .q (.slen (.t 7))⟩, ⟨(some 9), none, .q (.bin .sub (.t 5) (.t 8))⟩, ⟨(some 1), none, .q (.mov (.t 9))⟩])
  (.seq (.seq (.ops [⟨(some 10), none, .q (.mov (.t 1))⟩, ⟨(some 11), none, .q (.bin .lss (.t 10) (.c (.sc (.int .i64 0))))⟩])
  (.cond (.t 11) (.seq (.ops [⟨(some 4), none, .q (.mov (.c (.sc (.int .i64 (-1)))))⟩])
  .ret)
  .skip))
  (.seq (.ops [⟨(some 12), none, .q (.mov (.t 1))⟩, ⟨(some 13), none, .q (.fadr 1 (.t 2))⟩, ⟨(some 14), none, .q (.load false 1 (.t 13))⟩, ⟨(some 15), none, .q (.slen (.t 14))⟩, ⟨(some 16), none, .q (.bin .sub (.t 12) (.t 15))⟩, ⟨(some 1), none, .q (.mov (.t 16))⟩])
  (.seq (.seq (.ops [⟨(some 17), none, .q (.mov (.t 1))⟩, ⟨(some 18), none, .q (.bin .lss (.t 17) (.c (.sc (.int .i64 0))))⟩])
  (.cond (.t 18) (.seq (.ops [⟨(some 4), none, .q (.mov (.c (.sc (.int .i64 (-1)))))⟩])
  .ret)
  .skip))
  (.seq (.ops [⟨(some 19), none, .q (.mov (.t 1))⟩, ⟨(some 4), none, .q (.mov (.t 19))⟩])
  .ret))))))
theorem K97 : Tryz.f97.body.bind (comp Tryz.prog) = some A97 ∧ Tryz.f97.ntmps = 20 ∧ Tryz.f97.results.toList.mapM (resB Tryz.prog) = some [.mov (.t 4)] := ⟨by kernel_rfl, by kernel_rfl, by kernel_rfl⟩
theorem R97 (x : File) (hx : File.ty.ok x) : Sz Tryz.prog 97 (.agg (File.ty.cs x)) (File.ty.wt x) := by
  intro l h0 h1
  obtain ⟨o0, o1, _⟩ := hx
  have o0 : x.path.size ≤ 140737488351232 := o0
  have w0 : IntKind.i64.wrap (l - x.path.size) = l - x.path.size := wrap_i64 (by omega) (by omega)
  by_cases n0 : l - (x.path.size : Int) < 0
  · refine ⟨-1, .inl (by decide), ?_⟩
    refine Ret.run Tryz.func97 K97 (by simp) rfl rfl 500 ?_
    simp [A97, iniρ, File.cse, w0, n0]
    try omega
  have p0 : 0 ≤ (l - (x.path.size : Int)) := by omega
  have o1 : x.text.size ≤ 140737488351232 := o1
  have w1 : IntKind.i64.wrap ((l - (x.path.size : Int)) - x.text.size) = (l - (x.path.size : Int)) - x.text.size := wrap_i64 (by omega) (by omega)
  by_cases n1 : (l - (x.path.size : Int)) - (x.text.size : Int) < 0
  · refine ⟨-1, .inl (by decide), ?_⟩
    refine Ret.run Tryz.func97 K97 (by simp) rfl rfl 500 ?_
    simp [A97, iniρ, File.cse, w0, n0, w1, n1]
    try omega
  have p1 : 0 ≤ ((l - (x.path.size : Int)) - (x.text.size : Int)) := by omega
  refine ⟨((l - (x.path.size : Int)) - (x.text.size : Int)), .inr ?_, ?_⟩
  · rw [File.wte]; omega
  refine Ret.run Tryz.func97 K97 (by simp) rfl rfl 500 ?_
  simp [A97, iniρ, File.cse, w0, n0, w1, n1]
theorem R66 (xs : List File) (hx : File.ty.slice.ok xs) : Sz Tryz.prog 66 (.ro (rows File.ty.cs xs) xs.length) (File.ty.slice.wt xs) := Sz.slice File.ty (agg := true) Tryz.func66 ⟨by kernel_rfl, by kernel_rfl, by kernel_rfl⟩ (by kernel_rfl) (by simp) xs (fun x h => R97 x (hx.2 x h)) (File.ty.lenb (by decide) hx)
/- 98: loop.example/g00464/laws.toFile -/
def A98 : AC := (.seq (.ops [⟨(some 1), none, .w (.box (.t 0))⟩, ⟨(some 2), none, .w (.alloc [(.sc (.string ⟨#[]⟩)), (.sc (.string ⟨#[]⟩))])⟩])
  (.seq (.ops [⟨(some 3), none, .w (.alloc [(.sc (.string ⟨#[]⟩)), (.sc (.string ⟨#[]⟩))])⟩])
  (.seq (.ops [⟨(some 4), none, .q (.fadr 0 (.t 1))⟩, ⟨(some 5), none, .q (.load false 1 (.t 4))⟩, ⟨(some 6), none, .q (.fadr 0 (.t 3))⟩, ⟨none, none, .w (.store 1 (.t 6) (.t 5))⟩])
  (.seq (.ops [⟨(some 7), none, .q (.fadr 1 (.t 1))⟩, ⟨(some 8), none, .q (.load false 1 (.t 7))⟩, ⟨(some 9), none, .q (.fadr 1 (.t 3))⟩, ⟨none, none, .w (.store 1 (.t 9) (.t 8))⟩])
  (.seq (.ops [⟨(some 10), none, .q (.load true 2 (.t 3))⟩, ⟨none, none, .w (.store 2 (.t 2) (.t 10))⟩])
  .ret)))))
theorem K98 : Tryz.f98.body.bind (comp Tryz.prog) = some A98 ∧ Tryz.f98.ntmps = 11 ∧ Tryz.f98.results.toList.mapM (resB Tryz.prog) = some [.load true 2 (.t 2)] := ⟨by kernel_rfl, by kernel_rfl, by kernel_rfl⟩
theorem R98 (x : File) (hx : File.ty.ok x) : Ret Tryz.prog 98 [.agg (File.ty.cs x)] (.agg (File.ty.oc x)) [.un] := by
  obtain ⟨o0, o1, _⟩ := hx
  refine Ret.run Tryz.func98 K98 (by simp) rfl rfl 500 ?_
  simp [A98, iniρ, File.cse, over, ex1, File.oce]
theorem R68 (xs : List File) (hx : File.ty.slice.ok xs) : Ret Tryz.prog 68 [.ro (rows File.ty.cs xs) xs.length] (.own (rows File.ty.oc xs) xs.length 2) [.un] := Ret.toS File.ty Tryz.func68 ⟨by kernel_rfl, by kernel_rfl, by kernel_rfl⟩ (by kernel_rfl) (fun x h => R98 x h) (by decide) (by decide) xs hx
/- 99: loop.example/g00464/laws.eqFile -/
def A99 : AC := (.seq (.ops [⟨(some 2), none, .w (.box (.t 0))⟩, ⟨(some 3), none, .w (.box (.t 1))⟩, ⟨(some 4), none, .q (.mov (.c (.sc (.bool false))))⟩])
  (.seq (.seq (.ops [⟨(some 5), none, .q (.fadr 0 (.t 2))⟩, ⟨(some 6), none, .q (.load false 1 (.t 5))⟩, ⟨(some 7), none, .q (.fadr 0 (.t 3))⟩, ⟨(some 8), none, .q (.load false 1 (.t 7))⟩, ⟨(some 9), none, .q (.bin .neq (.t 6) (.t 8))⟩])
  (.cond (.t 9) (.seq (.ops [⟨(some 4), none, .q (.mov (.c (.sc (.bool false))))⟩])
  .ret)
  .skip))
  (.seq (.seq (.ops [⟨(some 10), none, .q (.fadr 1 (.t 2))⟩, ⟨(some 11), none, .q (.load false 1 (.t 10))⟩, ⟨(some 12), none, .q (.fadr 1 (.t 3))⟩, ⟨(some 13), none, .q (.load false 1 (.t 12))⟩, ⟨(some 14), none, .q (.bin .neq (.t 11) (.t 13))⟩])
  (.cond (.t 14) (.seq (.ops [⟨(some 4), none, .q (.mov (.c (.sc (.bool false))))⟩])
  .ret)
  .skip))
  (.seq (.ops [⟨(some 4), none, .q (.mov (.c (.sc (.bool true))))⟩])
  .ret))))
theorem K99 : Tryz.f99.body.bind (comp Tryz.prog) = some A99 ∧ Tryz.f99.ntmps = 15 ∧ Tryz.f99.results.toList.mapM (resB Tryz.prog) = some [.mov (.t 4)] := ⟨by kernel_rfl, by kernel_rfl, by kernel_rfl⟩
theorem R99 (x : File) (hx : File.ty.ok x) : Ret Tryz.prog 99 [.agg (File.ty.cs x), .agg (File.ty.cs x)] (.sc (.bool true)) [.un, .un] := by
  obtain ⟨o0, o1, _⟩ := hx
  refine Ret.run Tryz.func99 K99 (by simp) rfl rfl 500 ?_
  simp [A99, iniρ, File.cse]
theorem R70 (xs : List File) (hx : File.ty.slice.ok xs) : Ret Tryz.prog 70 [.ro (rows File.ty.cs xs) xs.length, .ro (rows File.ty.cs xs) xs.length] (.sc (.bool true)) [.un, .un] := Ret.eqS mixed File.ty (agg := true) Tryz.func70 ⟨by kernel_rfl, by kernel_rfl, by kernel_rfl⟩ (by kernel_rfl) (by simp) xs (fun x h => R99 x (hx.2 x h)) (File.ty.lenb (by decide) hx)
/- 28: loop.example/g00464/laws.szMade -/
def A28 : AC := (.seq (.ops [⟨(some 2), none, .w (.box (.t 0))⟩, ⟨(some 4), none, .q (.mov (.c (.sc (.int .i64 0))))⟩])
  (.seq (.ops [⟨(some 5), none, .q (.mov (.t 1))⟩, ⟨(some 6), none, .q (.fadr 0 (.t 2))⟩, ⟨(some 7), none, .q (.load false 1 (.t 6))⟩, ⟨(some 8), none, .q (.slen (.t 7))⟩, ⟨(some 9), none, .q (.bin .sub (.t 5) (.t 8))⟩, ⟨(some 1), none, .q (.mov (.t 9))⟩])
  (.seq (.seq (.ops [⟨(some 10), none, .q (.mov (.t 1))⟩, ⟨(some 11), none, .q (.bin .lss (.t 10) (.c (.sc (.int .i64 0))))⟩])
  (.cond (.t 11) (.seq (.ops [⟨(some 4), none, .q (.mov (.c (.sc (.int .i64 (-1)))))⟩])
  .ret)
  .skip))
  (.seq (.ops [⟨(some 12), none, .q (.fadr 1 (.t 2))⟩, ⟨(some 13), none, .q (.load false 1 (.t 12))⟩, ⟨(some 14), none, .q (.mov (.t 1))⟩, ⟨(some 15), none, .c (.c (.clo 66 [])) [(.t 13), (.t 14)]⟩, ⟨(some 1), none, .q (.mov (.t 15))⟩])
  (.seq (.seq (.ops [⟨(some 16), none, .q (.mov (.t 1))⟩, ⟨(some 17), none, .q (.bin .lss (.t 16) (.c (.sc (.int .i64 0))))⟩])
  (.cond (.t 17) (.seq (.ops [⟨(some 4), none, .q (.mov (.c (.sc (.int .i64 (-1)))))⟩])
  .ret)
  .skip))
  (.seq (.ops [⟨(some 18), none, .q (.mov (.t 1))⟩, ⟨(some 19), none, .q (.fadr 2 (.t 2))⟩, ⟨(some 20), none, .q (.load false 1 (.t 19))⟩, ⟨(some 21), none, .q (.slen (.t 20))⟩, ⟨(some 22), none, .q (.bin .sub (.t 18) (.t 21))⟩, ⟨(some 1), none, .q (.mov (.t 22))⟩])
  (.seq (.seq (.ops [⟨(some 23), none, .q (.mov (.t 1))⟩, ⟨(some 24), none, .q (.bin .lss (.t 23) (.c (.sc (.int .i64 0))))⟩])
  (.cond (.t 24) (.seq (.ops [⟨(some 4), none, .q (.mov (.c (.sc (.int .i64 (-1)))))⟩])
  .ret)
  .skip))
  (.seq (.ops [⟨(some 25), none, .q (.mov (.t 1))⟩, ⟨(some 4), none, .q (.mov (.t 25))⟩])
  .ret))))))))
theorem K28 : Tryz.f28.body.bind (comp Tryz.prog) = some A28 ∧ Tryz.f28.ntmps = 26 ∧ Tryz.f28.results.toList.mapM (resB Tryz.prog) = some [.mov (.t 4)] := ⟨by kernel_rfl, by kernel_rfl, by kernel_rfl⟩
theorem R28 (x : Made) (hx : Made.ty.ok x) : Sz Tryz.prog 28 (.agg (Made.ty.cs x)) (Made.ty.wt x) := by
  intro l h0 h1
  obtain ⟨o0, o1, o2, _⟩ := hx
  have o0 : x.task.size ≤ 140737488351232 := o0
  have w0 : IntKind.i64.wrap (l - x.task.size) = l - x.task.size := wrap_i64 (by omega) (by omega)
  by_cases n0 : l - (x.task.size : Int) < 0
  · refine ⟨-1, .inl (by decide), ?_⟩
    refine Ret.run Tryz.func28 K28 (by simp) rfl rfl 500 ?_
    simp [A28, iniρ, Made.cse, w0, n0]
    try omega
  have p0 : 0 ≤ (l - (x.task.size : Int)) := by omega
  obtain ⟨m1, e1, q1⟩ := R66 x.outs o1 (l - (x.task.size : Int)) (by omega) (by omega)
  by_cases n1 : m1 < 0
  · refine ⟨-1, .inl (by decide), ?_⟩
    refine Ret.run Tryz.func28 K28 (by simp) rfl rfl 500 ?_
    simp [A28, iniρ, Made.cse, w0, n0, n1]
    refine callK.ro 0 rfl (by kernel_rfl) (by simp [roc_sc, roc_ro, roc_agg, Made.cse]) q1 rfl rfl rfl ?_
    simp [w0, n0, n1, Made.cse]
  have e1 : m1 = (l - (x.task.size : Int)) - ((x.outs.length + wtL File.ty.wt x.outs : Nat) : Int) := e1.resolve_left n1
  have o2 : x.log.size ≤ 140737488351232 := o2
  have w2 : IntKind.i64.wrap (m1 - x.log.size) = m1 - x.log.size := wrap_i64 (by omega) (by omega)
  by_cases n2 : m1 - (x.log.size : Int) < 0
  · refine ⟨-1, .inl (by decide), ?_⟩
    refine Ret.run Tryz.func28 K28 (by simp) rfl rfl 500 ?_
    simp [A28, iniρ, Made.cse, w0, n0, n1, w2, n2]
    refine callK.ro 0 rfl (by kernel_rfl) (by simp [roc_sc, roc_ro, roc_agg, Made.cse]) q1 rfl rfl rfl ?_
    simp [w0, n0, n1, w2, n2, Made.cse]
    try omega
  have p2 : 0 ≤ (m1 - (x.log.size : Int)) := by omega
  refine ⟨(m1 - (x.log.size : Int)), .inr ?_, ?_⟩
  · rw [Made.wte]; omega
  refine Ret.run Tryz.func28 K28 (by simp) rfl rfl 500 ?_
  simp [A28, iniρ, Made.cse, w0, n0, n1, w2, n2]
  refine callK.ro 0 rfl (by kernel_rfl) (by simp [roc_sc, roc_ro, roc_agg, Made.cse]) q1 rfl rfl rfl ?_
  simp [w0, n0, n1, w2, n2, Made.cse]
/- 31: loop.example/g00464/laws.toMade -/
def A31 : AC := (.seq (.ops [⟨(some 1), none, .w (.box (.t 0))⟩, ⟨(some 2), none, .w (.alloc [(.sc (.string ⟨#[]⟩)), .em, (.sc (.string ⟨#[]⟩))])⟩])
  (.seq (.ops [⟨(some 3), none, .w (.alloc [(.sc (.string ⟨#[]⟩)), .em, (.sc (.string ⟨#[]⟩))])⟩])
  (.seq (.ops [⟨(some 4), none, .q (.fadr 0 (.t 1))⟩, ⟨(some 5), none, .q (.load false 1 (.t 4))⟩, ⟨(some 6), none, .q (.fadr 0 (.t 3))⟩, ⟨none, none, .w (.store 1 (.t 6) (.t 5))⟩])
  (.seq (.ops [⟨(some 7), none, .q (.fadr 1 (.t 1))⟩, ⟨(some 8), none, .q (.load false 1 (.t 7))⟩, ⟨(some 9), none, .c (.c (.clo 68 [])) [(.t 8)]⟩, ⟨(some 10), none, .q (.fadr 1 (.t 3))⟩, ⟨none, none, .w (.store 1 (.t 10) (.t 9))⟩])
  (.seq (.ops [⟨(some 11), none, .q (.fadr 2 (.t 1))⟩, ⟨(some 12), none, .q (.load false 1 (.t 11))⟩, ⟨(some 13), none, .q (.fadr 2 (.t 3))⟩, ⟨none, none, .w (.store 1 (.t 13) (.t 12))⟩])
  (.seq (.ops [⟨(some 14), none, .q (.load true 3 (.t 3))⟩, ⟨none, none, .w (.store 3 (.t 2) (.t 14))⟩])
  .ret))))))
theorem K31 : Tryz.f31.body.bind (comp Tryz.prog) = some A31 ∧ Tryz.f31.ntmps = 15 ∧ Tryz.f31.results.toList.mapM (resB Tryz.prog) = some [.load true 3 (.t 2)] := ⟨by kernel_rfl, by kernel_rfl, by kernel_rfl⟩
theorem R31 (x : Made) (hx : Made.ty.ok x) : Ret Tryz.prog 31 [.agg (Made.ty.cs x)] (.agg (Made.ty.oc x)) [.un] := by
  obtain ⟨o0, o1, o2, _⟩ := hx
  refine Ret.run Tryz.func31 K31 (by simp) rfl rfl 500 ?_
  simp [A31, iniρ, Made.cse, over, ex1, Made.oce, File.ocl, File.frL]
  refine callK.own 501 rfl (by kernel_rfl) (by simp [roc_sc, roc_ro, roc_agg, Made.cse]) (R68 x.outs o1) (File.ty.flo x.outs) (by simp) rfl ?_
  simp [over, ex1, Made.oce, File.ocl, File.frL]
/- 34: loop.example/g00464/laws.eqMade -/
def A34 : AC := (.seq (.ops [⟨(some 2), none, .w (.box (.t 0))⟩, ⟨(some 3), none, .w (.box (.t 1))⟩, ⟨(some 4), none, .q (.mov (.c (.sc (.bool false))))⟩])
  (.seq (.seq (.ops [⟨(some 5), none, .q (.fadr 0 (.t 2))⟩, ⟨(some 6), none, .q (.load false 1 (.t 5))⟩, ⟨(some 7), none, .q (.fadr 0 (.t 3))⟩, ⟨(some 8), none, .q (.load false 1 (.t 7))⟩, ⟨(some 9), none, .q (.bin .neq (.t 6) (.t 8))⟩])
  (.cond (.t 9) (.seq (.ops [⟨(some 4), none, .q (.mov (.c (.sc (.bool false))))⟩])
  .ret)
  .skip))
  (.seq (.seq (.ops [⟨(some 10), none, .q (.fadr 1 (.t 2))⟩, ⟨(some 11), none, .q (.load false 1 (.t 10))⟩, ⟨(some 12), none, .q (.fadr 1 (.t 3))⟩, ⟨(some 13), none, .q (.load false 1 (.t 12))⟩, ⟨(some 14), none, .c (.c (.clo 70 [])) [(.t 11), (.t 13)]⟩, ⟨(some 15), none, .q (.not (.t 14))⟩])
  (.cond (.t 15) (.seq (.ops [⟨(some 4), none, .q (.mov (.c (.sc (.bool false))))⟩])
  .ret)
  .skip))
  (.seq (.seq (.ops [⟨(some 16), none, .q (.fadr 2 (.t 2))⟩, ⟨(some 17), none, .q (.load false 1 (.t 16))⟩, ⟨(some 18), none, .q (.fadr 2 (.t 3))⟩, ⟨(some 19), none, .q (.load false 1 (.t 18))⟩, ⟨(some 20), none, .q (.bin .neq (.t 17) (.t 19))⟩])
  (.cond (.t 20) (.seq (.ops [⟨(some 4), none, .q (.mov (.c (.sc (.bool false))))⟩])
  .ret)
  .skip))
  (.seq (.ops [⟨(some 4), none, .q (.mov (.c (.sc (.bool true))))⟩])
  .ret)))))
theorem K34 : Tryz.f34.body.bind (comp Tryz.prog) = some A34 ∧ Tryz.f34.ntmps = 21 ∧ Tryz.f34.results.toList.mapM (resB Tryz.prog) = some [.mov (.t 4)] := ⟨by kernel_rfl, by kernel_rfl, by kernel_rfl⟩
theorem R34 (x : Made) (hx : Made.ty.ok x) : Ret Tryz.prog 34 [.agg (Made.ty.cs x), .agg (Made.ty.cs x)] (.sc (.bool true)) [.un, .un] := by
  obtain ⟨o0, o1, o2, _⟩ := hx
  refine Ret.run Tryz.func34 K34 (by simp) rfl rfl 500 ?_
  simp [A34, iniρ, Made.cse]
  refine callK.ro 0 rfl (by kernel_rfl) (by simp [roc_sc, roc_ro, roc_agg, Made.cse]) (R70 x.outs o1) rfl rfl rfl ?_
  simp [Made.cse]
/- 65: loop.example/g00464/laws.szSlot -/
def A65 : AC := (.seq (.ops [⟨(some 2), none, .w (.box (.t 0))⟩, ⟨(some 4), none, .q (.mov (.c (.sc (.int .i64 0))))⟩])
  (.seq (.ops [⟨(some 5), none, .q (.fadr 0 (.t 2))⟩, ⟨(some 6), none, .q (.load false 1 (.t 5))⟩, ⟨(some 7), none, .q (.mov (.t 1))⟩, ⟨(some 8), none, .c (.c (.clo 96 [])) [(.t 6), (.t 7)]⟩, ⟨(some 1), none, .q (.mov (.t 8))⟩])
  (.seq (.seq (.ops [⟨(some 9), none, .q (.mov (.t 1))⟩, ⟨(some 10), none, .q (.bin .lss (.t 9) (.c (.sc (.int .i64 0))))⟩])
  (.cond (.t 10) (.seq (.ops [⟨(some 4), none, .q (.mov (.c (.sc (.int .i64 (-1)))))⟩])
  .ret)
  .skip))
  (.seq (.ops [⟨(some 11), none, .q (.fadr 1 (.t 2))⟩, ⟨(some 12), none, .q (.load false 1 (.t 11))⟩, ⟨(some 13), none, .q (.mov (.t 1))⟩, ⟨(some 14), none, .c (.c (.clo 96 [])) [(.t 12), (.t 13)]⟩, ⟨(some 1), none, .q (.mov (.t 14))⟩])
  (.seq (.seq (.ops [⟨(some 15), none, .q (.mov (.t 1))⟩, ⟨(some 16), none, .q (.bin .lss (.t 15) (.c (.sc (.int .i64 0))))⟩])
  (.cond (.t 16) (.seq (.ops [⟨(some 4), none, .q (.mov (.c (.sc (.int .i64 (-1)))))⟩])
  .ret)
  .skip))
  (.seq (.ops [⟨(some 17), none, .q (.mov (.t 1))⟩, ⟨(some 4), none, .q (.mov (.t 17))⟩])
  .ret))))))
theorem K65 : Tryz.f65.body.bind (comp Tryz.prog) = some A65 ∧ Tryz.f65.ntmps = 18 ∧ Tryz.f65.results.toList.mapM (resB Tryz.prog) = some [.mov (.t 4)] := ⟨by kernel_rfl, by kernel_rfl, by kernel_rfl⟩
theorem R65 (x : Slot) (hx : Slot.ty.ok x) : Sz Tryz.prog 65 (.agg (Slot.ty.cs x)) (Slot.ty.wt x) := by
  intro l h0 h1
  obtain ⟨o0, o1, _⟩ := hx
  obtain ⟨m0, e0, q0⟩ := R96 x.key o0 l (by omega) (by omega)
  by_cases n0 : m0 < 0
  · refine ⟨-1, .inl (by decide), ?_⟩
    refine Ret.run Tryz.func65 K65 (by simp) rfl rfl 500 ?_
    simp [A65, iniρ, Slot.cse, n0]
    refine callK.ro 0 rfl (by kernel_rfl) (by simp [roc_sc, roc_ro, roc_agg, Slot.cse]) q0 rfl rfl rfl ?_
    simp [n0, Slot.cse]
  have e0 : m0 = l - ((x.key.length + wtL Ty.byte.wt x.key : Nat) : Int) := e0.resolve_left n0
  obtain ⟨m1, e1, q1⟩ := R96 x.b o1 m0 (by omega) (by omega)
  by_cases n1 : m1 < 0
  · refine ⟨-1, .inl (by decide), ?_⟩
    refine Ret.run Tryz.func65 K65 (by simp) rfl rfl 500 ?_
    simp [A65, iniρ, Slot.cse, n0, n1]
    refine callK.ro 0 rfl (by kernel_rfl) (by simp [roc_sc, roc_ro, roc_agg, Slot.cse]) q0 rfl rfl rfl ?_
    simp [n0, n1, Slot.cse]
    refine callK.ro 0 rfl (by kernel_rfl) (by simp [roc_sc, roc_ro, roc_agg, Slot.cse]) q1 rfl rfl rfl ?_
    simp [n0, n1, Slot.cse]
  have e1 : m1 = m0 - ((x.b.length + wtL Ty.byte.wt x.b : Nat) : Int) := e1.resolve_left n1
  refine ⟨m1, .inr ?_, ?_⟩
  · rw [Slot.wte]; omega
  refine Ret.run Tryz.func65 K65 (by simp) rfl rfl 500 ?_
  simp [A65, iniρ, Slot.cse, n0, n1]
  refine callK.ro 0 rfl (by kernel_rfl) (by simp [roc_sc, roc_ro, roc_agg, Slot.cse]) q0 rfl rfl rfl ?_
  simp [n0, n1, Slot.cse]
  refine callK.ro 0 rfl (by kernel_rfl) (by simp [roc_sc, roc_ro, roc_agg, Slot.cse]) q1 rfl rfl rfl ?_
  simp [n0, n1, Slot.cse]
theorem R27 (xs : List Slot) (hx : Slot.ty.slice.ok xs) : Sz Tryz.prog 27 (.ro (rows Slot.ty.cs xs) xs.length) (Slot.ty.slice.wt xs) := Sz.slice Slot.ty (agg := true) Tryz.func27 ⟨by kernel_rfl, by kernel_rfl, by kernel_rfl⟩ (by kernel_rfl) (by simp) xs (fun x h => R65 x (hx.2 x h)) (Slot.ty.lenb (by decide) hx)
/- 67: loop.example/g00464/laws.toSlot -/
def A67 : AC := (.seq (.ops [⟨(some 1), none, .w (.box (.t 0))⟩, ⟨(some 2), none, .w (.alloc [.em, .em])⟩])
  (.seq (.ops [⟨(some 3), none, .w (.alloc [.em, .em])⟩])
  (.seq (.ops [⟨(some 4), none, .q (.fadr 0 (.t 1))⟩, ⟨(some 5), none, .q (.load false 1 (.t 4))⟩, ⟨(some 6), none, .c (.c (.clo 30 [])) [(.t 5)]⟩, ⟨(some 7), none, .q (.fadr 0 (.t 3))⟩, ⟨none, none, .w (.store 1 (.t 7) (.t 6))⟩])
  (.seq (.ops [⟨(some 8), none, .q (.fadr 1 (.t 1))⟩, ⟨(some 9), none, .q (.load false 1 (.t 8))⟩, ⟨(some 10), none, .c (.c (.clo 30 [])) [(.t 9)]⟩, ⟨(some 11), none, .q (.fadr 1 (.t 3))⟩, ⟨none, none, .w (.store 1 (.t 11) (.t 10))⟩])
  (.seq (.ops [⟨(some 12), none, .q (.load true 2 (.t 3))⟩, ⟨none, none, .w (.store 2 (.t 2) (.t 12))⟩])
  .ret)))))
theorem K67 : Tryz.f67.body.bind (comp Tryz.prog) = some A67 ∧ Tryz.f67.ntmps = 13 ∧ Tryz.f67.results.toList.mapM (resB Tryz.prog) = some [.load true 2 (.t 2)] := ⟨by kernel_rfl, by kernel_rfl, by kernel_rfl⟩
theorem R67 (x : Slot) (hx : Slot.ty.ok x) : Ret Tryz.prog 67 [.agg (Slot.ty.cs x)] (.agg (Slot.ty.oc x)) [.un] := by
  obtain ⟨o0, o1, _⟩ := hx
  refine Ret.run Tryz.func67 K67 (by simp) rfl rfl 500 ?_
  simp [A67, iniρ, Slot.cse, over, ex1, Slot.oce, byte_ocl, Ty.byte.frL]
  refine callK.own 500 rfl (by kernel_rfl) (by simp [roc_sc, roc_ro, roc_agg, Slot.cse]) (R30 x.key o0) (Ty.byte.flo x.key) (by simp) rfl ?_
  simp [over, ex1, Slot.oce, byte_ocl, Ty.byte.frL]
  refine callK.own 501 rfl (by kernel_rfl) (by simp [roc_sc, roc_ro, roc_agg, Slot.cse]) (R30 x.b o1) (Ty.byte.flo x.b) (by simp) rfl ?_
  simp [over, ex1, Slot.oce, byte_ocl, Ty.byte.frL]
theorem R29 (xs : List Slot) (hx : Slot.ty.slice.ok xs) : Ret Tryz.prog 29 [.ro (rows Slot.ty.cs xs) xs.length] (.own (rows Slot.ty.oc xs) xs.length 2) [.un] := Ret.toS Slot.ty Tryz.func29 ⟨by kernel_rfl, by kernel_rfl, by kernel_rfl⟩ (by kernel_rfl) (fun x h => R67 x h) (by decide) (by decide) xs hx
/- 69: loop.example/g00464/laws.eqSlot -/
def A69 : AC := (.seq (.ops [⟨(some 2), none, .w (.box (.t 0))⟩, ⟨(some 3), none, .w (.box (.t 1))⟩, ⟨(some 4), none, .q (.mov (.c (.sc (.bool false))))⟩])
  (.seq (.seq (.ops [⟨(some 5), none, .q (.fadr 0 (.t 2))⟩, ⟨(some 6), none, .q (.load false 1 (.t 5))⟩, ⟨(some 7), none, .q (.fadr 0 (.t 3))⟩, ⟨(some 8), none, .q (.load false 1 (.t 7))⟩, ⟨(some 9), none, .c (.c (.clo 33 [])) [(.t 6), (.t 8)]⟩, ⟨(some 10), none, .q (.not (.t 9))⟩])
  (.cond (.t 10) (.seq (.ops [⟨(some 4), none, .q (.mov (.c (.sc (.bool false))))⟩])
  .ret)
  .skip))
  (.seq (.seq (.ops [⟨(some 11), none, .q (.fadr 1 (.t 2))⟩, ⟨(some 12), none, .q (.load false 1 (.t 11))⟩, ⟨(some 13), none, .q (.fadr 1 (.t 3))⟩, ⟨(some 14), none, .q (.load false 1 (.t 13))⟩, ⟨(some 15), none, .c (.c (.clo 33 [])) [(.t 12), (.t 14)]⟩, ⟨(some 16), none, .q (.not (.t 15))⟩])
  (.cond (.t 16) (.seq (.ops [⟨(some 4), none, .q (.mov (.c (.sc (.bool false))))⟩])
  .ret)
  .skip))
  (.seq (.ops [⟨(some 4), none, .q (.mov (.c (.sc (.bool true))))⟩])
  .ret))))
theorem K69 : Tryz.f69.body.bind (comp Tryz.prog) = some A69 ∧ Tryz.f69.ntmps = 17 ∧ Tryz.f69.results.toList.mapM (resB Tryz.prog) = some [.mov (.t 4)] := ⟨by kernel_rfl, by kernel_rfl, by kernel_rfl⟩
theorem R69 (x : Slot) (hx : Slot.ty.ok x) : Ret Tryz.prog 69 [.agg (Slot.ty.cs x), .agg (Slot.ty.cs x)] (.sc (.bool true)) [.un, .un] := by
  obtain ⟨o0, o1, _⟩ := hx
  refine Ret.run Tryz.func69 K69 (by simp) rfl rfl 500 ?_
  simp [A69, iniρ, Slot.cse]
  refine callK.ro 0 rfl (by kernel_rfl) (by simp [roc_sc, roc_ro, roc_agg, Slot.cse]) (R33 x.key o0) rfl rfl rfl ?_
  simp [Slot.cse]
  refine callK.ro 0 rfl (by kernel_rfl) (by simp [roc_sc, roc_ro, roc_agg, Slot.cse]) (R33 x.b o1) rfl rfl rfl ?_
  simp [Slot.cse]
theorem R32 (xs : List Slot) (hx : Slot.ty.slice.ok xs) : Ret Tryz.prog 32 [.ro (rows Slot.ty.cs xs) xs.length, .ro (rows Slot.ty.cs xs) xs.length] (.sc (.bool true)) [.un, .un] := Ret.eqS mixed Slot.ty (agg := true) Tryz.func32 ⟨by kernel_rfl, by kernel_rfl, by kernel_rfl⟩ (by kernel_rfl) (by simp) xs (fun x h => R69 x (hx.2 x h)) (Slot.ty.lenb (by decide) hx)
end Go.Proofs.YtaknfalbmblagaaGreatDoor.Am
namespace Go.Proofs.YtaknfalbmblagaaGreatDoor.Am
open Go Go.Proofs
set_option linter.unusedSimpArgs false
set_option linter.unusedVariables false
attribute [local congr] T_congr callK_congr callWK_congr
attribute [local simp] run_nil run_op0 run_opg run_seq run_cond run_block run_ret run_skip run_skip_after run_skip_blk run_exit run_exit_after run_exit_blk run_loop run_any runS_nil runS_op0 runS_opg runW_nil runW_op0 runW_opg exec_q exec_w exec_c exec_n execW_q execW_w execW_c restW_app hideH_app merge_app wblk rest_app restS_app execS_q execS_c aval dOk upd_app ev_t ev_c setO_some setO_none put_mk pinsOf isIo hasIo sbin endR fin resL one outL out1 clo1 cloL coe coeL shut shut.shutL wantA weff cellsOf fillA deref natOf ρ0_app h0_app plain plain.plainL keep_app keepH_app andThen_normal andThen_ret andThen_exit pop_nil pop_after pop_after_ret pop_after_exit pop_blk pop_blk_ret pop_blk_exit nilA srcOf srcCells keepR_app keepHR_app renA rb
end Go.Proofs.YtaknfalbmblagaaGreatDoor.Am
namespace Go.Proofs.YtaknfalbmblagaaGreatDoor.Am
open Go Go.Proofs
set_option linter.unusedSimpArgs false
set_option linter.unusedVariables false
attribute [local congr] T_congr callK_congr callWK_congr
attribute [local simp] run_nil run_op0 run_opg run_seq run_cond run_block run_ret run_skip run_skip_after run_skip_blk run_exit run_exit_after run_exit_blk run_loop run_any runS_nil runS_op0 runS_opg runW_nil runW_op0 runW_opg exec_q exec_w exec_c exec_n execW_q execW_w execW_c restW_app hideH_app merge_app wblk rest_app restS_app execS_q execS_c aval dOk upd_app ev_t ev_c setO_some setO_none put_mk pinsOf isIo hasIo sbin endR fin resL one outL out1 clo1 cloL coe coeL shut shut.shutL wantA weff cellsOf fillA deref natOf ρ0_app h0_app plain plain.plainL keep_app keepH_app andThen_normal andThen_ret andThen_exit pop_nil pop_after pop_after_ret pop_after_exit pop_blk pop_blk_ret pop_blk_exit nilA srcOf srcCells keepR_app keepHR_app renA rb
/- 15: loop.example/g00464/laws.sameMade -/
end Go.Proofs.YtaknfalbmblagaaGreatDoor.Am
namespace Go.Proofs.YtaknfalbmblagaaGreatDoor.Am
open Go Go.Proofs
set_option linter.unusedSimpArgs false
set_option linter.unusedVariables false
attribute [local congr] T_congr callK_congr callWK_congr
attribute [local simp] run_nil run_op0 run_opg run_seq run_cond run_block run_ret run_skip run_skip_after run_skip_blk run_exit run_exit_after run_exit_blk run_loop run_any runS_nil runS_op0 runS_opg runW_nil runW_op0 runW_opg exec_q exec_w exec_c exec_n execW_q execW_w execW_c restW_app hideH_app merge_app wblk rest_app restS_app execS_q execS_c aval dOk upd_app ev_t ev_c setO_some setO_none put_mk pinsOf isIo hasIo sbin endR fin resL one outL out1 clo1 cloL coe coeL shut shut.shutL wantA weff cellsOf fillA deref natOf ρ0_app h0_app plain plain.plainL keep_app keepH_app andThen_normal andThen_ret andThen_exit pop_nil pop_after pop_after_ret pop_after_exit pop_blk pop_blk_ret pop_blk_exit nilA srcOf srcCells keepR_app keepHR_app renA rb
structure FlP where
  v : Bool
/- 121: loop.example/g00464/spec.l5Put -/
def above (p : Option ByteArray) (x : ByteArray) : Bool := match p with | none => true | some q => Op.bytesLess q.toList x.toList
def filesL : Option ByteArray → List File → Bool
  | _, [] => true
  | p, x :: l => pathOk x.path && (decide (x.text.size ≤ 60) && (above p x.path && filesL (some x.path) l))
def lastP : List File → Option ByteArray
  | [] => none
  | x :: l => match lastP l with | some p => some p | none => some x.path
theorem lastP_snoc : ∀ (l : List File) (x : File), lastP (l ++ [x]) = some x.path
  | [], x => rfl
  | y :: l, x => by simp only [List.cons_append, lastP, lastP_snoc l x]
def filesOk (xs : List File) : Bool := filesL none xs && decide (xs.length ≤ 30)
/- 87: loop.example/g00464/spec.FilesOk -/
def A87 : AC := (.seq (.ops [⟨(some 2), none, .q (.mov (.c (.sc (.bool false))))⟩])
  (.seq (.seq (.ops [⟨(some 3), none, .q (.mov (.c (.sc (.int .i64 0))))⟩])
  (.block 0 (.loop (.seq (.seq (.ops [⟨(some 4), none, .q (.mov (.t 3))⟩, ⟨(some 5), none, .q (.mov (.t 0))⟩, ⟨(some 6), none, .q (.llen (.t 5))⟩, ⟨(some 7), none, .q (.bin .lss (.t 4) (.t 6))⟩])
  (.cond (.t 7) .skip
  (.exit 0)))
  (.seq (.block 1 (.seq (.any [(⟨(some 10), none, .q (.mov (.t 0))⟩, []), (⟨(some 11), none, .q (.mov (.t 3))⟩, []), (⟨(some 12), none, .q (.iadr 2 (.t 10) (.t 11))⟩, [0, 1]), (⟨(some 13), none, .q (.fadr 0 (.t 12))⟩, [2]), (⟨(some 14), none, .q (.load false 1 (.t 13))⟩, [3]), (⟨(some 15), none, .c (.c (.clo 109 [])) [(.t 14)]⟩, [4]), (⟨(some 16), none, .q (.not (.t 15))⟩, [5]), (⟨(some 17), none, .q (.mov (.t 16))⟩, [6, 5]), (⟨(some 18), (some (17, false)), .q (.mov (.t 0))⟩, [7]), (⟨(some 19), (some (17, false)), .q (.mov (.t 3))⟩, [7]), (⟨(some 20), (some (17, false)), .q (.iadr 2 (.t 18) (.t 19))⟩, [8, 9, 7]), (⟨(some 21), (some (17, false)), .q (.fadr 1 (.t 20))⟩, [10, 7]), (⟨(some 22), (some (17, false)), .q (.load false 1 (.t 21))⟩, [11, 7]), (⟨(some 23), (some (17, false)), .q (.slen (.t 22))⟩, [12, 7]), (⟨(some 24), (some (17, false)), .q (.bin .gtr (.t 23) (.c (.sc (.int .i64 60))))⟩, [13, 7]), (⟨(some 25), none, .q (.pick (.t 17) (.c (.sc (.bool true))) (.t 24))⟩, [7, 14]), (⟨(some 26), none, .q (.mov (.t 25))⟩, [15, 7]), (⟨(some 27), (some (26, false)), .q (.mov (.t 3))⟩, [16]), (⟨(some 28), (some (26, false)), .q (.bin .gtr (.t 27) (.c (.sc (.int .i64 0))))⟩, [17, 16]), (⟨(some 29), (some (26, false)), .q (.mov (.t 28))⟩, [18, 16, 16]), (⟨(some 30), (some (29, true)), .q (.mov (.t 0))⟩, [19]), (⟨(some 31), (some (29, true)), .q (.mov (.t 3))⟩, [19]), (⟨(some 32), (some (29, true)), .q (.bin .sub (.t 31) (.c (.sc (.int .i64 1))))⟩, [21, 19]), (⟨(some 33), (some (29, true)), .q (.iadr 2 (.t 30) (.t 32))⟩, [20, 22, 19]), (⟨(some 34), (some (29, true)), .q (.fadr 0 (.t 33))⟩, [23, 19]), (⟨(some 35), (some (29, true)), .q (.load false 1 (.t 34))⟩, [24, 19]), (⟨(some 36), (some (29, true)), .q (.mov (.t 0))⟩, [19]), (⟨(some 37), (some (29, true)), .q (.mov (.t 3))⟩, [19]), (⟨(some 38), (some (29, true)), .q (.iadr 2 (.t 36) (.t 37))⟩, [26, 27, 19]), (⟨(some 39), (some (29, true)), .q (.fadr 0 (.t 38))⟩, [28, 19]), (⟨(some 40), (some (29, true)), .q (.load false 1 (.t 39))⟩, [29, 19]), (⟨(some 41), (some (29, true)), .q (.bin .geq (.t 35) (.t 40))⟩, [25, 30, 19]), (⟨(some 42), (some (26, false)), .q (.pick (.t 29) (.t 41) (.c (.sc (.bool false))))⟩, [19, 31, 16]), (⟨(some 43), none, .q (.pick (.t 26) (.c (.sc (.bool true))) (.t 42))⟩, [16, 32])])
  (.cond (.t 43) (.seq (.ops [⟨(some 2), none, .q (.mov (.c (.sc (.bool false))))⟩])
  .ret)
  .skip)))
  (.ops [⟨(some 8), none, .q (.mov (.t 3))⟩, ⟨(some 9), none, .q (.bin .add (.t 8) (.c (.sc (.int .i64 1))))⟩, ⟨(some 3), none, .q (.mov (.t 9))⟩]))))))
  (.seq (.ops [⟨(some 44), none, .q (.mov (.t 0))⟩, ⟨(some 45), none, .q (.llen (.t 44))⟩, ⟨(some 46), none, .q (.bin .leq (.t 45) (.c (.sc (.int .i64 30))))⟩, ⟨(some 2), none, .q (.mov (.t 46))⟩])
  .ret)))
theorem K87 : Tryz.f87.body.bind (comp Tryz.prog) = some A87 ∧ Tryz.f87.ntmps = 47 ∧ Tryz.f87.results.toList.mapM (resB Tryz.prog) = some [.mov (.t 2)] := ⟨by kernel_rfl, by kernel_rfl, by kernel_rfl⟩
set_option maxHeartbeats 2000000 in
set_option maxRecDepth 100000 in
theorem R87 (xs : List File) (hb : xs.length < 4611686018427387904) (hp : ∀ x ∈ xs, x.path.size ≤ 1048576) : Ret Tryz.prog 87 [.ro (rows File.ty.cs xs) xs.length] (.sc (.bool (filesOk xs))) [.un] := by
  refine Ret.run Tryz.func87 K87 (by simp) rfl rfl 900 ?_
  simp [A87, iniρ]
  refine T.rounds (μ := fun i : List File × List File => i.2.length)
    (fun i s => i.1 ++ i.2 = xs ∧ filesL (lastP i.1) i.2 = filesL none xs ∧ s.ρ 0 = .ro (rows File.ty.cs xs) xs.length ∧ s.ρ 3 = .sc (.int .i64 i.1.length) ∧ s.h = h0 ∧ s.n = 47) ([], xs) (by simp [upd_app, lastP]) ?_
  rintro ⟨pre, rest⟩ ⟨ρ, hh, n⟩ ⟨hx, hE, k0, k3, rfl, rfl⟩
  simp only at hx hE k0 k3
  refine run_ok (n := 400) ?_
  cases rest with
  | nil =>
    have hxl : pre.length = xs.length := by rw [← hx]; simp
    have hA : filesL none xs = true := by rw [← hE]; cases lastP pre <;> rfl
    simp [k0, k3, hxl]
    refine T.on 400 ?_
    simp [k0, filesOk, hA]
    try omega
  | cons x rest =>
    have hle : pre.length + (rest.length + 1) = xs.length := by rw [← hx]; simp
    have hlt : (pre.length : Int) < xs.length := by omega
    have hlt2 : pre.length < xs.length := by omega
    have hw : IntKind.i64.wrap ((pre.length : Int) + 1) = pre.length + 1 := wrap_i64 (by omega) (by omega)
    have hd := rows_drop File.ty.csn pre (x :: rest)
    rw [hx, rows_cons] at hd
    have hd : List.drop (pre.length * 2) (rows File.ty.cs xs) = AV.sc (.string x.path) :: AV.sc (.string x.text) :: rows File.ty.cs rest := hd
    have hd1 : List.drop (pre.length * 2 + 1) (rows File.ty.cs xs) = AV.sc (.string x.text) :: rows File.ty.cs rest := by rw [← List.drop_drop, hd]; rfl
    have hxp := hp x (by rw [← hx]; simp)
    have stop : ∀ c, (pathOk x.path && (decide (x.text.size ≤ 60) && above (lastP pre) x.path)) = c → c = false → filesOk xs = false := fun c h1 h2 => by
      subst h2
      have : filesL none xs = false := by
        rw [← hE, filesL]
        cases h5 : pathOk x.path <;> cases h6 : decide (x.text.size ≤ 60) <;> cases h7 : above (lastP pre) x.path <;> simp_all
      simp [filesOk, this]
    simp [k0, k3, hlt]
    refine T.text 400 mixed (by kernel_rfl) (by kernel_rfl) ?_
    simp [k0, k3, hlt, hlt2, hd]
    refine callSK.by rfl (by kernel_rfl) rfl (R109 x.path hxp) ?_
    cases h1 : pathOk x.path
    · have := stop _ rfl (by simp [h1])
      simp [this]
    by_cases h2 : x.text.size ≤ 60
    case neg =>
      have := stop _ rfl (by simp [h2])
      have h2' : (60 : Int) < x.text.size := by omega
      simp [k0, k3, hlt, hlt2, hd1, h2', this]
    have h2' : ¬ ((60 : Int) < x.text.size) := by omega
    have fin : above (lastP pre) x.path = true → filesL (some x.path) rest = filesL none xs := fun h => by
      rw [← hE, filesL, h1, h]; simp [h2]
    rcases List.eq_nil_or_concat pre with rfl | ⟨p0, q, ep⟩
    · simp at hlt hlt2 hd1 hw
      simp [k0, k3, hlt, hlt2, hd1, h2']
      refine ⟨[x], rest, by simp, _, Le.refl _, ?_⟩
      have hF := fin rfl
      simp at hx
      simp [hx, k0, upd_app, lastP, hF, hw]
    rw [List.concat_eq_append] at ep
    subst ep
    have hq : List.drop (p0.length * 2) (rows File.ty.cs xs) = AV.sc (.string q.path) :: AV.sc (.string q.text) :: rows File.ty.cs (x :: rest) := by
      have h := rows_drop File.ty.csn p0 (q :: x :: rest)
      have e : p0 ++ q :: x :: rest = xs := by rw [← hx]; simp
      rw [e, rows_cons] at h
      exact h
    have hw0 : IntKind.i64.wrap (p0.length : Int) = p0.length := wrap_i64 (by omega) (by simp only [List.length_append] at hle; omega)
    have hl0 : p0.length < xs.length := by simp only [List.length_append] at hle; omega
    rw [lastP_snoc] at fin stop
    simp only [List.length_append, List.length_cons, List.length_nil, Nat.zero_add] at hlt hlt2 hd hd1 hw k3
    have hpos : (0 : Int) < (p0.length : Int) + 1 := by omega
    have hpos2 : (0 : Int) ≤ (p0.length : Int) + 1 := by omega
    have hlt3 : (p0.length : Int) + 1 < xs.length := by omega
    cases h3 : Op.bytesLess q.path.toList x.path.toList
    · have := stop _ rfl (by simp [above, h3])
      simp [k0, k3, hlt, hlt2, hd, hd1, h2', hpos, hpos2, hlt3, hw0, hl0, hq, h3, this]
    · have hF := fin (by simp [above, h3])
      simp [k0, k3, hlt, hlt2, hd, hd1, h2', hpos, hpos2, hlt3, hw0, hl0, hq, h3]
      refine ⟨p0 ++ [q] ++ [x], rest, by simp, _, Le.refl _, ?_⟩
      rw [lastP_snoc]
      simp at hw hx
      simp [hx, k0, upd_app, hF, hw]
      omega
/- 114: loop.example/g00464/spec.PutFile -/
end Go.Proofs.YtaknfalbmblagaaGreatDoor.Am
namespace Go.Proofs.YtaknfalbmblagaaGreatDoor.Am
open Go Go.Proofs
set_option linter.unusedSimpArgs false
set_option linter.unusedVariables false
attribute [local congr] T_congr callK_congr callWK_congr
attribute [local simp] run_nil run_op0 run_opg run_seq run_cond run_block run_ret run_skip run_skip_after run_skip_blk run_exit run_exit_after run_exit_blk run_loop run_any runS_nil runS_op0 runS_opg runW_nil runW_op0 runW_opg exec_q exec_w exec_c exec_n execW_q execW_w execW_c restW_app hideH_app merge_app wblk rest_app restS_app execS_q execS_c aval dOk upd_app ev_t ev_c setO_some setO_none put_mk pinsOf isIo hasIo sbin endR fin resL one outL out1 clo1 cloL coe coeL shut shut.shutL wantA weff cellsOf fillA deref natOf ρ0_app h0_app plain plain.plainL keep_app keepH_app andThen_normal andThen_ret andThen_exit pop_nil pop_after pop_after_ret pop_after_exit pop_blk pop_blk_ret pop_blk_exit nilA srcOf srcCells keepR_app keepHR_app renA rb
/- 112: loop.example/g00464/impl.isPathByte -/
def A112 : AC := (.seq (.ops [⟨(some 2), none, .q (.mov (.c (.sc (.bool false))))⟩])
  (.seq (.ops [⟨(some 3), none, .q (.mov (.t 0))⟩, ⟨(some 4), none, .c (.c (.clo 119 [])) [(.t 3)]⟩, ⟨(some 5), none, .q (.mov (.t 4))⟩, ⟨(some 6), (some (5, false)), .q (.mov (.t 0))⟩, ⟨(some 7), (some (5, false)), .c (.c (.clo 102 [])) [(.t 6)]⟩, ⟨(some 8), none, .q (.pick (.t 5) (.c (.sc (.bool true))) (.t 7))⟩, ⟨(some 9), none, .q (.mov (.t 8))⟩, ⟨(some 10), (some (9, false)), .q (.mov (.t 0))⟩, ⟨(some 11), (some (9, false)), .q (.bin .eql (.t 10) (.c (.sc (.int .u8 46))))⟩, ⟨(some 12), none, .q (.pick (.t 9) (.c (.sc (.bool true))) (.t 11))⟩, ⟨(some 13), none, .q (.mov (.t 12))⟩, ⟨(some 14), (some (13, false)), .q (.mov (.t 0))⟩, ⟨(some 15), (some (13, false)), .q (.bin .eql (.t 14) (.c (.sc (.int .u8 45))))⟩, ⟨(some 16), none, .q (.pick (.t 13) (.c (.sc (.bool true))) (.t 15))⟩, ⟨(some 17), none, .q (.mov (.t 16))⟩, ⟨(some 18), (some (17, false)), .q (.mov (.t 0))⟩, ⟨(some 19), (some (17, false)), .q (.bin .eql (.t 18) (.c (.sc (.int .u8 95))))⟩, ⟨(some 20), none, .q (.pick (.t 17) (.c (.sc (.bool true))) (.t 19))⟩, ⟨(some 2), none, .q (.mov (.t 20))⟩])
  .ret))
theorem K112 : Tryz.f112.body.bind (comp Tryz.prog) = some A112 ∧ Tryz.f112.ntmps = 21 ∧ Tryz.f112.results.toList.mapM (resB Tryz.prog) = some [.mov (.t 2)] := ⟨by kernel_rfl, by kernel_rfl, by kernel_rfl⟩
theorem R112 (c : UInt8) : Ret Tryz.prog 112 [.sc (.int .u8 c.toNat)] (.sc (.bool (lttI c.toNat))) [.un] := by
  refine Ret.run Tryz.func112 K112 (by simp) rfl rfl 500 ?_
  simp [A112, iniρ]
  refine callK.ro 0 rfl (by kernel_rfl) (by simp [roc_sc]) (R119 c) rfl rfl rfl ?_
  cases h1 : smallI (c.toNat : Int)
  case true => simp [lttI, h1]
  simp
  refine callK.ro 0 rfl (by kernel_rfl) (by simp [roc_sc]) (R102 c) rfl rfl rfl ?_
  cases h2 : figI (c.toNat : Int)
  case true => simp [lttI, h1, h2]
  by_cases h3 : (c.toNat : Int) = 46
  · simp [lttI, h1, h2, h3]
  by_cases h4 : (c.toNat : Int) = 45
  · simp [lttI, h1, h2, h3, h4]
  simp [lttI, h1, h2, h3, h4]
/- 89: loop.example/g00464/impl.fileNameOk -/
def A89 : AC := (.seq (.ops [⟨(some 2), none, .q (.mov (.c (.sc (.bool false))))⟩])
  (.seq (.seq (.ops [⟨(some 3), none, .q (.mov (.c (.sc (.int .i64 0))))⟩])
  (.block 0 (.loop (.seq (.seq (.ops [⟨(some 4), none, .q (.mov (.t 3))⟩, ⟨(some 5), none, .q (.mov (.t 0))⟩, ⟨(some 6), none, .q (.slen (.t 5))⟩, ⟨(some 7), none, .q (.bin .lss (.t 4) (.t 6))⟩])
  (.cond (.t 7) .skip
  (.exit 0)))
  (.seq (.block 1 (.seq (.ops [⟨(some 10), none, .q (.mov (.t 0))⟩, ⟨(some 11), none, .q (.mov (.t 3))⟩, ⟨(some 12), none, .q (.idx (.t 10) (.t 11))⟩, ⟨(some 13), none, .c (.c (.clo 112 [])) [(.t 12)]⟩, ⟨(some 14), none, .q (.not (.t 13))⟩])
  (.cond (.t 14) (.seq (.ops [⟨(some 2), none, .q (.mov (.c (.sc (.bool false))))⟩])
  .ret)
  .skip)))
  (.ops [⟨(some 8), none, .q (.mov (.t 3))⟩, ⟨(some 9), none, .q (.bin .add (.t 8) (.c (.sc (.int .i64 1))))⟩, ⟨(some 3), none, .q (.mov (.t 9))⟩]))))))
  (.seq (.ops [⟨(some 15), none, .q (.mov (.t 0))⟩, ⟨(some 16), none, .q (.slen (.t 15))⟩, ⟨(some 17), none, .c (.c (.clo 62 [])) [(.t 16), (.c (.sc (.int .i64 1))), (.c (.sc (.int .i64 12)))]⟩, ⟨(some 18), none, .q (.mov (.t 17))⟩, ⟨(some 19), (some (18, true)), .q (.mov (.t 0))⟩, ⟨(some 20), (some (18, true)), .q (.bin .neq (.t 19) (.c (.sc (.string ⟨#[46]⟩))))⟩, ⟨(some 21), none, .q (.pick (.t 18) (.t 20) (.c (.sc (.bool false))))⟩, ⟨(some 22), none, .q (.mov (.t 21))⟩, ⟨(some 23), (some (22, true)), .q (.mov (.t 0))⟩, ⟨(some 24), (some (22, true)), .q (.bin .neq (.t 23) (.c (.sc (.string ⟨#[46, 46]⟩))))⟩, ⟨(some 25), none, .q (.pick (.t 22) (.t 24) (.c (.sc (.bool false))))⟩, ⟨(some 2), none, .q (.mov (.t 25))⟩])
  .ret)))
theorem K89 : Tryz.f89.body.bind (comp Tryz.prog) = some A89 ∧ Tryz.f89.ntmps = 26 ∧ Tryz.f89.results.toList.mapM (resB Tryz.prog) = some [.mov (.t 2)] := ⟨by kernel_rfl, by kernel_rfl, by kernel_rfl⟩
theorem R89 (s : ByteArray) (hs : s.size ≤ 140737488351232) : Ret Tryz.prog 89 [.sc (.string s)] (.sc (.bool (partOk s))) [.un] := by
  refine Ret.run Tryz.func89 K89 (by simp) rfl rfl 500 ?_
  simp [A89, iniρ]
  refine T.rounds (μ := fun i : List UInt8 × List UInt8 => i.2.length)
    (fun i t => i.1 ++ i.2 = s.data.toList ∧ letL i.2 = letL s.data.toList ∧ t.ρ 0 = .sc (.string s) ∧ t.ρ 3 = .sc (.int .i64 i.1.length) ∧ t.h = h0 ∧ t.n = 26) ([], s.data.toList) (by simp [upd_app]) ?_
  rintro ⟨pre, rest⟩ ⟨ρ, hh, n⟩ ⟨hx, hE, k0, k3, rfl, rfl⟩
  simp only at hx hE k0 k3
  have hsz := str_len hx
  refine run_ok (n := 400) ?_
  cases rest with
  | nil =>
    simp at hsz
    simp [k0, k3, hsz]
    refine T.on 400 ?_
    simp [k0]
    refine callK.ro 0 rfl (by kernel_rfl) (by simp [roc_sc]) (R62 s.size 1 12) rfl rfl rfl ?_
    have hL : letL s.data.toList = true := by rw [← hE]; rfl
    cases h1 : inR s.size 1 12
    case false => simp [partOk, h1]
    by_cases h2 : s.toList = [46]
    case pos => simp [k0, partOk, h1, h2]
    have h2' : (s.toList == [46]) = false := by simpa using h2
    by_cases h3 : s.toList = [46, 46]
    · simp [k0, partOk, h1, h2, h2', h3, hL]
    · have h3' : (s.toList == [46, 46]) = false := by simpa using h3
      simp [k0, partOk, h1, h2, h2', h3, h3', hL]
  | cons c rest =>
    have hg := str_get hx
    simp at hsz
    have hlt : (pre.length : Int) < s.size := by omega
    have hw : IntKind.i64.wrap ((pre.length : Int) + 1) = pre.length + 1 := wrap_i64 (by omega) (by omega)
    simp [k0, k3, hlt, hg]
    refine callK.ro 0 rfl (by kernel_rfl) (by simp [roc_sc]) (R112 c) rfl rfl rfl ?_
    cases h1 : lttI (c.toNat : Int)
    · have : partOk s = false := by simp [partOk, ← hE, letL, h1]
      simp [this]
    · simp [k3, hw]
      refine ⟨pre ++ [c], rest, by simp, _, Le.refl _, ?_⟩
      simp [hx, k0, upd_app, ← hE, letL, h1]
/- 113: loop.example/g00464/impl.PathOk -/
def A113 : AC := (.seq (.ops [⟨(some 2), none, .q (.mov (.c (.sc (.bool false))))⟩])
  (.seq (.ops [⟨(some 6), none, .q (.mov (.t 0))⟩, ⟨(some 7), none, .c (.c (.clo 120 [])) [(.t 6), (.c (.sc (.string ⟨#[47]⟩)))]⟩, ⟨(some 3), none, .q (.mov (.t 7))⟩])
  (.seq (.seq (.ops [⟨(some 8), none, .q (.mov (.t 3))⟩, ⟨(some 9), none, .q (.llen (.t 8))⟩, ⟨(some 10), none, .q (.mov (.c (.sc (.int .i64 0))))⟩])
  (.block 0 (.loop (.seq (.ops [⟨(some 11), none, .q (.bin .lss (.t 10) (.t 9))⟩])
  (.seq (.cond (.t 11) .skip
  (.exit 0))
  (.seq (.block 1 (.seq (.ops [⟨(some 12), none, .q (.iadr 1 (.t 8) (.t 10))⟩, ⟨(some 13), none, .q (.load false 1 (.t 12))⟩, ⟨(some 5), none, .q (.mov (.t 13))⟩])
  (.seq (.ops [⟨(some 14), none, .q (.mov (.t 5))⟩, ⟨(some 15), none, .c (.c (.clo 89 [])) [(.t 14)]⟩, ⟨(some 16), none, .q (.not (.t 15))⟩])
  (.cond (.t 16) (.seq (.ops [⟨(some 2), none, .q (.mov (.c (.sc (.bool false))))⟩])
  .ret)
  .skip))))
  (.ops [⟨(some 17), none, .q (.bin .add (.t 10) (.c (.sc (.int .i64 1))))⟩, ⟨(some 10), none, .q (.mov (.t 17))⟩])))))))
  (.seq (.ops [⟨(some 18), none, .q (.mov (.t 3))⟩, ⟨(some 19), none, .q (.llen (.t 18))⟩, ⟨(some 20), none, .q (.bin .leq (.t 19) (.c (.sc (.int .i64 4))))⟩, ⟨(some 2), none, .q (.mov (.t 20))⟩])
  .ret))))
theorem K113 : Tryz.f113.body.bind (comp Tryz.prog) = some A113 ∧ Tryz.f113.ntmps = 21 ∧ Tryz.f113.results.toList.mapM (resB Tryz.prog) = some [.mov (.t 2)] := ⟨by kernel_rfl, by kernel_rfl, by kernel_rfl⟩
theorem R113 (s : ByteArray) (hs : s.size ≤ 1048576) : Ret Tryz.prog 113 [.sc (.string s)] (.sc (.bool (pathOk s))) [.un] := by
  have hz : ∀ x ∈ splitS s 47, x.size ≤ s.size := splitP_size s 47 _ 0 0
  have hl : (splitS s 47).length ≤ s.size + 1 := by
    have := splitP_len s 47 s.data.toList 0 0
    simpa [splitS] using this
  obtain ⟨ps, hps⟩ : ∃ ps, ps = splitS s 47 := ⟨_, rfl⟩
  have rs := R120 s 47 hs
  rw [show (((47 : UInt8).toNat : Nat) : Int) = 47 from rfl] at rs
  rw [← hps] at hz hl rs
  refine Ret.run Tryz.func113 K113 (by simp) rfl rfl 900 ?_
  simp [A113, iniρ]
  refine callK.own 6 rfl (by kernel_rfl) (by simp [roc_sc]) rs (Ty.str.flo ps) (by simp) rfl ?_
  simp
  refine T.rounds (μ := fun i : List ByteArray × List ByteArray => i.2.length)
    (fun i t => i.1 ++ i.2 = ps ∧ allPart i.2 = allPart ps ∧ t.ρ 3 = .sl 6 0 ps.length 1 false ∧ t.ρ 8 = .sl 6 0 ps.length 1 false ∧ t.ρ 9 = .sc (.int .i64 ps.length) ∧ t.ρ 10 = .sc (.int .i64 i.1.length) ∧ t.h 6 = some (some (rows Ty.str.oc ps)) ∧ t.n = 21) ([], ps) (by simp [upd_app]) ?_
  rintro ⟨pre, rest⟩ ⟨ρ, hh, n⟩ ⟨hx, hE, k3, k8, k9, k10, k6, rfl⟩
  simp only at hx hE k3 k8 k9 k10 k6
  refine run_ok (n := 400) ?_
  cases rest with
  | nil =>
    have hxl : pre.length = ps.length := by rw [← hx]; simp
    have hA : allPart ps = true := by rw [← hE]; rfl
    simp [k9, k10, hxl]
    refine T.on 400 ?_
    simp [k3, pathOk, ← hps, hA]
    all_goals omega
  | cons x rest =>
    have hle : pre.length + (rest.length + 1) = ps.length := by rw [← hx]; simp
    have hlt : (pre.length : Int) < ps.length := by omega
    have hw : IntKind.i64.wrap ((pre.length : Int) + 1) = pre.length + 1 := wrap_i64 (by omega) (by omega)
    have hd := strDrop pre rest x
    rw [hx] at hd
    have hd : List.drop pre.length (rows Ty.str.oc ps) = .sc (.string x) :: rows Ty.str.oc rest := hd
    have hxs := hz x (by rw [← hx]; simp)
    simp [k8, k9, k10, k6, hlt, hd]
    refine callK.ro 0 rfl (by kernel_rfl) (by simp [roc_sc, upd_app]) (R89 x (by omega)) rfl rfl rfl ?_
    cases h1 : partOk x
    · have : pathOk s = false := by
        have h2 : allPart ps = false := by rw [← hE, allPart, h1]; rfl
        simp [pathOk, ← hps, h2]
      simp [this]
    · simp [k10, hw]
      refine ⟨pre ++ [x], rest, by simp, _, Le.refl _, ?_⟩
      simp [hx, upd_app, k3, k8, k9, k6, ← hE, allPart, h1]
/- 90: loop.example/g00464/impl.FilesOk -/
def A90 : AC := (.seq (.ops [⟨(some 2), none, .q (.mov (.c (.sc (.bool false))))⟩])
  (.seq (.seq (.ops [⟨(some 5), none, .q (.mov (.t 0))⟩, ⟨(some 6), none, .q (.llen (.t 5))⟩, ⟨(some 7), none, .q (.mov (.c (.sc (.int .i64 0))))⟩])
  (.block 0 (.loop (.seq (.ops [⟨(some 8), none, .q (.bin .lss (.t 7) (.t 6))⟩])
  (.seq (.cond (.t 8) .skip
  (.exit 0))
  (.seq (.block 1 (.seq (.ops [⟨(some 9), none, .q (.mov (.t 7))⟩, ⟨(some 10), none, .q (.iadr 2 (.t 5) (.t 7))⟩, ⟨(some 11), none, .q (.load true 2 (.t 10))⟩, ⟨(some 4), none, .w (.alloc [(.sc (.string ⟨#[]⟩)), (.sc (.string ⟨#[]⟩))])⟩, ⟨(some 3), none, .q (.mov (.t 9))⟩, ⟨none, none, .w (.store 2 (.t 4) (.t 11))⟩])
  (.seq (.any [(⟨(some 12), none, .q (.fadr 0 (.t 4))⟩, []), (⟨(some 13), none, .q (.load false 1 (.t 12))⟩, [0]), (⟨(some 14), none, .c (.c (.clo 113 [])) [(.t 13)]⟩, [1]), (⟨(some 15), none, .q (.not (.t 14))⟩, [2]), (⟨(some 16), none, .q (.mov (.t 15))⟩, [3, 2]), (⟨(some 17), (some (16, false)), .q (.fadr 1 (.t 4))⟩, [4]), (⟨(some 18), (some (16, false)), .q (.load false 1 (.t 17))⟩, [5, 4]), (⟨(some 19), (some (16, false)), .q (.slen (.t 18))⟩, [6, 4]), (⟨(some 20), (some (16, false)), .q (.bin .gtr (.t 19) (.c (.sc (.int .i64 60))))⟩, [7, 4]), (⟨(some 21), none, .q (.pick (.t 16) (.c (.sc (.bool true))) (.t 20))⟩, [4, 8]), (⟨(some 22), none, .q (.mov (.t 21))⟩, [9, 4]), (⟨(some 23), (some (22, false)), .q (.mov (.t 3))⟩, [10]), (⟨(some 24), (some (22, false)), .q (.bin .gtr (.t 23) (.c (.sc (.int .i64 0))))⟩, [11, 10]), (⟨(some 25), (some (22, false)), .q (.mov (.t 24))⟩, [12, 10, 10]), (⟨(some 26), (some (25, true)), .q (.fadr 0 (.t 4))⟩, [13]), (⟨(some 27), (some (25, true)), .q (.load false 1 (.t 26))⟩, [14, 13]), (⟨(some 28), (some (25, true)), .q (.mov (.t 0))⟩, [13]), (⟨(some 29), (some (25, true)), .q (.mov (.t 3))⟩, [13]), (⟨(some 30), (some (25, true)), .q (.bin .sub (.t 29) (.c (.sc (.int .i64 1))))⟩, [17, 13]), (⟨(some 31), (some (25, true)), .q (.iadr 2 (.t 28) (.t 30))⟩, [16, 18, 13]), (⟨(some 32), (some (25, true)), .q (.fadr 0 (.t 31))⟩, [19, 13]), (⟨(some 33), (some (25, true)), .q (.load false 1 (.t 32))⟩, [20, 13]), (⟨(some 34), (some (25, true)), .q (.bin .leq (.t 27) (.t 33))⟩, [15, 21, 13]), (⟨(some 35), (some (22, false)), .q (.pick (.t 25) (.t 34) (.c (.sc (.bool false))))⟩, [13, 22, 10]), (⟨(some 36), none, .q (.pick (.t 22) (.c (.sc (.bool true))) (.t 35))⟩, [10, 23])])
  (.cond (.t 36) (.seq (.ops [⟨(some 2), none, .q (.mov (.c (.sc (.bool false))))⟩])
  .ret)
  .skip))))
  (.ops [⟨(some 37), none, .q (.bin .add (.t 7) (.c (.sc (.int .i64 1))))⟩, ⟨(some 7), none, .q (.mov (.t 37))⟩])))))))
  (.seq (.ops [⟨(some 38), none, .q (.mov (.t 0))⟩, ⟨(some 39), none, .q (.llen (.t 38))⟩, ⟨(some 40), none, .q (.bin .leq (.t 39) (.c (.sc (.int .i64 30))))⟩, ⟨(some 2), none, .q (.mov (.t 40))⟩])
  .ret)))
theorem K90 : Tryz.f90.body.bind (comp Tryz.prog) = some A90 ∧ Tryz.f90.ntmps = 41 ∧ Tryz.f90.results.toList.mapM (resB Tryz.prog) = some [.mov (.t 2)] := ⟨by kernel_rfl, by kernel_rfl, by kernel_rfl⟩
set_option maxHeartbeats 2000000 in
set_option maxRecDepth 100000 in
theorem R90 (xs : List File) (hb : xs.length < 4611686018427387904) (hp : ∀ x ∈ xs, x.path.size ≤ 1048576) : Ret Tryz.prog 90 [.ro (rows File.ty.cs xs) xs.length] (.sc (.bool (filesOk xs))) [.un] := by
  refine Ret.run Tryz.func90 K90 (by simp) rfl rfl 900 ?_
  simp [A90, iniρ]
  refine T.rounds (μ := fun i : List File × List File => i.2.length)
    (fun i s => i.1 ++ i.2 = xs ∧ filesL (lastP i.1) i.2 = filesL none xs ∧ s.ρ 0 = .ro (rows File.ty.cs xs) xs.length ∧ s.ρ 5 = .ro (rows File.ty.cs xs) xs.length ∧ s.ρ 6 = .sc (.int .i64 xs.length) ∧ s.ρ 7 = .sc (.int .i64 i.1.length) ∧ s.h 4 = none ∧ s.n = 41) ([], xs) (by simp [upd_app, lastP]) ?_
  rintro ⟨pre, rest⟩ ⟨ρ, hh, n⟩ ⟨hx, hE, k0, k5, k6, k7, f4, rfl⟩
  simp only at hx hE k0 k5 k6 k7 f4
  refine run_ok (n := 400) ?_
  cases rest with
  | nil =>
    have hxl : pre.length = xs.length := by rw [← hx]; simp
    have hA : filesL none xs = true := by rw [← hE]; cases lastP pre <;> rfl
    simp [k6, k7, hxl]
    refine T.on 400 ?_
    simp [k0, filesOk, hA]
    all_goals omega
  | cons x rest =>
    have hle : pre.length + (rest.length + 1) = xs.length := by rw [← hx]; simp
    have hlt : (pre.length : Int) < xs.length := by omega
    have hlt2 : pre.length < xs.length := by omega
    have hw : IntKind.i64.wrap ((pre.length : Int) + 1) = pre.length + 1 := wrap_i64 (by omega) (by omega)
    have hd := rows_drop File.ty.csn pre (x :: rest)
    rw [hx, rows_cons] at hd
    have hd : List.drop (pre.length * 2) (rows File.ty.cs xs) = AV.sc (.string x.path) :: AV.sc (.string x.text) :: rows File.ty.cs rest := hd
    have hxp := hp x (by rw [← hx]; simp)
    have stop : ∀ c, (pathOk x.path && (decide (x.text.size ≤ 60) && above (lastP pre) x.path)) = c → c = false → filesOk xs = false := fun c h1 h2 => by
      subst h2
      have : filesL none xs = false := by
        rw [← hE, filesL]
        cases h5 : pathOk x.path <;> cases h6 : decide (x.text.size ≤ 60) <;> cases h7 : above (lastP pre) x.path <;> simp_all
      simp [filesOk, this]
    have fin : pathOk x.path = true → x.text.size ≤ 60 → above (lastP pre) x.path = true → filesL (some x.path) rest = filesL none xs := fun h1 h2 h => by
      rw [← hE, filesL, h1, h]; simp [h2]
    simp [k0, k5, k6, k7, hlt, hlt2, hd, f4, over]
    refine T.text 400 mixed (by kernel_rfl) (by kernel_rfl) ?_
    simp
    refine callSK.by rfl (by kernel_rfl) (by simp [roc_sc]) (R113 x.path hxp) ?_
    cases h1 : pathOk x.path
    · have := stop _ rfl (by simp [h1])
      simp [this]
    by_cases h2 : x.text.size ≤ 60
    case neg =>
      have := stop _ rfl (by simp [h2])
      have h2' : (60 : Int) < x.text.size := by omega
      simp [h2', this]
    have h2' : ¬ ((60 : Int) < x.text.size) := by omega
    rcases List.eq_nil_or_concat pre with rfl | ⟨p0, q, ep⟩
    · simp at hlt hlt2 hw k7
      simp [k7, h2']
      refine ⟨[x], rest, by simp, _, Le.reset [0, 5, 6, 7] [] (by simp [upd_app, menB, idfree, k0, k5, k6]) (by simp), ?_⟩
      have hF := fin h1 h2 rfl
      simp at hx
      simp [hx, k0, k5, k6, upd_app, lastP, hF, hw]
    rw [List.concat_eq_append] at ep
    subst ep
    have hq : List.drop (p0.length * 2) (rows File.ty.cs xs) = AV.sc (.string q.path) :: AV.sc (.string q.text) :: rows File.ty.cs (x :: rest) := by
      have h := rows_drop File.ty.csn p0 (q :: x :: rest)
      have e : p0 ++ q :: x :: rest = xs := by rw [← hx]; simp
      rw [e, rows_cons] at h
      exact h
    have hw0 : IntKind.i64.wrap (p0.length : Int) = p0.length := wrap_i64 (by omega) (by simp only [List.length_append] at hle; omega)
    have hl0 : p0.length < xs.length := by simp only [List.length_append] at hle; omega
    rw [lastP_snoc] at fin stop
    simp only [List.length_append, List.length_cons, List.length_nil, Nat.zero_add] at hlt hlt2 hd hw k7
    have hpos : (0 : Int) < (p0.length : Int) + 1 := by omega
    have hl0' : (p0.length : Int) < xs.length := by omega
    cases h3 : Op.bytesLess q.path.toList x.path.toList
    · have := stop _ rfl (by simp [above, h3])
      have h4 := bl_tot x.path.toList q.path.toList
      rw [h3] at h4
      simp [k0, k7, h2', hpos, hw0, hl0, hl0', hq, h3, h4, this]
    · have hF := fin h1 h2 (by simp [above, h3])
      have h4 := bl_tot x.path.toList q.path.toList
      rw [h3] at h4
      simp [k0, k7, h2', hpos, hw0, hl0, hl0', hq, h3, h4]
      refine ⟨p0 ++ [q] ++ [x], rest, by simp, _, Le.reset [0, 5, 6, 7] [] (by simp [upd_app, menB, idfree, k0, k5, k6]) (by simp), ?_⟩
      rw [lastP_snoc]
      simp at hw hx
      simp [hx, k0, k5, k6, upd_app, hF, hw]
      omega
def namesL : List File → Bool
  | [] => true
  | x :: l => partOk x.path && namesL l
def outsOk (xs : List File) : Bool := namesL xs && (decide (xs.length ≤ 6) && filesOk xs)
/- 51: loop.example/g00464/impl.outsOk -/
def A51 : AC := (.seq (.ops [⟨(some 2), none, .q (.mov (.c (.sc (.bool false))))⟩])
  (.seq (.seq (.ops [⟨(some 5), none, .q (.mov (.t 0))⟩, ⟨(some 6), none, .q (.llen (.t 5))⟩, ⟨(some 7), none, .q (.mov (.c (.sc (.int .i64 0))))⟩])
  (.block 0 (.loop (.seq (.ops [⟨(some 8), none, .q (.bin .lss (.t 7) (.t 6))⟩])
  (.seq (.cond (.t 8) .skip
  (.exit 0))
  (.seq (.block 1 (.seq (.ops [⟨(some 9), none, .q (.iadr 2 (.t 5) (.t 7))⟩, ⟨(some 10), none, .q (.load true 2 (.t 9))⟩, ⟨(some 4), none, .w (.alloc [(.sc (.string ⟨#[]⟩)), (.sc (.string ⟨#[]⟩))])⟩, ⟨none, none, .w (.store 2 (.t 4) (.t 10))⟩])
  (.seq (.ops [⟨(some 11), none, .q (.fadr 0 (.t 4))⟩, ⟨(some 12), none, .q (.load false 1 (.t 11))⟩, ⟨(some 13), none, .c (.c (.clo 89 [])) [(.t 12)]⟩, ⟨(some 14), none, .q (.not (.t 13))⟩])
  (.cond (.t 14) (.seq (.ops [⟨(some 2), none, .q (.mov (.c (.sc (.bool false))))⟩])
  .ret)
  .skip))))
  (.ops [⟨(some 15), none, .q (.bin .add (.t 7) (.c (.sc (.int .i64 1))))⟩, ⟨(some 7), none, .q (.mov (.t 15))⟩])))))))
  (.seq (.ops [⟨(some 16), none, .q (.mov (.t 0))⟩, ⟨(some 17), none, .q (.llen (.t 16))⟩, ⟨(some 18), none, .q (.bin .leq (.t 17) (.c (.sc (.int .i64 6))))⟩, ⟨(some 19), none, .q (.mov (.t 18))⟩, ⟨(some 20), (some (19, true)), .q (.mov (.t 0))⟩, ⟨(some 21), (some (19, true)), .c (.c (.clo 90 [])) [(.t 20)]⟩, ⟨(some 22), none, .q (.pick (.t 19) (.t 21) (.c (.sc (.bool false))))⟩, ⟨(some 2), none, .q (.mov (.t 22))⟩])
  .ret)))
theorem K51 : Tryz.f51.body.bind (comp Tryz.prog) = some A51 ∧ Tryz.f51.ntmps = 23 ∧ Tryz.f51.results.toList.mapM (resB Tryz.prog) = some [.mov (.t 2)] := ⟨by kernel_rfl, by kernel_rfl, by kernel_rfl⟩
theorem R51 (xs : List File) (hb : xs.length < 4611686018427387904) (hp : ∀ x ∈ xs, x.path.size ≤ 1048576) : Ret Tryz.prog 51 [.ro (rows File.ty.cs xs) xs.length] (.sc (.bool (outsOk xs))) [.un] := by
  refine Ret.run Tryz.func51 K51 (by simp) rfl rfl 900 ?_
  simp [A51, iniρ]
  refine T.rounds (μ := fun i : List File × List File => i.2.length)
    (fun i s => i.1 ++ i.2 = xs ∧ namesL i.2 = namesL xs ∧ s.ρ 0 = .ro (rows File.ty.cs xs) xs.length ∧ s.ρ 5 = .ro (rows File.ty.cs xs) xs.length ∧ s.ρ 6 = .sc (.int .i64 xs.length) ∧ s.ρ 7 = .sc (.int .i64 i.1.length) ∧ s.h 4 = none ∧ s.n = 23) ([], xs) (by simp [upd_app]) ?_
  rintro ⟨pre, rest⟩ ⟨ρ, hh, n⟩ ⟨hx, hE, k0, k5, k6, k7, f4, rfl⟩
  simp only at hx hE k0 k5 k6 k7 f4
  refine run_ok (n := 400) ?_
  cases rest with
  | nil =>
    have hxl : pre.length = xs.length := by rw [← hx]; simp
    have hA : namesL xs = true := by rw [← hE]; rfl
    simp [k6, k7, hxl]
    refine T.on 400 ?_
    by_cases h6 : xs.length ≤ 6
    · have h6' : (xs.length : Int) ≤ 6 := by omega
      simp [k0, h6']
      refine callK.ro 0 rfl (by kernel_rfl) (by simp [roc_ro]) (R90 xs hb hp) rfl rfl rfl ?_
      simp [outsOk, hA, h6]
    · have h6' : ¬ (xs.length : Int) ≤ 6 := by omega
      simp [k0, h6', outsOk, h6]
  | cons x rest =>
    have hle : pre.length + (rest.length + 1) = xs.length := by rw [← hx]; simp
    have hlt : (pre.length : Int) < xs.length := by omega
    have hw : IntKind.i64.wrap ((pre.length : Int) + 1) = pre.length + 1 := wrap_i64 (by omega) (by omega)
    have hd := rows_drop File.ty.csn pre (x :: rest)
    rw [hx, rows_cons] at hd
    have hd : List.drop (pre.length * 2) (rows File.ty.cs xs) = AV.sc (.string x.path) :: AV.sc (.string x.text) :: rows File.ty.cs rest := hd
    have hxp := hp x (by rw [← hx]; simp)
    simp [k0, k5, k6, k7, hlt, hd, f4, over]
    refine callK.ro 0 rfl (by kernel_rfl) (by simp [roc_sc, upd_app]) (R89 x.path (by omega)) rfl rfl rfl ?_
    cases h1 : partOk x.path
    · have h2 : namesL xs = false := by rw [← hE, namesL, h1]; rfl
      simp [outsOk, h2]
    · simp [k7, hw]
      refine ⟨pre ++ [x], rest, by simp, _, Le.reset [0, 5, 6, 7] [] (by simp [upd_app, menB, idfree, k0, k5, k6]) (by simp), ?_⟩
      simp [hx, upd_app, k0, k5, k6, ← hE, namesL, h1]
end Go.Proofs.YtaknfalbmblagaaGreatDoor.Am
namespace Go.Proofs.YtaknfalbmblagaaGreatDoor.Am
open Go Go.Proofs
set_option linter.unusedSimpArgs false
set_option linter.unusedVariables false
attribute [local congr] T_congr callK_congr callWK_congr
attribute [local simp] run_nil run_op0 run_opg run_seq run_cond run_block run_ret run_skip run_skip_after run_skip_blk run_exit run_exit_after run_exit_blk run_loop run_any runS_nil runS_op0 runS_opg runW_nil runW_op0 runW_opg exec_q exec_w exec_c exec_n execW_q execW_w execW_c restW_app hideH_app merge_app wblk rest_app restS_app execS_q execS_c aval dOk upd_app ev_t ev_c setO_some setO_none put_mk pinsOf isIo hasIo sbin endR fin resL one outL out1 clo1 cloL coe coeL shut shut.shutL wantA weff cellsOf fillA deref natOf ρ0_app h0_app plain plain.plainL keep_app keepH_app andThen_normal andThen_ret andThen_exit pop_nil pop_after pop_after_ret pop_after_exit pop_blk pop_blk_ret pop_blk_exit nilA srcOf srcCells keepR_app keepHR_app renA rb
def sB (s : ByteArray) : List Int := s.data.toList.map fun b => (b.toNat : Int)
theorem sB_len (s : ByteArray) : (sB s).length = s.size := by rw [sB, List.length_map, Array.length_toList]; rfl
theorem strCells_rows (s : ByteArray) : strCells s = rows B (sB s) := by
  unfold strCells sB
  induction s.data.toList with
  | nil => rfl
  | cons x xs ih => rw [List.map_cons, List.map_cons, rows_cons, ih]; rfl
def hiL (n : Nat) : List Int := [(n : Int) / 256, (n : Int) % 256]
def putT (b : List Int) (s : ByteArray) : List Int := if s.size ≤ 60000 then b ++ (hiL s.size ++ sB s) else b
theorem rowsB_hi (n : Nat) : [AV.sc (.int .u8 ((n : Int) / 256)), AV.sc (.int .u8 ((n : Int) % 256))] = rows B (hiL n) := rfl
theorem wrap_hi {n : Nat} (h : n ≤ 60000) : IntKind.u8.wrap ((n : Int).fdiv (2 ^ min 8 IntKind.i64.bits)) = (n : Int) / 256 := by
  have e : (n : Int).fdiv (2 ^ min 8 IntKind.i64.bits) = (n : Int) / 256 := by
    rw [Int.fdiv_eq_ediv_of_nonneg _ (by decide)]; rfl
  rw [e]
  simp [IntKind.wrap, IntKind.bits, IntKind.signed]
  omega
theorem wrap_lo (n : Nat) : IntKind.u8.wrap (n : Int) = (n : Int) % 256 := rfl
/- 93: loop.example/g00464/impl.putText -/
def A93 : AC := (.seq (.ops [⟨(some 4), none, .q (.mov (.c .em))⟩])
  (.seq (.seq (.ops [⟨(some 5), none, .q (.mov (.t 1))⟩, ⟨(some 6), none, .q (.slen (.t 5))⟩, ⟨(some 7), none, .q (.bin .gtr (.t 6) (.c (.sc (.int .i64 60000))))⟩])
  (.cond (.t 7) (.seq (.ops [⟨(some 8), none, .q (.mov (.t 0))⟩, ⟨(some 4), none, .q (.mov (.t 8))⟩])
  .ret)
  .skip))
  (.seq (.ops [⟨(some 9), none, .q (.mov (.t 0))⟩, ⟨(some 10), none, .q (.mov (.t 1))⟩, ⟨(some 11), none, .q (.slen (.t 10))⟩, ⟨(some 12), none, .q (.bin .shr (.t 11) (.c (.sc (.int .u64 8))))⟩, ⟨(some 13), none, .q (.cvi .u8 (.t 12))⟩, ⟨(some 14), none, .q (.mov (.t 1))⟩, ⟨(some 15), none, .q (.slen (.t 14))⟩, ⟨(some 16), none, .q (.cvi .u8 (.t 15))⟩, ⟨(some 17), none, .w (.bsl 1 2 [(.sc (.int .u8 0)), (.sc (.int .u8 0))] [(0, 1, (.t 13)), (1, 1, (.t 16))])⟩, ⟨(some 18), none, .w (.app 1 1 false (.t 9) (.t 17))⟩, ⟨(some 19), none, .q (.mov (.t 1))⟩, ⟨(some 20), none, .w (.app 1 1 true (.t 18) (.t 19))⟩, ⟨(some 4), none, .q (.mov (.t 20))⟩])
  .ret)))
theorem K93 : Tryz.f93.body.bind (comp Tryz.prog) = some A93 ∧ Tryz.f93.ntmps = 21 ∧ Tryz.f93.results.toList.mapM (resB Tryz.prog) = some [.mov (.t 4)] := ⟨by kernel_rfl, by kernel_rfl, by kernel_rfl⟩
theorem R93 (b : List Int) (s : ByteArray) (hb : b.length + s.size ≤ 140737488350000) : Ret Tryz.prog 93 [.own (rows B b) b.length 1, .sc (.string s)] (.own (rows B (putT b s)) (putT b s).length 1) [.un, .un] := by
  have hl := sB_len s
  refine Ret.run Tryz.func93 K93 (by simp) rfl rfl 500 ?_
  simp [A93, iniρ]
  by_cases h : s.size ≤ 60000
  case neg =>
    have h2 : (60000 : Int) < s.size := by omega
    have e : putT b s = b := if_neg h
    simp [h2, e, ex1, B.count, idfreeL_rows B.fr]
  have h2 : ¬ (60000 : Int) < s.size := by omega
  have e : putT b s = b ++ (hiL s.size ++ sB s) := if_pos h
  have hw := wrap_hi h
  have hw2 := wrap_lo s.size
  have c1 : b.length + 2 ≤ 140737488355328 := by omega
  have c2 : b.length + 2 + s.size ≤ 140737488355328 := by omega
  have e2 : (putT b s).length = b.length + 2 + s.size := by rw [e]; simp [hiL, hl]; omega
  have e3 : rows B (putT b s) = rows B b ++ (AV.sc (.int .u8 ((s.size : Int) / 256)) :: AV.sc (.int .u8 ((s.size : Int) % 256)) :: rows B (sB s)) := by rw [e, rows_append, rows_append, ← rowsB_hi]; rfl
  have hid := idfreeL_rows B.fr (putT b s)
  have c3 : b.length + (s.size + 1 + 1) = b.length + 2 + s.size := by omega
  rw [e3] at hid
  rw [e2, e3]
  simp [h2, hw, hw2, over, ex1, B.count, c1, c2, c3, strCells_rows, hl, hid]
/- 95: loop.example/g00464/spec.PutText -/
def A95 : AC := (.seq (.ops [⟨(some 4), none, .q (.mov (.c .em))⟩])
  (.seq (.ops [⟨(some 6), none, .w (.bsl 1 0 [] [])⟩, ⟨(some 7), none, .q (.mov (.t 0))⟩, ⟨(some 8), none, .w (.app 1 1 false (.t 6) (.t 7))⟩, ⟨(some 5), none, .q (.mov (.t 8))⟩])
  (.seq (.seq (.ops [⟨(some 9), none, .q (.mov (.t 1))⟩, ⟨(some 10), none, .q (.slen (.t 9))⟩, ⟨(some 11), none, .q (.bin .gtr (.t 10) (.c (.sc (.int .i64 60000))))⟩])
  (.cond (.t 11) (.seq (.ops [⟨(some 12), none, .q (.mov (.t 5))⟩, ⟨(some 4), none, .q (.mov (.t 12))⟩])
  .ret)
  .skip))
  (.seq (.ops [⟨(some 13), none, .q (.mov (.t 5))⟩, ⟨(some 14), none, .q (.mov (.t 1))⟩, ⟨(some 15), none, .q (.slen (.t 14))⟩, ⟨(some 16), none, .q (.bin .shr (.t 15) (.c (.sc (.int .u64 8))))⟩, ⟨(some 17), none, .q (.cvi .u8 (.t 16))⟩, ⟨(some 18), none, .q (.mov (.t 1))⟩, ⟨(some 19), none, .q (.slen (.t 18))⟩, ⟨(some 20), none, .q (.cvi .u8 (.t 19))⟩, ⟨(some 21), none, .w (.bsl 1 2 [(.sc (.int .u8 0)), (.sc (.int .u8 0))] [(0, 1, (.t 17)), (1, 1, (.t 20))])⟩, ⟨(some 22), none, .w (.app 1 1 false (.t 13) (.t 21))⟩, ⟨(some 5), none, .q (.mov (.t 22))⟩])
  (.seq (.ops [⟨(some 23), none, .q (.mov (.t 5))⟩, ⟨(some 24), none, .q (.mov (.t 1))⟩, ⟨(some 25), none, .w (.app 1 1 true (.t 23) (.t 24))⟩, ⟨(some 4), none, .q (.mov (.t 25))⟩])
  .ret)))))
theorem K95 : Tryz.f95.body.bind (comp Tryz.prog) = some A95 ∧ Tryz.f95.ntmps = 26 ∧ Tryz.f95.results.toList.mapM (resB Tryz.prog) = some [.mov (.t 4)] := ⟨by kernel_rfl, by kernel_rfl, by kernel_rfl⟩
theorem R95 (b : List Int) (s : ByteArray) (hb : b.length + s.size ≤ 140737488350000) : Ret Tryz.prog 95 [.ro (rows B b) b.length, .sc (.string s)] (.own (rows B (putT b s)) (putT b s).length 1) [.un, .un] := by
  have hl := sB_len s
  have c0 : b.length ≤ 140737488355328 := by omega
  refine Ret.run Tryz.func95 K95 (by simp) rfl rfl 500 ?_
  simp [A95, iniρ, over]
  by_cases h : s.size ≤ 60000
  case neg =>
    have h2 : (60000 : Int) < s.size := by omega
    have e : putT b s = b := if_neg h
    simp [h2, e, ex1, B.count, idfreeL_rows B.fr, c0]
  have h2 : ¬ (60000 : Int) < s.size := by omega
  have e : putT b s = b ++ (hiL s.size ++ sB s) := if_pos h
  have hw := wrap_hi h
  have hw2 := wrap_lo s.size
  have c1 : b.length + 2 ≤ 140737488355328 := by omega
  have c2 : b.length + 2 + s.size ≤ 140737488355328 := by omega
  have e2 : (putT b s).length = b.length + 2 + s.size := by rw [e]; simp [hiL, hl]; omega
  have e3 : rows B (putT b s) = rows B b ++ (AV.sc (.int .u8 ((s.size : Int) / 256)) :: AV.sc (.int .u8 ((s.size : Int) % 256)) :: rows B (sB s)) := by rw [e, rows_append, rows_append, ← rowsB_hi]; rfl
  have hid := idfreeL_rows B.fr (putT b s)
  have c3 : b.length + (s.size + 1 + 1) = b.length + 2 + s.size := by omega
  rw [e3] at hid
  rw [e2, e3]
  simp [h2, hw, hw2, over, ex1, B.count, c0, c1, c2, c3, strCells_rows, hl, hid]
/- 101: loop.example/g00464/impl.GetText -/
/- 104: loop.example/g00464/spec.GetText -/
end Go.Proofs.YtaknfalbmblagaaGreatDoor.Am
namespace Go.Proofs.YtaknfalbmblagaaGreatDoor.Am
open Go Go.Proofs
set_option linter.unusedSimpArgs false
set_option linter.unusedVariables false
attribute [local congr] T_congr callK_congr callWK_congr
attribute [local simp] run_nil run_op0 run_opg run_seq run_cond run_block run_ret run_skip run_skip_after run_skip_blk run_exit run_exit_after run_exit_blk run_loop run_any runS_nil runS_op0 runS_opg runW_nil runW_op0 runW_opg exec_q exec_w exec_c exec_n execW_q execW_w execW_c restW_app hideH_app merge_app wblk rest_app restS_app execS_q execS_c aval dOk upd_app ev_t ev_c setO_some setO_none put_mk pinsOf isIo hasIo sbin endR fin resL one outL out1 clo1 cloL coe coeL shut shut.shutL wantA weff cellsOf fillA deref natOf ρ0_app h0_app plain plain.plainL keep_app keepH_app andThen_normal andThen_ret andThen_exit pop_nil pop_after pop_after_ret pop_after_exit pop_blk pop_blk_ret pop_blk_exit nilA srcOf srcCells keepR_app keepHR_app renA rb
def digC (n : Int) : ByteArray := strOfNums [IntKind.u8.wrap (48 + n)]
theorem digC_size (n : Int) : (digC n).size = 1 := rfl
def numF : Nat → Nat → ByteArray → ByteArray
  | 0, _, a => a
  | k + 1, n, a => if 9 < n then numF k (n / 10) (digC ((n : Int) / 10 % 10) ++ a) else a
def numT (n : Nat) : ByteArray := numF n n (digC ((n : Int) % 10))
/- 75: loop.example/g00464/spec.NumText -/
def A75 : AC := (.seq (.ops [⟨(some 2), none, .q (.mov (.c (.sc (.string ⟨#[]⟩))))⟩])
  (.seq (.seq (.ops [⟨(some 4), none, .q (.mov (.t 0))⟩, ⟨(some 5), none, .q (.bin .lss (.t 4) (.c (.sc (.int .i64 0))))⟩])
  (.cond (.t 5) (.ops [⟨(some 0), none, .q (.mov (.c (.sc (.int .i64 0))))⟩])
  .skip))
  (.seq (.ops [⟨(some 6), none, .q (.mov (.t 0))⟩, ⟨(some 7), none, .q (.bin .rem (.t 6) (.c (.sc (.int .i64 10))))⟩, ⟨(some 8), none, .q (.bin .add (.c (.sc (.int .i64 48))) (.t 7))⟩, ⟨(some 9), none, .q (.cvi .u8 (.t 8))⟩, ⟨(some 10), none, .w (.bsl 1 1 [(.sc (.int .u8 0))] [(0, 1, (.t 9))])⟩, ⟨(some 11), none, .q (.bstr (.t 10))⟩, ⟨(some 3), none, .q (.mov (.t 11))⟩])
  (.seq (.block 0 (.loop (.seq (.seq (.ops [⟨(some 12), none, .q (.mov (.t 0))⟩, ⟨(some 13), none, .q (.bin .gtr (.t 12) (.c (.sc (.int .i64 9))))⟩])
  (.cond (.t 13) .skip
  (.exit 0)))
  (.block 1 (.seq (.ops [⟨(some 14), none, .q (.mov (.t 0))⟩, ⟨(some 15), none, .q (.bin .quo (.t 14) (.c (.sc (.int .i64 10))))⟩, ⟨(some 0), none, .q (.mov (.t 15))⟩])
  (.ops [⟨(some 16), none, .q (.mov (.t 0))⟩, ⟨(some 17), none, .q (.bin .rem (.t 16) (.c (.sc (.int .i64 10))))⟩, ⟨(some 18), none, .q (.bin .add (.c (.sc (.int .i64 48))) (.t 17))⟩, ⟨(some 19), none, .q (.cvi .u8 (.t 18))⟩, ⟨(some 20), none, .w (.bsl 1 1 [(.sc (.int .u8 0))] [(0, 1, (.t 19))])⟩, ⟨(some 21), none, .q (.bstr (.t 20))⟩, ⟨(some 22), none, .q (.mov (.t 3))⟩, ⟨(some 23), none, .q (.bin .add (.t 21) (.t 22))⟩, ⟨(some 3), none, .q (.mov (.t 23))⟩]))))))
  (.seq (.ops [⟨(some 24), none, .q (.mov (.t 3))⟩, ⟨(some 2), none, .q (.mov (.t 24))⟩])
  .ret)))))
theorem K75 : Tryz.f75.body.bind (comp Tryz.prog) = some A75 ∧ Tryz.f75.ntmps = 25 ∧ Tryz.f75.results.toList.mapM (resB Tryz.prog) = some [.mov (.t 2)] := ⟨by kernel_rfl, by kernel_rfl, by kernel_rfl⟩
theorem R75 (n : Nat) (hn : n < 4611686018427387904) : Ret Tryz.prog 75 [.sc (.int .i64 n)] (.sc (.string (numT n))) [.un] := by
  have hrem : (n : Int).tmod 10 = (n : Int) % 10 := rfl
  have hw0 : IntKind.i64.wrap (48 + (n : Int) % 10) = 48 + (n : Int) % 10 := wrap_i64 (by omega) (by omega)
  have hz0 : (digC ((n : Int) % 10)).size + n ≤ n + 1 := by rw [digC_size]; omega
  have h0n : ¬ ((n : Int) < 0) := by omega
  refine Ret.run Tryz.func75 K75 (by simp) rfl rfl 900 ?_
  simp only [A75, iniρ]
  simp [h0n, over, hrem, hw0, bytesA, num8]
  refine T.rounds (μ := fun i : Nat × Nat × ByteArray => i.1)
    (fun i s => i.2.1 ≤ i.1 ∧ i.2.2.size + i.2.1 ≤ n + 1 ∧ numF i.1 i.2.1 i.2.2 = numT n ∧ s.ρ 0 = .sc (.int .i64 i.2.1) ∧ s.ρ 3 = .sc (.string i.2.2) ∧ s.h 20 = none ∧ s.n = 25) (n, n, digC ((n : Int) % 10)) (by simp [upd_app, numT, hz0]; rfl) ?_
  rintro ⟨k, m, a⟩ ⟨ρ, hh, n'⟩ ⟨hk, hs, hE, h0', h3', f1, rfl⟩
  simp only at hk hs hE h0' h3' f1
  refine run_ok (n := 400) ?_
  by_cases h9 : 9 < m
  case neg =>
    have h9' : ¬ ((9 : Int) < m) := by omega
    have hE2 : a = numT n := by rw [← hE]; cases k <;> simp [numF, h9]
    simp [h0', h9']
    refine T.on 400 ?_
    simp [h3', hE2]
  have h9' : (9 : Int) < m := by omega
  obtain ⟨k, rfl⟩ : ∃ k', k = k' + 1 := ⟨k - 1, by omega⟩
  rw [numF, if_pos h9] at hE
  have hq1 : (m : Int).tdiv 10 = (m : Int) / 10 := rfl
  have hw1 : IntKind.i64.wrap ((m : Int) / 10) = (m : Int) / 10 := wrap_i64 (by omega) (by omega)
  have hr2 : ((m : Int) / 10).tmod 10 = (m : Int) / 10 % 10 := rfl
  have hw2 : IntKind.i64.wrap (48 + (m : Int) / 10 % 10) = 48 + (m : Int) / 10 % 10 := wrap_i64 (by omega) (by omega)
  have hsz : (strOfNums [IntKind.u8.wrap (48 + (m : Int) / 10 % 10)]).size + a.size ≤ 9223372036854775807 := by
    have := digC_size ((m : Int) / 10 % 10)
    rw [digC] at this
    rw [this]; omega
  simp [h0', h3', h9', f1, over, hq1, hw1, hr2, hw2, bytesA, num8, hsz]
  refine ⟨k, by omega, m / 10, digC ((m : Int) / 10 % 10) ++ a, _, Le.reset [0, 3] [] (by simp [upd_app, menB, idfree]) (by simp), ?_⟩
  simp [upd_app, hE, digC_size]
  exact ⟨by omega, by omega, rfl⟩
theorem numF_size : ∀ (k n : Nat) (a : ByteArray), (numF k n a).size ≤ a.size + n
  | 0, n, a => Nat.le_add_right _ _
  | k + 1, n, a => by
    rw [numF]
    split
    · have h := numF_size k (n / 10) (digC ((n : Int) / 10 % 10) ++ a)
      rw [ByteArray.size_append, digC_size] at h
      omega
    · exact Nat.le_add_right _ _
theorem numT_size (n : Nat) : (numT n).size ≤ n + 1 := by
  have h := numF_size n n (digC ((n : Int) % 10))
  rw [digC_size] at h
  rw [numT]; omega
end Go.Proofs.YtaknfalbmblagaaGreatDoor.Am
namespace Go.Proofs.YtaknfalbmblagaaGreatDoor.Am
open Go Go.Proofs
set_option linter.unusedSimpArgs false
set_option linter.unusedVariables false
attribute [local congr] T_congr callK_congr callWK_congr
attribute [local simp] run_nil run_op0 run_opg run_seq run_cond run_block run_ret run_skip run_skip_after run_skip_blk run_exit run_exit_after run_exit_blk run_loop run_any runS_nil runS_op0 runS_opg runW_nil runW_op0 runW_opg exec_q exec_w exec_c exec_n execW_q execW_w execW_c restW_app hideH_app merge_app wblk rest_app restS_app execS_q execS_c aval dOk upd_app ev_t ev_c setO_some setO_none put_mk pinsOf isIo hasIo sbin endR fin resL one outL out1 clo1 cloL coe coeL shut shut.shutL wantA weff cellsOf fillA deref natOf ρ0_app h0_app plain plain.plainL keep_app keepH_app andThen_normal andThen_ret andThen_exit pop_nil pop_after pop_after_ret pop_after_exit pop_blk pop_blk_ret pop_blk_exit nilA srcOf srcCells keepR_app keepHR_app renA rb
theorem digC_is (m : Nat) (h : m < 10) : digC (m : Int) = ⟨#[UInt8.ofNat (48 + m)]⟩ := by
  have : m = 0 ∨ m = 1 ∨ m = 2 ∨ m = 3 ∨ m = 4 ∨ m = 5 ∨ m = 6 ∨ m = 7 ∨ m = 8 ∨ m = 9 := by omega
  rcases this with rfl | rfl | rfl | rfl | rfl | rfl | rfl | rfl | rfl | rfl <;> rfl
theorem ba_app (a b : List UInt8) : (⟨a.toArray⟩ : ByteArray) ++ (⟨b.toArray⟩ : ByteArray) = ⟨(a ++ b).toArray⟩ := by
  apply ByteArray.ext
  simp [ByteArray.data_append]
theorem numF_dec : ∀ (k n : Nat) (b : ByteArray), n ≤ k → numF k n (digC ((n : Int) % 10) ++ b) = ⟨(Lib.decDigits n).toArray⟩ ++ b := by
  intro k
  induction k with
  | zero =>
    intro n b h
    obtain rfl : n = 0 := by omega
    rw [Lib.decDigits]; rfl
  | succ k ih =>
    intro n b h
    by_cases h9 : 9 < n
    · rw [numF, if_pos h9]
      have e1 : ((n : Int) / 10 % 10) = ((n / 10 : Nat) : Int) % 10 := by omega
      have hd : Lib.decDigits n = Lib.decDigits (n / 10) ++ [UInt8.ofNat (48 + n % 10)] := by rw [Lib.decDigits, dif_neg (by omega)]
      rw [e1, ih (n / 10) _ (by omega), hd]
      have e2 : ((n : Int) % 10) = ((n % 10 : Nat) : Int) := by omega
      rw [e2, digC_is _ (by omega), ← ba_app, ByteArray.append_assoc]
    · rw [numF, if_neg h9, Lib.decDigits, dif_pos (by omega)]
      have e2 : ((n : Int) % 10) = (n : Int) := by omega
      rw [e2, digC_is _ (by omega)]
theorem numT_dec (n : Nat) : (⟨(Lib.itoa n).toArray⟩ : ByteArray) = numT n := by
  have h := numF_dec n n ⟨#[]⟩ (Nat.le_refl _)
  have e : ∀ a : ByteArray, a ++ (⟨#[]⟩ : ByteArray) = a := fun a => by apply ByteArray.ext; simp [ByteArray.data_append]
  rw [e, e] at h
  rw [numT, h, Lib.itoa, if_neg (by omega)]
  rfl
theorem R116 (n : Int) (h0 : -9223372036854775808 ≤ n) (h1 : n ≤ 9223372036854775807) : Ret Tryz.prog 116 [.sc (.int .i64 n)] (.sc (.string ⟨(Lib.itoa n).toArray⟩)) [.un] :=
  Ret.itoaOf (fun n w h0 h1 ht => Any.strconv_Itoa Tryz.laysM171 n h0 h1 w ht) n h0 h1
/- 103: loop.example/g00464/impl.NumText -/
def A103 : AC := (.seq (.ops [⟨(some 2), none, .q (.mov (.c (.sc (.string ⟨#[]⟩))))⟩])
  (.seq (.ops [⟨(some 3), none, .q (.mov (.t 0))⟩, ⟨(some 4), none, .q (.mm false (.t 3) (.c (.sc (.int .i64 0))))⟩, ⟨(some 5), none, .c (.c (.clo 116 [])) [(.t 4)]⟩, ⟨(some 2), none, .q (.mov (.t 5))⟩])
  .ret))
theorem K103 : Tryz.f103.body.bind (comp Tryz.prog) = some A103 ∧ Tryz.f103.ntmps = 6 ∧ Tryz.f103.results.toList.mapM (resB Tryz.prog) = some [.mov (.t 2)] := ⟨by kernel_rfl, by kernel_rfl, by kernel_rfl⟩
theorem R103 (n : Nat) (hn : n < 4611686018427387904) : Ret Tryz.prog 103 [.sc (.int .i64 n)] (.sc (.string (numT n))) [.un] := by
  have h0 : ¬ ((n : Int) < 0) := by omega
  have r := R116 n (by omega) (by omega)
  rw [numT_dec] at r
  refine Ret.run Tryz.func103 K103 (by simp) rfl rfl 500 ?_
  simp [A103, iniρ, h0]
  refine callK.ro 0 rfl (by kernel_rfl) (by simp [roc_sc, upd_app]) r rfl rfl rfl ?_
  simp
end Go.Proofs.YtaknfalbmblagaaGreatDoor.Am
namespace Go.Proofs.YtaknfalbmblagaaGreatDoor.Am
open Go Go.Proofs
set_option linter.unusedSimpArgs false
set_option linter.unusedVariables false
attribute [local congr] T_congr callK_congr callWK_congr
attribute [local simp] run_nil run_op0 run_opg run_seq run_cond run_block run_ret run_skip run_skip_after run_skip_blk run_exit run_exit_after run_exit_blk run_loop run_any runS_nil runS_op0 runS_opg runW_nil runW_op0 runW_opg exec_q exec_w exec_c exec_n execW_q execW_w execW_c restW_app hideH_app merge_app wblk rest_app restS_app execS_q execS_c aval dOk upd_app ev_t ev_c setO_some setO_none put_mk pinsOf isIo hasIo sbin endR fin resL one outL out1 clo1 cloL coe coeL shut shut.shutL wantA weff cellsOf fillA deref natOf ρ0_app h0_app plain plain.plainL keep_app keepH_app andThen_normal andThen_ret andThen_exit pop_nil pop_after pop_after_ret pop_after_exit pop_blk pop_blk_ret pop_blk_exit nilA srcOf srcCells keepR_app keepHR_app renA rb
def parseT (s : ByteArray) : Option (ByteArray × ByteArray) :=
  if nameOk (cutF s 35).1 = true ∧ nameOk (cutF s 35).2.1 = true then some ((cutF s 35).1, (cutF s 35).2.1) else none
def taskA : Option (ByteArray × ByteArray) → AV
  | some (a, b) => .tup [.sc (.string a), .sc (.string b), .sc (.bool true)]
  | none => .tup [.sc (.string ⟨#[]⟩), .sc (.string ⟨#[]⟩), .sc (.bool false)]
theorem cutF_size (s : ByteArray) (c : UInt8) : (cutF s c).1.size ≤ s.size ∧ (cutF s c).2.1.size ≤ s.size := by
  unfold cutF
  split
  · exact ⟨by rw [ByteArray.size_extract]; omega, by rw [ByteArray.size_extract]; omega⟩
  · exact ⟨Nat.le_refl _, Nat.zero_le _⟩
theorem nameC35 (i : Nat) : nameC i 35 = false := by
  have e : ((35 : UInt8).toNat : Int) = 35 := rfl
  simp [nameC, e, smallI, figI]
theorem nameL35 : ∀ (l : List UInt8) (i : Nat), (35 : UInt8) ∈ l → nameL l i = false
  | [], i, h => by simp at h
  | x :: l, i, h => by
    rcases List.mem_cons.1 h with rfl | h
    · rw [nameL, nameC35]; rfl
    · rw [nameL, nameL35 l _ h, Bool.and_false]
theorem name35 {s : ByteArray} (h : (35 : UInt8) ∈ s.data.toList) : nameOk s = false := by
  rw [nameOk, nameL35 _ _ h]; rfl
theorem nameE : nameOk ⟨#[]⟩ = false := rfl
/-- what the document's ParseTask asks -/
theorem parseT_split (s : ByteArray) : parseT s = match splitS s 35 with
    | [a, b] => if nameOk a = true ∧ nameOk b = true then some (a, b) else none
    | _ => none := by
  have e35 : ((35 : UInt8).toNat : Int) = 35 := rfl
  unfold parseT splitS
  rcases ixB_cases 35 s.data.toList with ⟨e, hn⟩ | ⟨p, q, e, hn, e2⟩
  · have h := splitP_miss s 35 0 s.data.toList 0 hn
    rw [e35] at h
    rw [h]
    have hc : (cutF s 35).2.1 = ⟨#[]⟩ := by unfold cutF; rw [e]; rfl
    rw [hc, nameE]
    simp
  · have h := splitP_hit s 35 0 q p 0 hn
    rw [← e, e35] at h
    rw [h]
    have hsz := str_len e.symm
    simp only [List.length_append, List.length_cons] at hsz
    have hc : cutF s 35 = (s.extract 0 p.length, s.extract (p.length + 1) s.size, true) := by unfold cutF; rw [e2]; simp
    have hq : (s.extract (p.length + 1) s.size).data.toList = q := by
      rw [drop_str, e, show p.length + 1 = (p ++ [(35 : UInt8)]).length by simp, show p ++ (35 : UInt8) :: q = (p ++ [35]) ++ q by simp, List.drop_left]
    rw [hc]
    simp only [Nat.zero_add]
    by_cases hm : (35 : UInt8) ∈ q
    · have hf : nameOk (s.extract (p.length + 1) s.size) = false := name35 (by rw [hq]; exact hm)
      rw [hf]
      obtain ⟨p2, q2, e3, hn2⟩ : ∃ p2 q2, q = p2 ++ (35 : UInt8) :: q2 ∧ (35 : UInt8) ∉ p2 := by
        rcases ixB_cases 35 q with ⟨_, h⟩ | ⟨p2, q2, h, h2, _⟩
        · exact absurd hm h
        · exact ⟨p2, q2, h, h2⟩
      have h2 := splitP_hit s 35 (p.length + 1) q2 p2 (p.length + 1) hn2
      rw [e35] at h2
      rw [e3, h2]
      cases q3 : splitP s 35 (p.length + 1 + p2.length + 1) (p.length + 1 + p2.length + 1) q2 with
      | nil =>
        have h3 := splitP_cnt s 35 q2 (p.length + 1 + p2.length + 1) (p.length + 1 + p2.length + 1)
        rw [e35, q3] at h3
        simp at h3
      | cons x l => simp
    · have h2 := splitP_miss s 35 (p.length + 1) q (p.length + 1) hm
      rw [e35] at h2
      rw [h2, show p.length + 1 + q.length = s.size by omega]
/- 88: loop.example/g00464/impl.ParseTask -/
def A88 : AC := (.seq (.ops [⟨(some 2), none, .q (.mov (.c (.sc (.string ⟨#[]⟩))))⟩, ⟨(some 3), none, .q (.mov (.c (.sc (.string ⟨#[]⟩))))⟩, ⟨(some 4), none, .q (.mov (.c (.sc (.bool false))))⟩])
  (.seq (.ops [⟨(some 9), none, .q (.mov (.t 0))⟩, ⟨(some 10), none, .c (.c (.clo 110 [])) [(.t 9), (.c (.sc (.string ⟨#[35]⟩)))]⟩, ⟨(some 8), none, .q (.mov (.t 10))⟩, ⟨(some 11), none, .q (.ext (.t 8) 0)⟩, ⟨(some 12), none, .q (.ext (.t 8) 1)⟩, ⟨(some 13), none, .q (.ext (.t 8) 2)⟩, ⟨(some 5), none, .q (.mov (.t 11))⟩, ⟨(some 6), none, .q (.mov (.t 12))⟩, ⟨(some 7), none, .q (.mov (.t 13))⟩])
  (.seq (.seq (.ops [⟨(some 14), none, .q (.mov (.t 5))⟩, ⟨(some 15), none, .c (.c (.clo 111 [])) [(.t 14)]⟩, ⟨(some 16), none, .q (.not (.t 15))⟩, ⟨(some 17), none, .q (.mov (.t 16))⟩, ⟨(some 18), (some (17, false)), .q (.mov (.t 6))⟩, ⟨(some 19), (some (17, false)), .c (.c (.clo 111 [])) [(.t 18)]⟩, ⟨(some 20), (some (17, false)), .q (.not (.t 19))⟩, ⟨(some 21), none, .q (.pick (.t 17) (.c (.sc (.bool true))) (.t 20))⟩])
  (.cond (.t 21) (.seq (.ops [⟨(some 2), none, .q (.mov (.c (.sc (.string ⟨#[]⟩))))⟩, ⟨(some 3), none, .q (.mov (.c (.sc (.string ⟨#[]⟩))))⟩, ⟨(some 4), none, .q (.mov (.c (.sc (.bool false))))⟩])
  .ret)
  .skip))
  (.seq (.ops [⟨(some 22), none, .q (.mov (.t 5))⟩, ⟨(some 23), none, .q (.mov (.t 6))⟩, ⟨(some 2), none, .q (.mov (.t 22))⟩, ⟨(some 3), none, .q (.mov (.t 23))⟩, ⟨(some 4), none, .q (.mov (.c (.sc (.bool true))))⟩])
  .ret))))
theorem K88 : Tryz.f88.body.bind (comp Tryz.prog) = some A88 ∧ Tryz.f88.ntmps = 24 ∧ Tryz.f88.results.toList.mapM (resB Tryz.prog) = some [.mov (.t 2), .mov (.t 3), .mov (.t 4)] := ⟨by kernel_rfl, by kernel_rfl, by kernel_rfl⟩
theorem R88 (s : ByteArray) (hs : s.size ≤ 140737488351232) : Ret Tryz.prog 88 [.sc (.string s)] (taskA (parseT s)) [.un] := by
  obtain ⟨c1, c2⟩ := cutF_size s 35
  have hp : parseT s = if nameOk (cutF s 35).1 = true ∧ nameOk (cutF s 35).2.1 = true then some ((cutF s 35).1, (cutF s 35).2.1) else none := rfl
  obtain ⟨x, hx⟩ : ∃ x, x = cutF s 35 := ⟨_, rfl⟩
  have rc := R110 s 35 hs
  rw [← hx] at c1 c2 hp rc
  rw [hp]
  refine Ret.run Tryz.func88 K88 (by simp) rfl rfl 500 ?_
  simp [A88, iniρ]
  refine callK.ro 0 rfl (by kernel_rfl) (by simp [roc_sc]) rc rfl (by simp [cutRes, inst, instL, shut]; exact ⟨rfl, rfl⟩) rfl ?_
  simp
  refine callK.ro 0 rfl (by kernel_rfl) (by simp [roc_sc]) (R111 x.1 (by omega)) rfl rfl rfl ?_
  cases h1 : nameOk x.1
  case false => simp [taskA]
  simp
  refine callK.ro 0 rfl (by kernel_rfl) (by simp [roc_sc]) (R111 x.2.1 (by omega)) rfl rfl rfl ?_
  cases h2 : nameOk x.2.1
  case false => simp [taskA]
  simp [taskA]
/- 50: loop.example/g00464/impl.isTask -/
def A50 : AC := (.seq (.ops [⟨(some 2), none, .q (.mov (.c (.sc (.bool false))))⟩])
  (.seq (.ops [⟨(some 7), none, .q (.mov (.t 0))⟩, ⟨(some 8), none, .c (.c (.clo 88 [])) [(.t 7)]⟩, ⟨(some 6), none, .q (.mov (.t 8))⟩, ⟨(some 9), none, .q (.ext (.t 6) 0)⟩, ⟨(some 10), none, .q (.ext (.t 6) 1)⟩, ⟨(some 11), none, .q (.ext (.t 6) 2)⟩, ⟨(some 3), none, .q (.mov (.t 9))⟩, ⟨(some 4), none, .q (.mov (.t 10))⟩, ⟨(some 5), none, .q (.mov (.t 11))⟩])
  (.seq (.ops [⟨(some 12), none, .q (.mov (.t 5))⟩, ⟨(some 2), none, .q (.mov (.t 12))⟩])
  .ret)))
theorem K50 : Tryz.f50.body.bind (comp Tryz.prog) = some A50 ∧ Tryz.f50.ntmps = 13 ∧ Tryz.f50.results.toList.mapM (resB Tryz.prog) = some [.mov (.t 2)] := ⟨by kernel_rfl, by kernel_rfl, by kernel_rfl⟩
theorem R50 (s : ByteArray) (hs : s.size ≤ 140737488351232) : Ret Tryz.prog 50 [.sc (.string s)] (.sc (.bool (parseT s).isSome)) [.un] := by
  have rp := R88 s hs
  obtain ⟨x, hx⟩ : ∃ x, x = parseT s := ⟨_, rfl⟩
  rw [← hx] at rp ⊢
  refine Ret.run Tryz.func50 K50 (by simp) rfl rfl 500 ?_
  simp [A50, iniρ]
  cases x with
  | none =>
    refine callK.ro 0 rfl (by kernel_rfl) (by simp [roc_sc]) rp rfl (by simp [taskA, inst, instL, shut]; exact ⟨rfl, rfl⟩) rfl ?_
    simp
  | some x =>
    refine callK.ro 0 rfl (by kernel_rfl) (by simp [roc_sc]) rp rfl (by simp [taskA, inst, instL, shut]; exact ⟨rfl, rfl⟩) rfl ?_
    simp
/- 85: loop.example/g00464/spec.ParseTask -/
def A85 : AC := (.seq (.ops [⟨(some 2), none, .q (.mov (.c (.sc (.string ⟨#[]⟩))))⟩, ⟨(some 3), none, .q (.mov (.c (.sc (.string ⟨#[]⟩))))⟩, ⟨(some 4), none, .q (.mov (.c (.sc (.bool false))))⟩])
  (.seq (.ops [⟨(some 6), none, .q (.mov (.t 0))⟩, ⟨(some 7), none, .c (.c (.clo 106 [])) [(.t 6), (.c (.sc (.int .u8 35)))]⟩, ⟨(some 5), none, .q (.mov (.t 7))⟩])
  (.seq (.seq (.ops [⟨(some 8), none, .q (.mov (.t 5))⟩, ⟨(some 9), none, .q (.llen (.t 8))⟩, ⟨(some 10), none, .q (.bin .neq (.t 9) (.c (.sc (.int .i64 2))))⟩, ⟨(some 11), none, .q (.mov (.t 10))⟩, ⟨(some 12), (some (11, false)), .q (.mov (.t 5))⟩, ⟨(some 13), (some (11, false)), .q (.iadr 1 (.t 12) (.c (.sc (.int .i64 0))))⟩, ⟨(some 14), (some (11, false)), .q (.load false 1 (.t 13))⟩, ⟨(some 15), (some (11, false)), .c (.c (.clo 107 [])) [(.t 14)]⟩, ⟨(some 16), (some (11, false)), .q (.not (.t 15))⟩, ⟨(some 17), none, .q (.pick (.t 11) (.c (.sc (.bool true))) (.t 16))⟩, ⟨(some 18), none, .q (.mov (.t 17))⟩, ⟨(some 19), (some (18, false)), .q (.mov (.t 5))⟩, ⟨(some 20), (some (18, false)), .q (.iadr 1 (.t 19) (.c (.sc (.int .i64 1))))⟩, ⟨(some 21), (some (18, false)), .q (.load false 1 (.t 20))⟩, ⟨(some 22), (some (18, false)), .c (.c (.clo 107 [])) [(.t 21)]⟩, ⟨(some 23), (some (18, false)), .q (.not (.t 22))⟩, ⟨(some 24), none, .q (.pick (.t 18) (.c (.sc (.bool true))) (.t 23))⟩])
  (.cond (.t 24) (.seq (.ops [⟨(some 2), none, .q (.mov (.c (.sc (.string ⟨#[]⟩))))⟩, ⟨(some 3), none, .q (.mov (.c (.sc (.string ⟨#[]⟩))))⟩, ⟨(some 4), none, .q (.mov (.c (.sc (.bool false))))⟩])
  .ret)
  .skip))
  (.seq (.any [(⟨(some 25), none, .q (.mov (.t 5))⟩, []), (⟨(some 26), none, .q (.iadr 1 (.t 25) (.c (.sc (.int .i64 0))))⟩, [0]), (⟨(some 27), none, .q (.load false 1 (.t 26))⟩, [1]), (⟨(some 28), none, .q (.mov (.t 5))⟩, []), (⟨(some 29), none, .q (.iadr 1 (.t 28) (.c (.sc (.int .i64 1))))⟩, [3]), (⟨(some 30), none, .q (.load false 1 (.t 29))⟩, [4]), (⟨(some 2), none, .q (.mov (.t 27))⟩, [2, 0, 1, 2]), (⟨(some 3), none, .q (.mov (.t 30))⟩, [5, 6, 0, 1, 2, 3, 4, 5, 6]), (⟨(some 4), none, .q (.mov (.c (.sc (.bool true))))⟩, [7, 0, 1, 2, 3, 4, 5, 6, 7])])
  .ret))))
theorem K85 : Tryz.f85.body.bind (comp Tryz.prog) = some A85 ∧ Tryz.f85.ntmps = 31 ∧ Tryz.f85.results.toList.mapM (resB Tryz.prog) = some [.mov (.t 2), .mov (.t 3), .mov (.t 4)] := ⟨by kernel_rfl, by kernel_rfl, by kernel_rfl⟩
set_option maxHeartbeats 1000000 in
theorem R85 (s : ByteArray) (hs : s.size ≤ 1048576) : Ret Tryz.prog 85 [.sc (.string s)] (taskA (parseT s)) [.un] := by
  have hp := parseT_split s
  have hz : ∀ x ∈ splitS s 35, x.size ≤ s.size := splitP_size s 35 _ 0 0
  obtain ⟨ps, hps⟩ : ∃ ps, ps = splitS s 35 := ⟨_, rfl⟩
  have rs := R106 s 35 hs
  rw [← hps] at hz rs hp
  have rest : ∀ (l : List ByteArray), ps = l → l.length ≠ 2 → parseT s = none := fun l h1 h2 => by
    rw [hp, h1]
    match l, h2 with
    | [], _ => rfl
    | [_], _ => rfl
    | _ :: _ :: _ :: _, _ => rfl
    | [_, _], h2 => exact absurd rfl h2
  refine Ret.run Tryz.func85 K85 (by simp) rfl rfl 500 ?_
  simp [A85, iniρ]
  refine callK.own 7 rfl (by kernel_rfl) (by simp [roc_sc]) rs (Ty.str.flo ps) (by simp) rfl ?_
  by_cases hl : ps.length = 2
  case neg =>
    have hl' : ¬ ((ps.length : Int) = 2) := by omega
    rw [rest ps rfl hl]
    simp [hl, hl', taskA]
  obtain ⟨a, b, rfl⟩ : ∃ a b, ps = [a, b] := by
    match ps, hl with
    | [a, b], _ => exact ⟨a, b, rfl⟩
  have ha := hz a (by simp)
  have hb := hz b (by simp)
  have er : rows Ty.str.oc [a, b] = [.sc (.string a), .sc (.string b)] := rfl
  simp only at hp
  rw [hp]
  simp [er]
  refine callK.ro 0 rfl (by kernel_rfl) (by simp [roc_sc, upd_app]) (R107 a (by omega)) rfl rfl rfl ?_
  cases h1 : nameOk a
  case false => simp [taskA]
  simp [er]
  refine callK.ro 0 rfl (by kernel_rfl) (by simp [roc_sc, upd_app]) (R107 b (by omega)) rfl rfl rfl ?_
  cases h2 : nameOk b
  case false => simp [taskA]
  simp
  refine T.text 400 mixed (by kernel_rfl) (by kernel_rfl) ?_
  simp [er, taskA]
def madeOk (m : Made) : Bool := (parseT m.task).isSome && (outsOk m.outs && decide (m.log.size ≤ 200))
/- 16: loop.example/g00464/impl.MadeOk -/
def A16 : AC := (.seq (.ops [⟨(some 1), none, .w (.box (.t 0))⟩, ⟨(some 2), none, .q (.mov (.c (.sc (.bool false))))⟩])
  (.seq (.ops [⟨(some 3), none, .q (.fadr 0 (.t 1))⟩, ⟨(some 4), none, .q (.load false 1 (.t 3))⟩, ⟨(some 5), none, .c (.c (.clo 50 [])) [(.t 4)]⟩, ⟨(some 6), none, .q (.mov (.t 5))⟩, ⟨(some 7), (some (6, true)), .q (.fadr 1 (.t 1))⟩, ⟨(some 8), (some (6, true)), .q (.load false 1 (.t 7))⟩, ⟨(some 9), (some (6, true)), .c (.c (.clo 51 [])) [(.t 8)]⟩, ⟨(some 10), none, .q (.pick (.t 6) (.t 9) (.c (.sc (.bool false))))⟩, ⟨(some 11), none, .q (.mov (.t 10))⟩, ⟨(some 12), (some (11, true)), .q (.fadr 2 (.t 1))⟩, ⟨(some 13), (some (11, true)), .q (.load false 1 (.t 12))⟩, ⟨(some 14), (some (11, true)), .q (.slen (.t 13))⟩, ⟨(some 15), (some (11, true)), .q (.bin .leq (.t 14) (.c (.sc (.int .i64 200))))⟩, ⟨(some 16), none, .q (.pick (.t 11) (.t 15) (.c (.sc (.bool false))))⟩, ⟨(some 2), none, .q (.mov (.t 16))⟩])
  .ret))
theorem K16 : Tryz.f16.body.bind (comp Tryz.prog) = some A16 ∧ Tryz.f16.ntmps = 17 ∧ Tryz.f16.results.toList.mapM (resB Tryz.prog) = some [.mov (.t 2)] := ⟨by kernel_rfl, by kernel_rfl, by kernel_rfl⟩
theorem R16 (m : Made) (h1 : m.task.size ≤ 1048576) (hb : m.outs.length < 4611686018427387904) (hp : ∀ x ∈ m.outs, x.path.size ≤ 1048576) : Ret Tryz.prog 16 [.agg (Made.ty.cs m)] (.sc (.bool (madeOk m))) [.un] := by
  refine Ret.run Tryz.func16 K16 (by simp) rfl rfl 500 ?_
  simp [A16, iniρ, Made.cse]
  refine callK.ro 0 rfl (by kernel_rfl) (by simp [roc_sc, upd_app]) (R50 m.task (by omega)) rfl rfl rfl ?_
  cases h1 : (parseT m.task).isSome
  case false => simp [madeOk, h1]
  simp
  refine callK.ro 0 rfl (by kernel_rfl) (by simp [roc_ro, upd_app]) (R51 m.outs hb hp) rfl rfl rfl ?_
  cases h2 : outsOk m.outs
  case false => simp [madeOk, h2]
  by_cases h3 : m.log.size ≤ 200
  · have h3' : (m.log.size : Int) ≤ 200 := by omega
    simp [madeOk, h1, h2, h3, h3']
  · have h3' : ¬ (m.log.size : Int) ≤ 200 := by omega
    simp [madeOk, h3, h3']
/- 48: loop.example/g00464/spec.MadeOk -/
def A48 : AC := (.seq (.ops [⟨(some 1), none, .w (.box (.t 0))⟩, ⟨(some 2), none, .q (.mov (.c (.sc (.bool false))))⟩])
  (.seq (.ops [⟨(some 8), none, .q (.fadr 0 (.t 1))⟩, ⟨(some 9), none, .q (.load false 1 (.t 8))⟩, ⟨(some 10), none, .c (.c (.clo 85 [])) [(.t 9)]⟩, ⟨(some 7), none, .q (.mov (.t 10))⟩, ⟨(some 11), none, .q (.ext (.t 7) 0)⟩, ⟨(some 12), none, .q (.ext (.t 7) 1)⟩, ⟨(some 13), none, .q (.ext (.t 7) 2)⟩, ⟨(some 3), none, .q (.mov (.t 11))⟩, ⟨(some 4), none, .q (.mov (.t 12))⟩, ⟨(some 5), none, .q (.mov (.t 13))⟩])
  (.seq (.seq (.ops [⟨(some 6), none, .q (.mov (.c (.sc (.int .i64 0))))⟩])
  (.block 0 (.loop (.seq (.seq (.ops [⟨(some 14), none, .q (.mov (.t 6))⟩, ⟨(some 15), none, .q (.fadr 1 (.t 1))⟩, ⟨(some 16), none, .q (.load false 1 (.t 15))⟩, ⟨(some 17), none, .q (.llen (.t 16))⟩, ⟨(some 18), none, .q (.bin .lss (.t 14) (.t 17))⟩])
  (.cond (.t 18) .skip
  (.exit 0)))
  (.seq (.block 1 (.seq (.ops [⟨(some 21), none, .q (.fadr 1 (.t 1))⟩, ⟨(some 22), none, .q (.load false 1 (.t 21))⟩, ⟨(some 23), none, .q (.mov (.t 6))⟩, ⟨(some 24), none, .q (.iadr 2 (.t 22) (.t 23))⟩, ⟨(some 25), none, .q (.fadr 0 (.t 24))⟩, ⟨(some 26), none, .q (.load false 1 (.t 25))⟩, ⟨(some 27), none, .c (.c (.clo 86 [])) [(.t 26)]⟩, ⟨(some 28), none, .q (.not (.t 27))⟩])
  (.cond (.t 28) (.seq (.ops [⟨(some 2), none, .q (.mov (.c (.sc (.bool false))))⟩])
  .ret)
  .skip)))
  (.ops [⟨(some 19), none, .q (.mov (.t 6))⟩, ⟨(some 20), none, .q (.bin .add (.t 19) (.c (.sc (.int .i64 1))))⟩, ⟨(some 6), none, .q (.mov (.t 20))⟩]))))))
  (.seq (.ops [⟨(some 29), none, .q (.mov (.t 5))⟩, ⟨(some 30), none, .q (.mov (.t 29))⟩, ⟨(some 31), (some (30, true)), .q (.fadr 1 (.t 1))⟩, ⟨(some 32), (some (30, true)), .q (.load false 1 (.t 31))⟩, ⟨(some 33), (some (30, true)), .q (.llen (.t 32))⟩, ⟨(some 34), (some (30, true)), .q (.bin .leq (.t 33) (.c (.sc (.int .i64 6))))⟩, ⟨(some 35), none, .q (.pick (.t 30) (.t 34) (.c (.sc (.bool false))))⟩, ⟨(some 36), none, .q (.mov (.t 35))⟩, ⟨(some 37), (some (36, true)), .q (.fadr 1 (.t 1))⟩, ⟨(some 38), (some (36, true)), .q (.load false 1 (.t 37))⟩, ⟨(some 39), (some (36, true)), .c (.c (.clo 87 [])) [(.t 38)]⟩, ⟨(some 40), none, .q (.pick (.t 36) (.t 39) (.c (.sc (.bool false))))⟩, ⟨(some 41), none, .q (.mov (.t 40))⟩, ⟨(some 42), (some (41, true)), .q (.fadr 2 (.t 1))⟩, ⟨(some 43), (some (41, true)), .q (.load false 1 (.t 42))⟩, ⟨(some 44), (some (41, true)), .q (.slen (.t 43))⟩, ⟨(some 45), (some (41, true)), .q (.bin .leq (.t 44) (.c (.sc (.int .i64 200))))⟩, ⟨(some 46), none, .q (.pick (.t 41) (.t 45) (.c (.sc (.bool false))))⟩, ⟨(some 2), none, .q (.mov (.t 46))⟩])
  .ret))))
theorem K48 : Tryz.f48.body.bind (comp Tryz.prog) = some A48 ∧ Tryz.f48.ntmps = 47 ∧ Tryz.f48.results.toList.mapM (resB Tryz.prog) = some [.mov (.t 2)] := ⟨by kernel_rfl, by kernel_rfl, by kernel_rfl⟩
set_option maxHeartbeats 1000000 in
theorem R48 (m : Made) (h1 : m.task.size ≤ 1048576) (hb : m.outs.length < 4611686018427387904) (hp : ∀ x ∈ m.outs, x.path.size ≤ 1048576) : Ret Tryz.prog 48 [.agg (Made.ty.cs m)] (.sc (.bool (madeOk m))) [.un] := by
  have rp := R85 m.task h1
  have hcs := Made.cse m
  obtain ⟨xs, hxs⟩ : ∃ xs, xs = m.outs := ⟨_, rfl⟩
  have hM : madeOk m = ((parseT m.task).isSome && (outsOk xs && decide (m.log.size ≤ 200))) := by rw [hxs]; rfl
  obtain ⟨t, ht⟩ : ∃ t, t = parseT m.task := ⟨_, rfl⟩
  rw [← ht] at rp hM
  rw [hM]
  rw [← hxs] at hb hp hcs
  have fin : ∀ (tk : ByteArray × ByteArray × Bool), taskA t = .tup [.sc (.string tk.1), .sc (.string tk.2.1), .sc (.bool tk.2.2)] → tk.2.2 = t.isSome → Ret Tryz.prog 48 [.agg (Made.ty.cs m)] (.sc (.bool (t.isSome && (outsOk xs && decide (m.log.size ≤ 200))))) [.un] := by
    rintro ⟨ta, tb, tc⟩ e1 e2
    simp only at e1 e2
    rw [e1] at rp
    rw [← e2]
    refine Ret.run Tryz.func48 K48 (by simp) rfl rfl 500 ?_
    simp [A48, iniρ, hcs]
    refine callK.ro 0 rfl (by kernel_rfl) (by simp [roc_sc, upd_app]) rp rfl (by simp [inst, instL, shut]; exact ⟨rfl, rfl⟩) rfl ?_
    simp
    refine T.rounds (μ := fun i : List File × List File => i.2.length)
      (fun i s => i.1 ++ i.2 = xs ∧ namesL i.2 = namesL xs ∧ s.ρ 1 = .ref 1 0 ∧ s.ρ 5 = .sc (.bool tc) ∧ s.ρ 6 = .sc (.int .i64 i.1.length) ∧ s.h 1 = some (some (Made.ty.cs m)) ∧ s.n = 47) ([], xs) (by simp [upd_app, hcs, hxs, Made.cse]) ?_
    rintro ⟨pre, rest⟩ ⟨ρ, hh, n⟩ ⟨hx, hE, k1, k5, k6, b1, rfl⟩
    simp only at hx hE k1 k5 k6 b1
    rw [hcs] at b1
    refine run_ok (n := 400) ?_
    cases rest with
    | nil =>
      have hxl : pre.length = xs.length := by rw [← hx]; simp
      have hA : namesL xs = true := by rw [← hE]; rfl
      simp [k1, k6, b1, hxl]
      refine T.on 400 ?_
      cases tc with
      | false => simp [k5]
      | true =>
        by_cases h6 : xs.length ≤ 6
        · have h6' : (xs.length : Int) ≤ 6 := by omega
          simp [k1, k5, b1, h6']
          refine callK.ro 0 rfl (by kernel_rfl) (by simp [roc_ro, upd_app]) (R87 xs hb hp) rfl rfl rfl ?_
          cases h2 : filesOk xs
          case false => simp [outsOk, h2]
          by_cases h3 : m.log.size ≤ 200
          · have h3' : (m.log.size : Int) ≤ 200 := by omega
            simp [k1, b1, outsOk, hA, h6, h2, h3, h3']
          · have h3' : ¬ (m.log.size : Int) ≤ 200 := by omega
            simp [k1, b1, h3, h3']
        · have h6' : ¬ (xs.length : Int) ≤ 6 := by omega
          simp [k1, k5, b1, h6', outsOk, h6]
    | cons x rest =>
      have hle : pre.length + (rest.length + 1) = xs.length := by rw [← hx]; simp
      have hlt : (pre.length : Int) < xs.length := by omega
      have hw : IntKind.i64.wrap ((pre.length : Int) + 1) = pre.length + 1 := wrap_i64 (by omega) (by omega)
      have hd := rows_drop File.ty.csn pre (x :: rest)
      rw [hx, rows_cons] at hd
      have hd : List.drop (pre.length * 2) (rows File.ty.cs xs) = AV.sc (.string x.path) :: AV.sc (.string x.text) :: rows File.ty.cs rest := hd
      have hxp := hp x (by rw [← hx]; simp)
      simp [k1, k6, b1, hlt, hd]
      refine callK.ro 0 rfl (by kernel_rfl) (by simp [roc_sc, upd_app]) (R86 x.path (by omega)) rfl rfl rfl ?_
      cases h1 : partOk x.path
      · have h2 : namesL xs = false := by rw [← hE, namesL, h1]; rfl
        simp [outsOk, h2]
      · simp [k6, hw]
        refine ⟨pre ++ [x], rest, by simp, _, Le.refl _, ?_⟩
        simp [hx, upd_app, k1, k5, b1, hcs, ← hE, namesL, h1]
  cases t with
  | none => exact fin (⟨#[]⟩, ⟨#[]⟩, false) rfl rfl
  | some t => exact fin (t.1, t.2, true) rfl rfl
end Go.Proofs.YtaknfalbmblagaaGreatDoor.Am
namespace Go.Proofs.YtaknfalbmblagaaGreatDoor.Am
open Go Go.Proofs
set_option linter.unusedSimpArgs false
set_option linter.unusedVariables false
attribute [local congr] T_congr callK_congr callWK_congr
attribute [local simp] run_nil run_op0 run_opg run_seq run_cond run_block run_ret run_skip run_skip_after run_skip_blk run_exit run_exit_after run_exit_blk run_loop run_any runS_nil runS_op0 runS_opg runW_nil runW_op0 runW_opg exec_q exec_w exec_c exec_n execW_q execW_w execW_c restW_app hideH_app merge_app wblk rest_app restS_app execS_q execS_c aval dOk upd_app ev_t ev_c setO_some setO_none put_mk pinsOf isIo hasIo sbin endR fin resL one outL out1 clo1 cloL coe coeL shut shut.shutL wantA weff cellsOf fillA deref natOf ρ0_app h0_app plain plain.plainL keep_app keepH_app andThen_normal andThen_ret andThen_exit pop_nil pop_after pop_after_ret pop_after_exit pop_blk pop_blk_ret pop_blk_exit nilA srcOf srcCells keepR_app keepHR_app renA rb
/- 81: loop.example/g00464/impl.ParseNum -/
/- 84: loop.example/g00464/spec.ParseNum -/
end Go.Proofs.YtaknfalbmblagaaGreatDoor.Am
namespace Go.Proofs.YtaknfalbmblagaaGreatDoor.Am
open Go Go.Proofs
set_option linter.unusedSimpArgs false
set_option linter.unusedVariables false
attribute [local congr] T_congr callK_congr callWK_congr
attribute [local simp] run_nil run_op0 run_opg run_seq run_cond run_block run_ret run_skip run_skip_after run_skip_blk run_exit run_exit_after run_exit_blk run_loop run_any runS_nil runS_op0 runS_opg runW_nil runW_op0 runW_opg exec_q exec_w exec_c exec_n execW_q execW_w execW_c restW_app hideH_app merge_app wblk rest_app restS_app execS_q execS_c aval dOk upd_app ev_t ev_c setO_some setO_none put_mk pinsOf isIo hasIo sbin endR fin resL one outL out1 clo1 cloL coe coeL shut shut.shutL wantA weff cellsOf fillA deref natOf ρ0_app h0_app plain plain.plainL keep_app keepH_app andThen_normal andThen_ret andThen_exit pop_nil pop_after pop_after_ret pop_after_exit pop_blk pop_blk_ret pop_blk_exit nilA srcOf srcCells keepR_app keepHR_app renA rb
def putFs : List Int → List File → List Int
  | b, [] => b
  | b, f :: l => putFs (putT (putT b f.path) f.text) l
def putFl (b : List Int) (l : List File) : List Int := putFs (putT b (numT l.length)) l
def fw : List File → Nat
  | [] => 0
  | f :: l => f.path.size + f.text.size + 4 + fw l
theorem putT_le (b : List Int) (s : ByteArray) : (putT b s).length ≤ b.length + s.size + 2 := by
  unfold putT
  split
  · have := sB_len s
    simp only [List.length_append, hiL, List.length_cons, List.length_nil, this]; omega
  · omega
theorem putFs_le : ∀ (l : List File) (b : List Int), (putFs b l).length ≤ b.length + fw l
  | [], b => Nat.le_refl _
  | f :: l, b => by
    have h1 := putT_le b f.path
    have h2 := putT_le (putT b f.path) f.text
    have h3 := putFs_le l (putT (putT b f.path) f.text)
    rw [putFs, fw]; omega
theorem B_fl (b : List Int) : flt (.own (rows B b) b.length 1) = true := B.flo b
theorem B_cnt (b : List Int) : (rows B b).length = b.length * 1 := by rw [Nat.mul_one]; exact B.count b
/- 92: loop.example/g00464/impl.putFiles -/
def A92 : AC := (.seq (.ops [⟨(some 4), none, .q (.mov (.c .em))⟩])
  (.seq (.ops [⟨(some 7), none, .q (.mov (.t 0))⟩, ⟨(some 8), none, .q (.mov (.t 1))⟩, ⟨(some 9), none, .q (.llen (.t 8))⟩, ⟨(some 10), none, .c (.c (.clo 103 [])) [(.t 9)]⟩, ⟨(some 11), none, .c (.c (.clo 93 [])) [(.t 7), (.t 10)]⟩, ⟨(some 0), none, .q (.mov (.t 11))⟩])
  (.seq (.seq (.ops [⟨(some 12), none, .q (.mov (.t 1))⟩, ⟨(some 13), none, .q (.llen (.t 12))⟩, ⟨(some 14), none, .q (.mov (.c (.sc (.int .i64 0))))⟩])
  (.block 0 (.loop (.seq (.ops [⟨(some 15), none, .q (.bin .lss (.t 14) (.t 13))⟩])
  (.seq (.cond (.t 15) .skip
  (.exit 0))
  (.seq (.block 1 (.seq (.ops [⟨(some 16), none, .q (.iadr 2 (.t 12) (.t 14))⟩, ⟨(some 17), none, .q (.load true 2 (.t 16))⟩, ⟨(some 6), none, .w (.alloc [(.sc (.string ⟨#[]⟩)), (.sc (.string ⟨#[]⟩))])⟩, ⟨none, none, .w (.store 2 (.t 6) (.t 17))⟩])
  (.any [(⟨(some 18), none, .q (.mov (.t 0))⟩, []), (⟨(some 19), none, .q (.fadr 0 (.t 6))⟩, []), (⟨(some 20), none, .q (.load false 1 (.t 19))⟩, [1]), (⟨(some 21), none, .c (.c (.clo 93 [])) [(.t 18), (.t 20)]⟩, [0, 2]), (⟨(some 22), none, .q (.fadr 1 (.t 6))⟩, []), (⟨(some 23), none, .q (.load false 1 (.t 22))⟩, [4]), (⟨(some 24), none, .c (.c (.clo 93 [])) [(.t 21), (.t 23)]⟩, [3, 5, 3]), (⟨(some 0), none, .q (.mov (.t 24))⟩, [6, 6, 0, 1, 2, 3, 4, 5, 6])])))
  (.ops [⟨(some 25), none, .q (.bin .add (.t 14) (.c (.sc (.int .i64 1))))⟩, ⟨(some 14), none, .q (.mov (.t 25))⟩])))))))
  (.seq (.ops [⟨(some 26), none, .q (.mov (.t 0))⟩, ⟨(some 4), none, .q (.mov (.t 26))⟩])
  .ret))))
theorem K92 : Tryz.f92.body.bind (comp Tryz.prog) = some A92 ∧ Tryz.f92.ntmps = 27 ∧ Tryz.f92.results.toList.mapM (resB Tryz.prog) = some [.mov (.t 4)] := ⟨by kernel_rfl, by kernel_rfl, by kernel_rfl⟩
set_option maxHeartbeats 2000000 in
theorem R92 (b : List Int) (xs : List File) (hn : xs.length < 4611686018427387904) (hb : b.length + xs.length + 10 + fw xs ≤ 140737488350000) : Ret Tryz.prog 92 [.own (rows B b) b.length 1, .ro (rows File.ty.cs xs) xs.length] (.own (rows B (putFl b xs)) (putFl b xs).length 1) [.un, .un] := by
  have hns := numT_size xs.length
  have hpl := putT_le b (numT xs.length)
  refine Ret.run Tryz.func92 K92 (by simp) rfl rfl 900 ?_
  simp [A92, iniρ]
  refine callK.ro 0 rfl (by kernel_rfl) (by simp [roc_sc]) (R103 xs.length hn) rfl rfl rfl ?_
  simp
  refine callK.mv1 11 100000 rfl (by kernel_rfl) (by simp [upd_app]) (by simp [upd_app]) (B_cnt _) (idfreeL_rows B.fr _) (by simp [upd_app, roc_sc]) (R93 b (numT xs.length) (by omega)) (B_fl _) (by simp [inst, upd_app]; exact ⟨rfl, rfl⟩) rfl ?_
  simp
  refine T.le (Le.reseat [0, 1, 12, 13, 14] [(11, 60)] (by simp) (by simp [upd_app, menB, idfree]) (by
    intro c hc cs hcs
    simp at hc
    subst hc
    simp [upd_app] at hcs
    subst hcs
    exact idfreeL_mem (idfreeL_rows B.fr _))) ?_
  refine T.rounds (μ := fun i : List File × List File × List Int => i.2.1.length)
    (fun i s => i.1 ++ i.2.1 = xs ∧ putFs i.2.2 i.2.1 = putFl b xs ∧ i.2.2.length + fw i.2.1 ≤ 140737488350000 ∧ s.ρ 0 = .sl 60 0 i.2.2.length 1 false ∧ s.ρ 12 = .ro (rows File.ty.cs xs) xs.length ∧ s.ρ 13 = .sc (.int .i64 xs.length) ∧ s.ρ 14 = .sc (.int .i64 i.1.length) ∧ s.h 60 = some (some (rows B i.2.2)) ∧ (∀ c, c ≠ 60 → s.h c = none) ∧ s.n = 27) ([], xs, putT b (numT xs.length)) (by simp [upd_app, putFl]; exact ⟨by omega, fun c hc => by rw [if_neg (fun e => hc e.symm)]⟩) ?_
  rintro ⟨pre, rest, cur⟩ ⟨ρ, hh, n⟩ ⟨hx, hE, hw, k0, k12, k13, k14, b60, bf, rfl⟩
  simp only at hx hE hw k0 k12 k13 k14 b60 bf
  refine run_ok (n := 400) ?_
  cases rest with
  | nil =>
    have hxl : pre.length = xs.length := by rw [← hx]; simp
    have hE : cur = putFl b xs := hE
    simp [k13, k14, hxl]
    refine T.on 400 ?_
    simp [k0, b60, hE, ex1, B.count, idfreeL_rows B.fr]
  | cons x rest =>
    have hle : pre.length + (rest.length + 1) = xs.length := by rw [← hx]; simp
    have hlt : (pre.length : Int) < xs.length := by omega
    have hwr : IntKind.i64.wrap ((pre.length : Int) + 1) = pre.length + 1 := wrap_i64 (by omega) (by omega)
    have hd := rows_drop File.ty.csn pre (x :: rest)
    rw [hx, rows_cons] at hd
    have hd : List.drop (pre.length * 2) (rows File.ty.cs xs) = AV.sc (.string x.path) :: AV.sc (.string x.text) :: rows File.ty.cs rest := hd
    have f6 := bf 6 (by decide)
    have f21 := bf 21 (by decide)
    have f24 := bf 24 (by decide)
    rw [fw] at hw
    have p1 := putT_le cur x.path
    have p2 := putT_le (putT cur x.path) x.text
    simp [k0, k12, k13, k14, hlt, hd, f6, over]
    refine T.textW 400 [([], []), ([], []), ([], []), ([60, 21], []), ([], [21, 60]), ([], [21, 60]), ([21, 24], []), ([], [])] mixed (by kernel_rfl) (by kernel_rfl) ?_
    simp [k0, merge_nil, hideH_nil]
    refine callWK.mv1 21 60 rfl (by kernel_rfl) (by simp [upd_app]) (by simp [upd_app, hideH_app, b60]) (B_cnt _) (idfreeL_rows B.fr _) (by simp [upd_app, roc_sc]) (R93 cur x.path (by omega)) (B_fl _) (by simp [inst, upd_app, hideH_app, f21]; exact ⟨rfl, rfl⟩) (by rfl) ?_
    simp [merge_nil, hideH_nil]
    refine callWK.mv1 24 21 rfl (by kernel_rfl) (by simp [upd_app]) (by simp [upd_app, hideH_app]) (B_cnt _) (idfreeL_rows B.fr _) (by simp [upd_app, roc_sc]) (R93 (putT cur x.path) x.text (by omega)) (B_fl _) (by simp [inst, upd_app, hideH_app, f24]; exact ⟨rfl, rfl⟩) (by rfl) ?_
    simp [k14, hwr, merge_nil, hideH_nil]
    refine ⟨pre ++ [x], rest, by simp, putT (putT cur x.path) x.text, _, Le.reseat [0, 12, 13, 14] [(24, 60)] (by simp) (by simp [upd_app, menB, idfree, k12, k13]) ?_, by simpa using hx, hE, by omega, ?_⟩
    · intro c hc cs hcs
      simp at hc
      subst hc
      simp [upd_app] at hcs
      subst hcs
      exact idfreeL_mem (idfreeL_rows B.fr _)
    · simp [upd_app, k12, k13]
      intro c hc
      rw [if_neg (fun e => hc e.symm)]
/- 115: loop.example/g00464/spec.l16Count -/
def A115 : AC := (.seq (.ops [⟨(some 4), none, .q (.mov (.c .em))⟩])
  (.seq (.ops [⟨(some 5), none, .q (.mov (.t 0))⟩, ⟨(some 6), none, .q (.mov (.t 1))⟩, ⟨(some 7), none, .c (.c (.clo 75 [])) [(.t 6)]⟩, ⟨(some 8), none, .c (.c (.clo 95 [])) [(.t 5), (.t 7)]⟩, ⟨(some 4), none, .q (.mov (.t 8))⟩])
  .ret))
theorem K115 : Tryz.f115.body.bind (comp Tryz.prog) = some A115 ∧ Tryz.f115.ntmps = 9 ∧ Tryz.f115.results.toList.mapM (resB Tryz.prog) = some [.mov (.t 4)] := ⟨by kernel_rfl, by kernel_rfl, by kernel_rfl⟩
theorem R115 (b : List Int) (n : Nat) (hn : n < 4611686018427387904) (hb : b.length + n + 10 ≤ 140737488350000) : Ret Tryz.prog 115 [.ro (rows B b) b.length, .sc (.int .i64 n)] (.own (rows B (putT b (numT n))) (putT b (numT n)).length 1) [.un, .un] := by
  have hns := numT_size n
  refine Ret.run Tryz.func115 K115 (by simp) rfl rfl 900 ?_
  simp [A115, iniρ]
  refine callK.ro 0 rfl (by kernel_rfl) (by simp [roc_sc]) (R75 n hn) rfl rfl rfl ?_
  simp
  refine callK.own 8 rfl (by kernel_rfl) (by simp [roc_sc, roc_ro]) (R95 b (numT n) (by omega)) (B_fl _) (by simp) rfl ?_
  simp [ex1, B.count, idfreeL_rows B.fr]
/- 94: loop.example/g00464/spec.l16Files -/
def A94 : AC := (.seq (.ops [⟨(some 4), none, .q (.mov (.c .em))⟩])
  (.seq (.ops [⟨(some 6), none, .q (.mov (.t 0))⟩, ⟨(some 7), none, .q (.mov (.t 1))⟩, ⟨(some 8), none, .q (.llen (.t 7))⟩, ⟨(some 9), none, .c (.c (.clo 115 [])) [(.t 6), (.t 8)]⟩, ⟨(some 0), none, .q (.mov (.t 9))⟩])
  (.seq (.seq (.ops [⟨(some 5), none, .q (.mov (.c (.sc (.int .i64 0))))⟩])
  (.block 0 (.loop (.seq (.seq (.ops [⟨(some 10), none, .q (.mov (.t 5))⟩, ⟨(some 11), none, .q (.mov (.t 1))⟩, ⟨(some 12), none, .q (.llen (.t 11))⟩, ⟨(some 13), none, .q (.bin .lss (.t 10) (.t 12))⟩])
  (.cond (.t 13) .skip
  (.exit 0)))
  (.seq (.block 1 (.any [(⟨(some 16), none, .q (.mov (.t 0))⟩, []), (⟨(some 17), none, .q (.mov (.t 1))⟩, []), (⟨(some 18), none, .q (.mov (.t 5))⟩, []), (⟨(some 19), none, .q (.iadr 2 (.t 17) (.t 18))⟩, [1, 2]), (⟨(some 20), none, .q (.fadr 0 (.t 19))⟩, [3]), (⟨(some 21), none, .q (.load false 1 (.t 20))⟩, [4]), (⟨(some 22), none, .c (.c (.clo 95 [])) [(.t 16), (.t 21)]⟩, [0, 5]), (⟨(some 23), none, .q (.mov (.t 1))⟩, []), (⟨(some 24), none, .q (.mov (.t 5))⟩, []), (⟨(some 25), none, .q (.iadr 2 (.t 23) (.t 24))⟩, [7, 8]), (⟨(some 26), none, .q (.fadr 1 (.t 25))⟩, [9]), (⟨(some 27), none, .q (.load false 1 (.t 26))⟩, [10]), (⟨(some 28), none, .c (.c (.clo 95 [])) [(.t 22), (.t 27)]⟩, [6, 11, 6]), (⟨(some 0), none, .q (.mov (.t 28))⟩, [12, 12, 0, 1, 2, 3, 4, 5, 6, 7, 8, 9, 10, 11, 12])]))
  (.ops [⟨(some 14), none, .q (.mov (.t 5))⟩, ⟨(some 15), none, .q (.bin .add (.t 14) (.c (.sc (.int .i64 1))))⟩, ⟨(some 5), none, .q (.mov (.t 15))⟩]))))))
  (.seq (.ops [⟨(some 29), none, .q (.mov (.t 0))⟩, ⟨(some 4), none, .q (.mov (.t 29))⟩])
  .ret))))
theorem K94 : Tryz.f94.body.bind (comp Tryz.prog) = some A94 ∧ Tryz.f94.ntmps = 30 ∧ Tryz.f94.results.toList.mapM (resB Tryz.prog) = some [.mov (.t 4)] := ⟨by kernel_rfl, by kernel_rfl, by kernel_rfl⟩
set_option maxHeartbeats 2000000 in
theorem R94 (b : List Int) (xs : List File) (hn : xs.length < 4611686018427387904) (hb : b.length + xs.length + 10 + fw xs ≤ 140737488350000) : Ret Tryz.prog 94 [.ro (rows B b) b.length, .ro (rows File.ty.cs xs) xs.length] (.own (rows B (putFl b xs)) (putFl b xs).length 1) [.un, .un] := by
  have hns := numT_size xs.length
  have hpl := putT_le b (numT xs.length)
  refine Ret.run Tryz.func94 K94 (by simp) rfl rfl 900 ?_
  simp [A94, iniρ]
  refine callK.own 9 rfl (by kernel_rfl) (by simp [roc_sc, roc_ro]) (R115 b xs.length hn (by omega)) (B_fl _) (by simp) rfl ?_
  simp
  refine T.le (Le.reseat [0, 1, 5] [(9, 60)] (by simp) (by simp [upd_app, menB, idfree]) (by
    intro c hc cs hcs
    simp at hc
    subst hc
    simp [upd_app] at hcs
    subst hcs
    exact idfreeL_mem (idfreeL_rows B.fr _))) ?_
  refine T.rounds (μ := fun i : List File × List File × List Int => i.2.1.length)
    (fun i s => i.1 ++ i.2.1 = xs ∧ putFs i.2.2 i.2.1 = putFl b xs ∧ i.2.2.length + fw i.2.1 ≤ 140737488350000 ∧ s.ρ 0 = .sl 60 0 i.2.2.length 1 false ∧ s.ρ 1 = .ro (rows File.ty.cs xs) xs.length ∧ s.ρ 5 = .sc (.int .i64 i.1.length) ∧ s.h 60 = some (some (rows B i.2.2)) ∧ (∀ c, c ≠ 60 → s.h c = none) ∧ s.n = 30) ([], xs, putT b (numT xs.length)) (by simp [upd_app, putFl]; exact ⟨by omega, fun c hc => by rw [if_neg (fun e => hc e.symm)]⟩) ?_
  rintro ⟨pre, rest, cur⟩ ⟨ρ, hh, n⟩ ⟨hx, hE, hw, k0, k1, k5, b60, bf, rfl⟩
  simp only at hx hE hw k0 k1 k5 b60 bf
  refine run_ok (n := 400) ?_
  cases rest with
  | nil =>
    have hxl : pre.length = xs.length := by rw [← hx]; simp
    have hE : cur = putFl b xs := hE
    simp [k1, k5, hxl]
    refine T.on 400 ?_
    simp [k0, b60, hE, ex1, B.count, idfreeL_rows B.fr]
  | cons x rest =>
    have hle : pre.length + (rest.length + 1) = xs.length := by rw [← hx]; simp
    have hlt : (pre.length : Int) < xs.length := by omega
    have hwr : IntKind.i64.wrap ((pre.length : Int) + 1) = pre.length + 1 := wrap_i64 (by omega) (by omega)
    have hd := rows_drop File.ty.csn pre (x :: rest)
    rw [hx, rows_cons] at hd
    have hd : List.drop (pre.length * 2) (rows File.ty.cs xs) = AV.sc (.string x.path) :: AV.sc (.string x.text) :: rows File.ty.cs rest := hd
    have hd1 : List.drop (pre.length * 2 + 1) (rows File.ty.cs xs) = AV.sc (.string x.text) :: rows File.ty.cs rest := by rw [← List.drop_drop, hd]; rfl
    have f22 := bf 22 (by decide)
    have f28 := bf 28 (by decide)
    rw [fw] at hw
    have p1 := putT_le cur x.path
    have p2 := putT_le (putT cur x.path) x.text
    have r60 : ∀ (h : Hp), h 60 = some (some (rows B cur)) → roc h 8 (.sl 60 0 cur.length 1 false) = some (.ro (rows B cur) cur.length) := fun h e => B.roc e
    have r22 : ∀ (h : Hp), h 22 = some (some (rows B (putT cur x.path))) → roc h 8 (.sl 22 0 (putT cur x.path).length 1 false) = some (.ro (rows B (putT cur x.path)) (putT cur x.path).length) := fun h e => B.roc e
    simp [k1, k5, hlt]
    refine T.textW 400 [([], []), ([], []), ([], []), ([], []), ([], []), ([], []), ([22], []), ([], [22]), ([], [22]), ([], [22]), ([], [22]), ([], [22]), ([28], []), ([], [])] mixed (by kernel_rfl) (by kernel_rfl) ?_
    simp [k0, k1, k5, hlt, hd, merge_nil, hideH_nil]
    refine callWK.ro 22 rfl (by kernel_rfl) (by simp [upd_app, roc_sc, hideH_app, r60, b60]) (R95 cur x.path (by omega)) (B_fl _) (by simp [inst, upd_app, hideH_app, f22]; exact ⟨rfl, rfl⟩) (by rfl) ?_
    simp [k0, k1, k5, hlt, hd1, merge_nil, hideH_nil]
    refine callWK.ro 28 rfl (by kernel_rfl) (by simp [upd_app, roc_sc, hideH_app, r22]) (R95 (putT cur x.path) x.text (by omega)) (B_fl _) (by simp [inst, upd_app, hideH_app, f28]; exact ⟨rfl, rfl⟩) (by rfl) ?_
    simp [k5, hwr, merge_nil, hideH_nil]
    refine ⟨pre ++ [x], rest, by simp, putT (putT cur x.path) x.text, _, Le.reseat [0, 1, 5] [(28, 60)] (by simp) (by simp [upd_app, menB, idfree, k1]) ?_, by simpa using hx, hE, by omega, ?_⟩
    · intro c hc cs hcs
      simp at hc
      subst hc
      simp [upd_app] at hcs
      subst hcs
      exact idfreeL_mem (idfreeL_rows B.fr _)
    · simp [upd_app, k1]
      intro c hc
      rw [if_neg (fun e => hc e.symm)]
def bodyM (m : Made) : List Int := putFl (putT (putT [] m.task) m.log) m.outs
def sumsL (n : Int) : List Int := [n / 256 % 256, n % 256]
def putM (m : Made) : List Int := bodyM m ++ sumsL (bodyM m).sum
def mw (m : Made) : Nat := m.task.size + m.log.size + m.outs.length + 30 + fw m.outs
theorem bodyM_le (m : Made) : (bodyM m).length + 1 ≤ mw m := by
  have h1 := putT_le [] m.task
  have h2 := putT_le (putT [] m.task) m.log
  have h3 := putT_le (putT (putT [] m.task) m.log) (numT m.outs.length)
  have h4 := numT_size m.outs.length
  have h5 := putFs_le m.outs (putT (putT (putT [] m.task) m.log) (numT m.outs.length))
  simp only [List.length_nil] at h1
  unfold bodyM putFl mw
  omega
def byteL (b : List Int) : Prop := ∀ x ∈ b, 0 ≤ x ∧ x ≤ 255
theorem sB_byte (s : ByteArray) : byteL (sB s) := fun x hx => by
  obtain ⟨c, _, rfl⟩ := List.mem_map.1 hx
  have := c.toNat_lt
  omega
theorem byteL_app {a b : List Int} (ha : byteL a) (hb : byteL b) : byteL (a ++ b) := fun x hx => (List.mem_append.1 hx).elim (ha x) (hb x)
theorem hiL_byte {n : Nat} (h : n ≤ 60000) : byteL (hiL n) := fun x hx => by
  simp only [hiL, List.mem_cons, List.not_mem_nil, or_false] at hx
  rcases hx with rfl | rfl <;> omega
theorem putT_byte {b : List Int} (hb : byteL b) (s : ByteArray) : byteL (putT b s) := by
  unfold putT
  split
  · rename_i h
    exact byteL_app hb (byteL_app (hiL_byte h) (sB_byte s))
  · exact hb
theorem putFs_byte : ∀ (l : List File) {b : List Int}, byteL b → byteL (putFs b l)
  | [], _, h => h
  | f :: l, _, h => putFs_byte l (putT_byte (putT_byte h _) _)
theorem bodyM_byte (m : Made) : byteL (bodyM m) := putFs_byte _ (putT_byte (putT_byte (putT_byte (fun x hx => by cases hx) _) _) _)
theorem sumsL_byte (n : Int) : byteL (sumsL n) := fun x hx => by
  simp only [sumsL, List.mem_cons, List.not_mem_nil, or_false] at hx
  rcases hx with rfl | rfl <;> omega
theorem putM_byte (m : Made) : byteL (putM m) := byteL_app (bodyM_byte m) (sumsL_byte _)
theorem sum_rng : ∀ {b : List Int}, byteL b → 0 ≤ b.sum ∧ b.sum ≤ 255 * b.length
  | [], _ => by simp
  | x :: b, h => by
    have h1 := h x (by simp)
    have h2 := sum_rng (b := b) fun y hy => h y (List.mem_cons_of_mem _ hy)
    simp only [List.sum_cons, List.length_cons]
    omega
theorem wrap_sh {n : Int} (h0 : 0 ≤ n) : IntKind.u8.wrap (n.fdiv (2 ^ min 8 IntKind.i64.bits)) = n / 256 % 256 := by
  have e : n.fdiv (2 ^ min 8 IntKind.i64.bits) = n / 256 := by
    rw [Int.fdiv_eq_ediv_of_nonneg _ (by decide)]; rfl
  rw [e]; rfl
theorem wrap_sl (n : Int) : IntKind.u8.wrap n = n % 256 := rfl
/- 54: loop.example/g00464/impl.PutMade -/
def A54 : AC := (.seq (.ops [⟨(some 1), none, .w (.box (.t 0))⟩, ⟨(some 2), none, .q (.mov (.c .em))⟩])
  (.seq (.any [(⟨(some 7), none, .q (.fadr 0 (.t 1))⟩, []), (⟨(some 8), none, .q (.load false 1 (.t 7))⟩, [0]), (⟨(some 9), none, .c (.c (.clo 93 [])) [(.c .em), (.t 8)]⟩, [1]), (⟨(some 10), none, .q (.fadr 2 (.t 1))⟩, []), (⟨(some 11), none, .q (.load false 1 (.t 10))⟩, [3]), (⟨(some 12), none, .c (.c (.clo 93 [])) [(.t 9), (.t 11)]⟩, [2, 4, 2]), (⟨(some 13), none, .q (.fadr 1 (.t 1))⟩, []), (⟨(some 14), none, .q (.load false 1 (.t 13))⟩, [6]), (⟨(some 15), none, .c (.c (.clo 92 [])) [(.t 12), (.t 14)]⟩, [5, 7, 5]), (⟨(some 3), none, .q (.mov (.t 15))⟩, [8, 8, 0, 1, 2, 3, 4, 5, 6, 7, 8])])
  (.seq (.ops [⟨(some 4), none, .q (.mov (.c (.sc (.int .i64 0))))⟩])
  (.seq (.seq (.ops [⟨(some 16), none, .q (.mov (.t 3))⟩, ⟨(some 17), none, .q (.llen (.t 16))⟩, ⟨(some 18), none, .q (.mov (.c (.sc (.int .i64 0))))⟩])
  (.block 0 (.loop (.seq (.ops [⟨(some 19), none, .q (.bin .lss (.t 18) (.t 17))⟩])
  (.seq (.cond (.t 19) .skip
  (.exit 0))
  (.seq (.block 1 (.seq (.ops [⟨(some 20), none, .q (.iadr 1 (.t 16) (.t 18))⟩, ⟨(some 21), none, .q (.load false 1 (.t 20))⟩, ⟨(some 6), none, .q (.mov (.t 21))⟩])
  (.ops [⟨(some 22), none, .q (.mov (.t 4))⟩, ⟨(some 23), none, .q (.mov (.t 6))⟩, ⟨(some 24), none, .q (.cvi .i64 (.t 23))⟩, ⟨(some 25), none, .q (.bin .add (.t 22) (.t 24))⟩, ⟨(some 4), none, .q (.mov (.t 25))⟩])))
  (.ops [⟨(some 26), none, .q (.bin .add (.t 18) (.c (.sc (.int .i64 1))))⟩, ⟨(some 18), none, .q (.mov (.t 26))⟩])))))))
  (.seq (.ops [⟨(some 27), none, .q (.mov (.t 3))⟩, ⟨(some 28), none, .q (.mov (.t 4))⟩, ⟨(some 29), none, .q (.bin .shr (.t 28) (.c (.sc (.int .u64 8))))⟩, ⟨(some 30), none, .q (.cvi .u8 (.t 29))⟩, ⟨(some 31), none, .q (.mov (.t 4))⟩, ⟨(some 32), none, .q (.cvi .u8 (.t 31))⟩, ⟨(some 33), none, .w (.bsl 1 2 [(.sc (.int .u8 0)), (.sc (.int .u8 0))] [(0, 1, (.t 30)), (1, 1, (.t 32))])⟩, ⟨(some 34), none, .w (.app 1 1 false (.t 27) (.t 33))⟩, ⟨(some 2), none, .q (.mov (.t 34))⟩])
  .ret)))))
theorem K54 : Tryz.f54.body.bind (comp Tryz.prog) = some A54 ∧ Tryz.f54.ntmps = 35 ∧ Tryz.f54.results.toList.mapM (resB Tryz.prog) = some [.mov (.t 2)] := ⟨by kernel_rfl, by kernel_rfl, by kernel_rfl⟩
set_option maxHeartbeats 2000000 in
theorem R54 (m : Made) (hn : m.outs.length < 4611686018427387904) (hb : mw m ≤ 140737488350000) : Ret Tryz.prog 54 [.agg (Made.ty.cs m)] (.own (rows B (putM m)) (putM m).length 1) [.un] := by
  have h1 := putT_le [] m.task
  have h2 := putT_le (putT [] m.task) m.log
  have hbl := bodyM_le m
  have hw : mw m = m.task.size + m.log.size + m.outs.length + 30 + fw m.outs := rfl
  simp only [List.length_nil] at h1
  have r1 := R93 [] m.task (by simp only [List.length_nil]; omega)
  have r2 := R93 (putT [] m.task) m.log (by omega)
  have r3 := R92 (putT (putT [] m.task) m.log) m.outs hn (by omega)
  have hby := bodyM_byte m
  have hM : putM m = bodyM m ++ sumsL (bodyM m).sum := rfl
  obtain ⟨bd, hbd⟩ : ∃ bd, bd = bodyM m := ⟨_, rfl⟩
  change Ret Tryz.prog 92 _ (.own (rows B (bodyM m)) (bodyM m).length 1) _ at r3
  rw [← hbd] at r3 hby hbl hM
  refine Ret.run Tryz.func54 K54 (by simp) rfl rfl 900 ?_
  simp [A54, iniρ, Made.cse]
  refine T.textW 400 [([], []), ([], []), ([9], []), ([], [9]), ([], [9]), ([9, 12], []), ([], [9, 12]), ([], [9, 12]), ([12, 15], []), ([], [])] mixed (by kernel_rfl) (by kernel_rfl) ?_
  simp [merge_nil, hideH_nil]
  refine callWK.mvE 9 1 rfl (by kernel_rfl) (by simp [upd_app]) (by simp [upd_app, roc_sc]) r1 (B_fl _) (by simp [inst, upd_app, hideH_app]; exact ⟨rfl, rfl⟩) (by rfl) ?_
  simp [merge_nil, hideH_nil]
  refine callWK.mv1 12 9 rfl (by kernel_rfl) (by simp [upd_app]) (by simp [upd_app, hideH_app]) (B_cnt _) (idfreeL_rows B.fr _) (by simp [upd_app, roc_sc]) r2 (B_fl _) (by simp [inst, upd_app, hideH_app]; exact ⟨rfl, rfl⟩) (by rfl) ?_
  simp [merge_nil, hideH_nil]
  refine callWK.mv1 15 12 rfl (by kernel_rfl) (by simp [upd_app]) (by simp [upd_app, hideH_app]) (B_cnt _) (idfreeL_rows B.fr _) (by simp [upd_app, roc_ro]) r3 (B_fl _) (by simp [inst, upd_app, hideH_app]; exact ⟨rfl, rfl⟩) (by rfl) ?_
  simp [merge_nil, hideH_nil]
  refine T.rounds (μ := fun i : List Int × List Int => i.2.length)
    (fun i s => i.1 ++ i.2 = bd ∧ s.ρ 3 = .sl 15 0 bd.length 1 false ∧ s.ρ 16 = .sl 15 0 bd.length 1 false ∧ s.ρ 17 = .sc (.int .i64 bd.length) ∧ s.ρ 18 = .sc (.int .i64 i.1.length) ∧ s.ρ 4 = .sc (.int .i64 i.1.sum) ∧ s.h 15 = some (some (rows B bd)) ∧ s.h 33 = none ∧ s.h 34 = none ∧ s.n = 35) ([], bd) (by simp [upd_app]) ?_
  rintro ⟨pre, rest⟩ ⟨ρ, hh, n⟩ ⟨hx, k3, k16, k17, k18, k4, b15, f33, f34, rfl⟩
  simp only at hx k3 k16 k17 k18 k4 b15 f33 f34
  refine run_ok (n := 400) ?_
  cases rest with
  | nil =>
    rw [List.append_nil] at hx
    subst hx
    have hs := sum_rng hby
    have ws := wrap_sh hs.1
    have wl := wrap_sl pre.sum
    have c1 : pre.length + 2 ≤ 140737488355328 := by omega
    have e2 : (putM m).length = pre.length + 2 := by rw [hM]; simp [sumsL]
    have e3 : rows B (putM m) = rows B pre ++ [.sc (.int .u8 (pre.sum / 256 % 256)), .sc (.int .u8 (pre.sum % 256))] := by rw [hM, rows_append]; rfl
    have hid := idfreeL_rows B.fr (putM m)
    rw [e3] at hid
    simp [k17, k18]
    refine T.on 400 ?_
    rw [e2, e3]
    simp [k3, k4, b15, f33, f34, ws, wl, over, ex1, B.count, c1, hid]
  | cons x rest =>
    have hle : pre.length + (rest.length + 1) = bd.length := by rw [← hx]; simp
    have hlt : (pre.length : Int) < bd.length := by omega
    have hwr : IntKind.i64.wrap ((pre.length : Int) + 1) = pre.length + 1 := wrap_i64 (by omega) (by omega)
    have hd := rows_drop B.len pre (x :: rest)
    rw [hx, rows_cons, Nat.mul_one] at hd
    have hd : List.drop pre.length (rows B bd) = .sc (.int .u8 x) :: rows B rest := hd
    have hxr := hby x (by rw [← hx]; simp)
    have hsp := sum_rng (b := pre) fun y hy => hby y (by rw [← hx]; simp [hy])
    have wx : IntKind.i64.wrap x = x := wrap_i64 (by omega) (by omega)
    have wsx : IntKind.i64.wrap (pre.sum + x) = pre.sum + x := wrap_i64 (by omega) (by omega)
    simp [k4, k16, k17, k18, b15, hlt, hd, hwr, wx, wsx]
    refine ⟨pre ++ [x], rest, by simp, _, Le.refl _, ?_⟩
    simp [hx, upd_app, k3, k16, k17, b15, f33, f34]
/- 82: loop.example/g00464/spec.l17Sum -/
def A82 : AC := (.seq (.ops [⟨(some 2), none, .q (.mov (.c (.sc (.int .i64 0))))⟩])
  (.seq (.ops [⟨(some 3), none, .q (.mov (.c (.sc (.int .i64 0))))⟩])
  (.seq (.seq (.ops [⟨(some 4), none, .q (.mov (.c (.sc (.int .i64 0))))⟩])
  (.block 0 (.loop (.seq (.seq (.ops [⟨(some 5), none, .q (.mov (.t 4))⟩, ⟨(some 6), none, .q (.mov (.t 0))⟩, ⟨(some 7), none, .q (.llen (.t 6))⟩, ⟨(some 8), none, .q (.bin .lss (.t 5) (.t 7))⟩])
  (.cond (.t 8) .skip
  (.exit 0)))
  (.seq (.block 1 (.ops [⟨(some 11), none, .q (.mov (.t 3))⟩, ⟨(some 12), none, .q (.mov (.t 0))⟩, ⟨(some 13), none, .q (.mov (.t 4))⟩, ⟨(some 14), none, .q (.iadr 1 (.t 12) (.t 13))⟩, ⟨(some 15), none, .q (.load false 1 (.t 14))⟩, ⟨(some 16), none, .q (.cvi .i64 (.t 15))⟩, ⟨(some 17), none, .q (.bin .add (.t 11) (.t 16))⟩, ⟨(some 18), none, .q (.bin .rem (.t 17) (.c (.sc (.int .i64 65536))))⟩, ⟨(some 3), none, .q (.mov (.t 18))⟩]))
  (.ops [⟨(some 9), none, .q (.mov (.t 4))⟩, ⟨(some 10), none, .q (.bin .add (.t 9) (.c (.sc (.int .i64 1))))⟩, ⟨(some 4), none, .q (.mov (.t 10))⟩]))))))
  (.seq (.ops [⟨(some 19), none, .q (.mov (.t 3))⟩, ⟨(some 2), none, .q (.mov (.t 19))⟩])
  .ret))))
theorem K82 : Tryz.f82.body.bind (comp Tryz.prog) = some A82 ∧ Tryz.f82.ntmps = 20 ∧ Tryz.f82.results.toList.mapM (resB Tryz.prog) = some [.mov (.t 2)] := ⟨by kernel_rfl, by kernel_rfl, by kernel_rfl⟩
theorem R82 (b : List Int) (hby : byteL b) (hl : b.length ≤ 140737488355328) : Ret Tryz.prog 82 [.ro (rows B b) b.length] (.sc (.int .i64 (b.sum % 65536))) [.un] := by
  refine Ret.run Tryz.func82 K82 (by simp) rfl rfl 500 ?_
  simp [A82, iniρ]
  refine T.rounds (μ := fun i : List Int × List Int => i.2.length)
    (fun i s => i.1 ++ i.2 = b ∧ s.ρ 0 = .ro (rows B b) b.length ∧ s.ρ 3 = .sc (.int .i64 (i.1.sum % 65536)) ∧ s.ρ 4 = .sc (.int .i64 i.1.length) ∧ s.n = 20) ([], b) (by simp [upd_app]) ?_
  rintro ⟨pre, rest⟩ ⟨ρ, hh, n⟩ ⟨hx, k0, k3, k4, rfl⟩
  simp only at hx k0 k3 k4
  refine run_ok (n := 400) ?_
  cases rest with
  | nil =>
    rw [List.append_nil] at hx
    subst hx
    simp [k0, k4]
    refine T.on 400 ?_
    simp [k3]
  | cons x rest =>
    have hle : pre.length + (rest.length + 1) = b.length := by rw [← hx]; simp
    have hlt : (pre.length : Int) < b.length := by omega
    have hwr : IntKind.i64.wrap ((pre.length : Int) + 1) = pre.length + 1 := wrap_i64 (by omega) (by omega)
    have hd := rows_drop B.len pre (x :: rest)
    rw [hx, rows_cons, Nat.mul_one] at hd
    have hd : List.drop pre.length (rows B b) = .sc (.int .u8 x) :: rows B rest := hd
    have hxr := hby x (by rw [← hx]; simp)
    have wx : IntKind.i64.wrap x = x := wrap_i64 (by omega) (by omega)
    obtain ⟨y, hy⟩ : ∃ y, y = pre.sum % 65536 := ⟨_, rfl⟩
    have hyr : 0 ≤ y ∧ y < 65536 := by omega
    have wsx : IntKind.i64.wrap (y + x) = y + x := wrap_i64 (by omega) (by omega)
    have hm : (y + x).tmod 65536 = (y + x) % 65536 := Int.tmod_eq_emod_of_nonneg (by omega)
    have e2 : (pre.sum + x) % 65536 = (y + x) % 65536 := by rw [hy]; omega
    rw [← hy] at k3
    simp [k0, k3, k4, hlt, hd, hwr, wx, wsx, hm]
    refine ⟨pre ++ [x], rest, by simp, _, Le.refl _, ?_⟩
    simp [hx, upd_app, k0, e2]
/- 61: loop.example/g00464/spec.PutMade -/
def A61 : AC := (.seq (.ops [⟨(some 1), none, .w (.box (.t 0))⟩, ⟨(some 2), none, .q (.mov (.c .em))⟩])
  (.seq (.any [(⟨(some 5), none, .w (.bsl 1 0 [] [])⟩, []), (⟨(some 6), none, .q (.fadr 0 (.t 1))⟩, []), (⟨(some 7), none, .q (.load false 1 (.t 6))⟩, [1]), (⟨(some 8), none, .c (.c (.clo 95 [])) [(.t 5), (.t 7)]⟩, [0, 2]), (⟨(some 9), none, .q (.fadr 2 (.t 1))⟩, []), (⟨(some 10), none, .q (.load false 1 (.t 9))⟩, [4]), (⟨(some 11), none, .c (.c (.clo 95 [])) [(.t 8), (.t 10)]⟩, [3, 5, 3]), (⟨(some 12), none, .q (.fadr 1 (.t 1))⟩, []), (⟨(some 13), none, .q (.load false 1 (.t 12))⟩, [7]), (⟨(some 14), none, .c (.c (.clo 94 [])) [(.t 11), (.t 13)]⟩, [6, 8, 6]), (⟨(some 3), none, .q (.mov (.t 14))⟩, [9, 9, 0, 1, 2, 3, 4, 5, 6, 7, 8, 9])])
  (.seq (.ops [⟨(some 15), none, .q (.mov (.t 3))⟩, ⟨(some 16), none, .c (.c (.clo 82 [])) [(.t 15)]⟩, ⟨(some 4), none, .q (.mov (.t 16))⟩])
  (.seq (.ops [⟨(some 17), none, .q (.mov (.t 3))⟩, ⟨(some 18), none, .q (.mov (.t 4))⟩, ⟨(some 19), none, .q (.bin .shr (.t 18) (.c (.sc (.int .u64 8))))⟩, ⟨(some 20), none, .q (.cvi .u8 (.t 19))⟩, ⟨(some 21), none, .q (.mov (.t 4))⟩, ⟨(some 22), none, .q (.cvi .u8 (.t 21))⟩, ⟨(some 23), none, .w (.bsl 1 2 [(.sc (.int .u8 0)), (.sc (.int .u8 0))] [(0, 1, (.t 20)), (1, 1, (.t 22))])⟩, ⟨(some 24), none, .w (.app 1 1 false (.t 17) (.t 23))⟩, ⟨(some 2), none, .q (.mov (.t 24))⟩])
  .ret))))
theorem K61 : Tryz.f61.body.bind (comp Tryz.prog) = some A61 ∧ Tryz.f61.ntmps = 25 ∧ Tryz.f61.results.toList.mapM (resB Tryz.prog) = some [.mov (.t 2)] := ⟨by kernel_rfl, by kernel_rfl, by kernel_rfl⟩
set_option maxHeartbeats 2000000 in
theorem R61 (m : Made) (hn : m.outs.length < 4611686018427387904) (hb : mw m ≤ 140737488350000) : Ret Tryz.prog 61 [.agg (Made.ty.cs m)] (.own (rows B (putM m)) (putM m).length 1) [.un] := by
  have h1 := putT_le [] m.task
  have h2 := putT_le (putT [] m.task) m.log
  have hbl := bodyM_le m
  have hw : mw m = m.task.size + m.log.size + m.outs.length + 30 + fw m.outs := rfl
  simp only [List.length_nil] at h1
  have r1 := R95 [] m.task (by simp only [List.length_nil]; omega)
  have r2 := R95 (putT [] m.task) m.log (by omega)
  have r3 := R94 (putT (putT [] m.task) m.log) m.outs hn (by omega)
  have hby := bodyM_byte m
  have hM : putM m = bodyM m ++ sumsL (bodyM m).sum := rfl
  obtain ⟨bd, hbd⟩ : ∃ bd, bd = bodyM m := ⟨_, rfl⟩
  change Ret Tryz.prog 94 _ (.own (rows B (bodyM m)) (bodyM m).length 1) _ at r3
  rw [← hbd] at r3 hby hbl hM
  obtain ⟨t1, ht1⟩ : ∃ t, t = putT [] m.task := ⟨_, rfl⟩
  rw [← ht1] at r1 r2 r3
  obtain ⟨t2, ht2⟩ : ∃ t, t = putT t1 m.log := ⟨_, rfl⟩
  rw [← ht2] at r2 r3
  have q1 : ∀ (h : Hp), h 8 = some (some (rows B t1)) → roc h 8 (.sl 8 0 t1.length 1 false) = some (.ro (rows B t1) t1.length) := fun h e => B.roc e
  have q2 : ∀ (h : Hp), h 11 = some (some (rows B t2)) → roc h 8 (.sl 11 0 t2.length 1 false) = some (.ro (rows B t2) t2.length) := fun h e => B.roc e
  have q3 : ∀ (h : Hp), h 14 = some (some (rows B bd)) → roc h 8 (.sl 14 0 bd.length 1 false) = some (.ro (rows B bd) bd.length) := fun h e => B.roc e
  have q0 : ∀ (h : Hp), h 5 = some (some []) → roc h 8 (.sl 5 0 0 1 false) = some (.ro (rows B []) 0) := fun h e => B.roc (xs := []) e
  refine Ret.run Tryz.func61 K61 (by simp) rfl rfl 900 ?_
  simp [A61, iniρ, Made.cse]
  refine T.textW 400 [([5], []), ([], [5]), ([], [5]), ([8], []), ([], [5, 8]), ([], [5, 8]), ([11], []), ([], [5, 8, 11]), ([], [5, 8, 11]), ([14], []), ([], [])] mixed (by kernel_rfl) (by kernel_rfl) ?_
  simp [merge_nil, hideH_nil]
  refine callWK.ro 8 rfl (by kernel_rfl) (by simp [upd_app, roc_sc, q0]) r1 (B_fl _) (by simp [inst, upd_app]; exact ⟨rfl, rfl⟩) (by rfl) ?_
  simp [merge_nil, hideH_nil]
  refine callWK.ro 11 rfl (by kernel_rfl) (by simp [upd_app, roc_sc, q1]) r2 (B_fl _) (by simp [inst, upd_app]; exact ⟨rfl, rfl⟩) (by rfl) ?_
  simp [merge_nil, hideH_nil]
  refine callWK.ro 14 rfl (by kernel_rfl) (by simp [upd_app, roc_ro, q2]) r3 (B_fl _) (by simp [inst, upd_app]; exact ⟨rfl, rfl⟩) (by rfl) ?_
  simp [merge_nil, hideH_nil]
  refine callK.ro 0 rfl (by kernel_rfl) (by simp [upd_app, q3]) (R82 bd hby (by omega)) rfl rfl rfl ?_
  have hs := sum_rng hby
  have ws := wrap_sh (n := bd.sum % 65536) (by omega)
  have wl := wrap_sl (bd.sum % 65536)
  rw [show bd.sum % 65536 / 256 % 256 = bd.sum / 256 % 256 by omega] at ws
  rw [show bd.sum % 65536 % 256 = bd.sum % 256 by omega] at wl
  have c1 : bd.length + 2 ≤ 140737488355328 := by omega
  have e2 : (putM m).length = bd.length + 2 := by rw [hM]; simp [sumsL]
  have e3 : rows B (putM m) = rows B bd ++ [.sc (.int .u8 (bd.sum / 256 % 256)), .sc (.int .u8 (bd.sum % 256))] := by rw [hM, rows_append]; rfl
  have hid := idfreeL_rows B.fr (putM m)
  rw [e3] at hid
  rw [e2, e3]
  simp [ws, wl, over, ex1, B.count, c1, hid]
end Go.Proofs.YtaknfalbmblagaaGreatDoor.Am
