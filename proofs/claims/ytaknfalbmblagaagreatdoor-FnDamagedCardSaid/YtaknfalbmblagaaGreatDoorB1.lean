/- The small machine and the contracts of the functions, part 1 (Words, Paths, Cut, Base, Types, Plumb, Job, Sames, Files, Tasks, Texts, Num, Itoa, Parse, Nums); no condition. -/
import Derived.Test.YtaknfalbmblagaaGreatDoorProg
import Derived.Test.YtaknfalbmblagaaGreatDoorAmZ
import Derived.Test.YtaknfalbmblagaaGreatDoorAmP
import Derived.KernelRfl
import Derived.Test.YtaknfalbmblagaaGreatDoorAmL
import Derived.Test.YtaknfalbmblagaaGreatDoorAmD
import Derived.Test.YtaknfalbmblagaaGreatDoorAmM
namespace Go.Proofs.YtaknfalbmblagaaGreatDoor.Am
open Go Go.Proofs
set_option linter.unusedSimpArgs false
set_option linter.unusedVariables false
attribute [local congr] T_congr callK_congr callWK_congr
attribute [local simp] run_nil run_op0 run_opg run_seq run_cond run_block run_ret run_skip run_skip_after run_skip_blk run_exit run_exit_after run_exit_blk run_loop run_any runS_nil runS_op0 runS_opg runW_nil runW_op0 runW_opg exec_q exec_w exec_c exec_n execW_q execW_w execW_c restW_app hideH_app merge_app wblk rest_app restS_app execS_q execS_c aval dOk upd_app ev_t ev_c setO_some setO_none put_mk pinsOf isIo hasIo sbin endR fin resL one outL out1 clo1 cloL coe coeL shut shut.shutL wantA weff cellsOf fillA deref natOf ρ0_app h0_app plain plain.plainL keep_app keepH_app andThen_normal andThen_ret andThen_exit pop_nil pop_after pop_after_ret pop_after_exit pop_blk pop_blk_ret pop_blk_exit nilA srcOf srcCells keepR_app keepHR_app renA rb
def inR (x a b : Int) : Bool := decide (a ≤ x) && decide (x ≤ b)
def smallI (n : Int) : Bool := decide (97 ≤ n) && decide (n ≤ 122)
def figI (n : Int) : Bool := decide (48 ≤ n) && decide (n ≤ 57)
def nameC (i : Nat) (c : UInt8) : Bool := smallI (c.toNat : Int) || (decide (i ≠ 0) && (figI (c.toNat : Int) || decide ((c.toNat : Int) = 45)))
def nameL : List UInt8 → Nat → Bool
  | [], _ => true
  | c :: l, i => nameC i c && nameL l (i + 1)
def nameOk (s : ByteArray) : Bool := nameL s.data.toList 0 && inR s.size 1 10
theorem str_get {s : ByteArray} {pre rest : List UInt8} {c : UInt8} (h : pre ++ c :: rest = s.data.toList) : s[pre.length]? = some c := by
  have h2 : s.data.toList[pre.length]? = some c := by rw [← h]; simp
  have hlt : pre.length < s.size := by
    have := (List.getElem?_eq_some_iff.1 h2).1
    simpa using this
  have h3 : s.data[pre.length]? = some c := by rw [← Array.getElem?_toList]; exact h2
  rw [Array.getElem?_eq_some_iff] at h3
  obtain ⟨h4, h5⟩ := h3
  have : s[pre.length]? = some s[pre.length] := getElem?_pos s pre.length hlt
  rw [this]
  congr 1
theorem str_len {s : ByteArray} {l : List UInt8} (h : l = s.data.toList) : s.size = l.length := by subst h; exact Array.length_toList.symm
theorem bl_tot (a b : List UInt8) : (Op.bytesLess a b || a == b) = !(Op.bytesLess b a) := by
  induction a generalizing b with
  | nil => cases b <;> simp [Op.bytesLess]
  | cons x a ih =>
    cases b with
    | nil => simp [Op.bytesLess]
    | cons y b =>
      simp only [Op.bytesLess]
      by_cases h1 : x < y
      · have h2 : ¬ y < x := fun h => by have := UInt8.lt_iff_toNat_lt.1 h; have := UInt8.lt_iff_toNat_lt.1 h1; omega
        have h3 : ¬ y = x := fun h => by subst h; exact h2 h1
        simp [h1, h2, h3]
      · by_cases h2 : y < x
        · have h3 : ¬ x = y := fun h => by subst h; exact h1 h2
          simp [h1, h2, h3]
        · have h3 : x = y := by
            apply UInt8.toNat_inj.1
            have := mt UInt8.lt_iff_toNat_lt.2 h1; have := mt UInt8.lt_iff_toNat_lt.2 h2; omega
          subst h3
          simp [h1, ih]
/- 64: loop.example/g00464/spec.l1In -/
def A64 : AC := (.seq (.ops [⟨(some 6), none, .q (.mov (.c (.sc (.bool false))))⟩])
  (.seq (.ops [⟨(some 7), none, .q (.mov (.t 0))⟩, ⟨(some 8), none, .q (.mov (.t 1))⟩, ⟨(some 9), none, .q (.bin .geq (.t 7) (.t 8))⟩, ⟨(some 10), none, .q (.mov (.t 9))⟩, ⟨(some 11), (some (10, true)), .q (.mov (.t 0))⟩, ⟨(some 12), (some (10, true)), .q (.mov (.t 2))⟩, ⟨(some 13), (some (10, true)), .q (.bin .leq (.t 11) (.t 12))⟩, ⟨(some 14), none, .q (.pick (.t 10) (.t 13) (.c (.sc (.bool false))))⟩, ⟨(some 6), none, .q (.mov (.t 14))⟩])
  .ret))
theorem K64 : Tryz.f64.body.bind (comp Tryz.prog) = some A64 ∧ Tryz.f64.ntmps = 15 ∧ Tryz.f64.results.toList.mapM (resB Tryz.prog) = some [.mov (.t 6)] := ⟨by kernel_rfl, by kernel_rfl, by kernel_rfl⟩
theorem R64 (x a b : Int) : Ret Tryz.prog 64 [.sc (.int .i64 x), .sc (.int .i64 a), .sc (.int .i64 b)] (.sc (.bool (inR x a b))) [.un, .un, .un] := by
  refine Ret.run Tryz.func64 K64 (by simp) rfl rfl 500 ?_
  by_cases h : a ≤ x <;> simp [A64, iniρ, inR, h]
/- 62: loop.example/g00464/impl.inRange -/
def A62 : AC := (.seq (.ops [⟨(some 6), none, .q (.mov (.c (.sc (.bool false))))⟩])
  (.seq (.ops [⟨(some 7), none, .q (.mov (.t 0))⟩, ⟨(some 8), none, .q (.mov (.t 1))⟩, ⟨(some 9), none, .q (.bin .geq (.t 7) (.t 8))⟩, ⟨(some 10), none, .q (.mov (.t 9))⟩, ⟨(some 11), (some (10, true)), .q (.mov (.t 0))⟩, ⟨(some 12), (some (10, true)), .q (.mov (.t 2))⟩, ⟨(some 13), (some (10, true)), .q (.bin .leq (.t 11) (.t 12))⟩, ⟨(some 14), none, .q (.pick (.t 10) (.t 13) (.c (.sc (.bool false))))⟩, ⟨(some 6), none, .q (.mov (.t 14))⟩])
  .ret))
theorem K62 : Tryz.f62.body.bind (comp Tryz.prog) = some A62 ∧ Tryz.f62.ntmps = 15 ∧ Tryz.f62.results.toList.mapM (resB Tryz.prog) = some [.mov (.t 6)] := ⟨by kernel_rfl, by kernel_rfl, by kernel_rfl⟩
theorem R62 (x a b : Int) : Ret Tryz.prog 62 [.sc (.int .i64 x), .sc (.int .i64 a), .sc (.int .i64 b)] (.sc (.bool (inR x a b))) [.un, .un, .un] := by
  refine Ret.run Tryz.func62 K62 (by simp) rfl rfl 500 ?_
  by_cases h : a ≤ x <;> simp [A62, iniρ, inR, h]
/- 119: loop.example/g00464/impl.isSmall -/
def A119 : AC := (.seq (.ops [⟨(some 2), none, .q (.mov (.c (.sc (.bool false))))⟩])
  (.seq (.ops [⟨(some 3), none, .q (.mov (.t 0))⟩, ⟨(some 4), none, .q (.bin .geq (.t 3) (.c (.sc (.int .u8 97))))⟩, ⟨(some 5), none, .q (.mov (.t 4))⟩, ⟨(some 6), (some (5, true)), .q (.mov (.t 0))⟩, ⟨(some 7), (some (5, true)), .q (.bin .leq (.t 6) (.c (.sc (.int .u8 122))))⟩, ⟨(some 8), none, .q (.pick (.t 5) (.t 7) (.c (.sc (.bool false))))⟩, ⟨(some 2), none, .q (.mov (.t 8))⟩])
  .ret))
theorem K119 : Tryz.f119.body.bind (comp Tryz.prog) = some A119 ∧ Tryz.f119.ntmps = 9 ∧ Tryz.f119.results.toList.mapM (resB Tryz.prog) = some [.mov (.t 2)] := ⟨by kernel_rfl, by kernel_rfl, by kernel_rfl⟩
theorem R119 (c : UInt8) : Ret Tryz.prog 119 [.sc (.int .u8 c.toNat)] (.sc (.bool (smallI c.toNat))) [.un] := by
  refine Ret.run Tryz.func119 K119 (by simp) rfl rfl 500 ?_
  by_cases h : (97 : Int) ≤ c.toNat <;> simp [A119, iniρ, smallI, h]
/- 102: loop.example/g00464/impl.isFigure -/
def A102 : AC := (.seq (.ops [⟨(some 2), none, .q (.mov (.c (.sc (.bool false))))⟩])
  (.seq (.ops [⟨(some 3), none, .q (.mov (.t 0))⟩, ⟨(some 4), none, .q (.bin .geq (.t 3) (.c (.sc (.int .u8 48))))⟩, ⟨(some 5), none, .q (.mov (.t 4))⟩, ⟨(some 6), (some (5, true)), .q (.mov (.t 0))⟩, ⟨(some 7), (some (5, true)), .q (.bin .leq (.t 6) (.c (.sc (.int .u8 57))))⟩, ⟨(some 8), none, .q (.pick (.t 5) (.t 7) (.c (.sc (.bool false))))⟩, ⟨(some 2), none, .q (.mov (.t 8))⟩])
  .ret))
theorem K102 : Tryz.f102.body.bind (comp Tryz.prog) = some A102 ∧ Tryz.f102.ntmps = 9 ∧ Tryz.f102.results.toList.mapM (resB Tryz.prog) = some [.mov (.t 2)] := ⟨by kernel_rfl, by kernel_rfl, by kernel_rfl⟩
theorem R102 (c : UInt8) : Ret Tryz.prog 102 [.sc (.int .u8 c.toNat)] (.sc (.bool (figI c.toNat))) [.un] := by
  refine Ret.run Tryz.func102 K102 (by simp) rfl rfl 500 ?_
  by_cases h : (48 : Int) ≤ c.toNat <;> simp [A102, iniρ, figI, h]
/- 117: loop.example/g00464/spec.l1Small -/
def A117 : AC := (.seq (.ops [⟨(some 2), none, .q (.mov (.c (.sc (.bool false))))⟩])
  (.seq (.ops [⟨(some 3), none, .q (.mov (.t 0))⟩, ⟨(some 4), none, .q (.cvi .i64 (.t 3))⟩, ⟨(some 5), none, .c (.c (.clo 64 [])) [(.t 4), (.c (.sc (.int .i64 97))), (.c (.sc (.int .i64 122)))]⟩, ⟨(some 2), none, .q (.mov (.t 5))⟩])
  .ret))
theorem K117 : Tryz.f117.body.bind (comp Tryz.prog) = some A117 ∧ Tryz.f117.ntmps = 6 ∧ Tryz.f117.results.toList.mapM (resB Tryz.prog) = some [.mov (.t 2)] := ⟨by kernel_rfl, by kernel_rfl, by kernel_rfl⟩
theorem R117 (c : UInt8) : Ret Tryz.prog 117 [.sc (.int .u8 c.toNat)] (.sc (.bool (smallI c.toNat))) [.un] := by
  have hw : IntKind.i64.wrap (c.toNat : Int) = c.toNat := wrap_i64 (by omega) (by have := c.toNat_lt; omega)
  refine Ret.run Tryz.func117 K117 (by simp) rfl rfl 500 ?_
  simp [A117, iniρ, hw]
  refine callK.ro 0 rfl (by kernel_rfl) (by simp [roc_sc]) (R64 c.toNat 97 122) rfl rfl rfl ?_
  simp [inR, smallI]
/- 105: loop.example/g00464/spec.l1Digit -/
def A105 : AC := (.seq (.ops [⟨(some 2), none, .q (.mov (.c (.sc (.bool false))))⟩])
  (.seq (.ops [⟨(some 3), none, .q (.mov (.t 0))⟩, ⟨(some 4), none, .q (.cvi .i64 (.t 3))⟩, ⟨(some 5), none, .c (.c (.clo 64 [])) [(.t 4), (.c (.sc (.int .i64 48))), (.c (.sc (.int .i64 57)))]⟩, ⟨(some 2), none, .q (.mov (.t 5))⟩])
  .ret))
theorem K105 : Tryz.f105.body.bind (comp Tryz.prog) = some A105 ∧ Tryz.f105.ntmps = 6 ∧ Tryz.f105.results.toList.mapM (resB Tryz.prog) = some [.mov (.t 2)] := ⟨by kernel_rfl, by kernel_rfl, by kernel_rfl⟩
theorem R105 (c : UInt8) : Ret Tryz.prog 105 [.sc (.int .u8 c.toNat)] (.sc (.bool (figI c.toNat))) [.un] := by
  have hw : IntKind.i64.wrap (c.toNat : Int) = c.toNat := wrap_i64 (by omega) (by have := c.toNat_lt; omega)
  refine Ret.run Tryz.func105 K105 (by simp) rfl rfl 500 ?_
  simp [A105, iniρ, hw]
  refine callK.ro 0 rfl (by kernel_rfl) (by simp [roc_sc]) (R64 c.toNat 48 57) rfl rfl rfl ?_
  simp [inR, figI]
/- 107: loop.example/g00464/spec.NameOk -/
def A107 : AC := (.seq (.ops [⟨(some 2), none, .q (.mov (.c (.sc (.bool false))))⟩])
  (.seq (.seq (.ops [⟨(some 3), none, .q (.mov (.c (.sc (.int .i64 0))))⟩])
  (.block 0 (.loop (.seq (.seq (.ops [⟨(some 4), none, .q (.mov (.t 3))⟩, ⟨(some 5), none, .q (.mov (.t 0))⟩, ⟨(some 6), none, .q (.slen (.t 5))⟩, ⟨(some 7), none, .q (.bin .lss (.t 4) (.t 6))⟩])
  (.cond (.t 7) .skip
  (.exit 0)))
  (.seq (.block 1 (.seq (.ops [⟨(some 10), none, .q (.mov (.t 0))⟩, ⟨(some 11), none, .q (.mov (.t 3))⟩, ⟨(some 12), none, .q (.idx (.t 10) (.t 11))⟩, ⟨(some 13), none, .c (.c (.clo 117 [])) [(.t 12)]⟩, ⟨(some 14), none, .q (.not (.t 13))⟩, ⟨(some 15), none, .q (.mov (.t 14))⟩, ⟨(some 16), (some (15, true)), .q (.mov (.t 3))⟩, ⟨(some 17), (some (15, true)), .q (.bin .eql (.t 16) (.c (.sc (.int .i64 0))))⟩, ⟨(some 18), (some (15, true)), .q (.mov (.t 17))⟩, ⟨(some 19), (some (18, false)), .q (.mov (.t 0))⟩, ⟨(some 20), (some (18, false)), .q (.mov (.t 3))⟩, ⟨(some 21), (some (18, false)), .q (.idx (.t 19) (.t 20))⟩, ⟨(some 22), (some (18, false)), .c (.c (.clo 105 [])) [(.t 21)]⟩, ⟨(some 23), (some (18, false)), .q (.not (.t 22))⟩, ⟨(some 24), (some (18, false)), .q (.mov (.t 23))⟩, ⟨(some 25), (some (24, true)), .q (.mov (.t 0))⟩, ⟨(some 26), (some (24, true)), .q (.mov (.t 3))⟩, ⟨(some 27), (some (24, true)), .q (.idx (.t 25) (.t 26))⟩, ⟨(some 28), (some (24, true)), .q (.bin .neq (.t 27) (.c (.sc (.int .u8 45))))⟩, ⟨(some 29), (some (18, false)), .q (.pick (.t 24) (.t 28) (.c (.sc (.bool false))))⟩, ⟨(some 30), (some (15, true)), .q (.pick (.t 18) (.c (.sc (.bool true))) (.t 29))⟩, ⟨(some 31), none, .q (.pick (.t 15) (.t 30) (.c (.sc (.bool false))))⟩])
  (.cond (.t 31) (.seq (.ops [⟨(some 2), none, .q (.mov (.c (.sc (.bool false))))⟩])
  .ret)
  .skip)))
  (.ops [⟨(some 8), none, .q (.mov (.t 3))⟩, ⟨(some 9), none, .q (.bin .add (.t 8) (.c (.sc (.int .i64 1))))⟩, ⟨(some 3), none, .q (.mov (.t 9))⟩]))))))
  (.seq (.ops [⟨(some 32), none, .q (.mov (.t 0))⟩, ⟨(some 33), none, .q (.slen (.t 32))⟩, ⟨(some 34), none, .c (.c (.clo 64 [])) [(.t 33), (.c (.sc (.int .i64 1))), (.c (.sc (.int .i64 10)))]⟩, ⟨(some 2), none, .q (.mov (.t 34))⟩])
  .ret)))
theorem K107 : Tryz.f107.body.bind (comp Tryz.prog) = some A107 ∧ Tryz.f107.ntmps = 35 ∧ Tryz.f107.results.toList.mapM (resB Tryz.prog) = some [.mov (.t 2)] := ⟨by kernel_rfl, by kernel_rfl, by kernel_rfl⟩
theorem R107 (s : ByteArray) (hs : s.size ≤ 140737488351232) : Ret Tryz.prog 107 [.sc (.string s)] (.sc (.bool (nameOk s))) [.un] := by
  refine Ret.run Tryz.func107 K107 (by simp) rfl rfl 500 ?_
  simp [A107, iniρ]
  refine T.rounds (μ := fun i : List UInt8 × List UInt8 => i.2.length)
    (fun i t => i.1 ++ i.2 = s.data.toList ∧ nameL i.2 i.1.length = nameL s.data.toList 0 ∧ t.ρ 0 = .sc (.string s) ∧ t.ρ 3 = .sc (.int .i64 i.1.length) ∧ t.h = h0 ∧ t.n = 35) ([], s.data.toList) (by simp [upd_app]) ?_
  rintro ⟨pre, rest⟩ ⟨ρ, hh, n⟩ ⟨hx, hE, k0, k3, rfl, rfl⟩
  simp only at hx hE k0 k3
  have hsz := str_len hx
  refine run_ok (n := 400) ?_
  cases rest with
  | nil =>
    simp at hsz
    simp [k0, k3, hsz]
    refine T.on 400 ?_
    simp [k0]
    refine callK.ro 0 rfl (by kernel_rfl) (by simp [roc_sc]) (R64 s.size 1 10) rfl rfl rfl ?_
    simp [nameOk, ← hE, nameL]
  | cons c rest =>
    have hg := str_get hx
    simp at hsz
    have hlt : (pre.length : Int) < s.size := by omega
    have hw : IntKind.i64.wrap ((pre.length : Int) + 1) = pre.length + 1 := wrap_i64 (by omega) (by omega)
    simp [k0, k3, hlt, hg]
    refine callK.ro 0 rfl (by kernel_rfl) (by simp [roc_sc]) (R117 c) rfl rfl rfl ?_
    have step : nameC pre.length c = true → ∀ (Q : Prop), (nameL rest (pre.length + 1) = nameL s.data.toList 0 → Q) → Q := fun h Q k => k (by rw [← hE]; simp [nameL, h])
    have stop : nameC pre.length c = false → nameOk s = false := fun h => by simp [nameOk, ← hE, nameL, h]
    cases h1 : smallI (c.toNat : Int)
    · by_cases hz : pre.length = 0
      · have := stop (by simp [nameC, h1, hz])
        simp [k0, k3, h1, hz, hlt, hg, this]
      · have hz' : pre ≠ [] := fun e => hz (by simp [e])
        simp [k0, k3, h1, hz, hz', hlt, hg]
        refine callK.ro 0 rfl (by kernel_rfl) (by simp [roc_sc]) (R105 c) rfl rfl rfl ?_
        cases h2 : figI (c.toNat : Int)
        · by_cases h3 : (c.toNat : Int) = 45
          · simp [k0, k3, h1, h2, hz, hz', hlt, hg, h3, hw]
            refine step (by simp [nameC, h1, h2, hz, hz', h3]) _ fun hE2 => ?_
            refine ⟨pre ++ [c], rest, by simp, _, Le.refl _, ?_⟩
            simp [hx, k0, hE2, upd_app]
          · have := stop (by simp [nameC, h1, h2, hz, hz', h3])
            simp [k0, k3, h1, h2, hz, hz', hlt, hg, h3, this]
        · simp [k0, k3, h1, h2, hz, hz', hlt, hg, hw]
          refine step (by simp [nameC, h1, h2, hz, hz']) _ fun hE2 => ?_
          refine ⟨pre ++ [c], rest, by simp, _, Le.refl _, ?_⟩
          simp [hx, k0, hE2, upd_app]
    · simp [k0, k3, h1, hlt, hg, hw]
      refine step (by simp [nameC, h1]) _ fun hE2 => ?_
      refine ⟨pre ++ [c], rest, by simp, _, Le.refl _, ?_⟩
      simp [hx, k0, hE2, upd_app]
/- 111: loop.example/g00464/impl.NameOk -/
def A111 : AC := (.seq (.ops [⟨(some 2), none, .q (.mov (.c (.sc (.bool false))))⟩])
  (.seq (.seq (.ops [⟨(some 3), none, .q (.mov (.c (.sc (.int .i64 0))))⟩])
  (.block 0 (.loop (.seq (.seq (.ops [⟨(some 4), none, .q (.mov (.t 3))⟩, ⟨(some 5), none, .q (.mov (.t 0))⟩, ⟨(some 6), none, .q (.slen (.t 5))⟩, ⟨(some 7), none, .q (.bin .lss (.t 4) (.t 6))⟩])
  (.cond (.t 7) .skip
  (.exit 0)))
  (.seq (.block 1 (.seq (.ops [⟨(some 10), none, .q (.mov (.t 0))⟩, ⟨(some 11), none, .q (.mov (.t 3))⟩, ⟨(some 12), none, .q (.idx (.t 10) (.t 11))⟩, ⟨(some 13), none, .c (.c (.clo 119 [])) [(.t 12)]⟩, ⟨(some 14), none, .q (.not (.t 13))⟩, ⟨(some 15), none, .q (.mov (.t 14))⟩, ⟨(some 16), (some (15, true)), .q (.mov (.t 3))⟩, ⟨(some 17), (some (15, true)), .q (.bin .eql (.t 16) (.c (.sc (.int .i64 0))))⟩, ⟨(some 18), (some (15, true)), .q (.mov (.t 17))⟩, ⟨(some 19), (some (18, false)), .q (.mov (.t 0))⟩, ⟨(some 20), (some (18, false)), .q (.mov (.t 3))⟩, ⟨(some 21), (some (18, false)), .q (.idx (.t 19) (.t 20))⟩, ⟨(some 22), (some (18, false)), .c (.c (.clo 102 [])) [(.t 21)]⟩, ⟨(some 23), (some (18, false)), .q (.not (.t 22))⟩, ⟨(some 24), (some (18, false)), .q (.mov (.t 23))⟩, ⟨(some 25), (some (24, true)), .q (.mov (.t 0))⟩, ⟨(some 26), (some (24, true)), .q (.mov (.t 3))⟩, ⟨(some 27), (some (24, true)), .q (.idx (.t 25) (.t 26))⟩, ⟨(some 28), (some (24, true)), .q (.bin .neq (.t 27) (.c (.sc (.int .u8 45))))⟩, ⟨(some 29), (some (18, false)), .q (.pick (.t 24) (.t 28) (.c (.sc (.bool false))))⟩, ⟨(some 30), (some (15, true)), .q (.pick (.t 18) (.c (.sc (.bool true))) (.t 29))⟩, ⟨(some 31), none, .q (.pick (.t 15) (.t 30) (.c (.sc (.bool false))))⟩])
  (.cond (.t 31) (.seq (.ops [⟨(some 2), none, .q (.mov (.c (.sc (.bool false))))⟩])
  .ret)
  .skip)))
  (.ops [⟨(some 8), none, .q (.mov (.t 3))⟩, ⟨(some 9), none, .q (.bin .add (.t 8) (.c (.sc (.int .i64 1))))⟩, ⟨(some 3), none, .q (.mov (.t 9))⟩]))))))
  (.seq (.ops [⟨(some 32), none, .q (.mov (.t 0))⟩, ⟨(some 33), none, .q (.slen (.t 32))⟩, ⟨(some 34), none, .c (.c (.clo 62 [])) [(.t 33), (.c (.sc (.int .i64 1))), (.c (.sc (.int .i64 10)))]⟩, ⟨(some 2), none, .q (.mov (.t 34))⟩])
  .ret)))
theorem K111 : Tryz.f111.body.bind (comp Tryz.prog) = some A111 ∧ Tryz.f111.ntmps = 35 ∧ Tryz.f111.results.toList.mapM (resB Tryz.prog) = some [.mov (.t 2)] := ⟨by kernel_rfl, by kernel_rfl, by kernel_rfl⟩
theorem R111 (s : ByteArray) (hs : s.size ≤ 140737488351232) : Ret Tryz.prog 111 [.sc (.string s)] (.sc (.bool (nameOk s))) [.un] := by
  refine Ret.run Tryz.func111 K111 (by simp) rfl rfl 500 ?_
  simp [A111, iniρ]
  refine T.rounds (μ := fun i : List UInt8 × List UInt8 => i.2.length)
    (fun i t => i.1 ++ i.2 = s.data.toList ∧ nameL i.2 i.1.length = nameL s.data.toList 0 ∧ t.ρ 0 = .sc (.string s) ∧ t.ρ 3 = .sc (.int .i64 i.1.length) ∧ t.h = h0 ∧ t.n = 35) ([], s.data.toList) (by simp [upd_app]) ?_
  rintro ⟨pre, rest⟩ ⟨ρ, hh, n⟩ ⟨hx, hE, k0, k3, rfl, rfl⟩
  simp only at hx hE k0 k3
  have hsz := str_len hx
  refine run_ok (n := 400) ?_
  cases rest with
  | nil =>
    simp at hsz
    simp [k0, k3, hsz]
    refine T.on 400 ?_
    simp [k0]
    refine callK.ro 0 rfl (by kernel_rfl) (by simp [roc_sc]) (R62 s.size 1 10) rfl rfl rfl ?_
    simp [nameOk, ← hE, nameL]
  | cons c rest =>
    have hg := str_get hx
    simp at hsz
    have hlt : (pre.length : Int) < s.size := by omega
    have hw : IntKind.i64.wrap ((pre.length : Int) + 1) = pre.length + 1 := wrap_i64 (by omega) (by omega)
    simp [k0, k3, hlt, hg]
    refine callK.ro 0 rfl (by kernel_rfl) (by simp [roc_sc]) (R119 c) rfl rfl rfl ?_
    have step : nameC pre.length c = true → ∀ (Q : Prop), (nameL rest (pre.length + 1) = nameL s.data.toList 0 → Q) → Q := fun h Q k => k (by rw [← hE]; simp [nameL, h])
    have stop : nameC pre.length c = false → nameOk s = false := fun h => by simp [nameOk, ← hE, nameL, h]
    cases h1 : smallI (c.toNat : Int)
    · by_cases hz : pre.length = 0
      · have := stop (by simp [nameC, h1, hz])
        simp [k0, k3, h1, hz, hlt, hg, this]
      · have hz' : pre ≠ [] := fun e => hz (by simp [e])
        simp [k0, k3, h1, hz, hz', hlt, hg]
        refine callK.ro 0 rfl (by kernel_rfl) (by simp [roc_sc]) (R102 c) rfl rfl rfl ?_
        cases h2 : figI (c.toNat : Int)
        · by_cases h3 : (c.toNat : Int) = 45
          · simp [k0, k3, h1, h2, hz, hz', hlt, hg, h3, hw]
            refine step (by simp [nameC, h1, h2, hz, hz', h3]) _ fun hE2 => ?_
            refine ⟨pre ++ [c], rest, by simp, _, Le.refl _, ?_⟩
            simp [hx, k0, hE2, upd_app]
          · have := stop (by simp [nameC, h1, h2, hz, hz', h3])
            simp [k0, k3, h1, h2, hz, hz', hlt, hg, h3, this]
        · simp [k0, k3, h1, h2, hz, hz', hlt, hg, hw]
          refine step (by simp [nameC, h1, h2, hz, hz']) _ fun hE2 => ?_
          refine ⟨pre ++ [c], rest, by simp, _, Le.refl _, ?_⟩
          simp [hx, k0, hE2, upd_app]
    · simp [k0, k3, h1, hlt, hg, hw]
      refine step (by simp [nameC, h1]) _ fun hE2 => ?_
      refine ⟨pre ++ [c], rest, by simp, _, Le.refl _, ?_⟩
      simp [hx, k0, hE2, upd_app]
end Go.Proofs.YtaknfalbmblagaaGreatDoor.Am
namespace Go.Proofs.YtaknfalbmblagaaGreatDoor.Am
open Go Go.Proofs
set_option linter.unusedSimpArgs false
set_option linter.unusedVariables false
attribute [local congr] T_congr callK_congr callWK_congr
attribute [local simp] run_nil run_op0 run_opg run_seq run_cond run_block run_ret run_skip run_skip_after run_skip_blk run_exit run_exit_after run_exit_blk run_loop run_any runS_nil runS_op0 runS_opg runW_nil runW_op0 runW_opg exec_q exec_w exec_c exec_n execW_q execW_w execW_c restW_app hideH_app merge_app wblk rest_app restS_app execS_q execS_c aval dOk upd_app ev_t ev_c setO_some setO_none put_mk pinsOf isIo hasIo sbin endR fin resL one outL out1 clo1 cloL coe coeL shut shut.shutL wantA weff cellsOf fillA deref natOf ρ0_app h0_app plain plain.plainL keep_app keepH_app andThen_normal andThen_ret andThen_exit pop_nil pop_after pop_after_ret pop_after_exit pop_blk pop_blk_ret pop_blk_exit nilA srcOf srcCells keepR_app keepHR_app renA rb
def lttI (n : Int) : Bool := smallI n || figI n || n == 46 || n == 45 || n == 95
def letL : List UInt8 → Bool
  | [] => true
  | c :: l => lttI (c.toNat : Int) && letL l
def partOk (s : ByteArray) : Bool := letL s.data.toList && (inR s.size 1 12 && !(s.toList == [46]) && !(s.toList == [46, 46]))
/- 108: loop.example/g00464/spec.l5Letter -/
def A108 : AC := (.seq (.ops [⟨(some 2), none, .q (.mov (.c (.sc (.bool false))))⟩])
  (.seq (.ops [⟨(some 3), none, .q (.mov (.t 0))⟩, ⟨(some 4), none, .c (.c (.clo 117 [])) [(.t 3)]⟩, ⟨(some 5), none, .q (.mov (.t 4))⟩, ⟨(some 6), (some (5, false)), .q (.mov (.t 0))⟩, ⟨(some 7), (some (5, false)), .c (.c (.clo 105 [])) [(.t 6)]⟩, ⟨(some 8), none, .q (.pick (.t 5) (.c (.sc (.bool true))) (.t 7))⟩, ⟨(some 9), none, .q (.mov (.t 8))⟩, ⟨(some 10), (some (9, false)), .q (.mov (.t 0))⟩, ⟨(some 11), (some (9, false)), .q (.bin .eql (.t 10) (.c (.sc (.int .u8 46))))⟩, ⟨(some 12), none, .q (.pick (.t 9) (.c (.sc (.bool true))) (.t 11))⟩, ⟨(some 13), none, .q (.mov (.t 12))⟩, ⟨(some 14), (some (13, false)), .q (.mov (.t 0))⟩, ⟨(some 15), (some (13, false)), .q (.bin .eql (.t 14) (.c (.sc (.int .u8 45))))⟩, ⟨(some 16), none, .q (.pick (.t 13) (.c (.sc (.bool true))) (.t 15))⟩, ⟨(some 17), none, .q (.mov (.t 16))⟩, ⟨(some 18), (some (17, false)), .q (.mov (.t 0))⟩, ⟨(some 19), (some (17, false)), .q (.bin .eql (.t 18) (.c (.sc (.int .u8 95))))⟩, ⟨(some 20), none, .q (.pick (.t 17) (.c (.sc (.bool true))) (.t 19))⟩, ⟨(some 2), none, .q (.mov (.t 20))⟩])
  .ret))
theorem K108 : Tryz.f108.body.bind (comp Tryz.prog) = some A108 ∧ Tryz.f108.ntmps = 21 ∧ Tryz.f108.results.toList.mapM (resB Tryz.prog) = some [.mov (.t 2)] := ⟨by kernel_rfl, by kernel_rfl, by kernel_rfl⟩
theorem R108 (c : UInt8) : Ret Tryz.prog 108 [.sc (.int .u8 c.toNat)] (.sc (.bool (lttI c.toNat))) [.un] := by
  refine Ret.run Tryz.func108 K108 (by simp) rfl rfl 500 ?_
  simp [A108, iniρ]
  refine callK.ro 0 rfl (by kernel_rfl) (by simp [roc_sc]) (R117 c) rfl rfl rfl ?_
  cases h1 : smallI (c.toNat : Int)
  case true => simp [lttI, h1]
  simp
  refine callK.ro 0 rfl (by kernel_rfl) (by simp [roc_sc]) (R105 c) rfl rfl rfl ?_
  cases h2 : figI (c.toNat : Int)
  case true => simp [lttI, h1, h2]
  by_cases h3 : (c.toNat : Int) = 46
  · simp [lttI, h1, h2, h3]
  by_cases h4 : (c.toNat : Int) = 45
  · simp [lttI, h1, h2, h3, h4]
  simp [lttI, h1, h2, h3, h4]
/- 86: loop.example/g00464/spec.l5Name -/
def A86 : AC := (.seq (.ops [⟨(some 2), none, .q (.mov (.c (.sc (.bool false))))⟩])
  (.seq (.seq (.ops [⟨(some 3), none, .q (.mov (.c (.sc (.int .i64 0))))⟩])
  (.block 0 (.loop (.seq (.seq (.ops [⟨(some 4), none, .q (.mov (.t 3))⟩, ⟨(some 5), none, .q (.mov (.t 0))⟩, ⟨(some 6), none, .q (.slen (.t 5))⟩, ⟨(some 7), none, .q (.bin .lss (.t 4) (.t 6))⟩])
  (.cond (.t 7) .skip
  (.exit 0)))
  (.seq (.block 1 (.seq (.ops [⟨(some 10), none, .q (.mov (.t 0))⟩, ⟨(some 11), none, .q (.mov (.t 3))⟩, ⟨(some 12), none, .q (.idx (.t 10) (.t 11))⟩, ⟨(some 13), none, .c (.c (.clo 108 [])) [(.t 12)]⟩, ⟨(some 14), none, .q (.not (.t 13))⟩])
  (.cond (.t 14) (.seq (.ops [⟨(some 2), none, .q (.mov (.c (.sc (.bool false))))⟩])
  .ret)
  .skip)))
  (.ops [⟨(some 8), none, .q (.mov (.t 3))⟩, ⟨(some 9), none, .q (.bin .add (.t 8) (.c (.sc (.int .i64 1))))⟩, ⟨(some 3), none, .q (.mov (.t 9))⟩]))))))
  (.seq (.ops [⟨(some 15), none, .q (.mov (.t 0))⟩, ⟨(some 16), none, .q (.slen (.t 15))⟩, ⟨(some 17), none, .c (.c (.clo 64 [])) [(.t 16), (.c (.sc (.int .i64 1))), (.c (.sc (.int .i64 12)))]⟩, ⟨(some 18), none, .q (.mov (.t 17))⟩, ⟨(some 19), (some (18, true)), .q (.mov (.t 0))⟩, ⟨(some 20), (some (18, true)), .q (.bin .neq (.t 19) (.c (.sc (.string ⟨#[46]⟩))))⟩, ⟨(some 21), none, .q (.pick (.t 18) (.t 20) (.c (.sc (.bool false))))⟩, ⟨(some 22), none, .q (.mov (.t 21))⟩, ⟨(some 23), (some (22, true)), .q (.mov (.t 0))⟩, ⟨(some 24), (some (22, true)), .q (.bin .neq (.t 23) (.c (.sc (.string ⟨#[46, 46]⟩))))⟩, ⟨(some 25), none, .q (.pick (.t 22) (.t 24) (.c (.sc (.bool false))))⟩, ⟨(some 2), none, .q (.mov (.t 25))⟩])
  .ret)))
theorem K86 : Tryz.f86.body.bind (comp Tryz.prog) = some A86 ∧ Tryz.f86.ntmps = 26 ∧ Tryz.f86.results.toList.mapM (resB Tryz.prog) = some [.mov (.t 2)] := ⟨by kernel_rfl, by kernel_rfl, by kernel_rfl⟩
theorem R86 (s : ByteArray) (hs : s.size ≤ 140737488351232) : Ret Tryz.prog 86 [.sc (.string s)] (.sc (.bool (partOk s))) [.un] := by
  refine Ret.run Tryz.func86 K86 (by simp) rfl rfl 500 ?_
  simp [A86, iniρ]
  refine T.rounds (μ := fun i : List UInt8 × List UInt8 => i.2.length)
    (fun i t => i.1 ++ i.2 = s.data.toList ∧ letL i.2 = letL s.data.toList ∧ t.ρ 0 = .sc (.string s) ∧ t.ρ 3 = .sc (.int .i64 i.1.length) ∧ t.h = h0 ∧ t.n = 26) ([], s.data.toList) (by simp [upd_app]) ?_
  rintro ⟨pre, rest⟩ ⟨ρ, hh, n⟩ ⟨hx, hE, k0, k3, rfl, rfl⟩
  simp only at hx hE k0 k3
  have hsz := str_len hx
  refine run_ok (n := 400) ?_
  cases rest with
  | nil =>
    simp at hsz
    simp [k0, k3, hsz]
    refine T.on 400 ?_
    simp [k0]
    refine callK.ro 0 rfl (by kernel_rfl) (by simp [roc_sc]) (R64 s.size 1 12) rfl rfl rfl ?_
    have hL : letL s.data.toList = true := by rw [← hE]; rfl
    cases h1 : inR s.size 1 12
    case false => simp [partOk, h1]
    by_cases h2 : s.toList = [46]
    case pos => simp [k0, partOk, h1, h2]
    have h2' : (s.toList == [46]) = false := by simpa using h2
    by_cases h3 : s.toList = [46, 46]
    · simp [k0, partOk, h1, h2, h2', h3, hL]
    · have h3' : (s.toList == [46, 46]) = false := by simpa using h3
      simp [k0, partOk, h1, h2, h2', h3, h3', hL]
  | cons c rest =>
    have hg := str_get hx
    simp at hsz
    have hlt : (pre.length : Int) < s.size := by omega
    have hw : IntKind.i64.wrap ((pre.length : Int) + 1) = pre.length + 1 := wrap_i64 (by omega) (by omega)
    simp [k0, k3, hlt, hg]
    refine callK.ro 0 rfl (by kernel_rfl) (by simp [roc_sc]) (R108 c) rfl rfl rfl ?_
    cases h1 : lttI (c.toNat : Int)
    · have : partOk s = false := by simp [partOk, ← hE, letL, h1]
      simp [this]
    · simp [k3, hw]
      refine ⟨pre ++ [c], rest, by simp, _, Le.refl _, ?_⟩
      simp [hx, k0, upd_app, ← hE, letL, h1]
def splitP (s : ByteArray) (b : Int) : Nat → Nat → List UInt8 → List ByteArray
  | f, i, [] => [s.extract f i]
  | f, i, c :: l => if (c.toNat : Int) = b then s.extract f i :: splitP s b (i + 1) (i + 1) l else splitP s b f (i + 1) l
def splitS (s : ByteArray) (b : Int) : List ByteArray := splitP s b 0 0 s.data.toList
structure Opt where
  v : Bool
/- 106: loop.example/g00464/spec.Split -/
def A106 : AC := (.seq (.ops [⟨(some 4), none, .q (.mov (.c .em))⟩])
  (.seq (.ops [⟨(some 8), none, .w (.bsl 1 0 [] [])⟩, ⟨(some 5), none, .q (.mov (.t 8))⟩])
  (.seq (.ops [⟨(some 6), none, .q (.mov (.c (.sc (.int .i64 0))))⟩])
  (.seq (.seq (.ops [⟨(some 7), none, .q (.mov (.c (.sc (.int .i64 0))))⟩])
  (.block 0 (.loop (.seq (.seq (.ops [⟨(some 9), none, .q (.mov (.t 7))⟩, ⟨(some 10), none, .q (.mov (.t 0))⟩, ⟨(some 11), none, .q (.slen (.t 10))⟩, ⟨(some 12), none, .q (.bin .leq (.t 9) (.t 11))⟩])
  (.cond (.t 12) .skip
  (.exit 0)))
  (.seq (.block 1 (.seq (.ops [⟨(some 15), none, .q (.mov (.t 7))⟩, ⟨(some 16), none, .q (.mov (.t 0))⟩, ⟨(some 17), none, .q (.slen (.t 16))⟩, ⟨(some 18), none, .q (.bin .eql (.t 15) (.t 17))⟩, ⟨(some 19), none, .q (.mov (.t 18))⟩, ⟨(some 20), (some (19, false)), .q (.mov (.t 0))⟩, ⟨(some 21), (some (19, false)), .q (.mov (.t 7))⟩, ⟨(some 22), (some (19, false)), .q (.idx (.t 20) (.t 21))⟩, ⟨(some 23), (some (19, false)), .q (.mov (.t 1))⟩, ⟨(some 24), (some (19, false)), .q (.bin .eql (.t 22) (.t 23))⟩, ⟨(some 25), none, .q (.pick (.t 19) (.c (.sc (.bool true))) (.t 24))⟩])
  (.cond (.t 25) (.seq (.ops [⟨(some 26), none, .q (.mov (.t 5))⟩, ⟨(some 27), none, .q (.mov (.t 0))⟩, ⟨(some 28), none, .q (.mov (.t 6))⟩, ⟨(some 29), none, .q (.mov (.t 7))⟩, ⟨(some 30), none, .q (.subs (.t 27) (some (.t 28)) (some (.t 29)))⟩, ⟨(some 31), none, .w (.bsl 1 1 [(.sc (.string ⟨#[]⟩))] [(0, 1, (.t 30))])⟩, ⟨(some 32), none, .w (.app 1 16 false (.t 26) (.t 31))⟩, ⟨(some 5), none, .q (.mov (.t 32))⟩])
  (.ops [⟨(some 33), none, .q (.mov (.t 7))⟩, ⟨(some 34), none, .q (.bin .add (.t 33) (.c (.sc (.int .i64 1))))⟩, ⟨(some 6), none, .q (.mov (.t 34))⟩]))
  .skip)))
  (.ops [⟨(some 13), none, .q (.mov (.t 7))⟩, ⟨(some 14), none, .q (.bin .add (.t 13) (.c (.sc (.int .i64 1))))⟩, ⟨(some 7), none, .q (.mov (.t 14))⟩]))))))
  (.seq (.ops [⟨(some 35), none, .q (.mov (.t 5))⟩, ⟨(some 4), none, .q (.mov (.t 35))⟩])
  .ret)))))
theorem K106 : Tryz.f106.body.bind (comp Tryz.prog) = some A106 ∧ Tryz.f106.ntmps = 36 ∧ Tryz.f106.results.toList.mapM (resB Tryz.prog) = some [.mov (.t 4)] := ⟨by kernel_rfl, by kernel_rfl, by kernel_rfl⟩
theorem R106 (s : ByteArray) (b : Int) (hs : s.size ≤ 1048576) : Ret Tryz.prog 106 [.sc (.string s), .sc (.int .u8 b)] (.own (rows Ty.str.oc (splitS s b)) (splitS s b).length 1) [.un, .un] := by
  refine Ret.run Tryz.func106 K106 (by simp) rfl rfl 900 ?_
  simp [A106, iniρ, over]
  -- ended: the last part is out
  refine T.rounds (μ := fun i : List UInt8 × List UInt8 × List ByteArray × Nat × Opt => i.2.1.length + (if i.2.2.2.2.v then 0 else 1))
    (fun i t => i.1 ++ i.2.1 = s.data.toList ∧ i.2.2.2.1 ≤ i.1.length ∧ i.2.2.1.length ≤ i.1.length + (if i.2.2.2.2.v then 1 else 0) ∧ (if i.2.2.2.2.v then i.2.1 = [] ∧ i.2.2.1 = splitS s b else i.2.2.1 ++ splitP s b i.2.2.2.1 i.1.length i.2.1 = splitS s b) ∧
      t.ρ 0 = .sc (.string s) ∧ t.ρ 1 = .sc (.int .u8 b) ∧ t.ρ 5 = .sl 8 0 i.2.2.1.length 1 false ∧ (i.2.2.2.2.v = false → t.ρ 6 = .sc (.int .i64 i.2.2.2.1)) ∧ t.ρ 7 = .sc (.int .i64 (i.1.length + (if i.2.2.2.2.v then 1 else 0))) ∧ t.h 8 = some (some (rows Ty.str.oc i.2.2.1)) ∧ t.h 31 = none ∧ t.h 32 = none ∧ t.n = 36) ([], s.data.toList, [], 0, ⟨false⟩) (by simp [upd_app, rows_nil, splitS]) ?_
  rintro ⟨pre, rest, out, f, ⟨e⟩⟩ ⟨ρ, hh, n⟩ ⟨hx, hf, ho, hE, k0, k1, k5, k6, k7, k8, f1, f2, rfl⟩
  simp only at hx hf ho hE k0 k1 k5 k6 k7 k8 f1 f2
  have hsz := str_len hx
  refine run_ok (n := 400) ?_
  cases e with
  | true =>
    simp at hE k7
    obtain ⟨rfl, hE⟩ := hE
    simp at hsz
    have h1 : ¬ ((pre.length : Int) + 1 ≤ s.size) := by omega
    simp [k0, k7, h1]
    refine T.on 400 ?_
    have hid : idfree.idfreeL (rows Ty.str.oc (splitS s b)) = true := Ty.str.frL _
    simp [k5, k8, ex1, hE, str_ocl, hid]
  | false =>
    simp at hE k6 k7 ho
    have hps : pre.length ≤ s.size := by rw [hsz]; simp
    have hw : IntKind.i64.wrap ((pre.length : Int) + 1) = pre.length + 1 := wrap_i64 (by omega) (by omega)
    have hcap : (out.length + 1) * 16 ≤ 140737488355328 := by omega
    have hap : ∀ (l : List ByteArray) (g : ByteArray), rows Ty.str.oc l ++ [.sc (.string g)] = rows Ty.str.oc (l ++ [g]) := fun l g => by rw [rows_append]; rfl
    cases rest with
    | nil =>
      simp at hsz
      simp [k0, k1, k5, k6, k7, k8, f1, f2, hsz, hw, over, str_ocl, hcap, hap, hf]
      refine ⟨pre, [], out ++ [s.extract f pre.length], f, ⟨true⟩, ⟨rfl, rfl⟩, _, Le.reseat [0, 1, 5, 7] [(32, 8)] (by simp) (by simp [upd_app, menB, idfree, k0, k1]) ?_, ?_⟩
      · intro b' hb cs hcs
        simp at hb
        subst hb
        simp [upd_app] at hcs
        subst hcs
        exact rows_all (fun x c hc => (Ty.str.ow x c hc).fr) _
      · have hE2 : out ++ [s.extract f pre.length] = splitS s b := hE
        simp [upd_app, k0, k1, hE2]
        refine ⟨by simpa using hx, hf, ?_⟩
        rw [← hE2]; simp; omega
    | cons c rest =>
      have hg := str_get hx
      simp at hsz
      have hlt : (pre.length : Int) < s.size := by omega
      have hlt2 : pre.length < s.size := by omega
      have hle : (pre.length : Int) ≤ s.size := by omega
      have hne : ¬ ((pre.length : Int) = s.size) := by omega
      have hne2 : ¬ (pre.length = s.size) := by omega
      rw [splitP] at hE
      by_cases hc : (c.toNat : Int) = b
      · rw [if_pos hc] at hE
        simp [k0, k1, k5, k6, k7, k8, f1, f2, hlt, hle, hne, hne2, hg, hc, hw, hps, over, str_ocl, hcap, hap, hf]
        refine ⟨pre ++ [c], rest, out ++ [s.extract f pre.length], pre.length + 1, ⟨false⟩, by simp, _, Le.reseat [0, 1, 5, 6, 7] [(32, 8)] (by simp) (by simp [upd_app, menB, idfree, k0, k1]) ?_, ?_⟩
        · intro b' hb cs hcs
          simp at hb
          subst hb
          simp [upd_app] at hcs
          subst hcs
          exact rows_all (fun x c hc => (Ty.str.ow x c hc).fr) _
        · simp [upd_app, k0, k1, hx, hE]
          omega
      · have hcb : ((c.toNat : Int) == b) = false := by simpa using hc
        rw [if_neg hc] at hE
        simp [k0, k1, k5, k6, k7, k8, f1, f2, hlt, hle, hne, hne2, hg, hc, hcb, hw, over, str_ocl, hap]
        refine ⟨pre ++ [c], rest, out, f, ⟨false⟩, by simp, _, Le.refl _, ?_⟩
        simp [upd_app, k0, k1, k5, k6, k8, f1, f2, hx, hE]
        omega
def allPart : List ByteArray → Bool
  | [] => true
  | x :: l => partOk x && allPart l
def pathOk (s : ByteArray) : Bool := allPart (splitS s 47) && decide ((splitS s 47).length ≤ 4)
theorem splitP_size (s : ByteArray) (b : Int) : ∀ (l : List UInt8) (f i : Nat), ∀ x ∈ splitP s b f i l, x.size ≤ s.size
  | [], f, i, x, h => by
    simp [splitP] at h
    subst h
    rw [ByteArray.size_extract]; omega
  | c :: l, f, i, x, h => by
    rw [splitP] at h
    split at h
    · rcases List.mem_cons.1 h with rfl | h
      · rw [ByteArray.size_extract]; omega
      · exact splitP_size s b l _ _ x h
    · exact splitP_size s b l _ _ x h
theorem splitP_len (s : ByteArray) (b : Int) : ∀ (l : List UInt8) (f i : Nat), (splitP s b f i l).length ≤ l.length + 1
  | [], f, i => by simp [splitP]
  | c :: l, f, i => by
    rw [splitP]
    split
    · have := splitP_len s b l (i + 1) (i + 1); simp; omega
    · have := splitP_len s b l f (i + 1); simp; omega
/- 109: loop.example/g00464/spec.PathOk -/
def A109 : AC := (.seq (.ops [⟨(some 2), none, .q (.mov (.c (.sc (.bool false))))⟩])
  (.seq (.ops [⟨(some 5), none, .q (.mov (.t 0))⟩, ⟨(some 6), none, .c (.c (.clo 106 [])) [(.t 5), (.c (.sc (.int .u8 47)))]⟩, ⟨(some 3), none, .q (.mov (.t 6))⟩])
  (.seq (.seq (.ops [⟨(some 4), none, .q (.mov (.c (.sc (.int .i64 0))))⟩])
  (.block 0 (.loop (.seq (.seq (.ops [⟨(some 7), none, .q (.mov (.t 4))⟩, ⟨(some 8), none, .q (.mov (.t 3))⟩, ⟨(some 9), none, .q (.llen (.t 8))⟩, ⟨(some 10), none, .q (.bin .lss (.t 7) (.t 9))⟩])
  (.cond (.t 10) .skip
  (.exit 0)))
  (.seq (.block 1 (.seq (.ops [⟨(some 13), none, .q (.mov (.t 3))⟩, ⟨(some 14), none, .q (.mov (.t 4))⟩, ⟨(some 15), none, .q (.iadr 1 (.t 13) (.t 14))⟩, ⟨(some 16), none, .q (.load false 1 (.t 15))⟩, ⟨(some 17), none, .c (.c (.clo 86 [])) [(.t 16)]⟩, ⟨(some 18), none, .q (.not (.t 17))⟩])
  (.cond (.t 18) (.seq (.ops [⟨(some 2), none, .q (.mov (.c (.sc (.bool false))))⟩])
  .ret)
  .skip)))
  (.ops [⟨(some 11), none, .q (.mov (.t 4))⟩, ⟨(some 12), none, .q (.bin .add (.t 11) (.c (.sc (.int .i64 1))))⟩, ⟨(some 4), none, .q (.mov (.t 12))⟩]))))))
  (.seq (.ops [⟨(some 19), none, .q (.mov (.t 3))⟩, ⟨(some 20), none, .q (.llen (.t 19))⟩, ⟨(some 21), none, .q (.bin .leq (.t 20) (.c (.sc (.int .i64 4))))⟩, ⟨(some 2), none, .q (.mov (.t 21))⟩])
  .ret))))
theorem K109 : Tryz.f109.body.bind (comp Tryz.prog) = some A109 ∧ Tryz.f109.ntmps = 22 ∧ Tryz.f109.results.toList.mapM (resB Tryz.prog) = some [.mov (.t 2)] := ⟨by kernel_rfl, by kernel_rfl, by kernel_rfl⟩
theorem R109 (s : ByteArray) (hs : s.size ≤ 1048576) : Ret Tryz.prog 109 [.sc (.string s)] (.sc (.bool (pathOk s))) [.un] := by
  have hz : ∀ x ∈ splitS s 47, x.size ≤ s.size := splitP_size s 47 _ 0 0
  have hl : (splitS s 47).length ≤ s.size + 1 := by
    have := splitP_len s 47 s.data.toList 0 0
    simpa [splitS] using this
  obtain ⟨ps, hps⟩ : ∃ ps, ps = splitS s 47 := ⟨_, rfl⟩
  have rs := R106 s 47 hs
  rw [← hps] at hz hl rs
  refine Ret.run Tryz.func109 K109 (by simp) rfl rfl 900 ?_
  simp [A109, iniρ]
  refine callK.own 6 rfl (by kernel_rfl) (by simp [roc_sc]) rs (Ty.str.flo ps) (by simp) rfl ?_
  simp
  refine T.rounds (μ := fun i : List ByteArray × List ByteArray => i.2.length)
    (fun i t => i.1 ++ i.2 = ps ∧ allPart i.2 = allPart ps ∧ t.ρ 3 = .sl 6 0 ps.length 1 false ∧ t.ρ 4 = .sc (.int .i64 i.1.length) ∧ t.h 6 = some (some (rows Ty.str.oc ps)) ∧ t.n = 22) ([], ps) (by simp [upd_app]) ?_
  rintro ⟨pre, rest⟩ ⟨ρ, hh, n⟩ ⟨hx, hE, k3, k4, k6, rfl⟩
  simp only at hx hE k3 k4 k6
  refine run_ok (n := 400) ?_
  cases rest with
  | nil =>
    have hxl : pre.length = ps.length := by rw [← hx]; simp
    have hA : allPart ps = true := by rw [← hE]; rfl
    simp [k3, k4, hxl]
    refine T.on 400 ?_
    simp [k3, pathOk, ← hps, hA]
    try omega
  | cons x rest =>
    have hle : pre.length + (rest.length + 1) = ps.length := by rw [← hx]; simp
    have hlt : (pre.length : Int) < ps.length := by omega
    have hlt2 : pre.length < ps.length := by omega
    have hw : IntKind.i64.wrap ((pre.length : Int) + 1) = pre.length + 1 := wrap_i64 (by omega) (by omega)
    have hd := rows_drop Ty.str.ocn pre (x :: rest)
    rw [hx, rows_cons] at hd
    have hd : List.drop pre.length (rows Ty.str.oc ps) = AV.sc (.string x) :: rows Ty.str.oc rest := by
      have h2 := hd
      rwa [show pre.length * Ty.str.n = pre.length from Nat.mul_one _] at h2
    simp [k3, k4, k6, hlt, hlt2, hd]
    have hxz := hz x (by rw [← hx]; simp)
    refine callK.ro 0 rfl (by kernel_rfl) (by simp [roc_sc]) (R86 x (by omega)) rfl rfl rfl ?_
    cases h1 : partOk x
    · have hA : allPart ps = false := by rw [← hE]; simp [allPart, h1]
      simp [pathOk, ← hps, hA]
    · simp [k4, hw]
      refine ⟨pre ++ [x], rest, by simp, _, Le.refl _, ?_⟩
      simp [hx, k3, k6, upd_app, ← hE, allPart, h1]
end Go.Proofs.YtaknfalbmblagaaGreatDoor.Am
namespace Go.Proofs.YtaknfalbmblagaaGreatDoor.Am
open Go Go.Proofs
set_option linter.unusedSimpArgs false
set_option linter.unusedVariables false
attribute [local congr] T_congr callK_congr callWK_congr
attribute [local simp] run_nil run_op0 run_opg run_seq run_cond run_block run_ret run_skip run_skip_after run_skip_blk run_exit run_exit_after run_exit_blk run_loop run_any runS_nil runS_op0 runS_opg runW_nil runW_op0 runW_opg exec_q exec_w exec_c exec_n execW_q execW_w execW_c restW_app hideH_app merge_app wblk rest_app restS_app execS_q execS_c aval dOk upd_app ev_t ev_c setO_some setO_none put_mk pinsOf isIo hasIo sbin endR fin resL one outL out1 clo1 cloL coe coeL shut shut.shutL wantA weff cellsOf fillA deref natOf ρ0_app h0_app plain plain.plainL keep_app keepH_app andThen_normal andThen_ret andThen_exit pop_nil pop_after pop_after_ret pop_after_exit pop_blk pop_blk_ret pop_blk_exit nilA srcOf srcCells keepR_app keepHR_app renA rb
theorem extract_toList (s : ByteArray) (i j : Nat) : (s.extract i j).data.toList = (s.data.toList.take j).drop i := by
  rw [ByteArray.data_extract, Array.toList_extract, List.extract_eq_take_drop, List.drop_take]
theorem ixB_cases (c : UInt8) : ∀ l : List UInt8, (Lib.indexByte l c = -1 ∧ c ∉ l) ∨ ∃ p q, l = p ++ c :: q ∧ c ∉ p ∧ Lib.indexByte l c = (p.length : Int)
  | [] => .inl ⟨rfl, by simp⟩
  | x :: l => by
    by_cases h : x = c
    · subst h
      exact .inr ⟨[], l, rfl, by simp, by simp [Lib.indexByte]⟩
    · have h2 : (x == c) = false := by simpa using h
      rcases ixB_cases c l with ⟨e, hn⟩ | ⟨p, q, e, hn, e2⟩
      · left
        refine ⟨by simp [Lib.indexByte, h2, e], fun hm => ?_⟩
        rcases List.mem_cons.1 hm with e2 | e2
        · exact h e2.symm
        · exact hn e2
      · right
        refine ⟨x :: p, q, by rw [e]; rfl, fun hm => ?_, ?_⟩
        · rcases List.mem_cons.1 hm with e3 | e3
          · exact h e3.symm
          · exact hn e3
        · have h3 : (Lib.indexByte l c == -1) = false := by rw [e2]; simp
          rw [Lib.indexByte, h2, h3, e2]
          simp
theorem u8_eq {x c : UInt8} : ((x.toNat : Int) = (c.toNat : Int)) ↔ x = c := ⟨fun h => UInt8.toNat_inj.1 (by omega), fun h => by rw [h]⟩
theorem splitP_miss (s : ByteArray) (c : UInt8) (f : Nat) : ∀ (l : List UInt8) (i : Nat), c ∉ l → splitP s (c.toNat : Int) f i l = [s.extract f (i + l.length)]
  | [], i, _ => rfl
  | x :: l, i, h => by
    have hx : ¬ ((x.toNat : Int) = (c.toNat : Int)) := fun e => h (by rw [u8_eq.1 e]; exact List.mem_cons_self ..)
    rw [splitP, if_neg hx, splitP_miss s c f l (i + 1) (fun hm => h (List.mem_cons_of_mem _ hm))]
    congr 2
    simp only [List.length_cons]; omega
theorem splitP_hit (s : ByteArray) (c : UInt8) (f : Nat) (q : List UInt8) : ∀ (p : List UInt8) (i : Nat), c ∉ p → splitP s (c.toNat : Int) f i (p ++ c :: q) = s.extract f (i + p.length) :: splitP s (c.toNat : Int) (i + p.length + 1) (i + p.length + 1) q
  | [], i, _ => by rw [List.nil_append, splitP, if_pos rfl]; rfl
  | x :: p, i, h => by
    have hx : ¬ ((x.toNat : Int) = (c.toNat : Int)) := fun e => h (by rw [u8_eq.1 e]; exact List.mem_cons_self ..)
    rw [List.cons_append, splitP, if_neg hx, splitP_hit s c f q p (i + 1) (fun hm => h (List.mem_cons_of_mem _ hm))]
    have e : i + 1 + p.length = i + (x :: p).length := by simp only [List.length_cons]; omega
    rw [e]
theorem splitP_cnt (s : ByteArray) (c : UInt8) : ∀ (l : List UInt8) (f i : Nat), (splitP s (c.toNat : Int) f i l).length = l.count c + 1
  | [], _, _ => rfl
  | x :: l, f, i => by
    rw [splitP]
    by_cases h : x = c
    · rw [if_pos (u8_eq.2 h), List.length_cons, splitP_cnt s c l, h, List.count_cons_self]
    · rw [if_neg (fun e => h (u8_eq.1 e)), splitP_cnt s c l, List.count_cons_of_ne (fun e => h (by simpa using e))]
theorem R132 (s : ByteArray) (c : UInt8) : Ret Tryz.prog 132 [.sc (.string s), .sc (.string ⟨#[c]⟩)] (.sc (.int .i64 (Lib.indexByte s.data.toList c))) [.un, .un] :=
  Ret.twoOf rfl rfl rfl fun w => Any.strings_Index_one Tryz.lays143 s c w
theorem R123 (s : ByteArray) (c : UInt8) : Ret Tryz.prog 123 [.sc (.string s), .sc (.string ⟨#[c]⟩)] (.sc (.int .i64 (Lib.indexByte s.data.toList c))) [.un, .un] :=
  Ret.twoOf rfl rfl rfl fun w => Any.stringslite_Index_one Tryz.lays219 s c w
theorem R131 (s : ByteArray) (c : UInt8) : Ret Tryz.prog 131 [.sc (.string s), .sc (.string ⟨#[c]⟩)] (.sc (.int .i64 (Lib.countByte s.data.toList c))) [.un, .un] :=
  Ret.twoOf rfl rfl rfl fun w => Any.strings_Count_one Tryz.lays138 s c w
def cutF (s : ByteArray) (c : UInt8) : ByteArray × ByteArray × Bool :=
  if 0 ≤ Lib.indexByte s.data.toList c then (s.extract 0 (Lib.indexByte s.data.toList c).toNat, s.extract ((Lib.indexByte s.data.toList c).toNat + 1) s.size, true) else (s, ⟨#[]⟩, false)
def cutRes (x : ByteArray × ByteArray × Bool) : AV := .tup [.sc (.string x.1), .sc (.string x.2.1), .sc (.bool x.2.2)]
/- 118: internal/stringslite.Cut -/
def A118 : AC := (.seq (.ops [⟨(some 4), none, .q (.mov (.c (.sc (.string ⟨#[]⟩))))⟩, ⟨(some 5), none, .q (.mov (.c (.sc (.string ⟨#[]⟩))))⟩, ⟨(some 6), none, .q (.mov (.c (.sc (.bool false))))⟩])
  (.seq (.seq (.ops [⟨(some 8), none, .q (.mov (.t 0))⟩, ⟨(some 9), none, .q (.mov (.t 1))⟩, ⟨(some 10), none, .c (.c (.clo 123 [])) [(.t 8), (.t 9)]⟩, ⟨(some 7), none, .q (.mov (.t 10))⟩])
  (.seq (.ops [⟨(some 11), none, .q (.mov (.t 7))⟩, ⟨(some 12), none, .q (.bin .geq (.t 11) (.c (.sc (.int .i64 0))))⟩])
  (.cond (.t 12) (.seq (.any [(⟨(some 13), none, .q (.mov (.t 0))⟩, []), (⟨(some 14), none, .q (.mov (.t 7))⟩, []), (⟨(some 15), none, .q (.subs (.t 13) none (some (.t 14)))⟩, [0, 1]), (⟨(some 16), none, .q (.mov (.t 0))⟩, []), (⟨(some 17), none, .q (.mov (.t 7))⟩, []), (⟨(some 18), none, .q (.mov (.t 1))⟩, []), (⟨(some 19), none, .q (.slen (.t 18))⟩, [5]), (⟨(some 20), none, .q (.bin .add (.t 17) (.t 19))⟩, [4, 6]), (⟨(some 21), none, .q (.subs (.t 16) (some (.t 20)) none)⟩, [3, 7]), (⟨(some 4), none, .q (.mov (.t 15))⟩, [2, 0, 1, 2]), (⟨(some 5), none, .q (.mov (.t 21))⟩, [8, 9, 0, 1, 2, 3, 4, 5, 6, 7, 8, 9]), (⟨(some 6), none, .q (.mov (.c (.sc (.bool true))))⟩, [10, 0, 1, 2, 3, 4, 5, 6, 7, 8, 9, 10])])
  .ret)
  .skip)))
  (.seq (.ops [⟨(some 22), none, .q (.mov (.t 0))⟩, ⟨(some 4), none, .q (.mov (.t 22))⟩, ⟨(some 5), none, .q (.mov (.c (.sc (.string ⟨#[]⟩))))⟩, ⟨(some 6), none, .q (.mov (.c (.sc (.bool false))))⟩])
  .ret)))
theorem K118 : Tryz.f118.body.bind (comp Tryz.prog) = some A118 ∧ Tryz.f118.ntmps = 23 ∧ Tryz.f118.results.toList.mapM (resB Tryz.prog) = some [.mov (.t 4), .mov (.t 5), .mov (.t 6)] := ⟨by kernel_rfl, by kernel_rfl, by kernel_rfl⟩
theorem R118 (s : ByteArray) (c : UInt8) (hs : s.size ≤ 140737488351232) : Ret Tryz.prog 118 [.sc (.string s), .sc (.string ⟨#[c]⟩)] (cutRes (cutF s c)) [.un, .un] := by
  refine Ret.run Tryz.func118 K118 (by simp) rfl rfl 500 ?_
  simp [A118, iniρ]
  refine callK.ro 0 rfl (by kernel_rfl) (by simp [roc_sc]) (R123 s c) rfl rfl rfl ?_
  rcases ixB_cases c s.data.toList with ⟨e, hn⟩ | ⟨p, q, e, hn, e2⟩
  · simp [e, cutF, cutRes]
  · have hsz := str_len e.symm
    have hl : p.length + 1 ≤ s.size := by rw [hsz]; simp
    have h0 : (0 : Int) ≤ p.length := by omega
    have hw : IntKind.i64.wrap ((p.length : Int) + 1) = p.length + 1 := wrap_i64 (by omega) (by omega)
    have h1 : (0 : Int) ≤ (p.length : Int) + 1 := by omega
    have h2 : ((p.length : Int) + 1).toNat = p.length + 1 := by omega
    have h3 : p.length ≤ s.size := by omega
    have hc : (⟨#[c]⟩ : ByteArray).size = 1 := rfl
    simp [e2, h0]
    refine T.text 400 mixed (by kernel_rfl) (by kernel_rfl) ?_
    simp [e2, h0, h1, h2, h3, hw, hl, hc, cutF, cutRes]
/- 110: strings.Cut -/
def A110 : AC := (.seq (.ops [⟨(some 4), none, .q (.mov (.c (.sc (.string ⟨#[]⟩))))⟩, ⟨(some 5), none, .q (.mov (.c (.sc (.string ⟨#[]⟩))))⟩, ⟨(some 6), none, .q (.mov (.c (.sc (.bool false))))⟩])
  (.seq (.ops [⟨(some 7), none, .q (.mov (.t 0))⟩, ⟨(some 8), none, .q (.mov (.t 1))⟩, ⟨(some 9), none, .c (.c (.clo 118 [])) [(.t 7), (.t 8)]⟩, ⟨(some 10), none, .q (.ext (.t 9) 0)⟩, ⟨(some 11), none, .q (.ext (.t 9) 1)⟩, ⟨(some 12), none, .q (.ext (.t 9) 2)⟩, ⟨(some 4), none, .q (.mov (.t 10))⟩, ⟨(some 5), none, .q (.mov (.t 11))⟩, ⟨(some 6), none, .q (.mov (.t 12))⟩])
  .ret))
theorem K110 : Tryz.f110.body.bind (comp Tryz.prog) = some A110 ∧ Tryz.f110.ntmps = 13 ∧ Tryz.f110.results.toList.mapM (resB Tryz.prog) = some [.mov (.t 4), .mov (.t 5), .mov (.t 6)] := ⟨by kernel_rfl, by kernel_rfl, by kernel_rfl⟩
theorem R110 (s : ByteArray) (c : UInt8) (hs : s.size ≤ 140737488351232) : Ret Tryz.prog 110 [.sc (.string s), .sc (.string ⟨#[c]⟩)] (cutRes (cutF s c)) [.un, .un] := by
  refine Ret.run Tryz.func110 K110 (by simp) rfl rfl 500 ?_
  simp [A110, iniρ]
  refine callK.ro 0 rfl (by kernel_rfl) (by simp [roc_sc]) (R118 s c hs) rfl (by simp [cutRes, inst, instL, shut]; exact ⟨rfl, rfl⟩) rfl ?_
  simp [cutRes]
theorem drop_str {s : ByteArray} {f : Nat} : (s.extract f s.size).data.toList = s.data.toList.drop f := by
  rw [extract_toList, show s.size = s.data.toList.length by rw [Array.length_toList]; rfl, List.take_length]
theorem extr0 {s : ByteArray} {f m : Nat} (h : f + m ≤ s.size) : (s.extract f s.size).extract 0 m = s.extract f (f + m) := by
  rw [ByteArray.extract_extract, Nat.add_zero, Nat.min_eq_left h]
theorem extr1 {s : ByteArray} {f m n : Nat} (h : s.size ≤ f + n) : (s.extract f s.size).extract m n = s.extract (f + m) s.size := by
  rw [ByteArray.extract_extract, Nat.min_eq_right h]
theorem rows_repl (n : Nat) (x : ByteArray) : rows Ty.str.oc (List.replicate n x) = List.replicate n (.sc (.string x)) := by
  induction n with
  | zero => rfl
  | succ n ih => rw [List.replicate_succ, List.replicate_succ, rows_cons, ih]; rfl
theorem over_str (l : List ByteArray) (n : Nat) (x : ByteArray) : over (rows Ty.str.oc (l ++ List.replicate (n + 1) ⟨#[]⟩)) l.length [.sc (.string x)] = rows Ty.str.oc ((l ++ [x]) ++ List.replicate n ⟨#[]⟩) := by
  rw [rows_append, rows_append, rows_append, rows_repl, rows_repl, List.replicate_succ]
  have e : (rows Ty.str.oc l).length = l.length := by rw [rows_length Ty.str.ocn]; exact Nat.mul_one _
  show (rows Ty.str.oc l ++ AV.sc (.string ⟨#[]⟩) :: List.replicate n (AV.sc (.string ⟨#[]⟩))).set l.length (.sc (.string x)) = _
  rw [← e, List.set_append_right _ _ (Nat.le_refl _), Nat.sub_self]
  show _ = (rows Ty.str.oc l ++ [AV.sc (.string x)]) ++ _
  simp
/- 124: strings.genSplit -/
def A124 : AC := (.seq (.ops [⟨(some 8), none, .q (.mov (.c .em))⟩])
  (.seq (.seq (.ops [⟨(some 12), none, .q (.mov (.t 3))⟩, ⟨(some 13), none, .q (.bin .eql (.t 12) (.c (.sc (.int .i64 0))))⟩])
  (.cond (.t 13) (.seq (.ops [⟨(some 8), none, .q (.mov (.c .em))⟩])
  .ret)
  .skip))
  (.seq (.seq (.ops [⟨(some 14), none, .q (.mov (.t 1))⟩, ⟨(some 15), none, .q (.bin .eql (.t 14) (.c (.sc (.string ⟨#[]⟩))))⟩])
  (.cond (.t 15) (.seq (.ops [⟨(some 16), none, .q (.mov (.t 0))⟩, ⟨(some 17), none, .q (.mov (.t 3))⟩, ⟨(some 18), none, .c (.c (.clo 130 [])) [(.t 16), (.t 17)]⟩, ⟨(some 8), none, .q (.mov (.t 18))⟩])
  .ret)
  .skip))
  (.seq (.seq (.ops [⟨(some 19), none, .q (.mov (.t 3))⟩, ⟨(some 20), none, .q (.bin .lss (.t 19) (.c (.sc (.int .i64 0))))⟩])
  (.cond (.t 20) (.ops [⟨(some 21), none, .q (.mov (.t 0))⟩, ⟨(some 22), none, .q (.mov (.t 1))⟩, ⟨(some 23), none, .c (.c (.clo 131 [])) [(.t 21), (.t 22)]⟩, ⟨(some 24), none, .q (.bin .add (.t 23) (.c (.sc (.int .i64 1))))⟩, ⟨(some 3), none, .q (.mov (.t 24))⟩])
  .skip))
  (.seq (.ops [⟨(some 25), none, .q (.mov (.t 3))⟩, ⟨(some 26), none, .q (.mov (.t 0))⟩, ⟨(some 27), none, .q (.slen (.t 26))⟩, ⟨(some 28), none, .q (.bin .add (.t 27) (.c (.sc (.int .i64 1))))⟩, ⟨(some 29), none, .q (.mm true (.t 25) (.t 28))⟩, ⟨(some 3), none, .q (.mov (.t 29))⟩])
  (.seq (.ops [⟨(some 30), none, .q (.mov (.t 3))⟩, ⟨(some 31), none, .w (.mk 1 16 [(.sc (.string ⟨#[]⟩))] (.t 30) (.t 30))⟩, ⟨(some 9), none, .q (.mov (.t 31))⟩])
  (.seq (.ops [⟨(some 32), none, .q (.mov (.t 3))⟩, ⟨(some 33), none, .q (.bin .sub (.t 32) (.c (.sc (.int .i64 1))))⟩, ⟨(some 3), none, .q (.mov (.t 33))⟩])
  (.seq (.ops [⟨(some 10), none, .q (.mov (.c (.sc (.int .i64 0))))⟩])
  (.seq (.block 0 (.loop (.seq (.seq (.ops [⟨(some 34), none, .q (.mov (.t 10))⟩, ⟨(some 35), none, .q (.mov (.t 3))⟩, ⟨(some 36), none, .q (.bin .lss (.t 34) (.t 35))⟩])
  (.cond (.t 36) .skip
  (.exit 0)))
  (.block 1 (.seq (.ops [⟨(some 37), none, .q (.mov (.t 0))⟩, ⟨(some 38), none, .q (.mov (.t 1))⟩, ⟨(some 39), none, .c (.c (.clo 132 [])) [(.t 37), (.t 38)]⟩, ⟨(some 11), none, .q (.mov (.t 39))⟩])
  (.seq (.seq (.ops [⟨(some 40), none, .q (.mov (.t 11))⟩, ⟨(some 41), none, .q (.bin .lss (.t 40) (.c (.sc (.int .i64 0))))⟩])
  (.cond (.t 41) (.exit 0)
  .skip))
  (.seq (.ops [⟨(some 42), none, .q (.mov (.t 9))⟩, ⟨(some 43), none, .q (.mov (.t 10))⟩, ⟨(some 44), none, .q (.mov (.t 0))⟩, ⟨(some 45), none, .q (.mov (.t 11))⟩, ⟨(some 46), none, .q (.mov (.t 2))⟩, ⟨(some 47), none, .q (.bin .add (.t 45) (.t 46))⟩, ⟨(some 48), none, .q (.subs (.t 44) none (some (.t 47)))⟩, ⟨(some 49), none, .q (.iadr 1 (.t 42) (.t 43))⟩, ⟨none, none, .w (.store 1 (.t 49) (.t 48))⟩])
  (.seq (.ops [⟨(some 50), none, .q (.mov (.t 0))⟩, ⟨(some 51), none, .q (.mov (.t 11))⟩, ⟨(some 52), none, .q (.mov (.t 1))⟩, ⟨(some 53), none, .q (.slen (.t 52))⟩, ⟨(some 54), none, .q (.bin .add (.t 51) (.t 53))⟩, ⟨(some 55), none, .q (.subs (.t 50) (some (.t 54)) none)⟩, ⟨(some 0), none, .q (.mov (.t 55))⟩])
  (.ops [⟨(some 56), none, .q (.mov (.t 10))⟩, ⟨(some 57), none, .q (.bin .add (.t 56) (.c (.sc (.int .i64 1))))⟩, ⟨(some 10), none, .q (.mov (.t 57))⟩])))))))))
  (.seq (.ops [⟨(some 58), none, .q (.mov (.t 9))⟩, ⟨(some 59), none, .q (.mov (.t 10))⟩, ⟨(some 60), none, .q (.mov (.t 0))⟩, ⟨(some 61), none, .q (.iadr 1 (.t 58) (.t 59))⟩, ⟨none, none, .w (.store 1 (.t 61) (.t 60))⟩])
  (.seq (.ops [⟨(some 62), none, .q (.mov (.t 9))⟩, ⟨(some 63), none, .q (.mov (.t 10))⟩, ⟨(some 64), none, .q (.bin .add (.t 63) (.c (.sc (.int .i64 1))))⟩, ⟨(some 65), none, .q (.subl 1 (.t 62) none (some (.t 64)))⟩, ⟨(some 8), none, .q (.mov (.t 65))⟩])
  .ret)))))))))))
theorem K124 : Tryz.f124.body.bind (comp Tryz.prog) = some A124 ∧ Tryz.f124.ntmps = 66 ∧ Tryz.f124.results.toList.mapM (resB Tryz.prog) = some [.mov (.t 8)] := ⟨by kernel_rfl, by kernel_rfl, by kernel_rfl⟩
set_option maxHeartbeats 1000000 in
theorem R124 (s : ByteArray) (c : UInt8) (hs : s.size ≤ 1048576) : Ret Tryz.prog 124 [.sc (.string s), .sc (.string ⟨#[c]⟩), .sc (.int .i64 0), .sc (.int .i64 (-1))] (.own (rows Ty.str.oc (splitS s c.toNat)) (splitS s c.toNat).length 1) [.un, .un, .un, .un] := by
  obtain ⟨N, hN⟩ : ∃ N, N = s.data.toList.count c := ⟨_, rfl⟩
  have hlen : (splitS s c.toNat).length = N + 1 := by rw [hN]; exact splitP_cnt s c s.data.toList 0 0
  have hNs : N ≤ s.size := by rw [hN, show s.size = s.data.toList.length by rw [Array.length_toList]; rfl]; exact List.count_le_length
  have hC := R131 s c
  rw [show Lib.countByte s.data.toList c = N from hN.symm] at hC
  have hcc : (⟨#[c]⟩ : ByteArray).size = 1 := rfl
  have hne : ¬ ((⟨#[c]⟩ : ByteArray).toList = []) := by rw [Lib.toList_data]; simp
  have w1 : IntKind.i64.wrap ((N : Int) + 1) = N + 1 := wrap_i64 (by omega) (by omega)
  have w2 : IntKind.i64.wrap ((s.size : Int) + 1) = s.size + 1 := wrap_i64 (by omega) (by omega)
  have w3 : IntKind.i64.wrap ((N : Int) + 1 - 1) = N := by rw [show (N : Int) + 1 - 1 = N by omega]; exact wrap_i64 (by omega) (by omega)
  have hmin : min ((N : Int) + 1) (s.size + 1) = N + 1 := by omega
  refine Ret.run Tryz.func124 K124 (by simp) rfl rfl 900 ?_
  simp [A124, iniρ, hne]
  refine callK.ro 0 rfl (by kernel_rfl) (by simp [roc_sc]) hC rfl rfl rfl ?_
  have n1 : ¬ (s.size < N) := by omega
  have n2 : (0 : Int) ≤ (N : Int) + 1 := by omega
  have n3 : ((N : Int) + 1) * 16 ≤ 281474976710656 := by omega
  have n4 : (N : Int) + 1 ≤ 9223372036854775807 := by omega
  have n5 : ((N : Int) + 1).toNat = N + 1 := by omega
  have w0 : IntKind.i64.wrap (N : Int) = N := wrap_i64 (by omega) (by omega)
  simp [w1, w2, w3, n1, n2, n3, n4, n5]
  refine T.rounds (μ := fun i : List ByteArray × Nat × List UInt8 => i.2.2.length)
    (fun i t => i.2.1 ≤ s.size ∧ i.2.2 = s.data.toList.drop i.2.1 ∧ i.1 ++ splitP s c.toNat i.2.1 i.2.1 i.2.2 = splitS s c.toNat ∧ t.ρ 0 = .sc (.string (s.extract i.2.1 s.size)) ∧ t.ρ 1 = .sc (.string ⟨#[c]⟩) ∧ t.ρ 2 = .sc (.int .i64 0) ∧ t.ρ 3 = .sc (.int .i64 N) ∧ t.ρ 9 = .sl 31 0 (N + 1) 1 false ∧ t.ρ 10 = .sc (.int .i64 i.1.length) ∧
      t.h 31 = some (some (rows Ty.str.oc (i.1 ++ List.replicate (N + 1 - i.1.length) ⟨#[]⟩))) ∧ t.n = 66) ([], 0, s.data.toList) (by simp [upd_app, splitS, rows_repl, w0]) ?_
  rintro ⟨done, f, l⟩ ⟨ρ, hh, n⟩ ⟨hf, hl, hE, k0, k1, k2, k3, k9, k10, k31, rfl⟩
  simp only at hf hl hE k0 k1 k2 k3 k9 k10 k31
  have hn2 := congrArg List.length hE
  rw [List.length_append, splitP_cnt, hlen] at hn2
  refine run_ok (n := 400) ?_
  have lt1 : (done.length : Int) ≤ N := by omega
  have hI := R132 (s.extract f s.size) c
  rw [drop_str, ← hl] at hI
  have fsz : (s.extract f s.size).size = s.size - f := by rw [ByteArray.size_extract]; omega
  have hlsz : l.length = s.size - f := by rw [hl, List.length_drop]; rfl
  by_cases hlt : done.length < N
  case neg =>
    obtain rfl : done.length = N := by omega
    have hcn : c ∉ l := fun hm => by have := List.count_pos_iff.2 hm; omega
    rw [splitP_miss s c f l f hcn] at hE
    have e2 : f + l.length = s.size := by omega
    rw [e2] at hE
    have hov := over_str done 0 (s.extract f s.size)
    rw [List.replicate_zero, List.append_nil, hE] at hov
    rw [show done.length + 1 - done.length = 0 + 1 by omega] at k31
    have hrl : (rows Ty.str.oc (done ++ List.replicate (0 + 1) (⟨#[]⟩ : ByteArray))).length = done.length + 1 := by rw [rows_length Ty.str.ocn]; simp; exact Nat.mul_one _
    have hrs : (rows Ty.str.oc (splitS s c.toNat)).length = done.length + 1 := by rw [rows_length Ty.str.ocn, hlen]; exact Nat.mul_one _
    have hid : idfree.idfreeL (rows Ty.str.oc (splitS s c.toNat)) = true := Ty.str.frL _
    obtain ⟨R, hR⟩ : ∃ R, R = rows Ty.str.oc (done ++ List.replicate (0 + 1) (⟨#[]⟩ : ByteArray)) := ⟨_, rfl⟩
    rw [← hR] at k31 hov hrl
    have lt3 : (done.length : Int) < done.length + 1 := by omega
    have w5 : IntKind.i64.wrap ((done.length : Int) + 1) = done.length + 1 := w1
    simp [k3, k10]
    refine T.on 400 ?_
    simp [k0, k9, k10, k31, lt3, hrl, hov, w5, n2, n5, ex1, hrs, hid, hlen]
  rcases ixB_cases c l with ⟨e, hn⟩ | ⟨p, q, e, hn, e2⟩
  · have : l.count c = 0 := List.count_eq_zero.2 hn
    omega
  have hsz2 : p.length + (q.length + 1) = s.size - f := by rw [← hlsz, e]; simp
  have lt2 : (done.length : Int) < N := by omega
  have hov := over_str done (N - done.length) (s.extract f (f + p.length))
  rw [show N - done.length + 1 = N + 1 - done.length by omega, show N - done.length = N + 1 - (done.length + 1) by omega] at hov
  have hrl : (rows Ty.str.oc (done ++ List.replicate (N + 1 - done.length) (⟨#[]⟩ : ByteArray))).length = N + 1 := by rw [rows_length Ty.str.ocn]; simp; show _ * 1 = _; omega
  obtain ⟨R, hR⟩ : ∃ R, R = rows Ty.str.oc (done ++ List.replicate (N + 1 - done.length) (⟨#[]⟩ : ByteArray)) := ⟨_, rfl⟩
  rw [← hR] at k31 hov hrl
  have x0 := extr0 (s := s) (f := f) (m := p.length) (by omega)
  have x1 := extr1 (s := s) (f := f) (m := p.length + 1) (n := s.size - f) (by omega)
  have wp : IntKind.i64.wrap (p.length : Int) = p.length := wrap_i64 (by omega) (by omega)
  have wp1 : IntKind.i64.wrap ((p.length : Int) + 1) = p.length + 1 := wrap_i64 (by omega) (by omega)
  have wd1 : IntKind.i64.wrap ((done.length : Int) + 1) = done.length + 1 := wrap_i64 (by omega) (by omega)
  have q0 : ¬ ((p.length : Int) < 0) := by omega
  have q1 : (0 : Int) ≤ (p.length : Int) + 1 := by omega
  have q2 : ((p.length : Int) + 1).toNat = p.length + 1 := by omega
  have q3 : p.length ≤ s.size - f := by omega
  have q4 : p.length + 1 ≤ s.size - f := by omega
  have q5 : (done.length : Int) < N + 1 := by omega
  have q6 : done.length + 1 ≤ N + 1 := by omega
  rw [e2] at hI
  simp [k0, k1, k3, k10, lt2]
  refine callK.ro 0 rfl (by kernel_rfl) (by simp [roc_sc]) hI rfl rfl rfl ?_
  simp [k0, k1, k2, k9, k10, k31, lt2, q0, q1, q2, q3, q4, q5, q6, wp, wp1, wd1, fsz, hcc, hrl, hov, x0, x1]
  have hq : q = s.data.toList.drop (f + p.length + 1) := by
    have h := congrArg (List.drop (p.length + 1)) (hl.symm.trans e)
    rw [List.drop_drop, show p.length + 1 = (p ++ [c]).length by simp, show p ++ c :: q = (p ++ [c]) ++ q by simp, List.drop_left] at h
    rw [← h]; simp; congr 1
  refine ⟨done ++ [s.extract f (f + p.length)], f + p.length + 1, q, by rw [e]; simp; omega, _, Le.refl _, by omega, hq, ?_, ?_⟩
  · rw [e, splitP_hit s c f q p f hn] at hE
    rw [← hE]; simp
  · simp [upd_app, k0, k1, k2, k3, k9, show f + (p.length + 1) = f + p.length + 1 by omega]
/- 120: strings.Split -/
def A120 : AC := (.seq (.ops [⟨(some 4), none, .q (.mov (.c .em))⟩])
  (.seq (.ops [⟨(some 5), none, .q (.mov (.t 0))⟩, ⟨(some 6), none, .q (.mov (.t 1))⟩, ⟨(some 7), none, .c (.c (.clo 124 [])) [(.t 5), (.t 6), (.c (.sc (.int .i64 0))), (.c (.sc (.int .i64 (-1))))]⟩, ⟨(some 4), none, .q (.mov (.t 7))⟩])
  .ret))
theorem K120 : Tryz.f120.body.bind (comp Tryz.prog) = some A120 ∧ Tryz.f120.ntmps = 8 ∧ Tryz.f120.results.toList.mapM (resB Tryz.prog) = some [.mov (.t 4)] := ⟨by kernel_rfl, by kernel_rfl, by kernel_rfl⟩
theorem R120 (s : ByteArray) (c : UInt8) (hs : s.size ≤ 1048576) : Ret Tryz.prog 120 [.sc (.string s), .sc (.string ⟨#[c]⟩)] (.own (rows Ty.str.oc (splitS s c.toNat)) (splitS s c.toNat).length 1) [.un, .un] := by
  have hl : (rows Ty.str.oc (splitS s c.toNat)).length = (splitS s c.toNat).length := by rw [rows_length Ty.str.ocn]; exact Nat.mul_one _
  have hid : idfree.idfreeL (rows Ty.str.oc (splitS s c.toNat)) = true := Ty.str.frL _
  refine Ret.run Tryz.func120 K120 (by simp) rfl rfl 500 ?_
  simp [A120, iniρ]
  refine callK.own 7 rfl (by kernel_rfl) (by simp [roc_sc]) (R124 s c hs) (Ty.str.flo _) (by simp) rfl ?_
  simp [ex1, hl, hid]
end Go.Proofs.YtaknfalbmblagaaGreatDoor.Am
namespace Go.Proofs.YtaknfalbmblagaaGreatDoor.Am
open Go Go.Proofs
set_option linter.unusedSimpArgs false
set_option linter.unusedVariables false
attribute [local congr] T_congr callK_congr callWK_congr
attribute [local simp] run_nil run_op0 run_opg run_seq run_cond run_block run_ret run_skip run_skip_after run_skip_blk run_exit run_exit_after run_exit_blk run_loop run_any runS_nil runS_op0 runS_opg runW_nil runW_op0 runW_opg exec_q exec_w exec_c exec_n execW_q execW_w execW_c restW_app hideH_app merge_app wblk rest_app restS_app execS_q execS_c aval dOk upd_app ev_t ev_c setO_some setO_none put_mk pinsOf isIo hasIo sbin endR fin resL one outL out1 clo1 cloL coe coeL shut shut.shutL wantA weff cellsOf fillA deref natOf ρ0_app h0_app plain plain.plainL keep_app keepH_app andThen_normal andThen_ret andThen_exit pop_nil pop_after pop_after_ret pop_after_exit pop_blk pop_blk_ret pop_blk_exit nilA srcOf srcCells keepR_app keepHR_app renA rb
/- 96: loop.example/g00464/laws.szByteS -/
/- 30: loop.example/g00464/laws.toByteS -/
/- 33: loop.example/g00464/laws.eqByteS -/
end Go.Proofs.YtaknfalbmblagaaGreatDoor.Am
namespace Go.Proofs.YtaknfalbmblagaaGreatDoor.Am
open Go Go.Proofs
set_option linter.unusedSimpArgs false
set_option linter.unusedVariables false
attribute [local congr] T_congr callK_congr callWK_congr
attribute [local simp] run_nil run_op0 run_opg run_seq run_cond run_block run_ret run_skip run_skip_after run_skip_blk run_exit run_exit_after run_exit_blk run_loop run_any runS_nil runS_op0 runS_opg runW_nil runW_op0 runW_opg exec_q exec_w exec_c exec_n execW_q execW_w execW_c restW_app hideH_app merge_app wblk rest_app restS_app execS_q execS_c aval dOk upd_app ev_t ev_c setO_some setO_none put_mk pinsOf isIo hasIo sbin endR fin resL one outL out1 clo1 cloL coe coeL shut shut.shutL wantA weff cellsOf fillA deref natOf ρ0_app h0_app plain plain.plainL keep_app keepH_app andThen_normal andThen_ret andThen_exit pop_nil pop_after pop_after_ret pop_after_exit pop_blk pop_blk_ret pop_blk_exit nilA srcOf srcCells keepR_app keepHR_app renA rb
structure File where
  path : ByteArray
  text : ByteArray
def File.ty : Ty File := Ty.struct (Ty.str.cons (Ty.str.cons Ty.nil)) (fun x => (x.path, x.text, ())) (fun p => ⟨p.1, p.2.1⟩) (fun _ => rfl) 32
theorem File.cse (x : File) : File.ty.cs x = [.sc (.string x.path), .sc (.string x.text)] := rfl
theorem File.oce (x : File) : File.ty.oc x = [.sc (.string x.path), .sc (.string x.text)] := rfl
theorem File.ocl (xs : List File) : (rows File.ty.oc xs).length = xs.length * 2 := rows_length File.ty.ocn xs
theorem File.csl (xs : List File) : (rows File.ty.cs xs).length = xs.length * 2 := rows_length File.ty.csn xs
theorem File.frL (xs : List File) : idfree.idfreeL (rows File.ty.oc xs) = true := File.ty.frL xs
theorem File.roc8 {h : Hp} {b : Nat} {xs : List File} {lim : Bool} (hb : h b = some (some (rows File.ty.oc xs))) : roc h 8 (.sl b 0 xs.length 2 lim) = some (.ro (rows File.ty.cs xs) xs.length) := File.ty.roc8 (by decide) hb
theorem File.roc7 {h : Hp} {b : Nat} {xs : List File} {lim : Bool} (hb : h b = some (some (rows File.ty.oc xs))) : roc h 7 (.sl b 0 xs.length 2 lim) = some (.ro (rows File.ty.cs xs) xs.length) := File.ty.roc7 (by decide) hb
structure Need where
  name : ByteArray
  range : ByteArray
def Need.ty : Ty Need := Ty.struct (Ty.str.cons (Ty.str.cons Ty.nil)) (fun x => (x.name, x.range, ())) (fun p => ⟨p.1, p.2.1⟩) (fun _ => rfl) 32
theorem Need.cse (x : Need) : Need.ty.cs x = [.sc (.string x.name), .sc (.string x.range)] := rfl
theorem Need.oce (x : Need) : Need.ty.oc x = [.sc (.string x.name), .sc (.string x.range)] := rfl
theorem Need.ocl (xs : List Need) : (rows Need.ty.oc xs).length = xs.length * 2 := rows_length Need.ty.ocn xs
theorem Need.csl (xs : List Need) : (rows Need.ty.cs xs).length = xs.length * 2 := rows_length Need.ty.csn xs
theorem Need.frL (xs : List Need) : idfree.idfreeL (rows Need.ty.oc xs) = true := Need.ty.frL xs
theorem Need.roc8 {h : Hp} {b : Nat} {xs : List Need} {lim : Bool} (hb : h b = some (some (rows Need.ty.oc xs))) : roc h 8 (.sl b 0 xs.length 2 lim) = some (.ro (rows Need.ty.cs xs) xs.length) := Need.ty.roc8 (by decide) hb
theorem Need.roc7 {h : Hp} {b : Nat} {xs : List Need} {lim : Bool} (hb : h b = some (some (rows Need.ty.oc xs))) : roc h 7 (.sl b 0 xs.length 2 lim) = some (.ro (rows Need.ty.cs xs) xs.length) := Need.ty.roc7 (by decide) hb
structure Cmd where
  task : ByteArray
  acts : List ByteArray
def Cmd.ty : Ty Cmd := Ty.struct (Ty.str.cons (Ty.str.slice.cons Ty.nil)) (fun x => (x.task, x.acts, ())) (fun p => ⟨p.1, p.2.1⟩) (fun _ => rfl) 40
theorem Cmd.cse (x : Cmd) : Cmd.ty.cs x = [.sc (.string x.task), .ro (rows Ty.str.cs x.acts) x.acts.length] := rfl
theorem Cmd.oce (x : Cmd) : Cmd.ty.oc x = [.sc (.string x.task), .own (rows Ty.str.oc x.acts) x.acts.length 1] := rfl
theorem Cmd.ocl (xs : List Cmd) : (rows Cmd.ty.oc xs).length = xs.length * 2 := rows_length Cmd.ty.ocn xs
theorem Cmd.csl (xs : List Cmd) : (rows Cmd.ty.cs xs).length = xs.length * 2 := rows_length Cmd.ty.csn xs
theorem Cmd.frL (xs : List Cmd) : idfree.idfreeL (rows Cmd.ty.oc xs) = true := Cmd.ty.frL xs
theorem Cmd.roc8 {h : Hp} {b : Nat} {xs : List Cmd} {lim : Bool} (hb : h b = some (some (rows Cmd.ty.oc xs))) : roc h 8 (.sl b 0 xs.length 2 lim) = some (.ro (rows Cmd.ty.cs xs) xs.length) := Cmd.ty.roc8 (by decide) hb
theorem Cmd.roc7 {h : Hp} {b : Nat} {xs : List Cmd} {lim : Bool} (hb : h b = some (some (rows Cmd.ty.oc xs))) : roc h 7 (.sl b 0 xs.length 2 lim) = some (.ro (rows Cmd.ty.cs xs) xs.length) := Cmd.ty.roc7 (by decide) hb
structure Pack where
  name : ByteArray
  uses : List ByteArray
  needs : List Need
  cmds : List Cmd
def Pack.ty : Ty Pack := Ty.struct (Ty.str.cons (Ty.str.slice.cons (Need.ty.slice.cons (Cmd.ty.slice.cons Ty.nil)))) (fun x => (x.name, x.uses, x.needs, x.cmds, ())) (fun p => ⟨p.1, p.2.1, p.2.2.1, p.2.2.2.1⟩) (fun _ => rfl) 88
theorem Pack.cse (x : Pack) : Pack.ty.cs x = [.sc (.string x.name), .ro (rows Ty.str.cs x.uses) x.uses.length, .ro (rows Need.ty.cs x.needs) x.needs.length, .ro (rows Cmd.ty.cs x.cmds) x.cmds.length] := rfl
theorem Pack.oce (x : Pack) : Pack.ty.oc x = [.sc (.string x.name), .own (rows Ty.str.oc x.uses) x.uses.length 1, .own (rows Need.ty.oc x.needs) x.needs.length 2, .own (rows Cmd.ty.oc x.cmds) x.cmds.length 2] := rfl
theorem Pack.ocl (xs : List Pack) : (rows Pack.ty.oc xs).length = xs.length * 4 := rows_length Pack.ty.ocn xs
theorem Pack.csl (xs : List Pack) : (rows Pack.ty.cs xs).length = xs.length * 4 := rows_length Pack.ty.csn xs
theorem Pack.frL (xs : List Pack) : idfree.idfreeL (rows Pack.ty.oc xs) = true := Pack.ty.frL xs
theorem Pack.roc8 {h : Hp} {b : Nat} {xs : List Pack} {lim : Bool} (hb : h b = some (some (rows Pack.ty.oc xs))) : roc h 8 (.sl b 0 xs.length 4 lim) = some (.ro (rows Pack.ty.cs xs) xs.length) := Pack.ty.roc8 (by decide) hb
theorem Pack.roc7 {h : Hp} {b : Nat} {xs : List Pack} {lim : Bool} (hb : h b = some (some (rows Pack.ty.oc xs))) : roc h 7 (.sl b 0 xs.length 4 lim) = some (.ro (rows Pack.ty.cs xs) xs.length) := Pack.ty.roc7 (by decide) hb
structure Env where
  name : ByteArray
  val : ByteArray
def Env.ty : Ty Env := Ty.struct (Ty.str.cons (Ty.str.cons Ty.nil)) (fun x => (x.name, x.val, ())) (fun p => ⟨p.1, p.2.1⟩) (fun _ => rfl) 32
theorem Env.cse (x : Env) : Env.ty.cs x = [.sc (.string x.name), .sc (.string x.val)] := rfl
theorem Env.oce (x : Env) : Env.ty.oc x = [.sc (.string x.name), .sc (.string x.val)] := rfl
theorem Env.ocl (xs : List Env) : (rows Env.ty.oc xs).length = xs.length * 2 := rows_length Env.ty.ocn xs
theorem Env.csl (xs : List Env) : (rows Env.ty.cs xs).length = xs.length * 2 := rows_length Env.ty.csn xs
theorem Env.frL (xs : List Env) : idfree.idfreeL (rows Env.ty.oc xs) = true := Env.ty.frL xs
theorem Env.roc8 {h : Hp} {b : Nat} {xs : List Env} {lim : Bool} (hb : h b = some (some (rows Env.ty.oc xs))) : roc h 8 (.sl b 0 xs.length 2 lim) = some (.ro (rows Env.ty.cs xs) xs.length) := Env.ty.roc8 (by decide) hb
theorem Env.roc7 {h : Hp} {b : Nat} {xs : List Env} {lim : Bool} (hb : h b = some (some (rows Env.ty.oc xs))) : roc h 7 (.sl b 0 xs.length 2 lim) = some (.ro (rows Env.ty.cs xs) xs.length) := Env.ty.roc7 (by decide) hb
structure Rule where
  task : ByteArray
  on : List ByteArray
  ins : List ByteArray
  envs : List ByteArray
  keep : Bool
def Rule.ty : Ty Rule := Ty.struct (Ty.str.cons (Ty.str.slice.cons (Ty.str.slice.cons (Ty.str.slice.cons (Ty.bool.cons Ty.nil))))) (fun x => (x.task, x.on, x.ins, x.envs, x.keep, ())) (fun p => ⟨p.1, p.2.1, p.2.2.1, p.2.2.2.1, p.2.2.2.2.1⟩) (fun _ => rfl) 96
theorem Rule.cse (x : Rule) : Rule.ty.cs x = [.sc (.string x.task), .ro (rows Ty.str.cs x.on) x.on.length, .ro (rows Ty.str.cs x.ins) x.ins.length, .ro (rows Ty.str.cs x.envs) x.envs.length, .sc (.bool x.keep)] := rfl
theorem Rule.oce (x : Rule) : Rule.ty.oc x = [.sc (.string x.task), .own (rows Ty.str.oc x.on) x.on.length 1, .own (rows Ty.str.oc x.ins) x.ins.length 1, .own (rows Ty.str.oc x.envs) x.envs.length 1, .sc (.bool x.keep)] := rfl
theorem Rule.ocl (xs : List Rule) : (rows Rule.ty.oc xs).length = xs.length * 5 := rows_length Rule.ty.ocn xs
theorem Rule.csl (xs : List Rule) : (rows Rule.ty.cs xs).length = xs.length * 5 := rows_length Rule.ty.csn xs
theorem Rule.frL (xs : List Rule) : idfree.idfreeL (rows Rule.ty.oc xs) = true := Rule.ty.frL xs
theorem Rule.roc8 {h : Hp} {b : Nat} {xs : List Rule} {lim : Bool} (hb : h b = some (some (rows Rule.ty.oc xs))) : roc h 8 (.sl b 0 xs.length 5 lim) = some (.ro (rows Rule.ty.cs xs) xs.length) := Rule.ty.roc8 (by decide) hb
theorem Rule.roc7 {h : Hp} {b : Nat} {xs : List Rule} {lim : Bool} (hb : h b = some (some (rows Rule.ty.oc xs))) : roc h 7 (.sl b 0 xs.length 5 lim) = some (.ro (rows Rule.ty.cs xs) xs.length) := Rule.ty.roc7 (by decide) hb
structure World where
  packs : List Pack
  rules : List Rule
  files : List File
  envs : List Env
def World.ty : Ty World := Ty.struct (Pack.ty.slice.cons (Rule.ty.slice.cons (File.ty.slice.cons (Env.ty.slice.cons Ty.nil)))) (fun x => (x.packs, x.rules, x.files, x.envs, ())) (fun p => ⟨p.1, p.2.1, p.2.2.1, p.2.2.2.1⟩) (fun _ => rfl) 96
theorem World.cse (x : World) : World.ty.cs x = [.ro (rows Pack.ty.cs x.packs) x.packs.length, .ro (rows Rule.ty.cs x.rules) x.rules.length, .ro (rows File.ty.cs x.files) x.files.length, .ro (rows Env.ty.cs x.envs) x.envs.length] := rfl
theorem World.oce (x : World) : World.ty.oc x = [.own (rows Pack.ty.oc x.packs) x.packs.length 4, .own (rows Rule.ty.oc x.rules) x.rules.length 5, .own (rows File.ty.oc x.files) x.files.length 2, .own (rows Env.ty.oc x.envs) x.envs.length 2] := rfl
theorem World.ocl (xs : List World) : (rows World.ty.oc xs).length = xs.length * 4 := rows_length World.ty.ocn xs
theorem World.csl (xs : List World) : (rows World.ty.cs xs).length = xs.length * 4 := rows_length World.ty.csn xs
theorem World.frL (xs : List World) : idfree.idfreeL (rows World.ty.oc xs) = true := World.ty.frL xs
theorem World.roc8 {h : Hp} {b : Nat} {xs : List World} {lim : Bool} (hb : h b = some (some (rows World.ty.oc xs))) : roc h 8 (.sl b 0 xs.length 4 lim) = some (.ro (rows World.ty.cs xs) xs.length) := World.ty.roc8 (by decide) hb
theorem World.roc7 {h : Hp} {b : Nat} {xs : List World} {lim : Bool} (hb : h b = some (some (rows World.ty.oc xs))) : roc h 7 (.sl b 0 xs.length 4 lim) = some (.ro (rows World.ty.cs xs) xs.length) := World.ty.roc7 (by decide) hb
structure Plan where
  tasks : List ByteArray
  deps : List (List ByteArray)
def Plan.ty : Ty Plan := Ty.struct (Ty.str.slice.cons (Ty.str.slice.slice.cons Ty.nil)) (fun x => (x.tasks, x.deps, ())) (fun p => ⟨p.1, p.2.1⟩) (fun _ => rfl) 48
theorem Plan.cse (x : Plan) : Plan.ty.cs x = [.ro (rows Ty.str.cs x.tasks) x.tasks.length, .ro (rows Ty.str.slice.cs x.deps) x.deps.length] := rfl
theorem Plan.oce (x : Plan) : Plan.ty.oc x = [.own (rows Ty.str.oc x.tasks) x.tasks.length 1, .own (rows Ty.str.slice.oc x.deps) x.deps.length 1] := rfl
theorem Plan.ocl (xs : List Plan) : (rows Plan.ty.oc xs).length = xs.length * 2 := rows_length Plan.ty.ocn xs
theorem Plan.csl (xs : List Plan) : (rows Plan.ty.cs xs).length = xs.length * 2 := rows_length Plan.ty.csn xs
theorem Plan.frL (xs : List Plan) : idfree.idfreeL (rows Plan.ty.oc xs) = true := Plan.ty.frL xs
theorem Plan.roc8 {h : Hp} {b : Nat} {xs : List Plan} {lim : Bool} (hb : h b = some (some (rows Plan.ty.oc xs))) : roc h 8 (.sl b 0 xs.length 2 lim) = some (.ro (rows Plan.ty.cs xs) xs.length) := Plan.ty.roc8 (by decide) hb
theorem Plan.roc7 {h : Hp} {b : Nat} {xs : List Plan} {lim : Bool} (hb : h b = some (some (rows Plan.ty.oc xs))) : roc h 7 (.sl b 0 xs.length 2 lim) = some (.ro (rows Plan.ty.cs xs) xs.length) := Plan.ty.roc7 (by decide) hb
structure Made where
  task : ByteArray
  outs : List File
  log : ByteArray
def Made.ty : Ty Made := Ty.struct (Ty.str.cons (File.ty.slice.cons (Ty.str.cons Ty.nil))) (fun x => (x.task, x.outs, x.log, ())) (fun p => ⟨p.1, p.2.1, p.2.2.1⟩) (fun _ => rfl) 56
theorem Made.cse (x : Made) : Made.ty.cs x = [.sc (.string x.task), .ro (rows File.ty.cs x.outs) x.outs.length, .sc (.string x.log)] := rfl
theorem Made.oce (x : Made) : Made.ty.oc x = [.sc (.string x.task), .own (rows File.ty.oc x.outs) x.outs.length 2, .sc (.string x.log)] := rfl
theorem Made.ocl (xs : List Made) : (rows Made.ty.oc xs).length = xs.length * 3 := rows_length Made.ty.ocn xs
theorem Made.csl (xs : List Made) : (rows Made.ty.cs xs).length = xs.length * 3 := rows_length Made.ty.csn xs
theorem Made.frL (xs : List Made) : idfree.idfreeL (rows Made.ty.oc xs) = true := Made.ty.frL xs
theorem Made.roc8 {h : Hp} {b : Nat} {xs : List Made} {lim : Bool} (hb : h b = some (some (rows Made.ty.oc xs))) : roc h 8 (.sl b 0 xs.length 3 lim) = some (.ro (rows Made.ty.cs xs) xs.length) := Made.ty.roc8 (by decide) hb
theorem Made.roc7 {h : Hp} {b : Nat} {xs : List Made} {lim : Bool} (hb : h b = some (some (rows Made.ty.oc xs))) : roc h 7 (.sl b 0 xs.length 3 lim) = some (.ro (rows Made.ty.cs xs) xs.length) := Made.ty.roc7 (by decide) hb
structure Mark where
  task : ByteArray
  how : Int
def Mark.ty : Ty Mark := Ty.struct (Ty.str.cons (Ty.int.cons Ty.nil)) (fun x => (x.task, x.how, ())) (fun p => ⟨p.1, p.2.1⟩) (fun _ => rfl) 24
theorem Mark.cse (x : Mark) : Mark.ty.cs x = [.sc (.string x.task), .sc (.int .i64 x.how)] := rfl
theorem Mark.oce (x : Mark) : Mark.ty.oc x = [.sc (.string x.task), .sc (.int .i64 x.how)] := rfl
theorem Mark.ocl (xs : List Mark) : (rows Mark.ty.oc xs).length = xs.length * 2 := rows_length Mark.ty.ocn xs
theorem Mark.csl (xs : List Mark) : (rows Mark.ty.cs xs).length = xs.length * 2 := rows_length Mark.ty.csn xs
theorem Mark.frL (xs : List Mark) : idfree.idfreeL (rows Mark.ty.oc xs) = true := Mark.ty.frL xs
theorem Mark.roc8 {h : Hp} {b : Nat} {xs : List Mark} {lim : Bool} (hb : h b = some (some (rows Mark.ty.oc xs))) : roc h 8 (.sl b 0 xs.length 2 lim) = some (.ro (rows Mark.ty.cs xs) xs.length) := Mark.ty.roc8 (by decide) hb
theorem Mark.roc7 {h : Hp} {b : Nat} {xs : List Mark} {lim : Bool} (hb : h b = some (some (rows Mark.ty.oc xs))) : roc h 7 (.sl b 0 xs.length 2 lim) = some (.ro (rows Mark.ty.cs xs) xs.length) := Mark.ty.roc7 (by decide) hb
structure Slot where
  key : List Int
  b : List Int
def Slot.ty : Ty Slot := Ty.struct (Ty.byte.slice.cons (Ty.byte.slice.cons Ty.nil)) (fun x => (x.key, x.b, ())) (fun p => ⟨p.1, p.2.1⟩) (fun _ => rfl) 48
theorem Slot.cse (x : Slot) : Slot.ty.cs x = [.ro (rows Ty.byte.cs x.key) x.key.length, .ro (rows Ty.byte.cs x.b) x.b.length] := rfl
theorem Slot.oce (x : Slot) : Slot.ty.oc x = [.own (rows Ty.byte.oc x.key) x.key.length 1, .own (rows Ty.byte.oc x.b) x.b.length 1] := rfl
theorem Slot.ocl (xs : List Slot) : (rows Slot.ty.oc xs).length = xs.length * 2 := rows_length Slot.ty.ocn xs
theorem Slot.csl (xs : List Slot) : (rows Slot.ty.cs xs).length = xs.length * 2 := rows_length Slot.ty.csn xs
theorem Slot.frL (xs : List Slot) : idfree.idfreeL (rows Slot.ty.oc xs) = true := Slot.ty.frL xs
theorem Slot.roc8 {h : Hp} {b : Nat} {xs : List Slot} {lim : Bool} (hb : h b = some (some (rows Slot.ty.oc xs))) : roc h 8 (.sl b 0 xs.length 2 lim) = some (.ro (rows Slot.ty.cs xs) xs.length) := Slot.ty.roc8 (by decide) hb
theorem Slot.roc7 {h : Hp} {b : Nat} {xs : List Slot} {lim : Bool} (hb : h b = some (some (rows Slot.ty.oc xs))) : roc h 7 (.sl b 0 xs.length 2 lim) = some (.ro (rows Slot.ty.cs xs) xs.length) := Slot.ty.roc7 (by decide) hb
structure Run where
  w : World
  p : Plan
  slots : Int
  goOn : Bool
  made : List Made
  marks : List Mark
  going : List ByteArray
  cache : List Slot
def Run.ty : Ty Run := Ty.struct (World.ty.cons (Plan.ty.cons (Ty.int.cons (Ty.bool.cons (Made.ty.slice.cons (Mark.ty.slice.cons (Ty.str.slice.cons (Slot.ty.slice.cons Ty.nil)))))))) (fun x => (x.w, x.p, x.slots, x.goOn, x.made, x.marks, x.going, x.cache, ())) (fun p => ⟨p.1, p.2.1, p.2.2.1, p.2.2.2.1, p.2.2.2.2.1, p.2.2.2.2.2.1, p.2.2.2.2.2.2.1, p.2.2.2.2.2.2.2.1⟩) (fun _ => rfl) 256
theorem Run.cse (x : Run) : Run.ty.cs x = [.ro (rows Pack.ty.cs x.w.packs) x.w.packs.length, .ro (rows Rule.ty.cs x.w.rules) x.w.rules.length, .ro (rows File.ty.cs x.w.files) x.w.files.length, .ro (rows Env.ty.cs x.w.envs) x.w.envs.length, .ro (rows Ty.str.cs x.p.tasks) x.p.tasks.length, .ro (rows Ty.str.slice.cs x.p.deps) x.p.deps.length, .sc (.int .i64 x.slots), .sc (.bool x.goOn), .ro (rows Made.ty.cs x.made) x.made.length, .ro (rows Mark.ty.cs x.marks) x.marks.length, .ro (rows Ty.str.cs x.going) x.going.length, .ro (rows Slot.ty.cs x.cache) x.cache.length] := rfl
theorem Run.oce (x : Run) : Run.ty.oc x = [.own (rows Pack.ty.oc x.w.packs) x.w.packs.length 4, .own (rows Rule.ty.oc x.w.rules) x.w.rules.length 5, .own (rows File.ty.oc x.w.files) x.w.files.length 2, .own (rows Env.ty.oc x.w.envs) x.w.envs.length 2, .own (rows Ty.str.oc x.p.tasks) x.p.tasks.length 1, .own (rows Ty.str.slice.oc x.p.deps) x.p.deps.length 1, .sc (.int .i64 x.slots), .sc (.bool x.goOn), .own (rows Made.ty.oc x.made) x.made.length 3, .own (rows Mark.ty.oc x.marks) x.marks.length 2, .own (rows Ty.str.oc x.going) x.going.length 1, .own (rows Slot.ty.oc x.cache) x.cache.length 2] := rfl
theorem Run.ocl (xs : List Run) : (rows Run.ty.oc xs).length = xs.length * 12 := rows_length Run.ty.ocn xs
theorem Run.csl (xs : List Run) : (rows Run.ty.cs xs).length = xs.length * 12 := rows_length Run.ty.csn xs
theorem Run.frL (xs : List Run) : idfree.idfreeL (rows Run.ty.oc xs) = true := Run.ty.frL xs
theorem Run.roc8 {h : Hp} {b : Nat} {xs : List Run} {lim : Bool} (hb : h b = some (some (rows Run.ty.oc xs))) : roc h 8 (.sl b 0 xs.length 12 lim) = some (.ro (rows Run.ty.cs xs) xs.length) := Run.ty.roc8 (by decide) hb
theorem Run.roc7 {h : Hp} {b : Nat} {xs : List Run} {lim : Bool} (hb : h b = some (some (rows Run.ty.oc xs))) : roc h 7 (.sl b 0 xs.length 12 lim) = some (.ro (rows Run.ty.cs xs) xs.length) := Run.ty.roc7 (by decide) hb
structure Job where
  name : ByteArray
  acts : List ByteArray
  ins : List File
  envs : List Env
  deps : List Made
def Job.ty : Ty Job := Ty.struct (Ty.str.cons (Ty.str.slice.cons (File.ty.slice.cons (Env.ty.slice.cons (Made.ty.slice.cons Ty.nil))))) (fun x => (x.name, x.acts, x.ins, x.envs, x.deps, ())) (fun p => ⟨p.1, p.2.1, p.2.2.1, p.2.2.2.1, p.2.2.2.2.1⟩) (fun _ => rfl) 112
theorem Job.cse (x : Job) : Job.ty.cs x = [.sc (.string x.name), .ro (rows Ty.str.cs x.acts) x.acts.length, .ro (rows File.ty.cs x.ins) x.ins.length, .ro (rows Env.ty.cs x.envs) x.envs.length, .ro (rows Made.ty.cs x.deps) x.deps.length] := rfl
theorem Job.oce (x : Job) : Job.ty.oc x = [.sc (.string x.name), .own (rows Ty.str.oc x.acts) x.acts.length 1, .own (rows File.ty.oc x.ins) x.ins.length 2, .own (rows Env.ty.oc x.envs) x.envs.length 2, .own (rows Made.ty.oc x.deps) x.deps.length 3] := rfl
theorem Job.ocl (xs : List Job) : (rows Job.ty.oc xs).length = xs.length * 5 := rows_length Job.ty.ocn xs
theorem Job.csl (xs : List Job) : (rows Job.ty.cs xs).length = xs.length * 5 := rows_length Job.ty.csn xs
theorem Job.frL (xs : List Job) : idfree.idfreeL (rows Job.ty.oc xs) = true := Job.ty.frL xs
theorem Job.roc8 {h : Hp} {b : Nat} {xs : List Job} {lim : Bool} (hb : h b = some (some (rows Job.ty.oc xs))) : roc h 8 (.sl b 0 xs.length 5 lim) = some (.ro (rows Job.ty.cs xs) xs.length) := Job.ty.roc8 (by decide) hb
theorem Job.roc7 {h : Hp} {b : Nat} {xs : List Job} {lim : Bool} (hb : h b = some (some (rows Job.ty.oc xs))) : roc h 7 (.sl b 0 xs.length 5 lim) = some (.ro (rows Job.ty.cs xs) xs.length) := Job.ty.roc7 (by decide) hb
structure Doc where
  name : ByteArray
  text : ByteArray
def Doc.ty : Ty Doc := Ty.struct (Ty.str.cons (Ty.str.cons Ty.nil)) (fun x => (x.name, x.text, ())) (fun p => ⟨p.1, p.2.1⟩) (fun _ => rfl) 32
theorem Doc.cse (x : Doc) : Doc.ty.cs x = [.sc (.string x.name), .sc (.string x.text)] := rfl
theorem Doc.oce (x : Doc) : Doc.ty.oc x = [.sc (.string x.name), .sc (.string x.text)] := rfl
theorem Doc.ocl (xs : List Doc) : (rows Doc.ty.oc xs).length = xs.length * 2 := rows_length Doc.ty.ocn xs
theorem Doc.csl (xs : List Doc) : (rows Doc.ty.cs xs).length = xs.length * 2 := rows_length Doc.ty.csn xs
theorem Doc.frL (xs : List Doc) : idfree.idfreeL (rows Doc.ty.oc xs) = true := Doc.ty.frL xs
theorem Doc.roc8 {h : Hp} {b : Nat} {xs : List Doc} {lim : Bool} (hb : h b = some (some (rows Doc.ty.oc xs))) : roc h 8 (.sl b 0 xs.length 2 lim) = some (.ro (rows Doc.ty.cs xs) xs.length) := Doc.ty.roc8 (by decide) hb
theorem Doc.roc7 {h : Hp} {b : Nat} {xs : List Doc} {lim : Bool} (hb : h b = some (some (rows Doc.ty.oc xs))) : roc h 7 (.sl b 0 xs.length 2 lim) = some (.ro (rows Doc.ty.cs xs) xs.length) := Doc.ty.roc7 (by decide) hb
structure Op where
  kind : Int
  a : ByteArray
  b : ByteArray
def Op.ty : Ty Op := Ty.struct (Ty.int.cons (Ty.str.cons (Ty.str.cons Ty.nil))) (fun x => (x.kind, x.a, x.b, ())) (fun p => ⟨p.1, p.2.1, p.2.2.1⟩) (fun _ => rfl) 40
theorem Op.cse (x : Op) : Op.ty.cs x = [.sc (.int .i64 x.kind), .sc (.string x.a), .sc (.string x.b)] := rfl
theorem Op.oce (x : Op) : Op.ty.oc x = [.sc (.int .i64 x.kind), .sc (.string x.a), .sc (.string x.b)] := rfl
theorem Op.ocl (xs : List Op) : (rows Op.ty.oc xs).length = xs.length * 3 := rows_length Op.ty.ocn xs
theorem Op.csl (xs : List Op) : (rows Op.ty.cs xs).length = xs.length * 3 := rows_length Op.ty.csn xs
theorem Op.frL (xs : List Op) : idfree.idfreeL (rows Op.ty.oc xs) = true := Op.ty.frL xs
theorem Op.roc8 {h : Hp} {b : Nat} {xs : List Op} {lim : Bool} (hb : h b = some (some (rows Op.ty.oc xs))) : roc h 8 (.sl b 0 xs.length 3 lim) = some (.ro (rows Op.ty.cs xs) xs.length) := Op.ty.roc8 (by decide) hb
theorem Op.roc7 {h : Hp} {b : Nat} {xs : List Op} {lim : Bool} (hb : h b = some (some (rows Op.ty.oc xs))) : roc h 7 (.sl b 0 xs.length 3 lim) = some (.ro (rows Op.ty.cs xs) xs.length) := Op.ty.roc7 (by decide) hb
structure Disk where
  sure : List Doc
  pend : List Op
def Disk.ty : Ty Disk := Ty.struct (Doc.ty.slice.cons (Op.ty.slice.cons Ty.nil)) (fun x => (x.sure, x.pend, ())) (fun p => ⟨p.1, p.2.1⟩) (fun _ => rfl) 48
theorem Disk.cse (x : Disk) : Disk.ty.cs x = [.ro (rows Doc.ty.cs x.sure) x.sure.length, .ro (rows Op.ty.cs x.pend) x.pend.length] := rfl
theorem Disk.oce (x : Disk) : Disk.ty.oc x = [.own (rows Doc.ty.oc x.sure) x.sure.length 2, .own (rows Op.ty.oc x.pend) x.pend.length 3] := rfl
theorem Disk.ocl (xs : List Disk) : (rows Disk.ty.oc xs).length = xs.length * 2 := rows_length Disk.ty.ocn xs
theorem Disk.csl (xs : List Disk) : (rows Disk.ty.cs xs).length = xs.length * 2 := rows_length Disk.ty.csn xs
theorem Disk.frL (xs : List Disk) : idfree.idfreeL (rows Disk.ty.oc xs) = true := Disk.ty.frL xs
theorem Disk.roc8 {h : Hp} {b : Nat} {xs : List Disk} {lim : Bool} (hb : h b = some (some (rows Disk.ty.oc xs))) : roc h 8 (.sl b 0 xs.length 2 lim) = some (.ro (rows Disk.ty.cs xs) xs.length) := Disk.ty.roc8 (by decide) hb
theorem Disk.roc7 {h : Hp} {b : Nat} {xs : List Disk} {lim : Bool} (hb : h b = some (some (rows Disk.ty.oc xs))) : roc h 7 (.sl b 0 xs.length 2 lim) = some (.ro (rows Disk.ty.cs xs) xs.length) := Disk.ty.roc7 (by decide) hb
structure Ver where
  a : Int
  b : Int
  c : Int
  pre : List ByteArray
def Ver.ty : Ty Ver := Ty.struct (Ty.int.cons (Ty.int.cons (Ty.int.cons (Ty.str.slice.cons Ty.nil)))) (fun x => (x.a, x.b, x.c, x.pre, ())) (fun p => ⟨p.1, p.2.1, p.2.2.1, p.2.2.2.1⟩) (fun _ => rfl) 48
theorem Ver.cse (x : Ver) : Ver.ty.cs x = [.sc (.int .i64 x.a), .sc (.int .i64 x.b), .sc (.int .i64 x.c), .ro (rows Ty.str.cs x.pre) x.pre.length] := rfl
theorem Ver.oce (x : Ver) : Ver.ty.oc x = [.sc (.int .i64 x.a), .sc (.int .i64 x.b), .sc (.int .i64 x.c), .own (rows Ty.str.oc x.pre) x.pre.length 1] := rfl
theorem Ver.ocl (xs : List Ver) : (rows Ver.ty.oc xs).length = xs.length * 4 := rows_length Ver.ty.ocn xs
theorem Ver.csl (xs : List Ver) : (rows Ver.ty.cs xs).length = xs.length * 4 := rows_length Ver.ty.csn xs
theorem Ver.frL (xs : List Ver) : idfree.idfreeL (rows Ver.ty.oc xs) = true := Ver.ty.frL xs
theorem Ver.roc8 {h : Hp} {b : Nat} {xs : List Ver} {lim : Bool} (hb : h b = some (some (rows Ver.ty.oc xs))) : roc h 8 (.sl b 0 xs.length 4 lim) = some (.ro (rows Ver.ty.cs xs) xs.length) := Ver.ty.roc8 (by decide) hb
theorem Ver.roc7 {h : Hp} {b : Nat} {xs : List Ver} {lim : Bool} (hb : h b = some (some (rows Ver.ty.oc xs))) : roc h 7 (.sl b 0 xs.length 4 lim) = some (.ro (rows Ver.ty.cs xs) xs.length) := Ver.ty.roc7 (by decide) hb
structure Cmp where
  op : Int
  v : Ver
def Cmp.ty : Ty Cmp := Ty.struct (Ty.int.cons (Ver.ty.cons Ty.nil)) (fun x => (x.op, x.v, ())) (fun p => ⟨p.1, p.2.1⟩) (fun _ => rfl) 56
theorem Cmp.cse (x : Cmp) : Cmp.ty.cs x = [.sc (.int .i64 x.op), .sc (.int .i64 x.v.a), .sc (.int .i64 x.v.b), .sc (.int .i64 x.v.c), .ro (rows Ty.str.cs x.v.pre) x.v.pre.length] := rfl
theorem Cmp.oce (x : Cmp) : Cmp.ty.oc x = [.sc (.int .i64 x.op), .sc (.int .i64 x.v.a), .sc (.int .i64 x.v.b), .sc (.int .i64 x.v.c), .own (rows Ty.str.oc x.v.pre) x.v.pre.length 1] := rfl
theorem Cmp.ocl (xs : List Cmp) : (rows Cmp.ty.oc xs).length = xs.length * 5 := rows_length Cmp.ty.ocn xs
theorem Cmp.csl (xs : List Cmp) : (rows Cmp.ty.cs xs).length = xs.length * 5 := rows_length Cmp.ty.csn xs
theorem Cmp.frL (xs : List Cmp) : idfree.idfreeL (rows Cmp.ty.oc xs) = true := Cmp.ty.frL xs
theorem Cmp.roc8 {h : Hp} {b : Nat} {xs : List Cmp} {lim : Bool} (hb : h b = some (some (rows Cmp.ty.oc xs))) : roc h 8 (.sl b 0 xs.length 5 lim) = some (.ro (rows Cmp.ty.cs xs) xs.length) := Cmp.ty.roc8 (by decide) hb
theorem Cmp.roc7 {h : Hp} {b : Nat} {xs : List Cmp} {lim : Bool} (hb : h b = some (some (rows Cmp.ty.oc xs))) : roc h 7 (.sl b 0 xs.length 5 lim) = some (.ro (rows Cmp.ty.cs xs) xs.length) := Cmp.ty.roc7 (by decide) hb
structure Entry where
  name : ByteArray
  v : Ver
  needs : List Need
def Entry.ty : Ty Entry := Ty.struct (Ty.str.cons (Ver.ty.cons (Need.ty.slice.cons Ty.nil))) (fun x => (x.name, x.v, x.needs, ())) (fun p => ⟨p.1, p.2.1, p.2.2.1⟩) (fun _ => rfl) 88
theorem Entry.cse (x : Entry) : Entry.ty.cs x = [.sc (.string x.name), .sc (.int .i64 x.v.a), .sc (.int .i64 x.v.b), .sc (.int .i64 x.v.c), .ro (rows Ty.str.cs x.v.pre) x.v.pre.length, .ro (rows Need.ty.cs x.needs) x.needs.length] := rfl
theorem Entry.oce (x : Entry) : Entry.ty.oc x = [.sc (.string x.name), .sc (.int .i64 x.v.a), .sc (.int .i64 x.v.b), .sc (.int .i64 x.v.c), .own (rows Ty.str.oc x.v.pre) x.v.pre.length 1, .own (rows Need.ty.oc x.needs) x.needs.length 2] := rfl
theorem Entry.ocl (xs : List Entry) : (rows Entry.ty.oc xs).length = xs.length * 6 := rows_length Entry.ty.ocn xs
theorem Entry.csl (xs : List Entry) : (rows Entry.ty.cs xs).length = xs.length * 6 := rows_length Entry.ty.csn xs
theorem Entry.frL (xs : List Entry) : idfree.idfreeL (rows Entry.ty.oc xs) = true := Entry.ty.frL xs
theorem Entry.roc8 {h : Hp} {b : Nat} {xs : List Entry} {lim : Bool} (hb : h b = some (some (rows Entry.ty.oc xs))) : roc h 8 (.sl b 0 xs.length 6 lim) = some (.ro (rows Entry.ty.cs xs) xs.length) := Entry.ty.roc8 (by decide) hb
theorem Entry.roc7 {h : Hp} {b : Nat} {xs : List Entry} {lim : Bool} (hb : h b = some (some (rows Entry.ty.oc xs))) : roc h 7 (.sl b 0 xs.length 6 lim) = some (.ro (rows Entry.ty.cs xs) xs.length) := Entry.ty.roc7 (by decide) hb
structure Pick where
  name : ByteArray
  v : Ver
def Pick.ty : Ty Pick := Ty.struct (Ty.str.cons (Ver.ty.cons Ty.nil)) (fun x => (x.name, x.v, ())) (fun p => ⟨p.1, p.2.1⟩) (fun _ => rfl) 64
theorem Pick.cse (x : Pick) : Pick.ty.cs x = [.sc (.string x.name), .sc (.int .i64 x.v.a), .sc (.int .i64 x.v.b), .sc (.int .i64 x.v.c), .ro (rows Ty.str.cs x.v.pre) x.v.pre.length] := rfl
theorem Pick.oce (x : Pick) : Pick.ty.oc x = [.sc (.string x.name), .sc (.int .i64 x.v.a), .sc (.int .i64 x.v.b), .sc (.int .i64 x.v.c), .own (rows Ty.str.oc x.v.pre) x.v.pre.length 1] := rfl
theorem Pick.ocl (xs : List Pick) : (rows Pick.ty.oc xs).length = xs.length * 5 := rows_length Pick.ty.ocn xs
theorem Pick.csl (xs : List Pick) : (rows Pick.ty.cs xs).length = xs.length * 5 := rows_length Pick.ty.csn xs
theorem Pick.frL (xs : List Pick) : idfree.idfreeL (rows Pick.ty.oc xs) = true := Pick.ty.frL xs
theorem Pick.roc8 {h : Hp} {b : Nat} {xs : List Pick} {lim : Bool} (hb : h b = some (some (rows Pick.ty.oc xs))) : roc h 8 (.sl b 0 xs.length 5 lim) = some (.ro (rows Pick.ty.cs xs) xs.length) := Pick.ty.roc8 (by decide) hb
theorem Pick.roc7 {h : Hp} {b : Nat} {xs : List Pick} {lim : Bool} (hb : h b = some (some (rows Pick.ty.oc xs))) : roc h 7 (.sl b 0 xs.length 5 lim) = some (.ro (rows Pick.ty.cs xs) xs.length) := Pick.ty.roc7 (by decide) hb
theorem strDrop (pre rest : List ByteArray) (x : ByteArray) : List.drop pre.length (rows Ty.str.cs (pre ++ x :: rest)) = .sc (.string x) :: rows Ty.str.cs rest := by
  have h := rows_drop Ty.str.csn pre (x :: rest)
  have h : List.drop (pre.length * 1) (rows Ty.str.cs (pre ++ x :: rest)) = rows Ty.str.cs (x :: rest) := h
  rw [Nat.mul_one] at h
  rw [h, rows_cons]; rfl
end Go.Proofs.YtaknfalbmblagaaGreatDoor.Am
namespace Go.Proofs.YtaknfalbmblagaaGreatDoor.Am
open Go Go.Proofs
set_option linter.unusedSimpArgs false
set_option linter.unusedVariables false
attribute [local congr] T_congr callK_congr callWK_congr
attribute [local simp] run_nil run_op0 run_opg run_seq run_cond run_block run_ret run_skip run_skip_after run_skip_blk run_exit run_exit_after run_exit_blk run_loop run_any runS_nil runS_op0 runS_opg runW_nil runW_op0 runW_opg exec_q exec_w exec_c exec_n execW_q execW_w execW_c restW_app hideH_app merge_app wblk rest_app restS_app execS_q execS_c aval dOk upd_app ev_t ev_c setO_some setO_none put_mk pinsOf isIo hasIo sbin endR fin resL one outL out1 clo1 cloL coe coeL shut shut.shutL wantA weff cellsOf fillA deref natOf ρ0_app h0_app plain plain.plainL keep_app keepH_app andThen_normal andThen_ret andThen_exit pop_nil pop_after pop_after_ret pop_after_exit pop_blk pop_blk_ret pop_blk_exit nilA srcOf srcCells keepR_app keepHR_app renA rb
/- 97: loop.example/g00464/laws.szFile -/
/- 98: loop.example/g00464/laws.toFile -/
/- 99: loop.example/g00464/laws.eqFile -/
/- 28: loop.example/g00464/laws.szMade -/
/- 31: loop.example/g00464/laws.toMade -/
/- 34: loop.example/g00464/laws.eqMade -/
/- 65: loop.example/g00464/laws.szSlot -/
/- 67: loop.example/g00464/laws.toSlot -/
/- 69: loop.example/g00464/laws.eqSlot -/
end Go.Proofs.YtaknfalbmblagaaGreatDoor.Am
namespace Go.Proofs.YtaknfalbmblagaaGreatDoor.Am
open Go Go.Proofs
set_option linter.unusedSimpArgs false
set_option linter.unusedVariables false
attribute [local congr] T_congr callK_congr callWK_congr
attribute [local simp] run_nil run_op0 run_opg run_seq run_cond run_block run_ret run_skip run_skip_after run_skip_blk run_exit run_exit_after run_exit_blk run_loop run_any runS_nil runS_op0 runS_opg runW_nil runW_op0 runW_opg exec_q exec_w exec_c exec_n execW_q execW_w execW_c restW_app hideH_app merge_app wblk rest_app restS_app execS_q execS_c aval dOk upd_app ev_t ev_c setO_some setO_none put_mk pinsOf isIo hasIo sbin endR fin resL one outL out1 clo1 cloL coe coeL shut shut.shutL wantA weff cellsOf fillA deref natOf ρ0_app h0_app plain plain.plainL keep_app keepH_app andThen_normal andThen_ret andThen_exit pop_nil pop_after pop_after_ret pop_after_exit pop_blk pop_blk_ret pop_blk_exit nilA srcOf srcCells keepR_app keepHR_app renA rb
def fileEq (a b : File) : Bool := strEq a.path b.path && strEq a.text b.text
def madeEq (a b : Made) : Bool := strEq a.task b.task && (strEq a.log b.log && eqBy fileEq a.outs b.outs)
end Go.Proofs.YtaknfalbmblagaaGreatDoor.Am
namespace Go.Proofs.YtaknfalbmblagaaGreatDoor.Am
open Go Go.Proofs
set_option linter.unusedSimpArgs false
set_option linter.unusedVariables false
attribute [local congr] T_congr callK_congr callWK_congr
attribute [local simp] run_nil run_op0 run_opg run_seq run_cond run_block run_ret run_skip run_skip_after run_skip_blk run_exit run_exit_after run_exit_blk run_loop run_any runS_nil runS_op0 runS_opg runW_nil runW_op0 runW_opg exec_q exec_w exec_c exec_n execW_q execW_w execW_c restW_app hideH_app merge_app wblk rest_app restS_app execS_q execS_c aval dOk upd_app ev_t ev_c setO_some setO_none put_mk pinsOf isIo hasIo sbin endR fin resL one outL out1 clo1 cloL coe coeL shut shut.shutL wantA weff cellsOf fillA deref natOf ρ0_app h0_app plain plain.plainL keep_app keepH_app andThen_normal andThen_ret andThen_exit pop_nil pop_after pop_after_ret pop_after_exit pop_blk pop_blk_ret pop_blk_exit nilA srcOf srcCells keepR_app keepHR_app renA rb
theorem R49 (xs ys : List File) (hb : xs.length < 4611686018427387904) : Ret Tryz.prog 49 [.ro (rows File.ty.cs xs) xs.length, .ro (rows File.ty.cs ys) ys.length] (.sc (.bool (eqBy fileEq xs ys))) [.un, .un] := Ret.same mixed File.ty (offs := [(0, 0), (1, 0)]) Tryz.func49 ⟨by kernel_rfl, by kernel_rfl, by kernel_rfl⟩ fileEq (fun x y => by simp [File.cse, eqOff, seq1, fileEq, strEq]) xs ys hb
/- 15: loop.example/g00464/laws.sameMade -/
def A15 : AC := (.seq (.ops [⟨(some 2), none, .w (.box (.t 0))⟩, ⟨(some 3), none, .w (.box (.t 1))⟩, ⟨(some 4), none, .q (.mov (.c (.sc (.bool false))))⟩])
  (.seq (.ops [⟨(some 5), none, .q (.fadr 0 (.t 2))⟩, ⟨(some 6), none, .q (.load false 1 (.t 5))⟩, ⟨(some 7), none, .q (.fadr 0 (.t 3))⟩, ⟨(some 8), none, .q (.load false 1 (.t 7))⟩, ⟨(some 9), none, .q (.bin .eql (.t 6) (.t 8))⟩, ⟨(some 10), none, .q (.mov (.t 9))⟩, ⟨(some 11), (some (10, true)), .q (.fadr 2 (.t 2))⟩, ⟨(some 12), (some (10, true)), .q (.load false 1 (.t 11))⟩, ⟨(some 13), (some (10, true)), .q (.fadr 2 (.t 3))⟩, ⟨(some 14), (some (10, true)), .q (.load false 1 (.t 13))⟩, ⟨(some 15), (some (10, true)), .q (.bin .eql (.t 12) (.t 14))⟩, ⟨(some 16), none, .q (.pick (.t 10) (.t 15) (.c (.sc (.bool false))))⟩, ⟨(some 17), none, .q (.mov (.t 16))⟩, ⟨(some 18), (some (17, true)), .q (.fadr 1 (.t 2))⟩, ⟨(some 19), (some (17, true)), .q (.load false 1 (.t 18))⟩, ⟨(some 20), (some (17, true)), .q (.fadr 1 (.t 3))⟩, ⟨(some 21), (some (17, true)), .q (.load false 1 (.t 20))⟩, ⟨(some 22), (some (17, true)), .c (.c (.clo 49 [])) [(.t 19), (.t 21)]⟩, ⟨(some 23), none, .q (.pick (.t 17) (.t 22) (.c (.sc (.bool false))))⟩, ⟨(some 4), none, .q (.mov (.t 23))⟩])
  .ret))
theorem K15 : Tryz.f15.body.bind (comp Tryz.prog) = some A15 ∧ Tryz.f15.ntmps = 24 ∧ Tryz.f15.results.toList.mapM (resB Tryz.prog) = some [.mov (.t 4)] := ⟨by kernel_rfl, by kernel_rfl, by kernel_rfl⟩
theorem R15 (a b : Made) (ha : Made.ty.ok a) : Ret Tryz.prog 15 [.agg (Made.ty.cs a), .agg (Made.ty.cs b)] (.sc (.bool (madeEq a b))) [.un, .un] := by
  have hb := File.ty.lenb (by decide) ha.2.1
  refine Ret.run Tryz.func15 K15 (by simp) rfl rfl 500 ?_
  by_cases h1 : a.task.toList = b.task.toList
  case neg =>
    have h1' : (a.task.toList == b.task.toList) = false := by simpa using h1
    simp [A15, iniρ, Made.cse, h1, h1', madeEq, strEq]
  by_cases h2 : a.log.toList = b.log.toList
  case neg =>
    have h2' : (a.log.toList == b.log.toList) = false := by simpa using h2
    simp [A15, iniρ, Made.cse, h1, h2, h2', madeEq, strEq]
  simp [A15, iniρ, Made.cse, h1, h2]
  refine callK.ro 0 rfl (by kernel_rfl) (by simp [roc_ro]) (R49 a.outs b.outs hb) rfl rfl rfl ?_
  simp [madeEq, strEq, h1, h2]
end Go.Proofs.YtaknfalbmblagaaGreatDoor.Am
namespace Go.Proofs.YtaknfalbmblagaaGreatDoor.Am
open Go Go.Proofs
set_option linter.unusedSimpArgs false
set_option linter.unusedVariables false
attribute [local congr] T_congr callK_congr callWK_congr
attribute [local simp] run_nil run_op0 run_opg run_seq run_cond run_block run_ret run_skip run_skip_after run_skip_blk run_exit run_exit_after run_exit_blk run_loop run_any runS_nil runS_op0 runS_opg runW_nil runW_op0 runW_opg exec_q exec_w exec_c exec_n execW_q execW_w execW_c restW_app hideH_app merge_app wblk rest_app restS_app execS_q execS_c aval dOk upd_app ev_t ev_c setO_some setO_none put_mk pinsOf isIo hasIo sbin endR fin resL one outL out1 clo1 cloL coe coeL shut shut.shutL wantA weff cellsOf fillA deref natOf ρ0_app h0_app plain plain.plainL keep_app keepH_app andThen_normal andThen_ret andThen_exit pop_nil pop_after pop_after_ret pop_after_exit pop_blk pop_blk_ret pop_blk_exit nilA srcOf srcCells keepR_app keepHR_app renA rb
structure FlP where
  v : Bool
def gtrP (a b : ByteArray) : Bool := !Op.bytesLess a.toList b.toList && !(a.toList == b.toList)
def putF (f : File) : List File → Bool → List File
  | [], d => if d then [] else [f]
  | x :: xs, d => if x.path.toList = f.path.toList then putF f xs d else if (!d && gtrP x.path f.path) = true then f :: x :: putF f xs true else x :: putF f xs d
theorem fileSc (xs : List File) : plain.plainL (rows File.ty.oc xs) = true := plainL_of (rows_all (q := plain) (fun x c hc => by simp [File.oce] at hc; rcases hc with rfl | rfl <;> rfl) xs)
theorem fileId (xs : List File) : ∀ y ∈ rows File.ty.oc xs, idfree y = true := rows_all (fun x c hc => (File.ty.ow x c hc).fr) xs
/- 121: loop.example/g00464/spec.l5Put -/
def A121 : AC := (.seq (.ops [⟨(some 3), none, .w (.box (.t 1))⟩, ⟨(some 4), none, .q (.mov (.c .em))⟩])
  (.seq (.ops [⟨(some 8), none, .w (.bsl 2 0 [] [])⟩, ⟨(some 5), none, .q (.mov (.t 8))⟩])
  (.seq (.ops [⟨(some 6), none, .q (.mov (.c (.sc (.bool false))))⟩])
  (.seq (.seq (.ops [⟨(some 7), none, .q (.mov (.c (.sc (.int .i64 0))))⟩])
  (.block 0 (.loop (.seq (.seq (.ops [⟨(some 9), none, .q (.mov (.t 7))⟩, ⟨(some 10), none, .q (.mov (.t 0))⟩, ⟨(some 11), none, .q (.llen (.t 10))⟩, ⟨(some 12), none, .q (.bin .lss (.t 9) (.t 11))⟩])
  (.cond (.t 12) .skip
  (.exit 0)))
  (.seq (.block 1 (.seq (.seq (.any [(⟨(some 15), none, .q (.mov (.t 0))⟩, []), (⟨(some 16), none, .q (.mov (.t 7))⟩, []), (⟨(some 17), none, .q (.iadr 2 (.t 15) (.t 16))⟩, [0, 1]), (⟨(some 18), none, .q (.fadr 0 (.t 17))⟩, [2]), (⟨(some 19), none, .q (.load false 1 (.t 18))⟩, [3]), (⟨(some 20), none, .q (.fadr 0 (.t 3))⟩, []), (⟨(some 21), none, .q (.load false 1 (.t 20))⟩, [5]), (⟨(some 22), none, .q (.bin .eql (.t 19) (.t 21))⟩, [4, 6])])
  (.cond (.t 22) (.exit 1)
  .skip))
  (.seq (.seq (.any [(⟨(some 23), none, .q (.mov (.t 6))⟩, []), (⟨(some 24), none, .q (.not (.t 23))⟩, [0]), (⟨(some 25), none, .q (.mov (.t 24))⟩, [1]), (⟨(some 26), (some (25, true)), .q (.mov (.t 0))⟩, [2]), (⟨(some 27), (some (25, true)), .q (.mov (.t 7))⟩, [2]), (⟨(some 28), (some (25, true)), .q (.iadr 2 (.t 26) (.t 27))⟩, [3, 4, 2]), (⟨(some 29), (some (25, true)), .q (.fadr 0 (.t 28))⟩, [5, 2]), (⟨(some 30), (some (25, true)), .q (.load false 1 (.t 29))⟩, [6, 2]), (⟨(some 31), (some (25, true)), .q (.fadr 0 (.t 3))⟩, [2]), (⟨(some 32), (some (25, true)), .q (.load false 1 (.t 31))⟩, [8, 2]), (⟨(some 33), (some (25, true)), .q (.bin .gtr (.t 30) (.t 32))⟩, [7, 9, 2]), (⟨(some 34), none, .q (.pick (.t 25) (.t 33) (.c (.sc (.bool false))))⟩, [2, 10])])
  (.cond (.t 34) (.seq (.ops [⟨(some 35), none, .q (.mov (.t 5))⟩, ⟨(some 36), none, .q (.load true 2 (.t 3))⟩, ⟨(some 37), none, .w (.bsl 2 1 [(.sc (.string ⟨#[]⟩)), (.sc (.string ⟨#[]⟩))] [(0, 2, (.t 36))])⟩, ⟨(some 38), none, .w (.app 2 32 false (.t 35) (.t 37))⟩, ⟨(some 5), none, .q (.mov (.t 38))⟩])
  (.ops [⟨(some 6), none, .q (.mov (.c (.sc (.bool true))))⟩]))
  .skip))
  (.ops [⟨(some 39), none, .q (.mov (.t 5))⟩, ⟨(some 40), none, .q (.mov (.t 0))⟩, ⟨(some 41), none, .q (.mov (.t 7))⟩, ⟨(some 42), none, .q (.iadr 2 (.t 40) (.t 41))⟩, ⟨(some 43), none, .q (.load true 2 (.t 42))⟩, ⟨(some 44), none, .w (.bsl 2 1 [(.sc (.string ⟨#[]⟩)), (.sc (.string ⟨#[]⟩))] [(0, 2, (.t 43))])⟩, ⟨(some 45), none, .w (.app 2 32 false (.t 39) (.t 44))⟩, ⟨(some 5), none, .q (.mov (.t 45))⟩]))))
  (.ops [⟨(some 13), none, .q (.mov (.t 7))⟩, ⟨(some 14), none, .q (.bin .add (.t 13) (.c (.sc (.int .i64 1))))⟩, ⟨(some 7), none, .q (.mov (.t 14))⟩]))))))
  (.seq (.seq (.ops [⟨(some 46), none, .q (.mov (.t 6))⟩, ⟨(some 47), none, .q (.not (.t 46))⟩])
  (.cond (.t 47) (.ops [⟨(some 48), none, .q (.mov (.t 5))⟩, ⟨(some 49), none, .q (.load true 2 (.t 3))⟩, ⟨(some 50), none, .w (.bsl 2 1 [(.sc (.string ⟨#[]⟩)), (.sc (.string ⟨#[]⟩))] [(0, 2, (.t 49))])⟩, ⟨(some 51), none, .w (.app 2 32 false (.t 48) (.t 50))⟩, ⟨(some 5), none, .q (.mov (.t 51))⟩])
  .skip))
  (.seq (.ops [⟨(some 52), none, .q (.mov (.t 5))⟩, ⟨(some 4), none, .q (.mov (.t 52))⟩])
  .ret))))))
theorem K121 : Tryz.f121.body.bind (comp Tryz.prog) = some A121 ∧ Tryz.f121.ntmps = 53 ∧ Tryz.f121.results.toList.mapM (resB Tryz.prog) = some [.mov (.t 4)] := ⟨by kernel_rfl, by kernel_rfl, by kernel_rfl⟩
set_option maxHeartbeats 1000000 in
theorem R121 (xs : List File) (f : File) (hok : File.ty.slice.ok xs) : Ret Tryz.prog 121 [.ro (rows File.ty.cs xs) xs.length, .agg (File.ty.cs f)] (.own (rows File.ty.oc (putF f xs false)) (putF f xs false).length 2) [.un, .un] := by
  have hb : xs.length * 32 ≤ 140737488351232 := hok.1
  refine Ret.run Tryz.func121 K121 (by simp) rfl rfl 900 ?_
  simp [A121, iniρ, File.cse, over]
  refine T.rounds (μ := fun i : List File × List File × List File × FlP => i.2.1.length)
    (fun i s => i.1 ++ i.2.1 = xs ∧ i.2.2.1 ++ putF f i.2.1 i.2.2.2.v = putF f xs false ∧ i.2.2.1.length ≤ i.1.length + (if i.2.2.2.v then 1 else 0) ∧ s.ρ 0 = .ro (rows File.ty.cs xs) xs.length ∧ s.ρ 3 = .ref 3 0 ∧ s.ρ 5 = .sl 8 0 i.2.2.1.length 2 false ∧ s.ρ 6 = .sc (.bool i.2.2.2.v) ∧ s.ρ 7 = .sc (.int .i64 i.1.length) ∧
      s.h 3 = some (some [.sc (.string f.path), .sc (.string f.text)]) ∧ s.h 8 = some (some (rows File.ty.oc i.2.2.1)) ∧ s.h 37 = none ∧ s.h 38 = none ∧ s.h 44 = none ∧ s.h 45 = none ∧ s.h 50 = none ∧ s.h 51 = none ∧ s.n = 53) ([], xs, [], ⟨false⟩) (by simp [upd_app, rows_nil]) ?_
  rintro ⟨pre, rest, out, ⟨done⟩⟩ ⟨ρ, hh, n⟩ ⟨hx, hE, hle, h0', h3', h5', h6', h7', k3, k8, f1, f2, f3, f4, f5, f6, rfl⟩
  simp only at hx hE hle h0' h3' h5' h6' h7' k3 k8 f1 f2 f3 f4 f5 f6
  refine run_ok (n := 400) ?_
  have hpl : pre.length + rest.length = xs.length := by rw [← hx]; simp
  have hol : out.length ≤ pre.length + 1 := by split at hle <;> omega
  have hc1 : (out.length + 1) * 32 ≤ 140737488355328 := by omega
  cases rest with
  | nil =>
    simp at hx
    obtain ⟨xs0, hx0⟩ : ∃ xs0, xs0 = xs := ⟨_, rfl⟩
    rw [← hx0] at hE ⊢
    rw [hx0]
    have hpx : pre.length = xs.length := by rw [hx]
    simp [h0', h7', hpx]
    refine T.on 400 ?_
    rw [← hx0] at *
    cases done
    · have hfin : rows File.ty.oc out ++ [.sc (.string f.path), .sc (.string f.text)] = rows File.ty.oc (putF f xs0 false) := by rw [← hE, rows_append, putF]; simp [rows_cons, rows_nil, File.oce]
      have hlen : (putF f xs0 false).length = out.length + 1 := by rw [← hE, putF]; simp
      have hid : idfree.idfreeL (rows File.ty.oc (putF f xs0 false)) = true := File.frL _
      simp [h3', h5', h6', k3, k8, f5, f6, over, File.ocl, hc1, ex1, hfin, hlen, hid]
    · have hE2 : out = putF f xs0 false := by rw [← hE, putF]; simp
      simp [h5', h6', k8, ex1, File.ocl, File.frL, hE2]
  | cons x rest =>
    have hlt : (pre.length : Int) < xs.length := by simp only [List.length_cons] at hpl; omega
    have hlt2 : pre.length < xs.length := by omega
    have hd := rows_drop File.ty.csn pre (x :: rest)
    rw [hx, rows_cons] at hd
    have hd : List.drop (pre.length * 2) (rows File.ty.cs xs) = AV.sc (.string x.path) :: AV.sc (.string x.text) :: rows File.ty.cs rest := hd
    have hw : IntKind.i64.wrap ((pre.length : Int) + 1) = pre.length + 1 := wrap_i64 (by omega) (by omega)
    have hap : ∀ (l : List File) (g : File), rows File.ty.oc l ++ [.sc (.string g.path), .sc (.string g.text)] = rows File.ty.oc (l ++ [g]) := fun l g => by rw [rows_append]; simp [rows_cons, rows_nil, File.oce]
    simp [h0', h7', hlt]
    refine T.text 400 mixed (by kernel_rfl) (by kernel_rfl) ?_
    by_cases hk : x.path.toList = f.path.toList
    case pos =>
      simp [h0', h3', h7', k3, hlt, hlt2, hd, hk, hw]
      refine ⟨pre ++ [x], rest, by simp, out, ⟨done⟩, _, Le.refl _, ?_⟩
      simp [hx, h0', h3', h5', h6', k3, k8, f1, f2, f3, f4, f5, f6, upd_app]
      rw [putF, if_pos hk] at hE
      exact ⟨hE, by omega⟩
    rw [putF, if_neg hk] at hE
    have hk2 : (x.path.toList == f.path.toList) = false := by simpa using hk
    simp only [List.length_cons] at hpl
    simp [h0', h3', h7', k3, hlt, hlt2, hd, hk, hw]
    refine T.text 400 mixed (by kernel_rfl) (by kernel_rfl) ?_
    cases done
    case true =>
      simp at hE hle
      have hc2 : (out.length + 1) * 32 ≤ 140737488355328 := by omega
      simp [h0', h3', h5', h6', h7', k3, k8, f3, f4, hlt, hlt2, hd, hw, over, File.ocl, hc2, hap]
      refine ⟨pre ++ [x], rest, by simp, out ++ [x], ⟨true⟩, _, Le.reseat [0, 3, 5, 6, 7] [(45, 8), (3, 3)] (by simp) (by simp [upd_app, menB, idfree, h0', h3', h6']) ?_, ?_⟩
      · intro b hb cs hcs
        simp at hb
        rcases hb with rfl | rfl
        · simp [upd_app] at hcs
          subst hcs
          exact fileId _
        · simp [upd_app, k3] at hcs
          subst hcs
          simp [idfree]
      · simp [hx, h0', h3', h6', k3, upd_app, hE]
        omega
    simp at hle
    cases hg : Op.bytesLess x.path.toList f.path.toList
    case false =>
      have hgt : gtrP x.path f.path = true := by simp [gtrP, hg, hk2]
      simp [hgt] at hE
      have hc2 : (out.length + 1) * 32 ≤ 140737488355328 := by omega
      have hc4 : out.length + 1 + 1 ≤ xs.length + 1 := by omega
      have hc3 : (out.length + 1 + 1) * 32 ≤ 140737488355328 := Nat.le_trans (Nat.mul_le_mul_right 32 hc4) (Nat.le_trans (Nat.le_of_eq (Nat.succ_mul xs.length 32)) (Nat.le_trans (Nat.add_le_add_right hb 32) (by decide)))
      simp [h0', h3', h5', h6', h7', k3, k8, f1, f2, f3, f4, hlt, hlt2, hd, hw, hk, hk2, hg, over, File.ocl, hc2, hc3, hap]
      refine ⟨pre ++ [x], rest, by simp, out ++ [f, x], ⟨true⟩, _, Le.reseat [0, 3, 5, 6, 7] [(45, 8), (3, 3)] (by simp) (by simp [upd_app, menB, idfree, h0', h3', h6']) ?_, ?_⟩
      · intro b hb cs hcs
        simp at hb
        rcases hb with rfl | rfl
        · simp [upd_app] at hcs
          subst hcs
          exact fileId _
        · simp [upd_app, k3] at hcs
          subst hcs
          simp [idfree]
      · simp [hx, h0', h3', h6', k3, upd_app, hE]
        omega
    case true =>
      have hgt : gtrP x.path f.path = false := by simp [gtrP, hg, hk2]
      simp [hgt] at hE
      have hc2 : (out.length + 1) * 32 ≤ 140737488355328 := hc1
      simp [h0', h3', h5', h6', h7', k3, k8, f1, f2, f3, f4, hlt, hlt2, hd, hw, hk, hk2, hg, over, File.ocl, hc2, hap]
      refine ⟨pre ++ [x], rest, by simp, out ++ [x], ⟨false⟩, _, Le.reseat [0, 3, 5, 6, 7] [(45, 8), (3, 3)] (by simp) (by simp [upd_app, menB, idfree, h0', h3', h6']) ?_, ?_⟩
      · intro b hb cs hcs
        simp at hb
        rcases hb with rfl | rfl
        · simp [upd_app] at hcs
          subst hcs
          exact fileId _
        · simp [upd_app, k3] at hcs
          subst hcs
          simp [idfree]
      · simp [hx, h0', h3', h6', k3, upd_app, hE]
        omega
def above (p : Option ByteArray) (x : ByteArray) : Bool := match p with | none => true | some q => Op.bytesLess q.toList x.toList
def filesL : Option ByteArray → List File → Bool
  | _, [] => true
  | p, x :: l => pathOk x.path && (decide (x.text.size ≤ 60) && (above p x.path && filesL (some x.path) l))
def lastP : List File → Option ByteArray
  | [] => none
  | x :: l => match lastP l with | some p => some p | none => some x.path
theorem lastP_snoc : ∀ (l : List File) (x : File), lastP (l ++ [x]) = some x.path
  | [], x => rfl
  | y :: l, x => by simp only [List.cons_append, lastP, lastP_snoc l x]
def filesOk (xs : List File) : Bool := filesL none xs && decide (xs.length ≤ 30)
/- 87: loop.example/g00464/spec.FilesOk -/
def A87 : AC := (.seq (.ops [⟨(some 2), none, .q (.mov (.c (.sc (.bool false))))⟩])
  (.seq (.seq (.ops [⟨(some 3), none, .q (.mov (.c (.sc (.int .i64 0))))⟩])
  (.block 0 (.loop (.seq (.seq (.ops [⟨(some 4), none, .q (.mov (.t 3))⟩, ⟨(some 5), none, .q (.mov (.t 0))⟩, ⟨(some 6), none, .q (.llen (.t 5))⟩, ⟨(some 7), none, .q (.bin .lss (.t 4) (.t 6))⟩])
  (.cond (.t 7) .skip
  (.exit 0)))
  (.seq (.block 1 (.seq (.any [(⟨(some 10), none, .q (.mov (.t 0))⟩, []), (⟨(some 11), none, .q (.mov (.t 3))⟩, []), (⟨(some 12), none, .q (.iadr 2 (.t 10) (.t 11))⟩, [0, 1]), (⟨(some 13), none, .q (.fadr 0 (.t 12))⟩, [2]), (⟨(some 14), none, .q (.load false 1 (.t 13))⟩, [3]), (⟨(some 15), none, .c (.c (.clo 109 [])) [(.t 14)]⟩, [4]), (⟨(some 16), none, .q (.not (.t 15))⟩, [5]), (⟨(some 17), none, .q (.mov (.t 16))⟩, [6, 5]), (⟨(some 18), (some (17, false)), .q (.mov (.t 0))⟩, [7]), (⟨(some 19), (some (17, false)), .q (.mov (.t 3))⟩, [7]), (⟨(some 20), (some (17, false)), .q (.iadr 2 (.t 18) (.t 19))⟩, [8, 9, 7]), (⟨(some 21), (some (17, false)), .q (.fadr 1 (.t 20))⟩, [10, 7]), (⟨(some 22), (some (17, false)), .q (.load false 1 (.t 21))⟩, [11, 7]), (⟨(some 23), (some (17, false)), .q (.slen (.t 22))⟩, [12, 7]), (⟨(some 24), (some (17, false)), .q (.bin .gtr (.t 23) (.c (.sc (.int .i64 60))))⟩, [13, 7]), (⟨(some 25), none, .q (.pick (.t 17) (.c (.sc (.bool true))) (.t 24))⟩, [7, 14]), (⟨(some 26), none, .q (.mov (.t 25))⟩, [15, 7]), (⟨(some 27), (some (26, false)), .q (.mov (.t 3))⟩, [16]), (⟨(some 28), (some (26, false)), .q (.bin .gtr (.t 27) (.c (.sc (.int .i64 0))))⟩, [17, 16]), (⟨(some 29), (some (26, false)), .q (.mov (.t 28))⟩, [18, 16, 16]), (⟨(some 30), (some (29, true)), .q (.mov (.t 0))⟩, [19]), (⟨(some 31), (some (29, true)), .q (.mov (.t 3))⟩, [19]), (⟨(some 32), (some (29, true)), .q (.bin .sub (.t 31) (.c (.sc (.int .i64 1))))⟩, [21, 19]), (⟨(some 33), (some (29, true)), .q (.iadr 2 (.t 30) (.t 32))⟩, [20, 22, 19]), (⟨(some 34), (some (29, true)), .q (.fadr 0 (.t 33))⟩, [23, 19]), (⟨(some 35), (some (29, true)), .q (.load false 1 (.t 34))⟩, [24, 19]), (⟨(some 36), (some (29, true)), .q (.mov (.t 0))⟩, [19]), (⟨(some 37), (some (29, true)), .q (.mov (.t 3))⟩, [19]), (⟨(some 38), (some (29, true)), .q (.iadr 2 (.t 36) (.t 37))⟩, [26, 27, 19]), (⟨(some 39), (some (29, true)), .q (.fadr 0 (.t 38))⟩, [28, 19]), (⟨(some 40), (some (29, true)), .q (.load false 1 (.t 39))⟩, [29, 19]), (⟨(some 41), (some (29, true)), .q (.bin .geq (.t 35) (.t 40))⟩, [25, 30, 19]), (⟨(some 42), (some (26, false)), .q (.pick (.t 29) (.t 41) (.c (.sc (.bool false))))⟩, [19, 31, 16]), (⟨(some 43), none, .q (.pick (.t 26) (.c (.sc (.bool true))) (.t 42))⟩, [16, 32])])
  (.cond (.t 43) (.seq (.ops [⟨(some 2), none, .q (.mov (.c (.sc (.bool false))))⟩])
  .ret)
  .skip)))
  (.ops [⟨(some 8), none, .q (.mov (.t 3))⟩, ⟨(some 9), none, .q (.bin .add (.t 8) (.c (.sc (.int .i64 1))))⟩, ⟨(some 3), none, .q (.mov (.t 9))⟩]))))))
  (.seq (.ops [⟨(some 44), none, .q (.mov (.t 0))⟩, ⟨(some 45), none, .q (.llen (.t 44))⟩, ⟨(some 46), none, .q (.bin .leq (.t 45) (.c (.sc (.int .i64 30))))⟩, ⟨(some 2), none, .q (.mov (.t 46))⟩])
  .ret)))
theorem K87 : Tryz.f87.body.bind (comp Tryz.prog) = some A87 ∧ Tryz.f87.ntmps = 47 ∧ Tryz.f87.results.toList.mapM (resB Tryz.prog) = some [.mov (.t 2)] := ⟨by kernel_rfl, by kernel_rfl, by kernel_rfl⟩
set_option maxHeartbeats 2000000 in
set_option maxRecDepth 100000 in
theorem R87 (xs : List File) (hb : xs.length < 4611686018427387904) (hp : ∀ x ∈ xs, x.path.size ≤ 1048576) : Ret Tryz.prog 87 [.ro (rows File.ty.cs xs) xs.length] (.sc (.bool (filesOk xs))) [.un] := by
  refine Ret.run Tryz.func87 K87 (by simp) rfl rfl 900 ?_
  simp [A87, iniρ]
  refine T.rounds (μ := fun i : List File × List File => i.2.length)
    (fun i s => i.1 ++ i.2 = xs ∧ filesL (lastP i.1) i.2 = filesL none xs ∧ s.ρ 0 = .ro (rows File.ty.cs xs) xs.length ∧ s.ρ 3 = .sc (.int .i64 i.1.length) ∧ s.h = h0 ∧ s.n = 47) ([], xs) (by simp [upd_app, lastP]) ?_
  rintro ⟨pre, rest⟩ ⟨ρ, hh, n⟩ ⟨hx, hE, k0, k3, rfl, rfl⟩
  simp only at hx hE k0 k3
  refine run_ok (n := 400) ?_
  cases rest with
  | nil =>
    have hxl : pre.length = xs.length := by rw [← hx]; simp
    have hA : filesL none xs = true := by rw [← hE]; cases lastP pre <;> rfl
    simp [k0, k3, hxl]
    refine T.on 400 ?_
    simp [k0, filesOk, hA]
    try omega
  | cons x rest =>
    have hle : pre.length + (rest.length + 1) = xs.length := by rw [← hx]; simp
    have hlt : (pre.length : Int) < xs.length := by omega
    have hlt2 : pre.length < xs.length := by omega
    have hw : IntKind.i64.wrap ((pre.length : Int) + 1) = pre.length + 1 := wrap_i64 (by omega) (by omega)
    have hd := rows_drop File.ty.csn pre (x :: rest)
    rw [hx, rows_cons] at hd
    have hd : List.drop (pre.length * 2) (rows File.ty.cs xs) = AV.sc (.string x.path) :: AV.sc (.string x.text) :: rows File.ty.cs rest := hd
    have hd1 : List.drop (pre.length * 2 + 1) (rows File.ty.cs xs) = AV.sc (.string x.text) :: rows File.ty.cs rest := by rw [← List.drop_drop, hd]; rfl
    have hxp := hp x (by rw [← hx]; simp)
    have stop : ∀ c, (pathOk x.path && (decide (x.text.size ≤ 60) && above (lastP pre) x.path)) = c → c = false → filesOk xs = false := fun c h1 h2 => by
      subst h2
      have : filesL none xs = false := by
        rw [← hE, filesL]
        cases h5 : pathOk x.path <;> cases h6 : decide (x.text.size ≤ 60) <;> cases h7 : above (lastP pre) x.path <;> simp_all
      simp [filesOk, this]
    simp [k0, k3, hlt]
    refine T.text 400 mixed (by kernel_rfl) (by kernel_rfl) ?_
    simp [k0, k3, hlt, hlt2, hd]
    refine callSK.by rfl (by kernel_rfl) rfl (R109 x.path hxp) ?_
    cases h1 : pathOk x.path
    · have := stop _ rfl (by simp [h1])
      simp [this]
    by_cases h2 : x.text.size ≤ 60
    case neg =>
      have := stop _ rfl (by simp [h2])
      have h2' : (60 : Int) < x.text.size := by omega
      simp [k0, k3, hlt, hlt2, hd1, h2', this]
    have h2' : ¬ ((60 : Int) < x.text.size) := by omega
    have fin : above (lastP pre) x.path = true → filesL (some x.path) rest = filesL none xs := fun h => by
      rw [← hE, filesL, h1, h]; simp [h2]
    rcases List.eq_nil_or_concat pre with rfl | ⟨p0, q, ep⟩
    · simp at hlt hlt2 hd1 hw
      simp [k0, k3, hlt, hlt2, hd1, h2']
      refine ⟨[x], rest, by simp, _, Le.refl _, ?_⟩
      have hF := fin rfl
      simp at hx
      simp [hx, k0, upd_app, lastP, hF, hw]
    rw [List.concat_eq_append] at ep
    subst ep
    have hq : List.drop (p0.length * 2) (rows File.ty.cs xs) = AV.sc (.string q.path) :: AV.sc (.string q.text) :: rows File.ty.cs (x :: rest) := by
      have h := rows_drop File.ty.csn p0 (q :: x :: rest)
      have e : p0 ++ q :: x :: rest = xs := by rw [← hx]; simp
      rw [e, rows_cons] at h
      exact h
    have hw0 : IntKind.i64.wrap (p0.length : Int) = p0.length := wrap_i64 (by omega) (by simp only [List.length_append] at hle; omega)
    have hl0 : p0.length < xs.length := by simp only [List.length_append] at hle; omega
    rw [lastP_snoc] at fin stop
    simp only [List.length_append, List.length_cons, List.length_nil, Nat.zero_add] at hlt hlt2 hd hd1 hw k3
    have hpos : (0 : Int) < (p0.length : Int) + 1 := by omega
    have hpos2 : (0 : Int) ≤ (p0.length : Int) + 1 := by omega
    have hlt3 : (p0.length : Int) + 1 < xs.length := by omega
    cases h3 : Op.bytesLess q.path.toList x.path.toList
    · have := stop _ rfl (by simp [above, h3])
      simp [k0, k3, hlt, hlt2, hd, hd1, h2', hpos, hpos2, hlt3, hw0, hl0, hq, h3, this]
    · have hF := fin (by simp [above, h3])
      simp [k0, k3, hlt, hlt2, hd, hd1, h2', hpos, hpos2, hlt3, hw0, hl0, hq, h3]
      refine ⟨p0 ++ [q] ++ [x], rest, by simp, _, Le.refl _, ?_⟩
      rw [lastP_snoc]
      simp at hw hx
      simp [hx, k0, upd_app, hF, hw]
      omega
theorem putF_len (f : File) : ∀ (xs : List File) (d : Bool), (putF f xs d).length ≤ xs.length + 1
  | [], d => by cases d <;> simp [putF]
  | x :: xs, d => by
    have h1 := putF_len f xs d
    rw [putF]
    split
    · simp; omega
    · split
      · have h3 : ∀ (xs : List File), (putF f xs true).length ≤ xs.length := by
          intro xs
          induction xs with
          | nil => simp [putF]
          | cons y ys ih =>
            rw [putF]
            split
            · simp; omega
            · simp; omega
        have := h3 xs
        simp; omega
      · simp; omega
theorem putF_mem (f : File) : ∀ (xs : List File) (d : Bool), ∀ x ∈ putF f xs d, x = f ∨ x ∈ xs
  | [], d, x, h => by cases d <;> simp [putF] at h; exact .inl h
  | y :: ys, d, x, h => by
    rw [putF] at h
    split at h
    · exact (putF_mem f ys d x h).imp id (List.mem_cons_of_mem _)
    · split at h
      · rcases List.mem_cons.1 h with rfl | h
        · exact .inl rfl
        · rcases List.mem_cons.1 h with rfl | h
          · exact .inr (List.mem_cons_self ..)
          · exact (putF_mem f ys true x h).imp id (List.mem_cons_of_mem _)
      · rcases List.mem_cons.1 h with rfl | h
        · exact .inr (List.mem_cons_self ..)
        · exact (putF_mem f ys d x h).imp id (List.mem_cons_of_mem _)
def putFile (xs : List File) (f : File) : List File × Bool := if filesOk (putF f xs false) = true then (putF f xs false, true) else (xs, false)
/- 114: loop.example/g00464/spec.PutFile -/
def A114 : AC := (.seq (.ops [⟨(some 3), none, .w (.box (.t 1))⟩, ⟨(some 4), none, .q (.mov (.c .em))⟩, ⟨(some 5), none, .q (.mov (.c (.sc (.bool false))))⟩])
  (.seq (.ops [⟨(some 7), none, .q (.mov (.t 0))⟩, ⟨(some 8), none, .q (.load true 2 (.t 3))⟩, ⟨(some 9), none, .c (.c (.clo 121 [])) [(.t 7), (.t 8)]⟩, ⟨(some 6), none, .q (.mov (.t 9))⟩])
  (.seq (.seq (.ops [⟨(some 10), none, .q (.mov (.t 6))⟩, ⟨(some 11), none, .c (.c (.clo 87 [])) [(.t 10)]⟩, ⟨(some 12), none, .q (.not (.t 11))⟩])
  (.cond (.t 12) (.seq (.ops [⟨(some 13), none, .w (.bsl 2 0 [] [])⟩, ⟨(some 14), none, .q (.mov (.t 0))⟩, ⟨(some 15), none, .w (.app 2 32 false (.t 13) (.t 14))⟩, ⟨(some 4), none, .q (.mov (.t 15))⟩, ⟨(some 5), none, .q (.mov (.c (.sc (.bool false))))⟩])
  .ret)
  .skip))
  (.seq (.ops [⟨(some 16), none, .q (.mov (.t 6))⟩, ⟨(some 4), none, .q (.mov (.t 16))⟩, ⟨(some 5), none, .q (.mov (.c (.sc (.bool true))))⟩])
  .ret))))
theorem K114 : Tryz.f114.body.bind (comp Tryz.prog) = some A114 ∧ Tryz.f114.ntmps = 17 ∧ Tryz.f114.results.toList.mapM (resB Tryz.prog) = some [.mov (.t 4), .mov (.t 5)] := ⟨by kernel_rfl, by kernel_rfl, by kernel_rfl⟩
theorem R114 (xs : List File) (f : File) (hok : File.ty.slice.ok xs) (hp : ∀ x ∈ xs, x.path.size ≤ 1048576) (hf : f.path.size ≤ 1048576) : Ret Tryz.prog 114 [.ro (rows File.ty.cs xs) xs.length, .agg (File.ty.cs f)] (.tup [.own (rows File.ty.oc (putFile xs f).1) (putFile xs f).1.length 2, .sc (.bool (putFile xs f).2)]) [.un, .un] := by
  have hb : xs.length * 32 ≤ 140737488351232 := hok.1
  obtain ⟨ys, hys⟩ : ∃ ys, ys = putF f xs false := ⟨_, rfl⟩
  have rp := R121 xs f hok
  have hl := putF_len f xs false
  have hm := putF_mem f xs false
  rw [← hys] at rp hl hm
  have rf := R87 ys (by omega) (fun x hx => (hm x hx).elim (fun e => e ▸ hf) (hp x))
  refine Ret.run Tryz.func114 K114 (by simp) rfl rfl 900 ?_
  simp [A114, iniρ, File.cse, over]
  refine callK.own 9 rfl (by kernel_rfl) (by simp [roc_ro, roc_agg]; rfl) rp (File.ty.flo ys) (by simp [upd_app]) rfl ?_
  simp
  refine callK.ro 0 rfl (by kernel_rfl) (by simp [File.roc8]) rf rfl rfl rfl ?_
  have hcap : xs.length * 32 ≤ 140737488355328 := by omega
  have hsc := fileSc xs
  have hfe : rows File.ty.cs xs = rows File.ty.oc xs := rfl
  cases h : filesOk ys
  · simp [putFile, ← hys, h, over, hcap, hfe, hsc, File.ocl, ex1, File.frL]
  · simp [putFile, ← hys, h, ex1, File.ocl, File.frL]
end Go.Proofs.YtaknfalbmblagaaGreatDoor.Am
namespace Go.Proofs.YtaknfalbmblagaaGreatDoor.Am
open Go Go.Proofs
set_option linter.unusedSimpArgs false
set_option linter.unusedVariables false
attribute [local congr] T_congr callK_congr callWK_congr
attribute [local simp] run_nil run_op0 run_opg run_seq run_cond run_block run_ret run_skip run_skip_after run_skip_blk run_exit run_exit_after run_exit_blk run_loop run_any runS_nil runS_op0 runS_opg runW_nil runW_op0 runW_opg exec_q exec_w exec_c exec_n execW_q execW_w execW_c restW_app hideH_app merge_app wblk rest_app restS_app execS_q execS_c aval dOk upd_app ev_t ev_c setO_some setO_none put_mk pinsOf isIo hasIo sbin endR fin resL one outL out1 clo1 cloL coe coeL shut shut.shutL wantA weff cellsOf fillA deref natOf ρ0_app h0_app plain plain.plainL keep_app keepH_app andThen_normal andThen_ret andThen_exit pop_nil pop_after pop_after_ret pop_after_exit pop_blk pop_blk_ret pop_blk_exit nilA srcOf srcCells keepR_app keepHR_app renA rb
/- 112: loop.example/g00464/impl.isPathByte -/
def A112 : AC := (.seq (.ops [⟨(some 2), none, .q (.mov (.c (.sc (.bool false))))⟩])
  (.seq (.ops [⟨(some 3), none, .q (.mov (.t 0))⟩, ⟨(some 4), none, .c (.c (.clo 119 [])) [(.t 3)]⟩, ⟨(some 5), none, .q (.mov (.t 4))⟩, ⟨(some 6), (some (5, false)), .q (.mov (.t 0))⟩, ⟨(some 7), (some (5, false)), .c (.c (.clo 102 [])) [(.t 6)]⟩, ⟨(some 8), none, .q (.pick (.t 5) (.c (.sc (.bool true))) (.t 7))⟩, ⟨(some 9), none, .q (.mov (.t 8))⟩, ⟨(some 10), (some (9, false)), .q (.mov (.t 0))⟩, ⟨(some 11), (some (9, false)), .q (.bin .eql (.t 10) (.c (.sc (.int .u8 46))))⟩, ⟨(some 12), none, .q (.pick (.t 9) (.c (.sc (.bool true))) (.t 11))⟩, ⟨(some 13), none, .q (.mov (.t 12))⟩, ⟨(some 14), (some (13, false)), .q (.mov (.t 0))⟩, ⟨(some 15), (some (13, false)), .q (.bin .eql (.t 14) (.c (.sc (.int .u8 45))))⟩, ⟨(some 16), none, .q (.pick (.t 13) (.c (.sc (.bool true))) (.t 15))⟩, ⟨(some 17), none, .q (.mov (.t 16))⟩, ⟨(some 18), (some (17, false)), .q (.mov (.t 0))⟩, ⟨(some 19), (some (17, false)), .q (.bin .eql (.t 18) (.c (.sc (.int .u8 95))))⟩, ⟨(some 20), none, .q (.pick (.t 17) (.c (.sc (.bool true))) (.t 19))⟩, ⟨(some 2), none, .q (.mov (.t 20))⟩])
  .ret))
theorem K112 : Tryz.f112.body.bind (comp Tryz.prog) = some A112 ∧ Tryz.f112.ntmps = 21 ∧ Tryz.f112.results.toList.mapM (resB Tryz.prog) = some [.mov (.t 2)] := ⟨by kernel_rfl, by kernel_rfl, by kernel_rfl⟩
theorem R112 (c : UInt8) : Ret Tryz.prog 112 [.sc (.int .u8 c.toNat)] (.sc (.bool (lttI c.toNat))) [.un] := by
  refine Ret.run Tryz.func112 K112 (by simp) rfl rfl 500 ?_
  simp [A112, iniρ]
  refine callK.ro 0 rfl (by kernel_rfl) (by simp [roc_sc]) (R119 c) rfl rfl rfl ?_
  cases h1 : smallI (c.toNat : Int)
  case true => simp [lttI, h1]
  simp
  refine callK.ro 0 rfl (by kernel_rfl) (by simp [roc_sc]) (R102 c) rfl rfl rfl ?_
  cases h2 : figI (c.toNat : Int)
  case true => simp [lttI, h1, h2]
  by_cases h3 : (c.toNat : Int) = 46
  · simp [lttI, h1, h2, h3]
  by_cases h4 : (c.toNat : Int) = 45
  · simp [lttI, h1, h2, h3, h4]
  simp [lttI, h1, h2, h3, h4]
/- 89: loop.example/g00464/impl.fileNameOk -/
def A89 : AC := (.seq (.ops [⟨(some 2), none, .q (.mov (.c (.sc (.bool false))))⟩])
  (.seq (.seq (.ops [⟨(some 3), none, .q (.mov (.c (.sc (.int .i64 0))))⟩])
  (.block 0 (.loop (.seq (.seq (.ops [⟨(some 4), none, .q (.mov (.t 3))⟩, ⟨(some 5), none, .q (.mov (.t 0))⟩, ⟨(some 6), none, .q (.slen (.t 5))⟩, ⟨(some 7), none, .q (.bin .lss (.t 4) (.t 6))⟩])
  (.cond (.t 7) .skip
  (.exit 0)))
  (.seq (.block 1 (.seq (.ops [⟨(some 10), none, .q (.mov (.t 0))⟩, ⟨(some 11), none, .q (.mov (.t 3))⟩, ⟨(some 12), none, .q (.idx (.t 10) (.t 11))⟩, ⟨(some 13), none, .c (.c (.clo 112 [])) [(.t 12)]⟩, ⟨(some 14), none, .q (.not (.t 13))⟩])
  (.cond (.t 14) (.seq (.ops [⟨(some 2), none, .q (.mov (.c (.sc (.bool false))))⟩])
  .ret)
  .skip)))
  (.ops [⟨(some 8), none, .q (.mov (.t 3))⟩, ⟨(some 9), none, .q (.bin .add (.t 8) (.c (.sc (.int .i64 1))))⟩, ⟨(some 3), none, .q (.mov (.t 9))⟩]))))))
  (.seq (.ops [⟨(some 15), none, .q (.mov (.t 0))⟩, ⟨(some 16), none, .q (.slen (.t 15))⟩, ⟨(some 17), none, .c (.c (.clo 62 [])) [(.t 16), (.c (.sc (.int .i64 1))), (.c (.sc (.int .i64 12)))]⟩, ⟨(some 18), none, .q (.mov (.t 17))⟩, ⟨(some 19), (some (18, true)), .q (.mov (.t 0))⟩, ⟨(some 20), (some (18, true)), .q (.bin .neq (.t 19) (.c (.sc (.string ⟨#[46]⟩))))⟩, ⟨(some 21), none, .q (.pick (.t 18) (.t 20) (.c (.sc (.bool false))))⟩, ⟨(some 22), none, .q (.mov (.t 21))⟩, ⟨(some 23), (some (22, true)), .q (.mov (.t 0))⟩, ⟨(some 24), (some (22, true)), .q (.bin .neq (.t 23) (.c (.sc (.string ⟨#[46, 46]⟩))))⟩, ⟨(some 25), none, .q (.pick (.t 22) (.t 24) (.c (.sc (.bool false))))⟩, ⟨(some 2), none, .q (.mov (.t 25))⟩])
  .ret)))
theorem K89 : Tryz.f89.body.bind (comp Tryz.prog) = some A89 ∧ Tryz.f89.ntmps = 26 ∧ Tryz.f89.results.toList.mapM (resB Tryz.prog) = some [.mov (.t 2)] := ⟨by kernel_rfl, by kernel_rfl, by kernel_rfl⟩
theorem R89 (s : ByteArray) (hs : s.size ≤ 140737488351232) : Ret Tryz.prog 89 [.sc (.string s)] (.sc (.bool (partOk s))) [.un] := by
  refine Ret.run Tryz.func89 K89 (by simp) rfl rfl 500 ?_
  simp [A89, iniρ]
  refine T.rounds (μ := fun i : List UInt8 × List UInt8 => i.2.length)
    (fun i t => i.1 ++ i.2 = s.data.toList ∧ letL i.2 = letL s.data.toList ∧ t.ρ 0 = .sc (.string s) ∧ t.ρ 3 = .sc (.int .i64 i.1.length) ∧ t.h = h0 ∧ t.n = 26) ([], s.data.toList) (by simp [upd_app]) ?_
  rintro ⟨pre, rest⟩ ⟨ρ, hh, n⟩ ⟨hx, hE, k0, k3, rfl, rfl⟩
  simp only at hx hE k0 k3
  have hsz := str_len hx
  refine run_ok (n := 400) ?_
  cases rest with
  | nil =>
    simp at hsz
    simp [k0, k3, hsz]
    refine T.on 400 ?_
    simp [k0]
    refine callK.ro 0 rfl (by kernel_rfl) (by simp [roc_sc]) (R62 s.size 1 12) rfl rfl rfl ?_
    have hL : letL s.data.toList = true := by rw [← hE]; rfl
    cases h1 : inR s.size 1 12
    case false => simp [partOk, h1]
    by_cases h2 : s.toList = [46]
    case pos => simp [k0, partOk, h1, h2]
    have h2' : (s.toList == [46]) = false := by simpa using h2
    by_cases h3 : s.toList = [46, 46]
    · simp [k0, partOk, h1, h2, h2', h3, hL]
    · have h3' : (s.toList == [46, 46]) = false := by simpa using h3
      simp [k0, partOk, h1, h2, h2', h3, h3', hL]
  | cons c rest =>
    have hg := str_get hx
    simp at hsz
    have hlt : (pre.length : Int) < s.size := by omega
    have hw : IntKind.i64.wrap ((pre.length : Int) + 1) = pre.length + 1 := wrap_i64 (by omega) (by omega)
    simp [k0, k3, hlt, hg]
    refine callK.ro 0 rfl (by kernel_rfl) (by simp [roc_sc]) (R112 c) rfl rfl rfl ?_
    cases h1 : lttI (c.toNat : Int)
    · have : partOk s = false := by simp [partOk, ← hE, letL, h1]
      simp [this]
    · simp [k3, hw]
      refine ⟨pre ++ [c], rest, by simp, _, Le.refl _, ?_⟩
      simp [hx, k0, upd_app, ← hE, letL, h1]
/- 113: loop.example/g00464/impl.PathOk -/
def A113 : AC := (.seq (.ops [⟨(some 2), none, .q (.mov (.c (.sc (.bool false))))⟩])
  (.seq (.ops [⟨(some 6), none, .q (.mov (.t 0))⟩, ⟨(some 7), none, .c (.c (.clo 120 [])) [(.t 6), (.c (.sc (.string ⟨#[47]⟩)))]⟩, ⟨(some 3), none, .q (.mov (.t 7))⟩])
  (.seq (.seq (.ops [⟨(some 8), none, .q (.mov (.t 3))⟩, ⟨(some 9), none, .q (.llen (.t 8))⟩, ⟨(some 10), none, .q (.mov (.c (.sc (.int .i64 0))))⟩])
  (.block 0 (.loop (.seq (.ops [⟨(some 11), none, .q (.bin .lss (.t 10) (.t 9))⟩])
  (.seq (.cond (.t 11) .skip
  (.exit 0))
  (.seq (.block 1 (.seq (.ops [⟨(some 12), none, .q (.iadr 1 (.t 8) (.t 10))⟩, ⟨(some 13), none, .q (.load false 1 (.t 12))⟩, ⟨(some 5), none, .q (.mov (.t 13))⟩])
  (.seq (.ops [⟨(some 14), none, .q (.mov (.t 5))⟩, ⟨(some 15), none, .c (.c (.clo 89 [])) [(.t 14)]⟩, ⟨(some 16), none, .q (.not (.t 15))⟩])
  (.cond (.t 16) (.seq (.ops [⟨(some 2), none, .q (.mov (.c (.sc (.bool false))))⟩])
  .ret)
  .skip))))
  (.ops [⟨(some 17), none, .q (.bin .add (.t 10) (.c (.sc (.int .i64 1))))⟩, ⟨(some 10), none, .q (.mov (.t 17))⟩])))))))
  (.seq (.ops [⟨(some 18), none, .q (.mov (.t 3))⟩, ⟨(some 19), none, .q (.llen (.t 18))⟩, ⟨(some 20), none, .q (.bin .leq (.t 19) (.c (.sc (.int .i64 4))))⟩, ⟨(some 2), none, .q (.mov (.t 20))⟩])
  .ret))))
theorem K113 : Tryz.f113.body.bind (comp Tryz.prog) = some A113 ∧ Tryz.f113.ntmps = 21 ∧ Tryz.f113.results.toList.mapM (resB Tryz.prog) = some [.mov (.t 2)] := ⟨by kernel_rfl, by kernel_rfl, by kernel_rfl⟩
theorem R113 (s : ByteArray) (hs : s.size ≤ 1048576) : Ret Tryz.prog 113 [.sc (.string s)] (.sc (.bool (pathOk s))) [.un] := by
  have hz : ∀ x ∈ splitS s 47, x.size ≤ s.size := splitP_size s 47 _ 0 0
  have hl : (splitS s 47).length ≤ s.size + 1 := by
    have := splitP_len s 47 s.data.toList 0 0
    simpa [splitS] using this
  obtain ⟨ps, hps⟩ : ∃ ps, ps = splitS s 47 := ⟨_, rfl⟩
  have rs := R120 s 47 hs
  rw [show (((47 : UInt8).toNat : Nat) : Int) = 47 from rfl] at rs
  rw [← hps] at hz hl rs
  refine Ret.run Tryz.func113 K113 (by simp) rfl rfl 900 ?_
  simp [A113, iniρ]
  refine callK.own 6 rfl (by kernel_rfl) (by simp [roc_sc]) rs (Ty.str.flo ps) (by simp) rfl ?_
  simp
  refine T.rounds (μ := fun i : List ByteArray × List ByteArray => i.2.length)
    (fun i t => i.1 ++ i.2 = ps ∧ allPart i.2 = allPart ps ∧ t.ρ 3 = .sl 6 0 ps.length 1 false ∧ t.ρ 8 = .sl 6 0 ps.length 1 false ∧ t.ρ 9 = .sc (.int .i64 ps.length) ∧ t.ρ 10 = .sc (.int .i64 i.1.length) ∧ t.h 6 = some (some (rows Ty.str.oc ps)) ∧ t.n = 21) ([], ps) (by simp [upd_app]) ?_
  rintro ⟨pre, rest⟩ ⟨ρ, hh, n⟩ ⟨hx, hE, k3, k8, k9, k10, k6, rfl⟩
  simp only at hx hE k3 k8 k9 k10 k6
  refine run_ok (n := 400) ?_
  cases rest with
  | nil =>
    have hxl : pre.length = ps.length := by rw [← hx]; simp
    have hA : allPart ps = true := by rw [← hE]; rfl
    simp [k9, k10, hxl]
    refine T.on 400 ?_
    simp [k3, pathOk, ← hps, hA]
    all_goals omega
  | cons x rest =>
    have hle : pre.length + (rest.length + 1) = ps.length := by rw [← hx]; simp
    have hlt : (pre.length : Int) < ps.length := by omega
    have hw : IntKind.i64.wrap ((pre.length : Int) + 1) = pre.length + 1 := wrap_i64 (by omega) (by omega)
    have hd := strDrop pre rest x
    rw [hx] at hd
    have hd : List.drop pre.length (rows Ty.str.oc ps) = .sc (.string x) :: rows Ty.str.oc rest := hd
    have hxs := hz x (by rw [← hx]; simp)
    simp [k8, k9, k10, k6, hlt, hd]
    refine callK.ro 0 rfl (by kernel_rfl) (by simp [roc_sc, upd_app]) (R89 x (by omega)) rfl rfl rfl ?_
    cases h1 : partOk x
    · have : pathOk s = false := by
        have h2 : allPart ps = false := by rw [← hE, allPart, h1]; rfl
        simp [pathOk, ← hps, h2]
      simp [this]
    · simp [k10, hw]
      refine ⟨pre ++ [x], rest, by simp, _, Le.refl _, ?_⟩
      simp [hx, upd_app, k3, k8, k9, k6, ← hE, allPart, h1]
/- 90: loop.example/g00464/impl.FilesOk -/
def A90 : AC := (.seq (.ops [⟨(some 2), none, .q (.mov (.c (.sc (.bool false))))⟩])
  (.seq (.seq (.ops [⟨(some 5), none, .q (.mov (.t 0))⟩, ⟨(some 6), none, .q (.llen (.t 5))⟩, ⟨(some 7), none, .q (.mov (.c (.sc (.int .i64 0))))⟩])
  (.block 0 (.loop (.seq (.ops [⟨(some 8), none, .q (.bin .lss (.t 7) (.t 6))⟩])
  (.seq (.cond (.t 8) .skip
  (.exit 0))
  (.seq (.block 1 (.seq (.ops [⟨(some 9), none, .q (.mov (.t 7))⟩, ⟨(some 10), none, .q (.iadr 2 (.t 5) (.t 7))⟩, ⟨(some 11), none, .q (.load true 2 (.t 10))⟩, ⟨(some 4), none, .w (.alloc [(.sc (.string ⟨#[]⟩)), (.sc (.string ⟨#[]⟩))])⟩, ⟨(some 3), none, .q (.mov (.t 9))⟩, ⟨none, none, .w (.store 2 (.t 4) (.t 11))⟩])
  (.seq (.any [(⟨(some 12), none, .q (.fadr 0 (.t 4))⟩, []), (⟨(some 13), none, .q (.load false 1 (.t 12))⟩, [0]), (⟨(some 14), none, .c (.c (.clo 113 [])) [(.t 13)]⟩, [1]), (⟨(some 15), none, .q (.not (.t 14))⟩, [2]), (⟨(some 16), none, .q (.mov (.t 15))⟩, [3, 2]), (⟨(some 17), (some (16, false)), .q (.fadr 1 (.t 4))⟩, [4]), (⟨(some 18), (some (16, false)), .q (.load false 1 (.t 17))⟩, [5, 4]), (⟨(some 19), (some (16, false)), .q (.slen (.t 18))⟩, [6, 4]), (⟨(some 20), (some (16, false)), .q (.bin .gtr (.t 19) (.c (.sc (.int .i64 60))))⟩, [7, 4]), (⟨(some 21), none, .q (.pick (.t 16) (.c (.sc (.bool true))) (.t 20))⟩, [4, 8]), (⟨(some 22), none, .q (.mov (.t 21))⟩, [9, 4]), (⟨(some 23), (some (22, false)), .q (.mov (.t 3))⟩, [10]), (⟨(some 24), (some (22, false)), .q (.bin .gtr (.t 23) (.c (.sc (.int .i64 0))))⟩, [11, 10]), (⟨(some 25), (some (22, false)), .q (.mov (.t 24))⟩, [12, 10, 10]), (⟨(some 26), (some (25, true)), .q (.fadr 0 (.t 4))⟩, [13]), (⟨(some 27), (some (25, true)), .q (.load false 1 (.t 26))⟩, [14, 13]), (⟨(some 28), (some (25, true)), .q (.mov (.t 0))⟩, [13]), (⟨(some 29), (some (25, true)), .q (.mov (.t 3))⟩, [13]), (⟨(some 30), (some (25, true)), .q (.bin .sub (.t 29) (.c (.sc (.int .i64 1))))⟩, [17, 13]), (⟨(some 31), (some (25, true)), .q (.iadr 2 (.t 28) (.t 30))⟩, [16, 18, 13]), (⟨(some 32), (some (25, true)), .q (.fadr 0 (.t 31))⟩, [19, 13]), (⟨(some 33), (some (25, true)), .q (.load false 1 (.t 32))⟩, [20, 13]), (⟨(some 34), (some (25, true)), .q (.bin .leq (.t 27) (.t 33))⟩, [15, 21, 13]), (⟨(some 35), (some (22, false)), .q (.pick (.t 25) (.t 34) (.c (.sc (.bool false))))⟩, [13, 22, 10]), (⟨(some 36), none, .q (.pick (.t 22) (.c (.sc (.bool true))) (.t 35))⟩, [10, 23])])
  (.cond (.t 36) (.seq (.ops [⟨(some 2), none, .q (.mov (.c (.sc (.bool false))))⟩])
  .ret)
  .skip))))
  (.ops [⟨(some 37), none, .q (.bin .add (.t 7) (.c (.sc (.int .i64 1))))⟩, ⟨(some 7), none, .q (.mov (.t 37))⟩])))))))
  (.seq (.ops [⟨(some 38), none, .q (.mov (.t 0))⟩, ⟨(some 39), none, .q (.llen (.t 38))⟩, ⟨(some 40), none, .q (.bin .leq (.t 39) (.c (.sc (.int .i64 30))))⟩, ⟨(some 2), none, .q (.mov (.t 40))⟩])
  .ret)))
theorem K90 : Tryz.f90.body.bind (comp Tryz.prog) = some A90 ∧ Tryz.f90.ntmps = 41 ∧ Tryz.f90.results.toList.mapM (resB Tryz.prog) = some [.mov (.t 2)] := ⟨by kernel_rfl, by kernel_rfl, by kernel_rfl⟩
set_option maxHeartbeats 2000000 in
set_option maxRecDepth 100000 in
theorem R90 (xs : List File) (hb : xs.length < 4611686018427387904) (hp : ∀ x ∈ xs, x.path.size ≤ 1048576) : Ret Tryz.prog 90 [.ro (rows File.ty.cs xs) xs.length] (.sc (.bool (filesOk xs))) [.un] := by
  refine Ret.run Tryz.func90 K90 (by simp) rfl rfl 900 ?_
  simp [A90, iniρ]
  refine T.rounds (μ := fun i : List File × List File => i.2.length)
    (fun i s => i.1 ++ i.2 = xs ∧ filesL (lastP i.1) i.2 = filesL none xs ∧ s.ρ 0 = .ro (rows File.ty.cs xs) xs.length ∧ s.ρ 5 = .ro (rows File.ty.cs xs) xs.length ∧ s.ρ 6 = .sc (.int .i64 xs.length) ∧ s.ρ 7 = .sc (.int .i64 i.1.length) ∧ s.h 4 = none ∧ s.n = 41) ([], xs) (by simp [upd_app, lastP]) ?_
  rintro ⟨pre, rest⟩ ⟨ρ, hh, n⟩ ⟨hx, hE, k0, k5, k6, k7, f4, rfl⟩
  simp only at hx hE k0 k5 k6 k7 f4
  refine run_ok (n := 400) ?_
  cases rest with
  | nil =>
    have hxl : pre.length = xs.length := by rw [← hx]; simp
    have hA : filesL none xs = true := by rw [← hE]; cases lastP pre <;> rfl
    simp [k6, k7, hxl]
    refine T.on 400 ?_
    simp [k0, filesOk, hA]
    all_goals omega
  | cons x rest =>
    have hle : pre.length + (rest.length + 1) = xs.length := by rw [← hx]; simp
    have hlt : (pre.length : Int) < xs.length := by omega
    have hlt2 : pre.length < xs.length := by omega
    have hw : IntKind.i64.wrap ((pre.length : Int) + 1) = pre.length + 1 := wrap_i64 (by omega) (by omega)
    have hd := rows_drop File.ty.csn pre (x :: rest)
    rw [hx, rows_cons] at hd
    have hd : List.drop (pre.length * 2) (rows File.ty.cs xs) = AV.sc (.string x.path) :: AV.sc (.string x.text) :: rows File.ty.cs rest := hd
    have hxp := hp x (by rw [← hx]; simp)
    have stop : ∀ c, (pathOk x.path && (decide (x.text.size ≤ 60) && above (lastP pre) x.path)) = c → c = false → filesOk xs = false := fun c h1 h2 => by
      subst h2
      have : filesL none xs = false := by
        rw [← hE, filesL]
        cases h5 : pathOk x.path <;> cases h6 : decide (x.text.size ≤ 60) <;> cases h7 : above (lastP pre) x.path <;> simp_all
      simp [filesOk, this]
    have fin : pathOk x.path = true → x.text.size ≤ 60 → above (lastP pre) x.path = true → filesL (some x.path) rest = filesL none xs := fun h1 h2 h => by
      rw [← hE, filesL, h1, h]; simp [h2]
    simp [k0, k5, k6, k7, hlt, hlt2, hd, f4, over]
    refine T.text 400 mixed (by kernel_rfl) (by kernel_rfl) ?_
    simp
    refine callSK.by rfl (by kernel_rfl) (by simp [roc_sc]) (R113 x.path hxp) ?_
    cases h1 : pathOk x.path
    · have := stop _ rfl (by simp [h1])
      simp [this]
    by_cases h2 : x.text.size ≤ 60
    case neg =>
      have := stop _ rfl (by simp [h2])
      have h2' : (60 : Int) < x.text.size := by omega
      simp [h2', this]
    have h2' : ¬ ((60 : Int) < x.text.size) := by omega
    rcases List.eq_nil_or_concat pre with rfl | ⟨p0, q, ep⟩
    · simp at hlt hlt2 hw k7
      simp [k7, h2']
      refine ⟨[x], rest, by simp, _, Le.reset [0, 5, 6, 7] [] (by simp [upd_app, menB, idfree, k0, k5, k6]) (by simp), ?_⟩
      have hF := fin h1 h2 rfl
      simp at hx
      simp [hx, k0, k5, k6, upd_app, lastP, hF, hw]
    rw [List.concat_eq_append] at ep
    subst ep
    have hq : List.drop (p0.length * 2) (rows File.ty.cs xs) = AV.sc (.string q.path) :: AV.sc (.string q.text) :: rows File.ty.cs (x :: rest) := by
      have h := rows_drop File.ty.csn p0 (q :: x :: rest)
      have e : p0 ++ q :: x :: rest = xs := by rw [← hx]; simp
      rw [e, rows_cons] at h
      exact h
    have hw0 : IntKind.i64.wrap (p0.length : Int) = p0.length := wrap_i64 (by omega) (by simp only [List.length_append] at hle; omega)
    have hl0 : p0.length < xs.length := by simp only [List.length_append] at hle; omega
    rw [lastP_snoc] at fin stop
    simp only [List.length_append, List.length_cons, List.length_nil, Nat.zero_add] at hlt hlt2 hd hw k7
    have hpos : (0 : Int) < (p0.length : Int) + 1 := by omega
    have hl0' : (p0.length : Int) < xs.length := by omega
    cases h3 : Op.bytesLess q.path.toList x.path.toList
    · have := stop _ rfl (by simp [above, h3])
      have h4 := bl_tot x.path.toList q.path.toList
      rw [h3] at h4
      simp [k0, k7, h2', hpos, hw0, hl0, hl0', hq, h3, h4, this]
    · have hF := fin h1 h2 (by simp [above, h3])
      have h4 := bl_tot x.path.toList q.path.toList
      rw [h3] at h4
      simp [k0, k7, h2', hpos, hw0, hl0, hl0', hq, h3, h4]
      refine ⟨p0 ++ [q] ++ [x], rest, by simp, _, Le.reset [0, 5, 6, 7] [] (by simp [upd_app, menB, idfree, k0, k5, k6]) (by simp), ?_⟩
      rw [lastP_snoc]
      simp at hw hx
      simp [hx, k0, k5, k6, upd_app, hF, hw]
      omega
def namesL : List File → Bool
  | [] => true
  | x :: l => partOk x.path && namesL l
def outsOk (xs : List File) : Bool := namesL xs && (decide (xs.length ≤ 6) && filesOk xs)
/- 51: loop.example/g00464/impl.outsOk -/
def A51 : AC := (.seq (.ops [⟨(some 2), none, .q (.mov (.c (.sc (.bool false))))⟩])
  (.seq (.seq (.ops [⟨(some 5), none, .q (.mov (.t 0))⟩, ⟨(some 6), none, .q (.llen (.t 5))⟩, ⟨(some 7), none, .q (.mov (.c (.sc (.int .i64 0))))⟩])
  (.block 0 (.loop (.seq (.ops [⟨(some 8), none, .q (.bin .lss (.t 7) (.t 6))⟩])
  (.seq (.cond (.t 8) .skip
  (.exit 0))
  (.seq (.block 1 (.seq (.ops [⟨(some 9), none, .q (.iadr 2 (.t 5) (.t 7))⟩, ⟨(some 10), none, .q (.load true 2 (.t 9))⟩, ⟨(some 4), none, .w (.alloc [(.sc (.string ⟨#[]⟩)), (.sc (.string ⟨#[]⟩))])⟩, ⟨none, none, .w (.store 2 (.t 4) (.t 10))⟩])
  (.seq (.ops [⟨(some 11), none, .q (.fadr 0 (.t 4))⟩, ⟨(some 12), none, .q (.load false 1 (.t 11))⟩, ⟨(some 13), none, .c (.c (.clo 89 [])) [(.t 12)]⟩, ⟨(some 14), none, .q (.not (.t 13))⟩])
  (.cond (.t 14) (.seq (.ops [⟨(some 2), none, .q (.mov (.c (.sc (.bool false))))⟩])
  .ret)
  .skip))))
  (.ops [⟨(some 15), none, .q (.bin .add (.t 7) (.c (.sc (.int .i64 1))))⟩, ⟨(some 7), none, .q (.mov (.t 15))⟩])))))))
  (.seq (.ops [⟨(some 16), none, .q (.mov (.t 0))⟩, ⟨(some 17), none, .q (.llen (.t 16))⟩, ⟨(some 18), none, .q (.bin .leq (.t 17) (.c (.sc (.int .i64 6))))⟩, ⟨(some 19), none, .q (.mov (.t 18))⟩, ⟨(some 20), (some (19, true)), .q (.mov (.t 0))⟩, ⟨(some 21), (some (19, true)), .c (.c (.clo 90 [])) [(.t 20)]⟩, ⟨(some 22), none, .q (.pick (.t 19) (.t 21) (.c (.sc (.bool false))))⟩, ⟨(some 2), none, .q (.mov (.t 22))⟩])
  .ret)))
theorem K51 : Tryz.f51.body.bind (comp Tryz.prog) = some A51 ∧ Tryz.f51.ntmps = 23 ∧ Tryz.f51.results.toList.mapM (resB Tryz.prog) = some [.mov (.t 2)] := ⟨by kernel_rfl, by kernel_rfl, by kernel_rfl⟩
theorem R51 (xs : List File) (hb : xs.length < 4611686018427387904) (hp : ∀ x ∈ xs, x.path.size ≤ 1048576) : Ret Tryz.prog 51 [.ro (rows File.ty.cs xs) xs.length] (.sc (.bool (outsOk xs))) [.un] := by
  refine Ret.run Tryz.func51 K51 (by simp) rfl rfl 900 ?_
  simp [A51, iniρ]
  refine T.rounds (μ := fun i : List File × List File => i.2.length)
    (fun i s => i.1 ++ i.2 = xs ∧ namesL i.2 = namesL xs ∧ s.ρ 0 = .ro (rows File.ty.cs xs) xs.length ∧ s.ρ 5 = .ro (rows File.ty.cs xs) xs.length ∧ s.ρ 6 = .sc (.int .i64 xs.length) ∧ s.ρ 7 = .sc (.int .i64 i.1.length) ∧ s.h 4 = none ∧ s.n = 23) ([], xs) (by simp [upd_app]) ?_
  rintro ⟨pre, rest⟩ ⟨ρ, hh, n⟩ ⟨hx, hE, k0, k5, k6, k7, f4, rfl⟩
  simp only at hx hE k0 k5 k6 k7 f4
  refine run_ok (n := 400) ?_
  cases rest with
  | nil =>
    have hxl : pre.length = xs.length := by rw [← hx]; simp
    have hA : namesL xs = true := by rw [← hE]; rfl
    simp [k6, k7, hxl]
    refine T.on 400 ?_
    by_cases h6 : xs.length ≤ 6
    · have h6' : (xs.length : Int) ≤ 6 := by omega
      simp [k0, h6']
      refine callK.ro 0 rfl (by kernel_rfl) (by simp [roc_ro]) (R90 xs hb hp) rfl rfl rfl ?_
      simp [outsOk, hA, h6]
    · have h6' : ¬ (xs.length : Int) ≤ 6 := by omega
      simp [k0, h6', outsOk, h6]
  | cons x rest =>
    have hle : pre.length + (rest.length + 1) = xs.length := by rw [← hx]; simp
    have hlt : (pre.length : Int) < xs.length := by omega
    have hw : IntKind.i64.wrap ((pre.length : Int) + 1) = pre.length + 1 := wrap_i64 (by omega) (by omega)
    have hd := rows_drop File.ty.csn pre (x :: rest)
    rw [hx, rows_cons] at hd
    have hd : List.drop (pre.length * 2) (rows File.ty.cs xs) = AV.sc (.string x.path) :: AV.sc (.string x.text) :: rows File.ty.cs rest := hd
    have hxp := hp x (by rw [← hx]; simp)
    simp [k0, k5, k6, k7, hlt, hd, f4, over]
    refine callK.ro 0 rfl (by kernel_rfl) (by simp [roc_sc, upd_app]) (R89 x.path (by omega)) rfl rfl rfl ?_
    cases h1 : partOk x.path
    · have h2 : namesL xs = false := by rw [← hE, namesL, h1]; rfl
      simp [outsOk, h2]
    · simp [k7, hw]
      refine ⟨pre ++ [x], rest, by simp, _, Le.reset [0, 5, 6, 7] [] (by simp [upd_app, menB, idfree, k0, k5, k6]) (by simp), ?_⟩
      simp [hx, upd_app, k0, k5, k6, ← hE, namesL, h1]
end Go.Proofs.YtaknfalbmblagaaGreatDoor.Am
namespace Go.Proofs.YtaknfalbmblagaaGreatDoor.Am
open Go Go.Proofs
set_option linter.unusedSimpArgs false
set_option linter.unusedVariables false
attribute [local congr] T_congr callK_congr callWK_congr
attribute [local simp] run_nil run_op0 run_opg run_seq run_cond run_block run_ret run_skip run_skip_after run_skip_blk run_exit run_exit_after run_exit_blk run_loop run_any runS_nil runS_op0 runS_opg runW_nil runW_op0 runW_opg exec_q exec_w exec_c exec_n execW_q execW_w execW_c restW_app hideH_app merge_app wblk rest_app restS_app execS_q execS_c aval dOk upd_app ev_t ev_c setO_some setO_none put_mk pinsOf isIo hasIo sbin endR fin resL one outL out1 clo1 cloL coe coeL shut shut.shutL wantA weff cellsOf fillA deref natOf ρ0_app h0_app plain plain.plainL keep_app keepH_app andThen_normal andThen_ret andThen_exit pop_nil pop_after pop_after_ret pop_after_exit pop_blk pop_blk_ret pop_blk_exit nilA srcOf srcCells keepR_app keepHR_app renA rb
def sB (s : ByteArray) : List Int := s.data.toList.map fun b => (b.toNat : Int)
theorem sB_len (s : ByteArray) : (sB s).length = s.size := by rw [sB, List.length_map, Array.length_toList]; rfl
theorem strCells_rows (s : ByteArray) : strCells s = rows B (sB s) := by
  unfold strCells sB
  induction s.data.toList with
  | nil => rfl
  | cons x xs ih => rw [List.map_cons, List.map_cons, rows_cons, ih]; rfl
def hiL (n : Nat) : List Int := [(n : Int) / 256, (n : Int) % 256]
def putT (b : List Int) (s : ByteArray) : List Int := if s.size ≤ 60000 then b ++ (hiL s.size ++ sB s) else b
theorem rowsB_hi (n : Nat) : [AV.sc (.int .u8 ((n : Int) / 256)), AV.sc (.int .u8 ((n : Int) % 256))] = rows B (hiL n) := rfl
theorem wrap_hi {n : Nat} (h : n ≤ 60000) : IntKind.u8.wrap ((n : Int).fdiv (2 ^ min 8 IntKind.i64.bits)) = (n : Int) / 256 := by
  have e : (n : Int).fdiv (2 ^ min 8 IntKind.i64.bits) = (n : Int) / 256 := by
    rw [Int.fdiv_eq_ediv_of_nonneg _ (by decide)]; rfl
  rw [e]
  simp [IntKind.wrap, IntKind.bits, IntKind.signed]
  omega
theorem wrap_lo (n : Nat) : IntKind.u8.wrap (n : Int) = (n : Int) % 256 := rfl
/- 93: loop.example/g00464/impl.putText -/
def A93 : AC := (.seq (.ops [⟨(some 4), none, .q (.mov (.c .em))⟩])
  (.seq (.seq (.ops [⟨(some 5), none, .q (.mov (.t 1))⟩, ⟨(some 6), none, .q (.slen (.t 5))⟩, ⟨(some 7), none, .q (.bin .gtr (.t 6) (.c (.sc (.int .i64 60000))))⟩])
  (.cond (.t 7) (.seq (.ops [⟨(some 8), none, .q (.mov (.t 0))⟩, ⟨(some 4), none, .q (.mov (.t 8))⟩])
  .ret)
  .skip))
  (.seq (.ops [⟨(some 9), none, .q (.mov (.t 0))⟩, ⟨(some 10), none, .q (.mov (.t 1))⟩, ⟨(some 11), none, .q (.slen (.t 10))⟩, ⟨(some 12), none, .q (.bin .shr (.t 11) (.c (.sc (.int .u64 8))))⟩, ⟨(some 13), none, .q (.cvi .u8 (.t 12))⟩, ⟨(some 14), none, .q (.mov (.t 1))⟩, ⟨(some 15), none, .q (.slen (.t 14))⟩, ⟨(some 16), none, .q (.cvi .u8 (.t 15))⟩, ⟨(some 17), none, .w (.bsl 1 2 [(.sc (.int .u8 0)), (.sc (.int .u8 0))] [(0, 1, (.t 13)), (1, 1, (.t 16))])⟩, ⟨(some 18), none, .w (.app 1 1 false (.t 9) (.t 17))⟩, ⟨(some 19), none, .q (.mov (.t 1))⟩, ⟨(some 20), none, .w (.app 1 1 true (.t 18) (.t 19))⟩, ⟨(some 4), none, .q (.mov (.t 20))⟩])
  .ret)))
theorem K93 : Tryz.f93.body.bind (comp Tryz.prog) = some A93 ∧ Tryz.f93.ntmps = 21 ∧ Tryz.f93.results.toList.mapM (resB Tryz.prog) = some [.mov (.t 4)] := ⟨by kernel_rfl, by kernel_rfl, by kernel_rfl⟩
theorem R93 (b : List Int) (s : ByteArray) (hb : b.length + s.size ≤ 140737488350000) : Ret Tryz.prog 93 [.own (rows B b) b.length 1, .sc (.string s)] (.own (rows B (putT b s)) (putT b s).length 1) [.un, .un] := by
  have hl := sB_len s
  refine Ret.run Tryz.func93 K93 (by simp) rfl rfl 500 ?_
  simp [A93, iniρ]
  by_cases h : s.size ≤ 60000
  case neg =>
    have h2 : (60000 : Int) < s.size := by omega
    have e : putT b s = b := if_neg h
    simp [h2, e, ex1, B.count, idfreeL_rows B.fr]
  have h2 : ¬ (60000 : Int) < s.size := by omega
  have e : putT b s = b ++ (hiL s.size ++ sB s) := if_pos h
  have hw := wrap_hi h
  have hw2 := wrap_lo s.size
  have c1 : b.length + 2 ≤ 140737488355328 := by omega
  have c2 : b.length + 2 + s.size ≤ 140737488355328 := by omega
  have e2 : (putT b s).length = b.length + 2 + s.size := by rw [e]; simp [hiL, hl]; omega
  have e3 : rows B (putT b s) = rows B b ++ (AV.sc (.int .u8 ((s.size : Int) / 256)) :: AV.sc (.int .u8 ((s.size : Int) % 256)) :: rows B (sB s)) := by rw [e, rows_append, rows_append, ← rowsB_hi]; rfl
  have hid := idfreeL_rows B.fr (putT b s)
  have c3 : b.length + (s.size + 1 + 1) = b.length + 2 + s.size := by omega
  rw [e3] at hid
  rw [e2, e3]
  simp [h2, hw, hw2, over, ex1, B.count, c1, c2, c3, strCells_rows, hl, hid]
/- 95: loop.example/g00464/spec.PutText -/
def A95 : AC := (.seq (.ops [⟨(some 4), none, .q (.mov (.c .em))⟩])
  (.seq (.ops [⟨(some 6), none, .w (.bsl 1 0 [] [])⟩, ⟨(some 7), none, .q (.mov (.t 0))⟩, ⟨(some 8), none, .w (.app 1 1 false (.t 6) (.t 7))⟩, ⟨(some 5), none, .q (.mov (.t 8))⟩])
  (.seq (.seq (.ops [⟨(some 9), none, .q (.mov (.t 1))⟩, ⟨(some 10), none, .q (.slen (.t 9))⟩, ⟨(some 11), none, .q (.bin .gtr (.t 10) (.c (.sc (.int .i64 60000))))⟩])
  (.cond (.t 11) (.seq (.ops [⟨(some 12), none, .q (.mov (.t 5))⟩, ⟨(some 4), none, .q (.mov (.t 12))⟩])
  .ret)
  .skip))
  (.seq (.ops [⟨(some 13), none, .q (.mov (.t 5))⟩, ⟨(some 14), none, .q (.mov (.t 1))⟩, ⟨(some 15), none, .q (.slen (.t 14))⟩, ⟨(some 16), none, .q (.bin .shr (.t 15) (.c (.sc (.int .u64 8))))⟩, ⟨(some 17), none, .q (.cvi .u8 (.t 16))⟩, ⟨(some 18), none, .q (.mov (.t 1))⟩, ⟨(some 19), none, .q (.slen (.t 18))⟩, ⟨(some 20), none, .q (.cvi .u8 (.t 19))⟩, ⟨(some 21), none, .w (.bsl 1 2 [(.sc (.int .u8 0)), (.sc (.int .u8 0))] [(0, 1, (.t 17)), (1, 1, (.t 20))])⟩, ⟨(some 22), none, .w (.app 1 1 false (.t 13) (.t 21))⟩, ⟨(some 5), none, .q (.mov (.t 22))⟩])
  (.seq (.ops [⟨(some 23), none, .q (.mov (.t 5))⟩, ⟨(some 24), none, .q (.mov (.t 1))⟩, ⟨(some 25), none, .w (.app 1 1 true (.t 23) (.t 24))⟩, ⟨(some 4), none, .q (.mov (.t 25))⟩])
  .ret)))))
theorem K95 : Tryz.f95.body.bind (comp Tryz.prog) = some A95 ∧ Tryz.f95.ntmps = 26 ∧ Tryz.f95.results.toList.mapM (resB Tryz.prog) = some [.mov (.t 4)] := ⟨by kernel_rfl, by kernel_rfl, by kernel_rfl⟩
theorem R95 (b : List Int) (s : ByteArray) (hb : b.length + s.size ≤ 140737488350000) : Ret Tryz.prog 95 [.ro (rows B b) b.length, .sc (.string s)] (.own (rows B (putT b s)) (putT b s).length 1) [.un, .un] := by
  have hl := sB_len s
  have c0 : b.length ≤ 140737488355328 := by omega
  refine Ret.run Tryz.func95 K95 (by simp) rfl rfl 500 ?_
  simp [A95, iniρ, over]
  by_cases h : s.size ≤ 60000
  case neg =>
    have h2 : (60000 : Int) < s.size := by omega
    have e : putT b s = b := if_neg h
    simp [h2, e, ex1, B.count, idfreeL_rows B.fr, c0]
  have h2 : ¬ (60000 : Int) < s.size := by omega
  have e : putT b s = b ++ (hiL s.size ++ sB s) := if_pos h
  have hw := wrap_hi h
  have hw2 := wrap_lo s.size
  have c1 : b.length + 2 ≤ 140737488355328 := by omega
  have c2 : b.length + 2 + s.size ≤ 140737488355328 := by omega
  have e2 : (putT b s).length = b.length + 2 + s.size := by rw [e]; simp [hiL, hl]; omega
  have e3 : rows B (putT b s) = rows B b ++ (AV.sc (.int .u8 ((s.size : Int) / 256)) :: AV.sc (.int .u8 ((s.size : Int) % 256)) :: rows B (sB s)) := by rw [e, rows_append, rows_append, ← rowsB_hi]; rfl
  have hid := idfreeL_rows B.fr (putT b s)
  have c3 : b.length + (s.size + 1 + 1) = b.length + 2 + s.size := by omega
  rw [e3] at hid
  rw [e2, e3]
  simp [h2, hw, hw2, over, ex1, B.count, c0, c1, c2, c3, strCells_rows, hl, hid]
/-- the length that two bytes tell -/
def lenAt (b : List Int) (a : Nat) : Nat := (b[a]?.getD 0).toNat * 256 + (b[a + 1]?.getD 0).toNat
def getT (b : List Int) (a : Int) : Option (ByteArray × Int) :=
  if 0 ≤ a ∧ a ≤ b.length - 2 then
    if lenAt b a.toNat ≤ 60000 ∧ (lenAt b a.toNat : Int) ≤ b.length - a - 2 then some (strOfNums ((b.drop (a.toNat + 2)).take (lenAt b a.toNat)), a + 2 + lenAt b a.toNat) else none
  else none
def gotA : Option (ByteArray × Int) → AV
  | some (s, n) => .tup [.sc (.string s), .sc (.int .i64 n), .sc (.bool true)]
  | none => .tup [.sc (.string ⟨#[]⟩), .sc (.int .i64 0), .sc (.bool false)]
theorem or_bytes {x y : Int} (hx : 0 ≤ x ∧ x ≤ 255) (hy : 0 ≤ y ∧ y ≤ 255) : IntKind.i64.wrap (((x * 256 % 2 ^ IntKind.i64.bits).toNat ||| (y % 2 ^ IntKind.i64.bits).toNat : Nat) : Int) = x * 256 + y := by
  have e1 : (x * 256 % 2 ^ IntKind.i64.bits).toNat = x.toNat <<< 8 := by
    rw [Nat.shiftLeft_eq]
    simp only [IntKind.bits]
    omega
  have e2 : (y % 2 ^ IntKind.i64.bits).toNat = y.toNat := by simp only [IntKind.bits]; omega
  rw [e1, e2, ← Nat.shiftLeft_add_eq_or_of_lt (by omega : y.toNat < 2 ^ 8), Nat.shiftLeft_eq]
  rw [wrap_i64 (by omega) (by omega)]
  omega
/- 101: loop.example/g00464/impl.GetText -/
def A101 : AC := (.seq (.ops [⟨(some 4), none, .q (.mov (.c (.sc (.string ⟨#[]⟩))))⟩, ⟨(some 5), none, .q (.mov (.c (.sc (.int .i64 0))))⟩, ⟨(some 6), none, .q (.mov (.c (.sc (.bool false))))⟩])
  (.seq (.seq (.ops [⟨(some 9), none, .q (.mov (.t 1))⟩, ⟨(some 10), none, .q (.bin .lss (.t 9) (.c (.sc (.int .i64 0))))⟩, ⟨(some 11), none, .q (.mov (.t 10))⟩, ⟨(some 12), (some (11, false)), .q (.mov (.t 1))⟩, ⟨(some 13), (some (11, false)), .q (.mov (.t 0))⟩, ⟨(some 14), (some (11, false)), .q (.llen (.t 13))⟩, ⟨(some 15), (some (11, false)), .q (.bin .sub (.t 14) (.c (.sc (.int .i64 2))))⟩, ⟨(some 16), (some (11, false)), .q (.bin .gtr (.t 12) (.t 15))⟩, ⟨(some 17), none, .q (.pick (.t 11) (.c (.sc (.bool true))) (.t 16))⟩])
  (.cond (.t 17) (.seq (.ops [⟨(some 4), none, .q (.mov (.c (.sc (.string ⟨#[]⟩))))⟩, ⟨(some 5), none, .q (.mov (.c (.sc (.int .i64 0))))⟩, ⟨(some 6), none, .q (.mov (.c (.sc (.bool false))))⟩])
  .ret)
  .skip))
  (.seq (.any [(⟨(some 18), none, .q (.mov (.t 0))⟩, []), (⟨(some 19), none, .q (.mov (.t 1))⟩, []), (⟨(some 20), none, .q (.iadr 1 (.t 18) (.t 19))⟩, [0, 1]), (⟨(some 21), none, .q (.load false 1 (.t 20))⟩, [2]), (⟨(some 22), none, .q (.cvi .i64 (.t 21))⟩, [3]), (⟨(some 23), none, .q (.bin .shl (.t 22) (.c (.sc (.int .u64 8))))⟩, [4]), (⟨(some 24), none, .q (.mov (.t 0))⟩, []), (⟨(some 25), none, .q (.mov (.t 1))⟩, []), (⟨(some 26), none, .q (.bin .add (.t 25) (.c (.sc (.int .i64 1))))⟩, [7]), (⟨(some 27), none, .q (.iadr 1 (.t 24) (.t 26))⟩, [6, 8]), (⟨(some 28), none, .q (.load false 1 (.t 27))⟩, [9]), (⟨(some 29), none, .q (.cvi .i64 (.t 28))⟩, [10]), (⟨(some 30), none, .q (.bin .or (.t 23) (.t 29))⟩, [5, 11]), (⟨(some 7), none, .q (.mov (.t 30))⟩, [12, 0, 1, 2, 3, 4, 5, 6, 7, 8, 9, 10, 11, 12])])
  (.seq (.ops [⟨(some 31), none, .q (.mov (.t 1))⟩, ⟨(some 32), none, .q (.bin .add (.t 31) (.c (.sc (.int .i64 2))))⟩, ⟨(some 8), none, .q (.mov (.t 32))⟩])
  (.seq (.seq (.ops [⟨(some 33), none, .q (.mov (.t 7))⟩, ⟨(some 34), none, .q (.bin .gtr (.t 33) (.c (.sc (.int .i64 60000))))⟩, ⟨(some 35), none, .q (.mov (.t 34))⟩, ⟨(some 36), (some (35, false)), .q (.mov (.t 7))⟩, ⟨(some 37), (some (35, false)), .q (.mov (.t 0))⟩, ⟨(some 38), (some (35, false)), .q (.llen (.t 37))⟩, ⟨(some 39), (some (35, false)), .q (.mov (.t 8))⟩, ⟨(some 40), (some (35, false)), .q (.bin .sub (.t 38) (.t 39))⟩, ⟨(some 41), (some (35, false)), .q (.bin .gtr (.t 36) (.t 40))⟩, ⟨(some 42), none, .q (.pick (.t 35) (.c (.sc (.bool true))) (.t 41))⟩])
  (.cond (.t 42) (.seq (.ops [⟨(some 4), none, .q (.mov (.c (.sc (.string ⟨#[]⟩))))⟩, ⟨(some 5), none, .q (.mov (.c (.sc (.int .i64 0))))⟩, ⟨(some 6), none, .q (.mov (.c (.sc (.bool false))))⟩])
  .ret)
  .skip))
  (.seq (.ops [⟨(some 43), none, .q (.mov (.t 0))⟩, ⟨(some 44), none, .q (.mov (.t 8))⟩, ⟨(some 45), none, .q (.mov (.t 8))⟩, ⟨(some 46), none, .q (.mov (.t 7))⟩, ⟨(some 47), none, .q (.bin .add (.t 45) (.t 46))⟩, ⟨(some 48), none, .q (.subl 1 (.t 43) (some (.t 44)) (some (.t 47)))⟩, ⟨(some 49), none, .q (.bstr (.t 48))⟩, ⟨(some 50), none, .q (.mov (.t 8))⟩, ⟨(some 51), none, .q (.mov (.t 7))⟩, ⟨(some 52), none, .q (.bin .add (.t 50) (.t 51))⟩, ⟨(some 4), none, .q (.mov (.t 49))⟩, ⟨(some 5), none, .q (.mov (.t 52))⟩, ⟨(some 6), none, .q (.mov (.c (.sc (.bool true))))⟩])
  .ret))))))
theorem K101 : Tryz.f101.body.bind (comp Tryz.prog) = some A101 ∧ Tryz.f101.ntmps = 53 ∧ Tryz.f101.results.toList.mapM (resB Tryz.prog) = some [.mov (.t 4), .mov (.t 5), .mov (.t 6)] := ⟨by kernel_rfl, by kernel_rfl, by kernel_rfl⟩
set_option maxHeartbeats 1000000 in
theorem R101 (b : List Int) (a : Int) (ha : Ty.int.ok a) (hb : ∀ x ∈ b, 0 ≤ x ∧ x ≤ 255) (hl : b.length ≤ 140737488355328) : Ret Tryz.prog 101 [.ro (rows B b) b.length, .sc (.int .i64 a)] (gotA (getT b a)) [.un, .un] := by
  have hw0 : IntKind.i64.wrap ((b.length : Int) - 2) = b.length - 2 := wrap_i64 (by omega) (by omega)
  by_cases h0 : a < 0
  · have e : getT b a = none := by unfold getT; rw [if_neg (by omega)]
    refine Ret.run Tryz.func101 K101 (by simp) rfl rfl 500 ?_
    simp [A101, iniρ, h0, e, gotA]
  by_cases h1 : (b.length : Int) - 2 < a
  · have e : getT b a = none := by unfold getT; rw [if_neg (by omega)]
    have h0' : 0 ≤ a := by omega
    refine Ret.run Tryz.func101 K101 (by simp) rfl rfl 500 ?_
    simp [A101, iniρ, h0, h0', h1, hw0, e, gotA]
  have h0' : 0 ≤ a := by omega
  obtain ⟨k, rfl⟩ : ∃ k : Nat, a = k := ⟨a.toNat, by omega⟩
  have k1 : k + 1 < b.length := by omega
  have d0 : List.drop k (rows B b) = .sc (.int .u8 b[k]) :: rows B (b.drop (k + 1)) := by
    have h := rows_drop B.len (b.take k) (b.drop k)
    rw [List.take_append_drop, List.length_take, Nat.mul_one, Nat.min_eq_left (by omega), List.drop_eq_getElem_cons (by omega : k < b.length), rows_cons] at h
    exact h
  have d1 : List.drop (k + 1) (rows B b) = .sc (.int .u8 b[k + 1]) :: rows B (b.drop (k + 2)) := by
    have h := rows_drop B.len (b.take (k + 1)) (b.drop (k + 1))
    rw [List.take_append_drop, List.length_take, Nat.mul_one, Nat.min_eq_left (by omega), List.drop_eq_getElem_cons (by omega : k + 1 < b.length), rows_cons] at h
    exact h
  have r0 := hb b[k] (List.getElem_mem _)
  have r1 := hb b[k + 1] (List.getElem_mem _)
  obtain ⟨x, hx⟩ : ∃ x, x = b[k] := ⟨_, rfl⟩
  obtain ⟨y, hy⟩ : ∃ y, y = b[k + 1] := ⟨_, rfl⟩
  rw [← hx] at d0 r0
  rw [← hy] at d1 r1
  have hn : lenAt b k = x.toNat * 256 + y.toNat := by
    unfold lenAt
    rw [List.getElem?_eq_getElem (by omega : k < b.length), List.getElem?_eq_getElem (by omega : k + 1 < b.length), ← hx, ← hy]; rfl
  obtain ⟨m, hm⟩ : ∃ m, m = lenAt b k := ⟨_, rfl⟩
  have hor := or_bytes r0 r1
  have hxy : x * 256 + y = (m : Int) := by rw [hm, hn]; omega
  rw [hxy] at hor
  have wx : IntKind.i64.wrap x = x := wrap_i64 (by omega) (by omega)
  have wy : IntKind.i64.wrap y = y := wrap_i64 (by omega) (by omega)
  have ws : IntKind.i64.wrap (x * 2 ^ min 8 IntKind.i64.bits) = x * 256 := by
    have : (2 : Int) ^ min 8 IntKind.i64.bits = 256 := rfl
    rw [this]; exact wrap_i64 (by omega) (by omega)
  have wk : IntKind.i64.wrap ((k : Int) + 1) = k + 1 := wrap_i64 (by omega) (by omega)
  have wk2 : IntKind.i64.wrap ((k : Int) + 2) = k + 2 := wrap_i64 (by omega) (by omega)
  have lt0 : k < b.length := by omega
  have nk : (0 : Int) ≤ (k : Int) + 1 := by omega
  have nk0 : ¬ ((k : Int) < 0) := by omega
  have ilt0 : (k : Int) < b.length := by omega
  have ilt1 : (k : Int) + 1 < b.length := by omega
  have wl : IntKind.i64.wrap ((b.length : Int) - (k + 2)) = b.length - (k + 2) := wrap_i64 (by omega) (by omega)
  have wm : IntKind.i64.wrap ((k : Int) + 2 + m) = k + 2 + m := wrap_i64 (by omega) (by omega)
  have key : getT b k = if m ≤ 60000 ∧ (m : Int) ≤ b.length - (k + 2) then some (strOfNums ((b.drop (k + 2)).take m), (k : Int) + 2 + m) else none := by
    unfold getT
    rw [if_pos ⟨by omega, by omega⟩, show (k : Int).toNat = k from rfl, ← hm]
    by_cases c : m ≤ 60000 ∧ (m : Int) ≤ b.length - (k + 2)
    · rw [if_pos c, if_pos ⟨c.1, by omega⟩]
    · rw [if_neg c, if_neg (fun h => c ⟨h.1, by omega⟩)]
  rw [key]
  by_cases g1 : m ≤ 60000
  case neg =>
    have g1' : (60000 : Int) < m := by omega
    rw [if_neg (fun h => g1 h.1)]
    refine Ret.run Tryz.func101 K101 (by simp) rfl rfl 500 ?_
    simp [A101, iniρ, h1, hw0, nk0]
    refine T.text 400 mixed (by kernel_rfl) (by kernel_rfl) ?_
    simp [nk, nk0, lt0, ilt0, ilt1, k1, d0, d1, wk, wx, wy, ws, hor, wk2, g1', gotA]
  have g1' : ¬ (60000 : Int) < m := by omega
  by_cases g2 : (m : Int) ≤ b.length - (k + 2)
  case neg =>
    have g2' : (b.length : Int) - (k + 2) < m := by omega
    rw [if_neg (fun h => g2 h.2)]
    refine Ret.run Tryz.func101 K101 (by simp) rfl rfl 500 ?_
    simp [A101, iniρ, h1, hw0, nk0]
    refine T.text 400 mixed (by kernel_rfl) (by kernel_rfl) ?_
    simp [nk, nk0, lt0, ilt0, ilt1, k1, d0, d1, wk, wx, wy, ws, hor, wk2, wl, g1', g2', gotA]
  have g2' : ¬ (b.length : Int) - (k + 2) < m := by omega
  rw [if_pos ⟨g1, g2⟩]
  have c1 : (k : Int) + 2 + m ≤ b.length := by omega
  have c2 : (k : Int) + 2 ≤ k + 2 + m := by omega
  have c0 : ¬ ((k : Int) + 2 < 0) := by omega
  have nk2 : (0 : Int) ≤ (k : Int) + 2 := by omega
  have nk3 : (0 : Int) ≤ (k : Int) + 2 + m := by omega
  have t2 : ((k : Int) + 2).toNat = k + 2 := by omega
  have t3 : ((k : Int) + 2 + m).toNat = k + 2 + m := by omega
  have c3 : k + 2 + m ≤ b.length := by omega
  have c4 : k + 2 + m - (k + 2) = m := by omega
  have dl : ((b.drop (k + 2)).take m).length = m := by rw [List.length_take, List.length_drop]; omega
  have ds : List.take m (List.drop (k + 2) (rows B b)) = rows B ((b.drop (k + 2)).take m) := by
    have h1 := rows_drop B.len (b.take (k + 2)) (b.drop (k + 2))
    rw [List.take_append_drop, List.length_take, Nat.mul_one, Nat.min_eq_left (by omega)] at h1
    have h2 := rows_takeN B.len (b.drop (k + 2)) m (by rw [List.length_drop]; omega)
    rw [Nat.mul_one] at h2
    rw [h1, h2]
  refine Ret.run Tryz.func101 K101 (by simp) rfl rfl 500 ?_
  simp [A101, iniρ, h1, hw0, nk0]
  refine T.text 400 mixed (by kernel_rfl) (by kernel_rfl) ?_
  simp [nk, nk0, lt0, ilt0, ilt1, k1, d0, d1, wk, wx, wy, ws, hor, wk2, wl, wm, g1', g2', gotA, c0, c1, c2, nk2, nk3, t2, t3, c3, c4, ds, dl, bytesA, B.count, B.num]
/- 104: loop.example/g00464/spec.GetText -/
end Go.Proofs.YtaknfalbmblagaaGreatDoor.Am
namespace Go.Proofs.YtaknfalbmblagaaGreatDoor.Am
open Go Go.Proofs
set_option linter.unusedSimpArgs false
set_option linter.unusedVariables false
attribute [local congr] T_congr callK_congr callWK_congr
attribute [local simp] run_nil run_op0 run_opg run_seq run_cond run_block run_ret run_skip run_skip_after run_skip_blk run_exit run_exit_after run_exit_blk run_loop run_any runS_nil runS_op0 runS_opg runW_nil runW_op0 runW_opg exec_q exec_w exec_c exec_n execW_q execW_w execW_c restW_app hideH_app merge_app wblk rest_app restS_app execS_q execS_c aval dOk upd_app ev_t ev_c setO_some setO_none put_mk pinsOf isIo hasIo sbin endR fin resL one outL out1 clo1 cloL coe coeL shut shut.shutL wantA weff cellsOf fillA deref natOf ρ0_app h0_app plain plain.plainL keep_app keepH_app andThen_normal andThen_ret andThen_exit pop_nil pop_after pop_after_ret pop_after_exit pop_blk pop_blk_ret pop_blk_exit nilA srcOf srcCells keepR_app keepHR_app renA rb
def digC (n : Int) : ByteArray := strOfNums [IntKind.u8.wrap (48 + n)]
theorem digC_size (n : Int) : (digC n).size = 1 := rfl
def numF : Nat → Nat → ByteArray → ByteArray
  | 0, _, a => a
  | k + 1, n, a => if 9 < n then numF k (n / 10) (digC ((n : Int) / 10 % 10) ++ a) else a
def numT (n : Nat) : ByteArray := numF n n (digC ((n : Int) % 10))
/- 75: loop.example/g00464/spec.NumText -/
def A75 : AC := (.seq (.ops [⟨(some 2), none, .q (.mov (.c (.sc (.string ⟨#[]⟩))))⟩])
  (.seq (.seq (.ops [⟨(some 4), none, .q (.mov (.t 0))⟩, ⟨(some 5), none, .q (.bin .lss (.t 4) (.c (.sc (.int .i64 0))))⟩])
  (.cond (.t 5) (.ops [⟨(some 0), none, .q (.mov (.c (.sc (.int .i64 0))))⟩])
  .skip))
  (.seq (.ops [⟨(some 6), none, .q (.mov (.t 0))⟩, ⟨(some 7), none, .q (.bin .rem (.t 6) (.c (.sc (.int .i64 10))))⟩, ⟨(some 8), none, .q (.bin .add (.c (.sc (.int .i64 48))) (.t 7))⟩, ⟨(some 9), none, .q (.cvi .u8 (.t 8))⟩, ⟨(some 10), none, .w (.bsl 1 1 [(.sc (.int .u8 0))] [(0, 1, (.t 9))])⟩, ⟨(some 11), none, .q (.bstr (.t 10))⟩, ⟨(some 3), none, .q (.mov (.t 11))⟩])
  (.seq (.block 0 (.loop (.seq (.seq (.ops [⟨(some 12), none, .q (.mov (.t 0))⟩, ⟨(some 13), none, .q (.bin .gtr (.t 12) (.c (.sc (.int .i64 9))))⟩])
  (.cond (.t 13) .skip
  (.exit 0)))
  (.block 1 (.seq (.ops [⟨(some 14), none, .q (.mov (.t 0))⟩, ⟨(some 15), none, .q (.bin .quo (.t 14) (.c (.sc (.int .i64 10))))⟩, ⟨(some 0), none, .q (.mov (.t 15))⟩])
  (.ops [⟨(some 16), none, .q (.mov (.t 0))⟩, ⟨(some 17), none, .q (.bin .rem (.t 16) (.c (.sc (.int .i64 10))))⟩, ⟨(some 18), none, .q (.bin .add (.c (.sc (.int .i64 48))) (.t 17))⟩, ⟨(some 19), none, .q (.cvi .u8 (.t 18))⟩, ⟨(some 20), none, .w (.bsl 1 1 [(.sc (.int .u8 0))] [(0, 1, (.t 19))])⟩, ⟨(some 21), none, .q (.bstr (.t 20))⟩, ⟨(some 22), none, .q (.mov (.t 3))⟩, ⟨(some 23), none, .q (.bin .add (.t 21) (.t 22))⟩, ⟨(some 3), none, .q (.mov (.t 23))⟩]))))))
  (.seq (.ops [⟨(some 24), none, .q (.mov (.t 3))⟩, ⟨(some 2), none, .q (.mov (.t 24))⟩])
  .ret)))))
theorem K75 : Tryz.f75.body.bind (comp Tryz.prog) = some A75 ∧ Tryz.f75.ntmps = 25 ∧ Tryz.f75.results.toList.mapM (resB Tryz.prog) = some [.mov (.t 2)] := ⟨by kernel_rfl, by kernel_rfl, by kernel_rfl⟩
theorem R75 (n : Nat) (hn : n < 4611686018427387904) : Ret Tryz.prog 75 [.sc (.int .i64 n)] (.sc (.string (numT n))) [.un] := by
  have hrem : (n : Int).tmod 10 = (n : Int) % 10 := rfl
  have hw0 : IntKind.i64.wrap (48 + (n : Int) % 10) = 48 + (n : Int) % 10 := wrap_i64 (by omega) (by omega)
  have hz0 : (digC ((n : Int) % 10)).size + n ≤ n + 1 := by rw [digC_size]; omega
  have h0n : ¬ ((n : Int) < 0) := by omega
  refine Ret.run Tryz.func75 K75 (by simp) rfl rfl 900 ?_
  simp only [A75, iniρ]
  simp [h0n, over, hrem, hw0, bytesA, num8]
  refine T.rounds (μ := fun i : Nat × Nat × ByteArray => i.1)
    (fun i s => i.2.1 ≤ i.1 ∧ i.2.2.size + i.2.1 ≤ n + 1 ∧ numF i.1 i.2.1 i.2.2 = numT n ∧ s.ρ 0 = .sc (.int .i64 i.2.1) ∧ s.ρ 3 = .sc (.string i.2.2) ∧ s.h 20 = none ∧ s.n = 25) (n, n, digC ((n : Int) % 10)) (by simp [upd_app, numT, hz0]; rfl) ?_
  rintro ⟨k, m, a⟩ ⟨ρ, hh, n'⟩ ⟨hk, hs, hE, h0', h3', f1, rfl⟩
  simp only at hk hs hE h0' h3' f1
  refine run_ok (n := 400) ?_
  by_cases h9 : 9 < m
  case neg =>
    have h9' : ¬ ((9 : Int) < m) := by omega
    have hE2 : a = numT n := by rw [← hE]; cases k <;> simp [numF, h9]
    simp [h0', h9']
    refine T.on 400 ?_
    simp [h3', hE2]
  have h9' : (9 : Int) < m := by omega
  obtain ⟨k, rfl⟩ : ∃ k', k = k' + 1 := ⟨k - 1, by omega⟩
  rw [numF, if_pos h9] at hE
  have hq1 : (m : Int).tdiv 10 = (m : Int) / 10 := rfl
  have hw1 : IntKind.i64.wrap ((m : Int) / 10) = (m : Int) / 10 := wrap_i64 (by omega) (by omega)
  have hr2 : ((m : Int) / 10).tmod 10 = (m : Int) / 10 % 10 := rfl
  have hw2 : IntKind.i64.wrap (48 + (m : Int) / 10 % 10) = 48 + (m : Int) / 10 % 10 := wrap_i64 (by omega) (by omega)
  have hsz : (strOfNums [IntKind.u8.wrap (48 + (m : Int) / 10 % 10)]).size + a.size ≤ 9223372036854775807 := by
    have := digC_size ((m : Int) / 10 % 10)
    rw [digC] at this
    rw [this]; omega
  simp [h0', h3', h9', f1, over, hq1, hw1, hr2, hw2, bytesA, num8, hsz]
  refine ⟨k, by omega, m / 10, digC ((m : Int) / 10 % 10) ++ a, _, Le.reset [0, 3] [] (by simp [upd_app, menB, idfree]) (by simp), ?_⟩
  simp [upd_app, hE, digC_size]
  exact ⟨by omega, by omega, rfl⟩
theorem numF_size : ∀ (k n : Nat) (a : ByteArray), (numF k n a).size ≤ a.size + n
  | 0, n, a => Nat.le_add_right _ _
  | k + 1, n, a => by
    rw [numF]
    split
    · have h := numF_size k (n / 10) (digC ((n : Int) / 10 % 10) ++ a)
      rw [ByteArray.size_append, digC_size] at h
      omega
    · exact Nat.le_add_right _ _
theorem numT_size (n : Nat) : (numT n).size ≤ n + 1 := by
  have h := numF_size n n (digC ((n : Int) % 10))
  rw [digC_size] at h
  rw [numT]; omega
end Go.Proofs.YtaknfalbmblagaaGreatDoor.Am
namespace Go.Proofs.YtaknfalbmblagaaGreatDoor.Am
open Go Go.Proofs
set_option linter.unusedSimpArgs false
set_option linter.unusedVariables false
attribute [local congr] T_congr callK_congr callWK_congr
attribute [local simp] run_nil run_op0 run_opg run_seq run_cond run_block run_ret run_skip run_skip_after run_skip_blk run_exit run_exit_after run_exit_blk run_loop run_any runS_nil runS_op0 runS_opg runW_nil runW_op0 runW_opg exec_q exec_w exec_c exec_n execW_q execW_w execW_c restW_app hideH_app merge_app wblk rest_app restS_app execS_q execS_c aval dOk upd_app ev_t ev_c setO_some setO_none put_mk pinsOf isIo hasIo sbin endR fin resL one outL out1 clo1 cloL coe coeL shut shut.shutL wantA weff cellsOf fillA deref natOf ρ0_app h0_app plain plain.plainL keep_app keepH_app andThen_normal andThen_ret andThen_exit pop_nil pop_after pop_after_ret pop_after_exit pop_blk pop_blk_ret pop_blk_exit nilA srcOf srcCells keepR_app keepHR_app renA rb
theorem digC_is (m : Nat) (h : m < 10) : digC (m : Int) = ⟨#[UInt8.ofNat (48 + m)]⟩ := by
  have : m = 0 ∨ m = 1 ∨ m = 2 ∨ m = 3 ∨ m = 4 ∨ m = 5 ∨ m = 6 ∨ m = 7 ∨ m = 8 ∨ m = 9 := by omega
  rcases this with rfl | rfl | rfl | rfl | rfl | rfl | rfl | rfl | rfl | rfl <;> rfl
theorem ba_app (a b : List UInt8) : (⟨a.toArray⟩ : ByteArray) ++ (⟨b.toArray⟩ : ByteArray) = ⟨(a ++ b).toArray⟩ := by
  apply ByteArray.ext
  simp [ByteArray.data_append]
theorem numF_dec : ∀ (k n : Nat) (b : ByteArray), n ≤ k → numF k n (digC ((n : Int) % 10) ++ b) = ⟨(Lib.decDigits n).toArray⟩ ++ b := by
  intro k
  induction k with
  | zero =>
    intro n b h
    obtain rfl : n = 0 := by omega
    rw [Lib.decDigits]; rfl
  | succ k ih =>
    intro n b h
    by_cases h9 : 9 < n
    · rw [numF, if_pos h9]
      have e1 : ((n : Int) / 10 % 10) = ((n / 10 : Nat) : Int) % 10 := by omega
      have hd : Lib.decDigits n = Lib.decDigits (n / 10) ++ [UInt8.ofNat (48 + n % 10)] := by rw [Lib.decDigits, dif_neg (by omega)]
      rw [e1, ih (n / 10) _ (by omega), hd]
      have e2 : ((n : Int) % 10) = ((n % 10 : Nat) : Int) := by omega
      rw [e2, digC_is _ (by omega), ← ba_app, ByteArray.append_assoc]
    · rw [numF, if_neg h9, Lib.decDigits, dif_pos (by omega)]
      have e2 : ((n : Int) % 10) = (n : Int) := by omega
      rw [e2, digC_is _ (by omega)]
theorem numT_dec (n : Nat) : (⟨(Lib.itoa n).toArray⟩ : ByteArray) = numT n := by
  have h := numF_dec n n ⟨#[]⟩ (Nat.le_refl _)
  have e : ∀ a : ByteArray, a ++ (⟨#[]⟩ : ByteArray) = a := fun a => by apply ByteArray.ext; simp [ByteArray.data_append]
  rw [e, e] at h
  rw [numT, h, Lib.itoa, if_neg (by omega)]
  rfl
theorem R116 (n : Int) (h0 : -9223372036854775808 ≤ n) (h1 : n ≤ 9223372036854775807) : Ret Tryz.prog 116 [.sc (.int .i64 n)] (.sc (.string ⟨(Lib.itoa n).toArray⟩)) [.un] :=
  Ret.itoaOf (fun n w h0 h1 ht => Any.strconv_Itoa Tryz.laysM171 n h0 h1 w ht) n h0 h1
/- 103: loop.example/g00464/impl.NumText -/
def A103 : AC := (.seq (.ops [⟨(some 2), none, .q (.mov (.c (.sc (.string ⟨#[]⟩))))⟩])
  (.seq (.ops [⟨(some 3), none, .q (.mov (.t 0))⟩, ⟨(some 4), none, .q (.mm false (.t 3) (.c (.sc (.int .i64 0))))⟩, ⟨(some 5), none, .c (.c (.clo 116 [])) [(.t 4)]⟩, ⟨(some 2), none, .q (.mov (.t 5))⟩])
  .ret))
theorem K103 : Tryz.f103.body.bind (comp Tryz.prog) = some A103 ∧ Tryz.f103.ntmps = 6 ∧ Tryz.f103.results.toList.mapM (resB Tryz.prog) = some [.mov (.t 2)] := ⟨by kernel_rfl, by kernel_rfl, by kernel_rfl⟩
theorem R103 (n : Nat) (hn : n < 4611686018427387904) : Ret Tryz.prog 103 [.sc (.int .i64 n)] (.sc (.string (numT n))) [.un] := by
  have h0 : ¬ ((n : Int) < 0) := by omega
  have r := R116 n (by omega) (by omega)
  rw [numT_dec] at r
  refine Ret.run Tryz.func103 K103 (by simp) rfl rfl 500 ?_
  simp [A103, iniρ, h0]
  refine callK.ro 0 rfl (by kernel_rfl) (by simp [roc_sc, upd_app]) r rfl rfl rfl ?_
  simp
end Go.Proofs.YtaknfalbmblagaaGreatDoor.Am
namespace Go.Proofs.YtaknfalbmblagaaGreatDoor.Am
open Go Go.Proofs
set_option linter.unusedSimpArgs false
set_option linter.unusedVariables false
attribute [local congr] T_congr callK_congr callWK_congr
attribute [local simp] run_nil run_op0 run_opg run_seq run_cond run_block run_ret run_skip run_skip_after run_skip_blk run_exit run_exit_after run_exit_blk run_loop run_any runS_nil runS_op0 runS_opg runW_nil runW_op0 runW_opg exec_q exec_w exec_c exec_n execW_q execW_w execW_c restW_app hideH_app merge_app wblk rest_app restS_app execS_q execS_c aval dOk upd_app ev_t ev_c setO_some setO_none put_mk pinsOf isIo hasIo sbin endR fin resL one outL out1 clo1 cloL coe coeL shut shut.shutL wantA weff cellsOf fillA deref natOf ρ0_app h0_app plain plain.plainL keep_app keepH_app andThen_normal andThen_ret andThen_exit pop_nil pop_after pop_after_ret pop_after_exit pop_blk pop_blk_ret pop_blk_exit nilA srcOf srcCells keepR_app keepHR_app renA rb
def parseT (s : ByteArray) : Option (ByteArray × ByteArray) :=
  if nameOk (cutF s 35).1 = true ∧ nameOk (cutF s 35).2.1 = true then some ((cutF s 35).1, (cutF s 35).2.1) else none
def taskA : Option (ByteArray × ByteArray) → AV
  | some (a, b) => .tup [.sc (.string a), .sc (.string b), .sc (.bool true)]
  | none => .tup [.sc (.string ⟨#[]⟩), .sc (.string ⟨#[]⟩), .sc (.bool false)]
theorem cutF_size (s : ByteArray) (c : UInt8) : (cutF s c).1.size ≤ s.size ∧ (cutF s c).2.1.size ≤ s.size := by
  unfold cutF
  split
  · exact ⟨by rw [ByteArray.size_extract]; omega, by rw [ByteArray.size_extract]; omega⟩
  · exact ⟨Nat.le_refl _, Nat.zero_le _⟩
theorem nameC35 (i : Nat) : nameC i 35 = false := by
  have e : ((35 : UInt8).toNat : Int) = 35 := rfl
  simp [nameC, e, smallI, figI]
theorem nameL35 : ∀ (l : List UInt8) (i : Nat), (35 : UInt8) ∈ l → nameL l i = false
  | [], i, h => by simp at h
  | x :: l, i, h => by
    rcases List.mem_cons.1 h with rfl | h
    · rw [nameL, nameC35]; rfl
    · rw [nameL, nameL35 l _ h, Bool.and_false]
theorem name35 {s : ByteArray} (h : (35 : UInt8) ∈ s.data.toList) : nameOk s = false := by
  rw [nameOk, nameL35 _ _ h]; rfl
theorem nameE : nameOk ⟨#[]⟩ = false := rfl
/-- what the document's ParseTask asks -/
theorem parseT_split (s : ByteArray) : parseT s = match splitS s 35 with
    | [a, b] => if nameOk a = true ∧ nameOk b = true then some (a, b) else none
    | _ => none := by
  have e35 : ((35 : UInt8).toNat : Int) = 35 := rfl
  unfold parseT splitS
  rcases ixB_cases 35 s.data.toList with ⟨e, hn⟩ | ⟨p, q, e, hn, e2⟩
  · have h := splitP_miss s 35 0 s.data.toList 0 hn
    rw [e35] at h
    rw [h]
    have hc : (cutF s 35).2.1 = ⟨#[]⟩ := by unfold cutF; rw [e]; rfl
    rw [hc, nameE]
    simp
  · have h := splitP_hit s 35 0 q p 0 hn
    rw [← e, e35] at h
    rw [h]
    have hsz := str_len e.symm
    simp only [List.length_append, List.length_cons] at hsz
    have hc : cutF s 35 = (s.extract 0 p.length, s.extract (p.length + 1) s.size, true) := by unfold cutF; rw [e2]; simp
    have hq : (s.extract (p.length + 1) s.size).data.toList = q := by
      rw [drop_str, e, show p.length + 1 = (p ++ [(35 : UInt8)]).length by simp, show p ++ (35 : UInt8) :: q = (p ++ [35]) ++ q by simp, List.drop_left]
    rw [hc]
    simp only [Nat.zero_add]
    by_cases hm : (35 : UInt8) ∈ q
    · have hf : nameOk (s.extract (p.length + 1) s.size) = false := name35 (by rw [hq]; exact hm)
      rw [hf]
      obtain ⟨p2, q2, e3, hn2⟩ : ∃ p2 q2, q = p2 ++ (35 : UInt8) :: q2 ∧ (35 : UInt8) ∉ p2 := by
        rcases ixB_cases 35 q with ⟨_, h⟩ | ⟨p2, q2, h, h2, _⟩
        · exact absurd hm h
        · exact ⟨p2, q2, h, h2⟩
      have h2 := splitP_hit s 35 (p.length + 1) q2 p2 (p.length + 1) hn2
      rw [e35] at h2
      rw [e3, h2]
      cases q3 : splitP s 35 (p.length + 1 + p2.length + 1) (p.length + 1 + p2.length + 1) q2 with
      | nil =>
        have h3 := splitP_cnt s 35 q2 (p.length + 1 + p2.length + 1) (p.length + 1 + p2.length + 1)
        rw [e35, q3] at h3
        simp at h3
      | cons x l => simp
    · have h2 := splitP_miss s 35 (p.length + 1) q (p.length + 1) hm
      rw [e35] at h2
      rw [h2, show p.length + 1 + q.length = s.size by omega]
/- 88: loop.example/g00464/impl.ParseTask -/
def A88 : AC := (.seq (.ops [⟨(some 2), none, .q (.mov (.c (.sc (.string ⟨#[]⟩))))⟩, ⟨(some 3), none, .q (.mov (.c (.sc (.string ⟨#[]⟩))))⟩, ⟨(some 4), none, .q (.mov (.c (.sc (.bool false))))⟩])
  (.seq (.ops [⟨(some 9), none, .q (.mov (.t 0))⟩, ⟨(some 10), none, .c (.c (.clo 110 [])) [(.t 9), (.c (.sc (.string ⟨#[35]⟩)))]⟩, ⟨(some 8), none, .q (.mov (.t 10))⟩, ⟨(some 11), none, .q (.ext (.t 8) 0)⟩, ⟨(some 12), none, .q (.ext (.t 8) 1)⟩, ⟨(some 13), none, .q (.ext (.t 8) 2)⟩, ⟨(some 5), none, .q (.mov (.t 11))⟩, ⟨(some 6), none, .q (.mov (.t 12))⟩, ⟨(some 7), none, .q (.mov (.t 13))⟩])
  (.seq (.seq (.ops [⟨(some 14), none, .q (.mov (.t 5))⟩, ⟨(some 15), none, .c (.c (.clo 111 [])) [(.t 14)]⟩, ⟨(some 16), none, .q (.not (.t 15))⟩, ⟨(some 17), none, .q (.mov (.t 16))⟩, ⟨(some 18), (some (17, false)), .q (.mov (.t 6))⟩, ⟨(some 19), (some (17, false)), .c (.c (.clo 111 [])) [(.t 18)]⟩, ⟨(some 20), (some (17, false)), .q (.not (.t 19))⟩, ⟨(some 21), none, .q (.pick (.t 17) (.c (.sc (.bool true))) (.t 20))⟩])
  (.cond (.t 21) (.seq (.ops [⟨(some 2), none, .q (.mov (.c (.sc (.string ⟨#[]⟩))))⟩, ⟨(some 3), none, .q (.mov (.c (.sc (.string ⟨#[]⟩))))⟩, ⟨(some 4), none, .q (.mov (.c (.sc (.bool false))))⟩])
  .ret)
  .skip))
  (.seq (.ops [⟨(some 22), none, .q (.mov (.t 5))⟩, ⟨(some 23), none, .q (.mov (.t 6))⟩, ⟨(some 2), none, .q (.mov (.t 22))⟩, ⟨(some 3), none, .q (.mov (.t 23))⟩, ⟨(some 4), none, .q (.mov (.c (.sc (.bool true))))⟩])
  .ret))))
theorem K88 : Tryz.f88.body.bind (comp Tryz.prog) = some A88 ∧ Tryz.f88.ntmps = 24 ∧ Tryz.f88.results.toList.mapM (resB Tryz.prog) = some [.mov (.t 2), .mov (.t 3), .mov (.t 4)] := ⟨by kernel_rfl, by kernel_rfl, by kernel_rfl⟩
theorem R88 (s : ByteArray) (hs : s.size ≤ 140737488351232) : Ret Tryz.prog 88 [.sc (.string s)] (taskA (parseT s)) [.un] := by
  obtain ⟨c1, c2⟩ := cutF_size s 35
  have hp : parseT s = if nameOk (cutF s 35).1 = true ∧ nameOk (cutF s 35).2.1 = true then some ((cutF s 35).1, (cutF s 35).2.1) else none := rfl
  obtain ⟨x, hx⟩ : ∃ x, x = cutF s 35 := ⟨_, rfl⟩
  have rc := R110 s 35 hs
  rw [← hx] at c1 c2 hp rc
  rw [hp]
  refine Ret.run Tryz.func88 K88 (by simp) rfl rfl 500 ?_
  simp [A88, iniρ]
  refine callK.ro 0 rfl (by kernel_rfl) (by simp [roc_sc]) rc rfl (by simp [cutRes, inst, instL, shut]; exact ⟨rfl, rfl⟩) rfl ?_
  simp
  refine callK.ro 0 rfl (by kernel_rfl) (by simp [roc_sc]) (R111 x.1 (by omega)) rfl rfl rfl ?_
  cases h1 : nameOk x.1
  case false => simp [taskA]
  simp
  refine callK.ro 0 rfl (by kernel_rfl) (by simp [roc_sc]) (R111 x.2.1 (by omega)) rfl rfl rfl ?_
  cases h2 : nameOk x.2.1
  case false => simp [taskA]
  simp [taskA]
/- 50: loop.example/g00464/impl.isTask -/
def A50 : AC := (.seq (.ops [⟨(some 2), none, .q (.mov (.c (.sc (.bool false))))⟩])
  (.seq (.ops [⟨(some 7), none, .q (.mov (.t 0))⟩, ⟨(some 8), none, .c (.c (.clo 88 [])) [(.t 7)]⟩, ⟨(some 6), none, .q (.mov (.t 8))⟩, ⟨(some 9), none, .q (.ext (.t 6) 0)⟩, ⟨(some 10), none, .q (.ext (.t 6) 1)⟩, ⟨(some 11), none, .q (.ext (.t 6) 2)⟩, ⟨(some 3), none, .q (.mov (.t 9))⟩, ⟨(some 4), none, .q (.mov (.t 10))⟩, ⟨(some 5), none, .q (.mov (.t 11))⟩])
  (.seq (.ops [⟨(some 12), none, .q (.mov (.t 5))⟩, ⟨(some 2), none, .q (.mov (.t 12))⟩])
  .ret)))
theorem K50 : Tryz.f50.body.bind (comp Tryz.prog) = some A50 ∧ Tryz.f50.ntmps = 13 ∧ Tryz.f50.results.toList.mapM (resB Tryz.prog) = some [.mov (.t 2)] := ⟨by kernel_rfl, by kernel_rfl, by kernel_rfl⟩
theorem R50 (s : ByteArray) (hs : s.size ≤ 140737488351232) : Ret Tryz.prog 50 [.sc (.string s)] (.sc (.bool (parseT s).isSome)) [.un] := by
  have rp := R88 s hs
  obtain ⟨x, hx⟩ : ∃ x, x = parseT s := ⟨_, rfl⟩
  rw [← hx] at rp ⊢
  refine Ret.run Tryz.func50 K50 (by simp) rfl rfl 500 ?_
  simp [A50, iniρ]
  cases x with
  | none =>
    refine callK.ro 0 rfl (by kernel_rfl) (by simp [roc_sc]) rp rfl (by simp [taskA, inst, instL, shut]; exact ⟨rfl, rfl⟩) rfl ?_
    simp
  | some x =>
    refine callK.ro 0 rfl (by kernel_rfl) (by simp [roc_sc]) rp rfl (by simp [taskA, inst, instL, shut]; exact ⟨rfl, rfl⟩) rfl ?_
    simp
/- 85: loop.example/g00464/spec.ParseTask -/
def A85 : AC := (.seq (.ops [⟨(some 2), none, .q (.mov (.c (.sc (.string ⟨#[]⟩))))⟩, ⟨(some 3), none, .q (.mov (.c (.sc (.string ⟨#[]⟩))))⟩, ⟨(some 4), none, .q (.mov (.c (.sc (.bool false))))⟩])
  (.seq (.ops [⟨(some 6), none, .q (.mov (.t 0))⟩, ⟨(some 7), none, .c (.c (.clo 106 [])) [(.t 6), (.c (.sc (.int .u8 35)))]⟩, ⟨(some 5), none, .q (.mov (.t 7))⟩])
  (.seq (.seq (.ops [⟨(some 8), none, .q (.mov (.t 5))⟩, ⟨(some 9), none, .q (.llen (.t 8))⟩, ⟨(some 10), none, .q (.bin .neq (.t 9) (.c (.sc (.int .i64 2))))⟩, ⟨(some 11), none, .q (.mov (.t 10))⟩, ⟨(some 12), (some (11, false)), .q (.mov (.t 5))⟩, ⟨(some 13), (some (11, false)), .q (.iadr 1 (.t 12) (.c (.sc (.int .i64 0))))⟩, ⟨(some 14), (some (11, false)), .q (.load false 1 (.t 13))⟩, ⟨(some 15), (some (11, false)), .c (.c (.clo 107 [])) [(.t 14)]⟩, ⟨(some 16), (some (11, false)), .q (.not (.t 15))⟩, ⟨(some 17), none, .q (.pick (.t 11) (.c (.sc (.bool true))) (.t 16))⟩, ⟨(some 18), none, .q (.mov (.t 17))⟩, ⟨(some 19), (some (18, false)), .q (.mov (.t 5))⟩, ⟨(some 20), (some (18, false)), .q (.iadr 1 (.t 19) (.c (.sc (.int .i64 1))))⟩, ⟨(some 21), (some (18, false)), .q (.load false 1 (.t 20))⟩, ⟨(some 22), (some (18, false)), .c (.c (.clo 107 [])) [(.t 21)]⟩, ⟨(some 23), (some (18, false)), .q (.not (.t 22))⟩, ⟨(some 24), none, .q (.pick (.t 18) (.c (.sc (.bool true))) (.t 23))⟩])
  (.cond (.t 24) (.seq (.ops [⟨(some 2), none, .q (.mov (.c (.sc (.string ⟨#[]⟩))))⟩, ⟨(some 3), none, .q (.mov (.c (.sc (.string ⟨#[]⟩))))⟩, ⟨(some 4), none, .q (.mov (.c (.sc (.bool false))))⟩])
  .ret)
  .skip))
  (.seq (.any [(⟨(some 25), none, .q (.mov (.t 5))⟩, []), (⟨(some 26), none, .q (.iadr 1 (.t 25) (.c (.sc (.int .i64 0))))⟩, [0]), (⟨(some 27), none, .q (.load false 1 (.t 26))⟩, [1]), (⟨(some 28), none, .q (.mov (.t 5))⟩, []), (⟨(some 29), none, .q (.iadr 1 (.t 28) (.c (.sc (.int .i64 1))))⟩, [3]), (⟨(some 30), none, .q (.load false 1 (.t 29))⟩, [4]), (⟨(some 2), none, .q (.mov (.t 27))⟩, [2, 0, 1, 2]), (⟨(some 3), none, .q (.mov (.t 30))⟩, [5, 6, 0, 1, 2, 3, 4, 5, 6]), (⟨(some 4), none, .q (.mov (.c (.sc (.bool true))))⟩, [7, 0, 1, 2, 3, 4, 5, 6, 7])])
  .ret))))
theorem K85 : Tryz.f85.body.bind (comp Tryz.prog) = some A85 ∧ Tryz.f85.ntmps = 31 ∧ Tryz.f85.results.toList.mapM (resB Tryz.prog) = some [.mov (.t 2), .mov (.t 3), .mov (.t 4)] := ⟨by kernel_rfl, by kernel_rfl, by kernel_rfl⟩
set_option maxHeartbeats 1000000 in
theorem R85 (s : ByteArray) (hs : s.size ≤ 1048576) : Ret Tryz.prog 85 [.sc (.string s)] (taskA (parseT s)) [.un] := by
  have hp := parseT_split s
  have hz : ∀ x ∈ splitS s 35, x.size ≤ s.size := splitP_size s 35 _ 0 0
  obtain ⟨ps, hps⟩ : ∃ ps, ps = splitS s 35 := ⟨_, rfl⟩
  have rs := R106 s 35 hs
  rw [← hps] at hz rs hp
  have rest : ∀ (l : List ByteArray), ps = l → l.length ≠ 2 → parseT s = none := fun l h1 h2 => by
    rw [hp, h1]
    match l, h2 with
    | [], _ => rfl
    | [_], _ => rfl
    | _ :: _ :: _ :: _, _ => rfl
    | [_, _], h2 => exact absurd rfl h2
  refine Ret.run Tryz.func85 K85 (by simp) rfl rfl 500 ?_
  simp [A85, iniρ]
  refine callK.own 7 rfl (by kernel_rfl) (by simp [roc_sc]) rs (Ty.str.flo ps) (by simp) rfl ?_
  by_cases hl : ps.length = 2
  case neg =>
    have hl' : ¬ ((ps.length : Int) = 2) := by omega
    rw [rest ps rfl hl]
    simp [hl, hl', taskA]
  obtain ⟨a, b, rfl⟩ : ∃ a b, ps = [a, b] := by
    match ps, hl with
    | [a, b], _ => exact ⟨a, b, rfl⟩
  have ha := hz a (by simp)
  have hb := hz b (by simp)
  have er : rows Ty.str.oc [a, b] = [.sc (.string a), .sc (.string b)] := rfl
  simp only at hp
  rw [hp]
  simp [er]
  refine callK.ro 0 rfl (by kernel_rfl) (by simp [roc_sc, upd_app]) (R107 a (by omega)) rfl rfl rfl ?_
  cases h1 : nameOk a
  case false => simp [taskA]
  simp [er]
  refine callK.ro 0 rfl (by kernel_rfl) (by simp [roc_sc, upd_app]) (R107 b (by omega)) rfl rfl rfl ?_
  cases h2 : nameOk b
  case false => simp [taskA]
  simp
  refine T.text 400 mixed (by kernel_rfl) (by kernel_rfl) ?_
  simp [er, taskA]
def madeOk (m : Made) : Bool := (parseT m.task).isSome && (outsOk m.outs && decide (m.log.size ≤ 200))
/- 16: loop.example/g00464/impl.MadeOk -/
def A16 : AC := (.seq (.ops [⟨(some 1), none, .w (.box (.t 0))⟩, ⟨(some 2), none, .q (.mov (.c (.sc (.bool false))))⟩])
  (.seq (.ops [⟨(some 3), none, .q (.fadr 0 (.t 1))⟩, ⟨(some 4), none, .q (.load false 1 (.t 3))⟩, ⟨(some 5), none, .c (.c (.clo 50 [])) [(.t 4)]⟩, ⟨(some 6), none, .q (.mov (.t 5))⟩, ⟨(some 7), (some (6, true)), .q (.fadr 1 (.t 1))⟩, ⟨(some 8), (some (6, true)), .q (.load false 1 (.t 7))⟩, ⟨(some 9), (some (6, true)), .c (.c (.clo 51 [])) [(.t 8)]⟩, ⟨(some 10), none, .q (.pick (.t 6) (.t 9) (.c (.sc (.bool false))))⟩, ⟨(some 11), none, .q (.mov (.t 10))⟩, ⟨(some 12), (some (11, true)), .q (.fadr 2 (.t 1))⟩, ⟨(some 13), (some (11, true)), .q (.load false 1 (.t 12))⟩, ⟨(some 14), (some (11, true)), .q (.slen (.t 13))⟩, ⟨(some 15), (some (11, true)), .q (.bin .leq (.t 14) (.c (.sc (.int .i64 200))))⟩, ⟨(some 16), none, .q (.pick (.t 11) (.t 15) (.c (.sc (.bool false))))⟩, ⟨(some 2), none, .q (.mov (.t 16))⟩])
  .ret))
theorem K16 : Tryz.f16.body.bind (comp Tryz.prog) = some A16 ∧ Tryz.f16.ntmps = 17 ∧ Tryz.f16.results.toList.mapM (resB Tryz.prog) = some [.mov (.t 2)] := ⟨by kernel_rfl, by kernel_rfl, by kernel_rfl⟩
theorem R16 (m : Made) (h1 : m.task.size ≤ 1048576) (hb : m.outs.length < 4611686018427387904) (hp : ∀ x ∈ m.outs, x.path.size ≤ 1048576) : Ret Tryz.prog 16 [.agg (Made.ty.cs m)] (.sc (.bool (madeOk m))) [.un] := by
  refine Ret.run Tryz.func16 K16 (by simp) rfl rfl 500 ?_
  simp [A16, iniρ, Made.cse]
  refine callK.ro 0 rfl (by kernel_rfl) (by simp [roc_sc, upd_app]) (R50 m.task (by omega)) rfl rfl rfl ?_
  cases h1 : (parseT m.task).isSome
  case false => simp [madeOk, h1]
  simp
  refine callK.ro 0 rfl (by kernel_rfl) (by simp [roc_ro, upd_app]) (R51 m.outs hb hp) rfl rfl rfl ?_
  cases h2 : outsOk m.outs
  case false => simp [madeOk, h2]
  by_cases h3 : m.log.size ≤ 200
  · have h3' : (m.log.size : Int) ≤ 200 := by omega
    simp [madeOk, h1, h2, h3, h3']
  · have h3' : ¬ (m.log.size : Int) ≤ 200 := by omega
    simp [madeOk, h3, h3']
/- 48: loop.example/g00464/spec.MadeOk -/
def A48 : AC := (.seq (.ops [⟨(some 1), none, .w (.box (.t 0))⟩, ⟨(some 2), none, .q (.mov (.c (.sc (.bool false))))⟩])
  (.seq (.ops [⟨(some 8), none, .q (.fadr 0 (.t 1))⟩, ⟨(some 9), none, .q (.load false 1 (.t 8))⟩, ⟨(some 10), none, .c (.c (.clo 85 [])) [(.t 9)]⟩, ⟨(some 7), none, .q (.mov (.t 10))⟩, ⟨(some 11), none, .q (.ext (.t 7) 0)⟩, ⟨(some 12), none, .q (.ext (.t 7) 1)⟩, ⟨(some 13), none, .q (.ext (.t 7) 2)⟩, ⟨(some 3), none, .q (.mov (.t 11))⟩, ⟨(some 4), none, .q (.mov (.t 12))⟩, ⟨(some 5), none, .q (.mov (.t 13))⟩])
  (.seq (.seq (.ops [⟨(some 6), none, .q (.mov (.c (.sc (.int .i64 0))))⟩])
  (.block 0 (.loop (.seq (.seq (.ops [⟨(some 14), none, .q (.mov (.t 6))⟩, ⟨(some 15), none, .q (.fadr 1 (.t 1))⟩, ⟨(some 16), none, .q (.load false 1 (.t 15))⟩, ⟨(some 17), none, .q (.llen (.t 16))⟩, ⟨(some 18), none, .q (.bin .lss (.t 14) (.t 17))⟩])
  (.cond (.t 18) .skip
  (.exit 0)))
  (.seq (.block 1 (.seq (.ops [⟨(some 21), none, .q (.fadr 1 (.t 1))⟩, ⟨(some 22), none, .q (.load false 1 (.t 21))⟩, ⟨(some 23), none, .q (.mov (.t 6))⟩, ⟨(some 24), none, .q (.iadr 2 (.t 22) (.t 23))⟩, ⟨(some 25), none, .q (.fadr 0 (.t 24))⟩, ⟨(some 26), none, .q (.load false 1 (.t 25))⟩, ⟨(some 27), none, .c (.c (.clo 86 [])) [(.t 26)]⟩, ⟨(some 28), none, .q (.not (.t 27))⟩])
  (.cond (.t 28) (.seq (.ops [⟨(some 2), none, .q (.mov (.c (.sc (.bool false))))⟩])
  .ret)
  .skip)))
  (.ops [⟨(some 19), none, .q (.mov (.t 6))⟩, ⟨(some 20), none, .q (.bin .add (.t 19) (.c (.sc (.int .i64 1))))⟩, ⟨(some 6), none, .q (.mov (.t 20))⟩]))))))
  (.seq (.ops [⟨(some 29), none, .q (.mov (.t 5))⟩, ⟨(some 30), none, .q (.mov (.t 29))⟩, ⟨(some 31), (some (30, true)), .q (.fadr 1 (.t 1))⟩, ⟨(some 32), (some (30, true)), .q (.load false 1 (.t 31))⟩, ⟨(some 33), (some (30, true)), .q (.llen (.t 32))⟩, ⟨(some 34), (some (30, true)), .q (.bin .leq (.t 33) (.c (.sc (.int .i64 6))))⟩, ⟨(some 35), none, .q (.pick (.t 30) (.t 34) (.c (.sc (.bool false))))⟩, ⟨(some 36), none, .q (.mov (.t 35))⟩, ⟨(some 37), (some (36, true)), .q (.fadr 1 (.t 1))⟩, ⟨(some 38), (some (36, true)), .q (.load false 1 (.t 37))⟩, ⟨(some 39), (some (36, true)), .c (.c (.clo 87 [])) [(.t 38)]⟩, ⟨(some 40), none, .q (.pick (.t 36) (.t 39) (.c (.sc (.bool false))))⟩, ⟨(some 41), none, .q (.mov (.t 40))⟩, ⟨(some 42), (some (41, true)), .q (.fadr 2 (.t 1))⟩, ⟨(some 43), (some (41, true)), .q (.load false 1 (.t 42))⟩, ⟨(some 44), (some (41, true)), .q (.slen (.t 43))⟩, ⟨(some 45), (some (41, true)), .q (.bin .leq (.t 44) (.c (.sc (.int .i64 200))))⟩, ⟨(some 46), none, .q (.pick (.t 41) (.t 45) (.c (.sc (.bool false))))⟩, ⟨(some 2), none, .q (.mov (.t 46))⟩])
  .ret))))
theorem K48 : Tryz.f48.body.bind (comp Tryz.prog) = some A48 ∧ Tryz.f48.ntmps = 47 ∧ Tryz.f48.results.toList.mapM (resB Tryz.prog) = some [.mov (.t 2)] := ⟨by kernel_rfl, by kernel_rfl, by kernel_rfl⟩
set_option maxHeartbeats 1000000 in
theorem R48 (m : Made) (h1 : m.task.size ≤ 1048576) (hb : m.outs.length < 4611686018427387904) (hp : ∀ x ∈ m.outs, x.path.size ≤ 1048576) : Ret Tryz.prog 48 [.agg (Made.ty.cs m)] (.sc (.bool (madeOk m))) [.un] := by
  have rp := R85 m.task h1
  have hcs := Made.cse m
  obtain ⟨xs, hxs⟩ : ∃ xs, xs = m.outs := ⟨_, rfl⟩
  have hM : madeOk m = ((parseT m.task).isSome && (outsOk xs && decide (m.log.size ≤ 200))) := by rw [hxs]; rfl
  obtain ⟨t, ht⟩ : ∃ t, t = parseT m.task := ⟨_, rfl⟩
  rw [← ht] at rp hM
  rw [hM]
  rw [← hxs] at hb hp hcs
  have fin : ∀ (tk : ByteArray × ByteArray × Bool), taskA t = .tup [.sc (.string tk.1), .sc (.string tk.2.1), .sc (.bool tk.2.2)] → tk.2.2 = t.isSome → Ret Tryz.prog 48 [.agg (Made.ty.cs m)] (.sc (.bool (t.isSome && (outsOk xs && decide (m.log.size ≤ 200))))) [.un] := by
    rintro ⟨ta, tb, tc⟩ e1 e2
    simp only at e1 e2
    rw [e1] at rp
    rw [← e2]
    refine Ret.run Tryz.func48 K48 (by simp) rfl rfl 500 ?_
    simp [A48, iniρ, hcs]
    refine callK.ro 0 rfl (by kernel_rfl) (by simp [roc_sc, upd_app]) rp rfl (by simp [inst, instL, shut]; exact ⟨rfl, rfl⟩) rfl ?_
    simp
    refine T.rounds (μ := fun i : List File × List File => i.2.length)
      (fun i s => i.1 ++ i.2 = xs ∧ namesL i.2 = namesL xs ∧ s.ρ 1 = .ref 1 0 ∧ s.ρ 5 = .sc (.bool tc) ∧ s.ρ 6 = .sc (.int .i64 i.1.length) ∧ s.h 1 = some (some (Made.ty.cs m)) ∧ s.n = 47) ([], xs) (by simp [upd_app, hcs, hxs, Made.cse]) ?_
    rintro ⟨pre, rest⟩ ⟨ρ, hh, n⟩ ⟨hx, hE, k1, k5, k6, b1, rfl⟩
    simp only at hx hE k1 k5 k6 b1
    rw [hcs] at b1
    refine run_ok (n := 400) ?_
    cases rest with
    | nil =>
      have hxl : pre.length = xs.length := by rw [← hx]; simp
      have hA : namesL xs = true := by rw [← hE]; rfl
      simp [k1, k6, b1, hxl]
      refine T.on 400 ?_
      cases tc with
      | false => simp [k5]
      | true =>
        by_cases h6 : xs.length ≤ 6
        · have h6' : (xs.length : Int) ≤ 6 := by omega
          simp [k1, k5, b1, h6']
          refine callK.ro 0 rfl (by kernel_rfl) (by simp [roc_ro, upd_app]) (R87 xs hb hp) rfl rfl rfl ?_
          cases h2 : filesOk xs
          case false => simp [outsOk, h2]
          by_cases h3 : m.log.size ≤ 200
          · have h3' : (m.log.size : Int) ≤ 200 := by omega
            simp [k1, b1, outsOk, hA, h6, h2, h3, h3']
          · have h3' : ¬ (m.log.size : Int) ≤ 200 := by omega
            simp [k1, b1, h3, h3']
        · have h6' : ¬ (xs.length : Int) ≤ 6 := by omega
          simp [k1, k5, b1, h6', outsOk, h6]
    | cons x rest =>
      have hle : pre.length + (rest.length + 1) = xs.length := by rw [← hx]; simp
      have hlt : (pre.length : Int) < xs.length := by omega
      have hw : IntKind.i64.wrap ((pre.length : Int) + 1) = pre.length + 1 := wrap_i64 (by omega) (by omega)
      have hd := rows_drop File.ty.csn pre (x :: rest)
      rw [hx, rows_cons] at hd
      have hd : List.drop (pre.length * 2) (rows File.ty.cs xs) = AV.sc (.string x.path) :: AV.sc (.string x.text) :: rows File.ty.cs rest := hd
      have hxp := hp x (by rw [← hx]; simp)
      simp [k1, k6, b1, hlt, hd]
      refine callK.ro 0 rfl (by kernel_rfl) (by simp [roc_sc, upd_app]) (R86 x.path (by omega)) rfl rfl rfl ?_
      cases h1 : partOk x.path
      · have h2 : namesL xs = false := by rw [← hE, namesL, h1]; rfl
        simp [outsOk, h2]
      · simp [k6, hw]
        refine ⟨pre ++ [x], rest, by simp, _, Le.refl _, ?_⟩
        simp [hx, upd_app, k1, k5, b1, hcs, ← hE, namesL, h1]
  cases t with
  | none => exact fin (⟨#[]⟩, ⟨#[]⟩, false) rfl rfl
  | some t => exact fin (t.1, t.2, true) rfl rfl
end Go.Proofs.YtaknfalbmblagaaGreatDoor.Am
namespace Go.Proofs.YtaknfalbmblagaaGreatDoor.Am
open Go Go.Proofs
set_option linter.unusedSimpArgs false
set_option linter.unusedVariables false
attribute [local congr] T_congr callK_congr callWK_congr
attribute [local simp] run_nil run_op0 run_opg run_seq run_cond run_block run_ret run_skip run_skip_after run_skip_blk run_exit run_exit_after run_exit_blk run_loop run_any runS_nil runS_op0 runS_opg runW_nil runW_op0 runW_opg exec_q exec_w exec_c exec_n execW_q execW_w execW_c restW_app hideH_app merge_app wblk rest_app restS_app execS_q execS_c aval dOk upd_app ev_t ev_c setO_some setO_none put_mk pinsOf isIo hasIo sbin endR fin resL one outL out1 clo1 cloL coe coeL shut shut.shutL wantA weff cellsOf fillA deref natOf ρ0_app h0_app plain plain.plainL keep_app keepH_app andThen_normal andThen_ret andThen_exit pop_nil pop_after pop_after_ret pop_after_exit pop_blk pop_blk_ret pop_blk_exit nilA srcOf srcCells keepR_app keepHR_app renA rb
def figL : List UInt8 → Bool
  | [] => true
  | c :: l => figI (c.toNat : Int) && figL l
def digS (a : Nat) (c : UInt8) : Nat := a * 10 + (c.toNat - 48)
theorem digS_eq (a : Nat) (c : UInt8) : digS a c = a * 10 + (c.toNat - 48) := rfl
def digF (a : Nat) (l : List UInt8) : Nat := l.foldl digS a
theorem digF_nil (a : Nat) : digF a [] = a := rfl
theorem digF_cons (a : Nat) (c : UInt8) (l : List UInt8) : digF a (c :: l) = digF (a * 10 + (c.toNat - 48)) l := by unfold digF; rw [List.foldl_cons, digS_eq]
def parseN (s : ByteArray) (most : Int) : Option Nat :=
  if (1 ≤ s.size ∧ s.size ≤ 7) ∧ figL s.data.toList = true ∧ ¬ (2 ≤ s.size ∧ s.data.toList.head? = some 48) ∧ (digF 0 s.data.toList : Int) ≤ most then some (digF 0 s.data.toList) else none
def numA : Option Nat → AV
  | some n => .tup [.sc (.int .i64 n), .sc (.bool true)]
  | none => .tup [.sc (.int .i64 0), .sc (.bool false)]
theorem figL_app : ∀ a b : List UInt8, figL (a ++ b) = (figL a && figL b)
  | [], b => rfl
  | x :: a, b => by rw [List.cons_append, figL, figL, figL_app a b, Bool.and_assoc]
theorem digF_app (a b : List UInt8) (n : Nat) : digF n (a ++ b) = digF (digF n a) b := by unfold digF; rw [List.foldl_append]
theorem fig_rng {c : UInt8} (h : figI (c.toNat : Int) = true) : 48 ≤ c.toNat ∧ c.toNat ≤ 57 := by
  simp only [figI, Bool.and_eq_true, decide_eq_true_eq] at h
  omega
theorem digF_lt : ∀ (l : List UInt8) (a : Nat), figL l = true → digF a l < (a + 1) * 10 ^ l.length
  | [], a, _ => by rw [digF_nil]; simp
  | c :: l, a, h => by
    rw [figL, Bool.and_eq_true] at h
    have hc := fig_rng h.1
    have ih := digF_lt l (a * 10 + (c.toNat - 48)) h.2
    rw [digF_cons, List.length_cons, Nat.pow_succ]
    refine Nat.lt_of_lt_of_le ih ?_
    rw [Nat.mul_comm (10 ^ l.length) 10, ← Nat.mul_assoc]
    exact Nat.mul_le_mul_right _ (by omega)
theorem digF_ge : ∀ (l : List UInt8) (a : Nat), a ≤ digF a l
  | [], a => Nat.le_refl _
  | c :: l, a => by
    rw [digF_cons]
    exact Nat.le_trans (by omega) (digF_ge l _)
theorem dec_small {n : Nat} (h : n < 10) : Lib.decDigits n = [UInt8.ofNat (48 + n)] := by rw [Lib.decDigits, dif_pos h]
theorem dec_big {n : Nat} (h : 10 ≤ n) : Lib.decDigits n = Lib.decDigits (n / 10) ++ [UInt8.ofNat (48 + n % 10)] := by rw [Lib.decDigits, dif_neg (by omega)]
theorem u8_back {c : UInt8} (h : 48 ≤ c.toNat) : UInt8.ofNat (48 + (c.toNat - 48)) = c := by
  have e : 48 + (c.toNat - 48) = c.toNat := by omega
  rw [e, UInt8.ofNat_toNat]
theorem dec_of : ∀ (k : Nat) (l : List UInt8), l.length = k + 1 → figL l = true → ¬ (2 ≤ l.length ∧ l.head? = some 48) → Lib.decDigits (digF 0 l) = l
  | 0, l, hk, hf, _ => by
    match l, hk with
    | [c], _ =>
      have hc := fig_rng (by simpa [figL] using hf : figI (c.toNat : Int) = true)
      rw [show digF 0 [c] = c.toNat - 48 by rw [digF_cons, digF_nil]; omega, dec_small (by omega), u8_back hc.1]
  | k + 1, l, hk, hf, hh => by
    obtain ⟨p, c, rfl⟩ : ∃ p c, l = p ++ [c] := ⟨l.dropLast, l.getLast (by intro h; rw [h] at hk; simp at hk), (List.dropLast_concat_getLast _).symm⟩
    rw [figL_app, Bool.and_eq_true] at hf
    have hc := fig_rng (by simpa [figL] using hf.2 : figI (c.toNat : Int) = true)
    have hpl : p.length = k + 1 := by simpa using hk
    obtain ⟨x, p2, rfl⟩ : ∃ x p2, p = x :: p2 := by
      cases p with
      | nil => simp at hpl
      | cons x p2 => exact ⟨x, p2, rfl⟩
    have hx : x ≠ 48 := fun e => hh ⟨by simp, by simp [e]⟩
    have ih := dec_of k (x :: p2) hpl hf.1 (fun h => hx (by simpa using h.2))
    have hxr := fig_rng (by have := hf.1; rw [figL, Bool.and_eq_true] at this; exact this.1 : figI (x.toNat : Int) = true)
    have hx2 : x.toNat ≠ 48 := fun e => hx (UInt8.toNat_inj.1 (by simpa using e))
    have hpos : 1 ≤ digF 0 (x :: p2) := by
      rw [digF_cons]
      exact Nat.le_trans (by omega) (digF_ge p2 _)
    have e : digF 0 (x :: p2 ++ [c]) = digF 0 (x :: p2) * 10 + (c.toNat - 48) := by rw [digF_app, digF_cons, digF_nil]
    rw [e, dec_big (by omega), show (digF 0 (x :: p2) * 10 + (c.toNat - 48)) / 10 = digF 0 (x :: p2) by omega, show (digF 0 (x :: p2) * 10 + (c.toNat - 48)) % 10 = c.toNat - 48 by omega, ih, u8_back hc.1]
theorem dec_head : ∀ (k n : Nat), n ≤ k → (Lib.decDigits n).head? = some 48 → n = 0
  | k, n, hk, h => by
    by_cases h9 : n < 10
    · rw [dec_small h9] at h
      simp only [List.head?_cons, Option.some.injEq] at h
      have := congrArg UInt8.toNat h
      rw [UInt8.toNat_ofNat'] at this
      have e : (48 : UInt8).toNat = 48 := rfl
      omega
    · rw [dec_big (by omega)] at h
      have hne : Lib.decDigits (n / 10) ≠ [] := by
        by_cases h9 : n / 10 < 10
        · rw [dec_small h9]; simp
        · rw [dec_big (by omega)]; simp
      cases hd : Lib.decDigits (n / 10) with
      | nil => exact absurd hd hne
      | cons x t =>
        rw [hd] at h
        have : n / 10 = 0 := by
          match k, hk with
          | 0, hk => omega
          | k + 1, hk => exact dec_head k (n / 10) (by omega) (by rw [hd]; simpa using h)
        omega
theorem numT_list (n : Nat) : (numT n).data.toList = Lib.decDigits n := by
  rw [← numT_dec, Lib.itoa, if_neg (by omega)]
  simp
/-- the canonical text of a number -/
theorem num_canon {s : ByteArray} (h1 : 1 ≤ s.size) (hf : figL s.data.toList = true) : (numT (digF 0 s.data.toList)).toList = s.toList ↔ ¬ (2 ≤ s.size ∧ s.data.toList.head? = some 48) := by
  have hsz : s.size = s.data.toList.length := str_len rfl
  rw [Lib.toList_data, Lib.toList_data, numT_list]
  constructor
  · rintro h ⟨h2, h3⟩
    have h0 := dec_head (digF 0 s.data.toList) _ (Nat.le_refl _) (by rw [h]; exact h3)
    rw [h0] at h
    have : s.data.toList.length = 1 := by rw [← h, dec_small (by omega)]; rfl
    omega
  · intro h
    exact dec_of (s.size - 1) _ (by omega) hf (by rw [← hsz]; exact h)
theorem wrapC {c : UInt8} (h : figI (c.toNat : Int) = true) : IntKind.u8.wrap ((c.toNat : Int) - 48) = ((c.toNat - 48 : Nat) : Int) := by
  have := fig_rng h
  simp [IntKind.wrap, IntKind.bits, IntKind.signed]
  omega
/- 81: loop.example/g00464/impl.ParseNum -/
def A81 : AC := (.seq (.ops [⟨(some 4), none, .q (.mov (.c (.sc (.int .i64 0))))⟩, ⟨(some 5), none, .q (.mov (.c (.sc (.bool false))))⟩])
  (.seq (.seq (.ops [⟨(some 8), none, .q (.mov (.t 0))⟩, ⟨(some 9), none, .q (.slen (.t 8))⟩, ⟨(some 10), none, .c (.c (.clo 62 [])) [(.t 9), (.c (.sc (.int .i64 1))), (.c (.sc (.int .i64 7)))]⟩, ⟨(some 11), none, .q (.not (.t 10))⟩])
  (.cond (.t 11) (.seq (.ops [⟨(some 4), none, .q (.mov (.c (.sc (.int .i64 0))))⟩, ⟨(some 5), none, .q (.mov (.c (.sc (.bool false))))⟩])
  .ret)
  .skip))
  (.seq (.ops [⟨(some 6), none, .q (.mov (.c (.sc (.int .i64 0))))⟩])
  (.seq (.seq (.ops [⟨(some 7), none, .q (.mov (.c (.sc (.int .i64 0))))⟩])
  (.block 0 (.loop (.seq (.seq (.ops [⟨(some 12), none, .q (.mov (.t 7))⟩, ⟨(some 13), none, .q (.mov (.t 0))⟩, ⟨(some 14), none, .q (.slen (.t 13))⟩, ⟨(some 15), none, .q (.bin .lss (.t 12) (.t 14))⟩])
  (.cond (.t 15) .skip
  (.exit 0)))
  (.seq (.block 1 (.seq (.seq (.ops [⟨(some 18), none, .q (.mov (.t 0))⟩, ⟨(some 19), none, .q (.mov (.t 7))⟩, ⟨(some 20), none, .q (.idx (.t 18) (.t 19))⟩, ⟨(some 21), none, .c (.c (.clo 102 [])) [(.t 20)]⟩, ⟨(some 22), none, .q (.not (.t 21))⟩])
  (.cond (.t 22) (.seq (.ops [⟨(some 4), none, .q (.mov (.c (.sc (.int .i64 0))))⟩, ⟨(some 5), none, .q (.mov (.c (.sc (.bool false))))⟩])
  .ret)
  .skip))
  (.ops [⟨(some 23), none, .q (.mov (.t 6))⟩, ⟨(some 24), none, .q (.bin .mul (.t 23) (.c (.sc (.int .i64 10))))⟩, ⟨(some 25), none, .q (.mov (.t 0))⟩, ⟨(some 26), none, .q (.mov (.t 7))⟩, ⟨(some 27), none, .q (.idx (.t 25) (.t 26))⟩, ⟨(some 28), none, .q (.bin .sub (.t 27) (.c (.sc (.int .u8 48))))⟩, ⟨(some 29), none, .q (.cvi .i64 (.t 28))⟩, ⟨(some 30), none, .q (.bin .add (.t 24) (.t 29))⟩, ⟨(some 6), none, .q (.mov (.t 30))⟩])))
  (.ops [⟨(some 16), none, .q (.mov (.t 7))⟩, ⟨(some 17), none, .q (.bin .add (.t 16) (.c (.sc (.int .i64 1))))⟩, ⟨(some 7), none, .q (.mov (.t 17))⟩]))))))
  (.seq (.seq (.ops [⟨(some 31), none, .q (.mov (.t 6))⟩, ⟨(some 32), none, .c (.c (.clo 103 [])) [(.t 31)]⟩, ⟨(some 33), none, .q (.mov (.t 0))⟩, ⟨(some 34), none, .q (.bin .neq (.t 32) (.t 33))⟩, ⟨(some 35), none, .q (.mov (.t 34))⟩, ⟨(some 36), (some (35, false)), .q (.mov (.t 6))⟩, ⟨(some 37), (some (35, false)), .q (.mov (.t 1))⟩, ⟨(some 38), (some (35, false)), .q (.bin .gtr (.t 36) (.t 37))⟩, ⟨(some 39), none, .q (.pick (.t 35) (.c (.sc (.bool true))) (.t 38))⟩])
  (.cond (.t 39) (.seq (.ops [⟨(some 4), none, .q (.mov (.c (.sc (.int .i64 0))))⟩, ⟨(some 5), none, .q (.mov (.c (.sc (.bool false))))⟩])
  .ret)
  .skip))
  (.seq (.ops [⟨(some 40), none, .q (.mov (.t 6))⟩, ⟨(some 4), none, .q (.mov (.t 40))⟩, ⟨(some 5), none, .q (.mov (.c (.sc (.bool true))))⟩])
  .ret))))))
theorem K81 : Tryz.f81.body.bind (comp Tryz.prog) = some A81 ∧ Tryz.f81.ntmps = 41 ∧ Tryz.f81.results.toList.mapM (resB Tryz.prog) = some [.mov (.t 4), .mov (.t 5)] := ⟨by kernel_rfl, by kernel_rfl, by kernel_rfl⟩
set_option maxHeartbeats 1000000 in
theorem R81 (s : ByteArray) (most : Int) (hm : Ty.int.ok most) : Ret Tryz.prog 81 [.sc (.string s), .sc (.int .i64 most)] (numA (parseN s most)) [.un, .un] := by
  by_cases h7 : 1 ≤ s.size ∧ s.size ≤ 7
  case neg =>
    have e : inR s.size 1 7 = false := by
      have : inR s.size 1 7 = (decide ((1 : Int) ≤ s.size) && decide ((s.size : Int) ≤ 7)) := rfl
      rw [this]
      rcases Classical.em (1 ≤ s.size) with h | h
      · have : ¬ s.size ≤ 7 := fun h2 => h7 ⟨h, h2⟩
        have e1 : ¬ ((s.size : Int) ≤ 7) := by omega
        simp [e1]
      · have e1 : ¬ ((1 : Int) ≤ s.size) := by omega
        simp [e1]
    have en : parseN s most = none := if_neg fun h => h7 h.1
    refine Ret.run Tryz.func81 K81 (by simp) rfl rfl 500 ?_
    simp [A81, iniρ]
    refine callK.ro 0 rfl (by kernel_rfl) (by simp [roc_sc]) (R62 s.size 1 7) rfl rfl rfl ?_
    simp [e, en, numA]
  have e : inR s.size 1 7 = true := by
    have e1 : (1 : Int) ≤ s.size := by omega
    have e2 : (s.size : Int) ≤ 7 := by omega
    simp [inR, e1, e2]
  refine Ret.run Tryz.func81 K81 (by simp) rfl rfl 500 ?_
  simp [A81, iniρ]
  refine callK.ro 0 rfl (by kernel_rfl) (by simp [roc_sc]) (R62 s.size 1 7) rfl rfl rfl ?_
  simp [e]
  refine T.rounds (μ := fun i : List UInt8 × List UInt8 => i.2.length)
    (fun i t => i.1 ++ i.2 = s.data.toList ∧ figL i.1 = true ∧ t.ρ 0 = .sc (.string s) ∧ t.ρ 1 = .sc (.int .i64 most) ∧ t.ρ 6 = .sc (.int .i64 (digF 0 i.1)) ∧ t.ρ 7 = .sc (.int .i64 i.1.length) ∧ t.n = 41) ([], s.data.toList) (by simp [upd_app, figL, digF_nil]) ?_
  rintro ⟨pre, rest⟩ ⟨ρ, hh, n⟩ ⟨hx, hE, k0, k1, k6, k7, rfl⟩
  simp only at hx hE k0 k1 k6 k7
  have hsz := str_len hx
  have hv := digF_lt pre 0 hE
  have hpl : pre.length ≤ 7 := by have : s.size = pre.length + rest.length := by rw [hsz]; simp
                                  omega
  have hv2 : digF 0 pre < 10000000 := by
    refine Nat.lt_of_lt_of_le hv ?_
    rw [Nat.zero_add, Nat.one_mul]
    exact Nat.pow_le_pow_right (by omega) hpl
  refine run_ok (n := 400) ?_
  cases rest with
  | nil =>
    simp at hsz hx
    have hn := R103 (digF 0 pre) (by omega)
    have hpN : parseN s most = if ¬ (2 ≤ s.size ∧ s.data.toList.head? = some 48) ∧ (digF 0 pre : Int) ≤ most then some (digF 0 pre) else none := by
      unfold parseN
      rw [← hx]
      by_cases c : ¬ (2 ≤ s.size ∧ pre.head? = some 48) ∧ (digF 0 pre : Int) ≤ most
      · rw [if_pos c, if_pos ⟨h7, hE, c.1, c.2⟩]
      · rw [if_neg c, if_neg (fun h => c ⟨h.2.2.1, h.2.2.2⟩)]
    have hcan := num_canon (s := s) h7.1 (by rw [← hx]; exact hE)
    rw [← hx] at hcan hpN
    obtain ⟨v, hv3⟩ : ∃ v, v = digF 0 pre := ⟨_, rfl⟩
    rw [← hv3] at hn hpN hcan k6
    simp [k0, k7, hsz]
    refine T.on 400 ?_
    simp [k0, k1, k6]
    refine callK.ro 0 rfl (by kernel_rfl) (by simp [roc_sc]) hn rfl rfl rfl ?_
    by_cases c : ¬ (2 ≤ s.size ∧ pre.head? = some 48)
    case neg =>
      have c2 : ¬ ((numT v).toList = s.toList) := fun h => c (hcan.1 h)
      rw [hpN, if_neg (fun h => c h.1)]
      simp [k0, c2, numA]
    have c2 : (numT v).toList = s.toList := hcan.2 c
    by_cases d : (v : Int) ≤ most
    · have d2 : ¬ (most < v) := by omega
      rw [hpN, if_pos ⟨c, d⟩]
      simp [k0, k1, k6, c2, d2, numA]
    · have d2 : most < v := by omega
      rw [hpN, if_neg (fun h => d h.2)]
      simp [k0, k1, k6, c2, d2, numA]
  | cons c rest =>
    have hg := str_get hx
    simp at hsz
    have hlt : (pre.length : Int) < s.size := by omega
    have hw : IntKind.i64.wrap ((pre.length : Int) + 1) = pre.length + 1 := wrap_i64 (by omega) (by omega)
    simp [k0, k7, hlt, hg]
    refine callK.ro 0 rfl (by kernel_rfl) (by simp [roc_sc]) (R102 c) rfl rfl rfl ?_
    cases h1 : figI (c.toNat : Int)
    · have : parseN s most = none := by
        unfold parseN
        rw [if_neg fun h => ?_]
        have := h.2.1
        rw [← hx, figL_app, figL, h1] at this
        simp at this
      simp [this, numA]
    · have hc := fig_rng h1
      have wc := wrapC h1
      have w10 : IntKind.i64.wrap ((digF 0 pre : Int) * 10) = digF 0 pre * 10 := wrap_i64 (by omega) (by omega)
      have wd : IntKind.i64.wrap ((c.toNat - 48 : Nat) : Int) = (c.toNat - 48 : Nat) := wrap_i64 (by omega) (by omega)
      have wa : IntKind.i64.wrap ((digF 0 pre : Int) * 10 + (c.toNat - 48 : Nat)) = digF 0 pre * 10 + (c.toNat - 48 : Nat) := wrap_i64 (by omega) (by omega)
      have hdf : (digF 0 (pre ++ [c]) : Int) = digF 0 pre * 10 + (c.toNat - 48 : Nat) := by rw [digF_app, digF_cons, digF_nil]; omega
      simp [k0, k6, k7, hw, hg, hlt, wc, w10, wd, wa]
      refine ⟨pre ++ [c], rest, by simp, _, Le.refl _, ?_⟩
      simp [hx, k0, k1, upd_app, figL_app, figL, hE, h1, hdf]
/- 84: loop.example/g00464/spec.ParseNum -/
end Go.Proofs.YtaknfalbmblagaaGreatDoor.Am
