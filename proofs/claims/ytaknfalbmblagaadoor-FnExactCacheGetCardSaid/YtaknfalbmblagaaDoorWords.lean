/- The functions of the program, each by its contract: Words; no condition. -/
import Derived.Test.YtaknfalbmblagaaDoorProg
import Derived.Test.YtaknfalbmblagaaDoorAmZ
import Derived.Test.YtaknfalbmblagaaDoorAmP
import Derived.KernelRfl
namespace Go.Proofs.YtaknfalbmblagaaDoor.Am
open Go Go.Proofs
set_option linter.unusedSimpArgs false
set_option linter.unusedVariables false
attribute [local congr] T_congr callK_congr callWK_congr
attribute [local simp] run_nil run_op0 run_opg run_seq run_cond run_block run_ret run_skip run_skip_after run_skip_blk run_exit run_exit_after run_exit_blk run_loop run_any runS_nil runS_op0 runS_opg runW_nil runW_op0 runW_opg exec_q exec_w exec_c exec_n execW_q execW_w execW_c restW_app hideH_app merge_app wblk rest_app restS_app execS_q execS_c aval dOk upd_app ev_t ev_c setO_some setO_none put_mk pinsOf isIo hasIo sbin endR fin resL one outL out1 clo1 cloL coe coeL shut shut.shutL wantA weff cellsOf fillA deref natOf ρ0_app h0_app plain plain.plainL keep_app keepH_app andThen_normal andThen_ret andThen_exit pop_nil pop_after pop_after_ret pop_after_exit pop_blk pop_blk_ret pop_blk_exit nilA srcOf srcCells keepR_app keepHR_app renA rb
def inR (x a b : Int) : Bool := decide (a ≤ x) && decide (x ≤ b)
def smallI (n : Int) : Bool := decide (97 ≤ n) && decide (n ≤ 122)
def figI (n : Int) : Bool := decide (48 ≤ n) && decide (n ≤ 57)
def nameC (i : Nat) (c : UInt8) : Bool := smallI (c.toNat : Int) || (decide (i ≠ 0) && (figI (c.toNat : Int) || decide ((c.toNat : Int) = 45)))
def nameL : List UInt8 → Nat → Bool
  | [], _ => true
  | c :: l, i => nameC i c && nameL l (i + 1)
def nameOk (s : ByteArray) : Bool := nameL s.data.toList 0 && inR s.size 1 10
theorem str_get {s : ByteArray} {pre rest : List UInt8} {c : UInt8} (h : pre ++ c :: rest = s.data.toList) : s[pre.length]? = some c := by
  have h2 : s.data.toList[pre.length]? = some c := by rw [← h]; simp
  have hlt : pre.length < s.size := by
    have := (List.getElem?_eq_some_iff.1 h2).1
    simpa using this
  have h3 : s.data[pre.length]? = some c := by rw [← Array.getElem?_toList]; exact h2
  rw [Array.getElem?_eq_some_iff] at h3
  obtain ⟨h4, h5⟩ := h3
  have : s[pre.length]? = some s[pre.length] := getElem?_pos s pre.length hlt
  rw [this]
  congr 1
theorem str_len {s : ByteArray} {l : List UInt8} (h : l = s.data.toList) : s.size = l.length := by subst h; exact Array.length_toList.symm
theorem bl_tot (a b : List UInt8) : (Op.bytesLess a b || a == b) = !(Op.bytesLess b a) := by
  induction a generalizing b with
  | nil => cases b <;> simp [Op.bytesLess]
  | cons x a ih =>
    cases b with
    | nil => simp [Op.bytesLess]
    | cons y b =>
      simp only [Op.bytesLess]
      by_cases h1 : x < y
      · have h2 : ¬ y < x := fun h => by have := UInt8.lt_iff_toNat_lt.1 h; have := UInt8.lt_iff_toNat_lt.1 h1; omega
        have h3 : ¬ y = x := fun h => by subst h; exact h2 h1
        simp [h1, h2, h3]
      · by_cases h2 : y < x
        · have h3 : ¬ x = y := fun h => by subst h; exact h1 h2
          simp [h1, h2, h3]
        · have h3 : x = y := by
            apply UInt8.toNat_inj.1
            have := mt UInt8.lt_iff_toNat_lt.2 h1; have := mt UInt8.lt_iff_toNat_lt.2 h2; omega
          subst h3
          simp [h1, ih]
/- 47: loop.example/g00464/spec.l1In -/
def A47 : AC := (.seq (.ops [⟨(some 6), none, .q (.mov (.c (.sc (.bool false))))⟩])
  (.seq (.ops [⟨(some 7), none, .q (.mov (.t 0))⟩, ⟨(some 8), none, .q (.mov (.t 1))⟩, ⟨(some 9), none, .q (.bin .geq (.t 7) (.t 8))⟩, ⟨(some 10), none, .q (.mov (.t 9))⟩, ⟨(some 11), (some (10, true)), .q (.mov (.t 0))⟩, ⟨(some 12), (some (10, true)), .q (.mov (.t 2))⟩, ⟨(some 13), (some (10, true)), .q (.bin .leq (.t 11) (.t 12))⟩, ⟨(some 14), none, .q (.pick (.t 10) (.t 13) (.c (.sc (.bool false))))⟩, ⟨(some 6), none, .q (.mov (.t 14))⟩])
  .ret))
theorem K47 : Tryd.f47.body.bind (comp Tryd.prog) = some A47 ∧ Tryd.f47.ntmps = 15 ∧ Tryd.f47.results.toList.mapM (resB Tryd.prog) = some [.mov (.t 6)] := ⟨by kernel_rfl, by kernel_rfl, by kernel_rfl⟩
theorem R47 (x a b : Int) : Ret Tryd.prog 47 [.sc (.int .i64 x), .sc (.int .i64 a), .sc (.int .i64 b)] (.sc (.bool (inR x a b))) [.un, .un, .un] := by
  refine Ret.run Tryd.func47 K47 (by simp) rfl rfl 500 ?_
  by_cases h : a ≤ x <;> simp [A47, iniρ, inR, h]
/- 53: loop.example/g00464/impl.inRange -/
def A53 : AC := (.seq (.ops [⟨(some 6), none, .q (.mov (.c (.sc (.bool false))))⟩])
  (.seq (.ops [⟨(some 7), none, .q (.mov (.t 0))⟩, ⟨(some 8), none, .q (.mov (.t 1))⟩, ⟨(some 9), none, .q (.bin .geq (.t 7) (.t 8))⟩, ⟨(some 10), none, .q (.mov (.t 9))⟩, ⟨(some 11), (some (10, true)), .q (.mov (.t 0))⟩, ⟨(some 12), (some (10, true)), .q (.mov (.t 2))⟩, ⟨(some 13), (some (10, true)), .q (.bin .leq (.t 11) (.t 12))⟩, ⟨(some 14), none, .q (.pick (.t 10) (.t 13) (.c (.sc (.bool false))))⟩, ⟨(some 6), none, .q (.mov (.t 14))⟩])
  .ret))
theorem K53 : Tryd.f53.body.bind (comp Tryd.prog) = some A53 ∧ Tryd.f53.ntmps = 15 ∧ Tryd.f53.results.toList.mapM (resB Tryd.prog) = some [.mov (.t 6)] := ⟨by kernel_rfl, by kernel_rfl, by kernel_rfl⟩
theorem R53 (x a b : Int) : Ret Tryd.prog 53 [.sc (.int .i64 x), .sc (.int .i64 a), .sc (.int .i64 b)] (.sc (.bool (inR x a b))) [.un, .un, .un] := by
  refine Ret.run Tryd.func53 K53 (by simp) rfl rfl 500 ?_
  by_cases h : a ≤ x <;> simp [A53, iniρ, inR, h]
/- 69: loop.example/g00464/impl.isSmall -/
def A69 : AC := (.seq (.ops [⟨(some 2), none, .q (.mov (.c (.sc (.bool false))))⟩])
  (.seq (.ops [⟨(some 3), none, .q (.mov (.t 0))⟩, ⟨(some 4), none, .q (.bin .geq (.t 3) (.c (.sc (.int .u8 97))))⟩, ⟨(some 5), none, .q (.mov (.t 4))⟩, ⟨(some 6), (some (5, true)), .q (.mov (.t 0))⟩, ⟨(some 7), (some (5, true)), .q (.bin .leq (.t 6) (.c (.sc (.int .u8 122))))⟩, ⟨(some 8), none, .q (.pick (.t 5) (.t 7) (.c (.sc (.bool false))))⟩, ⟨(some 2), none, .q (.mov (.t 8))⟩])
  .ret))
theorem K69 : Tryd.f69.body.bind (comp Tryd.prog) = some A69 ∧ Tryd.f69.ntmps = 9 ∧ Tryd.f69.results.toList.mapM (resB Tryd.prog) = some [.mov (.t 2)] := ⟨by kernel_rfl, by kernel_rfl, by kernel_rfl⟩
theorem R69 (c : UInt8) : Ret Tryd.prog 69 [.sc (.int .u8 c.toNat)] (.sc (.bool (smallI c.toNat))) [.un] := by
  refine Ret.run Tryd.func69 K69 (by simp) rfl rfl 500 ?_
  by_cases h : (97 : Int) ≤ c.toNat <;> simp [A69, iniρ, smallI, h]
/- 54: loop.example/g00464/impl.isFigure -/
def A54 : AC := (.seq (.ops [⟨(some 2), none, .q (.mov (.c (.sc (.bool false))))⟩])
  (.seq (.ops [⟨(some 3), none, .q (.mov (.t 0))⟩, ⟨(some 4), none, .q (.bin .geq (.t 3) (.c (.sc (.int .u8 48))))⟩, ⟨(some 5), none, .q (.mov (.t 4))⟩, ⟨(some 6), (some (5, true)), .q (.mov (.t 0))⟩, ⟨(some 7), (some (5, true)), .q (.bin .leq (.t 6) (.c (.sc (.int .u8 57))))⟩, ⟨(some 8), none, .q (.pick (.t 5) (.t 7) (.c (.sc (.bool false))))⟩, ⟨(some 2), none, .q (.mov (.t 8))⟩])
  .ret))
theorem K54 : Tryd.f54.body.bind (comp Tryd.prog) = some A54 ∧ Tryd.f54.ntmps = 9 ∧ Tryd.f54.results.toList.mapM (resB Tryd.prog) = some [.mov (.t 2)] := ⟨by kernel_rfl, by kernel_rfl, by kernel_rfl⟩
theorem R54 (c : UInt8) : Ret Tryd.prog 54 [.sc (.int .u8 c.toNat)] (.sc (.bool (figI c.toNat))) [.un] := by
  refine Ret.run Tryd.func54 K54 (by simp) rfl rfl 500 ?_
  by_cases h : (48 : Int) ≤ c.toNat <;> simp [A54, iniρ, figI, h]
/- 61: loop.example/g00464/spec.l1Small -/
def A61 : AC := (.seq (.ops [⟨(some 2), none, .q (.mov (.c (.sc (.bool false))))⟩])
  (.seq (.ops [⟨(some 3), none, .q (.mov (.t 0))⟩, ⟨(some 4), none, .q (.cvi .i64 (.t 3))⟩, ⟨(some 5), none, .c (.c (.clo 47 [])) [(.t 4), (.c (.sc (.int .i64 97))), (.c (.sc (.int .i64 122)))]⟩, ⟨(some 2), none, .q (.mov (.t 5))⟩])
  .ret))
theorem K61 : Tryd.f61.body.bind (comp Tryd.prog) = some A61 ∧ Tryd.f61.ntmps = 6 ∧ Tryd.f61.results.toList.mapM (resB Tryd.prog) = some [.mov (.t 2)] := ⟨by kernel_rfl, by kernel_rfl, by kernel_rfl⟩
theorem R61 (c : UInt8) : Ret Tryd.prog 61 [.sc (.int .u8 c.toNat)] (.sc (.bool (smallI c.toNat))) [.un] := by
  have hw : IntKind.i64.wrap (c.toNat : Int) = c.toNat := wrap_i64 (by omega) (by have := c.toNat_lt; omega)
  refine Ret.run Tryd.func61 K61 (by simp) rfl rfl 500 ?_
  simp [A61, iniρ, hw]
  refine callK.ro 0 rfl (by kernel_rfl) (by simp [roc_sc]) (R47 c.toNat 97 122) rfl rfl rfl ?_
  simp [inR, smallI]
/- 46: loop.example/g00464/spec.l1Digit -/
def A46 : AC := (.seq (.ops [⟨(some 2), none, .q (.mov (.c (.sc (.bool false))))⟩])
  (.seq (.ops [⟨(some 3), none, .q (.mov (.t 0))⟩, ⟨(some 4), none, .q (.cvi .i64 (.t 3))⟩, ⟨(some 5), none, .c (.c (.clo 47 [])) [(.t 4), (.c (.sc (.int .i64 48))), (.c (.sc (.int .i64 57)))]⟩, ⟨(some 2), none, .q (.mov (.t 5))⟩])
  .ret))
theorem K46 : Tryd.f46.body.bind (comp Tryd.prog) = some A46 ∧ Tryd.f46.ntmps = 6 ∧ Tryd.f46.results.toList.mapM (resB Tryd.prog) = some [.mov (.t 2)] := ⟨by kernel_rfl, by kernel_rfl, by kernel_rfl⟩
theorem R46 (c : UInt8) : Ret Tryd.prog 46 [.sc (.int .u8 c.toNat)] (.sc (.bool (figI c.toNat))) [.un] := by
  have hw : IntKind.i64.wrap (c.toNat : Int) = c.toNat := wrap_i64 (by omega) (by have := c.toNat_lt; omega)
  refine Ret.run Tryd.func46 K46 (by simp) rfl rfl 500 ?_
  simp [A46, iniρ, hw]
  refine callK.ro 0 rfl (by kernel_rfl) (by simp [roc_sc]) (R47 c.toNat 48 57) rfl rfl rfl ?_
  simp [inR, figI]
/- 49: loop.example/g00464/spec.NameOk -/
def A49 : AC := (.seq (.ops [⟨(some 2), none, .q (.mov (.c (.sc (.bool false))))⟩])
  (.seq (.seq (.ops [⟨(some 3), none, .q (.mov (.c (.sc (.int .i64 0))))⟩])
  (.block 0 (.loop (.seq (.seq (.ops [⟨(some 4), none, .q (.mov (.t 3))⟩, ⟨(some 5), none, .q (.mov (.t 0))⟩, ⟨(some 6), none, .q (.slen (.t 5))⟩, ⟨(some 7), none, .q (.bin .lss (.t 4) (.t 6))⟩])
  (.cond (.t 7) .skip
  (.exit 0)))
  (.seq (.block 1 (.seq (.ops [⟨(some 10), none, .q (.mov (.t 0))⟩, ⟨(some 11), none, .q (.mov (.t 3))⟩, ⟨(some 12), none, .q (.idx (.t 10) (.t 11))⟩, ⟨(some 13), none, .c (.c (.clo 61 [])) [(.t 12)]⟩, ⟨(some 14), none, .q (.not (.t 13))⟩, ⟨(some 15), none, .q (.mov (.t 14))⟩, ⟨(some 16), (some (15, true)), .q (.mov (.t 3))⟩, ⟨(some 17), (some (15, true)), .q (.bin .eql (.t 16) (.c (.sc (.int .i64 0))))⟩, ⟨(some 18), (some (15, true)), .q (.mov (.t 17))⟩, ⟨(some 19), (some (18, false)), .q (.mov (.t 0))⟩, ⟨(some 20), (some (18, false)), .q (.mov (.t 3))⟩, ⟨(some 21), (some (18, false)), .q (.idx (.t 19) (.t 20))⟩, ⟨(some 22), (some (18, false)), .c (.c (.clo 46 [])) [(.t 21)]⟩, ⟨(some 23), (some (18, false)), .q (.not (.t 22))⟩, ⟨(some 24), (some (18, false)), .q (.mov (.t 23))⟩, ⟨(some 25), (some (24, true)), .q (.mov (.t 0))⟩, ⟨(some 26), (some (24, true)), .q (.mov (.t 3))⟩, ⟨(some 27), (some (24, true)), .q (.idx (.t 25) (.t 26))⟩, ⟨(some 28), (some (24, true)), .q (.bin .neq (.t 27) (.c (.sc (.int .u8 45))))⟩, ⟨(some 29), (some (18, false)), .q (.pick (.t 24) (.t 28) (.c (.sc (.bool false))))⟩, ⟨(some 30), (some (15, true)), .q (.pick (.t 18) (.c (.sc (.bool true))) (.t 29))⟩, ⟨(some 31), none, .q (.pick (.t 15) (.t 30) (.c (.sc (.bool false))))⟩])
  (.cond (.t 31) (.seq (.ops [⟨(some 2), none, .q (.mov (.c (.sc (.bool false))))⟩])
  .ret)
  .skip)))
  (.ops [⟨(some 8), none, .q (.mov (.t 3))⟩, ⟨(some 9), none, .q (.bin .add (.t 8) (.c (.sc (.int .i64 1))))⟩, ⟨(some 3), none, .q (.mov (.t 9))⟩]))))))
  (.seq (.ops [⟨(some 32), none, .q (.mov (.t 0))⟩, ⟨(some 33), none, .q (.slen (.t 32))⟩, ⟨(some 34), none, .c (.c (.clo 47 [])) [(.t 33), (.c (.sc (.int .i64 1))), (.c (.sc (.int .i64 10)))]⟩, ⟨(some 2), none, .q (.mov (.t 34))⟩])
  .ret)))
theorem K49 : Tryd.f49.body.bind (comp Tryd.prog) = some A49 ∧ Tryd.f49.ntmps = 35 ∧ Tryd.f49.results.toList.mapM (resB Tryd.prog) = some [.mov (.t 2)] := ⟨by kernel_rfl, by kernel_rfl, by kernel_rfl⟩
theorem R49 (s : ByteArray) (hs : s.size ≤ 140737488351232) : Ret Tryd.prog 49 [.sc (.string s)] (.sc (.bool (nameOk s))) [.un] := by
  refine Ret.run Tryd.func49 K49 (by simp) rfl rfl 500 ?_
  simp [A49, iniρ]
  refine T.rounds (μ := fun i : List UInt8 × List UInt8 => i.2.length)
    (fun i t => i.1 ++ i.2 = s.data.toList ∧ nameL i.2 i.1.length = nameL s.data.toList 0 ∧ t.ρ 0 = .sc (.string s) ∧ t.ρ 3 = .sc (.int .i64 i.1.length) ∧ t.h = h0 ∧ t.n = 35) ([], s.data.toList) (by simp [upd_app]) ?_
  rintro ⟨pre, rest⟩ ⟨ρ, hh, n⟩ ⟨hx, hE, k0, k3, rfl, rfl⟩
  simp only at hx hE k0 k3
  have hsz := str_len hx
  refine run_ok (n := 400) ?_
  cases rest with
  | nil =>
    simp at hsz
    simp [k0, k3, hsz]
    refine T.on 400 ?_
    simp [k0]
    refine callK.ro 0 rfl (by kernel_rfl) (by simp [roc_sc]) (R47 s.size 1 10) rfl rfl rfl ?_
    simp [nameOk, ← hE, nameL]
  | cons c rest =>
    have hg := str_get hx
    simp at hsz
    have hlt : (pre.length : Int) < s.size := by omega
    have hw : IntKind.i64.wrap ((pre.length : Int) + 1) = pre.length + 1 := wrap_i64 (by omega) (by omega)
    simp [k0, k3, hlt, hg]
    refine callK.ro 0 rfl (by kernel_rfl) (by simp [roc_sc]) (R61 c) rfl rfl rfl ?_
    have step : nameC pre.length c = true → ∀ (Q : Prop), (nameL rest (pre.length + 1) = nameL s.data.toList 0 → Q) → Q := fun h Q k => k (by rw [← hE]; simp [nameL, h])
    have stop : nameC pre.length c = false → nameOk s = false := fun h => by simp [nameOk, ← hE, nameL, h]
    cases h1 : smallI (c.toNat : Int)
    · by_cases hz : pre.length = 0
      · have := stop (by simp [nameC, h1, hz])
        simp [k0, k3, h1, hz, hlt, hg, this]
      · have hz' : pre ≠ [] := fun e => hz (by simp [e])
        simp [k0, k3, h1, hz, hz', hlt, hg]
        refine callK.ro 0 rfl (by kernel_rfl) (by simp [roc_sc]) (R46 c) rfl rfl rfl ?_
        cases h2 : figI (c.toNat : Int)
        · by_cases h3 : (c.toNat : Int) = 45
          · simp [k0, k3, h1, h2, hz, hz', hlt, hg, h3, hw]
            refine step (by simp [nameC, h1, h2, hz, hz', h3]) _ fun hE2 => ?_
            refine ⟨pre ++ [c], rest, by simp, _, Le.refl _, ?_⟩
            simp [hx, k0, hE2, upd_app]
          · have := stop (by simp [nameC, h1, h2, hz, hz', h3])
            simp [k0, k3, h1, h2, hz, hz', hlt, hg, h3, this]
        · simp [k0, k3, h1, h2, hz, hz', hlt, hg, hw]
          refine step (by simp [nameC, h1, h2, hz, hz']) _ fun hE2 => ?_
          refine ⟨pre ++ [c], rest, by simp, _, Le.refl _, ?_⟩
          simp [hx, k0, hE2, upd_app]
    · simp [k0, k3, h1, hlt, hg, hw]
      refine step (by simp [nameC, h1]) _ fun hE2 => ?_
      refine ⟨pre ++ [c], rest, by simp, _, Le.refl _, ?_⟩
      simp [hx, k0, hE2, upd_app]
/- 64: loop.example/g00464/impl.NameOk -/
def A64 : AC := (.seq (.ops [⟨(some 2), none, .q (.mov (.c (.sc (.bool false))))⟩])
  (.seq (.seq (.ops [⟨(some 3), none, .q (.mov (.c (.sc (.int .i64 0))))⟩])
  (.block 0 (.loop (.seq (.seq (.ops [⟨(some 4), none, .q (.mov (.t 3))⟩, ⟨(some 5), none, .q (.mov (.t 0))⟩, ⟨(some 6), none, .q (.slen (.t 5))⟩, ⟨(some 7), none, .q (.bin .lss (.t 4) (.t 6))⟩])
  (.cond (.t 7) .skip
  (.exit 0)))
  (.seq (.block 1 (.seq (.ops [⟨(some 10), none, .q (.mov (.t 0))⟩, ⟨(some 11), none, .q (.mov (.t 3))⟩, ⟨(some 12), none, .q (.idx (.t 10) (.t 11))⟩, ⟨(some 13), none, .c (.c (.clo 69 [])) [(.t 12)]⟩, ⟨(some 14), none, .q (.not (.t 13))⟩, ⟨(some 15), none, .q (.mov (.t 14))⟩, ⟨(some 16), (some (15, true)), .q (.mov (.t 3))⟩, ⟨(some 17), (some (15, true)), .q (.bin .eql (.t 16) (.c (.sc (.int .i64 0))))⟩, ⟨(some 18), (some (15, true)), .q (.mov (.t 17))⟩, ⟨(some 19), (some (18, false)), .q (.mov (.t 0))⟩, ⟨(some 20), (some (18, false)), .q (.mov (.t 3))⟩, ⟨(some 21), (some (18, false)), .q (.idx (.t 19) (.t 20))⟩, ⟨(some 22), (some (18, false)), .c (.c (.clo 54 [])) [(.t 21)]⟩, ⟨(some 23), (some (18, false)), .q (.not (.t 22))⟩, ⟨(some 24), (some (18, false)), .q (.mov (.t 23))⟩, ⟨(some 25), (some (24, true)), .q (.mov (.t 0))⟩, ⟨(some 26), (some (24, true)), .q (.mov (.t 3))⟩, ⟨(some 27), (some (24, true)), .q (.idx (.t 25) (.t 26))⟩, ⟨(some 28), (some (24, true)), .q (.bin .neq (.t 27) (.c (.sc (.int .u8 45))))⟩, ⟨(some 29), (some (18, false)), .q (.pick (.t 24) (.t 28) (.c (.sc (.bool false))))⟩, ⟨(some 30), (some (15, true)), .q (.pick (.t 18) (.c (.sc (.bool true))) (.t 29))⟩, ⟨(some 31), none, .q (.pick (.t 15) (.t 30) (.c (.sc (.bool false))))⟩])
  (.cond (.t 31) (.seq (.ops [⟨(some 2), none, .q (.mov (.c (.sc (.bool false))))⟩])
  .ret)
  .skip)))
  (.ops [⟨(some 8), none, .q (.mov (.t 3))⟩, ⟨(some 9), none, .q (.bin .add (.t 8) (.c (.sc (.int .i64 1))))⟩, ⟨(some 3), none, .q (.mov (.t 9))⟩]))))))
  (.seq (.ops [⟨(some 32), none, .q (.mov (.t 0))⟩, ⟨(some 33), none, .q (.slen (.t 32))⟩, ⟨(some 34), none, .c (.c (.clo 53 [])) [(.t 33), (.c (.sc (.int .i64 1))), (.c (.sc (.int .i64 10)))]⟩, ⟨(some 2), none, .q (.mov (.t 34))⟩])
  .ret)))
theorem K64 : Tryd.f64.body.bind (comp Tryd.prog) = some A64 ∧ Tryd.f64.ntmps = 35 ∧ Tryd.f64.results.toList.mapM (resB Tryd.prog) = some [.mov (.t 2)] := ⟨by kernel_rfl, by kernel_rfl, by kernel_rfl⟩
theorem R64 (s : ByteArray) (hs : s.size ≤ 140737488351232) : Ret Tryd.prog 64 [.sc (.string s)] (.sc (.bool (nameOk s))) [.un] := by
  refine Ret.run Tryd.func64 K64 (by simp) rfl rfl 500 ?_
  simp [A64, iniρ]
  refine T.rounds (μ := fun i : List UInt8 × List UInt8 => i.2.length)
    (fun i t => i.1 ++ i.2 = s.data.toList ∧ nameL i.2 i.1.length = nameL s.data.toList 0 ∧ t.ρ 0 = .sc (.string s) ∧ t.ρ 3 = .sc (.int .i64 i.1.length) ∧ t.h = h0 ∧ t.n = 35) ([], s.data.toList) (by simp [upd_app]) ?_
  rintro ⟨pre, rest⟩ ⟨ρ, hh, n⟩ ⟨hx, hE, k0, k3, rfl, rfl⟩
  simp only at hx hE k0 k3
  have hsz := str_len hx
  refine run_ok (n := 400) ?_
  cases rest with
  | nil =>
    simp at hsz
    simp [k0, k3, hsz]
    refine T.on 400 ?_
    simp [k0]
    refine callK.ro 0 rfl (by kernel_rfl) (by simp [roc_sc]) (R53 s.size 1 10) rfl rfl rfl ?_
    simp [nameOk, ← hE, nameL]
  | cons c rest =>
    have hg := str_get hx
    simp at hsz
    have hlt : (pre.length : Int) < s.size := by omega
    have hw : IntKind.i64.wrap ((pre.length : Int) + 1) = pre.length + 1 := wrap_i64 (by omega) (by omega)
    simp [k0, k3, hlt, hg]
    refine callK.ro 0 rfl (by kernel_rfl) (by simp [roc_sc]) (R69 c) rfl rfl rfl ?_
    have step : nameC pre.length c = true → ∀ (Q : Prop), (nameL rest (pre.length + 1) = nameL s.data.toList 0 → Q) → Q := fun h Q k => k (by rw [← hE]; simp [nameL, h])
    have stop : nameC pre.length c = false → nameOk s = false := fun h => by simp [nameOk, ← hE, nameL, h]
    cases h1 : smallI (c.toNat : Int)
    · by_cases hz : pre.length = 0
      · have := stop (by simp [nameC, h1, hz])
        simp [k0, k3, h1, hz, hlt, hg, this]
      · have hz' : pre ≠ [] := fun e => hz (by simp [e])
        simp [k0, k3, h1, hz, hz', hlt, hg]
        refine callK.ro 0 rfl (by kernel_rfl) (by simp [roc_sc]) (R54 c) rfl rfl rfl ?_
        cases h2 : figI (c.toNat : Int)
        · by_cases h3 : (c.toNat : Int) = 45
          · simp [k0, k3, h1, h2, hz, hz', hlt, hg, h3, hw]
            refine step (by simp [nameC, h1, h2, hz, hz', h3]) _ fun hE2 => ?_
            refine ⟨pre ++ [c], rest, by simp, _, Le.refl _, ?_⟩
            simp [hx, k0, hE2, upd_app]
          · have := stop (by simp [nameC, h1, h2, hz, hz', h3])
            simp [k0, k3, h1, h2, hz, hz', hlt, hg, h3, this]
        · simp [k0, k3, h1, h2, hz, hz', hlt, hg, hw]
          refine step (by simp [nameC, h1, h2, hz, hz']) _ fun hE2 => ?_
          refine ⟨pre ++ [c], rest, by simp, _, Le.refl _, ?_⟩
          simp [hx, k0, hE2, upd_app]
    · simp [k0, k3, h1, hlt, hg, hw]
      refine step (by simp [nameC, h1]) _ fun hE2 => ?_
      refine ⟨pre ++ [c], rest, by simp, _, Le.refl _, ?_⟩
      simp [hx, k0, hE2, upd_app]
end Go.Proofs.YtaknfalbmblagaaDoor.Am
