/- The functions of the program, each by its contract: Base; no condition. -/
import Derived.Test.YtaknfalbmblagaaGreatProg
import Derived.Test.YtaknfalbmblagaaGreatAmZ
import Derived.Test.YtaknfalbmblagaaGreatAmP
import Derived.KernelRfl
namespace Go.Proofs.YtaknfalbmblagaaGreat.Am
open Go Go.Proofs
set_option linter.unusedSimpArgs false
set_option linter.unusedVariables false
attribute [local congr] T_congr callK_congr callWK_congr
attribute [local simp] run_nil run_op0 run_opg run_seq run_cond run_block run_ret run_skip run_skip_after run_skip_blk run_exit run_exit_after run_exit_blk run_loop run_any runS_nil runS_op0 runS_opg runW_nil runW_op0 runW_opg exec_q exec_w exec_c exec_n execW_q execW_w execW_c restW_app hideH_app merge_app wblk rest_app restS_app execS_q execS_c aval dOk upd_app ev_t ev_c setO_some setO_none put_mk pinsOf isIo hasIo sbin endR fin resL one outL out1 clo1 cloL coe coeL shut shut.shutL wantA weff cellsOf fillA deref natOf ρ0_app h0_app plain plain.plainL keep_app keepH_app andThen_normal andThen_ret andThen_exit pop_nil pop_after pop_after_ret pop_after_exit pop_blk pop_blk_ret pop_blk_exit nilA srcOf srcCells keepR_app keepHR_app renA rb
/- 78: loop.example/g00464/laws.szByteS -/
def A78 : AC := (.seq (.ops [⟨(some 4), none, .q (.mov (.c (.sc (.int .i64 0))))⟩])
  (.seq (.ops [⟨(some 5), none, .q (.mov (.t 1))⟩, ⟨(some 6), none, .q (.mov (.t 0))⟩, ⟨(some 7), none, .q (.llen (.t 6))⟩, ⟨(some 8), none, .q (.bin .sub (.t 5) (.t 7))⟩, ⟨(some 1), none, .q (.mov (.t 8))⟩])
  (.seq (.seq (.ops [⟨(some 9), none, .q (.mov (.t 1))⟩, ⟨(some 10), none, .q (.bin .lss (.t 9) (.c (.sc (.int .i64 0))))⟩])
  (.cond (.t 10) (.seq (.ops [⟨(some 4), none, .q (.mov (.c (.sc (.int .i64 (-1)))))⟩])
  .ret)
  .skip))
  (.seq (.ops [⟨(some 11), none, .q (.mov (.t 1))⟩, ⟨(some 4), none, .q (.mov (.t 11))⟩])
  .ret))))
theorem K78 : Tryz.f78.body.bind (comp Tryz.prog) = some A78 ∧ Tryz.f78.ntmps = 12 ∧ Tryz.f78.results.toList.mapM (resB Tryz.prog) = some [.mov (.t 4)] := ⟨by kernel_rfl, by kernel_rfl, by kernel_rfl⟩
theorem R78 (xs : List Int) (hx : Ty.byte.slice.ok xs) : Sz Tryz.prog 78 (.ro (rows Ty.byte.cs xs) xs.length) (Ty.byte.slice.wt xs) := by
  intro l h0 h1
  have hb := Ty.byte.lenb (by decide) hx
  have hw : IntKind.i64.wrap (l - xs.length) = l - xs.length := wrap_i64 (by omega) (by omega)
  have hz : wtL Ty.byte.wt xs = 0 := wtL_zero (fun _ => rfl) xs
  by_cases hn : l - (xs.length : Int) < 0
  · refine ⟨-1, .inl (by decide), ?_⟩
    refine Ret.run Tryz.func78 K78 (by simp) rfl rfl 500 ?_
    simp [A78, iniρ, hw, hn]; try omega
  · refine ⟨l - xs.length, .inr ?_, ?_⟩
    · show _ = l - ((xs.length + wtL Ty.byte.wt xs : Nat) : Int); rw [hz]; omega
    refine Ret.run Tryz.func78 K78 (by simp) rfl rfl 500 ?_
    simp [A78, iniρ, hw, hn]; try omega
/- 85: loop.example/g00464/laws.toByteS -/
def A85 : AC := (.seq (.ops [⟨(some 2), none, .q (.mov (.c .em))⟩])
  (.seq (.ops [⟨(some 5), none, .q (.mov (.t 0))⟩, ⟨(some 6), none, .q (.llen (.t 5))⟩, ⟨(some 7), none, .w (.mk 1 1 [(.sc (.int .u8 0))] (.t 6) (.t 6))⟩, ⟨(some 3), none, .q (.mov (.t 7))⟩])
  (.seq (.seq (.ops [⟨(some 4), none, .q (.mov (.c (.sc (.int .i64 0))))⟩])
  (.block 0 (.loop (.seq (.seq (.ops [⟨(some 8), none, .q (.mov (.t 4))⟩, ⟨(some 9), none, .q (.mov (.t 0))⟩, ⟨(some 10), none, .q (.llen (.t 9))⟩, ⟨(some 11), none, .q (.bin .lss (.t 8) (.t 10))⟩])
  (.cond (.t 11) .skip
  (.exit 0)))
  (.seq (.block 1 (.ops [⟨(some 14), none, .q (.mov (.t 3))⟩, ⟨(some 15), none, .q (.mov (.t 4))⟩, ⟨(some 16), none, .q (.mov (.t 0))⟩, ⟨(some 17), none, .q (.mov (.t 4))⟩, ⟨(some 18), none, .q (.iadr 1 (.t 16) (.t 17))⟩, ⟨(some 19), none, .q (.load false 1 (.t 18))⟩, ⟨(some 20), none, .q (.iadr 1 (.t 14) (.t 15))⟩, ⟨none, none, .w (.store 1 (.t 20) (.t 19))⟩]))
  (.ops [⟨(some 12), none, .q (.mov (.t 4))⟩, ⟨(some 13), none, .q (.bin .add (.t 12) (.c (.sc (.int .i64 1))))⟩, ⟨(some 4), none, .q (.mov (.t 13))⟩]))))))
  (.seq (.ops [⟨(some 21), none, .q (.mov (.t 3))⟩, ⟨(some 2), none, .q (.mov (.t 21))⟩])
  .ret))))
theorem K85 : Tryz.f85.body.bind (comp Tryz.prog) = some A85 ∧ Tryz.f85.ntmps = 22 ∧ Tryz.f85.results.toList.mapM (resB Tryz.prog) = some [.mov (.t 2)] := ⟨by kernel_rfl, by kernel_rfl, by kernel_rfl⟩
theorem R85 (xs : List Int) (hx : Ty.byte.slice.ok xs) : Ret Tryz.prog 85 [.ro (rows Ty.byte.cs xs) xs.length] (.own (rows Ty.byte.oc xs) xs.length 1) [.un] := by
  have hb : xs.length * 1 ≤ 140737488351232 := hx.1
  show Ret Tryz.prog 85 [.ro (rows B xs) xs.length] (.own (rows B xs) xs.length 1) [.un]
  refine Ret.run Tryz.func85 K85 (by simp) rfl rfl 500 ?_
  have h1 : (xs.length : Int) ≤ 281474976710656 := by omega
  have h2 : (xs.length : Int) ≤ 9223372036854775807 := by omega
  simp [A85, iniρ, h1, h2]
  refine T.rounds (μ := fun i : List Int × List Int => i.2.length)
    (fun i s => i.1 ++ i.2 = xs ∧ s.ρ 0 = .ro (rows B xs) xs.length ∧ s.ρ 3 = .sl 7 0 xs.length 1 false ∧ s.ρ 4 = .sc (.int .i64 i.1.length) ∧ s.h 7 = some (some (rows B i.1 ++ rows Bz i.2)) ∧ s.n = 22) ([], xs) (by simp [upd_app, rows_nil, B.rep]) ?_
  rintro ⟨pre, rest⟩ ⟨ρ, hh, n⟩ ⟨hx, h0', h3', h4', h7', rfl⟩
  simp only at hx h0' h3' h4' h7'
  refine run_ok (n := 400) ?_
  cases rest with
  | nil =>
    simp at hx
    subst hx
    simp [h0', h3', h4']
    refine T.on 400 ?_
    simp [h3', h7', ex1, rows_nil, B.count, idfreeL_rows B.fr]
  | cons x rest =>
    have hlt : (pre.length : Int) < xs.length := by rw [← hx]; simp only [List.length_append, List.length_cons]; omega
    have hd := rows_drop B.len pre (x :: rest)
    rw [hx, rows_cons, Nat.mul_one] at hd
    have hw : IntKind.i64.wrap ((pre.length : Int) + 1) = pre.length + 1 := wrap_i64 (by omega) (by omega)
    have hov : over _ _ [AV.sc (.int .u8 x)] = _ := rows_over B.len Bz.len pre rest x
    rw [Nat.mul_one] at hov
    have hle : pre.length + 1 ≤ (rows B pre).length + (rows Bz (x :: rest)).length := by rw [rows_length B.len, rows_length Bz.len, List.length_cons]; omega
    simp [h0', h3', h4', h7', hlt, hd, B, hw, hle, hov]
    refine ⟨pre ++ [x], rest, by simp, _, Le.refl _, ?_⟩
    simp [hx, h0', h3', upd_app]
/- 95: loop.example/g00464/laws.eqByteS -/
def A95 : AC := (.seq (.ops [⟨(some 4), none, .q (.mov (.c (.sc (.bool false))))⟩])
  (.seq (.seq (.ops [⟨(some 6), none, .q (.mov (.t 0))⟩, ⟨(some 7), none, .q (.llen (.t 6))⟩, ⟨(some 8), none, .q (.mov (.t 1))⟩, ⟨(some 9), none, .q (.llen (.t 8))⟩, ⟨(some 10), none, .q (.bin .neq (.t 7) (.t 9))⟩])
  (.cond (.t 10) (.seq (.ops [⟨(some 4), none, .q (.mov (.c (.sc (.bool false))))⟩])
  .ret)
  .skip))
  (.seq (.seq (.ops [⟨(some 5), none, .q (.mov (.c (.sc (.int .i64 0))))⟩])
  (.block 0 (.loop (.seq (.seq (.ops [⟨(some 11), none, .q (.mov (.t 5))⟩, ⟨(some 12), none, .q (.mov (.t 0))⟩, ⟨(some 13), none, .q (.llen (.t 12))⟩, ⟨(some 14), none, .q (.bin .lss (.t 11) (.t 13))⟩])
  (.cond (.t 14) .skip
  (.exit 0)))
  (.seq (.block 1 (.seq (.any [(⟨(some 17), none, .q (.mov (.t 0))⟩, []), (⟨(some 18), none, .q (.mov (.t 5))⟩, []), (⟨(some 19), none, .q (.iadr 1 (.t 17) (.t 18))⟩, [0, 1]), (⟨(some 20), none, .q (.load false 1 (.t 19))⟩, [2]), (⟨(some 21), none, .q (.mov (.t 1))⟩, []), (⟨(some 22), none, .q (.mov (.t 5))⟩, []), (⟨(some 23), none, .q (.iadr 1 (.t 21) (.t 22))⟩, [4, 5]), (⟨(some 24), none, .q (.load false 1 (.t 23))⟩, [6]), (⟨(some 25), none, .q (.bin .neq (.t 20) (.t 24))⟩, [3, 7])])
  (.cond (.t 25) (.seq (.ops [⟨(some 4), none, .q (.mov (.c (.sc (.bool false))))⟩])
  .ret)
  .skip)))
  (.ops [⟨(some 15), none, .q (.mov (.t 5))⟩, ⟨(some 16), none, .q (.bin .add (.t 15) (.c (.sc (.int .i64 1))))⟩, ⟨(some 5), none, .q (.mov (.t 16))⟩]))))))
  (.seq (.ops [⟨(some 4), none, .q (.mov (.c (.sc (.bool true))))⟩])
  .ret))))
theorem K95 : Tryz.f95.body.bind (comp Tryz.prog) = some A95 ∧ Tryz.f95.ntmps = 26 ∧ Tryz.f95.results.toList.mapM (resB Tryz.prog) = some [.mov (.t 4)] := ⟨by kernel_rfl, by kernel_rfl, by kernel_rfl⟩
theorem R95 (xs : List Int) (hx : Ty.byte.slice.ok xs) : Ret Tryz.prog 95 [.ro (rows Ty.byte.cs xs) xs.length, .ro (rows Ty.byte.cs xs) xs.length] (.sc (.bool true)) [.un, .un] := by
  have hb := Ty.byte.lenb (by decide) hx
  show Ret Tryz.prog 95 [.ro (rows B xs) xs.length, .ro (rows B xs) xs.length] (.sc (.bool true)) [.un, .un]
  refine Ret.run Tryz.func95 K95 (by simp) rfl rfl 500 ?_
  simp [A95, iniρ]
  refine T.rounds (μ := fun i : List Int × List Int => i.2.length)
    (fun i s => i.1 ++ i.2 = xs ∧ s.ρ 0 = .ro (rows B xs) xs.length ∧ s.ρ 1 = .ro (rows B xs) xs.length ∧ s.ρ 5 = .sc (.int .i64 i.1.length) ∧ s.h = h0 ∧ s.n = 26) ([], xs) (by simp [upd_app]) ?_
  rintro ⟨pre, rest⟩ ⟨ρ, hh, n⟩ ⟨hx, h0', h1', h5', rfl, rfl⟩
  simp only at hx h0' h1' h5'
  refine run_ok (n := 400) ?_
  cases rest with
  | nil =>
    simp at hx
    subst hx
    simp [h0', h5']
    refine T.on 400 ?_
    simp
  | cons x rest =>
    have hlt : (pre.length : Int) < xs.length := by rw [← hx]; simp only [List.length_append, List.length_cons]; omega
    have hd := rows_drop B.len pre (x :: rest)
    rw [hx, rows_cons, Nat.mul_one] at hd
    have hw : IntKind.i64.wrap ((pre.length : Int) + 1) = pre.length + 1 := wrap_i64 (by omega) (by omega)
    simp [h0', h1', h5', hlt]
    refine T.text 400 mixed (by kernel_rfl) (by kernel_rfl) ?_
    simp [h0', h1', h5', hlt, hd, B, hw]
    refine ⟨pre ++ [x], rest, by simp, _, Le.refl _, ?_⟩
    simp [hx, h0', h1', upd_app]
/- 17: loop.example/g00464/laws.szStringS -/
def A17 : AC := (.seq (.ops [⟨(some 4), none, .q (.mov (.c (.sc (.int .i64 0))))⟩])
  (.seq (.ops [⟨(some 6), none, .q (.mov (.t 1))⟩, ⟨(some 7), none, .q (.mov (.t 0))⟩, ⟨(some 8), none, .q (.llen (.t 7))⟩, ⟨(some 9), none, .q (.bin .sub (.t 6) (.t 8))⟩, ⟨(some 1), none, .q (.mov (.t 9))⟩])
  (.seq (.seq (.ops [⟨(some 10), none, .q (.mov (.t 1))⟩, ⟨(some 11), none, .q (.bin .lss (.t 10) (.c (.sc (.int .i64 0))))⟩])
  (.cond (.t 11) (.seq (.ops [⟨(some 4), none, .q (.mov (.c (.sc (.int .i64 (-1)))))⟩])
  .ret)
  .skip))
  (.seq (.seq (.ops [⟨(some 5), none, .q (.mov (.c (.sc (.int .i64 0))))⟩])
  (.block 0 (.loop (.seq (.seq (.ops [⟨(some 12), none, .q (.mov (.t 5))⟩, ⟨(some 13), none, .q (.mov (.t 0))⟩, ⟨(some 14), none, .q (.llen (.t 13))⟩, ⟨(some 15), none, .q (.bin .lss (.t 12) (.t 14))⟩])
  (.cond (.t 15) .skip
  (.exit 0)))
  (.seq (.block 1 (.seq (.ops [⟨(some 18), none, .q (.mov (.t 1))⟩, ⟨(some 19), none, .q (.mov (.t 0))⟩, ⟨(some 20), none, .q (.mov (.t 5))⟩, ⟨(some 21), none, .q (.iadr 1 (.t 19) (.t 20))⟩, ⟨(some 22), none, .q (.load false 1 (.t 21))⟩, ⟨(some 23), none, .q (.slen (.t 22))⟩, ⟨(some 24), none, .q (.bin .sub (.t 18) (.t 23))⟩, ⟨(some 1), none, .q (.mov (.t 24))⟩])
  (.seq (.ops [⟨(some 25), none, .q (.mov (.t 1))⟩, ⟨(some 26), none, .q (.bin .lss (.t 25) (.c (.sc (.int .i64 0))))⟩])
  (.cond (.t 26) (.seq (.ops [⟨(some 4), none, .q (.mov (.c (.sc (.int .i64 (-1)))))⟩])
  .ret)
  .skip))))
  (.ops [⟨(some 16), none, .q (.mov (.t 5))⟩, ⟨(some 17), none, .q (.bin .add (.t 16) (.c (.sc (.int .i64 1))))⟩, ⟨(some 5), none, .q (.mov (.t 17))⟩]))))))
  (.seq (.ops [⟨(some 27), none, .q (.mov (.t 1))⟩, ⟨(some 4), none, .q (.mov (.t 27))⟩])
  .ret)))))
theorem K17 : Tryz.f17.body.bind (comp Tryz.prog) = some A17 ∧ Tryz.f17.ntmps = 28 ∧ Tryz.f17.results.toList.mapM (resB Tryz.prog) = some [.mov (.t 4)] := ⟨by kernel_rfl, by kernel_rfl, by kernel_rfl⟩
theorem R17 (xs : List ByteArray) (hx : Ty.str.slice.ok xs) : Sz Tryz.prog 17 (.ro (rows Ty.str.cs xs) xs.length) (Ty.str.slice.wt xs) := by
  intro left hl0 hl1
  have hb := Ty.str.lenb (by decide) hx
  have hs : ∀ x ∈ xs, x.size ≤ 140737488351232 := hx.2
  have hwl : IntKind.i64.wrap (left - xs.length) = left - xs.length := wrap_i64 (by omega) (by omega)
  let f : ByteArray → Int → Int := fun x l => l - x.size
  refine ⟨if left - xs.length < 0 then -1 else szL f xs (left - xs.length), ?_, ?_⟩
  · split
    · left; omega
    · rcases szL_spec (f := f) (wt := Ty.str.wt) xs (fun x hx l h0 h1 => .inr rfl) (left - xs.length) (by omega) (by omega) with h | h
      · exact .inl h
      · right; rw [h]; show _ = left - ((xs.length + wtL Ty.str.wt xs : Nat) : Int); omega
  refine Ret.run Tryz.func17 K17 (by simp) rfl rfl 500 ?_
  by_cases hneg : left - (xs.length : Int) < 0
  · have hneg' : left < (xs.length : Int) := by omega
    simp [A17, iniρ, hwl, hneg, hneg']; try omega
  have hneg' : ¬ left < (xs.length : Int) := by omega
  simp [A17, iniρ, hwl, hneg, hneg']
  have hl0' : 0 ≤ left - (xs.length : Int) := by omega
  have hl1' : left - (xs.length : Int) ≤ 1048576 := by omega
  generalize hlg : left - (xs.length : Int) = l0 at *
  clear hlg hwl hneg
  refine T.rounds (μ := fun i : List ByteArray × List ByteArray × Int => i.2.1.length)
    (fun i s => i.1 ++ i.2.1 = xs ∧ 0 ≤ i.2.2 ∧ i.2.2 ≤ 1048576 ∧ szL f i.2.1 i.2.2 = szL f xs l0 ∧ s.ρ 0 = .ro (rows Ty.str.cs xs) xs.length ∧ s.ρ 1 = .sc (.int .i64 i.2.2) ∧ s.ρ 5 = .sc (.int .i64 i.1.length) ∧ s.h = h0 ∧ s.n = 28) ([], xs, l0) (by simp [upd_app, hl0', hl1']) ?_
  rintro ⟨pre, rest, l⟩ ⟨ρ, hh, n⟩ ⟨hx, hp0, hp1, hL, h0', h1', h5', rfl, rfl⟩
  simp only at hx hp0 hp1 hL h0' h1' h5'
  refine run_ok (n := 400) ?_
  cases rest with
  | nil =>
    simp at hx
    subst hx
    simp [h0', h1', h5']
    refine T.on 400 ?_
    simp [h1', ← hL, szL]
  | cons x rest =>
    have hlt : (pre.length : Int) < xs.length := by rw [← hx]; simp only [List.length_append, List.length_cons]; omega
    have hd := rows_drop Ty.str.csn pre (x :: rest)
    rw [hx, rows_cons] at hd
    have hd : List.drop pre.length (rows Ty.str.cs xs) = AV.sc (.string x) :: rows Ty.str.cs rest := by rw [← Nat.mul_one pre.length]; exact hd
    have hw : IntKind.i64.wrap ((pre.length : Int) + 1) = pre.length + 1 := wrap_i64 (by omega) (by omega)
    have hxm : x.size ≤ 140737488351232 := hs x (by rw [← hx]; simp)
    have hw2 : IntKind.i64.wrap (l - x.size) = l - x.size := wrap_i64 (by omega) (by omega)
    by_cases hz : l - (x.size : Int) < 0
    · have hz' : l < (x.size : Int) := by omega
      simp [h0', h1', h5', hlt, hd, hw, hw2, hz, hz', ← hL, szL, f]
      try omega
    · have hz' : ¬ l < (x.size : Int) := by omega
      simp [h0', h1', h5', hlt, hd, hw, hw2, hz, hz']
      have b1 : (x.size : Int) ≤ l := by omega
      have b2 : l - (x.size : Int) ≤ 1048576 := by omega
      refine ⟨pre ++ [x], rest, by simp, l - x.size, _, Le.refl _, ?_⟩
      simp [hx, h0', ← hL, szL, f, hz, hz', b1, b2, upd_app]
/- 26: loop.example/g00464/laws.toStringS -/
def A26 : AC := (.seq (.ops [⟨(some 2), none, .q (.mov (.c .em))⟩])
  (.seq (.ops [⟨(some 5), none, .q (.mov (.t 0))⟩, ⟨(some 6), none, .q (.llen (.t 5))⟩, ⟨(some 7), none, .w (.mk 1 16 [(.sc (.string ⟨#[]⟩))] (.t 6) (.t 6))⟩, ⟨(some 3), none, .q (.mov (.t 7))⟩])
  (.seq (.seq (.ops [⟨(some 4), none, .q (.mov (.c (.sc (.int .i64 0))))⟩])
  (.block 0 (.loop (.seq (.seq (.ops [⟨(some 8), none, .q (.mov (.t 4))⟩, ⟨(some 9), none, .q (.mov (.t 0))⟩, ⟨(some 10), none, .q (.llen (.t 9))⟩, ⟨(some 11), none, .q (.bin .lss (.t 8) (.t 10))⟩])
  (.cond (.t 11) .skip
  (.exit 0)))
  (.seq (.block 1 (.ops [⟨(some 14), none, .q (.mov (.t 3))⟩, ⟨(some 15), none, .q (.mov (.t 4))⟩, ⟨(some 16), none, .q (.mov (.t 0))⟩, ⟨(some 17), none, .q (.mov (.t 4))⟩, ⟨(some 18), none, .q (.iadr 1 (.t 16) (.t 17))⟩, ⟨(some 19), none, .q (.load false 1 (.t 18))⟩, ⟨(some 20), none, .q (.iadr 1 (.t 14) (.t 15))⟩, ⟨none, none, .w (.store 1 (.t 20) (.t 19))⟩]))
  (.ops [⟨(some 12), none, .q (.mov (.t 4))⟩, ⟨(some 13), none, .q (.bin .add (.t 12) (.c (.sc (.int .i64 1))))⟩, ⟨(some 4), none, .q (.mov (.t 13))⟩]))))))
  (.seq (.ops [⟨(some 21), none, .q (.mov (.t 3))⟩, ⟨(some 2), none, .q (.mov (.t 21))⟩])
  .ret))))
theorem K26 : Tryz.f26.body.bind (comp Tryz.prog) = some A26 ∧ Tryz.f26.ntmps = 22 ∧ Tryz.f26.results.toList.mapM (resB Tryz.prog) = some [.mov (.t 2)] := ⟨by kernel_rfl, by kernel_rfl, by kernel_rfl⟩
theorem R26 (xs : List ByteArray) (hx : Ty.str.slice.ok xs) : Ret Tryz.prog 26 [.ro (rows Ty.str.cs xs) xs.length] (.own (rows Ty.str.oc xs) xs.length 1) [.un] := by
  have hb : xs.length * 16 ≤ 140737488351232 := hx.1
  show Ret Tryz.prog 26 [.ro (rows Ty.str.cs xs) xs.length] (.own (rows Ty.str.cs xs) xs.length 1) [.un]
  refine Ret.run Tryz.func26 K26 (by simp) rfl rfl 500 ?_
  have h1 : (xs.length : Int) * 16 ≤ 281474976710656 := by omega
  have h2 : (xs.length : Int) ≤ 9223372036854775807 := by omega
  simp [A26, iniρ, h1, h2]
  refine T.rounds (μ := fun i : List ByteArray × List ByteArray => i.2.length)
    (fun i s => i.1 ++ i.2 = xs ∧ s.ρ 0 = .ro (rows Ty.str.cs xs) xs.length ∧ s.ρ 3 = .sl 7 0 xs.length 1 false ∧ s.ρ 4 = .sc (.int .i64 i.1.length) ∧ s.h 7 = some (some (rows Ty.str.cs i.1 ++ rows (fun _ : ByteArray => [AV.sc (.string ⟨#[]⟩)]) i.2)) ∧ s.n = 22) ([], xs) (by
      have := rows_const [AV.sc (.string ⟨#[]⟩)] xs
      have e : ∀ k, (List.replicate k [AV.sc (.string ⟨#[]⟩)]).flatten = List.replicate k (AV.sc (.string ⟨#[]⟩)) := fun k => by induction k with
        | zero => rfl
        | succ k ih => rw [List.replicate_succ, List.flatten_cons, ih]; rfl
      rw [e] at this
      simp [upd_app, rows_nil, this]) ?_
  rintro ⟨pre, rest⟩ ⟨ρ, hh, n⟩ ⟨hx, h0', h3', h4', h7', rfl⟩
  simp only at hx h0' h3' h4' h7'
  refine run_ok (n := 400) ?_
  cases rest with
  | nil =>
    simp at hx
    subst hx
    have := Ty.str.frL pre
    simp [h0', h3', h4']
    refine T.on 400 ?_
    simp [h3', h7', ex1, rows_nil, str_csl, show idfree.idfreeL (rows Ty.str.cs pre) = true from this]
  | cons x rest =>
    have hlt : (pre.length : Int) < xs.length := by rw [← hx]; simp only [List.length_append, List.length_cons]; omega
    have hd := rows_drop Ty.str.csn pre (x :: rest)
    rw [hx, rows_cons] at hd
    have hd : List.drop pre.length (rows Ty.str.cs xs) = AV.sc (.string x) :: rows Ty.str.cs rest := by rw [← Nat.mul_one pre.length]; exact hd
    have hw : IntKind.i64.wrap ((pre.length : Int) + 1) = pre.length + 1 := wrap_i64 (by omega) (by omega)
    have hov := rows_over3 (f := Ty.str.cs) (z := fun _ => [AV.sc (.string ⟨#[]⟩)]) Ty.str.csn (fun _ => rfl) pre rest x [AV.sc (.string x)] rfl
    rw [show pre.length * Ty.str.n = pre.length from Nat.mul_one _] at hov
    have hle : pre.length + 1 ≤ (rows Ty.str.cs pre).length + (rows (fun _ : ByteArray => [AV.sc (.string ⟨#[]⟩)]) (x :: rest)).length := by rw [str_csl, rows_length (n := 1) (fun _ => rfl), List.length_cons]; omega
    simp [h0', h3', h4', h7', hlt, hd, hw, hle, hov]
    refine ⟨pre ++ [x], rest, by simp, _, Le.refl _, ?_⟩
    simp [hx, h0', h3', upd_app, rows_append, rows_cons, rows_nil]
    rfl
/- 8: loop.example/g00464/laws.eqStringS -/
def A8 : AC := (.seq (.ops [⟨(some 4), none, .q (.mov (.c (.sc (.bool false))))⟩])
  (.seq (.seq (.ops [⟨(some 6), none, .q (.mov (.t 0))⟩, ⟨(some 7), none, .q (.llen (.t 6))⟩, ⟨(some 8), none, .q (.mov (.t 1))⟩, ⟨(some 9), none, .q (.llen (.t 8))⟩, ⟨(some 10), none, .q (.bin .neq (.t 7) (.t 9))⟩])
  (.cond (.t 10) (.seq (.ops [⟨(some 4), none, .q (.mov (.c (.sc (.bool false))))⟩])
  .ret)
  .skip))
  (.seq (.seq (.ops [⟨(some 5), none, .q (.mov (.c (.sc (.int .i64 0))))⟩])
  (.block 0 (.loop (.seq (.seq (.ops [⟨(some 11), none, .q (.mov (.t 5))⟩, ⟨(some 12), none, .q (.mov (.t 0))⟩, ⟨(some 13), none, .q (.llen (.t 12))⟩, ⟨(some 14), none, .q (.bin .lss (.t 11) (.t 13))⟩])
  (.cond (.t 14) .skip
  (.exit 0)))
  (.seq (.block 1 (.seq (.any [(⟨(some 17), none, .q (.mov (.t 0))⟩, []), (⟨(some 18), none, .q (.mov (.t 5))⟩, []), (⟨(some 19), none, .q (.iadr 1 (.t 17) (.t 18))⟩, [0, 1]), (⟨(some 20), none, .q (.load false 1 (.t 19))⟩, [2]), (⟨(some 21), none, .q (.mov (.t 1))⟩, []), (⟨(some 22), none, .q (.mov (.t 5))⟩, []), (⟨(some 23), none, .q (.iadr 1 (.t 21) (.t 22))⟩, [4, 5]), (⟨(some 24), none, .q (.load false 1 (.t 23))⟩, [6]), (⟨(some 25), none, .q (.bin .neq (.t 20) (.t 24))⟩, [3, 7])])
  (.cond (.t 25) (.seq (.ops [⟨(some 4), none, .q (.mov (.c (.sc (.bool false))))⟩])
  .ret)
  .skip)))
  (.ops [⟨(some 15), none, .q (.mov (.t 5))⟩, ⟨(some 16), none, .q (.bin .add (.t 15) (.c (.sc (.int .i64 1))))⟩, ⟨(some 5), none, .q (.mov (.t 16))⟩]))))))
  (.seq (.ops [⟨(some 4), none, .q (.mov (.c (.sc (.bool true))))⟩])
  .ret))))
theorem K8 : Tryz.f8.body.bind (comp Tryz.prog) = some A8 ∧ Tryz.f8.ntmps = 26 ∧ Tryz.f8.results.toList.mapM (resB Tryz.prog) = some [.mov (.t 4)] := ⟨by kernel_rfl, by kernel_rfl, by kernel_rfl⟩
theorem R8 (xs : List ByteArray) (hx : Ty.str.slice.ok xs) : Ret Tryz.prog 8 [.ro (rows Ty.str.cs xs) xs.length, .ro (rows Ty.str.cs xs) xs.length] (.sc (.bool true)) [.un, .un] := by
  have hb := Ty.str.lenb (by decide) hx
  refine Ret.run Tryz.func8 K8 (by simp) rfl rfl 500 ?_
  simp [A8, iniρ]
  refine T.rounds (μ := fun i : List ByteArray × List ByteArray => i.2.length)
    (fun i s => i.1 ++ i.2 = xs ∧ s.ρ 0 = .ro (rows Ty.str.cs xs) xs.length ∧ s.ρ 1 = .ro (rows Ty.str.cs xs) xs.length ∧ s.ρ 5 = .sc (.int .i64 i.1.length) ∧ s.h = h0 ∧ s.n = 26) ([], xs) (by simp [upd_app]) ?_
  rintro ⟨pre, rest⟩ ⟨ρ, hh, n⟩ ⟨hx, h0', h1', h5', rfl, rfl⟩
  simp only at hx h0' h1' h5'
  refine run_ok (n := 400) ?_
  cases rest with
  | nil =>
    simp at hx
    subst hx
    simp [h0', h5']
    refine T.on 400 ?_
    simp
  | cons x rest =>
    have hlt : (pre.length : Int) < xs.length := by rw [← hx]; simp only [List.length_append, List.length_cons]; omega
    have hd := rows_drop Ty.str.csn pre (x :: rest)
    rw [hx, rows_cons] at hd
    have hd : List.drop pre.length (rows Ty.str.cs xs) = AV.sc (.string x) :: rows Ty.str.cs rest := by rw [← Nat.mul_one pre.length]; exact hd
    have hw : IntKind.i64.wrap ((pre.length : Int) + 1) = pre.length + 1 := wrap_i64 (by omega) (by omega)
    simp [h0', h1', h5', hlt]
    refine T.text 400 mixed (by kernel_rfl) (by kernel_rfl) ?_
    simp [h0', h1', h5', hlt, hd, hw]
    refine ⟨pre ++ [x], rest, by simp, _, Le.refl _, ?_⟩
    simp [hx, h0', h1', upd_app]
theorem R44 (xs : List (List ByteArray)) (hx : Ty.str.slice.slice.ok xs) : Sz Tryz.prog 44 (.ro (rows Ty.str.slice.cs xs) xs.length) (Ty.str.slice.slice.wt xs) := Sz.slice Ty.str.slice (agg := false) Tryz.func44 ⟨by kernel_rfl, by kernel_rfl, by kernel_rfl⟩ (by kernel_rfl) (fun _ => rfl) xs (fun x h => R17 x (hx.2 x h)) (Ty.str.slice.lenb (by decide) hx)
theorem R64 (xs : List (List ByteArray)) (hx : Ty.str.slice.slice.ok xs) : Ret Tryz.prog 64 [.ro (rows Ty.str.slice.cs xs) xs.length, .ro (rows Ty.str.slice.cs xs) xs.length] (.sc (.bool true)) [.un, .un] := Ret.eqS mixed Ty.str.slice (agg := false) Tryz.func64 ⟨by kernel_rfl, by kernel_rfl, by kernel_rfl⟩ (by kernel_rfl) (fun _ => rfl) xs (fun x h => R8 x (hx.2 x h)) (Ty.str.slice.lenb (by decide) hx)
/- 54: loop.example/g00464/laws.toStringSS -/
def A54 : AC := (.seq (.ops [⟨(some 2), none, .q (.mov (.c .em))⟩])
  (.seq (.ops [⟨(some 5), none, .q (.mov (.t 0))⟩, ⟨(some 6), none, .q (.llen (.t 5))⟩, ⟨(some 7), none, .w (.mk 1 24 [.em] (.t 6) (.t 6))⟩, ⟨(some 3), none, .q (.mov (.t 7))⟩])
  (.seq (.seq (.ops [⟨(some 4), none, .q (.mov (.c (.sc (.int .i64 0))))⟩])
  (.block 0 (.loop (.seq (.seq (.ops [⟨(some 8), none, .q (.mov (.t 4))⟩, ⟨(some 9), none, .q (.mov (.t 0))⟩, ⟨(some 10), none, .q (.llen (.t 9))⟩, ⟨(some 11), none, .q (.bin .lss (.t 8) (.t 10))⟩])
  (.cond (.t 11) .skip
  (.exit 0)))
  (.seq (.block 1 (.ops [⟨(some 14), none, .q (.mov (.t 3))⟩, ⟨(some 15), none, .q (.mov (.t 4))⟩, ⟨(some 16), none, .q (.mov (.t 0))⟩, ⟨(some 17), none, .q (.mov (.t 4))⟩, ⟨(some 18), none, .q (.iadr 1 (.t 16) (.t 17))⟩, ⟨(some 19), none, .q (.load false 1 (.t 18))⟩, ⟨(some 20), none, .c (.c (.clo 26 [])) [(.t 19)]⟩, ⟨(some 21), none, .q (.iadr 1 (.t 14) (.t 15))⟩, ⟨none, none, .w (.store 1 (.t 21) (.t 20))⟩]))
  (.ops [⟨(some 12), none, .q (.mov (.t 4))⟩, ⟨(some 13), none, .q (.bin .add (.t 12) (.c (.sc (.int .i64 1))))⟩, ⟨(some 4), none, .q (.mov (.t 13))⟩]))))))
  (.seq (.ops [⟨(some 22), none, .q (.mov (.t 3))⟩, ⟨(some 2), none, .q (.mov (.t 22))⟩])
  .ret))))
theorem K54 : Tryz.f54.body.bind (comp Tryz.prog) = some A54 ∧ Tryz.f54.ntmps = 23 ∧ Tryz.f54.results.toList.mapM (resB Tryz.prog) = some [.mov (.t 2)] := ⟨by kernel_rfl, by kernel_rfl, by kernel_rfl⟩
theorem R54 (xs : List (List ByteArray)) (hx : Ty.str.slice.slice.ok xs) : Ret Tryz.prog 54 [.ro (rows Ty.str.slice.cs xs) xs.length] (.own (rows Ty.str.slice.oc xs) xs.length 1) [.un] := by
  have hb : xs.length * 24 ≤ 140737488351232 := hx.1
  have hs := hx.2
  refine Ret.run Tryz.func54 K54 (by simp) rfl rfl 500 ?_
  have h1 : (xs.length : Int) * 24 ≤ 281474976710656 := by omega
  have h2 : (xs.length : Int) ≤ 9223372036854775807 := by omega
  simp [A54, iniρ, h1, h2]
  refine T.rounds (μ := fun i : List (List ByteArray) × List (List ByteArray) => i.2.length)
    (fun i s => i.1 ++ i.2 = xs ∧ s.ρ 0 = .ro (rows Ty.str.slice.cs xs) xs.length ∧ s.ρ 3 = .sl 7 0 xs.length 1 false ∧ s.ρ 4 = .sc (.int .i64 i.1.length) ∧ s.h 7 = some (some (rows Ty.str.slice.oc i.1 ++ rows (fun _ : List ByteArray => [AV.em]) i.2)) ∧ s.h 20 = none ∧ s.n = 23) ([], xs) (by
      have := rows_const [AV.em] xs
      have e : ∀ k, (List.replicate k [AV.em]).flatten = List.replicate k AV.em := fun k => by induction k with
        | zero => rfl
        | succ k ih => rw [List.replicate_succ, List.flatten_cons, ih]; rfl
      rw [e] at this
      simp [upd_app, rows_nil, this]) ?_
  rintro ⟨pre, rest⟩ ⟨ρ, hh, n⟩ ⟨hx, h0', h3', h4', h7', hf, rfl⟩
  simp only at hx h0' h3' h4' h7' hf
  refine run_ok (n := 400) ?_
  cases rest with
  | nil =>
    simp at hx
    subst hx
    simp [h0', h3', h4']
    refine T.on 400 ?_
    simp [h3', h7', ex1, rows_nil, strs_ocl, Ty.str.slice.frL]
  | cons x rest =>
    have hlt : (pre.length : Int) < xs.length := by rw [← hx]; simp only [List.length_append, List.length_cons]; omega
    have hxs : Ty.str.slice.ok x := hs x (by rw [← hx]; simp)
    have hd := rows_drop Ty.str.slice.csn pre (x :: rest)
    rw [hx, rows_cons] at hd
    have hd : List.drop pre.length (rows Ty.str.slice.cs xs) = AV.ro (rows Ty.str.cs x) x.length :: rows Ty.str.slice.cs rest := by rw [← Nat.mul_one pre.length]; exact hd
    have hw : IntKind.i64.wrap ((pre.length : Int) + 1) = pre.length + 1 := wrap_i64 (by omega) (by omega)
    have hov := rows_over3 (f := Ty.str.slice.oc) (z := fun _ => [AV.em]) Ty.str.slice.ocn (fun _ => rfl) pre rest x [AV.sl 20 0 x.length 1 false] rfl
    rw [show pre.length * Ty.str.slice.n = pre.length from Nat.mul_one _] at hov
    have hle : pre.length + 1 ≤ (rows Ty.str.slice.oc pre).length + (rows (fun _ : List ByteArray => [AV.em]) (x :: rest)).length := by rw [strs_ocl, rows_length (n := 1) (fun _ => rfl), List.length_cons]; omega
    simp [h0', h3', h4', h7', hlt, hd]
    refine callK.own 20 rfl (by kernel_rfl) (by simp [roc_ro]) (R26 x hxs) (Ty.str.flo x) (by simp [hf]) rfl ?_
    simp [h0', h3', h4', h7', hlt, hw, hle, hov]
    have hset : (rows Ty.str.slice.oc pre ++ (AV.sl 20 0 x.length 1 false :: rows (fun _ : List ByteArray => [AV.em]) rest)).set pre.length (AV.own (rows Ty.str.oc x) x.length 1) = rows Ty.str.slice.oc (pre ++ [x]) ++ rows (fun _ : List ByteArray => [AV.em]) rest := by
      rw [List.set_append_right _ _ (by rw [strs_ocl]; exact Nat.le_refl _), strs_ocl]
      simp [rows_append, rows_cons, rows_nil]
      rfl
    refine ⟨pre ++ [x], rest, by simp, _, Le.trans (Le.pack 7 pre.length (i := 20) (len := x.length) (sz := 1) (cs' := rows Ty.str.oc x) (by simp [upd_app]; rfl) ?_ (by simp [upd_app]) (by decide) (by rw [str_ocl]; omega) (Ty.str.frL x)) (Le.reset [0, 3, 4] [7] ?_ ?_), ?_⟩
    · rw [List.getElem?_append_right (by rw [strs_ocl]; exact Nat.le_refl _), strs_ocl]; simp
    · simp [upd_app, menB, idfree, h0', h3', h4']
    · intro b hb cs hcs
      simp at hb
      subst hb
      simp [upd_app, hset] at hcs
      subst hcs
      exact fun y hy => (List.mem_append.1 hy).elim (rows_all (fun x c hc => (Ty.str.slice.ow x c hc).fr) _ y) (rows_all (q := idfree) (by simp [idfree]) _ y)
    · simp [upd_app, hx, h0', h3', h4', hset]
end Go.Proofs.YtaknfalbmblagaaGreat.Am
