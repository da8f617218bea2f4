/- The functions of the program, each by its contract: Base; no condition. -/
import Derived.Test.YtaknfalbmblagaaDoorProg
import Derived.Test.YtaknfalbmblagaaDoorAmZ
import Derived.Test.YtaknfalbmblagaaDoorAmP
import Derived.KernelRfl
namespace Go.Proofs.YtaknfalbmblagaaDoor.Am
open Go Go.Proofs
set_option linter.unusedSimpArgs false
set_option linter.unusedVariables false
attribute [local congr] T_congr callK_congr callWK_congr
attribute [local simp] run_nil run_op0 run_opg run_seq run_cond run_block run_ret run_skip run_skip_after run_skip_blk run_exit run_exit_after run_exit_blk run_loop run_any runS_nil runS_op0 runS_opg runW_nil runW_op0 runW_opg exec_q exec_w exec_c exec_n execW_q execW_w execW_c restW_app hideH_app merge_app wblk rest_app restS_app execS_q execS_c aval dOk upd_app ev_t ev_c setO_some setO_none put_mk pinsOf isIo hasIo sbin endR fin resL one outL out1 clo1 cloL coe coeL shut shut.shutL wantA weff cellsOf fillA deref natOf ρ0_app h0_app plain plain.plainL keep_app keepH_app andThen_normal andThen_ret andThen_exit pop_nil pop_after pop_after_ret pop_after_exit pop_blk pop_blk_ret pop_blk_exit nilA srcOf srcCells keepR_app keepHR_app renA rb
/- 28: loop.example/g00464/laws.szByteS -/
def A28 : AC := (.seq (.ops [⟨(some 4), none, .q (.mov (.c (.sc (.int .i64 0))))⟩])
  (.seq (.ops [⟨(some 5), none, .q (.mov (.t 1))⟩, ⟨(some 6), none, .q (.mov (.t 0))⟩, ⟨(some 7), none, .q (.llen (.t 6))⟩, ⟨(some 8), none, .q (.bin .sub (.t 5) (.t 7))⟩, ⟨(some 1), none, .q (.mov (.t 8))⟩])
  (.seq (.seq (.ops [⟨(some 9), none, .q (.mov (.t 1))⟩, ⟨(some 10), none, .q (.bin .lss (.t 9) (.c (.sc (.int .i64 0))))⟩])
  (.cond (.t 10) (.seq (.ops [⟨(some 4), none, .q (.mov (.c (.sc (.int .i64 (-1)))))⟩])
  .ret)
  .skip))
  (.seq (.ops [⟨(some 11), none, .q (.mov (.t 1))⟩, ⟨(some 4), none, .q (.mov (.t 11))⟩])
  .ret))))
theorem K28 : Tryd.f28.body.bind (comp Tryd.prog) = some A28 ∧ Tryd.f28.ntmps = 12 ∧ Tryd.f28.results.toList.mapM (resB Tryd.prog) = some [.mov (.t 4)] := ⟨by kernel_rfl, by kernel_rfl, by kernel_rfl⟩
theorem R28 (xs : List Int) (hx : Ty.byte.slice.ok xs) : Sz Tryd.prog 28 (.ro (rows Ty.byte.cs xs) xs.length) (Ty.byte.slice.wt xs) := by
  intro l h0 h1
  have hb := Ty.byte.lenb (by decide) hx
  have hw : IntKind.i64.wrap (l - xs.length) = l - xs.length := wrap_i64 (by omega) (by omega)
  have hz : wtL Ty.byte.wt xs = 0 := wtL_zero (fun _ => rfl) xs
  by_cases hn : l - (xs.length : Int) < 0
  · refine ⟨-1, .inl (by decide), ?_⟩
    refine Ret.run Tryd.func28 K28 (by simp) rfl rfl 500 ?_
    simp [A28, iniρ, hw, hn]; try omega
  · refine ⟨l - xs.length, .inr ?_, ?_⟩
    · show _ = l - ((xs.length + wtL Ty.byte.wt xs : Nat) : Int); rw [hz]; omega
    refine Ret.run Tryd.func28 K28 (by simp) rfl rfl 500 ?_
    simp [A28, iniρ, hw, hn]; try omega
/- 7: loop.example/g00464/laws.toByteS -/
def A7 : AC := (.seq (.ops [⟨(some 2), none, .q (.mov (.c .em))⟩])
  (.seq (.ops [⟨(some 5), none, .q (.mov (.t 0))⟩, ⟨(some 6), none, .q (.llen (.t 5))⟩, ⟨(some 7), none, .w (.mk 1 1 [(.sc (.int .u8 0))] (.t 6) (.t 6))⟩, ⟨(some 3), none, .q (.mov (.t 7))⟩])
  (.seq (.seq (.ops [⟨(some 4), none, .q (.mov (.c (.sc (.int .i64 0))))⟩])
  (.block 0 (.loop (.seq (.seq (.ops [⟨(some 8), none, .q (.mov (.t 4))⟩, ⟨(some 9), none, .q (.mov (.t 0))⟩, ⟨(some 10), none, .q (.llen (.t 9))⟩, ⟨(some 11), none, .q (.bin .lss (.t 8) (.t 10))⟩])
  (.cond (.t 11) .skip
  (.exit 0)))
  (.seq (.block 1 (.ops [⟨(some 14), none, .q (.mov (.t 3))⟩, ⟨(some 15), none, .q (.mov (.t 4))⟩, ⟨(some 16), none, .q (.mov (.t 0))⟩, ⟨(some 17), none, .q (.mov (.t 4))⟩, ⟨(some 18), none, .q (.iadr 1 (.t 16) (.t 17))⟩, ⟨(some 19), none, .q (.load false 1 (.t 18))⟩, ⟨(some 20), none, .q (.iadr 1 (.t 14) (.t 15))⟩, ⟨none, none, .w (.store 1 (.t 20) (.t 19))⟩]))
  (.ops [⟨(some 12), none, .q (.mov (.t 4))⟩, ⟨(some 13), none, .q (.bin .add (.t 12) (.c (.sc (.int .i64 1))))⟩, ⟨(some 4), none, .q (.mov (.t 13))⟩]))))))
  (.seq (.ops [⟨(some 21), none, .q (.mov (.t 3))⟩, ⟨(some 2), none, .q (.mov (.t 21))⟩])
  .ret))))
theorem K7 : Tryd.f7.body.bind (comp Tryd.prog) = some A7 ∧ Tryd.f7.ntmps = 22 ∧ Tryd.f7.results.toList.mapM (resB Tryd.prog) = some [.mov (.t 2)] := ⟨by kernel_rfl, by kernel_rfl, by kernel_rfl⟩
theorem R7 (xs : List Int) (hx : Ty.byte.slice.ok xs) : Ret Tryd.prog 7 [.ro (rows Ty.byte.cs xs) xs.length] (.own (rows Ty.byte.oc xs) xs.length 1) [.un] := by
  have hb : xs.length * 1 ≤ 140737488351232 := hx.1
  show Ret Tryd.prog 7 [.ro (rows B xs) xs.length] (.own (rows B xs) xs.length 1) [.un]
  refine Ret.run Tryd.func7 K7 (by simp) rfl rfl 500 ?_
  have h1 : (xs.length : Int) ≤ 281474976710656 := by omega
  have h2 : (xs.length : Int) ≤ 9223372036854775807 := by omega
  simp [A7, iniρ, h1, h2]
  refine T.rounds (μ := fun i : List Int × List Int => i.2.length)
    (fun i s => i.1 ++ i.2 = xs ∧ s.ρ 0 = .ro (rows B xs) xs.length ∧ s.ρ 3 = .sl 7 0 xs.length 1 false ∧ s.ρ 4 = .sc (.int .i64 i.1.length) ∧ s.h 7 = some (some (rows B i.1 ++ rows Bz i.2)) ∧ s.n = 22) ([], xs) (by simp [upd_app, rows_nil, B.rep]) ?_
  rintro ⟨pre, rest⟩ ⟨ρ, hh, n⟩ ⟨hx, h0', h3', h4', h7', rfl⟩
  simp only at hx h0' h3' h4' h7'
  refine run_ok (n := 400) ?_
  cases rest with
  | nil =>
    simp at hx
    subst hx
    simp [h0', h3', h4']
    refine T.on 400 ?_
    simp [h3', h7', ex1, rows_nil, B.count, idfreeL_rows B.fr]
  | cons x rest =>
    have hlt : (pre.length : Int) < xs.length := by rw [← hx]; simp only [List.length_append, List.length_cons]; omega
    have hd := rows_drop B.len pre (x :: rest)
    rw [hx, rows_cons, Nat.mul_one] at hd
    have hw : IntKind.i64.wrap ((pre.length : Int) + 1) = pre.length + 1 := wrap_i64 (by omega) (by omega)
    have hov : over _ _ [AV.sc (.int .u8 x)] = _ := rows_over B.len Bz.len pre rest x
    rw [Nat.mul_one] at hov
    have hle : pre.length + 1 ≤ (rows B pre).length + (rows Bz (x :: rest)).length := by rw [rows_length B.len, rows_length Bz.len, List.length_cons]; omega
    simp [h0', h3', h4', h7', hlt, hd, B, hw, hle, hov]
    refine ⟨pre ++ [x], rest, by simp, _, Le.refl _, ?_⟩
    simp [hx, h0', h3', upd_app]
/- 11: loop.example/g00464/laws.eqByteS -/
def A11 : AC := (.seq (.ops [⟨(some 4), none, .q (.mov (.c (.sc (.bool false))))⟩])
  (.seq (.seq (.ops [⟨(some 6), none, .q (.mov (.t 0))⟩, ⟨(some 7), none, .q (.llen (.t 6))⟩, ⟨(some 8), none, .q (.mov (.t 1))⟩, ⟨(some 9), none, .q (.llen (.t 8))⟩, ⟨(some 10), none, .q (.bin .neq (.t 7) (.t 9))⟩])
  (.cond (.t 10) (.seq (.ops [⟨(some 4), none, .q (.mov (.c (.sc (.bool false))))⟩])
  .ret)
  .skip))
  (.seq (.seq (.ops [⟨(some 5), none, .q (.mov (.c (.sc (.int .i64 0))))⟩])
  (.block 0 (.loop (.seq (.seq (.ops [⟨(some 11), none, .q (.mov (.t 5))⟩, ⟨(some 12), none, .q (.mov (.t 0))⟩, ⟨(some 13), none, .q (.llen (.t 12))⟩, ⟨(some 14), none, .q (.bin .lss (.t 11) (.t 13))⟩])
  (.cond (.t 14) .skip
  (.exit 0)))
  (.seq (.block 1 (.seq (.any [(⟨(some 17), none, .q (.mov (.t 0))⟩, []), (⟨(some 18), none, .q (.mov (.t 5))⟩, []), (⟨(some 19), none, .q (.iadr 1 (.t 17) (.t 18))⟩, [0, 1]), (⟨(some 20), none, .q (.load false 1 (.t 19))⟩, [2]), (⟨(some 21), none, .q (.mov (.t 1))⟩, []), (⟨(some 22), none, .q (.mov (.t 5))⟩, []), (⟨(some 23), none, .q (.iadr 1 (.t 21) (.t 22))⟩, [4, 5]), (⟨(some 24), none, .q (.load false 1 (.t 23))⟩, [6]), (⟨(some 25), none, .q (.bin .neq (.t 20) (.t 24))⟩, [3, 7])])
  (.cond (.t 25) (.seq (.ops [⟨(some 4), none, .q (.mov (.c (.sc (.bool false))))⟩])
  .ret)
  .skip)))
  (.ops [⟨(some 15), none, .q (.mov (.t 5))⟩, ⟨(some 16), none, .q (.bin .add (.t 15) (.c (.sc (.int .i64 1))))⟩, ⟨(some 5), none, .q (.mov (.t 16))⟩]))))))
  (.seq (.ops [⟨(some 4), none, .q (.mov (.c (.sc (.bool true))))⟩])
  .ret))))
theorem K11 : Tryd.f11.body.bind (comp Tryd.prog) = some A11 ∧ Tryd.f11.ntmps = 26 ∧ Tryd.f11.results.toList.mapM (resB Tryd.prog) = some [.mov (.t 4)] := ⟨by kernel_rfl, by kernel_rfl, by kernel_rfl⟩
theorem R11 (xs : List Int) (hx : Ty.byte.slice.ok xs) : Ret Tryd.prog 11 [.ro (rows Ty.byte.cs xs) xs.length, .ro (rows Ty.byte.cs xs) xs.length] (.sc (.bool true)) [.un, .un] := by
  have hb := Ty.byte.lenb (by decide) hx
  show Ret Tryd.prog 11 [.ro (rows B xs) xs.length, .ro (rows B xs) xs.length] (.sc (.bool true)) [.un, .un]
  refine Ret.run Tryd.func11 K11 (by simp) rfl rfl 500 ?_
  simp [A11, iniρ]
  refine T.rounds (μ := fun i : List Int × List Int => i.2.length)
    (fun i s => i.1 ++ i.2 = xs ∧ s.ρ 0 = .ro (rows B xs) xs.length ∧ s.ρ 1 = .ro (rows B xs) xs.length ∧ s.ρ 5 = .sc (.int .i64 i.1.length) ∧ s.h = h0 ∧ s.n = 26) ([], xs) (by simp [upd_app]) ?_
  rintro ⟨pre, rest⟩ ⟨ρ, hh, n⟩ ⟨hx, h0', h1', h5', rfl, rfl⟩
  simp only at hx h0' h1' h5'
  refine run_ok (n := 400) ?_
  cases rest with
  | nil =>
    simp at hx
    subst hx
    simp [h0', h5']
    refine T.on 400 ?_
    simp
  | cons x rest =>
    have hlt : (pre.length : Int) < xs.length := by rw [← hx]; simp only [List.length_append, List.length_cons]; omega
    have hd := rows_drop B.len pre (x :: rest)
    rw [hx, rows_cons, Nat.mul_one] at hd
    have hw : IntKind.i64.wrap ((pre.length : Int) + 1) = pre.length + 1 := wrap_i64 (by omega) (by omega)
    simp [h0', h1', h5', hlt]
    refine T.text 400 mixed (by kernel_rfl) (by kernel_rfl) ?_
    simp [h0', h1', h5', hlt, hd, B, hw]
    refine ⟨pre ++ [x], rest, by simp, _, Le.refl _, ?_⟩
    simp [hx, h0', h1', upd_app]
end Go.Proofs.YtaknfalbmblagaaDoor.Am
