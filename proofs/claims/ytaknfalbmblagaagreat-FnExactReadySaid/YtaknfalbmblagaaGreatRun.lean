/- The functions of the program, each by its contract: Run; no condition. -/
import Derived.Test.YtaknfalbmblagaaGreatProg
import Derived.Test.YtaknfalbmblagaaGreatAmZ
import Derived.Test.YtaknfalbmblagaaGreatAmP
import Derived.Test.YtaknfalbmblagaaGreatPlumb
import Derived.KernelRfl
namespace Go.Proofs.YtaknfalbmblagaaGreat.Am
open Go Go.Proofs
set_option linter.unusedSimpArgs false
set_option linter.unusedVariables false
attribute [local congr] T_congr callK_congr callWK_congr
attribute [local simp] run_nil run_op0 run_opg run_seq run_cond run_block run_ret run_skip run_skip_after run_skip_blk run_exit run_exit_after run_exit_blk run_loop run_any runS_nil runS_op0 runS_opg runW_nil runW_op0 runW_opg exec_q exec_w exec_c exec_n execW_q execW_w execW_c restW_app hideH_app merge_app wblk rest_app restS_app execS_q execS_c aval dOk upd_app ev_t ev_c setO_some setO_none put_mk pinsOf isIo hasIo sbin endR fin resL one outL out1 clo1 cloL coe coeL shut shut.shutL wantA weff cellsOf fillA deref natOf ρ0_app h0_app plain plain.plainL keep_app keepH_app andThen_normal andThen_ret andThen_exit pop_nil pop_after pop_after_ret pop_after_exit pop_blk pop_blk_ret pop_blk_exit nilA srcOf srcCells keepR_app keepHR_app renA rb
def howOf (t : ByteArray) : List Mark → Int
  | [] => 0
  | m :: l => if m.task.toList = t.toList then m.how else howOf t l
def counted (how : Int) : List Mark → Int → Int
  | [], n => n
  | m :: l, n => counted how l (if m.how = how then IntKind.i64.wrap (n + 1) else n)
/- 19: loop.example/g00464/spec.HowOf -/
def A19 : AC := (.seq (.ops [⟨(some 2), none, .w (.box (.t 0))⟩, ⟨(some 4), none, .q (.mov (.c (.sc (.int .i64 0))))⟩])
  (.seq (.seq (.ops [⟨(some 5), none, .q (.mov (.c (.sc (.int .i64 0))))⟩])
  (.block 0 (.loop (.seq (.seq (.ops [⟨(some 6), none, .q (.mov (.t 5))⟩, ⟨(some 7), none, .q (.fadr 9 (.t 2))⟩, ⟨(some 8), none, .q (.load false 1 (.t 7))⟩, ⟨(some 9), none, .q (.llen (.t 8))⟩, ⟨(some 10), none, .q (.bin .lss (.t 6) (.t 9))⟩])
  (.cond (.t 10) .skip
  (.exit 0)))
  (.seq (.block 1 (.seq (.ops [⟨(some 13), none, .q (.fadr 9 (.t 2))⟩, ⟨(some 14), none, .q (.load false 1 (.t 13))⟩, ⟨(some 15), none, .q (.mov (.t 5))⟩, ⟨(some 16), none, .q (.iadr 2 (.t 14) (.t 15))⟩, ⟨(some 17), none, .q (.fadr 0 (.t 16))⟩, ⟨(some 18), none, .q (.load false 1 (.t 17))⟩, ⟨(some 19), none, .q (.mov (.t 1))⟩, ⟨(some 20), none, .q (.bin .eql (.t 18) (.t 19))⟩])
  (.cond (.t 20) (.seq (.ops [⟨(some 21), none, .q (.fadr 9 (.t 2))⟩, ⟨(some 22), none, .q (.load false 1 (.t 21))⟩, ⟨(some 23), none, .q (.mov (.t 5))⟩, ⟨(some 24), none, .q (.iadr 2 (.t 22) (.t 23))⟩, ⟨(some 25), none, .q (.fadr 1 (.t 24))⟩, ⟨(some 26), none, .q (.load false 1 (.t 25))⟩, ⟨(some 4), none, .q (.mov (.t 26))⟩])
  .ret)
  .skip)))
  (.ops [⟨(some 11), none, .q (.mov (.t 5))⟩, ⟨(some 12), none, .q (.bin .add (.t 11) (.c (.sc (.int .i64 1))))⟩, ⟨(some 5), none, .q (.mov (.t 12))⟩]))))))
  (.seq (.ops [⟨(some 4), none, .q (.mov (.c (.sc (.int .i64 0))))⟩])
  .ret)))
theorem K19 : Tryz.f19.body.bind (comp Tryz.prog) = some A19 ∧ Tryz.f19.ntmps = 27 ∧ Tryz.f19.results.toList.mapM (resB Tryz.prog) = some [.mov (.t 4)] := ⟨by kernel_rfl, by kernel_rfl, by kernel_rfl⟩
theorem R19 (r : Run) (hr : Run.ty.ok r) (t : ByteArray) : Ret Tryz.prog 19 [.agg (Run.ty.cs r), .sc (.string t)] (.sc (.int .i64 (howOf t r.marks))) [.un, .un] := by
  have hb : r.marks.length < 4611686018427387904 := Mark.ty.lenb (by decide) hr.2.2.2.2.2.1
  refine Ret.run Tryz.func19 K19 (by simp) rfl rfl 500 ?_
  simp [A19, iniρ, Run.cse]
  obtain ⟨xs, hxs⟩ : ∃ xs, xs = r.marks := ⟨_, rfl⟩
  rw [← hxs] at hb ⊢
  refine T.rounds (μ := fun i : List Mark × List Mark => i.2.length)
    (fun i s => i.1 ++ i.2 = xs ∧ howOf t i.2 = howOf t xs ∧ s.ρ 1 = .sc (.string t) ∧ s.ρ 2 = .ref 2 0 ∧ s.ρ 5 = .sc (.int .i64 i.1.length) ∧ s.h 2 = some (some (Run.ty.cs r)) ∧ s.n = 27) ([], xs) (by simp [upd_app, Run.cse, hxs]) ?_
  rintro ⟨pre, rest⟩ ⟨ρ, hh, n⟩ ⟨hx, hE, h1', h2', h5', hh2, rfl⟩
  simp only at hx hE h1' h2' h5' hh2
  refine run_ok (n := 400) ?_
  cases rest with
  | nil =>
    simp at hx
    subst hx
    simp [h1', h2', h5', hh2, Run.cse, ← hxs]
    refine T.on 400 ?_
    simp [← hE, howOf]
  | cons x rest =>
    have hlt : (pre.length : Int) < xs.length := by rw [← hx]; simp only [List.length_append, List.length_cons]; omega
    have hd := rows_drop Mark.ty.csn pre (x :: rest)
    rw [hx, rows_cons] at hd
    have hd : List.drop (pre.length * 2) (rows Mark.ty.cs xs) = Mark.ty.cs x ++ rows Mark.ty.cs rest := hd
    have hd1 : List.drop (pre.length * 2 + 1) (rows Mark.ty.cs xs) = [.sc (.int .i64 x.how)] ++ rows Mark.ty.cs rest := by rw [← List.drop_drop, hd]; rfl
    have hw : IntKind.i64.wrap ((pre.length : Int) + 1) = pre.length + 1 := wrap_i64 (by omega) (by omega)
    by_cases hk : x.task.toList = t.toList
    · simp [h1', h2', h5', hh2, Run.cse, ← hxs, hlt, hd, hd1, Mark.cse, hk, ← hE, howOf]
    · simp [h1', h2', h5', hh2, Run.cse, ← hxs, hlt, hd, hd1, Mark.cse, hk, hw]
      refine ⟨pre ++ [x], rest, by simp, _, Le.refl _, ?_⟩
      simp [hx, h1', h2', hh2, Run.cse, ← hxs, ← hE, howOf, hk, upd_app]
/- 87: (*loop.example/g00464/impl.Run).howOf -/
def A87 : AC := (.seq (.ops [⟨(some 4), none, .q (.mov (.c (.sc (.int .i64 0))))⟩])
  (.seq (.seq (.ops [⟨(some 7), none, .q (.mov (.t 0))⟩, ⟨(some 8), none, .q (.nilc (.t 7))⟩, ⟨(some 9), none, .q (.fadr 9 (.t 8))⟩, ⟨(some 10), none, .q (.load false 1 (.t 9))⟩, ⟨(some 11), none, .q (.llen (.t 10))⟩, ⟨(some 12), none, .q (.mov (.c (.sc (.int .i64 0))))⟩])
  (.block 0 (.loop (.seq (.ops [⟨(some 13), none, .q (.bin .lss (.t 12) (.t 11))⟩])
  (.seq (.cond (.t 13) .skip
  (.exit 0))
  (.seq (.block 1 (.seq (.ops [⟨(some 14), none, .q (.iadr 2 (.t 10) (.t 12))⟩, ⟨(some 15), none, .q (.load true 2 (.t 14))⟩, ⟨(some 6), none, .w (.alloc [(.sc (.string ⟨#[]⟩)), (.sc (.int .i64 0))])⟩, ⟨none, none, .w (.store 2 (.t 6) (.t 15))⟩])
  (.seq (.ops [⟨(some 16), none, .q (.fadr 0 (.t 6))⟩, ⟨(some 17), none, .q (.load false 1 (.t 16))⟩, ⟨(some 18), none, .q (.mov (.t 1))⟩, ⟨(some 19), none, .q (.bin .eql (.t 17) (.t 18))⟩])
  (.cond (.t 19) (.seq (.ops [⟨(some 20), none, .q (.fadr 1 (.t 6))⟩, ⟨(some 21), none, .q (.load false 1 (.t 20))⟩, ⟨(some 4), none, .q (.mov (.t 21))⟩])
  .ret)
  .skip))))
  (.ops [⟨(some 22), none, .q (.bin .add (.t 12) (.c (.sc (.int .i64 1))))⟩, ⟨(some 12), none, .q (.mov (.t 22))⟩])))))))
  (.seq (.ops [⟨(some 4), none, .q (.mov (.c (.sc (.int .i64 0))))⟩])
  .ret)))
theorem K87 : Tryz.f87.body.bind (comp Tryz.prog) = some A87 ∧ Tryz.f87.ntmps = 23 ∧ Tryz.f87.results.toList.mapM (resB Tryz.prog) = some [.mov (.t 4)] := ⟨by kernel_rfl, by kernel_rfl, by kernel_rfl⟩
theorem R87 (r : Run) (hr : Run.ty.ok r) (t : ByteArray) : Ret Tryz.prog 87 [.rp (Run.ty.cs r) 0, .sc (.string t)] (.sc (.int .i64 (howOf t r.marks))) [.un, .un] := by
  have hb : r.marks.length < 4611686018427387904 := Mark.ty.lenb (by decide) hr.2.2.2.2.2.1
  refine Ret.run Tryz.func87 K87 (by simp) rfl rfl 500 ?_
  simp [A87, iniρ, Run.cse]
  generalize r.marks = xs at *
  refine T.rounds (μ := fun i : List Mark × List Mark => i.2.length)
    (fun i s => i.1 ++ i.2 = xs ∧ howOf t i.2 = howOf t xs ∧ s.ρ 1 = .sc (.string t) ∧ s.ρ 10 = .ro (rows Mark.ty.cs xs) xs.length ∧ s.ρ 11 = .sc (.int .i64 xs.length) ∧ s.ρ 12 = .sc (.int .i64 i.1.length) ∧ s.h 6 = none ∧ s.n = 23) ([], xs) (by simp [upd_app]) ?_
  rintro ⟨pre, rest⟩ ⟨ρ, hh, n⟩ ⟨hx, hE, h1', h10', h11', h5', hf, rfl⟩
  simp only at hx hE h1' h10' h11' h5' hf
  refine run_ok (n := 400) ?_
  cases rest with
  | nil =>
    simp at hx
    subst hx
    simp [h11', h5']
    refine T.on 400 ?_
    simp [← hE, howOf]
  | cons x rest =>
    have hlt : (pre.length : Int) < xs.length := by rw [← hx]; simp only [List.length_append, List.length_cons]; omega
    have hd := rows_drop Mark.ty.csn pre (x :: rest)
    rw [hx, rows_cons] at hd
    have hd : List.drop (pre.length * 2) (rows Mark.ty.cs xs) = Mark.ty.cs x ++ rows Mark.ty.cs rest := hd
    have hw : IntKind.i64.wrap ((pre.length : Int) + 1) = pre.length + 1 := wrap_i64 (by omega) (by omega)
    by_cases hk : x.task.toList = t.toList
    · simp [h1', h10', h11', h5', hf, hlt, hd, Mark.cse, over, hk, ← hE, howOf]
    · simp [h1', h10', h11', h5', hf, hlt, hd, Mark.cse, over, hk, hw]
      refine ⟨pre ++ [x], rest, by simp, _, Le.reset [1, 10, 11, 12] [] ?_ (by simp), ?_⟩
      · simp [upd_app, menB, idfree, h1', h10', h11']
      · simp [hx, h1', h10', h11', ← hE, howOf, hk, upd_app]
end Go.Proofs.YtaknfalbmblagaaGreat.Am
