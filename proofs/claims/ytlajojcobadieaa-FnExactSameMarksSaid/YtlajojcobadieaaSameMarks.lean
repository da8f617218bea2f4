/- The functions that FnExactSameMarks reaches, each by its contract. -/
import Derived.Test.YtlajojcobadieaaProg
import Derived.Test.YtlajojcobadieaaAm12
import Derived.KernelRfl
namespace Go.Proofs.Ytlajojcobadieaa.Am
open Go Go.Proofs
set_option linter.unusedSimpArgs false
set_option linter.unusedVariables false
attribute [local congr] T_congr callK_congr
attribute [local simp] run exec_q exec_w exec_c rest_app restS_app execS_q execS_c aval dOk upd_app ev_t ev_c setO_some setO_none put_mk pinsOf isIo sbin endR fin resL one outL out1 clo1 cloL shut shut.shutL wantA weff cellsOf fillA deref natOf ρ0_app h0_app plain plain.plainL keep_app keepH_app andThen_normal andThen_ret andThen_exit pop_nil pop_after pop_after_ret pop_after_exit pop_blk pop_blk_ret pop_blk_exit runS
/- 36: loop.example/g00464/spec.l21How -/
def A36 : AC := (.seq (.ops [⟨(some 2), none, .q (.mov (.c (.sc (.int .i64 0))))⟩])
  (.seq (.seq (.ops [⟨(some 3), none, .q (.mov (.t 0))⟩, ⟨(some 4), none, .q (.bin .eql (.t 3) (.c (.sc (.int .i64 2))))⟩])
  (.cond (.t 4) (.seq (.ops [⟨(some 2), none, .q (.mov (.c (.sc (.int .i64 1))))⟩])
  .ret)
  .skip))
  (.seq (.ops [⟨(some 5), none, .q (.mov (.t 0))⟩, ⟨(some 2), none, .q (.mov (.t 5))⟩])
  .ret)))
theorem K36 : Try.f36.body.bind (comp Try.prog) = some A36 ∧ Try.f36.ntmps = 6 ∧ Try.f36.results.toList.mapM (resB Try.prog) = some [.mov (.t 2)] := ⟨by kernel_rfl, by kernel_rfl, by kernel_rfl⟩
/- 35: loop.example/g00464/laws.szMark -/
def A35 : AC := (.seq (.ops [⟨(some 2), none, .w (.box (.t 0))⟩, ⟨(some 4), none, .q (.mov (.c (.sc (.int .i64 0))))⟩])
  (.seq (.ops [⟨(some 5), none, .q (.mov (.t 1))⟩, ⟨(some 6), none, .q (.fadr 0 (.t 2))⟩, ⟨(some 7), none, .q (.load false 1 (.t 6))⟩, ⟨(some 8), none, .q (.slen (.t 7))⟩, ⟨(some 9), none, .q (.bin .sub (.t 5) (.t 8))⟩, ⟨(some 1), none, .q (.mov (.t 9))⟩])
  (.seq (.seq (.ops [⟨(some 10), none, .q (.mov (.t 1))⟩, ⟨(some 11), none, .q (.bin .lss (.t 10) (.c (.sc (.int .i64 0))))⟩])
  (.cond (.t 11) (.seq (.ops [⟨(some 4), none, .q (.mov (.c (.sc (.int .i64 (-1)))))⟩])
  .ret)
  .skip))
  (.seq (.ops [⟨(some 12), none, .q (.mov (.t 1))⟩, ⟨(some 4), none, .q (.mov (.t 12))⟩])
  .ret))))
theorem K35 : Try.f35.body.bind (comp Try.prog) = some A35 ∧ Try.f35.ntmps = 13 ∧ Try.f35.results.toList.mapM (resB Try.prog) = some [.mov (.t 4)] := ⟨by kernel_rfl, by kernel_rfl, by kernel_rfl⟩
/- 40: loop.example/g00464/impl.plainHow -/
def A40 : AC := (.seq (.ops [⟨(some 2), none, .q (.mov (.c (.sc (.int .i64 0))))⟩])
  (.seq (.seq (.ops [⟨(some 3), none, .q (.mov (.t 0))⟩, ⟨(some 4), none, .q (.bin .eql (.t 3) (.c (.sc (.int .i64 2))))⟩])
  (.cond (.t 4) (.seq (.ops [⟨(some 2), none, .q (.mov (.c (.sc (.int .i64 1))))⟩])
  .ret)
  .skip))
  (.seq (.ops [⟨(some 5), none, .q (.mov (.t 0))⟩, ⟨(some 2), none, .q (.mov (.t 5))⟩])
  .ret)))
theorem K40 : Try.f40.body.bind (comp Try.prog) = some A40 ∧ Try.f40.ntmps = 6 ∧ Try.f40.results.toList.mapM (resB Try.prog) = some [.mov (.t 2)] := ⟨by kernel_rfl, by kernel_rfl, by kernel_rfl⟩
/- 37: loop.example/g00464/laws.toMark -/
def A37 : AC := (.seq (.ops [⟨(some 1), none, .w (.box (.t 0))⟩, ⟨(some 2), none, .w (.alloc [(.sc (.string ⟨#[]⟩)), (.sc (.int .i64 0))])⟩])
  (.seq (.ops [⟨(some 3), none, .w (.alloc [(.sc (.string ⟨#[]⟩)), (.sc (.int .i64 0))])⟩])
  (.seq (.ops [⟨(some 4), none, .q (.fadr 0 (.t 1))⟩, ⟨(some 5), none, .q (.load false 1 (.t 4))⟩, ⟨(some 6), none, .q (.fadr 0 (.t 3))⟩, ⟨none, none, .w (.store 1 (.t 6) (.t 5))⟩])
  (.seq (.ops [⟨(some 7), none, .q (.fadr 1 (.t 1))⟩, ⟨(some 8), none, .q (.load false 1 (.t 7))⟩, ⟨(some 9), none, .q (.fadr 1 (.t 3))⟩, ⟨none, none, .w (.store 1 (.t 9) (.t 8))⟩])
  (.seq (.ops [⟨(some 10), none, .q (.load true 2 (.t 3))⟩, ⟨none, none, .w (.store 2 (.t 2) (.t 10))⟩])
  .ret)))))
theorem K37 : Try.f37.body.bind (comp Try.prog) = some A37 ∧ Try.f37.ntmps = 11 ∧ Try.f37.results.toList.mapM (resB Try.prog) = some [.load true 2 (.t 2)] := ⟨by kernel_rfl, by kernel_rfl, by kernel_rfl⟩
/- 11: loop.example/g00464/laws.szMarkS -/
def A11 : AC := (.seq (.ops [⟨(some 4), none, .q (.mov (.c (.sc (.int .i64 0))))⟩])
  (.seq (.ops [⟨(some 6), none, .q (.mov (.t 1))⟩, ⟨(some 7), none, .q (.mov (.t 0))⟩, ⟨(some 8), none, .q (.llen (.t 7))⟩, ⟨(some 9), none, .q (.bin .sub (.t 6) (.t 8))⟩, ⟨(some 1), none, .q (.mov (.t 9))⟩])
  (.seq (.seq (.ops [⟨(some 10), none, .q (.mov (.t 1))⟩, ⟨(some 11), none, .q (.bin .lss (.t 10) (.c (.sc (.int .i64 0))))⟩])
  (.cond (.t 11) (.seq (.ops [⟨(some 4), none, .q (.mov (.c (.sc (.int .i64 (-1)))))⟩])
  .ret)
  .skip))
  (.seq (.seq (.ops [⟨(some 5), none, .q (.mov (.c (.sc (.int .i64 0))))⟩])
  (.block 0 (.loop (.seq (.seq (.ops [⟨(some 12), none, .q (.mov (.t 5))⟩, ⟨(some 13), none, .q (.mov (.t 0))⟩, ⟨(some 14), none, .q (.llen (.t 13))⟩, ⟨(some 15), none, .q (.bin .lss (.t 12) (.t 14))⟩])
  (.cond (.t 15) .skip
  (.exit 0)))
  (.seq (.block 1 (.seq (.ops [⟨(some 18), none, .q (.mov (.t 0))⟩, ⟨(some 19), none, .q (.mov (.t 5))⟩, ⟨(some 20), none, .q (.iadr 2 (.t 18) (.t 19))⟩, ⟨(some 21), none, .q (.load true 2 (.t 20))⟩, ⟨(some 22), none, .q (.mov (.t 1))⟩, ⟨(some 23), none, .c (.c (.clo 35 [])) [(.t 21), (.t 22)]⟩, ⟨(some 1), none, .q (.mov (.t 23))⟩])
  (.seq (.ops [⟨(some 24), none, .q (.mov (.t 1))⟩, ⟨(some 25), none, .q (.bin .lss (.t 24) (.c (.sc (.int .i64 0))))⟩])
  (.cond (.t 25) (.seq (.ops [⟨(some 4), none, .q (.mov (.c (.sc (.int .i64 (-1)))))⟩])
  .ret)
  .skip))))
  (.ops [⟨(some 16), none, .q (.mov (.t 5))⟩, ⟨(some 17), none, .q (.bin .add (.t 16) (.c (.sc (.int .i64 1))))⟩, ⟨(some 5), none, .q (.mov (.t 17))⟩]))))))
  (.seq (.ops [⟨(some 26), none, .q (.mov (.t 1))⟩, ⟨(some 4), none, .q (.mov (.t 26))⟩])
  .ret)))))
theorem K11 : Try.f11.body.bind (comp Try.prog) = some A11 ∧ Try.f11.ntmps = 27 ∧ Try.f11.results.toList.mapM (resB Try.prog) = some [.mov (.t 4)] := ⟨by kernel_rfl, by kernel_rfl, by kernel_rfl⟩
/- 12: loop.example/g00464/spec.SameMarks -/
def A12 : AC := (.seq (.ops [⟨(some 4), none, .q (.mov (.c (.sc (.bool false))))⟩])
  (.seq (.seq (.ops [⟨(some 6), none, .q (.mov (.t 0))⟩, ⟨(some 7), none, .q (.llen (.t 6))⟩, ⟨(some 8), none, .q (.mov (.t 1))⟩, ⟨(some 9), none, .q (.llen (.t 8))⟩, ⟨(some 10), none, .q (.bin .neq (.t 7) (.t 9))⟩])
  (.cond (.t 10) (.seq (.ops [⟨(some 4), none, .q (.mov (.c (.sc (.bool false))))⟩])
  .ret)
  .skip))
  (.seq (.seq (.ops [⟨(some 5), none, .q (.mov (.c (.sc (.int .i64 0))))⟩])
  (.block 0 (.loop (.seq (.seq (.ops [⟨(some 11), none, .q (.mov (.t 5))⟩, ⟨(some 12), none, .q (.mov (.t 0))⟩, ⟨(some 13), none, .q (.llen (.t 12))⟩, ⟨(some 14), none, .q (.bin .lss (.t 11) (.t 13))⟩])
  (.cond (.t 14) .skip
  (.exit 0)))
  (.seq (.block 1 (.seq (.any [(⟨(some 17), none, .q (.mov (.t 0))⟩, []), (⟨(some 18), none, .q (.mov (.t 5))⟩, []), (⟨(some 19), none, .q (.iadr 2 (.t 17) (.t 18))⟩, [0, 1]), (⟨(some 20), none, .q (.fadr 0 (.t 19))⟩, [2]), (⟨(some 21), none, .q (.load false 1 (.t 20))⟩, [3]), (⟨(some 22), none, .q (.mov (.t 1))⟩, []), (⟨(some 23), none, .q (.mov (.t 5))⟩, []), (⟨(some 24), none, .q (.iadr 2 (.t 22) (.t 23))⟩, [5, 6]), (⟨(some 25), none, .q (.fadr 0 (.t 24))⟩, [7]), (⟨(some 26), none, .q (.load false 1 (.t 25))⟩, [8]), (⟨(some 27), none, .q (.bin .neq (.t 21) (.t 26))⟩, [4, 9]), (⟨(some 28), none, .q (.mov (.t 27))⟩, [10]), (⟨(some 29), (some (28, false)), .q (.mov (.t 0))⟩, [11]), (⟨(some 30), (some (28, false)), .q (.mov (.t 5))⟩, [11]), (⟨(some 31), (some (28, false)), .q (.iadr 2 (.t 29) (.t 30))⟩, [12, 13, 11]), (⟨(some 32), (some (28, false)), .q (.fadr 1 (.t 31))⟩, [14, 11]), (⟨(some 33), (some (28, false)), .q (.load false 1 (.t 32))⟩, [15, 11]), (⟨(some 34), (some (28, false)), .c (.c (.clo 36 [])) [(.t 33)]⟩, [16, 11, 11]), (⟨(some 35), (some (28, false)), .q (.mov (.t 1))⟩, [11]), (⟨(some 36), (some (28, false)), .q (.mov (.t 5))⟩, [11]), (⟨(some 37), (some (28, false)), .q (.iadr 2 (.t 35) (.t 36))⟩, [18, 19, 11]), (⟨(some 38), (some (28, false)), .q (.fadr 1 (.t 37))⟩, [20, 11]), (⟨(some 39), (some (28, false)), .q (.load false 1 (.t 38))⟩, [21, 11]), (⟨(some 40), (some (28, false)), .c (.c (.clo 36 [])) [(.t 39)]⟩, [22, 17, 11]), (⟨(some 41), (some (28, false)), .q (.bin .neq (.t 34) (.t 40))⟩, [17, 23, 11]), (⟨(some 42), none, .q (.pick (.t 28) (.c (.sc (.bool true))) (.t 41))⟩, [11, 24])])
  (.cond (.t 42) (.seq (.ops [⟨(some 4), none, .q (.mov (.c (.sc (.bool false))))⟩])
  .ret)
  .skip)))
  (.ops [⟨(some 15), none, .q (.mov (.t 5))⟩, ⟨(some 16), none, .q (.bin .add (.t 15) (.c (.sc (.int .i64 1))))⟩, ⟨(some 5), none, .q (.mov (.t 16))⟩]))))))
  (.seq (.ops [⟨(some 4), none, .q (.mov (.c (.sc (.bool true))))⟩])
  .ret))))
theorem K12 : Try.f12.body.bind (comp Try.prog) = some A12 ∧ Try.f12.ntmps = 43 ∧ Try.f12.results.toList.mapM (resB Try.prog) = some [.mov (.t 4)] := ⟨by kernel_rfl, by kernel_rfl, by kernel_rfl⟩
/- 13: loop.example/g00464/laws.toMarkS -/
def A13 : AC := (.seq (.ops [⟨(some 2), none, .q (.mov (.c .em))⟩])
  (.seq (.ops [⟨(some 5), none, .q (.mov (.t 0))⟩, ⟨(some 6), none, .q (.llen (.t 5))⟩, ⟨(some 7), none, .w (.mk 2 24 [(.sc (.string ⟨#[]⟩)), (.sc (.int .i64 0))] (.t 6) (.t 6))⟩, ⟨(some 3), none, .q (.mov (.t 7))⟩])
  (.seq (.seq (.ops [⟨(some 4), none, .q (.mov (.c (.sc (.int .i64 0))))⟩])
  (.block 0 (.loop (.seq (.seq (.ops [⟨(some 8), none, .q (.mov (.t 4))⟩, ⟨(some 9), none, .q (.mov (.t 0))⟩, ⟨(some 10), none, .q (.llen (.t 9))⟩, ⟨(some 11), none, .q (.bin .lss (.t 8) (.t 10))⟩])
  (.cond (.t 11) .skip
  (.exit 0)))
  (.seq (.block 1 (.ops [⟨(some 14), none, .q (.mov (.t 3))⟩, ⟨(some 15), none, .q (.mov (.t 4))⟩, ⟨(some 16), none, .q (.mov (.t 0))⟩, ⟨(some 17), none, .q (.mov (.t 4))⟩, ⟨(some 18), none, .q (.iadr 2 (.t 16) (.t 17))⟩, ⟨(some 19), none, .q (.load true 2 (.t 18))⟩, ⟨(some 20), none, .c (.c (.clo 37 [])) [(.t 19)]⟩, ⟨(some 21), none, .q (.iadr 2 (.t 14) (.t 15))⟩, ⟨none, none, .w (.store 2 (.t 21) (.t 20))⟩]))
  (.ops [⟨(some 12), none, .q (.mov (.t 4))⟩, ⟨(some 13), none, .q (.bin .add (.t 12) (.c (.sc (.int .i64 1))))⟩, ⟨(some 4), none, .q (.mov (.t 13))⟩]))))))
  (.seq (.ops [⟨(some 22), none, .q (.mov (.t 3))⟩, ⟨(some 2), none, .q (.mov (.t 22))⟩])
  .ret))))
theorem K13 : Try.f13.body.bind (comp Try.prog) = some A13 ∧ Try.f13.ntmps = 23 ∧ Try.f13.results.toList.mapM (resB Try.prog) = some [.mov (.t 2)] := ⟨by kernel_rfl, by kernel_rfl, by kernel_rfl⟩
/- 14: loop.example/g00464/impl.SameMarks -/
def A14 : AC := (.seq (.ops [⟨(some 4), none, .q (.mov (.c (.sc (.bool false))))⟩])
  (.seq (.ops [⟨(some 5), none, .q (.mov (.t 0))⟩, ⟨(some 6), none, .q (.mov (.t 1))⟩, ⟨(some 7), none, .c (.c (.clo 38 [])) [(.t 5), (.t 6), (.c (.clo 39 []))]⟩, ⟨(some 4), none, .q (.mov (.t 7))⟩])
  .ret))
theorem K14 : Try.f14.body.bind (comp Try.prog) = some A14 ∧ Try.f14.ntmps = 8 ∧ Try.f14.results.toList.mapM (resB Try.prog) = some [.mov (.t 4)] := ⟨by kernel_rfl, by kernel_rfl, by kernel_rfl⟩
/- 15: loop.example/g00464/laws.eqMarkS -/
def A15 : AC := (.seq (.ops [⟨(some 4), none, .q (.mov (.c (.sc (.bool false))))⟩])
  (.seq (.seq (.ops [⟨(some 6), none, .q (.mov (.t 0))⟩, ⟨(some 7), none, .q (.llen (.t 6))⟩, ⟨(some 8), none, .q (.mov (.t 1))⟩, ⟨(some 9), none, .q (.llen (.t 8))⟩, ⟨(some 10), none, .q (.bin .neq (.t 7) (.t 9))⟩])
  (.cond (.t 10) (.seq (.ops [⟨(some 4), none, .q (.mov (.c (.sc (.bool false))))⟩])
  .ret)
  .skip))
  (.seq (.seq (.ops [⟨(some 5), none, .q (.mov (.c (.sc (.int .i64 0))))⟩])
  (.block 0 (.loop (.seq (.seq (.ops [⟨(some 11), none, .q (.mov (.t 5))⟩, ⟨(some 12), none, .q (.mov (.t 0))⟩, ⟨(some 13), none, .q (.llen (.t 12))⟩, ⟨(some 14), none, .q (.bin .lss (.t 11) (.t 13))⟩])
  (.cond (.t 14) .skip
  (.exit 0)))
  (.seq (.block 1 (.seq (.any [(⟨(some 17), none, .q (.mov (.t 0))⟩, []), (⟨(some 18), none, .q (.mov (.t 5))⟩, []), (⟨(some 19), none, .q (.iadr 2 (.t 17) (.t 18))⟩, [0, 1]), (⟨(some 20), none, .q (.load true 2 (.t 19))⟩, [2]), (⟨(some 21), none, .q (.mov (.t 1))⟩, []), (⟨(some 22), none, .q (.mov (.t 5))⟩, []), (⟨(some 23), none, .q (.iadr 2 (.t 21) (.t 22))⟩, [4, 5]), (⟨(some 24), none, .q (.load true 2 (.t 23))⟩, [6]), (⟨(some 25), none, .c (.c (.clo 41 [])) [(.t 20), (.t 24)]⟩, [3, 7]), (⟨(some 26), none, .q (.not (.t 25))⟩, [8])])
  (.cond (.t 26) (.seq (.ops [⟨(some 4), none, .q (.mov (.c (.sc (.bool false))))⟩])
  .ret)
  .skip)))
  (.ops [⟨(some 15), none, .q (.mov (.t 5))⟩, ⟨(some 16), none, .q (.bin .add (.t 15) (.c (.sc (.int .i64 1))))⟩, ⟨(some 5), none, .q (.mov (.t 16))⟩]))))))
  (.seq (.ops [⟨(some 4), none, .q (.mov (.c (.sc (.bool true))))⟩])
  .ret))))
theorem K15 : Try.f15.body.bind (comp Try.prog) = some A15 ∧ Try.f15.ntmps = 27 ∧ Try.f15.results.toList.mapM (resB Try.prog) = some [.mov (.t 4)] := ⟨by kernel_rfl, by kernel_rfl, by kernel_rfl⟩
/- 38: slices.EqualFunc[[]loop.example/g00464/impl.Mark,[]loop.example/g00464/impl.Mark,loop.example/g00464/impl.Mark,loop.example/g00464/impl.Mark] -/
def A38 : AC := (.seq (.ops [⟨(some 6), none, .q (.mov (.c (.sc (.bool false))))⟩])
  (.seq (.seq (.ops [⟨(some 10), none, .q (.mov (.t 0))⟩, ⟨(some 11), none, .q (.llen (.t 10))⟩, ⟨(some 12), none, .q (.mov (.t 1))⟩, ⟨(some 13), none, .q (.llen (.t 12))⟩, ⟨(some 14), none, .q (.bin .neq (.t 11) (.t 13))⟩])
  (.cond (.t 14) (.seq (.ops [⟨(some 6), none, .q (.mov (.c (.sc (.bool false))))⟩])
  .ret)
  .skip))
  (.seq (.seq (.ops [⟨(some 15), none, .q (.mov (.t 0))⟩, ⟨(some 16), none, .q (.llen (.t 15))⟩, ⟨(some 17), none, .q (.mov (.c (.sc (.int .i64 0))))⟩])
  (.block 0 (.loop (.seq (.ops [⟨(some 18), none, .q (.bin .lss (.t 17) (.t 16))⟩])
  (.seq (.cond (.t 18) .skip
  (.exit 0))
  (.seq (.block 1 (.seq (.ops [⟨(some 19), none, .q (.mov (.t 17))⟩, ⟨(some 20), none, .q (.iadr 2 (.t 15) (.t 17))⟩, ⟨(some 21), none, .q (.load true 2 (.t 20))⟩, ⟨(some 8), none, .w (.alloc [(.sc (.string ⟨#[]⟩)), (.sc (.int .i64 0))])⟩, ⟨(some 7), none, .q (.mov (.t 19))⟩, ⟨none, none, .w (.store 2 (.t 8) (.t 21))⟩])
  (.seq (.ops [⟨(some 22), none, .q (.mov (.t 1))⟩, ⟨(some 23), none, .q (.mov (.t 7))⟩, ⟨(some 24), none, .q (.iadr 2 (.t 22) (.t 23))⟩, ⟨(some 25), none, .q (.load true 2 (.t 24))⟩, ⟨(some 9), none, .w (.alloc [(.sc (.string ⟨#[]⟩)), (.sc (.int .i64 0))])⟩, ⟨none, none, .w (.store 2 (.t 9) (.t 25))⟩])
  (.seq (.ops [⟨(some 26), none, .q (.mov (.t 2))⟩, ⟨(some 27), none, .q (.load true 2 (.t 8))⟩, ⟨(some 28), none, .q (.load true 2 (.t 9))⟩, ⟨(some 29), none, .c (.t 26) [(.t 27), (.t 28)]⟩, ⟨(some 30), none, .q (.not (.t 29))⟩])
  (.cond (.t 30) (.seq (.ops [⟨(some 6), none, .q (.mov (.c (.sc (.bool false))))⟩])
  .ret)
  .skip)))))
  (.ops [⟨(some 31), none, .q (.bin .add (.t 17) (.c (.sc (.int .i64 1))))⟩, ⟨(some 17), none, .q (.mov (.t 31))⟩])))))))
  (.seq (.ops [⟨(some 6), none, .q (.mov (.c (.sc (.bool true))))⟩])
  .ret))))
theorem K38 : Try.f38.body.bind (comp Try.prog) = some A38 ∧ Try.f38.ntmps = 32 ∧ Try.f38.results.toList.mapM (resB Try.prog) = some [.mov (.t 6)] := ⟨by kernel_rfl, by kernel_rfl, by kernel_rfl⟩
/- 39: loop.example/g00464/impl.SameMarks$1 -/
def A39 : AC := (.seq (.ops [⟨(some 2), none, .w (.box (.t 0))⟩, ⟨(some 3), none, .w (.box (.t 1))⟩, ⟨(some 4), none, .q (.mov (.c (.sc (.bool false))))⟩])
  (.seq (.any [(⟨(some 5), none, .q (.fadr 0 (.t 2))⟩, []), (⟨(some 6), none, .q (.load false 1 (.t 5))⟩, [0]), (⟨(some 7), none, .q (.fadr 0 (.t 3))⟩, []), (⟨(some 8), none, .q (.load false 1 (.t 7))⟩, [2]), (⟨(some 9), none, .q (.bin .eql (.t 6) (.t 8))⟩, [1, 3]), (⟨(some 10), none, .q (.mov (.t 9))⟩, [4]), (⟨(some 11), (some (10, true)), .q (.fadr 1 (.t 2))⟩, [5]), (⟨(some 12), (some (10, true)), .q (.load false 1 (.t 11))⟩, [6, 5]), (⟨(some 13), (some (10, true)), .c (.c (.clo 40 [])) [(.t 12)]⟩, [7, 5, 5]), (⟨(some 14), (some (10, true)), .q (.fadr 1 (.t 3))⟩, [5]), (⟨(some 15), (some (10, true)), .q (.load false 1 (.t 14))⟩, [9, 5]), (⟨(some 16), (some (10, true)), .c (.c (.clo 40 [])) [(.t 15)]⟩, [10, 8, 5]), (⟨(some 17), (some (10, true)), .q (.bin .eql (.t 13) (.t 16))⟩, [8, 11, 5]), (⟨(some 18), none, .q (.pick (.t 10) (.t 17) (.c (.sc (.bool false))))⟩, [5, 12]), (⟨(some 4), none, .q (.mov (.t 18))⟩, [13, 11, 0, 1, 2, 3, 4, 5, 6, 7, 8, 9, 10, 11, 12, 13])])
  .ret))
theorem K39 : Try.f39.body.bind (comp Try.prog) = some A39 ∧ Try.f39.ntmps = 19 ∧ Try.f39.results.toList.mapM (resB Try.prog) = some [.mov (.t 4)] := ⟨by kernel_rfl, by kernel_rfl, by kernel_rfl⟩
/- 41: loop.example/g00464/laws.eqMark -/
def A41 : AC := (.seq (.ops [⟨(some 2), none, .w (.box (.t 0))⟩, ⟨(some 3), none, .w (.box (.t 1))⟩, ⟨(some 4), none, .q (.mov (.c (.sc (.bool false))))⟩])
  (.seq (.seq (.ops [⟨(some 5), none, .q (.fadr 0 (.t 2))⟩, ⟨(some 6), none, .q (.load false 1 (.t 5))⟩, ⟨(some 7), none, .q (.fadr 0 (.t 3))⟩, ⟨(some 8), none, .q (.load false 1 (.t 7))⟩, ⟨(some 9), none, .q (.bin .neq (.t 6) (.t 8))⟩])
  (.cond (.t 9) (.seq (.ops [⟨(some 4), none, .q (.mov (.c (.sc (.bool false))))⟩])
  .ret)
  .skip))
  (.seq (.seq (.ops [⟨(some 10), none, .q (.fadr 1 (.t 2))⟩, ⟨(some 11), none, .q (.load false 1 (.t 10))⟩, ⟨(some 12), none, .q (.fadr 1 (.t 3))⟩, ⟨(some 13), none, .q (.load false 1 (.t 12))⟩, ⟨(some 14), none, .q (.bin .neq (.t 11) (.t 13))⟩])
  (.cond (.t 14) (.seq (.ops [⟨(some 4), none, .q (.mov (.c (.sc (.bool false))))⟩])
  .ret)
  .skip))
  (.seq (.ops [⟨(some 4), none, .q (.mov (.c (.sc (.bool true))))⟩])
  .ret))))
theorem K41 : Try.f41.body.bind (comp Try.prog) = some A41 ∧ Try.f41.ntmps = 15 ∧ Try.f41.results.toList.mapM (resB Try.prog) = some [.mov (.t 4)] := ⟨by kernel_rfl, by kernel_rfl, by kernel_rfl⟩
/- 4: loop.example/g00464/laws.FnExactSameMarks -/
def A4 : AC := (.seq (.ops [⟨(some 4), none, .q (.mov (.c (.sc (.bool false))))⟩])
  (.seq (.ops [⟨(some 5), none, .q (.mov (.c (.sc (.int .i64 1048576))))⟩])
  (.seq (.ops [⟨(some 10), none, .q (.mov (.t 0))⟩, ⟨(some 11), none, .q (.mov (.t 5))⟩, ⟨(some 12), none, .c (.c (.clo 11 [])) [(.t 10), (.t 11)]⟩, ⟨(some 5), none, .q (.mov (.t 12))⟩])
  (.seq (.seq (.ops [⟨(some 13), none, .q (.mov (.t 5))⟩, ⟨(some 14), none, .q (.bin .lss (.t 13) (.c (.sc (.int .i64 0))))⟩])
  (.cond (.t 14) (.seq (.ops [⟨(some 4), none, .q (.mov (.c (.sc (.bool true))))⟩])
  .ret)
  .skip))
  (.seq (.ops [⟨(some 15), none, .q (.mov (.t 1))⟩, ⟨(some 16), none, .q (.mov (.t 5))⟩, ⟨(some 17), none, .c (.c (.clo 11 [])) [(.t 15), (.t 16)]⟩, ⟨(some 5), none, .q (.mov (.t 17))⟩])
  (.seq (.seq (.ops [⟨(some 18), none, .q (.mov (.t 5))⟩, ⟨(some 19), none, .q (.bin .lss (.t 18) (.c (.sc (.int .i64 0))))⟩])
  (.cond (.t 19) (.seq (.ops [⟨(some 4), none, .q (.mov (.c (.sc (.bool true))))⟩])
  .ret)
  .skip))
  (.seq (.ops [⟨(some 20), none, .q (.mov (.t 0))⟩, ⟨(some 21), none, .c (.c (.clo 13 [])) [(.t 20)]⟩, ⟨(some 22), none, .q (.mov (.t 1))⟩, ⟨(some 23), none, .c (.c (.clo 13 [])) [(.t 22)]⟩, ⟨(some 24), none, .c (.c (.clo 12 [])) [(.t 21), (.t 23)]⟩, ⟨(some 6), none, .q (.mov (.t 24))⟩])
  (.seq (.ops [⟨(some 25), none, .q (.mov (.t 0))⟩, ⟨(some 26), none, .c (.c (.clo 13 [])) [(.t 25)]⟩, ⟨(some 7), none, .q (.mov (.t 26))⟩])
  (.seq (.ops [⟨(some 27), none, .q (.mov (.t 1))⟩, ⟨(some 28), none, .c (.c (.clo 13 [])) [(.t 27)]⟩, ⟨(some 8), none, .q (.mov (.t 28))⟩])
  (.seq (.ops [⟨(some 29), none, .q (.mov (.t 7))⟩, ⟨(some 30), none, .q (.mov (.t 8))⟩, ⟨(some 31), none, .c (.c (.clo 14 [])) [(.t 29), (.t 30)]⟩, ⟨(some 9), none, .q (.mov (.t 31))⟩])
  (.seq (.seq (.ops [⟨(some 32), none, .q (.mov (.t 9))⟩, ⟨(some 33), none, .q (.mov (.t 6))⟩, ⟨(some 34), none, .q (.beq true (.t 32) (.t 33))⟩])
  (.cond (.t 34) (.seq (.ops [⟨(some 4), none, .q (.mov (.c (.sc (.bool false))))⟩])
  .ret)
  .skip))
  (.seq (.seq (.ops [⟨(some 35), none, .q (.mov (.t 7))⟩, ⟨(some 36), none, .q (.mov (.t 0))⟩, ⟨(some 37), none, .c (.c (.clo 13 [])) [(.t 36)]⟩, ⟨(some 38), none, .c (.c (.clo 15 [])) [(.t 35), (.t 37)]⟩, ⟨(some 39), none, .q (.not (.t 38))⟩])
  (.cond (.t 39) (.seq (.ops [⟨(some 4), none, .q (.mov (.c (.sc (.bool false))))⟩])
  .ret)
  .skip))
  (.seq (.seq (.ops [⟨(some 40), none, .q (.mov (.t 8))⟩, ⟨(some 41), none, .q (.mov (.t 1))⟩, ⟨(some 42), none, .c (.c (.clo 13 [])) [(.t 41)]⟩, ⟨(some 43), none, .c (.c (.clo 15 [])) [(.t 40), (.t 42)]⟩, ⟨(some 44), none, .q (.not (.t 43))⟩])
  (.cond (.t 44) (.seq (.ops [⟨(some 4), none, .q (.mov (.c (.sc (.bool false))))⟩])
  .ret)
  .skip))
  (.seq (.ops [⟨(some 4), none, .q (.mov (.c (.sc (.bool true))))⟩])
  .ret))))))))))))))
theorem K4 : Try.f4.body.bind (comp Try.prog) = some A4 ∧ Try.f4.ntmps = 45 ∧ Try.f4.results.toList.mapM (resB Try.prog) = some [.mov (.t 4)] := ⟨by kernel_rfl, by kernel_rfl, by kernel_rfl⟩
structure Mark where
  key : ByteArray
  how : Int
def Mark.cs (m : Mark) : List AV := [.sc (.string m.key), .sc (.int .i64 m.how)]
def szMark (m : Mark) (left : Int) : Int := if IntKind.i64.wrap (left - m.key.size) < 0 then -1 else IntKind.i64.wrap (left - m.key.size)
def szL {α : Type} (f : α → Int → Int) : List α → Int → Int
  | [], l => l
  | x :: xs, l => if f x l < 0 then -1 else szL f xs (f x l)
def szS {α : Type} (f : α → Int → Int) (xs : List α) (left : Int) : Int := if IntKind.i64.wrap (left - xs.length) < 0 then -1 else szL f xs (IntKind.i64.wrap (left - xs.length))
theorem R35 (m : Mark) (left : Int) : Ret Try.prog 35 [.agg m.cs, .sc (.int .i64 left)] (.sc (.int .i64 (szMark m left))) [.un, .un] := by
  refine Ret.run Try.func35 K35 (by simp) rfl rfl 500 ?_
  simp +contextual [A35, iniρ, Mark.cs, szMark]
  intros; omega
theorem Mark.len (m : Mark) : m.cs.length = 2 := rfl
theorem R11 (xs : List Mark) (hb : xs.length < 4611686018427387904) (left : Int) : Ret Try.prog 11 [.ro (rows Mark.cs xs) xs.length, .sc (.int .i64 left)] (.sc (.int .i64 (szS szMark xs left))) [.un, .un] := by
  refine Ret.run Try.func11 K11 (by simp) rfl rfl 500 ?_
  simp [A11, iniρ]
  split
  · rename_i h; simp [szS, h]
  · rename_i h
    have hS : szS szMark xs left = szL szMark xs (IntKind.i64.wrap (left - ↑xs.length)) := by simp [szS, h]
    rw [hS]
    clear hS
    generalize IntKind.i64.wrap (left - ↑xs.length) = l0 at *
    refine T.rounds (μ := fun i : List Mark × List Mark × Int => i.2.1.length)
      (fun i s => i.1 ++ i.2.1 = xs ∧ szL szMark i.2.1 i.2.2 = szL szMark xs l0 ∧ s.ρ 0 = .ro (rows Mark.cs xs) xs.length ∧ s.ρ 1 = .sc (.int .i64 i.2.2) ∧ s.ρ 5 = .sc (.int .i64 i.1.length) ∧ s.h = h0 ∧ s.n = 27) ([], xs, l0) (by simp [upd_app]) ?_
    rintro ⟨pre, rest, l⟩ ⟨ρ, hh, n⟩ ⟨hx, hL, h0', h1', h5', rfl, rfl⟩
    simp only at hx hL h0' h1' h5'
    refine run_ok (n := 400) ?_
    cases rest with
    | nil =>
      simp at hx
      subst hx
      simp [h0', h1', h5']
      refine T.on 400 ?_
      simp [h1', ← hL, szL]
    | cons x rest =>
      have hlt : (pre.length : Int) < xs.length := by rw [← hx]; simp only [List.length_append, List.length_cons]; omega
      have hd := rows_drop Mark.len pre (x :: rest)
      rw [hx, rows_cons] at hd
      have hw : IntKind.i64.wrap ((pre.length : Int) + 1) = pre.length + 1 := wrap_i64 (by omega) (by omega)
      simp [h0', h1', h5', hlt, hd, Mark.cs]
      refine callK.ro 23 rfl (by kernel_rfl) (by simp [roc, upd_app, Mark.cs]) (R35 x l) rfl rfl rfl ?_
      simp [h5', hw]
      split
      · rename_i hz; simp [← hL, szL, hz]
      · rename_i hz
        refine ⟨pre ++ [x], rest, by simp, szMark x l, _, Le.refl _, ?_⟩
        simp [hx, h0', ← hL, szL, hz, upd_app]
theorem mixed : Try.prog.follows .mixedOrders = true := by kernel_rfl
theorem R36 (n : Int) : Ret Try.prog 36 [.sc (.int .i64 n)] (.sc (.int .i64 (if n = 2 then 1 else n))) [.un] := by
  refine Ret.run Try.func36 K36 (by simp) rfl rfl 500 ?_
  simp +contextual [A36, iniρ]
theorem R40 (n : Int) : Ret Try.prog 40 [.sc (.int .i64 n)] (.sc (.int .i64 (if n = 2 then 1 else n))) [.un] := by
  refine Ret.run Try.func40 K40 (by simp) rfl rfl 500 ?_
  simp +contextual [A40, iniρ]
def eqMark (m n : Mark) : Bool := m.key.toList == n.key.toList && m.how == n.how
def sameMark (m n : Mark) : Bool := m.key.toList == n.key.toList && (if m.how = 2 then 1 else m.how) == (if n.how = 2 then 1 else n.how)
theorem R41 (m n : Mark) : Ret Try.prog 41 [.agg m.cs, .agg n.cs] (.sc (.bool (eqMark m n))) [.un, .un] := by
  refine Ret.run Try.func41 K41 (by simp) rfl rfl 500 ?_
  simp [A41, iniρ, Mark.cs, eqMark]
  by_cases h1 : m.key.toList = n.key.toList <;> by_cases h2 : m.how = n.how <;> simp [h1, h2]
theorem R39 (m n : Mark) : Ret Try.prog 39 [.agg m.cs, .agg n.cs] (.sc (.bool (sameMark m n))) [.un, .un] := by
  refine Ret.run Try.func39 K39 (by simp) rfl rfl 500 ?_
  simp [A39, iniρ, Mark.cs]
  refine T.text 400 mixed (by kernel_rfl) (by kernel_rfl) ?_
  by_cases h : m.key.toList = n.key.toList
  · simp [h]
    refine callSK.by rfl (by kernel_rfl) rfl (R40 _) ?_
    simp [h]
    refine callSK.by rfl (by kernel_rfl) rfl (R40 _) ?_
    simp [h]
    simp [sameMark, h]
  · simp [h]
    simp [sameMark, h]

def Mark.z (_ : Mark) : List AV := [.sc (.string ⟨#[]⟩), .sc (.int .i64 0)]
theorem R37 (m : Mark) : Ret Try.prog 37 [.agg m.cs] (.agg m.cs) [.un] := by
  refine Ret.run Try.func37 K37 (by simp) rfl rfl 500 ?_
  simp [A37, iniρ, Mark.cs, over]
theorem Mark.zlen (m : Mark) : m.z.length = 2 := rfl
theorem Mark.fr (m : Mark) : ∀ c ∈ m.cs, idfree c = true := by simp [Mark.cs, idfree]
theorem R13 (xs : List Mark) (hb : xs.length < 8796093022208) : Ret Try.prog 13 [.ro (rows Mark.cs xs) xs.length] (.own (rows Mark.cs xs) xs.length 2) [.un] := by
  refine Ret.run Try.func13 K13 (by simp) rfl rfl 500 ?_
  have h1 : (xs.length : Int) * 24 ≤ 281474976710656 := by omega
  have h2 : (xs.length : Int) ≤ 9223372036854775807 := by omega
  simp [A13, iniρ, h1, h2]
  refine T.rounds (μ := fun i : List Mark × List Mark => i.2.length)
    (fun i s => i.1 ++ i.2 = xs ∧ s.ρ 0 = .ro (rows Mark.cs xs) xs.length ∧ s.ρ 3 = .sl 7 0 xs.length 2 false ∧ s.ρ 4 = .sc (.int .i64 i.1.length) ∧ s.h 7 = some (some (rows Mark.cs i.1 ++ rows Mark.z i.2)) ∧ s.n = 23) ([], xs) (by simp [upd_app, rows_nil, flatten_rep]; rfl) ?_
  rintro ⟨pre, rest⟩ ⟨ρ, hh, n⟩ ⟨hx, h0', h3', h4', h7', rfl⟩
  simp only at hx h0' h3' h4' h7'
  refine run_ok (n := 400) ?_
  cases rest with
  | nil =>
    simp at hx
    subst hx
    simp [h0', h3', h4']
    refine T.on 400 ?_
    simp [h3', h7', ex1, rows_nil, rows_length Mark.len, idfreeL_rows Mark.fr]
  | cons x rest =>
    have hlt : (pre.length : Int) < xs.length := by rw [← hx]; simp only [List.length_append, List.length_cons]; omega
    have hd := rows_drop Mark.len pre (x :: rest)
    rw [hx, rows_cons] at hd
    have hw : IntKind.i64.wrap ((pre.length : Int) + 1) = pre.length + 1 := wrap_i64 (by omega) (by omega)
    have hov : over _ _ [AV.sc (.string x.key), .sc (.int .i64 x.how)] = _ := rows_over Mark.len Mark.zlen pre rest x
    have hle : pre.length * 2 + 2 ≤ (rows Mark.cs pre).length + (rows Mark.z (x :: rest)).length := by rw [rows_length Mark.len, rows_length Mark.zlen, List.length_cons]; omega
    simp [h0', h3', h4', h7', hlt, hd, Mark.cs]
    refine callK.ro 23 rfl (by kernel_rfl) (by simp [roc, upd_app, Mark.cs]) (R37 x) rfl rfl rfl ?_
    simp [h3', h4', h7', hw, hlt, Mark.cs, hle, hov]
    refine ⟨pre ++ [x], rest, by simp, _, Le.refl _, ?_⟩
    simp [hx, h0', h3', upd_app]

def eqBy {α β : Type} (f : α → β → Bool) : List α → List β → Bool
  | [], [] => true
  | x :: xs, y :: ys => f x y && eqBy f xs ys
  | _, _ => false
theorem eqBy_len {α β : Type} {f : α → β → Bool} : ∀ {xs : List α} {ys : List β}, xs.length ≠ ys.length → eqBy f xs ys = false
  | [], [], h => absurd rfl h
  | [], _ :: _, _ => rfl
  | _ :: _, [], _ => rfl
  | x :: xs, y :: ys, h => by simp only [eqBy, eqBy_len (f := f) (xs := xs) (ys := ys) (by simpa using h), Bool.and_false]
theorem R15 (xs ys : List Mark) (hb : xs.length < 4611686018427387904) : Ret Try.prog 15 [.ro (rows Mark.cs xs) xs.length, .ro (rows Mark.cs ys) ys.length] (.sc (.bool (eqBy eqMark xs ys))) [.un, .un] := by
  refine Ret.run Try.func15 K15 (by simp) rfl rfl 500 ?_
  by_cases hl : xs.length = ys.length
  case neg =>
    have : ¬ ((xs.length : Int) = ys.length) := by omega
    simp [A15, iniρ, this, eqBy_len hl]
  simp [A15, iniρ, ← hl]
  refine T.rounds (μ := fun i : List Mark × List Mark × List Mark × List Mark => i.2.1.length)
    (fun i s => i.1 ++ i.2.1 = xs ∧ i.2.2.1 ++ i.2.2.2 = ys ∧ i.1.length = i.2.2.1.length ∧ eqBy eqMark i.2.1 i.2.2.2 = eqBy eqMark xs ys ∧ s.ρ 0 = .ro (rows Mark.cs xs) xs.length ∧ s.ρ 1 = .ro (rows Mark.cs ys) xs.length ∧ s.ρ 5 = .sc (.int .i64 i.1.length) ∧ s.h = h0 ∧ s.n = 27) ([], xs, [], ys) (by simp [upd_app]) ?_
  rintro ⟨pre, rest, pre', rest'⟩ ⟨ρ, hh, n⟩ ⟨hx, hy, hp, hE, h0', h1', h5', rfl, rfl⟩
  simp only at hx hy hp hE h0' h1' h5'
  refine run_ok (n := 400) ?_
  have hlr : rest.length = rest'.length := by have := congrArg List.length hx; have := congrArg List.length hy; simp only [List.length_append] at *; omega
  cases rest with
  | nil =>
    cases rest' with
    | cons y r => simp at hlr
    | nil =>
    simp at hx
    subst hx
    simp [h0', h5']
    refine T.on 400 ?_
    simp [← hE, eqBy]
  | cons x rest =>
    cases rest' with
    | nil => simp at hlr
    | cons y rest' =>
    have hlt : (pre.length : Int) < xs.length := by rw [← hx]; simp only [List.length_append, List.length_cons]; omega
    have hd := rows_drop Mark.len pre (x :: rest)
    rw [hx, rows_cons] at hd
    have hd' := rows_drop Mark.len pre' (y :: rest')
    rw [hy, rows_cons, ← hp] at hd'
    have hw : IntKind.i64.wrap ((pre.length : Int) + 1) = pre.length + 1 := wrap_i64 (by omega) (by omega)
    simp [h0', h1', h5', hlt]
    refine T.text 400 mixed (by kernel_rfl) (by kernel_rfl) ?_
    simp [h0', h1', h5', hlt, hd, hd', Mark.cs]
    refine callSK.by rfl (by kernel_rfl) (by simp [roc, upd_app, Mark.cs]) (R41 x y) ?_
    cases hE1 : eqMark x y
    · simp [h5', hw, ← hE, eqBy, hE1]
    · simp [h5', hw]
      refine ⟨pre ++ [x], rest, by simp, pre' ++ [y], rest', _, Le.refl _, ?_⟩
      simp [hx, hy, hp, h0', h1', ← hE, eqBy, hE1, upd_app]
set_option maxHeartbeats 2000000 in
theorem R12 (xs ys : List Mark) (hb : xs.length < 4611686018427387904) : Ret Try.prog 12 [.ro (rows Mark.cs xs) xs.length, .ro (rows Mark.cs ys) ys.length] (.sc (.bool (eqBy sameMark xs ys))) [.un, .un] := by
  refine Ret.run Try.func12 K12 (by simp) rfl rfl 500 ?_
  by_cases hl : xs.length = ys.length
  case neg =>
    have : ¬ ((xs.length : Int) = ys.length) := by omega
    simp [A12, iniρ, this, eqBy_len hl]
  simp [A12, iniρ, ← hl]
  refine T.rounds (μ := fun i : List Mark × List Mark × List Mark × List Mark => i.2.1.length)
    (fun i s => i.1 ++ i.2.1 = xs ∧ i.2.2.1 ++ i.2.2.2 = ys ∧ i.1.length = i.2.2.1.length ∧ eqBy sameMark i.2.1 i.2.2.2 = eqBy sameMark xs ys ∧ s.ρ 0 = .ro (rows Mark.cs xs) xs.length ∧ s.ρ 1 = .ro (rows Mark.cs ys) xs.length ∧ s.ρ 5 = .sc (.int .i64 i.1.length) ∧ s.h = h0 ∧ s.n = 43) ([], xs, [], ys) (by simp [upd_app]) ?_
  rintro ⟨pre, rest, pre', rest'⟩ ⟨ρ, hh, n⟩ ⟨hx, hy, hp, hE, h0', h1', h5', rfl, rfl⟩
  simp only at hx hy hp hE h0' h1' h5'
  refine run_ok (n := 400) ?_
  have hlr : rest.length = rest'.length := by have := congrArg List.length hx; have := congrArg List.length hy; simp only [List.length_append] at *; omega
  cases rest with
  | nil =>
    cases rest' with
    | cons y r => simp at hlr
    | nil =>
    simp at hx
    subst hx
    simp [h0', h5']
    refine T.on 400 ?_
    simp [← hE, eqBy]
  | cons x rest =>
    cases rest' with
    | nil => simp at hlr
    | cons y rest' =>
    have hlt : (pre.length : Int) < xs.length := by rw [← hx]; simp only [List.length_append, List.length_cons]; omega
    have hd := rows_drop Mark.len pre (x :: rest)
    rw [hx, rows_cons] at hd
    have hd' := rows_drop Mark.len pre' (y :: rest')
    rw [hy, rows_cons, ← hp] at hd'
    have hdh : List.drop (pre.length * 2 + 1) (rows Mark.cs xs) = [.sc (.int .i64 x.how)] ++ rows Mark.cs rest := by rw [← List.drop_drop, hd]; rfl
    have hdh' : List.drop (pre.length * 2 + 1) (rows Mark.cs ys) = [.sc (.int .i64 y.how)] ++ rows Mark.cs rest' := by rw [← List.drop_drop, hd']; rfl
    have hw : IntKind.i64.wrap ((pre.length : Int) + 1) = pre.length + 1 := wrap_i64 (by omega) (by omega)
    simp [h0', h1', h5', hlt]
    refine T.text 400 mixed (by kernel_rfl) (by kernel_rfl) ?_
    by_cases hk : x.key.toList = y.key.toList
    case neg => simp [h0', h1', h5', hlt, hd, hd', Mark.cs, hk, ← hE, eqBy, sameMark]
    simp (maxSteps := 1000000) [h0', h1', h5', hlt, hd, hd', hdh, hdh', Mark.cs, hk]
    refine callSK.by rfl (by kernel_rfl) rfl (R36 x.how) ?_
    simp [h0', h1', h5', hlt, hd, hd', hdh, hdh', Mark.cs, hk]
    refine callSK.by rfl (by kernel_rfl) rfl (R36 y.how) ?_
    by_cases hE1 : (if x.how = 2 then 1 else x.how) = (if y.how = 2 then 1 else y.how)
    case neg => simp [hk, hE1, ← hE, eqBy, sameMark]
    simp [h5', hw, hk, hE1]
    refine ⟨pre ++ [x], rest, by simp, pre' ++ [y], rest', _, Le.refl _, ?_⟩
    simp [hx, hy, hp, h0', h1', ← hE, eqBy, hE1, hk, sameMark, upd_app]
theorem R38 (g : FuncId) (f : Mark → Mark → Bool) (hg : callB Try.prog g = true) (hf : ∀ x y, Ret Try.prog g [.agg (Mark.cs x), .agg (Mark.cs y)] (.sc (.bool (f x y))) [.un, .un]) (xs ys : List Mark) (hb : xs.length < 4611686018427387904) :
    Ret Try.prog 38 [.ro (rows Mark.cs xs) xs.length, .ro (rows Mark.cs ys) ys.length, .clo g []] (.sc (.bool (eqBy f xs ys))) [.un, .un, .un] := by
  refine Ret.run Try.func38 K38 (by simp) rfl rfl 500 ?_
  by_cases hl : xs.length = ys.length
  case neg =>
    have : ¬ ((xs.length : Int) = ys.length) := by omega
    simp [A38, iniρ, this, eqBy_len hl]
  simp [A38, iniρ, ← hl]
  refine T.rounds (μ := fun i : List Mark × List Mark × List Mark × List Mark => i.2.1.length)
    (fun i s => i.1 ++ i.2.1 = xs ∧ i.2.2.1 ++ i.2.2.2 = ys ∧ i.1.length = i.2.2.1.length ∧ eqBy f i.2.1 i.2.2.2 = eqBy f xs ys ∧ s.ρ 15 = .ro (rows Mark.cs xs) xs.length ∧ s.ρ 1 = .ro (rows Mark.cs ys) xs.length ∧ s.ρ 2 = .clo g [] ∧ s.ρ 16 = .sc (.int .i64 xs.length) ∧ s.ρ 17 = .sc (.int .i64 i.1.length) ∧ s.h 8 = none ∧ s.h 9 = none ∧ s.n = 32) ([], xs, [], ys) (by simp [upd_app]) ?_
  rintro ⟨pre, rest, pre', rest'⟩ ⟨ρ, hh, n⟩ ⟨hx, hy, hp, hE, h0', h1', h2', h16', h5', h8', h9', rfl⟩
  simp only at hx hy hp hE h0' h1' h2' h16' h5' h8' h9'
  refine run_ok (n := 400) ?_
  have hlr : rest.length = rest'.length := by have := congrArg List.length hx; have := congrArg List.length hy; simp only [List.length_append] at *; omega
  cases rest with
  | nil =>
    cases rest' with
    | cons y r => simp at hlr
    | nil =>
    simp at hx
    subst hx
    simp [h0', h5', h16']
    refine T.on 400 ?_
    simp [← hE, eqBy]
  | cons x rest =>
    cases rest' with
    | nil => simp at hlr
    | cons y rest' =>
    have hlt : (pre.length : Int) < xs.length := by rw [← hx]; simp only [List.length_append, List.length_cons]; omega
    have hd := rows_drop Mark.len pre (x :: rest)
    rw [hx, rows_cons] at hd
    have hd' := rows_drop Mark.len pre' (y :: rest')
    rw [hy, rows_cons, ← hp] at hd'
    have hw : IntKind.i64.wrap ((pre.length : Int) + 1) = pre.length + 1 := wrap_i64 (by omega) (by omega)
    simp [h0', h1', h2', h16', h5', h8', h9', hlt, hd, hd', Mark.cs, over]
    refine callK.ro 29 (caps := []) (f := g) (by simp [upd_app, h2']) hg (by simp [roc, upd_app, Mark.cs]) (hf x y) rfl rfl rfl ?_
    cases hE1 : f x y
    · simp [h5', hw, ← hE, eqBy, hE1]
    · simp [h5', hw]
      refine ⟨pre ++ [x], rest, by simp, pre' ++ [y], rest', _, Le.reset [15, 1, 2, 16, 17] [] ?_ (by simp), ?_⟩
      · simp [upd_app, menB, idfree, idfree.idfreeL, h0', h1', h2', h16']
      · simp [hx, hy, hp, h0', h1', h2', h16', ← hE, eqBy, hE1, upd_app]
theorem R14 (xs ys : List Mark) (hb : xs.length < 4611686018427387904) : Ret Try.prog 14 [.ro (rows Mark.cs xs) xs.length, .ro (rows Mark.cs ys) ys.length] (.sc (.bool (eqBy sameMark xs ys))) [.un, .un] := by
  refine Ret.run Try.func14 K14 (by simp) rfl rfl 500 ?_
  simp [A14, iniρ]
  refine callK.ro 7 rfl (by kernel_rfl) (by simp [roc, upd_app]) (R38 39 sameMark (by kernel_rfl) R39 xs ys hb) rfl rfl rfl ?_
  simp
theorem Mark.sh (m : Mark) : ∀ c ∈ m.cs, shut c = true := by simp [Mark.cs, shut]
theorem Mark.fl (m : Mark) : ∀ c ∈ m.cs, flt c = true := by simp [Mark.cs, flt]
theorem eqBy_refl {α : Type} {f : α → α → Bool} (h : ∀ x, f x x = true) (xs : List α) : eqBy f xs xs = true := by
  induction xs with
  | nil => rfl
  | cons x xs ih => simp [eqBy, h, ih]
theorem Mark.roc {h : Nat → Option (Option (List AV))} {b : Nat} {xs : List Mark} {lim : Bool} (hb : h b = some (some (rows Mark.cs xs))) : Am.roc h 4 (.sl b 0 xs.length 2 lim) = some (.ro (rows Mark.cs xs) xs.length) :=
  roc_sl hb (rows_length Mark.len xs) (shutL_rows Mark.sh xs)
theorem Mark.flo (xs : List Mark) : flt (.own (rows Mark.cs xs) xs.length 2) = true := by simpa [flt] using fltL_rows Mark.fl xs
theorem eqMark_refl (m : Mark) : eqMark m m = true := by simp [eqMark]
theorem R4 (xs ys : List Mark) (hx : xs.length < 8796093022208) (hy : ys.length < 8796093022208) : Ret Try.prog 4 [.ro (rows Mark.cs xs) xs.length, .ro (rows Mark.cs ys) ys.length] (.sc (.bool true)) [.un, .un] := by
  have bx : xs.length < 4611686018427387904 := by omega
  have by' : ys.length < 4611686018427387904 := by omega
  refine Ret.run Try.func4 K4 (by simp) rfl rfl 500 ?_
  simp [A4, iniρ]
  refine callK.ro 12 rfl (by kernel_rfl) (by simp [roc, upd_app]) (R11 xs bx 1048576) rfl rfl rfl ?_
  simp
  by_cases h1 : szS szMark xs 1048576 < 0
  case pos => simp [h1]; intro; omega
  simp [h1, Int.not_lt.1 h1]
  refine callK.ro 17 rfl (by kernel_rfl) (by simp [roc, upd_app]) (R11 ys by' (szS szMark xs 1048576)) rfl rfl rfl ?_
  simp
  by_cases h2 : szS szMark ys (szS szMark xs 1048576) < 0
  case pos => simp [h2]; intro; omega
  simp [h2, Int.not_lt.1 h2]
  refine callK.own 21 rfl (by kernel_rfl) (by simp [roc, upd_app]) (R13 xs hx) (Mark.flo xs) (by simp) rfl ?_
  simp
  refine callK.own 23 rfl (by kernel_rfl) (by simp [roc, upd_app]) (R13 ys hy) (Mark.flo ys) (by simp) rfl ?_
  simp
  refine callK.ro 24 rfl (by kernel_rfl) (by simp [Mark.roc (xs := xs), Mark.roc (xs := ys)]) (R12 xs ys bx) rfl rfl rfl ?_
  simp
  refine callK.own 26 rfl (by kernel_rfl) (by simp [roc, upd_app]) (R13 xs hx) (Mark.flo xs) (by simp) rfl ?_
  simp
  refine callK.own 28 rfl (by kernel_rfl) (by simp [roc, upd_app]) (R13 ys hy) (Mark.flo ys) (by simp) rfl ?_
  simp
  refine callK.ro 31 rfl (by kernel_rfl) (by simp [Mark.roc (xs := xs), Mark.roc (xs := ys)]) (R14 xs ys bx) rfl rfl rfl ?_
  simp
  refine callK.own 37 rfl (by kernel_rfl) (by simp [roc, upd_app]) (R13 xs hx) (Mark.flo xs) (by simp) rfl ?_
  simp
  refine callK.ro 38 rfl (by kernel_rfl) (by simp [Mark.roc (xs := xs)]) (R15 xs xs bx) rfl rfl rfl ?_
  simp [eqBy_refl eqMark_refl]
  refine callK.own 42 rfl (by kernel_rfl) (by simp [roc, upd_app]) (R13 ys hy) (Mark.flo ys) (by simp) rfl ?_
  simp
  refine callK.ro 43 rfl (by kernel_rfl) (by simp [Mark.roc (xs := ys)]) (R15 ys ys by') rfl rfl rfl ?_
  simp [eqBy_refl eqMark_refl]
end Go.Proofs.Ytlajojcobadieaa.Am
