/- The functions that FnExactSameMades reaches, each by its contract. -/
import Derived.Test.YtlajojcobadieaaProg
import Derived.Test.YtlajojcobadieaaAmP
import Derived.KernelRfl
namespace Go.Proofs.Ytlajojcobadieaa.Am
open Go Go.Proofs
set_option linter.unusedSimpArgs false
set_option linter.unusedVariables false
attribute [local congr] T_congr callK_congr
attribute [local simp] run exec_q exec_w exec_c rest_app restS_app execS_q execS_c aval dOk upd_app ev_t ev_c setO_some setO_none put_mk pinsOf isIo sbin endR fin resL one outL out1 clo1 cloL shut shut.shutL wantA weff cellsOf fillA deref natOf ρ0_app h0_app plain plain.plainL keep_app keepH_app andThen_normal andThen_ret andThen_exit pop_nil pop_after pop_after_ret pop_after_exit pop_blk pop_blk_ret pop_blk_exit runS
/- 7: loop.example/g00464/laws.FnExactSameMades -/
def A7 : AC := (.seq (.ops [⟨(some 4), none, .q (.mov (.c (.sc (.bool false))))⟩])
  (.seq (.ops [⟨(some 5), none, .q (.mov (.c (.sc (.int .i64 1048576))))⟩])
  (.seq (.ops [⟨(some 10), none, .q (.mov (.t 0))⟩, ⟨(some 11), none, .q (.mov (.t 5))⟩, ⟨(some 12), none, .c (.c (.clo 25 [])) [(.t 10), (.t 11)]⟩, ⟨(some 5), none, .q (.mov (.t 12))⟩])
  (.seq (.seq (.ops [⟨(some 13), none, .q (.mov (.t 5))⟩, ⟨(some 14), none, .q (.bin .lss (.t 13) (.c (.sc (.int .i64 0))))⟩])
  (.cond (.t 14) (.seq (.ops [⟨(some 4), none, .q (.mov (.c (.sc (.bool true))))⟩])
  .ret)
  .skip))
  (.seq (.ops [⟨(some 15), none, .q (.mov (.t 1))⟩, ⟨(some 16), none, .q (.mov (.t 5))⟩, ⟨(some 17), none, .c (.c (.clo 25 [])) [(.t 15), (.t 16)]⟩, ⟨(some 5), none, .q (.mov (.t 17))⟩])
  (.seq (.seq (.ops [⟨(some 18), none, .q (.mov (.t 5))⟩, ⟨(some 19), none, .q (.bin .lss (.t 18) (.c (.sc (.int .i64 0))))⟩])
  (.cond (.t 19) (.seq (.ops [⟨(some 4), none, .q (.mov (.c (.sc (.bool true))))⟩])
  .ret)
  .skip))
  (.seq (.ops [⟨(some 20), none, .q (.mov (.t 0))⟩, ⟨(some 21), none, .c (.c (.clo 27 [])) [(.t 20)]⟩, ⟨(some 22), none, .q (.mov (.t 1))⟩, ⟨(some 23), none, .c (.c (.clo 27 [])) [(.t 22)]⟩, ⟨(some 24), none, .c (.c (.clo 26 [])) [(.t 21), (.t 23)]⟩, ⟨(some 6), none, .q (.mov (.t 24))⟩])
  (.seq (.ops [⟨(some 25), none, .q (.mov (.t 0))⟩, ⟨(some 26), none, .c (.c (.clo 27 [])) [(.t 25)]⟩, ⟨(some 7), none, .q (.mov (.t 26))⟩])
  (.seq (.ops [⟨(some 27), none, .q (.mov (.t 1))⟩, ⟨(some 28), none, .c (.c (.clo 27 [])) [(.t 27)]⟩, ⟨(some 8), none, .q (.mov (.t 28))⟩])
  (.seq (.ops [⟨(some 29), none, .q (.mov (.t 7))⟩, ⟨(some 30), none, .q (.mov (.t 8))⟩, ⟨(some 31), none, .c (.c (.clo 28 [])) [(.t 29), (.t 30)]⟩, ⟨(some 9), none, .q (.mov (.t 31))⟩])
  (.seq (.seq (.ops [⟨(some 32), none, .q (.mov (.t 9))⟩, ⟨(some 33), none, .q (.mov (.t 6))⟩, ⟨(some 34), none, .q (.beq true (.t 32) (.t 33))⟩])
  (.cond (.t 34) (.seq (.ops [⟨(some 4), none, .q (.mov (.c (.sc (.bool false))))⟩])
  .ret)
  .skip))
  (.seq (.seq (.ops [⟨(some 35), none, .q (.mov (.t 7))⟩, ⟨(some 36), none, .q (.mov (.t 0))⟩, ⟨(some 37), none, .c (.c (.clo 27 [])) [(.t 36)]⟩, ⟨(some 38), none, .c (.c (.clo 29 [])) [(.t 35), (.t 37)]⟩, ⟨(some 39), none, .q (.not (.t 38))⟩])
  (.cond (.t 39) (.seq (.ops [⟨(some 4), none, .q (.mov (.c (.sc (.bool false))))⟩])
  .ret)
  .skip))
  (.seq (.seq (.ops [⟨(some 40), none, .q (.mov (.t 8))⟩, ⟨(some 41), none, .q (.mov (.t 1))⟩, ⟨(some 42), none, .c (.c (.clo 27 [])) [(.t 41)]⟩, ⟨(some 43), none, .c (.c (.clo 29 [])) [(.t 40), (.t 42)]⟩, ⟨(some 44), none, .q (.not (.t 43))⟩])
  (.cond (.t 44) (.seq (.ops [⟨(some 4), none, .q (.mov (.c (.sc (.bool false))))⟩])
  .ret)
  .skip))
  (.seq (.ops [⟨(some 4), none, .q (.mov (.c (.sc (.bool true))))⟩])
  .ret))))))))))))))
theorem K7 : Try.f7.body.bind (comp Try.prog) = some A7 ∧ Try.f7.ntmps = 45 ∧ Try.f7.results.toList.mapM (resB Try.prog) = some [.mov (.t 4)] := ⟨by kernel_rfl, by kernel_rfl, by kernel_rfl⟩
/- 25: loop.example/g00464/laws.szMadeS -/
def A25 : AC := (.seq (.ops [⟨(some 4), none, .q (.mov (.c (.sc (.int .i64 0))))⟩])
  (.seq (.ops [⟨(some 6), none, .q (.mov (.t 1))⟩, ⟨(some 7), none, .q (.mov (.t 0))⟩, ⟨(some 8), none, .q (.llen (.t 7))⟩, ⟨(some 9), none, .q (.bin .sub (.t 6) (.t 8))⟩, ⟨(some 1), none, .q (.mov (.t 9))⟩])
  (.seq (.seq (.ops [⟨(some 10), none, .q (.mov (.t 1))⟩, ⟨(some 11), none, .q (.bin .lss (.t 10) (.c (.sc (.int .i64 0))))⟩])
  (.cond (.t 11) (.seq (.ops [⟨(some 4), none, .q (.mov (.c (.sc (.int .i64 (-1)))))⟩])
  .ret)
  .skip))
  (.seq (.seq (.ops [⟨(some 5), none, .q (.mov (.c (.sc (.int .i64 0))))⟩])
  (.block 0 (.loop (.seq (.seq (.ops [⟨(some 12), none, .q (.mov (.t 5))⟩, ⟨(some 13), none, .q (.mov (.t 0))⟩, ⟨(some 14), none, .q (.llen (.t 13))⟩, ⟨(some 15), none, .q (.bin .lss (.t 12) (.t 14))⟩])
  (.cond (.t 15) .skip
  (.exit 0)))
  (.seq (.block 1 (.seq (.ops [⟨(some 18), none, .q (.mov (.t 0))⟩, ⟨(some 19), none, .q (.mov (.t 5))⟩, ⟨(some 20), none, .q (.iadr 3 (.t 18) (.t 19))⟩, ⟨(some 21), none, .q (.load true 3 (.t 20))⟩, ⟨(some 22), none, .q (.mov (.t 1))⟩, ⟨(some 23), none, .c (.c (.clo 55 [])) [(.t 21), (.t 22)]⟩, ⟨(some 1), none, .q (.mov (.t 23))⟩])
  (.seq (.ops [⟨(some 24), none, .q (.mov (.t 1))⟩, ⟨(some 25), none, .q (.bin .lss (.t 24) (.c (.sc (.int .i64 0))))⟩])
  (.cond (.t 25) (.seq (.ops [⟨(some 4), none, .q (.mov (.c (.sc (.int .i64 (-1)))))⟩])
  .ret)
  .skip))))
  (.ops [⟨(some 16), none, .q (.mov (.t 5))⟩, ⟨(some 17), none, .q (.bin .add (.t 16) (.c (.sc (.int .i64 1))))⟩, ⟨(some 5), none, .q (.mov (.t 17))⟩]))))))
  (.seq (.ops [⟨(some 26), none, .q (.mov (.t 1))⟩, ⟨(some 4), none, .q (.mov (.t 26))⟩])
  .ret)))))
theorem K25 : Try.f25.body.bind (comp Try.prog) = some A25 ∧ Try.f25.ntmps = 27 ∧ Try.f25.results.toList.mapM (resB Try.prog) = some [.mov (.t 4)] := ⟨by kernel_rfl, by kernel_rfl, by kernel_rfl⟩
/- 26: loop.example/g00464/spec.SameMades -/
def A26 : AC := (.seq (.ops [⟨(some 4), none, .q (.mov (.c (.sc (.bool false))))⟩])
  (.seq (.seq (.ops [⟨(some 6), none, .q (.mov (.t 0))⟩, ⟨(some 7), none, .q (.llen (.t 6))⟩, ⟨(some 8), none, .q (.mov (.t 1))⟩, ⟨(some 9), none, .q (.llen (.t 8))⟩, ⟨(some 10), none, .q (.bin .neq (.t 7) (.t 9))⟩])
  (.cond (.t 10) (.seq (.ops [⟨(some 4), none, .q (.mov (.c (.sc (.bool false))))⟩])
  .ret)
  .skip))
  (.seq (.seq (.ops [⟨(some 5), none, .q (.mov (.c (.sc (.int .i64 0))))⟩])
  (.block 0 (.loop (.seq (.seq (.ops [⟨(some 11), none, .q (.mov (.t 5))⟩, ⟨(some 12), none, .q (.mov (.t 0))⟩, ⟨(some 13), none, .q (.llen (.t 12))⟩, ⟨(some 14), none, .q (.bin .lss (.t 11) (.t 13))⟩])
  (.cond (.t 14) .skip
  (.exit 0)))
  (.seq (.block 1 (.seq (.any [(⟨(some 17), none, .q (.mov (.t 0))⟩, []), (⟨(some 18), none, .q (.mov (.t 5))⟩, []), (⟨(some 19), none, .q (.iadr 3 (.t 17) (.t 18))⟩, [0, 1]), (⟨(some 20), none, .q (.load true 3 (.t 19))⟩, [2]), (⟨(some 21), none, .q (.mov (.t 1))⟩, []), (⟨(some 22), none, .q (.mov (.t 5))⟩, []), (⟨(some 23), none, .q (.iadr 3 (.t 21) (.t 22))⟩, [4, 5]), (⟨(some 24), none, .q (.load true 3 (.t 23))⟩, [6]), (⟨(some 25), none, .c (.c (.clo 56 [])) [(.t 20), (.t 24)]⟩, [3, 7]), (⟨(some 26), none, .q (.not (.t 25))⟩, [8])])
  (.cond (.t 26) (.seq (.ops [⟨(some 4), none, .q (.mov (.c (.sc (.bool false))))⟩])
  .ret)
  .skip)))
  (.ops [⟨(some 15), none, .q (.mov (.t 5))⟩, ⟨(some 16), none, .q (.bin .add (.t 15) (.c (.sc (.int .i64 1))))⟩, ⟨(some 5), none, .q (.mov (.t 16))⟩]))))))
  (.seq (.ops [⟨(some 4), none, .q (.mov (.c (.sc (.bool true))))⟩])
  .ret))))
theorem K26 : Try.f26.body.bind (comp Try.prog) = some A26 ∧ Try.f26.ntmps = 27 ∧ Try.f26.results.toList.mapM (resB Try.prog) = some [.mov (.t 4)] := ⟨by kernel_rfl, by kernel_rfl, by kernel_rfl⟩
/- 27: loop.example/g00464/laws.toMadeS -/
def A27 : AC := (.seq (.ops [⟨(some 2), none, .q (.mov (.c .em))⟩])
  (.seq (.ops [⟨(some 5), none, .q (.mov (.t 0))⟩, ⟨(some 6), none, .q (.llen (.t 5))⟩, ⟨(some 7), none, .w (.mk 3 56 [(.sc (.string ⟨#[]⟩)), .em, (.sc (.string ⟨#[]⟩))] (.t 6) (.t 6))⟩, ⟨(some 3), none, .q (.mov (.t 7))⟩])
  (.seq (.seq (.ops [⟨(some 4), none, .q (.mov (.c (.sc (.int .i64 0))))⟩])
  (.block 0 (.loop (.seq (.seq (.ops [⟨(some 8), none, .q (.mov (.t 4))⟩, ⟨(some 9), none, .q (.mov (.t 0))⟩, ⟨(some 10), none, .q (.llen (.t 9))⟩, ⟨(some 11), none, .q (.bin .lss (.t 8) (.t 10))⟩])
  (.cond (.t 11) .skip
  (.exit 0)))
  (.seq (.block 1 (.ops [⟨(some 14), none, .q (.mov (.t 3))⟩, ⟨(some 15), none, .q (.mov (.t 4))⟩, ⟨(some 16), none, .q (.mov (.t 0))⟩, ⟨(some 17), none, .q (.mov (.t 4))⟩, ⟨(some 18), none, .q (.iadr 3 (.t 16) (.t 17))⟩, ⟨(some 19), none, .q (.load true 3 (.t 18))⟩, ⟨(some 20), none, .c (.c (.clo 57 [])) [(.t 19)]⟩, ⟨(some 21), none, .q (.iadr 3 (.t 14) (.t 15))⟩, ⟨none, none, .w (.store 3 (.t 21) (.t 20))⟩]))
  (.ops [⟨(some 12), none, .q (.mov (.t 4))⟩, ⟨(some 13), none, .q (.bin .add (.t 12) (.c (.sc (.int .i64 1))))⟩, ⟨(some 4), none, .q (.mov (.t 13))⟩]))))))
  (.seq (.ops [⟨(some 22), none, .q (.mov (.t 3))⟩, ⟨(some 2), none, .q (.mov (.t 22))⟩])
  .ret))))
theorem K27 : Try.f27.body.bind (comp Try.prog) = some A27 ∧ Try.f27.ntmps = 23 ∧ Try.f27.results.toList.mapM (resB Try.prog) = some [.mov (.t 2)] := ⟨by kernel_rfl, by kernel_rfl, by kernel_rfl⟩
/- 28: loop.example/g00464/impl.SameMades -/
def A28 : AC := (.seq (.ops [⟨(some 4), none, .q (.mov (.c (.sc (.bool false))))⟩])
  (.seq (.ops [⟨(some 5), none, .q (.mov (.t 0))⟩, ⟨(some 6), none, .q (.mov (.t 1))⟩, ⟨(some 7), none, .c (.c (.clo 58 [])) [(.t 5), (.t 6), (.c (.clo 59 []))]⟩, ⟨(some 4), none, .q (.mov (.t 7))⟩])
  .ret))
theorem K28 : Try.f28.body.bind (comp Try.prog) = some A28 ∧ Try.f28.ntmps = 8 ∧ Try.f28.results.toList.mapM (resB Try.prog) = some [.mov (.t 4)] := ⟨by kernel_rfl, by kernel_rfl, by kernel_rfl⟩
/- 29: loop.example/g00464/laws.eqMadeS -/
def A29 : AC := (.seq (.ops [⟨(some 4), none, .q (.mov (.c (.sc (.bool false))))⟩])
  (.seq (.seq (.ops [⟨(some 6), none, .q (.mov (.t 0))⟩, ⟨(some 7), none, .q (.llen (.t 6))⟩, ⟨(some 8), none, .q (.mov (.t 1))⟩, ⟨(some 9), none, .q (.llen (.t 8))⟩, ⟨(some 10), none, .q (.bin .neq (.t 7) (.t 9))⟩])
  (.cond (.t 10) (.seq (.ops [⟨(some 4), none, .q (.mov (.c (.sc (.bool false))))⟩])
  .ret)
  .skip))
  (.seq (.seq (.ops [⟨(some 5), none, .q (.mov (.c (.sc (.int .i64 0))))⟩])
  (.block 0 (.loop (.seq (.seq (.ops [⟨(some 11), none, .q (.mov (.t 5))⟩, ⟨(some 12), none, .q (.mov (.t 0))⟩, ⟨(some 13), none, .q (.llen (.t 12))⟩, ⟨(some 14), none, .q (.bin .lss (.t 11) (.t 13))⟩])
  (.cond (.t 14) .skip
  (.exit 0)))
  (.seq (.block 1 (.seq (.any [(⟨(some 17), none, .q (.mov (.t 0))⟩, []), (⟨(some 18), none, .q (.mov (.t 5))⟩, []), (⟨(some 19), none, .q (.iadr 3 (.t 17) (.t 18))⟩, [0, 1]), (⟨(some 20), none, .q (.load true 3 (.t 19))⟩, [2]), (⟨(some 21), none, .q (.mov (.t 1))⟩, []), (⟨(some 22), none, .q (.mov (.t 5))⟩, []), (⟨(some 23), none, .q (.iadr 3 (.t 21) (.t 22))⟩, [4, 5]), (⟨(some 24), none, .q (.load true 3 (.t 23))⟩, [6]), (⟨(some 25), none, .c (.c (.clo 60 [])) [(.t 20), (.t 24)]⟩, [3, 7]), (⟨(some 26), none, .q (.not (.t 25))⟩, [8])])
  (.cond (.t 26) (.seq (.ops [⟨(some 4), none, .q (.mov (.c (.sc (.bool false))))⟩])
  .ret)
  .skip)))
  (.ops [⟨(some 15), none, .q (.mov (.t 5))⟩, ⟨(some 16), none, .q (.bin .add (.t 15) (.c (.sc (.int .i64 1))))⟩, ⟨(some 5), none, .q (.mov (.t 16))⟩]))))))
  (.seq (.ops [⟨(some 4), none, .q (.mov (.c (.sc (.bool true))))⟩])
  .ret))))
theorem K29 : Try.f29.body.bind (comp Try.prog) = some A29 ∧ Try.f29.ntmps = 27 ∧ Try.f29.results.toList.mapM (resB Try.prog) = some [.mov (.t 4)] := ⟨by kernel_rfl, by kernel_rfl, by kernel_rfl⟩
/- 55: loop.example/g00464/laws.szMade -/
def A55 : AC := (.seq (.ops [⟨(some 2), none, .w (.box (.t 0))⟩, ⟨(some 4), none, .q (.mov (.c (.sc (.int .i64 0))))⟩])
  (.seq (.ops [⟨(some 5), none, .q (.mov (.t 1))⟩, ⟨(some 6), none, .q (.fadr 0 (.t 2))⟩, ⟨(some 7), none, .q (.load false 1 (.t 6))⟩, ⟨(some 8), none, .q (.slen (.t 7))⟩, ⟨(some 9), none, .q (.bin .sub (.t 5) (.t 8))⟩, ⟨(some 1), none, .q (.mov (.t 9))⟩])
  (.seq (.seq (.ops [⟨(some 10), none, .q (.mov (.t 1))⟩, ⟨(some 11), none, .q (.bin .lss (.t 10) (.c (.sc (.int .i64 0))))⟩])
  (.cond (.t 11) (.seq (.ops [⟨(some 4), none, .q (.mov (.c (.sc (.int .i64 (-1)))))⟩])
  .ret)
  .skip))
  (.seq (.ops [⟨(some 12), none, .q (.fadr 1 (.t 2))⟩, ⟨(some 13), none, .q (.load false 1 (.t 12))⟩, ⟨(some 14), none, .q (.mov (.t 1))⟩, ⟨(some 15), none, .c (.c (.clo 78 [])) [(.t 13), (.t 14)]⟩, ⟨(some 1), none, .q (.mov (.t 15))⟩])
  (.seq (.seq (.ops [⟨(some 16), none, .q (.mov (.t 1))⟩, ⟨(some 17), none, .q (.bin .lss (.t 16) (.c (.sc (.int .i64 0))))⟩])
  (.cond (.t 17) (.seq (.ops [⟨(some 4), none, .q (.mov (.c (.sc (.int .i64 (-1)))))⟩])
  .ret)
  .skip))
  (.seq (.ops [⟨(some 18), none, .q (.mov (.t 1))⟩, ⟨(some 19), none, .q (.fadr 2 (.t 2))⟩, ⟨(some 20), none, .q (.load false 1 (.t 19))⟩, ⟨(some 21), none, .q (.slen (.t 20))⟩, ⟨(some 22), none, .q (.bin .sub (.t 18) (.t 21))⟩, ⟨(some 1), none, .q (.mov (.t 22))⟩])
  (.seq (.seq (.ops [⟨(some 23), none, .q (.mov (.t 1))⟩, ⟨(some 24), none, .q (.bin .lss (.t 23) (.c (.sc (.int .i64 0))))⟩])
  (.cond (.t 24) (.seq (.ops [⟨(some 4), none, .q (.mov (.c (.sc (.int .i64 (-1)))))⟩])
  .ret)
  .skip))
  (.seq (.ops [⟨(some 25), none, .q (.mov (.t 1))⟩, ⟨(some 4), none, .q (.mov (.t 25))⟩])
  .ret))))))))
theorem K55 : Try.f55.body.bind (comp Try.prog) = some A55 ∧ Try.f55.ntmps = 26 ∧ Try.f55.results.toList.mapM (resB Try.prog) = some [.mov (.t 4)] := ⟨by kernel_rfl, by kernel_rfl, by kernel_rfl⟩
/- 56: loop.example/g00464/spec.SameMade -/
def A56 : AC := (.seq (.ops [⟨(some 2), none, .w (.box (.t 0))⟩, ⟨(some 3), none, .w (.box (.t 1))⟩, ⟨(some 4), none, .q (.mov (.c (.sc (.bool false))))⟩])
  (.seq (.ops [⟨(some 5), none, .q (.fadr 0 (.t 2))⟩, ⟨(some 6), none, .q (.load false 1 (.t 5))⟩, ⟨(some 7), none, .q (.fadr 0 (.t 3))⟩, ⟨(some 8), none, .q (.load false 1 (.t 7))⟩, ⟨(some 9), none, .q (.bin .eql (.t 6) (.t 8))⟩, ⟨(some 10), none, .q (.mov (.t 9))⟩, ⟨(some 11), (some (10, true)), .q (.fadr 2 (.t 2))⟩, ⟨(some 12), (some (10, true)), .q (.load false 1 (.t 11))⟩, ⟨(some 13), (some (10, true)), .q (.fadr 2 (.t 3))⟩, ⟨(some 14), (some (10, true)), .q (.load false 1 (.t 13))⟩, ⟨(some 15), (some (10, true)), .q (.bin .eql (.t 12) (.t 14))⟩, ⟨(some 16), none, .q (.pick (.t 10) (.t 15) (.c (.sc (.bool false))))⟩, ⟨(some 17), none, .q (.mov (.t 16))⟩, ⟨(some 18), (some (17, true)), .q (.fadr 1 (.t 2))⟩, ⟨(some 19), (some (17, true)), .q (.load false 1 (.t 18))⟩, ⟨(some 20), (some (17, true)), .q (.fadr 1 (.t 3))⟩, ⟨(some 21), (some (17, true)), .q (.load false 1 (.t 20))⟩, ⟨(some 22), (some (17, true)), .c (.c (.clo 79 [])) [(.t 19), (.t 21)]⟩, ⟨(some 23), none, .q (.pick (.t 17) (.t 22) (.c (.sc (.bool false))))⟩, ⟨(some 4), none, .q (.mov (.t 23))⟩])
  .ret))
theorem K56 : Try.f56.body.bind (comp Try.prog) = some A56 ∧ Try.f56.ntmps = 24 ∧ Try.f56.results.toList.mapM (resB Try.prog) = some [.mov (.t 4)] := ⟨by kernel_rfl, by kernel_rfl, by kernel_rfl⟩
/- 57: loop.example/g00464/laws.toMade -/
def A57 : AC := (.seq (.ops [⟨(some 1), none, .w (.box (.t 0))⟩, ⟨(some 2), none, .w (.alloc [(.sc (.string ⟨#[]⟩)), .em, (.sc (.string ⟨#[]⟩))])⟩])
  (.seq (.ops [⟨(some 3), none, .w (.alloc [(.sc (.string ⟨#[]⟩)), .em, (.sc (.string ⟨#[]⟩))])⟩])
  (.seq (.ops [⟨(some 4), none, .q (.fadr 0 (.t 1))⟩, ⟨(some 5), none, .q (.load false 1 (.t 4))⟩, ⟨(some 6), none, .q (.fadr 0 (.t 3))⟩, ⟨none, none, .w (.store 1 (.t 6) (.t 5))⟩])
  (.seq (.ops [⟨(some 7), none, .q (.fadr 1 (.t 1))⟩, ⟨(some 8), none, .q (.load false 1 (.t 7))⟩, ⟨(some 9), none, .c (.c (.clo 80 [])) [(.t 8)]⟩, ⟨(some 10), none, .q (.fadr 1 (.t 3))⟩, ⟨none, none, .w (.store 1 (.t 10) (.t 9))⟩])
  (.seq (.ops [⟨(some 11), none, .q (.fadr 2 (.t 1))⟩, ⟨(some 12), none, .q (.load false 1 (.t 11))⟩, ⟨(some 13), none, .q (.fadr 2 (.t 3))⟩, ⟨none, none, .w (.store 1 (.t 13) (.t 12))⟩])
  (.seq (.ops [⟨(some 14), none, .q (.load true 3 (.t 3))⟩, ⟨none, none, .w (.store 3 (.t 2) (.t 14))⟩])
  .ret))))))
theorem K57 : Try.f57.body.bind (comp Try.prog) = some A57 ∧ Try.f57.ntmps = 15 ∧ Try.f57.results.toList.mapM (resB Try.prog) = some [.load true 3 (.t 2)] := ⟨by kernel_rfl, by kernel_rfl, by kernel_rfl⟩
/- 58: slices.EqualFunc[[]loop.example/g00464/impl.Made,[]loop.example/g00464/impl.Made,loop.example/g00464/impl.Made,loop.example/g00464/impl.Made] -/
def A58 : AC := (.seq (.ops [⟨(some 6), none, .q (.mov (.c (.sc (.bool false))))⟩])
  (.seq (.seq (.ops [⟨(some 10), none, .q (.mov (.t 0))⟩, ⟨(some 11), none, .q (.llen (.t 10))⟩, ⟨(some 12), none, .q (.mov (.t 1))⟩, ⟨(some 13), none, .q (.llen (.t 12))⟩, ⟨(some 14), none, .q (.bin .neq (.t 11) (.t 13))⟩])
  (.cond (.t 14) (.seq (.ops [⟨(some 6), none, .q (.mov (.c (.sc (.bool false))))⟩])
  .ret)
  .skip))
  (.seq (.seq (.ops [⟨(some 15), none, .q (.mov (.t 0))⟩, ⟨(some 16), none, .q (.llen (.t 15))⟩, ⟨(some 17), none, .q (.mov (.c (.sc (.int .i64 0))))⟩])
  (.block 0 (.loop (.seq (.ops [⟨(some 18), none, .q (.bin .lss (.t 17) (.t 16))⟩])
  (.seq (.cond (.t 18) .skip
  (.exit 0))
  (.seq (.block 1 (.seq (.ops [⟨(some 19), none, .q (.mov (.t 17))⟩, ⟨(some 20), none, .q (.iadr 3 (.t 15) (.t 17))⟩, ⟨(some 21), none, .q (.load true 3 (.t 20))⟩, ⟨(some 8), none, .w (.alloc [(.sc (.string ⟨#[]⟩)), .em, (.sc (.string ⟨#[]⟩))])⟩, ⟨(some 7), none, .q (.mov (.t 19))⟩, ⟨none, none, .w (.store 3 (.t 8) (.t 21))⟩])
  (.seq (.ops [⟨(some 22), none, .q (.mov (.t 1))⟩, ⟨(some 23), none, .q (.mov (.t 7))⟩, ⟨(some 24), none, .q (.iadr 3 (.t 22) (.t 23))⟩, ⟨(some 25), none, .q (.load true 3 (.t 24))⟩, ⟨(some 9), none, .w (.alloc [(.sc (.string ⟨#[]⟩)), .em, (.sc (.string ⟨#[]⟩))])⟩, ⟨none, none, .w (.store 3 (.t 9) (.t 25))⟩])
  (.seq (.ops [⟨(some 26), none, .q (.mov (.t 2))⟩, ⟨(some 27), none, .q (.load true 3 (.t 8))⟩, ⟨(some 28), none, .q (.load true 3 (.t 9))⟩, ⟨(some 29), none, .c (.t 26) [(.t 27), (.t 28)]⟩, ⟨(some 30), none, .q (.not (.t 29))⟩])
  (.cond (.t 30) (.seq (.ops [⟨(some 6), none, .q (.mov (.c (.sc (.bool false))))⟩])
  .ret)
  .skip)))))
  (.ops [⟨(some 31), none, .q (.bin .add (.t 17) (.c (.sc (.int .i64 1))))⟩, ⟨(some 17), none, .q (.mov (.t 31))⟩])))))))
  (.seq (.ops [⟨(some 6), none, .q (.mov (.c (.sc (.bool true))))⟩])
  .ret))))
theorem K58 : Try.f58.body.bind (comp Try.prog) = some A58 ∧ Try.f58.ntmps = 32 ∧ Try.f58.results.toList.mapM (resB Try.prog) = some [.mov (.t 6)] := ⟨by kernel_rfl, by kernel_rfl, by kernel_rfl⟩
/- 59: loop.example/g00464/impl.SameMade -/
def A59 : AC := (.seq (.ops [⟨(some 2), none, .w (.box (.t 0))⟩, ⟨(some 3), none, .w (.box (.t 1))⟩, ⟨(some 4), none, .q (.mov (.c (.sc (.bool false))))⟩])
  (.seq (.ops [⟨(some 5), none, .q (.fadr 0 (.t 2))⟩, ⟨(some 6), none, .q (.load false 1 (.t 5))⟩, ⟨(some 7), none, .q (.fadr 0 (.t 3))⟩, ⟨(some 8), none, .q (.load false 1 (.t 7))⟩, ⟨(some 9), none, .q (.bin .eql (.t 6) (.t 8))⟩, ⟨(some 10), none, .q (.mov (.t 9))⟩, ⟨(some 11), (some (10, true)), .q (.fadr 2 (.t 2))⟩, ⟨(some 12), (some (10, true)), .q (.load false 1 (.t 11))⟩, ⟨(some 13), (some (10, true)), .q (.fadr 2 (.t 3))⟩, ⟨(some 14), (some (10, true)), .q (.load false 1 (.t 13))⟩, ⟨(some 15), (some (10, true)), .q (.bin .eql (.t 12) (.t 14))⟩, ⟨(some 16), none, .q (.pick (.t 10) (.t 15) (.c (.sc (.bool false))))⟩, ⟨(some 17), none, .q (.mov (.t 16))⟩, ⟨(some 18), (some (17, true)), .q (.fadr 1 (.t 2))⟩, ⟨(some 19), (some (17, true)), .q (.load false 1 (.t 18))⟩, ⟨(some 20), (some (17, true)), .q (.fadr 1 (.t 3))⟩, ⟨(some 21), (some (17, true)), .q (.load false 1 (.t 20))⟩, ⟨(some 22), (some (17, true)), .c (.c (.clo 81 [])) [(.t 19), (.t 21)]⟩, ⟨(some 23), none, .q (.pick (.t 17) (.t 22) (.c (.sc (.bool false))))⟩, ⟨(some 4), none, .q (.mov (.t 23))⟩])
  .ret))
theorem K59 : Try.f59.body.bind (comp Try.prog) = some A59 ∧ Try.f59.ntmps = 24 ∧ Try.f59.results.toList.mapM (resB Try.prog) = some [.mov (.t 4)] := ⟨by kernel_rfl, by kernel_rfl, by kernel_rfl⟩
/- 60: loop.example/g00464/laws.eqMade -/
def A60 : AC := (.seq (.ops [⟨(some 2), none, .w (.box (.t 0))⟩, ⟨(some 3), none, .w (.box (.t 1))⟩, ⟨(some 4), none, .q (.mov (.c (.sc (.bool false))))⟩])
  (.seq (.seq (.ops [⟨(some 5), none, .q (.fadr 0 (.t 2))⟩, ⟨(some 6), none, .q (.load false 1 (.t 5))⟩, ⟨(some 7), none, .q (.fadr 0 (.t 3))⟩, ⟨(some 8), none, .q (.load false 1 (.t 7))⟩, ⟨(some 9), none, .q (.bin .neq (.t 6) (.t 8))⟩])
  (.cond (.t 9) (.seq (.ops [⟨(some 4), none, .q (.mov (.c (.sc (.bool false))))⟩])
  .ret)
  .skip))
  (.seq (.seq (.ops [⟨(some 10), none, .q (.fadr 1 (.t 2))⟩, ⟨(some 11), none, .q (.load false 1 (.t 10))⟩, ⟨(some 12), none, .q (.fadr 1 (.t 3))⟩, ⟨(some 13), none, .q (.load false 1 (.t 12))⟩, ⟨(some 14), none, .c (.c (.clo 82 [])) [(.t 11), (.t 13)]⟩, ⟨(some 15), none, .q (.not (.t 14))⟩])
  (.cond (.t 15) (.seq (.ops [⟨(some 4), none, .q (.mov (.c (.sc (.bool false))))⟩])
  .ret)
  .skip))
  (.seq (.seq (.ops [⟨(some 16), none, .q (.fadr 2 (.t 2))⟩, ⟨(some 17), none, .q (.load false 1 (.t 16))⟩, ⟨(some 18), none, .q (.fadr 2 (.t 3))⟩, ⟨(some 19), none, .q (.load false 1 (.t 18))⟩, ⟨(some 20), none, .q (.bin .neq (.t 17) (.t 19))⟩])
  (.cond (.t 20) (.seq (.ops [⟨(some 4), none, .q (.mov (.c (.sc (.bool false))))⟩])
  .ret)
  .skip))
  (.seq (.ops [⟨(some 4), none, .q (.mov (.c (.sc (.bool true))))⟩])
  .ret)))))
theorem K60 : Try.f60.body.bind (comp Try.prog) = some A60 ∧ Try.f60.ntmps = 21 ∧ Try.f60.results.toList.mapM (resB Try.prog) = some [.mov (.t 4)] := ⟨by kernel_rfl, by kernel_rfl, by kernel_rfl⟩
/- 78: loop.example/g00464/laws.szFileS -/
def A78 : AC := (.seq (.ops [⟨(some 4), none, .q (.mov (.c (.sc (.int .i64 0))))⟩])
  (.seq (.ops [⟨(some 6), none, .q (.mov (.t 1))⟩, ⟨(some 7), none, .q (.mov (.t 0))⟩, ⟨(some 8), none, .q (.llen (.t 7))⟩, ⟨(some 9), none, .q (.bin .sub (.t 6) (.t 8))⟩, ⟨(some 1), none, .q (.mov (.t 9))⟩])
  (.seq (.seq (.ops [⟨(some 10), none, .q (.mov (.t 1))⟩, ⟨(some 11), none, .q (.bin .lss (.t 10) (.c (.sc (.int .i64 0))))⟩])
  (.cond (.t 11) (.seq (.ops [⟨(some 4), none, .q (.mov (.c (.sc (.int .i64 (-1)))))⟩])
  .ret)
  .skip))
  (.seq (.seq (.ops [⟨(some 5), none, .q (.mov (.c (.sc (.int .i64 0))))⟩])
  (.block 0 (.loop (.seq (.seq (.ops [⟨(some 12), none, .q (.mov (.t 5))⟩, ⟨(some 13), none, .q (.mov (.t 0))⟩, ⟨(some 14), none, .q (.llen (.t 13))⟩, ⟨(some 15), none, .q (.bin .lss (.t 12) (.t 14))⟩])
  (.cond (.t 15) .skip
  (.exit 0)))
  (.seq (.block 1 (.seq (.ops [⟨(some 18), none, .q (.mov (.t 0))⟩, ⟨(some 19), none, .q (.mov (.t 5))⟩, ⟨(some 20), none, .q (.iadr 2 (.t 18) (.t 19))⟩, ⟨(some 21), none, .q (.load true 2 (.t 20))⟩, ⟨(some 22), none, .q (.mov (.t 1))⟩, ⟨(some 23), none, .c (.c (.clo 92 [])) [(.t 21), (.t 22)]⟩, ⟨(some 1), none, .q (.mov (.t 23))⟩])
  (.seq (.ops [⟨(some 24), none, .q (.mov (.t 1))⟩, ⟨(some 25), none, .q (.bin .lss (.t 24) (.c (.sc (.int .i64 0))))⟩])
  (.cond (.t 25) (.seq (.ops [⟨(some 4), none, .q (.mov (.c (.sc (.int .i64 (-1)))))⟩])
  .ret)
  .skip))))
  (.ops [⟨(some 16), none, .q (.mov (.t 5))⟩, ⟨(some 17), none, .q (.bin .add (.t 16) (.c (.sc (.int .i64 1))))⟩, ⟨(some 5), none, .q (.mov (.t 17))⟩]))))))
  (.seq (.ops [⟨(some 26), none, .q (.mov (.t 1))⟩, ⟨(some 4), none, .q (.mov (.t 26))⟩])
  .ret)))))
theorem K78 : Try.f78.body.bind (comp Try.prog) = some A78 ∧ Try.f78.ntmps = 27 ∧ Try.f78.results.toList.mapM (resB Try.prog) = some [.mov (.t 4)] := ⟨by kernel_rfl, by kernel_rfl, by kernel_rfl⟩
/- 79: loop.example/g00464/spec.l16SameFiles -/
def A79 : AC := (.seq (.ops [⟨(some 4), none, .q (.mov (.c (.sc (.bool false))))⟩])
  (.seq (.seq (.ops [⟨(some 6), none, .q (.mov (.t 0))⟩, ⟨(some 7), none, .q (.llen (.t 6))⟩, ⟨(some 8), none, .q (.mov (.t 1))⟩, ⟨(some 9), none, .q (.llen (.t 8))⟩, ⟨(some 10), none, .q (.bin .neq (.t 7) (.t 9))⟩])
  (.cond (.t 10) (.seq (.ops [⟨(some 4), none, .q (.mov (.c (.sc (.bool false))))⟩])
  .ret)
  .skip))
  (.seq (.seq (.ops [⟨(some 5), none, .q (.mov (.c (.sc (.int .i64 0))))⟩])
  (.block 0 (.loop (.seq (.seq (.ops [⟨(some 11), none, .q (.mov (.t 5))⟩, ⟨(some 12), none, .q (.mov (.t 0))⟩, ⟨(some 13), none, .q (.llen (.t 12))⟩, ⟨(some 14), none, .q (.bin .lss (.t 11) (.t 13))⟩])
  (.cond (.t 14) .skip
  (.exit 0)))
  (.seq (.block 1 (.seq (.any [(⟨(some 17), none, .q (.mov (.t 0))⟩, []), (⟨(some 18), none, .q (.mov (.t 5))⟩, []), (⟨(some 19), none, .q (.iadr 2 (.t 17) (.t 18))⟩, [0, 1]), (⟨(some 20), none, .q (.load true 2 (.t 19))⟩, [2]), (⟨(some 21), none, .q (.mov (.t 1))⟩, []), (⟨(some 22), none, .q (.mov (.t 5))⟩, []), (⟨(some 23), none, .q (.iadr 2 (.t 21) (.t 22))⟩, [4, 5]), (⟨(some 24), none, .q (.load true 2 (.t 23))⟩, [6]), (⟨(some 25), none, .q (.aeq true [(0, 0), (1, 0)] (.t 20) (.t 24))⟩, [3, 7])])
  (.cond (.t 25) (.seq (.ops [⟨(some 4), none, .q (.mov (.c (.sc (.bool false))))⟩])
  .ret)
  .skip)))
  (.ops [⟨(some 15), none, .q (.mov (.t 5))⟩, ⟨(some 16), none, .q (.bin .add (.t 15) (.c (.sc (.int .i64 1))))⟩, ⟨(some 5), none, .q (.mov (.t 16))⟩]))))))
  (.seq (.ops [⟨(some 4), none, .q (.mov (.c (.sc (.bool true))))⟩])
  .ret))))
theorem K79 : Try.f79.body.bind (comp Try.prog) = some A79 ∧ Try.f79.ntmps = 26 ∧ Try.f79.results.toList.mapM (resB Try.prog) = some [.mov (.t 4)] := ⟨by kernel_rfl, by kernel_rfl, by kernel_rfl⟩
/- 80: loop.example/g00464/laws.toFileS -/
def A80 : AC := (.seq (.ops [⟨(some 2), none, .q (.mov (.c .em))⟩])
  (.seq (.ops [⟨(some 5), none, .q (.mov (.t 0))⟩, ⟨(some 6), none, .q (.llen (.t 5))⟩, ⟨(some 7), none, .w (.mk 2 32 [(.sc (.string ⟨#[]⟩)), (.sc (.string ⟨#[]⟩))] (.t 6) (.t 6))⟩, ⟨(some 3), none, .q (.mov (.t 7))⟩])
  (.seq (.seq (.ops [⟨(some 4), none, .q (.mov (.c (.sc (.int .i64 0))))⟩])
  (.block 0 (.loop (.seq (.seq (.ops [⟨(some 8), none, .q (.mov (.t 4))⟩, ⟨(some 9), none, .q (.mov (.t 0))⟩, ⟨(some 10), none, .q (.llen (.t 9))⟩, ⟨(some 11), none, .q (.bin .lss (.t 8) (.t 10))⟩])
  (.cond (.t 11) .skip
  (.exit 0)))
  (.seq (.block 1 (.ops [⟨(some 14), none, .q (.mov (.t 3))⟩, ⟨(some 15), none, .q (.mov (.t 4))⟩, ⟨(some 16), none, .q (.mov (.t 0))⟩, ⟨(some 17), none, .q (.mov (.t 4))⟩, ⟨(some 18), none, .q (.iadr 2 (.t 16) (.t 17))⟩, ⟨(some 19), none, .q (.load true 2 (.t 18))⟩, ⟨(some 20), none, .c (.c (.clo 93 [])) [(.t 19)]⟩, ⟨(some 21), none, .q (.iadr 2 (.t 14) (.t 15))⟩, ⟨none, none, .w (.store 2 (.t 21) (.t 20))⟩]))
  (.ops [⟨(some 12), none, .q (.mov (.t 4))⟩, ⟨(some 13), none, .q (.bin .add (.t 12) (.c (.sc (.int .i64 1))))⟩, ⟨(some 4), none, .q (.mov (.t 13))⟩]))))))
  (.seq (.ops [⟨(some 22), none, .q (.mov (.t 3))⟩, ⟨(some 2), none, .q (.mov (.t 22))⟩])
  .ret))))
theorem K80 : Try.f80.body.bind (comp Try.prog) = some A80 ∧ Try.f80.ntmps = 23 ∧ Try.f80.results.toList.mapM (resB Try.prog) = some [.mov (.t 2)] := ⟨by kernel_rfl, by kernel_rfl, by kernel_rfl⟩
/- 81: slices.Equal[[]loop.example/g00464/impl.File,loop.example/g00464/impl.File] -/
def A81 : AC := (.seq (.ops [⟨(some 4), none, .q (.mov (.c (.sc (.bool false))))⟩])
  (.seq (.seq (.ops [⟨(some 6), none, .q (.mov (.t 0))⟩, ⟨(some 7), none, .q (.llen (.t 6))⟩, ⟨(some 8), none, .q (.mov (.t 1))⟩, ⟨(some 9), none, .q (.llen (.t 8))⟩, ⟨(some 10), none, .q (.bin .neq (.t 7) (.t 9))⟩])
  (.cond (.t 10) (.seq (.ops [⟨(some 4), none, .q (.mov (.c (.sc (.bool false))))⟩])
  .ret)
  .skip))
  (.seq (.seq (.ops [⟨(some 11), none, .q (.mov (.t 0))⟩, ⟨(some 12), none, .q (.llen (.t 11))⟩, ⟨(some 13), none, .q (.mov (.c (.sc (.int .i64 0))))⟩])
  (.block 0 (.loop (.seq (.ops [⟨(some 14), none, .q (.bin .lss (.t 13) (.t 12))⟩])
  (.seq (.cond (.t 14) .skip
  (.exit 0))
  (.seq (.block 1 (.seq (.ops [⟨(some 15), none, .q (.mov (.t 13))⟩, ⟨(some 5), none, .q (.mov (.t 15))⟩])
  (.seq (.any [(⟨(some 16), none, .q (.mov (.t 0))⟩, []), (⟨(some 17), none, .q (.mov (.t 5))⟩, []), (⟨(some 18), none, .q (.iadr 2 (.t 16) (.t 17))⟩, [0, 1]), (⟨(some 19), none, .q (.load true 2 (.t 18))⟩, [2]), (⟨(some 20), none, .q (.mov (.t 1))⟩, []), (⟨(some 21), none, .q (.mov (.t 5))⟩, []), (⟨(some 22), none, .q (.iadr 2 (.t 20) (.t 21))⟩, [4, 5]), (⟨(some 23), none, .q (.load true 2 (.t 22))⟩, [6]), (⟨(some 24), none, .q (.aeq true [(0, 0), (1, 0)] (.t 19) (.t 23))⟩, [3, 7])])
  (.cond (.t 24) (.seq (.ops [⟨(some 4), none, .q (.mov (.c (.sc (.bool false))))⟩])
  .ret)
  .skip))))
  (.ops [⟨(some 25), none, .q (.bin .add (.t 13) (.c (.sc (.int .i64 1))))⟩, ⟨(some 13), none, .q (.mov (.t 25))⟩])))))))
  (.seq (.ops [⟨(some 4), none, .q (.mov (.c (.sc (.bool true))))⟩])
  .ret))))
theorem K81 : Try.f81.body.bind (comp Try.prog) = some A81 ∧ Try.f81.ntmps = 26 ∧ Try.f81.results.toList.mapM (resB Try.prog) = some [.mov (.t 4)] := ⟨by kernel_rfl, by kernel_rfl, by kernel_rfl⟩
/- 82: loop.example/g00464/laws.eqFileS -/
def A82 : AC := (.seq (.ops [⟨(some 4), none, .q (.mov (.c (.sc (.bool false))))⟩])
  (.seq (.seq (.ops [⟨(some 6), none, .q (.mov (.t 0))⟩, ⟨(some 7), none, .q (.llen (.t 6))⟩, ⟨(some 8), none, .q (.mov (.t 1))⟩, ⟨(some 9), none, .q (.llen (.t 8))⟩, ⟨(some 10), none, .q (.bin .neq (.t 7) (.t 9))⟩])
  (.cond (.t 10) (.seq (.ops [⟨(some 4), none, .q (.mov (.c (.sc (.bool false))))⟩])
  .ret)
  .skip))
  (.seq (.seq (.ops [⟨(some 5), none, .q (.mov (.c (.sc (.int .i64 0))))⟩])
  (.block 0 (.loop (.seq (.seq (.ops [⟨(some 11), none, .q (.mov (.t 5))⟩, ⟨(some 12), none, .q (.mov (.t 0))⟩, ⟨(some 13), none, .q (.llen (.t 12))⟩, ⟨(some 14), none, .q (.bin .lss (.t 11) (.t 13))⟩])
  (.cond (.t 14) .skip
  (.exit 0)))
  (.seq (.block 1 (.seq (.any [(⟨(some 17), none, .q (.mov (.t 0))⟩, []), (⟨(some 18), none, .q (.mov (.t 5))⟩, []), (⟨(some 19), none, .q (.iadr 2 (.t 17) (.t 18))⟩, [0, 1]), (⟨(some 20), none, .q (.load true 2 (.t 19))⟩, [2]), (⟨(some 21), none, .q (.mov (.t 1))⟩, []), (⟨(some 22), none, .q (.mov (.t 5))⟩, []), (⟨(some 23), none, .q (.iadr 2 (.t 21) (.t 22))⟩, [4, 5]), (⟨(some 24), none, .q (.load true 2 (.t 23))⟩, [6]), (⟨(some 25), none, .c (.c (.clo 94 [])) [(.t 20), (.t 24)]⟩, [3, 7]), (⟨(some 26), none, .q (.not (.t 25))⟩, [8])])
  (.cond (.t 26) (.seq (.ops [⟨(some 4), none, .q (.mov (.c (.sc (.bool false))))⟩])
  .ret)
  .skip)))
  (.ops [⟨(some 15), none, .q (.mov (.t 5))⟩, ⟨(some 16), none, .q (.bin .add (.t 15) (.c (.sc (.int .i64 1))))⟩, ⟨(some 5), none, .q (.mov (.t 16))⟩]))))))
  (.seq (.ops [⟨(some 4), none, .q (.mov (.c (.sc (.bool true))))⟩])
  .ret))))
theorem K82 : Try.f82.body.bind (comp Try.prog) = some A82 ∧ Try.f82.ntmps = 27 ∧ Try.f82.results.toList.mapM (resB Try.prog) = some [.mov (.t 4)] := ⟨by kernel_rfl, by kernel_rfl, by kernel_rfl⟩
/- 92: loop.example/g00464/laws.szFile -/
def A92 : AC := (.seq (.ops [⟨(some 2), none, .w (.box (.t 0))⟩, ⟨(some 4), none, .q (.mov (.c (.sc (.int .i64 0))))⟩])
  (.seq (.ops [⟨(some 5), none, .q (.mov (.t 1))⟩, ⟨(some 6), none, .q (.fadr 0 (.t 2))⟩, ⟨(some 7), none, .q (.load false 1 (.t 6))⟩, ⟨(some 8), none, .q (.slen (.t 7))⟩, ⟨(some 9), none, .q (.bin .sub (.t 5) (.t 8))⟩, ⟨(some 1), none, .q (.mov (.t 9))⟩])
  (.seq (.seq (.ops [⟨(some 10), none, .q (.mov (.t 1))⟩, ⟨(some 11), none, .q (.bin .lss (.t 10) (.c (.sc (.int .i64 0))))⟩])
  (.cond (.t 11) (.seq (.ops [⟨(some 4), none, .q (.mov (.c (.sc (.int .i64 (-1)))))⟩])
  .ret)
  .skip))
  (.seq (.ops [⟨(some 12), none, .q (.mov (.t 1))⟩, ⟨(some 13), none, .q (.fadr 1 (.t 2))⟩, ⟨(some 14), none, .q (.load false 1 (.t 13))⟩, ⟨(some 15), none, .q (.slen (.t 14))⟩, ⟨(some 16), none, .q (.bin .sub (.t 12) (.t 15))⟩, ⟨(some 1), none, .q (.mov (.t 16))⟩])
  (.seq (.seq (.ops [⟨(some 17), none, .q (.mov (.t 1))⟩, ⟨(some 18), none, .q (.bin .lss (.t 17) (.c (.sc (.int .i64 0))))⟩])
  (.cond (.t 18) (.seq (.ops [⟨(some 4), none, .q (.mov (.c (.sc (.int .i64 (-1)))))⟩])
  .ret)
  .skip))
  (.seq (.ops [⟨(some 19), none, .q (.mov (.t 1))⟩, ⟨(some 4), none, .q (.mov (.t 19))⟩])
  .ret))))))
theorem K92 : Try.f92.body.bind (comp Try.prog) = some A92 ∧ Try.f92.ntmps = 20 ∧ Try.f92.results.toList.mapM (resB Try.prog) = some [.mov (.t 4)] := ⟨by kernel_rfl, by kernel_rfl, by kernel_rfl⟩
/- 93: loop.example/g00464/laws.toFile -/
def A93 : AC := (.seq (.ops [⟨(some 1), none, .w (.box (.t 0))⟩, ⟨(some 2), none, .w (.alloc [(.sc (.string ⟨#[]⟩)), (.sc (.string ⟨#[]⟩))])⟩])
  (.seq (.ops [⟨(some 3), none, .w (.alloc [(.sc (.string ⟨#[]⟩)), (.sc (.string ⟨#[]⟩))])⟩])
  (.seq (.ops [⟨(some 4), none, .q (.fadr 0 (.t 1))⟩, ⟨(some 5), none, .q (.load false 1 (.t 4))⟩, ⟨(some 6), none, .q (.fadr 0 (.t 3))⟩, ⟨none, none, .w (.store 1 (.t 6) (.t 5))⟩])
  (.seq (.ops [⟨(some 7), none, .q (.fadr 1 (.t 1))⟩, ⟨(some 8), none, .q (.load false 1 (.t 7))⟩, ⟨(some 9), none, .q (.fadr 1 (.t 3))⟩, ⟨none, none, .w (.store 1 (.t 9) (.t 8))⟩])
  (.seq (.ops [⟨(some 10), none, .q (.load true 2 (.t 3))⟩, ⟨none, none, .w (.store 2 (.t 2) (.t 10))⟩])
  .ret)))))
theorem K93 : Try.f93.body.bind (comp Try.prog) = some A93 ∧ Try.f93.ntmps = 11 ∧ Try.f93.results.toList.mapM (resB Try.prog) = some [.load true 2 (.t 2)] := ⟨by kernel_rfl, by kernel_rfl, by kernel_rfl⟩
/- 94: loop.example/g00464/laws.eqFile -/
def A94 : AC := (.seq (.ops [⟨(some 2), none, .w (.box (.t 0))⟩, ⟨(some 3), none, .w (.box (.t 1))⟩, ⟨(some 4), none, .q (.mov (.c (.sc (.bool false))))⟩])
  (.seq (.seq (.ops [⟨(some 5), none, .q (.fadr 0 (.t 2))⟩, ⟨(some 6), none, .q (.load false 1 (.t 5))⟩, ⟨(some 7), none, .q (.fadr 0 (.t 3))⟩, ⟨(some 8), none, .q (.load false 1 (.t 7))⟩, ⟨(some 9), none, .q (.bin .neq (.t 6) (.t 8))⟩])
  (.cond (.t 9) (.seq (.ops [⟨(some 4), none, .q (.mov (.c (.sc (.bool false))))⟩])
  .ret)
  .skip))
  (.seq (.seq (.ops [⟨(some 10), none, .q (.fadr 1 (.t 2))⟩, ⟨(some 11), none, .q (.load false 1 (.t 10))⟩, ⟨(some 12), none, .q (.fadr 1 (.t 3))⟩, ⟨(some 13), none, .q (.load false 1 (.t 12))⟩, ⟨(some 14), none, .q (.bin .neq (.t 11) (.t 13))⟩])
  (.cond (.t 14) (.seq (.ops [⟨(some 4), none, .q (.mov (.c (.sc (.bool false))))⟩])
  .ret)
  .skip))
  (.seq (.ops [⟨(some 4), none, .q (.mov (.c (.sc (.bool true))))⟩])
  .ret))))
theorem K94 : Try.f94.body.bind (comp Try.prog) = some A94 ∧ Try.f94.ntmps = 15 ∧ Try.f94.results.toList.mapM (resB Try.prog) = some [.mov (.t 4)] := ⟨by kernel_rfl, by kernel_rfl, by kernel_rfl⟩
structure File where
  a : ByteArray
  b : ByteArray
def File.cs (m : File) : List AV := [.sc (.string m.a), .sc (.string m.b)]
def File.z (_ : File) : List AV := [.sc (.string ⟨#[]⟩), .sc (.string ⟨#[]⟩)]
theorem File.len (m : File) : m.cs.length = 2 := rfl
theorem File.zlen (m : File) : m.z.length = 2 := rfl
theorem File.fr (m : File) : ∀ c ∈ m.cs, idfree c = true := by simp [File.cs, idfree]
theorem File.sh (m : File) : ∀ c ∈ m.cs, shut c = true := by simp [File.cs, shut]
theorem File.fl (m : File) : ∀ c ∈ m.cs, flt c = true := by simp [File.cs, flt]
theorem File.roc {h : Nat → Option (Option (List AV))} {b k : Nat} {xs : List File} {lim : Bool} (hb : h b = some (some (rows File.cs xs))) : Am.roc h (k + 1) (.sl b 0 xs.length 2 lim) = some (.ro (rows File.cs xs) xs.length) :=
  roc_sl hb (rows_length File.len xs) (shutL_rows File.sh xs)
theorem File.flo (xs : List File) : flt (.own (rows File.cs xs) xs.length 2) = true := by simpa [flt] using fltL_rows File.fl xs
def szStr (s : ByteArray) (left : Int) : Int := IntKind.i64.wrap (left - s.size)
def szFile (m : File) (left : Int) : Int := if szStr m.a left < 0 then -1 else if szStr m.b (szStr m.a left) < 0 then -1 else szStr m.b (szStr m.a left)
theorem R92 (m : File) (left : Int) : Ret Try.prog 92 [.agg m.cs, .sc (.int .i64 left)] (.sc (.int .i64 (szFile m left))) [.un, .un] := by
  refine Ret.run Try.func92 K92 (by simp) rfl rfl 500 ?_
  by_cases h1 : IntKind.i64.wrap (left - m.a.size) < 0
  case pos => simp [A92, iniρ, File.cs, szFile, szStr, h1]; try (intro; omega)
  by_cases h2 : IntKind.i64.wrap (IntKind.i64.wrap (left - m.a.size) - m.b.size) < 0
  case pos => simp [A92, iniρ, File.cs, szFile, szStr, h1, h2]; try (intros; omega)
  simp [A92, iniρ, File.cs, szFile, szStr, h1, h2]; try (intros; omega)
theorem R93 (m : File) : Ret Try.prog 93 [.agg m.cs] (.agg m.cs) [.un] := by
  refine Ret.run Try.func93 K93 (by simp) rfl rfl 500 ?_
  simp [A93, iniρ, File.cs, over]
def eqFile (m n : File) : Bool := m.a.toList == n.a.toList && m.b.toList == n.b.toList
theorem R94 (m n : File) : Ret Try.prog 94 [.agg m.cs, .agg n.cs] (.sc (.bool (eqFile m n))) [.un, .un] := by
  refine Ret.run Try.func94 K94 (by simp) rfl rfl 500 ?_
  simp [A94, iniρ, File.cs, eqFile]
  by_cases h1 : m.a.toList = n.a.toList <;> by_cases h2 : m.b.toList = n.b.toList <;> simp [h1, h2]
theorem R78 (xs : List File) (hb : xs.length < 4611686018427387904) (left : Int) : Ret Try.prog 78 [.ro (rows File.cs xs) xs.length, .sc (.int .i64 left)] (.sc (.int .i64 (szS szFile xs left))) [.un, .un] := by
  refine Ret.run Try.func78 K78 (by simp) rfl rfl 500 ?_
  simp [A78, iniρ]
  split
  · rename_i h; simp [szS, h]
  · rename_i h
    have hS : szS szFile xs left = szL szFile xs (IntKind.i64.wrap (left - ↑xs.length)) := by simp [szS, h]
    rw [hS]
    clear hS
    generalize IntKind.i64.wrap (left - ↑xs.length) = l0 at *
    refine T.rounds (μ := fun i : List File × List File × Int => i.2.1.length)
      (fun i s => i.1 ++ i.2.1 = xs ∧ szL szFile i.2.1 i.2.2 = szL szFile xs l0 ∧ s.ρ 0 = .ro (rows File.cs xs) xs.length ∧ s.ρ 1 = .sc (.int .i64 i.2.2) ∧ s.ρ 5 = .sc (.int .i64 i.1.length) ∧ s.h = h0 ∧ s.n = 27) ([], xs, l0) (by simp [upd_app]) ?_
    rintro ⟨pre, rest, l⟩ ⟨ρ, hh, n⟩ ⟨hx, hL, h0', h1', h5', rfl, rfl⟩
    simp only at hx hL h0' h1' h5'
    refine run_ok (n := 400) ?_
    cases rest with
    | nil =>
      simp at hx
      subst hx
      simp [h0', h1', h5']
      refine T.on 400 ?_
      simp [h1', ← hL, szL]
    | cons x rest =>
      have hlt : (pre.length : Int) < xs.length := by rw [← hx]; simp only [List.length_append, List.length_cons]; omega
      have hd := rows_drop File.len pre (x :: rest)
      rw [hx, rows_cons] at hd
      have hw : IntKind.i64.wrap ((pre.length : Int) + 1) = pre.length + 1 := wrap_i64 (by omega) (by omega)
      simp [h0', h1', h5', hlt, hd, File.cs]
      refine callK.ro 23 rfl (by kernel_rfl) (by simp [roc, upd_app, File.cs]) (R92 x l) rfl rfl rfl ?_
      simp [h5', hw]
      split
      · rename_i hz; simp [← hL, szL, hz]
      · rename_i hz
        refine ⟨pre ++ [x], rest, by simp, szFile x l, _, Le.refl _, ?_⟩
        simp [hx, h0', ← hL, szL, hz, upd_app]
theorem R80 (xs : List File) (hb : xs.length < 4398046511104) : Ret Try.prog 80 [.ro (rows File.cs xs) xs.length] (.own (rows File.cs xs) xs.length 2) [.un] := by
  refine Ret.run Try.func80 K80 (by simp) rfl rfl 500 ?_
  have h1 : (xs.length : Int) * 32 ≤ 281474976710656 := by omega
  have h2 : (xs.length : Int) ≤ 9223372036854775807 := by omega
  simp [A80, iniρ, h1, h2]
  refine T.rounds (μ := fun i : List File × List File => i.2.length)
    (fun i s => i.1 ++ i.2 = xs ∧ s.ρ 0 = .ro (rows File.cs xs) xs.length ∧ s.ρ 3 = .sl 7 0 xs.length 2 false ∧ s.ρ 4 = .sc (.int .i64 i.1.length) ∧ s.h 7 = some (some (rows File.cs i.1 ++ rows File.z i.2)) ∧ s.n = 23) ([], xs) (by simp [upd_app, rows_nil, flatten_rep]; rfl) ?_
  rintro ⟨pre, rest⟩ ⟨ρ, hh, n⟩ ⟨hx, h0', h3', h4', h7', rfl⟩
  simp only at hx h0' h3' h4' h7'
  refine run_ok (n := 400) ?_
  cases rest with
  | nil =>
    simp at hx
    subst hx
    simp [h0', h3', h4']
    refine T.on 400 ?_
    simp [h3', h7', ex1, rows_nil, rows_length File.len, idfreeL_rows File.fr]
  | cons x rest =>
    have hlt : (pre.length : Int) < xs.length := by rw [← hx]; simp only [List.length_append, List.length_cons]; omega
    have hd := rows_drop File.len pre (x :: rest)
    rw [hx, rows_cons] at hd
    have hw : IntKind.i64.wrap ((pre.length : Int) + 1) = pre.length + 1 := wrap_i64 (by omega) (by omega)
    have hov : over _ _ [AV.sc (.string x.a), AV.sc (.string x.b)] = _ := rows_over File.len File.zlen pre rest x
    have hle : pre.length * 2 + 2 ≤ (rows File.cs pre).length + (rows File.z (x :: rest)).length := by rw [rows_length File.len, rows_length File.zlen, List.length_cons]; omega
    simp [h0', h3', h4', h7', hlt, hd, File.cs]
    refine callK.ro 23 rfl (by kernel_rfl) (by simp [roc, upd_app, File.cs]) (R93 x) rfl rfl rfl ?_
    simp [h3', h4', h7', hw, hlt, File.cs, hle, hov]
    refine ⟨pre ++ [x], rest, by simp, _, Le.refl _, ?_⟩
    simp [hx, h0', h3', upd_app]

theorem R82 (xs ys : List File) (hb : xs.length < 4611686018427387904) : Ret Try.prog 82 [.ro (rows File.cs xs) xs.length, .ro (rows File.cs ys) ys.length] (.sc (.bool (eqBy eqFile xs ys))) [.un, .un] := by
  refine Ret.run Try.func82 K82 (by simp) rfl rfl 500 ?_
  by_cases hl : xs.length = ys.length
  case neg =>
    have : ¬ ((xs.length : Int) = ys.length) := by omega
    simp [A82, iniρ, this, eqBy_len hl]
  simp [A82, iniρ, ← hl]
  refine T.rounds (μ := fun i : List File × List File × List File × List File => i.2.1.length)
    (fun i s => i.1 ++ i.2.1 = xs ∧ i.2.2.1 ++ i.2.2.2 = ys ∧ i.1.length = i.2.2.1.length ∧ eqBy eqFile i.2.1 i.2.2.2 = eqBy eqFile xs ys ∧ s.ρ 0 = .ro (rows File.cs xs) xs.length ∧ s.ρ 1 = .ro (rows File.cs ys) xs.length ∧ s.ρ 5 = .sc (.int .i64 i.1.length) ∧ s.h = h0 ∧ s.n = 27) ([], xs, [], ys) (by simp [upd_app]) ?_
  rintro ⟨pre, rest, pre', rest'⟩ ⟨ρ, hh, n⟩ ⟨hx, hy, hp, hE, h0', h1', h5', rfl, rfl⟩
  simp only at hx hy hp hE h0' h1' h5'
  refine run_ok (n := 400) ?_
  have hlr : rest.length = rest'.length := by have := congrArg List.length hx; have := congrArg List.length hy; simp only [List.length_append] at *; omega
  cases rest with
  | nil =>
    cases rest' with
    | cons y r => simp at hlr
    | nil =>
    simp at hx
    subst hx
    simp [h0', h5']
    refine T.on 400 ?_
    simp [← hE, eqBy]
  | cons x rest =>
    cases rest' with
    | nil => simp at hlr
    | cons y rest' =>
    have hlt : (pre.length : Int) < xs.length := by rw [← hx]; simp only [List.length_append, List.length_cons]; omega
    have hd := rows_drop File.len pre (x :: rest)
    rw [hx, rows_cons] at hd
    have hd' := rows_drop File.len pre' (y :: rest')
    rw [hy, rows_cons, ← hp] at hd'
    have hw : IntKind.i64.wrap ((pre.length : Int) + 1) = pre.length + 1 := wrap_i64 (by omega) (by omega)
    simp [h0', h1', h5', hlt]
    refine T.text 400 mixed (by kernel_rfl) (by kernel_rfl) ?_
    simp [h0', h1', h5', hlt, hd, hd', File.cs]
    refine callSK.by rfl (by kernel_rfl) (by simp [roc, upd_app, File.cs]) (R94 x y) ?_
    cases hE1 : eqFile x y
    · simp [h5', hw, ← hE, eqBy, hE1]
    · simp [h5', hw]
      refine ⟨pre ++ [x], rest, by simp, pre' ++ [y], rest', _, Le.refl _, ?_⟩
      simp [hx, hy, hp, h0', h1', ← hE, eqBy, hE1, upd_app]
theorem R79 (xs ys : List File) (hb : xs.length < 4611686018427387904) : Ret Try.prog 79 [.ro (rows File.cs xs) xs.length, .ro (rows File.cs ys) ys.length] (.sc (.bool (eqBy eqFile xs ys))) [.un, .un] := by
  refine Ret.run Try.func79 K79 (by simp) rfl rfl 500 ?_
  by_cases hl : xs.length = ys.length
  case neg =>
    have : ¬ ((xs.length : Int) = ys.length) := by omega
    simp [A79, iniρ, this, eqBy_len hl]
  simp [A79, iniρ, ← hl]
  refine T.rounds (μ := fun i : List File × List File × List File × List File => i.2.1.length)
    (fun i s => i.1 ++ i.2.1 = xs ∧ i.2.2.1 ++ i.2.2.2 = ys ∧ i.1.length = i.2.2.1.length ∧ eqBy eqFile i.2.1 i.2.2.2 = eqBy eqFile xs ys ∧ s.ρ 0 = .ro (rows File.cs xs) xs.length ∧ s.ρ 1 = .ro (rows File.cs ys) xs.length ∧ s.ρ 5 = .sc (.int .i64 i.1.length) ∧ s.h = h0 ∧ s.n = 26) ([], xs, [], ys) (by simp [upd_app]) ?_
  rintro ⟨pre, rest, pre', rest'⟩ ⟨ρ, hh, n⟩ ⟨hx, hy, hp, hE, h0', h1', h5', rfl, rfl⟩
  simp only at hx hy hp hE h0' h1' h5'
  refine run_ok (n := 400) ?_
  have hlr : rest.length = rest'.length := by have := congrArg List.length hx; have := congrArg List.length hy; simp only [List.length_append] at *; omega
  cases rest with
  | nil =>
    cases rest' with
    | cons y r => simp at hlr
    | nil =>
    simp at hx
    subst hx
    simp [h0', h5']
    refine T.on 400 ?_
    simp [← hE, eqBy]
  | cons x rest =>
    cases rest' with
    | nil => simp at hlr
    | cons y rest' =>
    have hlt : (pre.length : Int) < xs.length := by rw [← hx]; simp only [List.length_append, List.length_cons]; omega
    have hd := rows_drop File.len pre (x :: rest)
    rw [hx, rows_cons] at hd
    have hd' := rows_drop File.len pre' (y :: rest')
    rw [hy, rows_cons, ← hp] at hd'
    have hw : IntKind.i64.wrap ((pre.length : Int) + 1) = pre.length + 1 := wrap_i64 (by omega) (by omega)
    simp [h0', h1', h5', hlt]
    refine T.text 400 mixed (by kernel_rfl) (by kernel_rfl) ?_
    cases hE1 : eqFile x y
    case false =>
      have hE2 : (x.a.toList == y.a.toList && x.b.toList == y.b.toList) = false := hE1
      simp [h0', h1', h5', hlt, hd, hd', File.cs, eqOff, seq1, hE2, ← hE, eqBy, hE1]
    have hE2 : (x.a.toList == y.a.toList && x.b.toList == y.b.toList) = true := hE1
    have hE3 : x.a.toList = y.a.toList ∧ x.b.toList = y.b.toList := by simpa using hE2
    simp [h0', h1', h5', hlt, hd, hd', File.cs, eqOff, seq1, hw, hE3.1, hE3.2]
    refine ⟨pre ++ [x], rest, by simp, pre' ++ [y], rest', _, Le.refl _, ?_⟩
    simp [hx, hy, hp, h0', h1', ← hE, eqBy, hE1, upd_app]
theorem R81 (xs ys : List File) (hb : xs.length < 4611686018427387904) : Ret Try.prog 81 [.ro (rows File.cs xs) xs.length, .ro (rows File.cs ys) ys.length] (.sc (.bool (eqBy eqFile xs ys))) [.un, .un] := by
  refine Ret.run Try.func81 K81 (by simp) rfl rfl 500 ?_
  by_cases hl : xs.length = ys.length
  case neg =>
    have : ¬ ((xs.length : Int) = ys.length) := by omega
    simp [A81, iniρ, this, eqBy_len hl]
  simp [A81, iniρ, ← hl]
  refine T.rounds (μ := fun i : List File × List File × List File × List File => i.2.1.length)
    (fun i s => i.1 ++ i.2.1 = xs ∧ i.2.2.1 ++ i.2.2.2 = ys ∧ i.1.length = i.2.2.1.length ∧ eqBy eqFile i.2.1 i.2.2.2 = eqBy eqFile xs ys ∧ s.ρ 0 = .ro (rows File.cs xs) xs.length ∧ s.ρ 1 = .ro (rows File.cs ys) xs.length ∧ s.ρ 12 = .sc (.int .i64 xs.length) ∧ s.ρ 13 = .sc (.int .i64 i.1.length) ∧ s.h = h0 ∧ s.n = 26) ([], xs, [], ys) (by simp [upd_app]) ?_
  rintro ⟨pre, rest, pre', rest'⟩ ⟨ρ, hh, n⟩ ⟨hx, hy, hp, hE, h0', h1', h12', h5', rfl, rfl⟩
  simp only at hx hy hp hE h0' h1' h12' h5'
  refine run_ok (n := 400) ?_
  have hlr : rest.length = rest'.length := by have := congrArg List.length hx; have := congrArg List.length hy; simp only [List.length_append] at *; omega
  cases rest with
  | nil =>
    cases rest' with
    | cons y r => simp at hlr
    | nil =>
    simp at hx
    subst hx
    simp [h12', h5']
    refine T.on 400 ?_
    simp [← hE, eqBy]
  | cons x rest =>
    cases rest' with
    | nil => simp at hlr
    | cons y rest' =>
    have hlt : (pre.length : Int) < xs.length := by rw [← hx]; simp only [List.length_append, List.length_cons]; omega
    have hd := rows_drop File.len pre (x :: rest)
    rw [hx, rows_cons] at hd
    have hd' := rows_drop File.len pre' (y :: rest')
    rw [hy, rows_cons, ← hp] at hd'
    have hw : IntKind.i64.wrap ((pre.length : Int) + 1) = pre.length + 1 := wrap_i64 (by omega) (by omega)
    simp [h0', h1', h12', h5', hlt]
    refine T.text 400 mixed (by kernel_rfl) (by kernel_rfl) ?_
    cases hE1 : eqFile x y
    case false =>
      have hE2 : (x.a.toList == y.a.toList && x.b.toList == y.b.toList) = false := hE1
      simp [h0', h1', h12', h5', hlt, hd, hd', File.cs, eqOff, seq1, hE2, ← hE, eqBy, hE1]
    have hE2 : (x.a.toList == y.a.toList && x.b.toList == y.b.toList) = true := hE1
    have hE3 : x.a.toList = y.a.toList ∧ x.b.toList = y.b.toList := by simpa using hE2
    simp [h0', h1', h12', h5', hlt, hd, hd', File.cs, eqOff, seq1, hw, hE3.1, hE3.2]
    refine ⟨pre ++ [x], rest, by simp, pre' ++ [y], rest', _, Le.refl _, ?_⟩
    simp [hx, hy, hp, h0', h1', h12', ← hE, eqBy, hE1, upd_app]
structure Made where
  out : ByteArray
  fs : List File
  err : ByteArray
def Made.cs (s : Made) : List AV := [.sc (.string s.out), .ro (rows File.cs s.fs) s.fs.length, .sc (.string s.err)]
def Made.oc (s : Made) : List AV := [.sc (.string s.out), .own (rows File.cs s.fs) s.fs.length 2, .sc (.string s.err)]
def Made.z (_ : Made) : List AV := [.sc (.string ⟨#[]⟩), .em, .sc (.string ⟨#[]⟩)]
def Made.ok (s : Made) : Prop := s.fs.length < 4398046511104
theorem Made.len (s : Made) : s.cs.length = 3 := rfl
theorem Made.olen (s : Made) : s.oc.length = 3 := rfl
theorem Made.zlen (s : Made) : s.z.length = 3 := rfl
theorem Made.fr (s : Made) : ∀ c ∈ s.oc, idfree c = true := by simp [Made.oc, idfree, idfreeL_rows File.fr]
theorem Made.fl (s : Made) : ∀ c ∈ s.oc, flt c = true := by simp [Made.oc, flt, fltL_rows File.fl]
def szMade (s : Made) (left : Int) : Int :=
  if szStr s.out left < 0 then -1 else if szS szFile s.fs (szStr s.out left) < 0 then -1 else if szStr s.err (szS szFile s.fs (szStr s.out left)) < 0 then -1 else szStr s.err (szS szFile s.fs (szStr s.out left))
theorem R55 (s : Made) (hs : s.ok) (left : Int) : Ret Try.prog 55 [.agg s.cs, .sc (.int .i64 left)] (.sc (.int .i64 (szMade s left))) [.un, .un] := by
  have hb : s.fs.length < 4611686018427387904 := by unfold Made.ok at hs; omega
  refine Ret.run Try.func55 K55 (by simp) rfl rfl 500 ?_
  by_cases h1 : IntKind.i64.wrap (left - s.out.size) < 0
  case pos => simp [A55, iniρ, Made.cs, szMade, szStr, h1]; try (intro; omega)
  have h1' := Int.not_lt.1 h1
  simp [A55, iniρ, Made.cs, h1, h1']
  refine callK.ro 15 rfl (by kernel_rfl) (by simp [roc, upd_app]) (R78 s.fs hb (IntKind.i64.wrap (left - s.out.size))) rfl rfl rfl ?_
  by_cases h2 : szS szFile s.fs (IntKind.i64.wrap (left - s.out.size)) < 0
  case pos => simp [szMade, szStr, h1, h2]; try (intro; omega)
  have h2' := Int.not_lt.1 h2
  by_cases h3 : IntKind.i64.wrap (szS szFile s.fs (IntKind.i64.wrap (left - s.out.size)) - s.err.size) < 0
  case pos => simp [szMade, szStr, h1, h2, h2', h3]; try (intro; omega)
  simp [szMade, szStr, h1, h2, h2', h3]; try (intros; omega)
theorem R57 (s : Made) (hs : s.ok) : Ret Try.prog 57 [.agg s.cs] (.agg s.oc) [.un] := by
  refine Ret.run Try.func57 K57 (by simp) rfl rfl 500 ?_
  simp [A57, iniρ, Made.cs, over]
  refine callK.own 9 rfl (by kernel_rfl) (by simp [roc, upd_app]) (R80 s.fs hs) (File.flo _) (by simp) rfl ?_
  simp [over, ex1, rows_length File.len, idfreeL_rows File.fr, Made.oc]
def eqMade (s t : Made) : Bool := s.out.toList == t.out.toList && (eqBy eqFile s.fs t.fs && s.err.toList == t.err.toList)
theorem R60 (s t : Made) (hs : s.ok) : Ret Try.prog 60 [.agg s.cs, .agg t.cs] (.sc (.bool (eqMade s t))) [.un, .un] := by
  have hb : s.fs.length < 4611686018427387904 := by unfold Made.ok at hs; omega
  refine Ret.run Try.func60 K60 (by simp) rfl rfl 500 ?_
  by_cases h1 : s.out.toList = t.out.toList
  case neg => simp [A60, iniρ, Made.cs, eqMade, h1]
  simp [A60, iniρ, Made.cs, h1]
  refine callK.ro 14 rfl (by kernel_rfl) (by simp [roc, upd_app]) (R82 s.fs t.fs hb) rfl rfl rfl ?_
  cases h2 : eqBy eqFile s.fs t.fs
  · simp [eqMade, h1, h2]
  by_cases h3 : s.err.toList = t.err.toList <;> simp [eqMade, h1, h2, h3]
def sameMade (s t : Made) : Bool := s.out.toList == t.out.toList && (s.err.toList == t.err.toList && eqBy eqFile s.fs t.fs)
theorem R56 (s t : Made) (hs : s.ok) : Ret Try.prog 56 [.agg s.cs, .agg t.cs] (.sc (.bool (sameMade s t))) [.un, .un] := by
  have hb : s.fs.length < 4611686018427387904 := by unfold Made.ok at hs; omega
  refine Ret.run Try.func56 K56 (by simp) rfl rfl 500 ?_
  by_cases h1 : s.out.toList = t.out.toList
  case neg => simp [A56, iniρ, Made.cs, sameMade, h1]
  by_cases h3 : s.err.toList = t.err.toList
  case neg => simp [A56, iniρ, Made.cs, sameMade, h1, h3]
  simp [A56, iniρ, Made.cs, h1, h3]
  refine callK.ro 22 rfl (by kernel_rfl) (by simp [roc, upd_app]) (R79 s.fs t.fs hb) rfl rfl rfl ?_
  simp [sameMade, h1, h3]
theorem R59 (s t : Made) (hs : s.ok) : Ret Try.prog 59 [.agg s.cs, .agg t.cs] (.sc (.bool (sameMade s t))) [.un, .un] := by
  have hb : s.fs.length < 4611686018427387904 := by unfold Made.ok at hs; omega
  refine Ret.run Try.func59 K59 (by simp) rfl rfl 500 ?_
  by_cases h1 : s.out.toList = t.out.toList
  case neg => simp [A59, iniρ, Made.cs, sameMade, h1]
  by_cases h3 : s.err.toList = t.err.toList
  case neg => simp [A59, iniρ, Made.cs, sameMade, h1, h3]
  simp [A59, iniρ, Made.cs, h1, h3]
  refine callK.ro 22 rfl (by kernel_rfl) (by simp [roc, upd_app]) (R81 s.fs t.fs hb) rfl rfl rfl ?_
  simp [sameMade, h1, h3]
theorem R25 (xs : List Made) (hb : xs.length < 4611686018427387904) (hs : ∀ s ∈ xs, s.ok) (left : Int) : Ret Try.prog 25 [.ro (rows Made.cs xs) xs.length, .sc (.int .i64 left)] (.sc (.int .i64 (szS szMade xs left))) [.un, .un] := by
  refine Ret.run Try.func25 K25 (by simp) rfl rfl 500 ?_
  simp [A25, iniρ]
  split
  · rename_i h; simp [szS, h]
  · rename_i h
    have hS : szS szMade xs left = szL szMade xs (IntKind.i64.wrap (left - ↑xs.length)) := by simp [szS, h]
    rw [hS]
    clear hS
    generalize IntKind.i64.wrap (left - ↑xs.length) = l0 at *
    refine T.rounds (μ := fun i : List Made × List Made × Int => i.2.1.length)
      (fun i s => i.1 ++ i.2.1 = xs ∧ szL szMade i.2.1 i.2.2 = szL szMade xs l0 ∧ s.ρ 0 = .ro (rows Made.cs xs) xs.length ∧ s.ρ 1 = .sc (.int .i64 i.2.2) ∧ s.ρ 5 = .sc (.int .i64 i.1.length) ∧ s.h = h0 ∧ s.n = 27) ([], xs, l0) (by simp [upd_app]) ?_
    rintro ⟨pre, rest, l⟩ ⟨ρ, hh, n⟩ ⟨hx, hL, h0', h1', h5', rfl, rfl⟩
    simp only at hx hL h0' h1' h5'
    refine run_ok (n := 400) ?_
    cases rest with
    | nil =>
      simp at hx
      subst hx
      simp [h0', h1', h5']
      refine T.on 400 ?_
      simp [h1', ← hL, szL]
    | cons x rest =>
      have hlt : (pre.length : Int) < xs.length := by rw [← hx]; simp only [List.length_append, List.length_cons]; omega
      have hd := rows_drop Made.len pre (x :: rest)
      rw [hx, rows_cons] at hd
      have hw : IntKind.i64.wrap ((pre.length : Int) + 1) = pre.length + 1 := wrap_i64 (by omega) (by omega)
      simp [h0', h1', h5', hlt, hd, Made.cs]
      refine callK.ro 23 rfl (by kernel_rfl) (by simp [roc, upd_app, Made.cs]) (R55 x (hs x (by rw [← hx]; simp)) l) rfl rfl rfl ?_
      simp [h5', hw]
      split
      · rename_i hz; simp [← hL, szL, hz]
      · rename_i hz
        refine ⟨pre ++ [x], rest, by simp, szMade x l, _, Le.refl _, ?_⟩
        simp [hx, h0', ← hL, szL, hz, upd_app]
theorem R29 (xs ys : List Made) (hb : xs.length < 4611686018427387904) (hs : ∀ s ∈ xs, s.ok) : Ret Try.prog 29 [.ro (rows Made.cs xs) xs.length, .ro (rows Made.cs ys) ys.length] (.sc (.bool (eqBy eqMade xs ys))) [.un, .un] := by
  refine Ret.run Try.func29 K29 (by simp) rfl rfl 500 ?_
  by_cases hl : xs.length = ys.length
  case neg =>
    have : ¬ ((xs.length : Int) = ys.length) := by omega
    simp [A29, iniρ, this, eqBy_len hl]
  simp [A29, iniρ, ← hl]
  refine T.rounds (μ := fun i : List Made × List Made × List Made × List Made => i.2.1.length)
    (fun i s => i.1 ++ i.2.1 = xs ∧ i.2.2.1 ++ i.2.2.2 = ys ∧ i.1.length = i.2.2.1.length ∧ eqBy eqMade i.2.1 i.2.2.2 = eqBy eqMade xs ys ∧ s.ρ 0 = .ro (rows Made.cs xs) xs.length ∧ s.ρ 1 = .ro (rows Made.cs ys) xs.length ∧ s.ρ 5 = .sc (.int .i64 i.1.length) ∧ s.h = h0 ∧ s.n = 27) ([], xs, [], ys) (by simp [upd_app]) ?_
  rintro ⟨pre, rest, pre', rest'⟩ ⟨ρ, hh, n⟩ ⟨hx, hy, hp, hE, h0', h1', h5', rfl, rfl⟩
  simp only at hx hy hp hE h0' h1' h5'
  refine run_ok (n := 400) ?_
  have hlr : rest.length = rest'.length := by have := congrArg List.length hx; have := congrArg List.length hy; simp only [List.length_append] at *; omega
  cases rest with
  | nil =>
    cases rest' with
    | cons y r => simp at hlr
    | nil =>
    simp at hx
    subst hx
    simp [h0', h5']
    refine T.on 400 ?_
    simp [← hE, eqBy]
  | cons x rest =>
    cases rest' with
    | nil => simp at hlr
    | cons y rest' =>
    have hlt : (pre.length : Int) < xs.length := by rw [← hx]; simp only [List.length_append, List.length_cons]; omega
    have hd := rows_drop Made.len pre (x :: rest)
    rw [hx, rows_cons] at hd
    have hd' := rows_drop Made.len pre' (y :: rest')
    rw [hy, rows_cons, ← hp] at hd'
    have hw : IntKind.i64.wrap ((pre.length : Int) + 1) = pre.length + 1 := wrap_i64 (by omega) (by omega)
    simp [h0', h1', h5', hlt]
    refine T.text 400 mixed (by kernel_rfl) (by kernel_rfl) ?_
    simp [h0', h1', h5', hlt, hd, hd', Made.cs]
    refine callSK.by rfl (by kernel_rfl) (by simp [roc, upd_app, Made.cs]) (R60 x y (hs x (by rw [← hx]; simp))) ?_
    cases hE1 : eqMade x y
    · simp [h5', hw, ← hE, eqBy, hE1]
    · simp [h5', hw]
      refine ⟨pre ++ [x], rest, by simp, pre' ++ [y], rest', _, Le.refl _, ?_⟩
      simp [hx, hy, hp, h0', h1', ← hE, eqBy, hE1, upd_app]
theorem R26 (xs ys : List Made) (hb : xs.length < 4611686018427387904) (hs : ∀ s ∈ xs, s.ok) : Ret Try.prog 26 [.ro (rows Made.cs xs) xs.length, .ro (rows Made.cs ys) ys.length] (.sc (.bool (eqBy sameMade xs ys))) [.un, .un] := by
  refine Ret.run Try.func26 K26 (by simp) rfl rfl 500 ?_
  by_cases hl : xs.length = ys.length
  case neg =>
    have : ¬ ((xs.length : Int) = ys.length) := by omega
    simp [A26, iniρ, this, eqBy_len hl]
  simp [A26, iniρ, ← hl]
  refine T.rounds (μ := fun i : List Made × List Made × List Made × List Made => i.2.1.length)
    (fun i s => i.1 ++ i.2.1 = xs ∧ i.2.2.1 ++ i.2.2.2 = ys ∧ i.1.length = i.2.2.1.length ∧ eqBy sameMade i.2.1 i.2.2.2 = eqBy sameMade xs ys ∧ s.ρ 0 = .ro (rows Made.cs xs) xs.length ∧ s.ρ 1 = .ro (rows Made.cs ys) xs.length ∧ s.ρ 5 = .sc (.int .i64 i.1.length) ∧ s.h = h0 ∧ s.n = 27) ([], xs, [], ys) (by simp [upd_app]) ?_
  rintro ⟨pre, rest, pre', rest'⟩ ⟨ρ, hh, n⟩ ⟨hx, hy, hp, hE, h0', h1', h5', rfl, rfl⟩
  simp only at hx hy hp hE h0' h1' h5'
  refine run_ok (n := 400) ?_
  have hlr : rest.length = rest'.length := by have := congrArg List.length hx; have := congrArg List.length hy; simp only [List.length_append] at *; omega
  cases rest with
  | nil =>
    cases rest' with
    | cons y r => simp at hlr
    | nil =>
    simp at hx
    subst hx
    simp [h0', h5']
    refine T.on 400 ?_
    simp [← hE, eqBy]
  | cons x rest =>
    cases rest' with
    | nil => simp at hlr
    | cons y rest' =>
    have hlt : (pre.length : Int) < xs.length := by rw [← hx]; simp only [List.length_append, List.length_cons]; omega
    have hd := rows_drop Made.len pre (x :: rest)
    rw [hx, rows_cons] at hd
    have hd' := rows_drop Made.len pre' (y :: rest')
    rw [hy, rows_cons, ← hp] at hd'
    have hw : IntKind.i64.wrap ((pre.length : Int) + 1) = pre.length + 1 := wrap_i64 (by omega) (by omega)
    simp [h0', h1', h5', hlt]
    refine T.text 400 mixed (by kernel_rfl) (by kernel_rfl) ?_
    simp [h0', h1', h5', hlt, hd, hd', Made.cs]
    refine callSK.by rfl (by kernel_rfl) (by simp [roc, upd_app, Made.cs]) (R56 x y (hs x (by rw [← hx]; simp))) ?_
    cases hE1 : sameMade x y
    · simp [h5', hw, ← hE, eqBy, hE1]
    · simp [h5', hw]
      refine ⟨pre ++ [x], rest, by simp, pre' ++ [y], rest', _, Le.refl _, ?_⟩
      simp [hx, hy, hp, h0', h1', ← hE, eqBy, hE1, upd_app]
theorem Made.rocs (h : Nat → Option (Option (List AV))) (xs : List Made) : (rows Made.oc xs).mapM (Am.roc h 3) = some (rows Made.cs xs) := by
  have key : ∀ (n : Nat) (ys : List File), Am.roc h 3 (.own (rows File.cs ys) n 2) = some (.ro (rows File.cs ys) n) := fun n ys => by
    have : (rows File.cs ys).mapM (Am.roc h 2) = some (rows File.cs ys) := by
      induction ys with
      | nil => rfl
      | cons y ys ih =>
        rw [rows_cons]
        simp only [File.cs, List.cons_append, List.nil_append, List.mapM_cons, ih, show ∀ v, Am.roc h 2 (.sc v) = some (.sc v) from fun _ => rfl]
        rfl
    rw [show Am.roc h 3 (.own (rows File.cs ys) n 2) = ((rows File.cs ys).mapM (Am.roc h 2)).map fun ys => .ro ys n from rfl, this]
    rfl
  induction xs with
  | nil => rfl
  | cons x xs ih =>
    rw [rows_cons, rows_cons]
    simp only [Made.oc, Made.cs, List.cons_append, List.nil_append, List.mapM_cons, ih, key, show ∀ v, Am.roc h 3 (.sc v) = some (.sc v) from fun _ => rfl]
    rfl
theorem Made.roc {h : Nat → Option (Option (List AV))} {b : Nat} {xs : List Made} {lim : Bool} (hb : h b = some (some (rows Made.oc xs))) : Am.roc h 4 (.sl b 0 xs.length 3 lim) = some (.ro (rows Made.cs xs) xs.length) := by
  have hl := rows_length Made.olen xs
  cases xs with
  | nil => simp [Am.roc, shut, hb, rows_nil, shut.shutL]
  | cons x xs =>
    have hs : shut.shutL (rows Made.oc (x :: xs)) = false := by rw [rows_cons]; simp [Made.oc, shut.shutL, shut]
    have ht : List.take ((x :: xs).length * 3) (rows Made.oc (x :: xs)) = rows Made.oc (x :: xs) := List.take_of_length_le (by rw [hl]; exact Nat.le_refl _)
    rw [show Am.roc h 4 (.sl b 0 (x :: xs).length 3 lim) = match h b with
      | some (some cs) => if 0 + (x :: xs).length * 3 ≤ cs.length then if shut.shutL ((cs.drop 0).take ((x :: xs).length * 3)) then some (.ro ((cs.drop 0).take ((x :: xs).length * 3)) (x :: xs).length) else (((cs.drop 0).take ((x :: xs).length * 3)).mapM (Am.roc h 3)).map fun ys => .ro ys (x :: xs).length else none
      | _ => none from rfl, hb]
    simp only [List.drop_zero, ht, hs, Nat.zero_add]
    rw [if_pos (by rw [hl]; exact Nat.le_refl _), if_neg (by simp), Made.rocs]
    rfl
theorem Made.flo (xs : List Made) : flt (.own (rows Made.oc xs) xs.length 3) = true := by simpa [flt] using fltL_rows Made.fl xs
theorem R27 (xs : List Made) (hb : xs.length < 4398046511104) (hs : ∀ s ∈ xs, s.ok) : Ret Try.prog 27 [.ro (rows Made.cs xs) xs.length] (.own (rows Made.oc xs) xs.length 3) [.un] := by
  refine Ret.run Try.func27 K27 (by simp) rfl rfl 500 ?_
  have h1 : (xs.length : Int) * 56 ≤ 281474976710656 := by omega
  have h2 : (xs.length : Int) ≤ 9223372036854775807 := by omega
  simp [A27, iniρ, h1, h2]
  refine T.rounds (μ := fun i : List Made × List Made => i.2.length)
    (fun i s => i.1 ++ i.2 = xs ∧ s.ρ 0 = .ro (rows Made.cs xs) xs.length ∧ s.ρ 3 = .sl 7 0 xs.length 3 false ∧ s.ρ 4 = .sc (.int .i64 i.1.length) ∧ s.h 7 = some (some (rows Made.oc i.1 ++ rows Made.z i.2)) ∧ s.h 21001 = none ∧ s.n = 23) ([], xs) (by simp [upd_app, rows_nil, flatten_rep]; rfl) ?_
  rintro ⟨pre, rest⟩ ⟨ρ, hh, n⟩ ⟨hx, h0', h3', h4', h7', hf2, rfl⟩
  simp only at hx h0' h3' h4' h7' hf2
  refine run_ok (n := 400) ?_
  cases rest with
  | nil =>
    simp at hx
    subst hx
    simp [h0', h3', h4']
    refine T.on 400 ?_
    simp [h3', h7', ex1, rows_nil, rows_length Made.olen, idfreeL_rows Made.fr]
  | cons x rest =>
    have hlt : (pre.length : Int) < xs.length := by rw [← hx]; simp only [List.length_append, List.length_cons]; omega
    have hxs : x.ok := hs x (by rw [← hx]; simp)
    have hd := rows_drop Made.len pre (x :: rest)
    rw [hx, rows_cons] at hd
    have hw : IntKind.i64.wrap ((pre.length : Int) + 1) = pre.length + 1 := wrap_i64 (by omega) (by omega)
    have hov := rows_over3 Made.olen Made.zlen pre rest x [.sc (.string x.out), .sl 21001 0 x.fs.length 2 false, .sc (.string x.err)] rfl
    have hle : pre.length * 3 + 3 ≤ (rows Made.oc pre).length + (rows Made.z (x :: rest)).length := by rw [rows_length Made.olen, rows_length Made.zlen, List.length_cons]; omega
    simp [h0', h3', h4', h7', hlt, hd, Made.cs]
    refine callK.ro 20 rfl (by kernel_rfl) (by simp [roc, upd_app, Made.cs]) (R57 x hxs) (by simpa [flt] using fltL_of (Made.fl x)) (by simp [inst, instL, Made.oc, hf2, upd_app]; exact ⟨rfl, rfl⟩) rfl ?_
    simp [h3', h4', h7', hlt, hle, hov, hw]
    have hst : (rows Made.oc pre ++ (AV.sc (.string x.out) :: AV.sl 21001 0 x.fs.length 2 false :: AV.sc (.string x.err) :: rows Made.z rest)).set (pre.length * 3 + 1) (AV.own (rows File.cs x.fs) x.fs.length 2) = rows Made.oc (pre ++ [x]) ++ rows Made.z rest := by
      rw [pack_at Made.olen]
      simp [rows_append, rows_cons, rows_nil, Made.oc]
    refine ⟨pre ++ [x], rest, by simp, _, Le.trans (Le.pack 7 (pre.length * 3 + 1) (i := 21001) (len := x.fs.length) (sz := 2) (cs' := rows File.cs x.fs) (by simp [upd_app]; rfl) ?_ (by simp [upd_app]) (by decide) (by rw [rows_length File.len]) (idfreeL_rows File.fr _))
      (Le.reset [0, 3, 4] [7] ?_ ?_), ?_⟩
    · exact get_at Made.olen pre _ 1
    · simp [upd_app, menB, idfree, h0', h3', h4']
    · intro b hb cs hcs
      simp at hb
      subst hb
      simp [upd_app, hst] at hcs
      subst hcs
      exact fun y hy => (List.mem_append.1 hy).elim (rows_all Made.fr _ y) (rows_all (q := idfree) (by simp [Made.z, idfree]) _ y)
    · simp [upd_app, hx, h0', h3', h4', hst]
theorem R58 (g : FuncId) (f : Made → Made → Bool) (hg : callB Try.prog g = true) (hf : ∀ x y : Made, x.ok → Ret Try.prog g [.agg (Made.cs x), .agg (Made.cs y)] (.sc (.bool (f x y))) [.un, .un]) (xs ys : List Made) (hb : xs.length < 4611686018427387904) (hs : ∀ s ∈ xs, s.ok) :
    Ret Try.prog 58 [.ro (rows Made.cs xs) xs.length, .ro (rows Made.cs ys) ys.length, .clo g []] (.sc (.bool (eqBy f xs ys))) [.un, .un, .un] := by
  refine Ret.run Try.func58 K58 (by simp) rfl rfl 500 ?_
  by_cases hl : xs.length = ys.length
  case neg =>
    have : ¬ ((xs.length : Int) = ys.length) := by omega
    simp [A58, iniρ, this, eqBy_len hl]
  simp [A58, iniρ, ← hl]
  refine T.rounds (μ := fun i : List Made × List Made × List Made × List Made => i.2.1.length)
    (fun i s => i.1 ++ i.2.1 = xs ∧ i.2.2.1 ++ i.2.2.2 = ys ∧ i.1.length = i.2.2.1.length ∧ eqBy f i.2.1 i.2.2.2 = eqBy f xs ys ∧ s.ρ 15 = .ro (rows Made.cs xs) xs.length ∧ s.ρ 1 = .ro (rows Made.cs ys) xs.length ∧ s.ρ 2 = .clo g [] ∧ s.ρ 16 = .sc (.int .i64 xs.length) ∧ s.ρ 17 = .sc (.int .i64 i.1.length) ∧ s.h 8 = none ∧ s.h 9 = none ∧ s.n = 32) ([], xs, [], ys) (by simp [upd_app]) ?_
  rintro ⟨pre, rest, pre', rest'⟩ ⟨ρ, hh, n⟩ ⟨hx, hy, hp, hE, h0', h1', h2', h16', h5', h8', h9', rfl⟩
  simp only at hx hy hp hE h0' h1' h2' h16' h5' h8' h9'
  refine run_ok (n := 400) ?_
  have hlr : rest.length = rest'.length := by have := congrArg List.length hx; have := congrArg List.length hy; simp only [List.length_append] at *; omega
  cases rest with
  | nil =>
    cases rest' with
    | cons y r => simp at hlr
    | nil =>
    simp at hx
    subst hx
    simp [h0', h5', h16']
    refine T.on 400 ?_
    simp [← hE, eqBy]
  | cons x rest =>
    cases rest' with
    | nil => simp at hlr
    | cons y rest' =>
    have hlt : (pre.length : Int) < xs.length := by rw [← hx]; simp only [List.length_append, List.length_cons]; omega
    have hd := rows_drop Made.len pre (x :: rest)
    rw [hx, rows_cons] at hd
    have hd' := rows_drop Made.len pre' (y :: rest')
    rw [hy, rows_cons, ← hp] at hd'
    have hw : IntKind.i64.wrap ((pre.length : Int) + 1) = pre.length + 1 := wrap_i64 (by omega) (by omega)
    simp [h0', h1', h2', h16', h5', h8', h9', hlt, hd, hd', Made.cs, over]
    refine callK.ro 29 (caps := []) (f := g) (by simp [upd_app, h2']) hg (by simp [roc, upd_app, Made.cs]) (hf x y (hs x (by rw [← hx]; simp))) rfl rfl rfl ?_
    cases hE1 : f x y
    · simp [h5', hw, ← hE, eqBy, hE1]
    · simp [h5', hw]
      refine ⟨pre ++ [x], rest, by simp, pre' ++ [y], rest', _, Le.reset [15, 1, 2, 16, 17] [] ?_ (by simp), ?_⟩
      · simp [upd_app, menB, idfree, idfree.idfreeL, h0', h1', h2', h16']
      · simp [hx, hy, hp, h0', h1', h2', h16', ← hE, eqBy, hE1, upd_app]
theorem R28 (xs ys : List Made) (hb : xs.length < 4611686018427387904) (hs : ∀ s ∈ xs, s.ok) : Ret Try.prog 28 [.ro (rows Made.cs xs) xs.length, .ro (rows Made.cs ys) ys.length] (.sc (.bool (eqBy sameMade xs ys))) [.un, .un] := by
  refine Ret.run Try.func28 K28 (by simp) rfl rfl 500 ?_
  simp [A28, iniρ]
  refine callK.ro 7 rfl (by kernel_rfl) (by simp [roc, upd_app]) (R58 59 sameMade (by kernel_rfl) R59 xs ys hb hs) rfl rfl rfl ?_
  simp
theorem eqFile_refl (a : File) : eqFile a a = true := by simp [eqFile]
theorem eqMade_refl (s : Made) : eqMade s s = true := by simp [eqMade, eqBy_refl eqFile_refl]
theorem R7 (xs ys : List Made) (hx : xs.length < 4398046511104) (hy : ys.length < 4398046511104) (hs : ∀ s ∈ xs, s.ok) (ht : ∀ s ∈ ys, s.ok) : Ret Try.prog 7 [.ro (rows Made.cs xs) xs.length, .ro (rows Made.cs ys) ys.length] (.sc (.bool true)) [.un, .un] := by
  have bx : xs.length < 4611686018427387904 := by omega
  have by' : ys.length < 4611686018427387904 := by omega
  refine Ret.run Try.func7 K7 (by simp) rfl rfl 500 ?_
  simp [A7, iniρ]
  refine callK.ro 12 rfl (by kernel_rfl) (by simp [roc, upd_app]) (R25 xs bx hs 1048576) rfl rfl rfl ?_
  simp
  by_cases h1 : szS szMade xs 1048576 < 0
  case pos => simp [h1]; intro; omega
  simp [h1, Int.not_lt.1 h1]
  refine callK.ro 17 rfl (by kernel_rfl) (by simp [roc, upd_app]) (R25 ys by' ht (szS szMade xs 1048576)) rfl rfl rfl ?_
  simp
  by_cases h2 : szS szMade ys (szS szMade xs 1048576) < 0
  case pos => simp [h2]; intro; omega
  simp [h2, Int.not_lt.1 h2]
  refine callK.own 21 rfl (by kernel_rfl) (by simp [roc, upd_app]) (R27 xs hx hs) (Made.flo xs) (by simp) rfl ?_
  simp
  refine callK.own 23 rfl (by kernel_rfl) (by simp [roc, upd_app]) (R27 ys hy ht) (Made.flo ys) (by simp) rfl ?_
  simp
  refine callK.ro 24 rfl (by kernel_rfl) (by simp [Made.roc (xs := xs), Made.roc (xs := ys)]) (R26 xs ys bx hs) rfl rfl rfl ?_
  simp
  refine callK.own 26 rfl (by kernel_rfl) (by simp [roc, upd_app]) (R27 xs hx hs) (Made.flo xs) (by simp) rfl ?_
  simp
  refine callK.own 28 rfl (by kernel_rfl) (by simp [roc, upd_app]) (R27 ys hy ht) (Made.flo ys) (by simp) rfl ?_
  simp
  refine callK.ro 31 rfl (by kernel_rfl) (by simp [Made.roc (xs := xs), Made.roc (xs := ys)]) (R28 xs ys bx hs) rfl rfl rfl ?_
  simp
  refine callK.own 37 rfl (by kernel_rfl) (by simp [roc, upd_app]) (R27 xs hx hs) (Made.flo xs) (by simp) rfl ?_
  simp
  refine callK.ro 38 rfl (by kernel_rfl) (by simp [Made.roc (xs := xs)]) (R29 xs xs bx hs) rfl rfl rfl ?_
  simp [eqBy_refl eqMade_refl]
  refine callK.own 42 rfl (by kernel_rfl) (by simp [roc, upd_app]) (R27 ys hy ht) (Made.flo ys) (by simp) rfl ?_
  simp
  refine callK.ro 43 rfl (by kernel_rfl) (by simp [Made.roc (xs := ys)]) (R29 ys ys by' ht) rfl rfl rfl ?_
  simp [eqBy_refl eqMade_refl]
end Go.Proofs.Ytlajojcobadieaa.Am
