/- The functions that FnExactCacheOk reaches, each by its contract. -/
import Derived.Test.YtlajojcobadieaaProg
import Derived.Test.YtlajojcobadieaaAmP
import Derived.KernelRfl
namespace Go.Proofs.Ytlajojcobadieaa.Am
open Go Go.Proofs
set_option linter.unusedSimpArgs false
set_option linter.unusedVariables false
attribute [local congr] T_congr callK_congr
attribute [local simp] run exec_q exec_w exec_c rest_app restS_app execS_q execS_c aval dOk upd_app ev_t ev_c setO_some setO_none put_mk pinsOf isIo sbin endR fin resL one outL out1 clo1 cloL shut shut.shutL wantA weff cellsOf fillA deref natOf ρ0_app h0_app plain plain.plainL keep_app keepH_app andThen_normal andThen_ret andThen_exit pop_nil pop_after pop_after_ret pop_after_exit pop_blk pop_blk_ret pop_blk_exit runS
/- 5: loop.example/g00464/laws.FnExactCacheOk -/
def A5 : AC := (.seq (.ops [⟨(some 2), none, .q (.mov (.c (.sc (.bool false))))⟩])
  (.seq (.ops [⟨(some 3), none, .q (.mov (.c (.sc (.int .i64 1048576))))⟩])
  (.seq (.ops [⟨(some 7), none, .q (.mov (.t 0))⟩, ⟨(some 8), none, .q (.mov (.t 3))⟩, ⟨(some 9), none, .c (.c (.clo 16 [])) [(.t 7), (.t 8)]⟩, ⟨(some 3), none, .q (.mov (.t 9))⟩])
  (.seq (.seq (.ops [⟨(some 10), none, .q (.mov (.t 3))⟩, ⟨(some 11), none, .q (.bin .lss (.t 10) (.c (.sc (.int .i64 0))))⟩])
  (.cond (.t 11) (.seq (.ops [⟨(some 2), none, .q (.mov (.c (.sc (.bool true))))⟩])
  .ret)
  .skip))
  (.seq (.ops [⟨(some 12), none, .q (.mov (.t 0))⟩, ⟨(some 13), none, .c (.c (.clo 18 [])) [(.t 12)]⟩, ⟨(some 14), none, .c (.c (.clo 17 [])) [(.t 13)]⟩, ⟨(some 4), none, .q (.mov (.t 14))⟩])
  (.seq (.ops [⟨(some 15), none, .q (.mov (.t 0))⟩, ⟨(some 16), none, .c (.c (.clo 18 [])) [(.t 15)]⟩, ⟨(some 5), none, .q (.mov (.t 16))⟩])
  (.seq (.ops [⟨(some 17), none, .q (.mov (.t 5))⟩, ⟨(some 18), none, .c (.c (.clo 19 [])) [(.t 17)]⟩, ⟨(some 6), none, .q (.mov (.t 18))⟩])
  (.seq (.seq (.ops [⟨(some 19), none, .q (.mov (.t 6))⟩, ⟨(some 20), none, .q (.mov (.t 4))⟩, ⟨(some 21), none, .q (.beq true (.t 19) (.t 20))⟩])
  (.cond (.t 21) (.seq (.ops [⟨(some 2), none, .q (.mov (.c (.sc (.bool false))))⟩])
  .ret)
  .skip))
  (.seq (.seq (.ops [⟨(some 22), none, .q (.mov (.t 5))⟩, ⟨(some 23), none, .q (.mov (.t 0))⟩, ⟨(some 24), none, .c (.c (.clo 18 [])) [(.t 23)]⟩, ⟨(some 25), none, .c (.c (.clo 20 [])) [(.t 22), (.t 24)]⟩, ⟨(some 26), none, .q (.not (.t 25))⟩])
  (.cond (.t 26) (.seq (.ops [⟨(some 2), none, .q (.mov (.c (.sc (.bool false))))⟩])
  .ret)
  .skip))
  (.seq (.ops [⟨(some 2), none, .q (.mov (.c (.sc (.bool true))))⟩])
  .ret))))))))))
theorem K5 : Try.f5.body.bind (comp Try.prog) = some A5 ∧ Try.f5.ntmps = 27 ∧ Try.f5.results.toList.mapM (resB Try.prog) = some [.mov (.t 2)] := ⟨by kernel_rfl, by kernel_rfl, by kernel_rfl⟩
/- 16: loop.example/g00464/laws.szSlotS -/
def A16 : AC := (.seq (.ops [⟨(some 4), none, .q (.mov (.c (.sc (.int .i64 0))))⟩])
  (.seq (.ops [⟨(some 6), none, .q (.mov (.t 1))⟩, ⟨(some 7), none, .q (.mov (.t 0))⟩, ⟨(some 8), none, .q (.llen (.t 7))⟩, ⟨(some 9), none, .q (.bin .sub (.t 6) (.t 8))⟩, ⟨(some 1), none, .q (.mov (.t 9))⟩])
  (.seq (.seq (.ops [⟨(some 10), none, .q (.mov (.t 1))⟩, ⟨(some 11), none, .q (.bin .lss (.t 10) (.c (.sc (.int .i64 0))))⟩])
  (.cond (.t 11) (.seq (.ops [⟨(some 4), none, .q (.mov (.c (.sc (.int .i64 (-1)))))⟩])
  .ret)
  .skip))
  (.seq (.seq (.ops [⟨(some 5), none, .q (.mov (.c (.sc (.int .i64 0))))⟩])
  (.block 0 (.loop (.seq (.seq (.ops [⟨(some 12), none, .q (.mov (.t 5))⟩, ⟨(some 13), none, .q (.mov (.t 0))⟩, ⟨(some 14), none, .q (.llen (.t 13))⟩, ⟨(some 15), none, .q (.bin .lss (.t 12) (.t 14))⟩])
  (.cond (.t 15) .skip
  (.exit 0)))
  (.seq (.block 1 (.seq (.ops [⟨(some 18), none, .q (.mov (.t 0))⟩, ⟨(some 19), none, .q (.mov (.t 5))⟩, ⟨(some 20), none, .q (.iadr 2 (.t 18) (.t 19))⟩, ⟨(some 21), none, .q (.load true 2 (.t 20))⟩, ⟨(some 22), none, .q (.mov (.t 1))⟩, ⟨(some 23), none, .c (.c (.clo 42 [])) [(.t 21), (.t 22)]⟩, ⟨(some 1), none, .q (.mov (.t 23))⟩])
  (.seq (.ops [⟨(some 24), none, .q (.mov (.t 1))⟩, ⟨(some 25), none, .q (.bin .lss (.t 24) (.c (.sc (.int .i64 0))))⟩])
  (.cond (.t 25) (.seq (.ops [⟨(some 4), none, .q (.mov (.c (.sc (.int .i64 (-1)))))⟩])
  .ret)
  .skip))))
  (.ops [⟨(some 16), none, .q (.mov (.t 5))⟩, ⟨(some 17), none, .q (.bin .add (.t 16) (.c (.sc (.int .i64 1))))⟩, ⟨(some 5), none, .q (.mov (.t 17))⟩]))))))
  (.seq (.ops [⟨(some 26), none, .q (.mov (.t 1))⟩, ⟨(some 4), none, .q (.mov (.t 26))⟩])
  .ret)))))
theorem K16 : Try.f16.body.bind (comp Try.prog) = some A16 ∧ Try.f16.ntmps = 27 ∧ Try.f16.results.toList.mapM (resB Try.prog) = some [.mov (.t 4)] := ⟨by kernel_rfl, by kernel_rfl, by kernel_rfl⟩
/- 17: loop.example/g00464/spec.CacheOk -/
def A17 : AC := (.seq (.ops [⟨(some 2), none, .q (.mov (.c (.sc (.bool false))))⟩])
  (.seq (.seq (.ops [⟨(some 3), none, .q (.mov (.c (.sc (.int .i64 0))))⟩])
  (.block 0 (.loop (.seq (.seq (.ops [⟨(some 4), none, .q (.mov (.t 3))⟩, ⟨(some 5), none, .q (.mov (.t 0))⟩, ⟨(some 6), none, .q (.llen (.t 5))⟩, ⟨(some 7), none, .q (.bin .lss (.t 4) (.t 6))⟩])
  (.cond (.t 7) .skip
  (.exit 0)))
  (.seq (.block 1 (.seq (.ops [⟨(some 10), none, .q (.mov (.t 0))⟩, ⟨(some 11), none, .q (.mov (.t 0))⟩, ⟨(some 12), none, .q (.mov (.t 3))⟩, ⟨(some 13), none, .q (.iadr 2 (.t 11) (.t 12))⟩, ⟨(some 14), none, .q (.fadr 0 (.t 13))⟩, ⟨(some 15), none, .q (.load false 1 (.t 14))⟩, ⟨(some 16), none, .c (.c (.clo 43 [])) [(.t 10), (.t 15)]⟩, ⟨(some 17), none, .q (.mov (.t 3))⟩, ⟨(some 18), none, .q (.bin .neq (.t 16) (.t 17))⟩])
  (.cond (.t 18) (.seq (.ops [⟨(some 2), none, .q (.mov (.c (.sc (.bool false))))⟩])
  .ret)
  .skip)))
  (.ops [⟨(some 8), none, .q (.mov (.t 3))⟩, ⟨(some 9), none, .q (.bin .add (.t 8) (.c (.sc (.int .i64 1))))⟩, ⟨(some 3), none, .q (.mov (.t 9))⟩]))))))
  (.seq (.ops [⟨(some 19), none, .q (.mov (.t 0))⟩, ⟨(some 20), none, .q (.llen (.t 19))⟩, ⟨(some 21), none, .q (.bin .leq (.t 20) (.c (.sc (.int .i64 20))))⟩, ⟨(some 22), none, .q (.mov (.t 21))⟩, ⟨(some 23), (some (22, true)), .q (.mov (.t 0))⟩, ⟨(some 24), (some (22, true)), .c (.c (.clo 44 [])) [(.t 23)]⟩, ⟨(some 25), (some (22, true)), .q (.bin .leq (.t 24) (.c (.sc (.int .i64 3000))))⟩, ⟨(some 26), none, .q (.pick (.t 22) (.t 25) (.c (.sc (.bool false))))⟩, ⟨(some 2), none, .q (.mov (.t 26))⟩])
  .ret)))
theorem K17 : Try.f17.body.bind (comp Try.prog) = some A17 ∧ Try.f17.ntmps = 27 ∧ Try.f17.results.toList.mapM (resB Try.prog) = some [.mov (.t 2)] := ⟨by kernel_rfl, by kernel_rfl, by kernel_rfl⟩
/- 18: loop.example/g00464/laws.toSlotS -/
def A18 : AC := (.seq (.ops [⟨(some 2), none, .q (.mov (.c .em))⟩])
  (.seq (.ops [⟨(some 5), none, .q (.mov (.t 0))⟩, ⟨(some 6), none, .q (.llen (.t 5))⟩, ⟨(some 7), none, .w (.mk 2 48 [.em, .em] (.t 6) (.t 6))⟩, ⟨(some 3), none, .q (.mov (.t 7))⟩])
  (.seq (.seq (.ops [⟨(some 4), none, .q (.mov (.c (.sc (.int .i64 0))))⟩])
  (.block 0 (.loop (.seq (.seq (.ops [⟨(some 8), none, .q (.mov (.t 4))⟩, ⟨(some 9), none, .q (.mov (.t 0))⟩, ⟨(some 10), none, .q (.llen (.t 9))⟩, ⟨(some 11), none, .q (.bin .lss (.t 8) (.t 10))⟩])
  (.cond (.t 11) .skip
  (.exit 0)))
  (.seq (.block 1 (.ops [⟨(some 14), none, .q (.mov (.t 3))⟩, ⟨(some 15), none, .q (.mov (.t 4))⟩, ⟨(some 16), none, .q (.mov (.t 0))⟩, ⟨(some 17), none, .q (.mov (.t 4))⟩, ⟨(some 18), none, .q (.iadr 2 (.t 16) (.t 17))⟩, ⟨(some 19), none, .q (.load true 2 (.t 18))⟩, ⟨(some 20), none, .c (.c (.clo 45 [])) [(.t 19)]⟩, ⟨(some 21), none, .q (.iadr 2 (.t 14) (.t 15))⟩, ⟨none, none, .w (.store 2 (.t 21) (.t 20))⟩]))
  (.ops [⟨(some 12), none, .q (.mov (.t 4))⟩, ⟨(some 13), none, .q (.bin .add (.t 12) (.c (.sc (.int .i64 1))))⟩, ⟨(some 4), none, .q (.mov (.t 13))⟩]))))))
  (.seq (.ops [⟨(some 22), none, .q (.mov (.t 3))⟩, ⟨(some 2), none, .q (.mov (.t 22))⟩])
  .ret))))
theorem K18 : Try.f18.body.bind (comp Try.prog) = some A18 ∧ Try.f18.ntmps = 23 ∧ Try.f18.results.toList.mapM (resB Try.prog) = some [.mov (.t 2)] := ⟨by kernel_rfl, by kernel_rfl, by kernel_rfl⟩
/- 19: loop.example/g00464/impl.CacheOk -/
def A19 : AC := (.seq (.ops [⟨(some 2), none, .q (.mov (.c (.sc (.bool false))))⟩])
  (.seq (.seq (.ops [⟨(some 5), none, .q (.mov (.t 0))⟩, ⟨(some 6), none, .q (.llen (.t 5))⟩, ⟨(some 7), none, .q (.mov (.c (.sc (.int .i64 0))))⟩])
  (.block 0 (.loop (.seq (.ops [⟨(some 8), none, .q (.bin .lss (.t 7) (.t 6))⟩])
  (.seq (.cond (.t 8) .skip
  (.exit 0))
  (.seq (.block 1 (.seq (.ops [⟨(some 9), none, .q (.mov (.t 7))⟩, ⟨(some 10), none, .q (.iadr 2 (.t 5) (.t 7))⟩, ⟨(some 11), none, .q (.load true 2 (.t 10))⟩, ⟨(some 4), none, .w (.alloc [.em, .em])⟩, ⟨(some 3), none, .q (.mov (.t 9))⟩, ⟨none, none, .w (.store 2 (.t 4) (.t 11))⟩])
  (.seq (.ops [⟨(some 12), none, .q (.mov (.t 0))⟩, ⟨(some 13), none, .q (.fadr 0 (.t 4))⟩, ⟨(some 14), none, .q (.load false 1 (.t 13))⟩, ⟨(some 15), none, .c (.c (.clo 46 [])) [(.t 12), (.t 14)]⟩, ⟨(some 16), none, .q (.mov (.t 3))⟩, ⟨(some 17), none, .q (.bin .neq (.t 15) (.t 16))⟩])
  (.cond (.t 17) (.seq (.ops [⟨(some 2), none, .q (.mov (.c (.sc (.bool false))))⟩])
  .ret)
  .skip))))
  (.ops [⟨(some 18), none, .q (.bin .add (.t 7) (.c (.sc (.int .i64 1))))⟩, ⟨(some 7), none, .q (.mov (.t 18))⟩])))))))
  (.seq (.ops [⟨(some 19), none, .q (.mov (.t 0))⟩, ⟨(some 20), none, .q (.llen (.t 19))⟩, ⟨(some 21), none, .q (.bin .leq (.t 20) (.c (.sc (.int .i64 20))))⟩, ⟨(some 22), none, .q (.mov (.t 21))⟩, ⟨(some 23), (some (22, true)), .q (.mov (.t 0))⟩, ⟨(some 24), (some (22, true)), .c (.c (.clo 47 [])) [(.t 23)]⟩, ⟨(some 25), (some (22, true)), .q (.bin .leq (.t 24) (.c (.sc (.int .i64 3000))))⟩, ⟨(some 26), none, .q (.pick (.t 22) (.t 25) (.c (.sc (.bool false))))⟩, ⟨(some 2), none, .q (.mov (.t 26))⟩])
  .ret)))
theorem K19 : Try.f19.body.bind (comp Try.prog) = some A19 ∧ Try.f19.ntmps = 27 ∧ Try.f19.results.toList.mapM (resB Try.prog) = some [.mov (.t 2)] := ⟨by kernel_rfl, by kernel_rfl, by kernel_rfl⟩
/- 20: loop.example/g00464/laws.eqSlotS -/
def A20 : AC := (.seq (.ops [⟨(some 4), none, .q (.mov (.c (.sc (.bool false))))⟩])
  (.seq (.seq (.ops [⟨(some 6), none, .q (.mov (.t 0))⟩, ⟨(some 7), none, .q (.llen (.t 6))⟩, ⟨(some 8), none, .q (.mov (.t 1))⟩, ⟨(some 9), none, .q (.llen (.t 8))⟩, ⟨(some 10), none, .q (.bin .neq (.t 7) (.t 9))⟩])
  (.cond (.t 10) (.seq (.ops [⟨(some 4), none, .q (.mov (.c (.sc (.bool false))))⟩])
  .ret)
  .skip))
  (.seq (.seq (.ops [⟨(some 5), none, .q (.mov (.c (.sc (.int .i64 0))))⟩])
  (.block 0 (.loop (.seq (.seq (.ops [⟨(some 11), none, .q (.mov (.t 5))⟩, ⟨(some 12), none, .q (.mov (.t 0))⟩, ⟨(some 13), none, .q (.llen (.t 12))⟩, ⟨(some 14), none, .q (.bin .lss (.t 11) (.t 13))⟩])
  (.cond (.t 14) .skip
  (.exit 0)))
  (.seq (.block 1 (.seq (.any [(⟨(some 17), none, .q (.mov (.t 0))⟩, []), (⟨(some 18), none, .q (.mov (.t 5))⟩, []), (⟨(some 19), none, .q (.iadr 2 (.t 17) (.t 18))⟩, [0, 1]), (⟨(some 20), none, .q (.load true 2 (.t 19))⟩, [2]), (⟨(some 21), none, .q (.mov (.t 1))⟩, []), (⟨(some 22), none, .q (.mov (.t 5))⟩, []), (⟨(some 23), none, .q (.iadr 2 (.t 21) (.t 22))⟩, [4, 5]), (⟨(some 24), none, .q (.load true 2 (.t 23))⟩, [6]), (⟨(some 25), none, .c (.c (.clo 48 [])) [(.t 20), (.t 24)]⟩, [3, 7]), (⟨(some 26), none, .q (.not (.t 25))⟩, [8])])
  (.cond (.t 26) (.seq (.ops [⟨(some 4), none, .q (.mov (.c (.sc (.bool false))))⟩])
  .ret)
  .skip)))
  (.ops [⟨(some 15), none, .q (.mov (.t 5))⟩, ⟨(some 16), none, .q (.bin .add (.t 15) (.c (.sc (.int .i64 1))))⟩, ⟨(some 5), none, .q (.mov (.t 16))⟩]))))))
  (.seq (.ops [⟨(some 4), none, .q (.mov (.c (.sc (.bool true))))⟩])
  .ret))))
theorem K20 : Try.f20.body.bind (comp Try.prog) = some A20 ∧ Try.f20.ntmps = 27 ∧ Try.f20.results.toList.mapM (resB Try.prog) = some [.mov (.t 4)] := ⟨by kernel_rfl, by kernel_rfl, by kernel_rfl⟩
/- 42: loop.example/g00464/laws.szSlot -/
def A42 : AC := (.seq (.ops [⟨(some 2), none, .w (.box (.t 0))⟩, ⟨(some 4), none, .q (.mov (.c (.sc (.int .i64 0))))⟩])
  (.seq (.ops [⟨(some 5), none, .q (.fadr 0 (.t 2))⟩, ⟨(some 6), none, .q (.load false 1 (.t 5))⟩, ⟨(some 7), none, .q (.mov (.t 1))⟩, ⟨(some 8), none, .c (.c (.clo 71 [])) [(.t 6), (.t 7)]⟩, ⟨(some 1), none, .q (.mov (.t 8))⟩])
  (.seq (.seq (.ops [⟨(some 9), none, .q (.mov (.t 1))⟩, ⟨(some 10), none, .q (.bin .lss (.t 9) (.c (.sc (.int .i64 0))))⟩])
  (.cond (.t 10) (.seq (.ops [⟨(some 4), none, .q (.mov (.c (.sc (.int .i64 (-1)))))⟩])
  .ret)
  .skip))
  (.seq (.ops [⟨(some 11), none, .q (.fadr 1 (.t 2))⟩, ⟨(some 12), none, .q (.load false 1 (.t 11))⟩, ⟨(some 13), none, .q (.mov (.t 1))⟩, ⟨(some 14), none, .c (.c (.clo 71 [])) [(.t 12), (.t 13)]⟩, ⟨(some 1), none, .q (.mov (.t 14))⟩])
  (.seq (.seq (.ops [⟨(some 15), none, .q (.mov (.t 1))⟩, ⟨(some 16), none, .q (.bin .lss (.t 15) (.c (.sc (.int .i64 0))))⟩])
  (.cond (.t 16) (.seq (.ops [⟨(some 4), none, .q (.mov (.c (.sc (.int .i64 (-1)))))⟩])
  .ret)
  .skip))
  (.seq (.ops [⟨(some 17), none, .q (.mov (.t 1))⟩, ⟨(some 4), none, .q (.mov (.t 17))⟩])
  .ret))))))
theorem K42 : Try.f42.body.bind (comp Try.prog) = some A42 ∧ Try.f42.ntmps = 18 ∧ Try.f42.results.toList.mapM (resB Try.prog) = some [.mov (.t 4)] := ⟨by kernel_rfl, by kernel_rfl, by kernel_rfl⟩
/- 43: loop.example/g00464/spec.l18At -/
def A43 : AC := (.seq (.ops [⟨(some 4), none, .q (.mov (.c (.sc (.int .i64 0))))⟩])
  (.seq (.seq (.ops [⟨(some 5), none, .q (.mov (.c (.sc (.int .i64 0))))⟩])
  (.block 0 (.loop (.seq (.seq (.ops [⟨(some 6), none, .q (.mov (.t 5))⟩, ⟨(some 7), none, .q (.mov (.t 0))⟩, ⟨(some 8), none, .q (.llen (.t 7))⟩, ⟨(some 9), none, .q (.bin .lss (.t 6) (.t 8))⟩])
  (.cond (.t 9) .skip
  (.exit 0)))
  (.seq (.block 1 (.seq (.any [(⟨(some 12), none, .q (.mov (.t 0))⟩, []), (⟨(some 13), none, .q (.mov (.t 5))⟩, []), (⟨(some 14), none, .q (.iadr 2 (.t 12) (.t 13))⟩, [0, 1]), (⟨(some 15), none, .q (.fadr 0 (.t 14))⟩, [2]), (⟨(some 16), none, .q (.load false 1 (.t 15))⟩, [3]), (⟨(some 17), none, .q (.bstr (.t 16))⟩, [4]), (⟨(some 18), none, .q (.mov (.t 1))⟩, []), (⟨(some 19), none, .q (.bstr (.t 18))⟩, [6]), (⟨(some 20), none, .q (.bin .eql (.t 17) (.t 19))⟩, [5, 7])])
  (.cond (.t 20) (.seq (.ops [⟨(some 21), none, .q (.mov (.t 5))⟩, ⟨(some 4), none, .q (.mov (.t 21))⟩])
  .ret)
  .skip)))
  (.ops [⟨(some 10), none, .q (.mov (.t 5))⟩, ⟨(some 11), none, .q (.bin .add (.t 10) (.c (.sc (.int .i64 1))))⟩, ⟨(some 5), none, .q (.mov (.t 11))⟩]))))))
  (.seq (.ops [⟨(some 4), none, .q (.mov (.c (.sc (.int .i64 (-1)))))⟩])
  .ret)))
theorem K43 : Try.f43.body.bind (comp Try.prog) = some A43 ∧ Try.f43.ntmps = 22 ∧ Try.f43.results.toList.mapM (resB Try.prog) = some [.mov (.t 4)] := ⟨by kernel_rfl, by kernel_rfl, by kernel_rfl⟩
/- 44: loop.example/g00464/spec.CacheSize -/
def A44 : AC := (.seq (.ops [⟨(some 2), none, .q (.mov (.c (.sc (.int .i64 0))))⟩])
  (.seq (.ops [⟨(some 3), none, .q (.mov (.c (.sc (.int .i64 0))))⟩])
  (.seq (.seq (.ops [⟨(some 4), none, .q (.mov (.c (.sc (.int .i64 0))))⟩])
  (.block 0 (.loop (.seq (.seq (.ops [⟨(some 5), none, .q (.mov (.t 4))⟩, ⟨(some 6), none, .q (.mov (.t 0))⟩, ⟨(some 7), none, .q (.llen (.t 6))⟩, ⟨(some 8), none, .q (.bin .lss (.t 5) (.t 7))⟩])
  (.cond (.t 8) .skip
  (.exit 0)))
  (.seq (.block 1 (.ops [⟨(some 11), none, .q (.mov (.t 3))⟩, ⟨(some 12), none, .q (.mov (.t 0))⟩, ⟨(some 13), none, .q (.mov (.t 4))⟩, ⟨(some 14), none, .q (.iadr 2 (.t 12) (.t 13))⟩, ⟨(some 15), none, .q (.fadr 1 (.t 14))⟩, ⟨(some 16), none, .q (.load false 1 (.t 15))⟩, ⟨(some 17), none, .q (.llen (.t 16))⟩, ⟨(some 18), none, .q (.bin .add (.t 11) (.t 17))⟩, ⟨(some 3), none, .q (.mov (.t 18))⟩]))
  (.ops [⟨(some 9), none, .q (.mov (.t 4))⟩, ⟨(some 10), none, .q (.bin .add (.t 9) (.c (.sc (.int .i64 1))))⟩, ⟨(some 4), none, .q (.mov (.t 10))⟩]))))))
  (.seq (.ops [⟨(some 19), none, .q (.mov (.t 3))⟩, ⟨(some 2), none, .q (.mov (.t 19))⟩])
  .ret))))
theorem K44 : Try.f44.body.bind (comp Try.prog) = some A44 ∧ Try.f44.ntmps = 20 ∧ Try.f44.results.toList.mapM (resB Try.prog) = some [.mov (.t 2)] := ⟨by kernel_rfl, by kernel_rfl, by kernel_rfl⟩
/- 45: loop.example/g00464/laws.toSlot -/
def A45 : AC := (.seq (.ops [⟨(some 1), none, .w (.box (.t 0))⟩, ⟨(some 2), none, .w (.alloc [.em, .em])⟩])
  (.seq (.ops [⟨(some 3), none, .w (.alloc [.em, .em])⟩])
  (.seq (.ops [⟨(some 4), none, .q (.fadr 0 (.t 1))⟩, ⟨(some 5), none, .q (.load false 1 (.t 4))⟩, ⟨(some 6), none, .c (.c (.clo 72 [])) [(.t 5)]⟩, ⟨(some 7), none, .q (.fadr 0 (.t 3))⟩, ⟨none, none, .w (.store 1 (.t 7) (.t 6))⟩])
  (.seq (.ops [⟨(some 8), none, .q (.fadr 1 (.t 1))⟩, ⟨(some 9), none, .q (.load false 1 (.t 8))⟩, ⟨(some 10), none, .c (.c (.clo 72 [])) [(.t 9)]⟩, ⟨(some 11), none, .q (.fadr 1 (.t 3))⟩, ⟨none, none, .w (.store 1 (.t 11) (.t 10))⟩])
  (.seq (.ops [⟨(some 12), none, .q (.load true 2 (.t 3))⟩, ⟨none, none, .w (.store 2 (.t 2) (.t 12))⟩])
  .ret)))))
theorem K45 : Try.f45.body.bind (comp Try.prog) = some A45 ∧ Try.f45.ntmps = 13 ∧ Try.f45.results.toList.mapM (resB Try.prog) = some [.load true 2 (.t 2)] := ⟨by kernel_rfl, by kernel_rfl, by kernel_rfl⟩
/- 46: loop.example/g00464/impl.slotAt -/
def A46 : AC := (.seq (.ops [⟨(some 3), none, .w (.box (.t 1))⟩, ⟨(some 4), none, .q (.mov (.c (.sc (.int .i64 0))))⟩])
  (.seq (.ops [⟨(some 5), none, .q (.mov (.t 0))⟩, ⟨(some 6), none, .q (.mkf 74 [(.t 3)])⟩, ⟨(some 7), none, .c (.c (.clo 73 [])) [(.t 5), (.t 6)]⟩, ⟨(some 4), none, .q (.mov (.t 7))⟩])
  .ret))
theorem K46 : Try.f46.body.bind (comp Try.prog) = some A46 ∧ Try.f46.ntmps = 8 ∧ Try.f46.results.toList.mapM (resB Try.prog) = some [.mov (.t 4)] := ⟨by kernel_rfl, by kernel_rfl, by kernel_rfl⟩
/- 47: loop.example/g00464/impl.CacheSize -/
def A47 : AC := (.seq (.ops [⟨(some 2), none, .q (.mov (.c (.sc (.int .i64 0))))⟩])
  (.seq (.ops [⟨(some 3), none, .q (.mov (.c (.sc (.int .i64 0))))⟩])
  (.seq (.seq (.ops [⟨(some 6), none, .q (.mov (.t 0))⟩, ⟨(some 7), none, .q (.llen (.t 6))⟩, ⟨(some 8), none, .q (.mov (.c (.sc (.int .i64 0))))⟩])
  (.block 0 (.loop (.seq (.ops [⟨(some 9), none, .q (.bin .lss (.t 8) (.t 7))⟩])
  (.seq (.cond (.t 9) .skip
  (.exit 0))
  (.seq (.block 1 (.seq (.ops [⟨(some 10), none, .q (.iadr 2 (.t 6) (.t 8))⟩, ⟨(some 11), none, .q (.load true 2 (.t 10))⟩, ⟨(some 5), none, .w (.alloc [.em, .em])⟩, ⟨none, none, .w (.store 2 (.t 5) (.t 11))⟩])
  (.ops [⟨(some 12), none, .q (.mov (.t 3))⟩, ⟨(some 13), none, .q (.fadr 1 (.t 5))⟩, ⟨(some 14), none, .q (.load false 1 (.t 13))⟩, ⟨(some 15), none, .q (.llen (.t 14))⟩, ⟨(some 16), none, .q (.bin .add (.t 12) (.t 15))⟩, ⟨(some 3), none, .q (.mov (.t 16))⟩])))
  (.ops [⟨(some 17), none, .q (.bin .add (.t 8) (.c (.sc (.int .i64 1))))⟩, ⟨(some 8), none, .q (.mov (.t 17))⟩])))))))
  (.seq (.ops [⟨(some 18), none, .q (.mov (.t 3))⟩, ⟨(some 2), none, .q (.mov (.t 18))⟩])
  .ret))))
theorem K47 : Try.f47.body.bind (comp Try.prog) = some A47 ∧ Try.f47.ntmps = 19 ∧ Try.f47.results.toList.mapM (resB Try.prog) = some [.mov (.t 2)] := ⟨by kernel_rfl, by kernel_rfl, by kernel_rfl⟩
/- 48: loop.example/g00464/laws.eqSlot -/
def A48 : AC := (.seq (.ops [⟨(some 2), none, .w (.box (.t 0))⟩, ⟨(some 3), none, .w (.box (.t 1))⟩, ⟨(some 4), none, .q (.mov (.c (.sc (.bool false))))⟩])
  (.seq (.seq (.ops [⟨(some 5), none, .q (.fadr 0 (.t 2))⟩, ⟨(some 6), none, .q (.load false 1 (.t 5))⟩, ⟨(some 7), none, .q (.fadr 0 (.t 3))⟩, ⟨(some 8), none, .q (.load false 1 (.t 7))⟩, ⟨(some 9), none, .c (.c (.clo 76 [])) [(.t 6), (.t 8)]⟩, ⟨(some 10), none, .q (.not (.t 9))⟩])
  (.cond (.t 10) (.seq (.ops [⟨(some 4), none, .q (.mov (.c (.sc (.bool false))))⟩])
  .ret)
  .skip))
  (.seq (.seq (.ops [⟨(some 11), none, .q (.fadr 1 (.t 2))⟩, ⟨(some 12), none, .q (.load false 1 (.t 11))⟩, ⟨(some 13), none, .q (.fadr 1 (.t 3))⟩, ⟨(some 14), none, .q (.load false 1 (.t 13))⟩, ⟨(some 15), none, .c (.c (.clo 76 [])) [(.t 12), (.t 14)]⟩, ⟨(some 16), none, .q (.not (.t 15))⟩])
  (.cond (.t 16) (.seq (.ops [⟨(some 4), none, .q (.mov (.c (.sc (.bool false))))⟩])
  .ret)
  .skip))
  (.seq (.ops [⟨(some 4), none, .q (.mov (.c (.sc (.bool true))))⟩])
  .ret))))
theorem K48 : Try.f48.body.bind (comp Try.prog) = some A48 ∧ Try.f48.ntmps = 17 ∧ Try.f48.results.toList.mapM (resB Try.prog) = some [.mov (.t 4)] := ⟨by kernel_rfl, by kernel_rfl, by kernel_rfl⟩
/- 71: loop.example/g00464/laws.szByteS -/
def A71 : AC := (.seq (.ops [⟨(some 4), none, .q (.mov (.c (.sc (.int .i64 0))))⟩])
  (.seq (.ops [⟨(some 5), none, .q (.mov (.t 1))⟩, ⟨(some 6), none, .q (.mov (.t 0))⟩, ⟨(some 7), none, .q (.llen (.t 6))⟩, ⟨(some 8), none, .q (.bin .sub (.t 5) (.t 7))⟩, ⟨(some 1), none, .q (.mov (.t 8))⟩])
  (.seq (.seq (.ops [⟨(some 9), none, .q (.mov (.t 1))⟩, ⟨(some 10), none, .q (.bin .lss (.t 9) (.c (.sc (.int .i64 0))))⟩])
  (.cond (.t 10) (.seq (.ops [⟨(some 4), none, .q (.mov (.c (.sc (.int .i64 (-1)))))⟩])
  .ret)
  .skip))
  (.seq (.ops [⟨(some 11), none, .q (.mov (.t 1))⟩, ⟨(some 4), none, .q (.mov (.t 11))⟩])
  .ret))))
theorem K71 : Try.f71.body.bind (comp Try.prog) = some A71 ∧ Try.f71.ntmps = 12 ∧ Try.f71.results.toList.mapM (resB Try.prog) = some [.mov (.t 4)] := ⟨by kernel_rfl, by kernel_rfl, by kernel_rfl⟩
/- 72: loop.example/g00464/laws.toByteS -/
def A72 : AC := (.seq (.ops [⟨(some 2), none, .q (.mov (.c .em))⟩])
  (.seq (.ops [⟨(some 5), none, .q (.mov (.t 0))⟩, ⟨(some 6), none, .q (.llen (.t 5))⟩, ⟨(some 7), none, .w (.mk 1 1 [(.sc (.int .u8 0))] (.t 6) (.t 6))⟩, ⟨(some 3), none, .q (.mov (.t 7))⟩])
  (.seq (.seq (.ops [⟨(some 4), none, .q (.mov (.c (.sc (.int .i64 0))))⟩])
  (.block 0 (.loop (.seq (.seq (.ops [⟨(some 8), none, .q (.mov (.t 4))⟩, ⟨(some 9), none, .q (.mov (.t 0))⟩, ⟨(some 10), none, .q (.llen (.t 9))⟩, ⟨(some 11), none, .q (.bin .lss (.t 8) (.t 10))⟩])
  (.cond (.t 11) .skip
  (.exit 0)))
  (.seq (.block 1 (.ops [⟨(some 14), none, .q (.mov (.t 3))⟩, ⟨(some 15), none, .q (.mov (.t 4))⟩, ⟨(some 16), none, .q (.mov (.t 0))⟩, ⟨(some 17), none, .q (.mov (.t 4))⟩, ⟨(some 18), none, .q (.iadr 1 (.t 16) (.t 17))⟩, ⟨(some 19), none, .q (.load false 1 (.t 18))⟩, ⟨(some 20), none, .q (.iadr 1 (.t 14) (.t 15))⟩, ⟨none, none, .w (.store 1 (.t 20) (.t 19))⟩]))
  (.ops [⟨(some 12), none, .q (.mov (.t 4))⟩, ⟨(some 13), none, .q (.bin .add (.t 12) (.c (.sc (.int .i64 1))))⟩, ⟨(some 4), none, .q (.mov (.t 13))⟩]))))))
  (.seq (.ops [⟨(some 21), none, .q (.mov (.t 3))⟩, ⟨(some 2), none, .q (.mov (.t 21))⟩])
  .ret))))
theorem K72 : Try.f72.body.bind (comp Try.prog) = some A72 ∧ Try.f72.ntmps = 22 ∧ Try.f72.results.toList.mapM (resB Try.prog) = some [.mov (.t 2)] := ⟨by kernel_rfl, by kernel_rfl, by kernel_rfl⟩
/- 73: slices.IndexFunc[[]loop.example/g00464/impl.Slot,loop.example/g00464/impl.Slot] -/
def A73 : AC := (.seq (.ops [⟨(some 4), none, .q (.mov (.c (.sc (.int .i64 0))))⟩])
  (.seq (.seq (.ops [⟨(some 6), none, .q (.mov (.t 0))⟩, ⟨(some 7), none, .q (.llen (.t 6))⟩, ⟨(some 8), none, .q (.mov (.c (.sc (.int .i64 0))))⟩])
  (.block 0 (.loop (.seq (.ops [⟨(some 9), none, .q (.bin .lss (.t 8) (.t 7))⟩])
  (.seq (.cond (.t 9) .skip
  (.exit 0))
  (.seq (.block 1 (.seq (.ops [⟨(some 10), none, .q (.mov (.t 8))⟩, ⟨(some 5), none, .q (.mov (.t 10))⟩])
  (.seq (.ops [⟨(some 11), none, .q (.mov (.t 1))⟩, ⟨(some 12), none, .q (.mov (.t 0))⟩, ⟨(some 13), none, .q (.mov (.t 5))⟩, ⟨(some 14), none, .q (.iadr 2 (.t 12) (.t 13))⟩, ⟨(some 15), none, .q (.load true 2 (.t 14))⟩, ⟨(some 16), none, .c (.t 11) [(.t 15)]⟩])
  (.cond (.t 16) (.seq (.ops [⟨(some 17), none, .q (.mov (.t 5))⟩, ⟨(some 4), none, .q (.mov (.t 17))⟩])
  .ret)
  .skip))))
  (.ops [⟨(some 18), none, .q (.bin .add (.t 8) (.c (.sc (.int .i64 1))))⟩, ⟨(some 8), none, .q (.mov (.t 18))⟩])))))))
  (.seq (.ops [⟨(some 4), none, .q (.mov (.c (.sc (.int .i64 (-1)))))⟩])
  .ret)))
theorem K73 : Try.f73.body.bind (comp Try.prog) = some A73 ∧ Try.f73.ntmps = 19 ∧ Try.f73.results.toList.mapM (resB Try.prog) = some [.mov (.t 4)] := ⟨by kernel_rfl, by kernel_rfl, by kernel_rfl⟩
/- 74: loop.example/g00464/impl.slotAt$1 -/
def A74 : AC := (.seq (.ops [⟨(some 2), none, .w (.box (.t 0))⟩, ⟨(some 3), none, .q (.mov (.c (.sc (.bool false))))⟩])
  (.seq (.ops [⟨(some 4), none, .q (.fadr 0 (.t 2))⟩, ⟨(some 5), none, .q (.load false 1 (.t 4))⟩, ⟨(some 6), none, .q (.load false 1 (.t 1))⟩, ⟨(some 7), none, .c (.c (.clo 75 [])) [(.t 5), (.t 6)]⟩, ⟨(some 3), none, .q (.mov (.t 7))⟩])
  .ret))
theorem K74 : Try.f74.body.bind (comp Try.prog) = some A74 ∧ Try.f74.ntmps = 8 ∧ Try.f74.results.toList.mapM (resB Try.prog) = some [.mov (.t 3)] := ⟨by kernel_rfl, by kernel_rfl, by kernel_rfl⟩
/- 75: bytes.Equal -/
def A75 : AC := (.seq (.ops [⟨(some 4), none, .q (.mov (.c (.sc (.bool false))))⟩])
  (.seq (.ops [⟨(some 5), none, .q (.mov (.t 0))⟩, ⟨(some 6), none, .q (.bstr (.t 5))⟩, ⟨(some 7), none, .q (.mov (.t 1))⟩, ⟨(some 8), none, .q (.bstr (.t 7))⟩, ⟨(some 9), none, .q (.bin .eql (.t 6) (.t 8))⟩, ⟨(some 4), none, .q (.mov (.t 9))⟩])
  .ret))
theorem K75 : Try.f75.body.bind (comp Try.prog) = some A75 ∧ Try.f75.ntmps = 10 ∧ Try.f75.results.toList.mapM (resB Try.prog) = some [.mov (.t 4)] := ⟨by kernel_rfl, by kernel_rfl, by kernel_rfl⟩
/- 76: loop.example/g00464/laws.eqByteS -/
def A76 : AC := (.seq (.ops [⟨(some 4), none, .q (.mov (.c (.sc (.bool false))))⟩])
  (.seq (.seq (.ops [⟨(some 6), none, .q (.mov (.t 0))⟩, ⟨(some 7), none, .q (.llen (.t 6))⟩, ⟨(some 8), none, .q (.mov (.t 1))⟩, ⟨(some 9), none, .q (.llen (.t 8))⟩, ⟨(some 10), none, .q (.bin .neq (.t 7) (.t 9))⟩])
  (.cond (.t 10) (.seq (.ops [⟨(some 4), none, .q (.mov (.c (.sc (.bool false))))⟩])
  .ret)
  .skip))
  (.seq (.seq (.ops [⟨(some 5), none, .q (.mov (.c (.sc (.int .i64 0))))⟩])
  (.block 0 (.loop (.seq (.seq (.ops [⟨(some 11), none, .q (.mov (.t 5))⟩, ⟨(some 12), none, .q (.mov (.t 0))⟩, ⟨(some 13), none, .q (.llen (.t 12))⟩, ⟨(some 14), none, .q (.bin .lss (.t 11) (.t 13))⟩])
  (.cond (.t 14) .skip
  (.exit 0)))
  (.seq (.block 1 (.seq (.any [(⟨(some 17), none, .q (.mov (.t 0))⟩, []), (⟨(some 18), none, .q (.mov (.t 5))⟩, []), (⟨(some 19), none, .q (.iadr 1 (.t 17) (.t 18))⟩, [0, 1]), (⟨(some 20), none, .q (.load false 1 (.t 19))⟩, [2]), (⟨(some 21), none, .q (.mov (.t 1))⟩, []), (⟨(some 22), none, .q (.mov (.t 5))⟩, []), (⟨(some 23), none, .q (.iadr 1 (.t 21) (.t 22))⟩, [4, 5]), (⟨(some 24), none, .q (.load false 1 (.t 23))⟩, [6]), (⟨(some 25), none, .q (.bin .neq (.t 20) (.t 24))⟩, [3, 7])])
  (.cond (.t 25) (.seq (.ops [⟨(some 4), none, .q (.mov (.c (.sc (.bool false))))⟩])
  .ret)
  .skip)))
  (.ops [⟨(some 15), none, .q (.mov (.t 5))⟩, ⟨(some 16), none, .q (.bin .add (.t 15) (.c (.sc (.int .i64 1))))⟩, ⟨(some 5), none, .q (.mov (.t 16))⟩]))))))
  (.seq (.ops [⟨(some 4), none, .q (.mov (.c (.sc (.bool true))))⟩])
  .ret))))
theorem K76 : Try.f76.body.bind (comp Try.prog) = some A76 ∧ Try.f76.ntmps = 26 ∧ Try.f76.results.toList.mapM (resB Try.prog) = some [.mov (.t 4)] := ⟨by kernel_rfl, by kernel_rfl, by kernel_rfl⟩
theorem R71 (xs : List Int) (left : Int) : Ret Try.prog 71 [.ro (rows B xs) xs.length, .sc (.int .i64 left)] (.sc (.int .i64 (szBy xs left))) [.un, .un] := by
  refine Ret.run Try.func71 K71 (by simp) rfl rfl 500 ?_
  simp +contextual [A71, iniρ, szBy]
  intros; omega
theorem R72 (xs : List Int) (hb : xs.length ≤ 140737488351232) : Ret Try.prog 72 [.ro (rows B xs) xs.length] (.own (rows B xs) xs.length 1) [.un] := by
  refine Ret.run Try.func72 K72 (by simp) rfl rfl 500 ?_
  have h1 : (xs.length : Int) ≤ 281474976710656 := by omega
  have h2 : (xs.length : Int) ≤ 9223372036854775807 := by omega
  simp [A72, iniρ, h1, h2]
  refine T.rounds (μ := fun i : List Int × List Int => i.2.length)
    (fun i s => i.1 ++ i.2 = xs ∧ s.ρ 0 = .ro (rows B xs) xs.length ∧ s.ρ 3 = .sl 7 0 xs.length 1 false ∧ s.ρ 4 = .sc (.int .i64 i.1.length) ∧ s.h 7 = some (some (rows B i.1 ++ rows Bz i.2)) ∧ s.n = 22) ([], xs) (by simp [upd_app, rows_nil, B.rep]) ?_
  rintro ⟨pre, rest⟩ ⟨ρ, hh, n⟩ ⟨hx, h0', h3', h4', h7', rfl⟩
  simp only at hx h0' h3' h4' h7'
  refine run_ok (n := 400) ?_
  cases rest with
  | nil =>
    simp at hx
    subst hx
    simp [h0', h3', h4']
    refine T.on 400 ?_
    simp [h3', h7', ex1, rows_nil, B.count, idfreeL_rows B.fr]
  | cons x rest =>
    have hlt : (pre.length : Int) < xs.length := by rw [← hx]; simp only [List.length_append, List.length_cons]; omega
    have hd := rows_drop B.len pre (x :: rest)
    rw [hx, rows_cons, Nat.mul_one] at hd
    have hw : IntKind.i64.wrap ((pre.length : Int) + 1) = pre.length + 1 := wrap_i64 (by omega) (by omega)
    have hov : over _ _ [AV.sc (.int .u8 x)] = _ := rows_over B.len Bz.len pre rest x
    rw [Nat.mul_one] at hov
    have hle : pre.length + 1 ≤ (rows B pre).length + (rows Bz (x :: rest)).length := by rw [rows_length B.len, rows_length Bz.len, List.length_cons]; omega
    simp [h0', h3', h4', h7', hlt, hd, B, hw, hle, hov]
    refine ⟨pre ++ [x], rest, by simp, _, Le.refl _, ?_⟩
    simp [hx, h0', h3', upd_app]
theorem R76 (xs ys : List Int) (hb : xs.length < 4611686018427387904) : Ret Try.prog 76 [.ro (rows B xs) xs.length, .ro (rows B ys) ys.length] (.sc (.bool (eqBy eqI xs ys))) [.un, .un] := by
  refine Ret.run Try.func76 K76 (by simp) rfl rfl 500 ?_
  by_cases hl : xs.length = ys.length
  case neg =>
    have : ¬ ((xs.length : Int) = ys.length) := by omega
    simp [A76, iniρ, this, eqBy_len hl]
  simp [A76, iniρ, ← hl]
  refine T.rounds (μ := fun i : List Int × List Int × List Int × List Int => i.2.1.length)
    (fun i s => i.1 ++ i.2.1 = xs ∧ i.2.2.1 ++ i.2.2.2 = ys ∧ i.1.length = i.2.2.1.length ∧ eqBy eqI i.2.1 i.2.2.2 = eqBy eqI xs ys ∧ s.ρ 0 = .ro (rows B xs) xs.length ∧ s.ρ 1 = .ro (rows B ys) xs.length ∧ s.ρ 5 = .sc (.int .i64 i.1.length) ∧ s.h = h0 ∧ s.n = 26) ([], xs, [], ys) (by simp [upd_app]) ?_
  rintro ⟨pre, rest, pre', rest'⟩ ⟨ρ, hh, n⟩ ⟨hx, hy, hp, hE, h0', h1', h5', rfl, rfl⟩
  simp only at hx hy hp hE h0' h1' h5'
  refine run_ok (n := 400) ?_
  have hlr : rest.length = rest'.length := by have := congrArg List.length hx; have := congrArg List.length hy; simp only [List.length_append] at *; omega
  cases rest with
  | nil =>
    cases rest' with
    | cons y r => simp at hlr
    | nil =>
    simp at hx
    subst hx
    simp [h0', h5']
    refine T.on 400 ?_
    simp [← hE, eqBy]
  | cons x rest =>
    cases rest' with
    | nil => simp at hlr
    | cons y rest' =>
    have hlt : (pre.length : Int) < xs.length := by rw [← hx]; simp only [List.length_append, List.length_cons]; omega
    have hd := rows_drop B.len pre (x :: rest)
    rw [hx, rows_cons, Nat.mul_one] at hd
    have hd' := rows_drop B.len pre' (y :: rest')
    rw [hy, rows_cons, ← hp, Nat.mul_one] at hd'
    have hw : IntKind.i64.wrap ((pre.length : Int) + 1) = pre.length + 1 := wrap_i64 (by omega) (by omega)
    simp [h0', h1', h5', hlt]
    refine T.text 400 mixed (by kernel_rfl) (by kernel_rfl) ?_
    by_cases hE1 : x = y
    case neg => simp [h0', h1', h5', hlt, hd, hd', B, ← hE, eqBy, eqI, hE1]
    subst hE1
    simp [h0', h1', h5', hlt, hd, hd', B, hw]
    refine ⟨pre ++ [x], rest, by simp, pre' ++ [x], rest', _, Le.refl _, ?_⟩
    simp [hx, hy, hp, h0', h1', ← hE, eqBy, eqI, upd_app]
theorem R75 (xs ys : List Int) : Ret Try.prog 75 [.ro (rows B xs) xs.length, .ro (rows B ys) ys.length] (.sc (.bool (bEq xs ys))) [.un, .un] := by
  refine Ret.run Try.func75 K75 (by simp) rfl rfl 500 ?_
  simp [A75, iniρ, bytesA, B.count, B.num, bEq]
structure Slot where
  key : List Int
  b : List Int
def Slot.cs (s : Slot) : List AV := [.ro (rows B s.key) s.key.length, .ro (rows B s.b) s.b.length]
def Slot.oc (s : Slot) : List AV := [.own (rows B s.key) s.key.length 1, .own (rows B s.b) s.b.length 1]
def Slot.z (_ : Slot) : List AV := [.em, .em]
def Slot.ok (s : Slot) : Prop := s.key.length ≤ 140737488351232 ∧ s.b.length ≤ 140737488351232
theorem Slot.len (s : Slot) : s.cs.length = 2 := rfl
theorem Slot.olen (s : Slot) : s.oc.length = 2 := rfl
theorem Slot.zlen (s : Slot) : s.z.length = 2 := rfl
theorem Slot.fr (s : Slot) : ∀ c ∈ s.oc, idfree c = true := by simp [Slot.oc, idfree, idfreeL_rows B.fr]
theorem Slot.fl (s : Slot) : ∀ c ∈ s.oc, flt c = true := by simp [Slot.oc, flt, fltL_rows B.fl]
theorem Slot.sh (s : Slot) : ∀ c ∈ s.cs, shut c = true := by simp [Slot.cs, shut]
def szSlot (s : Slot) (left : Int) : Int := if szBy s.key left < 0 then -1 else if szBy s.b (szBy s.key left) < 0 then -1 else szBy s.b (szBy s.key left)
theorem R42 (s : Slot) (left : Int) : Ret Try.prog 42 [.agg s.cs, .sc (.int .i64 left)] (.sc (.int .i64 (szSlot s left))) [.un, .un] := by
  refine Ret.run Try.func42 K42 (by simp) rfl rfl 500 ?_
  simp [A42, iniρ, Slot.cs]
  refine callK.ro 8 rfl (by kernel_rfl) (by simp [roc, upd_app]) (R71 s.key left) rfl rfl rfl ?_
  simp
  by_cases h1 : szBy s.key left < 0
  case pos => simp [h1, szSlot]
  simp [h1, Int.not_lt.1 h1]
  refine callK.ro 14 rfl (by kernel_rfl) (by simp [roc, upd_app]) (R71 s.b (szBy s.key left)) rfl rfl rfl ?_
  simp
  by_cases h2 : szBy s.b (szBy s.key left) < 0
  case pos => simp [h1, h2, szSlot]; try (intro; omega)
  simp [h1, h2, Int.not_lt.1 h2, szSlot]
theorem Slot.rocs (h : Nat → Option (Option (List AV))) (xs : List Slot) : (rows Slot.oc xs).mapM (Am.roc h 3) = some (rows Slot.cs xs) := by
  induction xs with
  | nil => rfl
  | cons x xs ih =>
    rw [rows_cons, rows_cons]
    simp only [Slot.oc, Slot.cs, List.cons_append, List.nil_append, List.mapM_cons, ih, B.roco h 1]
    rfl
theorem Slot.roc {h : Nat → Option (Option (List AV))} {b : Nat} {xs : List Slot} {lim : Bool} (hb : h b = some (some (rows Slot.oc xs))) : Am.roc h 4 (.sl b 0 xs.length 2 lim) = some (.ro (rows Slot.cs xs) xs.length) := by
  have hl := rows_length Slot.olen xs
  cases xs with
  | nil => simp [Am.roc, shut, hb, rows_nil, shut.shutL]
  | cons x xs =>
    have hs : shut.shutL (rows Slot.oc (x :: xs)) = false := by rw [rows_cons]; simp [Slot.oc, shut.shutL, shut]
    have ht : List.take ((x :: xs).length * 2) (rows Slot.oc (x :: xs)) = rows Slot.oc (x :: xs) := List.take_of_length_le (by rw [hl]; exact Nat.le_refl _)
    rw [show Am.roc h 4 (.sl b 0 (x :: xs).length 2 lim) = match h b with
      | some (some cs) => if 0 + (x :: xs).length * 2 ≤ cs.length then if shut.shutL ((cs.drop 0).take ((x :: xs).length * 2)) then some (.ro ((cs.drop 0).take ((x :: xs).length * 2)) (x :: xs).length) else (((cs.drop 0).take ((x :: xs).length * 2)).mapM (Am.roc h 3)).map fun ys => .ro ys (x :: xs).length else none
      | _ => none from rfl, hb]
    simp only [List.drop_zero, ht, hs, Nat.zero_add]
    rw [if_pos (by rw [hl]; exact Nat.le_refl _), if_neg (by simp), Slot.rocs]
    rfl
theorem Slot.flo (xs : List Slot) : flt (.own (rows Slot.oc xs) xs.length 2) = true := by simpa [flt] using fltL_rows Slot.fl xs
theorem R45 (s : Slot) (hs : s.ok) : Ret Try.prog 45 [.agg s.cs] (.agg s.oc) [.un] := by
  refine Ret.run Try.func45 K45 (by simp) rfl rfl 500 ?_
  simp [A45, iniρ, Slot.cs, over]
  refine callK.own 6 rfl (by kernel_rfl) (by simp [roc, upd_app]) (R72 s.key hs.1) (B.flo _) (by simp) rfl ?_
  simp [over]
  refine callK.own 10 rfl (by kernel_rfl) (by simp [roc, upd_app]) (R72 s.b hs.2) (B.flo _) (by simp) rfl ?_
  simp [over, ex1, B.count, idfreeL_rows B.fr, Slot.oc]
def eqSlot (s t : Slot) : Bool := eqBy eqI s.key t.key && eqBy eqI s.b t.b
theorem R48 (s t : Slot) (hs : s.ok) : Ret Try.prog 48 [.agg s.cs, .agg t.cs] (.sc (.bool (eqSlot s t))) [.un, .un] := by
  refine Ret.run Try.func48 K48 (by simp) rfl rfl 500 ?_
  simp [A48, iniρ, Slot.cs]
  refine callK.ro 9 rfl (by kernel_rfl) (by simp [roc, upd_app]) (R76 s.key t.key (by have := hs.1; omega)) rfl rfl rfl ?_
  cases h1 : eqBy eqI s.key t.key
  · simp [eqSlot, h1]
  simp
  refine callK.ro 15 rfl (by kernel_rfl) (by simp [roc, upd_app]) (R76 s.b t.b (by have := hs.2; omega)) rfl rfl rfl ?_
  cases h2 : eqBy eqI s.b t.b <;> simp [eqSlot, h1, h2]

theorem R18 (xs : List Slot) (hb : xs.length < 4398046511104) (hs : ∀ s ∈ xs, s.ok) : Ret Try.prog 18 [.ro (rows Slot.cs xs) xs.length] (.own (rows Slot.oc xs) xs.length 2) [.un] := by
  refine Ret.run Try.func18 K18 (by simp) rfl rfl 500 ?_
  have h1 : (xs.length : Int) * 48 ≤ 281474976710656 := by omega
  have h2 : (xs.length : Int) ≤ 9223372036854775807 := by omega
  simp [A18, iniρ, h1, h2]
  refine T.rounds (μ := fun i : List Slot × List Slot => i.2.length)
    (fun i s => i.1 ++ i.2 = xs ∧ s.ρ 0 = .ro (rows Slot.cs xs) xs.length ∧ s.ρ 3 = .sl 7 0 xs.length 2 false ∧ s.ρ 4 = .sc (.int .i64 i.1.length) ∧ s.h 7 = some (some (rows Slot.oc i.1 ++ rows Slot.z i.2)) ∧ s.h 21000 = none ∧ s.h 21001 = none ∧ s.n = 23) ([], xs) (by simp [upd_app, rows_nil, flatten_rep]; rfl) ?_
  rintro ⟨pre, rest⟩ ⟨ρ, hh, n⟩ ⟨hx, h0', h3', h4', h7', hf1, hf2, rfl⟩
  simp only at hx h0' h3' h4' h7' hf1 hf2
  refine run_ok (n := 400) ?_
  cases rest with
  | nil =>
    simp at hx
    subst hx
    simp [h0', h3', h4']
    refine T.on 400 ?_
    simp [h3', h7', ex1, rows_nil, rows_length Slot.olen, idfreeL_rows Slot.fr]
  | cons x rest =>
    have hlt : (pre.length : Int) < xs.length := by rw [← hx]; simp only [List.length_append, List.length_cons]; omega
    have hxs : x.ok := hs x (by rw [← hx]; simp)
    have hd := rows_drop Slot.len pre (x :: rest)
    rw [hx, rows_cons] at hd
    have hw : IntKind.i64.wrap ((pre.length : Int) + 1) = pre.length + 1 := wrap_i64 (by omega) (by omega)
    have hov := rows_over3 Slot.olen Slot.zlen pre rest x [.sl 21000 0 x.key.length 1 false, .sl 21001 0 x.b.length 1 false] rfl
    have hle : pre.length * 2 + 2 ≤ (rows Slot.oc pre).length + (rows Slot.z (x :: rest)).length := by rw [rows_length Slot.olen, rows_length Slot.zlen, List.length_cons]; omega
    simp [h0', h3', h4', h7', hlt, hd, Slot.cs]
    refine callK.ro 20 rfl (by kernel_rfl) (by simp [roc, upd_app, Slot.cs]) (R45 x hxs) (by simpa [flt] using fltL_of (Slot.fl x)) (by simp [inst, instL, Slot.oc, hf1, hf2, upd_app]; exact ⟨rfl, rfl⟩) rfl ?_
    simp [h3', h4', h7', hlt, hle, hov, hw]
    have hst : ((rows Slot.oc pre ++ (AV.sl 21000 0 x.key.length 1 false :: AV.sl 21001 0 x.b.length 1 false :: rows Slot.z rest)).set (pre.length * 2) (AV.own (rows B x.key) x.key.length 1)).set (pre.length * 2 + 1) (AV.own (rows B x.b) x.b.length 1) = rows Slot.oc (pre ++ [x]) ++ rows Slot.z rest := by
      have e1 := pack_at Slot.olen pre (AV.sl 21000 0 x.key.length 1 false :: AV.sl 21001 0 x.b.length 1 false :: rows Slot.z rest) 0 (AV.own (rows B x.key) x.key.length 1)
      rw [Nat.add_zero] at e1
      rw [e1, pack_at Slot.olen]
      simp [rows_append, rows_cons, rows_nil, Slot.oc]
    refine ⟨pre ++ [x], rest, by simp, _, Le.trans (Le.pack 7 (pre.length * 2 + 0) (i := 21000) (len := x.key.length) (sz := 1) (cs' := rows B x.key) (by simp [upd_app]; rfl) ?_ (by simp [upd_app]) (by decide) (by simp [B.count]) (idfreeL_rows B.fr _))
      (Le.trans (Le.pack 7 (pre.length * 2 + 1) (i := 21001) (len := x.b.length) (sz := 1) (cs' := rows B x.b) (by simp [upd_app]; rfl) ?_ (by simp [upd_app]) (by decide) (by simp [B.count]) (idfreeL_rows B.fr _))
      (Le.reset [0, 3, 4] [7] ?_ ?_)), ?_⟩
    · exact get_at Slot.olen pre _ 0
    · have e1 := pack_at Slot.olen pre (AV.sl 21000 0 x.key.length 1 false :: AV.sl 21001 0 x.b.length 1 false :: rows Slot.z rest) 0 (AV.own (rows B x.key) x.key.length 1)
      rw [Nat.add_zero] at e1
      rw [e1]
      exact get_at Slot.olen pre _ 1
    · simp [upd_app, menB, idfree, h0', h3', h4']
    · intro b hb cs hcs
      simp at hb
      subst hb
      simp [upd_app, hst] at hcs
      subst hcs
      exact fun y hy => (List.mem_append.1 hy).elim (rows_all Slot.fr _ y) (rows_all (q := idfree) (by simp [Slot.z, idfree]) _ y)
    · simp [upd_app, hx, h0', h3', h4', hst]
theorem R16 (xs : List Slot) (hb : xs.length < 4611686018427387904) (left : Int) : Ret Try.prog 16 [.ro (rows Slot.cs xs) xs.length, .sc (.int .i64 left)] (.sc (.int .i64 (szS szSlot xs left))) [.un, .un] := by
  refine Ret.run Try.func16 K16 (by simp) rfl rfl 500 ?_
  simp [A16, iniρ]
  split
  · rename_i h; simp [szS, h]
  · rename_i h
    have hS : szS szSlot xs left = szL szSlot xs (IntKind.i64.wrap (left - ↑xs.length)) := by simp [szS, h]
    rw [hS]
    clear hS
    generalize IntKind.i64.wrap (left - ↑xs.length) = l0 at *
    refine T.rounds (μ := fun i : List Slot × List Slot × Int => i.2.1.length)
      (fun i s => i.1 ++ i.2.1 = xs ∧ szL szSlot i.2.1 i.2.2 = szL szSlot xs l0 ∧ s.ρ 0 = .ro (rows Slot.cs xs) xs.length ∧ s.ρ 1 = .sc (.int .i64 i.2.2) ∧ s.ρ 5 = .sc (.int .i64 i.1.length) ∧ s.h = h0 ∧ s.n = 27) ([], xs, l0) (by simp [upd_app]) ?_
    rintro ⟨pre, rest, l⟩ ⟨ρ, hh, n⟩ ⟨hx, hL, h0', h1', h5', rfl, rfl⟩
    simp only at hx hL h0' h1' h5'
    refine run_ok (n := 400) ?_
    cases rest with
    | nil =>
      simp at hx
      subst hx
      simp [h0', h1', h5']
      refine T.on 400 ?_
      simp [h1', ← hL, szL]
    | cons x rest =>
      have hlt : (pre.length : Int) < xs.length := by rw [← hx]; simp only [List.length_append, List.length_cons]; omega
      have hd := rows_drop Slot.len pre (x :: rest)
      rw [hx, rows_cons] at hd
      have hw : IntKind.i64.wrap ((pre.length : Int) + 1) = pre.length + 1 := wrap_i64 (by omega) (by omega)
      simp [h0', h1', h5', hlt, hd, Slot.cs]
      refine callK.ro 23 rfl (by kernel_rfl) (by simp [roc, upd_app, Slot.cs]) (R42 x l) rfl rfl rfl ?_
      simp [h5', hw]
      split
      · rename_i hz; simp [← hL, szL, hz]
      · rename_i hz
        refine ⟨pre ++ [x], rest, by simp, szSlot x l, _, Le.refl _, ?_⟩
        simp [hx, h0', ← hL, szL, hz, upd_app]
theorem R20 (xs ys : List Slot) (hb : xs.length < 4611686018427387904) (hs : ∀ s ∈ xs, s.ok) : Ret Try.prog 20 [.ro (rows Slot.cs xs) xs.length, .ro (rows Slot.cs ys) ys.length] (.sc (.bool (eqBy eqSlot xs ys))) [.un, .un] := by
  refine Ret.run Try.func20 K20 (by simp) rfl rfl 500 ?_
  by_cases hl : xs.length = ys.length
  case neg =>
    have : ¬ ((xs.length : Int) = ys.length) := by omega
    simp [A20, iniρ, this, eqBy_len hl]
  simp [A20, iniρ, ← hl]
  refine T.rounds (μ := fun i : List Slot × List Slot × List Slot × List Slot => i.2.1.length)
    (fun i s => i.1 ++ i.2.1 = xs ∧ i.2.2.1 ++ i.2.2.2 = ys ∧ i.1.length = i.2.2.1.length ∧ eqBy eqSlot i.2.1 i.2.2.2 = eqBy eqSlot xs ys ∧ s.ρ 0 = .ro (rows Slot.cs xs) xs.length ∧ s.ρ 1 = .ro (rows Slot.cs ys) xs.length ∧ s.ρ 5 = .sc (.int .i64 i.1.length) ∧ s.h = h0 ∧ s.n = 27) ([], xs, [], ys) (by simp [upd_app]) ?_
  rintro ⟨pre, rest, pre', rest'⟩ ⟨ρ, hh, n⟩ ⟨hx, hy, hp, hE, h0', h1', h5', rfl, rfl⟩
  simp only at hx hy hp hE h0' h1' h5'
  refine run_ok (n := 400) ?_
  have hlr : rest.length = rest'.length := by have := congrArg List.length hx; have := congrArg List.length hy; simp only [List.length_append] at *; omega
  cases rest with
  | nil =>
    cases rest' with
    | cons y r => simp at hlr
    | nil =>
    simp at hx
    subst hx
    simp [h0', h5']
    refine T.on 400 ?_
    simp [← hE, eqBy]
  | cons x rest =>
    cases rest' with
    | nil => simp at hlr
    | cons y rest' =>
    have hlt : (pre.length : Int) < xs.length := by rw [← hx]; simp only [List.length_append, List.length_cons]; omega
    have hd := rows_drop Slot.len pre (x :: rest)
    rw [hx, rows_cons] at hd
    have hd' := rows_drop Slot.len pre' (y :: rest')
    rw [hy, rows_cons, ← hp] at hd'
    have hw : IntKind.i64.wrap ((pre.length : Int) + 1) = pre.length + 1 := wrap_i64 (by omega) (by omega)
    simp [h0', h1', h5', hlt]
    refine T.text 400 mixed (by kernel_rfl) (by kernel_rfl) ?_
    simp [h0', h1', h5', hlt, hd, hd', Slot.cs]
    refine callSK.by rfl (by kernel_rfl) (by simp [roc, upd_app, Slot.cs]) (R48 x y (hs x (by rw [← hx]; simp))) ?_
    cases hE1 : eqSlot x y
    · simp [h5', hw, ← hE, eqBy, hE1]
    · simp [h5', hw]
      refine ⟨pre ++ [x], rest, by simp, pre' ++ [y], rest', _, Le.refl _, ?_⟩
      simp [hx, hy, hp, h0', h1', ← hE, eqBy, hE1, upd_app]
theorem R43 (xs : List Slot) (k : List Int) (hb : xs.length < 4611686018427387904) : Ret Try.prog 43 [.ro (rows Slot.cs xs) xs.length, .ro (rows B k) k.length] (.sc (.int .i64 (idx (fun s => bEq s.key k) xs 0))) [.un, .un] := by
  refine Ret.run Try.func43 K43 (by simp) rfl rfl 500 ?_
  simp [A43, iniρ]
  refine T.rounds (μ := fun i : List Slot × List Slot => i.2.length)
    (fun i s => i.1 ++ i.2 = xs ∧ idx (fun s => bEq s.key k) i.2 i.1.length = idx (fun s => bEq s.key k) xs 0 ∧ s.ρ 0 = .ro (rows Slot.cs xs) xs.length ∧ s.ρ 1 = .ro (rows B k) k.length ∧ s.ρ 5 = .sc (.int .i64 i.1.length) ∧ s.h = h0 ∧ s.n = 22) ([], xs) (by simp [upd_app]) ?_
  rintro ⟨pre, rest⟩ ⟨ρ, hh, n⟩ ⟨hx, hE, h0', h1', h5', rfl, rfl⟩
  simp only at hx hE h0' h1' h5'
  refine run_ok (n := 400) ?_
  cases rest with
  | nil =>
    simp at hx
    subst hx
    simp [h0', h5']
    refine T.on 400 ?_
    simp [← hE, idx]
  | cons x rest =>
    have hlt : (pre.length : Int) < xs.length := by rw [← hx]; simp only [List.length_append, List.length_cons]; omega
    have hd := rows_drop Slot.len pre (x :: rest)
    rw [hx, rows_cons] at hd
    have hw : IntKind.i64.wrap ((pre.length : Int) + 1) = pre.length + 1 := wrap_i64 (by omega) (by omega)
    simp [h0', h1', h5', hlt]
    refine T.text 400 mixed (by kernel_rfl) (by kernel_rfl) ?_
    by_cases hk : (strOfNums x.key).toList = (strOfNums k).toList
    · have hk' : bEq x.key k = true := by simp [bEq, hk]
      simp [h0', h1', h5', hlt, hd, Slot.cs, bytesA, B.count, B.num, hk, ← hE, idx, hk']
    · have hk' : bEq x.key k = false := by simp [bEq, hk]
      simp [h0', h1', h5', hlt, hd, Slot.cs, bytesA, B.count, B.num, hk, hw]
      refine ⟨pre ++ [x], rest, by simp, _, Le.refl _, ?_⟩
      simp [hx, h0', h1', ← hE, idx, hk', upd_app]
def sumB : List Slot → Int → Int
  | [], a => a
  | x :: xs, a => sumB xs (IntKind.i64.wrap (a + x.b.length))
theorem R44 (xs : List Slot) (hb : xs.length < 4611686018427387904) : Ret Try.prog 44 [.ro (rows Slot.cs xs) xs.length] (.sc (.int .i64 (sumB xs 0))) [.un] := by
  refine Ret.run Try.func44 K44 (by simp) rfl rfl 500 ?_
  simp [A44, iniρ]
  refine T.rounds (μ := fun i : List Slot × List Slot × Int => i.2.1.length)
    (fun i s => i.1 ++ i.2.1 = xs ∧ sumB i.2.1 i.2.2 = sumB xs 0 ∧ s.ρ 0 = .ro (rows Slot.cs xs) xs.length ∧ s.ρ 3 = .sc (.int .i64 i.2.2) ∧ s.ρ 4 = .sc (.int .i64 i.1.length) ∧ s.h = h0 ∧ s.n = 20) ([], xs, 0) (by simp [upd_app]) ?_
  rintro ⟨pre, rest, acc⟩ ⟨ρ, hh, n⟩ ⟨hx, hE, h0', h1', h5', rfl, rfl⟩
  simp only at hx hE h0' h1' h5'
  refine run_ok (n := 400) ?_
  cases rest with
  | nil =>
    simp at hx
    subst hx
    simp [h0', h5']
    refine T.on 400 ?_
    simp [h1', ← hE, sumB]
  | cons x rest =>
    have hlt : (pre.length : Int) < xs.length := by rw [← hx]; simp only [List.length_append, List.length_cons]; omega
    have hd := rows_drop Slot.len pre (x :: rest)
    rw [hx, rows_cons] at hd
    have hd1 : List.drop (pre.length * 2 + 1) (rows Slot.cs xs) = [.ro (rows B x.b) x.b.length] ++ rows Slot.cs rest := by rw [← List.drop_drop, hd]; rfl
    have hw : IntKind.i64.wrap ((pre.length : Int) + 1) = pre.length + 1 := wrap_i64 (by omega) (by omega)
    simp [h0', h1', h5', hlt, hd1, hw]
    refine ⟨pre ++ [x], rest, by simp, IntKind.i64.wrap (acc + x.b.length), _, Le.refl _, ?_⟩
    simp [hx, h0', ← hE, sumB, upd_app]
theorem R47 (xs : List Slot) (hb : xs.length < 4611686018427387904) : Ret Try.prog 47 [.ro (rows Slot.cs xs) xs.length] (.sc (.int .i64 (sumB xs 0))) [.un] := by
  refine Ret.run Try.func47 K47 (by simp) rfl rfl 500 ?_
  simp [A47, iniρ]
  refine T.rounds (μ := fun i : List Slot × List Slot × Int => i.2.1.length)
    (fun i s => i.1 ++ i.2.1 = xs ∧ sumB i.2.1 i.2.2 = sumB xs 0 ∧ s.ρ 6 = .ro (rows Slot.cs xs) xs.length ∧ s.ρ 7 = .sc (.int .i64 xs.length) ∧ s.ρ 3 = .sc (.int .i64 i.2.2) ∧ s.ρ 8 = .sc (.int .i64 i.1.length) ∧ s.h 5 = none ∧ s.n = 19) ([], xs, 0) (by simp [upd_app]) ?_
  rintro ⟨pre, rest, acc⟩ ⟨ρ, hh, n⟩ ⟨hx, hE, h0', h7', h1', h5', hf, rfl⟩
  simp only at hx hE h0' h7' h1' h5' hf
  refine run_ok (n := 400) ?_
  cases rest with
  | nil =>
    simp at hx
    subst hx
    simp [h0', h7', h5']
    refine T.on 400 ?_
    simp [h1', ← hE, sumB]
  | cons x rest =>
    have hlt : (pre.length : Int) < xs.length := by rw [← hx]; simp only [List.length_append, List.length_cons]; omega
    have hd := rows_drop Slot.len pre (x :: rest)
    rw [hx, rows_cons] at hd
    have hw : IntKind.i64.wrap ((pre.length : Int) + 1) = pre.length + 1 := wrap_i64 (by omega) (by omega)
    simp [h0', h7', h1', h5', hf, hlt, hd, hw, Slot.cs, over]
    refine ⟨pre ++ [x], rest, by simp, IntKind.i64.wrap (acc + x.b.length), _, Le.reset [6, 7, 3, 8] [] ?_ (by simp), ?_⟩
    · simp [upd_app, menB, idfree, h0', h7']
    · simp [hx, h0', h7', ← hE, sumB, upd_app]
def allAt (g : Slot → Int) : List Slot → Int → Bool
  | [], _ => true
  | x :: xs, i => g x == i && allAt g xs (i + 1)
def cacheOk (xs : List Slot) : Bool := allAt (fun x => idx (fun s => bEq s.key x.key) xs 0) xs 0 && (decide (xs.length ≤ 20) && decide (sumB xs 0 ≤ 3000))
theorem R17 (xs : List Slot) (hb : xs.length < 4611686018427387904) : Ret Try.prog 17 [.ro (rows Slot.cs xs) xs.length] (.sc (.bool (cacheOk xs))) [.un] := by
  refine Ret.run Try.func17 K17 (by simp) rfl rfl 500 ?_
  simp [A17, iniρ]
  let G : Slot → Int := fun x => idx (fun s => bEq s.key x.key) xs 0
  refine T.rounds (μ := fun i : List Slot × List Slot => i.2.length)
    (fun i s => i.1 ++ i.2 = xs ∧ allAt G i.2 i.1.length = allAt G xs 0 ∧ s.ρ 0 = .ro (rows Slot.cs xs) xs.length ∧ s.ρ 3 = .sc (.int .i64 i.1.length) ∧ s.h = h0 ∧ s.n = 27) ([], xs) (by simp [upd_app]) ?_
  rintro ⟨pre, rest⟩ ⟨ρ, hh, n⟩ ⟨hx, hE, h0', h5', rfl, rfl⟩
  simp only at hx hE h0' h5'
  refine run_ok (n := 400) ?_
  cases rest with
  | nil =>
    simp at hx
    subst hx
    have hE : true = allAt (fun x => idx (fun s => bEq s.key x.key) pre 0) pre 0 := hE
    simp [h0', h5']
    refine T.on 400 ?_
    by_cases hz : pre.length ≤ 20
    · have hz' : (pre.length : Int) ≤ 20 := by omega
      simp [h0', hz']
      refine callK.ro 24 rfl (by kernel_rfl) (by simp [roc, upd_app]) (R44 pre hb) rfl rfl rfl ?_
      simp [cacheOk, ← hE, hz]
    · have hz' : ¬ (pre.length : Int) ≤ 20 := by omega
      simp [h0', hz', cacheOk, hz]
  | cons x rest =>
    have hlt : (pre.length : Int) < xs.length := by rw [← hx]; simp only [List.length_append, List.length_cons]; omega
    have hd := rows_drop Slot.len pre (x :: rest)
    rw [hx, rows_cons] at hd
    have hw : IntKind.i64.wrap ((pre.length : Int) + 1) = pre.length + 1 := wrap_i64 (by omega) (by omega)
    simp [h0', h5', hlt, hd, Slot.cs]
    refine callK.ro 16 rfl (by kernel_rfl) (by simp [roc, upd_app, Slot.cs]) (R43 xs x.key hb) rfl rfl rfl ?_
    by_cases hz : idx (fun s => bEq s.key x.key) xs 0 = (pre.length : Int)
    · simp [h5', hz, hw]
      refine ⟨pre ++ [x], rest, by simp, _, Le.refl _, ?_⟩
      have hE2 : allAt G rest (pre.length + 1) = allAt G xs 0 := by
        rw [← hE]; simp only [allAt]; rw [show G x = (pre.length : Int) from hz]; simp
      simp [hx, h0', hE2, upd_app]
    · have hE2 : allAt (fun x => idx (fun s => bEq s.key x.key) xs 0) xs 0 = false := by
        refine hE.symm.trans ?_
        simp only [allAt]
        rw [show G x = idx (fun s => bEq s.key x.key) xs 0 from rfl]; simp [hz]
      simp [h5', hz, cacheOk, hE2]
theorem R74 (s : Slot) (k : List Int) : Ret Try.prog 74 [.agg s.cs, .rp [.ro (rows B k) k.length] 0] (.sc (.bool (bEq s.key k))) [.un, .un] := by
  refine Ret.run Try.func74 K74 (by simp) rfl rfl 500 ?_
  simp [A74, iniρ, Slot.cs]
  refine callK.ro 7 rfl (by kernel_rfl) (by simp [roc, upd_app]) (R75 s.key k) rfl rfl rfl ?_
  simp
theorem R73 (g : FuncId) (caps : List AV) (f : Slot → Bool) (hg : callB Try.prog g = true) (hc : ∀ h, caps.mapM (roc h 4) = some caps) (hf : ∀ x : Slot, Ret Try.prog g (.agg x.cs :: caps) (.sc (.bool (f x))) (.un :: caps.map fun _ => .un)) (hsh : shut.shutL caps = true) (xs : List Slot) (hb : xs.length < 4611686018427387904) :
    Ret Try.prog 73 [.ro (rows Slot.cs xs) xs.length, .clo g caps] (.sc (.int .i64 (idx f xs 0))) [.un, .un] := by
  refine Ret.run (ys := [.ro (rows Slot.cs xs) xs.length, .clo g caps]) (ρ1 := fun _ => .un) (h1 := h0) (m := 19) Try.func73 K73 (by simp) (by simp [entL, ent1, inst, hsh]) rfl 500 ?_
  simp [A73, iniρ]
  refine T.rounds (μ := fun i : List Slot × List Slot => i.2.length)
    (fun i s => i.1 ++ i.2 = xs ∧ idx f i.2 i.1.length = idx f xs 0 ∧ s.ρ 0 = .ro (rows Slot.cs xs) xs.length ∧ s.ρ 1 = .clo g caps ∧ s.ρ 7 = .sc (.int .i64 xs.length) ∧ s.ρ 8 = .sc (.int .i64 i.1.length) ∧ s.h = h0 ∧ s.n = 19) ([], xs) (by simp [upd_app]) ?_
  rintro ⟨pre, rest⟩ ⟨ρ, hh, n⟩ ⟨hx, hE, h0', h1', h7', h5', rfl, rfl⟩
  simp only at hx hE h0' h1' h7' h5'
  refine run_ok (n := 400) ?_
  cases rest with
  | nil =>
    simp at hx
    subst hx
    simp [h7', h5']
    refine T.on 400 ?_
    simp [← hE, idx]
  | cons x rest =>
    have hlt : (pre.length : Int) < xs.length := by rw [← hx]; simp only [List.length_append, List.length_cons]; omega
    have hd := rows_drop Slot.len pre (x :: rest)
    rw [hx, rows_cons] at hd
    have hw : IntKind.i64.wrap ((pre.length : Int) + 1) = pre.length + 1 := wrap_i64 (by omega) (by omega)
    simp [h0', h1', h7', h5', hlt, hd, Slot.cs]
    refine callK.ro 16 (f := g) (caps := caps) (ys := .agg x.cs :: caps) (by simp [upd_app, h1']) hg (by
      have : roc h0 4 (.agg x.cs) = some (.agg x.cs) := by simp [roc, Slot.cs]
      simp only [List.map_cons, List.map_nil, List.cons_append, List.nil_append, List.mapM_cons, hc]
      simp [upd_app, roc, Slot.cs]) (hf x) rfl rfl rfl ?_
    cases hE1 : f x
    · simp [h5', hw]
      refine ⟨pre ++ [x], rest, by simp, _, Le.refl _, ?_⟩
      simp [hx, h0', h1', h7', ← hE, idx, hE1, upd_app]
    · simp [h5', ← hE, idx, hE1]
theorem R46 (xs : List Slot) (k : List Int) (hb : xs.length < 4611686018427387904) : Ret Try.prog 46 [.ro (rows Slot.cs xs) xs.length, .ro (rows B k) k.length] (.sc (.int .i64 (idx (fun s => bEq s.key k) xs 0))) [.un, .un] := by
  refine Ret.run Try.func46 K46 (by simp) rfl rfl 500 ?_
  simp [A46, iniρ]
  refine callK.ro 7 rfl (by kernel_rfl) (by simp [roc, upd_app]) (R73 74 [.rp [.ro (rows B k) k.length] 0] (fun s => bEq s.key k) (by kernel_rfl) (by simp [roc]) (fun x => R74 x k) rfl xs hb) rfl rfl rfl ?_
  simp
theorem R19 (xs : List Slot) (hb : xs.length < 4611686018427387904) : Ret Try.prog 19 [.ro (rows Slot.cs xs) xs.length] (.sc (.bool (cacheOk xs))) [.un] := by
  refine Ret.run Try.func19 K19 (by simp) rfl rfl 500 ?_
  simp [A19, iniρ]
  let G : Slot → Int := fun x => idx (fun s => bEq s.key x.key) xs 0
  refine T.rounds (μ := fun i : List Slot × List Slot => i.2.length)
    (fun i s => i.1 ++ i.2 = xs ∧ allAt G i.2 i.1.length = allAt G xs 0 ∧ s.ρ 0 = .ro (rows Slot.cs xs) xs.length ∧ s.ρ 5 = .ro (rows Slot.cs xs) xs.length ∧ s.ρ 6 = .sc (.int .i64 xs.length) ∧ s.ρ 7 = .sc (.int .i64 i.1.length) ∧ s.h 4 = none ∧ s.n = 27) ([], xs) (by simp [upd_app]) ?_
  rintro ⟨pre, rest⟩ ⟨ρ, hh, n⟩ ⟨hx, hE, h0', h5', h6', h7', hf, rfl⟩
  simp only at hx hE h0' h5' h6' h7' hf
  refine run_ok (n := 400) ?_
  cases rest with
  | nil =>
    simp at hx
    subst hx
    have hE : true = allAt (fun x => idx (fun s => bEq s.key x.key) pre 0) pre 0 := hE
    simp [h6', h7']
    refine T.on 400 ?_
    by_cases hz : pre.length ≤ 20
    · have hz' : (pre.length : Int) ≤ 20 := by omega
      simp [h0', hz']
      refine callK.ro 24 rfl (by kernel_rfl) (by simp [roc, upd_app]) (R47 pre hb) rfl rfl rfl ?_
      simp [cacheOk, ← hE, hz]
    · have hz' : ¬ (pre.length : Int) ≤ 20 := by omega
      simp [h0', hz', cacheOk, hz]
  | cons x rest =>
    have hlt : (pre.length : Int) < xs.length := by rw [← hx]; simp only [List.length_append, List.length_cons]; omega
    have hd := rows_drop Slot.len pre (x :: rest)
    rw [hx, rows_cons] at hd
    have hw : IntKind.i64.wrap ((pre.length : Int) + 1) = pre.length + 1 := wrap_i64 (by omega) (by omega)
    simp [h0', h5', h6', h7', hf, hlt, hd, Slot.cs, over]
    refine callK.ro 15 rfl (by kernel_rfl) (by simp [roc, upd_app, Slot.cs]) (R46 xs x.key hb) rfl rfl rfl ?_
    by_cases hz : idx (fun s => bEq s.key x.key) xs 0 = (pre.length : Int)
    · simp [h7', hz, hw]
      refine ⟨pre ++ [x], rest, by simp, _, Le.reset [0, 5, 6, 7] [] ?_ (by simp), ?_⟩
      · simp [upd_app, menB, idfree, h0', h5', h6']
      have hE2 : allAt G rest (pre.length + 1) = allAt G xs 0 := by
        rw [← hE]; simp only [allAt]; rw [show G x = (pre.length : Int) from hz]; simp
      simp [hx, h0', h5', h6', hE2, upd_app]
    · have hE2 : allAt (fun x => idx (fun s => bEq s.key x.key) xs 0) xs 0 = false := by
        refine hE.symm.trans ?_
        simp only [allAt]
        rw [show G x = idx (fun s => bEq s.key x.key) xs 0 from rfl]; simp [hz]
      simp [h7', hz, cacheOk, hE2]
theorem eqSlot_refl (s : Slot) : eqSlot s s = true := by simp [eqSlot, eqBy_refl eqI_refl]
theorem R5 (xs : List Slot) (hx : xs.length < 4398046511104) (hs : ∀ s ∈ xs, s.ok) : Ret Try.prog 5 [.ro (rows Slot.cs xs) xs.length] (.sc (.bool true)) [.un] := by
  have bx : xs.length < 4611686018427387904 := by omega
  refine Ret.run Try.func5 K5 (by simp) rfl rfl 500 ?_
  simp [A5, iniρ]
  refine callK.ro 9 rfl (by kernel_rfl) (by simp [roc, upd_app]) (R16 xs bx 1048576) rfl rfl rfl ?_
  simp
  by_cases h1 : szS szSlot xs 1048576 < 0
  case pos => simp [h1]; intro; omega
  simp [h1, Int.not_lt.1 h1]
  refine callK.own 13 rfl (by kernel_rfl) (by simp [roc, upd_app]) (R18 xs hx hs) (Slot.flo xs) (by simp) rfl ?_
  simp
  refine callK.ro 14 rfl (by kernel_rfl) (by simp [Slot.roc (xs := xs)]) (R17 xs bx) rfl rfl rfl ?_
  simp
  refine callK.own 16 rfl (by kernel_rfl) (by simp [roc, upd_app]) (R18 xs hx hs) (Slot.flo xs) (by simp) rfl ?_
  simp
  refine callK.ro 18 rfl (by kernel_rfl) (by simp [Slot.roc (xs := xs)]) (R19 xs bx) rfl rfl rfl ?_
  simp
  refine callK.own 24 rfl (by kernel_rfl) (by simp [roc, upd_app]) (R18 xs hx hs) (Slot.flo xs) (by simp) rfl ?_
  simp
  refine callK.ro 25 rfl (by kernel_rfl) (by simp [Slot.roc (xs := xs)]) (R20 xs xs bx hs) rfl rfl rfl ?_
  simp [eqBy_refl eqSlot_refl]
end Go.Proofs.Ytlajojcobadieaa.Am
