/- The functions of the program, each by its contract: Parse; no condition. -/
import Derived.Test.YtaknfalbmblagaaDoorProg
import Derived.Test.YtaknfalbmblagaaDoorAmZ
import Derived.Test.YtaknfalbmblagaaDoorAmP
import Derived.Test.YtaknfalbmblagaaDoorTasks
import Derived.Test.YtaknfalbmblagaaDoorTexts
import Derived.Test.YtaknfalbmblagaaDoorItoa
import Derived.KernelRfl
namespace Go.Proofs.YtaknfalbmblagaaDoor.Am
open Go Go.Proofs
set_option linter.unusedSimpArgs false
set_option linter.unusedVariables false
attribute [local congr] T_congr callK_congr callWK_congr
attribute [local simp] run_nil run_op0 run_opg run_seq run_cond run_block run_ret run_skip run_skip_after run_skip_blk run_exit run_exit_after run_exit_blk run_loop run_any runS_nil runS_op0 runS_opg runW_nil runW_op0 runW_opg exec_q exec_w exec_c exec_n execW_q execW_w execW_c restW_app hideH_app merge_app wblk rest_app restS_app execS_q execS_c aval dOk upd_app ev_t ev_c setO_some setO_none put_mk pinsOf isIo hasIo sbin endR fin resL one outL out1 clo1 cloL coe coeL shut shut.shutL wantA weff cellsOf fillA deref natOf ρ0_app h0_app plain plain.plainL keep_app keepH_app andThen_normal andThen_ret andThen_exit pop_nil pop_after pop_after_ret pop_after_exit pop_blk pop_blk_ret pop_blk_exit nilA srcOf srcCells keepR_app keepHR_app renA rb
def parseT (s : ByteArray) : Option (ByteArray × ByteArray) :=
  if nameOk (cutF s 35).1 = true ∧ nameOk (cutF s 35).2.1 = true then some ((cutF s 35).1, (cutF s 35).2.1) else none
def taskA : Option (ByteArray × ByteArray) → AV
  | some (a, b) => .tup [.sc (.string a), .sc (.string b), .sc (.bool true)]
  | none => .tup [.sc (.string ⟨#[]⟩), .sc (.string ⟨#[]⟩), .sc (.bool false)]
theorem cutF_size (s : ByteArray) (c : UInt8) : (cutF s c).1.size ≤ s.size ∧ (cutF s c).2.1.size ≤ s.size := by
  unfold cutF
  split
  · exact ⟨by rw [ByteArray.size_extract]; omega, by rw [ByteArray.size_extract]; omega⟩
  · exact ⟨Nat.le_refl _, Nat.zero_le _⟩
theorem nameC35 (i : Nat) : nameC i 35 = false := by
  have e : ((35 : UInt8).toNat : Int) = 35 := rfl
  simp [nameC, e, smallI, figI]
theorem nameL35 : ∀ (l : List UInt8) (i : Nat), (35 : UInt8) ∈ l → nameL l i = false
  | [], i, h => by simp at h
  | x :: l, i, h => by
    rcases List.mem_cons.1 h with rfl | h
    · rw [nameL, nameC35]; rfl
    · rw [nameL, nameL35 l _ h, Bool.and_false]
theorem name35 {s : ByteArray} (h : (35 : UInt8) ∈ s.data.toList) : nameOk s = false := by
  rw [nameOk, nameL35 _ _ h]; rfl
theorem nameE : nameOk ⟨#[]⟩ = false := rfl
/-- what the document's ParseTask asks -/
theorem parseT_split (s : ByteArray) : parseT s = match splitS s 35 with
    | [a, b] => if nameOk a = true ∧ nameOk b = true then some (a, b) else none
    | _ => none := by
  have e35 : ((35 : UInt8).toNat : Int) = 35 := rfl
  unfold parseT splitS
  rcases ixB_cases 35 s.data.toList with ⟨e, hn⟩ | ⟨p, q, e, hn, e2⟩
  · have h := splitP_miss s 35 0 s.data.toList 0 hn
    rw [e35] at h
    rw [h]
    have hc : (cutF s 35).2.1 = ⟨#[]⟩ := by unfold cutF; rw [e]; rfl
    rw [hc, nameE]
    simp
  · have h := splitP_hit s 35 0 q p 0 hn
    rw [← e, e35] at h
    rw [h]
    have hsz := str_len e.symm
    simp only [List.length_append, List.length_cons] at hsz
    have hc : cutF s 35 = (s.extract 0 p.length, s.extract (p.length + 1) s.size, true) := by unfold cutF; rw [e2]; simp
    have hq : (s.extract (p.length + 1) s.size).data.toList = q := by
      rw [drop_str, e, show p.length + 1 = (p ++ [(35 : UInt8)]).length by simp, show p ++ (35 : UInt8) :: q = (p ++ [35]) ++ q by simp, List.drop_left]
    rw [hc]
    simp only [Nat.zero_add]
    by_cases hm : (35 : UInt8) ∈ q
    · have hf : nameOk (s.extract (p.length + 1) s.size) = false := name35 (by rw [hq]; exact hm)
      rw [hf]
      obtain ⟨p2, q2, e3, hn2⟩ : ∃ p2 q2, q = p2 ++ (35 : UInt8) :: q2 ∧ (35 : UInt8) ∉ p2 := by
        rcases ixB_cases 35 q with ⟨_, h⟩ | ⟨p2, q2, h, h2, _⟩
        · exact absurd hm h
        · exact ⟨p2, q2, h, h2⟩
      have h2 := splitP_hit s 35 (p.length + 1) q2 p2 (p.length + 1) hn2
      rw [e35] at h2
      rw [e3, h2]
      cases q3 : splitP s 35 (p.length + 1 + p2.length + 1) (p.length + 1 + p2.length + 1) q2 with
      | nil =>
        have h3 := splitP_cnt s 35 q2 (p.length + 1 + p2.length + 1) (p.length + 1 + p2.length + 1)
        rw [e35, q3] at h3
        simp at h3
      | cons x l => simp
    · have h2 := splitP_miss s 35 (p.length + 1) q (p.length + 1) hm
      rw [e35] at h2
      rw [h2, show p.length + 1 + q.length = s.size by omega]
/- 58: loop.example/g00464/impl.ParseTask -/
def A58 : AC := (.seq (.ops [⟨(some 2), none, .q (.mov (.c (.sc (.string ⟨#[]⟩))))⟩, ⟨(some 3), none, .q (.mov (.c (.sc (.string ⟨#[]⟩))))⟩, ⟨(some 4), none, .q (.mov (.c (.sc (.bool false))))⟩])
  (.seq (.ops [⟨(some 9), none, .q (.mov (.t 0))⟩, ⟨(some 10), none, .c (.c (.clo 63 [])) [(.t 9), (.c (.sc (.string ⟨#[35]⟩)))]⟩, ⟨(some 8), none, .q (.mov (.t 10))⟩, ⟨(some 11), none, .q (.ext (.t 8) 0)⟩, ⟨(some 12), none, .q (.ext (.t 8) 1)⟩, ⟨(some 13), none, .q (.ext (.t 8) 2)⟩, ⟨(some 5), none, .q (.mov (.t 11))⟩, ⟨(some 6), none, .q (.mov (.t 12))⟩, ⟨(some 7), none, .q (.mov (.t 13))⟩])
  (.seq (.seq (.ops [⟨(some 14), none, .q (.mov (.t 5))⟩, ⟨(some 15), none, .c (.c (.clo 64 [])) [(.t 14)]⟩, ⟨(some 16), none, .q (.not (.t 15))⟩, ⟨(some 17), none, .q (.mov (.t 16))⟩, ⟨(some 18), (some (17, false)), .q (.mov (.t 6))⟩, ⟨(some 19), (some (17, false)), .c (.c (.clo 64 [])) [(.t 18)]⟩, ⟨(some 20), (some (17, false)), .q (.not (.t 19))⟩, ⟨(some 21), none, .q (.pick (.t 17) (.c (.sc (.bool true))) (.t 20))⟩])
  (.cond (.t 21) (.seq (.ops [⟨(some 2), none, .q (.mov (.c (.sc (.string ⟨#[]⟩))))⟩, ⟨(some 3), none, .q (.mov (.c (.sc (.string ⟨#[]⟩))))⟩, ⟨(some 4), none, .q (.mov (.c (.sc (.bool false))))⟩])
  .ret)
  .skip))
  (.seq (.ops [⟨(some 22), none, .q (.mov (.t 5))⟩, ⟨(some 23), none, .q (.mov (.t 6))⟩, ⟨(some 2), none, .q (.mov (.t 22))⟩, ⟨(some 3), none, .q (.mov (.t 23))⟩, ⟨(some 4), none, .q (.mov (.c (.sc (.bool true))))⟩])
  .ret))))
theorem K58 : Tryd.f58.body.bind (comp Tryd.prog) = some A58 ∧ Tryd.f58.ntmps = 24 ∧ Tryd.f58.results.toList.mapM (resB Tryd.prog) = some [.mov (.t 2), .mov (.t 3), .mov (.t 4)] := ⟨by kernel_rfl, by kernel_rfl, by kernel_rfl⟩
theorem R58 (s : ByteArray) (hs : s.size ≤ 140737488351232) : Ret Tryd.prog 58 [.sc (.string s)] (taskA (parseT s)) [.un] := by
  obtain ⟨c1, c2⟩ := cutF_size s 35
  have hp : parseT s = if nameOk (cutF s 35).1 = true ∧ nameOk (cutF s 35).2.1 = true then some ((cutF s 35).1, (cutF s 35).2.1) else none := rfl
  obtain ⟨x, hx⟩ : ∃ x, x = cutF s 35 := ⟨_, rfl⟩
  have rc := R63 s 35 hs
  rw [← hx] at c1 c2 hp rc
  rw [hp]
  refine Ret.run Tryd.func58 K58 (by simp) rfl rfl 500 ?_
  simp [A58, iniρ]
  refine callK.ro 0 rfl (by kernel_rfl) (by simp [roc_sc]) rc rfl (by simp [cutRes, inst, instL, shut]; exact ⟨rfl, rfl⟩) rfl ?_
  simp
  refine callK.ro 0 rfl (by kernel_rfl) (by simp [roc_sc]) (R64 x.1 (by omega)) rfl rfl rfl ?_
  cases h1 : nameOk x.1
  case false => simp [taskA]
  simp
  refine callK.ro 0 rfl (by kernel_rfl) (by simp [roc_sc]) (R64 x.2.1 (by omega)) rfl rfl rfl ?_
  cases h2 : nameOk x.2.1
  case false => simp [taskA]
  simp [taskA]
/- 41: loop.example/g00464/impl.isTask -/
def A41 : AC := (.seq (.ops [⟨(some 2), none, .q (.mov (.c (.sc (.bool false))))⟩])
  (.seq (.ops [⟨(some 7), none, .q (.mov (.t 0))⟩, ⟨(some 8), none, .c (.c (.clo 58 [])) [(.t 7)]⟩, ⟨(some 6), none, .q (.mov (.t 8))⟩, ⟨(some 9), none, .q (.ext (.t 6) 0)⟩, ⟨(some 10), none, .q (.ext (.t 6) 1)⟩, ⟨(some 11), none, .q (.ext (.t 6) 2)⟩, ⟨(some 3), none, .q (.mov (.t 9))⟩, ⟨(some 4), none, .q (.mov (.t 10))⟩, ⟨(some 5), none, .q (.mov (.t 11))⟩])
  (.seq (.ops [⟨(some 12), none, .q (.mov (.t 5))⟩, ⟨(some 2), none, .q (.mov (.t 12))⟩])
  .ret)))
theorem K41 : Tryd.f41.body.bind (comp Tryd.prog) = some A41 ∧ Tryd.f41.ntmps = 13 ∧ Tryd.f41.results.toList.mapM (resB Tryd.prog) = some [.mov (.t 2)] := ⟨by kernel_rfl, by kernel_rfl, by kernel_rfl⟩
theorem R41 (s : ByteArray) (hs : s.size ≤ 140737488351232) : Ret Tryd.prog 41 [.sc (.string s)] (.sc (.bool (parseT s).isSome)) [.un] := by
  have rp := R58 s hs
  obtain ⟨x, hx⟩ : ∃ x, x = parseT s := ⟨_, rfl⟩
  rw [← hx] at rp ⊢
  refine Ret.run Tryd.func41 K41 (by simp) rfl rfl 500 ?_
  simp [A41, iniρ]
  cases x with
  | none =>
    refine callK.ro 0 rfl (by kernel_rfl) (by simp [roc_sc]) rp rfl (by simp [taskA, inst, instL, shut]; exact ⟨rfl, rfl⟩) rfl ?_
    simp
  | some x =>
    refine callK.ro 0 rfl (by kernel_rfl) (by simp [roc_sc]) rp rfl (by simp [taskA, inst, instL, shut]; exact ⟨rfl, rfl⟩) rfl ?_
    simp
/- 32: loop.example/g00464/spec.ParseTask -/
def A32 : AC := (.seq (.ops [⟨(some 2), none, .q (.mov (.c (.sc (.string ⟨#[]⟩))))⟩, ⟨(some 3), none, .q (.mov (.c (.sc (.string ⟨#[]⟩))))⟩, ⟨(some 4), none, .q (.mov (.c (.sc (.bool false))))⟩])
  (.seq (.ops [⟨(some 6), none, .q (.mov (.t 0))⟩, ⟨(some 7), none, .c (.c (.clo 48 [])) [(.t 6), (.c (.sc (.int .u8 35)))]⟩, ⟨(some 5), none, .q (.mov (.t 7))⟩])
  (.seq (.seq (.ops [⟨(some 8), none, .q (.mov (.t 5))⟩, ⟨(some 9), none, .q (.llen (.t 8))⟩, ⟨(some 10), none, .q (.bin .neq (.t 9) (.c (.sc (.int .i64 2))))⟩, ⟨(some 11), none, .q (.mov (.t 10))⟩, ⟨(some 12), (some (11, false)), .q (.mov (.t 5))⟩, ⟨(some 13), (some (11, false)), .q (.iadr 1 (.t 12) (.c (.sc (.int .i64 0))))⟩, ⟨(some 14), (some (11, false)), .q (.load false 1 (.t 13))⟩, ⟨(some 15), (some (11, false)), .c (.c (.clo 49 [])) [(.t 14)]⟩, ⟨(some 16), (some (11, false)), .q (.not (.t 15))⟩, ⟨(some 17), none, .q (.pick (.t 11) (.c (.sc (.bool true))) (.t 16))⟩, ⟨(some 18), none, .q (.mov (.t 17))⟩, ⟨(some 19), (some (18, false)), .q (.mov (.t 5))⟩, ⟨(some 20), (some (18, false)), .q (.iadr 1 (.t 19) (.c (.sc (.int .i64 1))))⟩, ⟨(some 21), (some (18, false)), .q (.load false 1 (.t 20))⟩, ⟨(some 22), (some (18, false)), .c (.c (.clo 49 [])) [(.t 21)]⟩, ⟨(some 23), (some (18, false)), .q (.not (.t 22))⟩, ⟨(some 24), none, .q (.pick (.t 18) (.c (.sc (.bool true))) (.t 23))⟩])
  (.cond (.t 24) (.seq (.ops [⟨(some 2), none, .q (.mov (.c (.sc (.string ⟨#[]⟩))))⟩, ⟨(some 3), none, .q (.mov (.c (.sc (.string ⟨#[]⟩))))⟩, ⟨(some 4), none, .q (.mov (.c (.sc (.bool false))))⟩])
  .ret)
  .skip))
  (.seq (.any [(⟨(some 25), none, .q (.mov (.t 5))⟩, []), (⟨(some 26), none, .q (.iadr 1 (.t 25) (.c (.sc (.int .i64 0))))⟩, [0]), (⟨(some 27), none, .q (.load false 1 (.t 26))⟩, [1]), (⟨(some 28), none, .q (.mov (.t 5))⟩, []), (⟨(some 29), none, .q (.iadr 1 (.t 28) (.c (.sc (.int .i64 1))))⟩, [3]), (⟨(some 30), none, .q (.load false 1 (.t 29))⟩, [4]), (⟨(some 2), none, .q (.mov (.t 27))⟩, [2, 0, 1, 2]), (⟨(some 3), none, .q (.mov (.t 30))⟩, [5, 6, 0, 1, 2, 3, 4, 5, 6]), (⟨(some 4), none, .q (.mov (.c (.sc (.bool true))))⟩, [7, 0, 1, 2, 3, 4, 5, 6, 7])])
  .ret))))
theorem K32 : Tryd.f32.body.bind (comp Tryd.prog) = some A32 ∧ Tryd.f32.ntmps = 31 ∧ Tryd.f32.results.toList.mapM (resB Tryd.prog) = some [.mov (.t 2), .mov (.t 3), .mov (.t 4)] := ⟨by kernel_rfl, by kernel_rfl, by kernel_rfl⟩
set_option maxHeartbeats 1000000 in
theorem R32 (s : ByteArray) (hs : s.size ≤ 1048576) : Ret Tryd.prog 32 [.sc (.string s)] (taskA (parseT s)) [.un] := by
  have hp := parseT_split s
  have hz : ∀ x ∈ splitS s 35, x.size ≤ s.size := splitP_size s 35 _ 0 0
  obtain ⟨ps, hps⟩ : ∃ ps, ps = splitS s 35 := ⟨_, rfl⟩
  have rs := R48 s 35 hs
  rw [← hps] at hz rs hp
  have rest : ∀ (l : List ByteArray), ps = l → l.length ≠ 2 → parseT s = none := fun l h1 h2 => by
    rw [hp, h1]
    match l, h2 with
    | [], _ => rfl
    | [_], _ => rfl
    | _ :: _ :: _ :: _, _ => rfl
    | [_, _], h2 => exact absurd rfl h2
  refine Ret.run Tryd.func32 K32 (by simp) rfl rfl 500 ?_
  simp [A32, iniρ]
  refine callK.own 7 rfl (by kernel_rfl) (by simp [roc_sc]) rs (Ty.str.flo ps) (by simp) rfl ?_
  by_cases hl : ps.length = 2
  case neg =>
    have hl' : ¬ ((ps.length : Int) = 2) := by omega
    rw [rest ps rfl hl]
    simp [hl, hl', taskA]
  obtain ⟨a, b, rfl⟩ : ∃ a b, ps = [a, b] := by
    match ps, hl with
    | [a, b], _ => exact ⟨a, b, rfl⟩
  have ha := hz a (by simp)
  have hb := hz b (by simp)
  have er : rows Ty.str.oc [a, b] = [.sc (.string a), .sc (.string b)] := rfl
  simp only at hp
  rw [hp]
  simp [er]
  refine callK.ro 0 rfl (by kernel_rfl) (by simp [roc_sc, upd_app]) (R49 a (by omega)) rfl rfl rfl ?_
  cases h1 : nameOk a
  case false => simp [taskA]
  simp [er]
  refine callK.ro 0 rfl (by kernel_rfl) (by simp [roc_sc, upd_app]) (R49 b (by omega)) rfl rfl rfl ?_
  cases h2 : nameOk b
  case false => simp [taskA]
  simp
  refine T.text 400 mixed (by kernel_rfl) (by kernel_rfl) ?_
  simp [er, taskA]
def madeOk (m : Made) : Bool := (parseT m.task).isSome && (outsOk m.outs && decide (m.log.size ≤ 200))
/- 23: loop.example/g00464/impl.MadeOk -/
def A23 : AC := (.seq (.ops [⟨(some 1), none, .w (.box (.t 0))⟩, ⟨(some 2), none, .q (.mov (.c (.sc (.bool false))))⟩])
  (.seq (.ops [⟨(some 3), none, .q (.fadr 0 (.t 1))⟩, ⟨(some 4), none, .q (.load false 1 (.t 3))⟩, ⟨(some 5), none, .c (.c (.clo 41 [])) [(.t 4)]⟩, ⟨(some 6), none, .q (.mov (.t 5))⟩, ⟨(some 7), (some (6, true)), .q (.fadr 1 (.t 1))⟩, ⟨(some 8), (some (6, true)), .q (.load false 1 (.t 7))⟩, ⟨(some 9), (some (6, true)), .c (.c (.clo 42 [])) [(.t 8)]⟩, ⟨(some 10), none, .q (.pick (.t 6) (.t 9) (.c (.sc (.bool false))))⟩, ⟨(some 11), none, .q (.mov (.t 10))⟩, ⟨(some 12), (some (11, true)), .q (.fadr 2 (.t 1))⟩, ⟨(some 13), (some (11, true)), .q (.load false 1 (.t 12))⟩, ⟨(some 14), (some (11, true)), .q (.slen (.t 13))⟩, ⟨(some 15), (some (11, true)), .q (.bin .leq (.t 14) (.c (.sc (.int .i64 200))))⟩, ⟨(some 16), none, .q (.pick (.t 11) (.t 15) (.c (.sc (.bool false))))⟩, ⟨(some 2), none, .q (.mov (.t 16))⟩])
  .ret))
theorem K23 : Tryd.f23.body.bind (comp Tryd.prog) = some A23 ∧ Tryd.f23.ntmps = 17 ∧ Tryd.f23.results.toList.mapM (resB Tryd.prog) = some [.mov (.t 2)] := ⟨by kernel_rfl, by kernel_rfl, by kernel_rfl⟩
theorem R23 (m : Made) (h1 : m.task.size ≤ 1048576) (hb : m.outs.length < 4611686018427387904) (hp : ∀ x ∈ m.outs, x.path.size ≤ 1048576) : Ret Tryd.prog 23 [.agg (Made.ty.cs m)] (.sc (.bool (madeOk m))) [.un] := by
  refine Ret.run Tryd.func23 K23 (by simp) rfl rfl 500 ?_
  simp [A23, iniρ, Made.cse]
  refine callK.ro 0 rfl (by kernel_rfl) (by simp [roc_sc, upd_app]) (R41 m.task (by omega)) rfl rfl rfl ?_
  cases h1 : (parseT m.task).isSome
  case false => simp [madeOk, h1]
  simp
  refine callK.ro 0 rfl (by kernel_rfl) (by simp [roc_ro, upd_app]) (R42 m.outs hb hp) rfl rfl rfl ?_
  cases h2 : outsOk m.outs
  case false => simp [madeOk, h2]
  by_cases h3 : m.log.size ≤ 200
  · have h3' : (m.log.size : Int) ≤ 200 := by omega
    simp [madeOk, h1, h2, h3, h3']
  · have h3' : ¬ (m.log.size : Int) ≤ 200 := by omega
    simp [madeOk, h3, h3']
/- 19: loop.example/g00464/spec.MadeOk -/
def A19 : AC := (.seq (.ops [⟨(some 1), none, .w (.box (.t 0))⟩, ⟨(some 2), none, .q (.mov (.c (.sc (.bool false))))⟩])
  (.seq (.ops [⟨(some 8), none, .q (.fadr 0 (.t 1))⟩, ⟨(some 9), none, .q (.load false 1 (.t 8))⟩, ⟨(some 10), none, .c (.c (.clo 32 [])) [(.t 9)]⟩, ⟨(some 7), none, .q (.mov (.t 10))⟩, ⟨(some 11), none, .q (.ext (.t 7) 0)⟩, ⟨(some 12), none, .q (.ext (.t 7) 1)⟩, ⟨(some 13), none, .q (.ext (.t 7) 2)⟩, ⟨(some 3), none, .q (.mov (.t 11))⟩, ⟨(some 4), none, .q (.mov (.t 12))⟩, ⟨(some 5), none, .q (.mov (.t 13))⟩])
  (.seq (.seq (.ops [⟨(some 6), none, .q (.mov (.c (.sc (.int .i64 0))))⟩])
  (.block 0 (.loop (.seq (.seq (.ops [⟨(some 14), none, .q (.mov (.t 6))⟩, ⟨(some 15), none, .q (.fadr 1 (.t 1))⟩, ⟨(some 16), none, .q (.load false 1 (.t 15))⟩, ⟨(some 17), none, .q (.llen (.t 16))⟩, ⟨(some 18), none, .q (.bin .lss (.t 14) (.t 17))⟩])
  (.cond (.t 18) .skip
  (.exit 0)))
  (.seq (.block 1 (.seq (.ops [⟨(some 21), none, .q (.fadr 1 (.t 1))⟩, ⟨(some 22), none, .q (.load false 1 (.t 21))⟩, ⟨(some 23), none, .q (.mov (.t 6))⟩, ⟨(some 24), none, .q (.iadr 2 (.t 22) (.t 23))⟩, ⟨(some 25), none, .q (.fadr 0 (.t 24))⟩, ⟨(some 26), none, .q (.load false 1 (.t 25))⟩, ⟨(some 27), none, .c (.c (.clo 33 [])) [(.t 26)]⟩, ⟨(some 28), none, .q (.not (.t 27))⟩])
  (.cond (.t 28) (.seq (.ops [⟨(some 2), none, .q (.mov (.c (.sc (.bool false))))⟩])
  .ret)
  .skip)))
  (.ops [⟨(some 19), none, .q (.mov (.t 6))⟩, ⟨(some 20), none, .q (.bin .add (.t 19) (.c (.sc (.int .i64 1))))⟩, ⟨(some 6), none, .q (.mov (.t 20))⟩]))))))
  (.seq (.ops [⟨(some 29), none, .q (.mov (.t 5))⟩, ⟨(some 30), none, .q (.mov (.t 29))⟩, ⟨(some 31), (some (30, true)), .q (.fadr 1 (.t 1))⟩, ⟨(some 32), (some (30, true)), .q (.load false 1 (.t 31))⟩, ⟨(some 33), (some (30, true)), .q (.llen (.t 32))⟩, ⟨(some 34), (some (30, true)), .q (.bin .leq (.t 33) (.c (.sc (.int .i64 6))))⟩, ⟨(some 35), none, .q (.pick (.t 30) (.t 34) (.c (.sc (.bool false))))⟩, ⟨(some 36), none, .q (.mov (.t 35))⟩, ⟨(some 37), (some (36, true)), .q (.fadr 1 (.t 1))⟩, ⟨(some 38), (some (36, true)), .q (.load false 1 (.t 37))⟩, ⟨(some 39), (some (36, true)), .c (.c (.clo 34 [])) [(.t 38)]⟩, ⟨(some 40), none, .q (.pick (.t 36) (.t 39) (.c (.sc (.bool false))))⟩, ⟨(some 41), none, .q (.mov (.t 40))⟩, ⟨(some 42), (some (41, true)), .q (.fadr 2 (.t 1))⟩, ⟨(some 43), (some (41, true)), .q (.load false 1 (.t 42))⟩, ⟨(some 44), (some (41, true)), .q (.slen (.t 43))⟩, ⟨(some 45), (some (41, true)), .q (.bin .leq (.t 44) (.c (.sc (.int .i64 200))))⟩, ⟨(some 46), none, .q (.pick (.t 41) (.t 45) (.c (.sc (.bool false))))⟩, ⟨(some 2), none, .q (.mov (.t 46))⟩])
  .ret))))
theorem K19 : Tryd.f19.body.bind (comp Tryd.prog) = some A19 ∧ Tryd.f19.ntmps = 47 ∧ Tryd.f19.results.toList.mapM (resB Tryd.prog) = some [.mov (.t 2)] := ⟨by kernel_rfl, by kernel_rfl, by kernel_rfl⟩
set_option maxHeartbeats 1000000 in
theorem R19 (m : Made) (h1 : m.task.size ≤ 1048576) (hb : m.outs.length < 4611686018427387904) (hp : ∀ x ∈ m.outs, x.path.size ≤ 1048576) : Ret Tryd.prog 19 [.agg (Made.ty.cs m)] (.sc (.bool (madeOk m))) [.un] := by
  have rp := R32 m.task h1
  have hcs := Made.cse m
  obtain ⟨xs, hxs⟩ : ∃ xs, xs = m.outs := ⟨_, rfl⟩
  have hM : madeOk m = ((parseT m.task).isSome && (outsOk xs && decide (m.log.size ≤ 200))) := by rw [hxs]; rfl
  obtain ⟨t, ht⟩ : ∃ t, t = parseT m.task := ⟨_, rfl⟩
  rw [← ht] at rp hM
  rw [hM]
  rw [← hxs] at hb hp hcs
  have fin : ∀ (tk : ByteArray × ByteArray × Bool), taskA t = .tup [.sc (.string tk.1), .sc (.string tk.2.1), .sc (.bool tk.2.2)] → tk.2.2 = t.isSome → Ret Tryd.prog 19 [.agg (Made.ty.cs m)] (.sc (.bool (t.isSome && (outsOk xs && decide (m.log.size ≤ 200))))) [.un] := by
    rintro ⟨ta, tb, tc⟩ e1 e2
    simp only at e1 e2
    rw [e1] at rp
    rw [← e2]
    refine Ret.run Tryd.func19 K19 (by simp) rfl rfl 500 ?_
    simp [A19, iniρ, hcs]
    refine callK.ro 0 rfl (by kernel_rfl) (by simp [roc_sc, upd_app]) rp rfl (by simp [inst, instL, shut]; exact ⟨rfl, rfl⟩) rfl ?_
    simp
    refine T.rounds (μ := fun i : List File × List File => i.2.length)
      (fun i s => i.1 ++ i.2 = xs ∧ namesL i.2 = namesL xs ∧ s.ρ 1 = .ref 1 0 ∧ s.ρ 5 = .sc (.bool tc) ∧ s.ρ 6 = .sc (.int .i64 i.1.length) ∧ s.h 1 = some (some (Made.ty.cs m)) ∧ s.n = 47) ([], xs) (by simp [upd_app, hcs, hxs, Made.cse]) ?_
    rintro ⟨pre, rest⟩ ⟨ρ, hh, n⟩ ⟨hx, hE, k1, k5, k6, b1, rfl⟩
    simp only at hx hE k1 k5 k6 b1
    rw [hcs] at b1
    refine run_ok (n := 400) ?_
    cases rest with
    | nil =>
      have hxl : pre.length = xs.length := by rw [← hx]; simp
      have hA : namesL xs = true := by rw [← hE]; rfl
      simp [k1, k6, b1, hxl]
      refine T.on 400 ?_
      cases tc with
      | false => simp [k5]
      | true =>
        by_cases h6 : xs.length ≤ 6
        · have h6' : (xs.length : Int) ≤ 6 := by omega
          simp [k1, k5, b1, h6']
          refine callK.ro 0 rfl (by kernel_rfl) (by simp [roc_ro, upd_app]) (R34 xs hb hp) rfl rfl rfl ?_
          cases h2 : filesOk xs
          case false => simp [outsOk, h2]
          by_cases h3 : m.log.size ≤ 200
          · have h3' : (m.log.size : Int) ≤ 200 := by omega
            simp [k1, b1, outsOk, hA, h6, h2, h3, h3']
          · have h3' : ¬ (m.log.size : Int) ≤ 200 := by omega
            simp [k1, b1, h3, h3']
        · have h6' : ¬ (xs.length : Int) ≤ 6 := by omega
          simp [k1, k5, b1, h6', outsOk, h6]
    | cons x rest =>
      have hle : pre.length + (rest.length + 1) = xs.length := by rw [← hx]; simp
      have hlt : (pre.length : Int) < xs.length := by omega
      have hw : IntKind.i64.wrap ((pre.length : Int) + 1) = pre.length + 1 := wrap_i64 (by omega) (by omega)
      have hd := rows_drop File.ty.csn pre (x :: rest)
      rw [hx, rows_cons] at hd
      have hd : List.drop (pre.length * 2) (rows File.ty.cs xs) = AV.sc (.string x.path) :: AV.sc (.string x.text) :: rows File.ty.cs rest := hd
      have hxp := hp x (by rw [← hx]; simp)
      simp [k1, k6, b1, hlt, hd]
      refine callK.ro 0 rfl (by kernel_rfl) (by simp [roc_sc, upd_app]) (R33 x.path (by omega)) rfl rfl rfl ?_
      cases h1 : partOk x.path
      · have h2 : namesL xs = false := by rw [← hE, namesL, h1]; rfl
        simp [outsOk, h2]
      · simp [k6, hw]
        refine ⟨pre ++ [x], rest, by simp, _, Le.refl _, ?_⟩
        simp [hx, upd_app, k1, k5, b1, hcs, ← hE, namesL, h1]
  cases t with
  | none => exact fin (⟨#[]⟩, ⟨#[]⟩, false) rfl rfl
  | some t => exact fin (t.1, t.2, true) rfl rfl
end Go.Proofs.YtaknfalbmblagaaDoor.Am
