/- The functions of the program, each by its contract: Texts; no condition. -/
import Derived.Test.YtaknfalbmblagaaDoorProg
import Derived.Test.YtaknfalbmblagaaDoorAmZ
import Derived.Test.YtaknfalbmblagaaDoorAmP
import Derived.Test.YtaknfalbmblagaaDoorAmD
import Derived.Test.YtaknfalbmblagaaDoorBase
import Derived.Test.YtaknfalbmblagaaDoorTypes
import Derived.Test.YtaknfalbmblagaaDoorWords
import Derived.KernelRfl
namespace Go.Proofs.YtaknfalbmblagaaDoor.Am
open Go Go.Proofs
set_option linter.unusedSimpArgs false
set_option linter.unusedVariables false
attribute [local congr] T_congr callK_congr callWK_congr
attribute [local simp] run_nil run_op0 run_opg run_seq run_cond run_block run_ret run_skip run_skip_after run_skip_blk run_exit run_exit_after run_exit_blk run_loop run_any runS_nil runS_op0 runS_opg runW_nil runW_op0 runW_opg exec_q exec_w exec_c exec_n execW_q execW_w execW_c restW_app hideH_app merge_app wblk rest_app restS_app execS_q execS_c aval dOk upd_app ev_t ev_c setO_some setO_none put_mk pinsOf isIo hasIo sbin endR fin resL one outL out1 clo1 cloL coe coeL shut shut.shutL wantA weff cellsOf fillA deref natOf ρ0_app h0_app plain plain.plainL keep_app keepH_app andThen_normal andThen_ret andThen_exit pop_nil pop_after pop_after_ret pop_after_exit pop_blk pop_blk_ret pop_blk_exit nilA srcOf srcCells keepR_app keepHR_app renA rb
def sB (s : ByteArray) : List Int := s.data.toList.map fun b => (b.toNat : Int)
theorem sB_len (s : ByteArray) : (sB s).length = s.size := by rw [sB, List.length_map, Array.length_toList]; rfl
theorem strCells_rows (s : ByteArray) : strCells s = rows B (sB s) := by
  unfold strCells sB
  induction s.data.toList with
  | nil => rfl
  | cons x xs ih => rw [List.map_cons, List.map_cons, rows_cons, ih]; rfl
def hiL (n : Nat) : List Int := [(n : Int) / 256, (n : Int) % 256]
def putT (b : List Int) (s : ByteArray) : List Int := if s.size ≤ 60000 then b ++ (hiL s.size ++ sB s) else b
theorem rowsB_hi (n : Nat) : [AV.sc (.int .u8 ((n : Int) / 256)), AV.sc (.int .u8 ((n : Int) % 256))] = rows B (hiL n) := rfl
theorem wrap_hi {n : Nat} (h : n ≤ 60000) : IntKind.u8.wrap ((n : Int).fdiv (2 ^ min 8 IntKind.i64.bits)) = (n : Int) / 256 := by
  have e : (n : Int).fdiv (2 ^ min 8 IntKind.i64.bits) = (n : Int) / 256 := by
    rw [Int.fdiv_eq_ediv_of_nonneg _ (by decide)]; rfl
  rw [e]
  simp [IntKind.wrap, IntKind.bits, IntKind.signed]
  omega
theorem wrap_lo (n : Nat) : IntKind.u8.wrap (n : Int) = (n : Int) % 256 := rfl
/- 57: loop.example/g00464/impl.putText -/
def A57 : AC := (.seq (.ops [⟨(some 4), none, .q (.mov (.c .em))⟩])
  (.seq (.seq (.ops [⟨(some 5), none, .q (.mov (.t 1))⟩, ⟨(some 6), none, .q (.slen (.t 5))⟩, ⟨(some 7), none, .q (.bin .gtr (.t 6) (.c (.sc (.int .i64 60000))))⟩])
  (.cond (.t 7) (.seq (.ops [⟨(some 8), none, .q (.mov (.t 0))⟩, ⟨(some 4), none, .q (.mov (.t 8))⟩])
  .ret)
  .skip))
  (.seq (.ops [⟨(some 9), none, .q (.mov (.t 0))⟩, ⟨(some 10), none, .q (.mov (.t 1))⟩, ⟨(some 11), none, .q (.slen (.t 10))⟩, ⟨(some 12), none, .q (.bin .shr (.t 11) (.c (.sc (.int .u64 8))))⟩, ⟨(some 13), none, .q (.cvi .u8 (.t 12))⟩, ⟨(some 14), none, .q (.mov (.t 1))⟩, ⟨(some 15), none, .q (.slen (.t 14))⟩, ⟨(some 16), none, .q (.cvi .u8 (.t 15))⟩, ⟨(some 17), none, .w (.bsl 1 2 [(.sc (.int .u8 0)), (.sc (.int .u8 0))] [(0, 1, (.t 13)), (1, 1, (.t 16))])⟩, ⟨(some 18), none, .w (.app 1 1 false (.t 9) (.t 17))⟩, ⟨(some 19), none, .q (.mov (.t 1))⟩, ⟨(some 20), none, .w (.app 1 1 true (.t 18) (.t 19))⟩, ⟨(some 4), none, .q (.mov (.t 20))⟩])
  .ret)))
theorem K57 : Tryd.f57.body.bind (comp Tryd.prog) = some A57 ∧ Tryd.f57.ntmps = 21 ∧ Tryd.f57.results.toList.mapM (resB Tryd.prog) = some [.mov (.t 4)] := ⟨by kernel_rfl, by kernel_rfl, by kernel_rfl⟩
theorem R57 (b : List Int) (s : ByteArray) (hb : b.length + s.size ≤ 140737488350000) : Ret Tryd.prog 57 [.own (rows B b) b.length 1, .sc (.string s)] (.own (rows B (putT b s)) (putT b s).length 1) [.un, .un] := by
  have hl := sB_len s
  refine Ret.run Tryd.func57 K57 (by simp) rfl rfl 500 ?_
  simp [A57, iniρ]
  by_cases h : s.size ≤ 60000
  case neg =>
    have h2 : (60000 : Int) < s.size := by omega
    have e : putT b s = b := if_neg h
    simp [h2, e, ex1, B.count, idfreeL_rows B.fr]
  have h2 : ¬ (60000 : Int) < s.size := by omega
  have e : putT b s = b ++ (hiL s.size ++ sB s) := if_pos h
  have hw := wrap_hi h
  have hw2 := wrap_lo s.size
  have c1 : b.length + 2 ≤ 140737488355328 := by omega
  have c2 : b.length + 2 + s.size ≤ 140737488355328 := by omega
  have e2 : (putT b s).length = b.length + 2 + s.size := by rw [e]; simp [hiL, hl]; omega
  have e3 : rows B (putT b s) = rows B b ++ (AV.sc (.int .u8 ((s.size : Int) / 256)) :: AV.sc (.int .u8 ((s.size : Int) % 256)) :: rows B (sB s)) := by rw [e, rows_append, rows_append, ← rowsB_hi]; rfl
  have hid := idfreeL_rows B.fr (putT b s)
  have c3 : b.length + (s.size + 1 + 1) = b.length + 2 + s.size := by omega
  rw [e3] at hid
  rw [e2, e3]
  simp [h2, hw, hw2, over, ex1, B.count, c1, c2, c3, strCells_rows, hl, hid]
/-- the length that two bytes tell -/
def lenAt (b : List Int) (a : Nat) : Nat := (b[a]?.getD 0).toNat * 256 + (b[a + 1]?.getD 0).toNat
def getT (b : List Int) (a : Int) : Option (ByteArray × Int) :=
  if 0 ≤ a ∧ a ≤ b.length - 2 then
    if lenAt b a.toNat ≤ 60000 ∧ (lenAt b a.toNat : Int) ≤ b.length - a - 2 then some (strOfNums ((b.drop (a.toNat + 2)).take (lenAt b a.toNat)), a + 2 + lenAt b a.toNat) else none
  else none
def gotA : Option (ByteArray × Int) → AV
  | some (s, n) => .tup [.sc (.string s), .sc (.int .i64 n), .sc (.bool true)]
  | none => .tup [.sc (.string ⟨#[]⟩), .sc (.int .i64 0), .sc (.bool false)]
theorem or_bytes {x y : Int} (hx : 0 ≤ x ∧ x ≤ 255) (hy : 0 ≤ y ∧ y ≤ 255) : IntKind.i64.wrap (((x * 256 % 2 ^ IntKind.i64.bits).toNat ||| (y % 2 ^ IntKind.i64.bits).toNat : Nat) : Int) = x * 256 + y := by
  have e1 : (x * 256 % 2 ^ IntKind.i64.bits).toNat = x.toNat <<< 8 := by
    rw [Nat.shiftLeft_eq]
    simp only [IntKind.bits]
    omega
  have e2 : (y % 2 ^ IntKind.i64.bits).toNat = y.toNat := by simp only [IntKind.bits]; omega
  rw [e1, e2, ← Nat.shiftLeft_add_eq_or_of_lt (by omega : y.toNat < 2 ^ 8), Nat.shiftLeft_eq]
  rw [wrap_i64 (by omega) (by omega)]
  omega
/- 52: loop.example/g00464/impl.GetText -/
def A52 : AC := (.seq (.ops [⟨(some 4), none, .q (.mov (.c (.sc (.string ⟨#[]⟩))))⟩, ⟨(some 5), none, .q (.mov (.c (.sc (.int .i64 0))))⟩, ⟨(some 6), none, .q (.mov (.c (.sc (.bool false))))⟩])
  (.seq (.seq (.ops [⟨(some 9), none, .q (.mov (.t 1))⟩, ⟨(some 10), none, .q (.bin .lss (.t 9) (.c (.sc (.int .i64 0))))⟩, ⟨(some 11), none, .q (.mov (.t 10))⟩, ⟨(some 12), (some (11, false)), .q (.mov (.t 1))⟩, ⟨(some 13), (some (11, false)), .q (.mov (.t 0))⟩, ⟨(some 14), (some (11, false)), .q (.llen (.t 13))⟩, ⟨(some 15), (some (11, false)), .q (.bin .sub (.t 14) (.c (.sc (.int .i64 2))))⟩, ⟨(some 16), (some (11, false)), .q (.bin .gtr (.t 12) (.t 15))⟩, ⟨(some 17), none, .q (.pick (.t 11) (.c (.sc (.bool true))) (.t 16))⟩])
  (.cond (.t 17) (.seq (.ops [⟨(some 4), none, .q (.mov (.c (.sc (.string ⟨#[]⟩))))⟩, ⟨(some 5), none, .q (.mov (.c (.sc (.int .i64 0))))⟩, ⟨(some 6), none, .q (.mov (.c (.sc (.bool false))))⟩])
  .ret)
  .skip))
  (.seq (.any [(⟨(some 18), none, .q (.mov (.t 0))⟩, []), (⟨(some 19), none, .q (.mov (.t 1))⟩, []), (⟨(some 20), none, .q (.iadr 1 (.t 18) (.t 19))⟩, [0, 1]), (⟨(some 21), none, .q (.load false 1 (.t 20))⟩, [2]), (⟨(some 22), none, .q (.cvi .i64 (.t 21))⟩, [3]), (⟨(some 23), none, .q (.bin .shl (.t 22) (.c (.sc (.int .u64 8))))⟩, [4]), (⟨(some 24), none, .q (.mov (.t 0))⟩, []), (⟨(some 25), none, .q (.mov (.t 1))⟩, []), (⟨(some 26), none, .q (.bin .add (.t 25) (.c (.sc (.int .i64 1))))⟩, [7]), (⟨(some 27), none, .q (.iadr 1 (.t 24) (.t 26))⟩, [6, 8]), (⟨(some 28), none, .q (.load false 1 (.t 27))⟩, [9]), (⟨(some 29), none, .q (.cvi .i64 (.t 28))⟩, [10]), (⟨(some 30), none, .q (.bin .or (.t 23) (.t 29))⟩, [5, 11]), (⟨(some 7), none, .q (.mov (.t 30))⟩, [12, 0, 1, 2, 3, 4, 5, 6, 7, 8, 9, 10, 11, 12])])
  (.seq (.ops [⟨(some 31), none, .q (.mov (.t 1))⟩, ⟨(some 32), none, .q (.bin .add (.t 31) (.c (.sc (.int .i64 2))))⟩, ⟨(some 8), none, .q (.mov (.t 32))⟩])
  (.seq (.seq (.ops [⟨(some 33), none, .q (.mov (.t 7))⟩, ⟨(some 34), none, .q (.bin .gtr (.t 33) (.c (.sc (.int .i64 60000))))⟩, ⟨(some 35), none, .q (.mov (.t 34))⟩, ⟨(some 36), (some (35, false)), .q (.mov (.t 7))⟩, ⟨(some 37), (some (35, false)), .q (.mov (.t 0))⟩, ⟨(some 38), (some (35, false)), .q (.llen (.t 37))⟩, ⟨(some 39), (some (35, false)), .q (.mov (.t 8))⟩, ⟨(some 40), (some (35, false)), .q (.bin .sub (.t 38) (.t 39))⟩, ⟨(some 41), (some (35, false)), .q (.bin .gtr (.t 36) (.t 40))⟩, ⟨(some 42), none, .q (.pick (.t 35) (.c (.sc (.bool true))) (.t 41))⟩])
  (.cond (.t 42) (.seq (.ops [⟨(some 4), none, .q (.mov (.c (.sc (.string ⟨#[]⟩))))⟩, ⟨(some 5), none, .q (.mov (.c (.sc (.int .i64 0))))⟩, ⟨(some 6), none, .q (.mov (.c (.sc (.bool false))))⟩])
  .ret)
  .skip))
  (.seq (.ops [⟨(some 43), none, .q (.mov (.t 0))⟩, ⟨(some 44), none, .q (.mov (.t 8))⟩, ⟨(some 45), none, .q (.mov (.t 8))⟩, ⟨(some 46), none, .q (.mov (.t 7))⟩, ⟨(some 47), none, .q (.bin .add (.t 45) (.t 46))⟩, ⟨(some 48), none, .q (.subl 1 (.t 43) (some (.t 44)) (some (.t 47)))⟩, ⟨(some 49), none, .q (.bstr (.t 48))⟩, ⟨(some 50), none, .q (.mov (.t 8))⟩, ⟨(some 51), none, .q (.mov (.t 7))⟩, ⟨(some 52), none, .q (.bin .add (.t 50) (.t 51))⟩, ⟨(some 4), none, .q (.mov (.t 49))⟩, ⟨(some 5), none, .q (.mov (.t 52))⟩, ⟨(some 6), none, .q (.mov (.c (.sc (.bool true))))⟩])
  .ret))))))
theorem K52 : Tryd.f52.body.bind (comp Tryd.prog) = some A52 ∧ Tryd.f52.ntmps = 53 ∧ Tryd.f52.results.toList.mapM (resB Tryd.prog) = some [.mov (.t 4), .mov (.t 5), .mov (.t 6)] := ⟨by kernel_rfl, by kernel_rfl, by kernel_rfl⟩
set_option maxHeartbeats 1000000 in
theorem R52 (b : List Int) (a : Int) (ha : Ty.int.ok a) (hb : ∀ x ∈ b, 0 ≤ x ∧ x ≤ 255) (hl : b.length ≤ 140737488355328) : Ret Tryd.prog 52 [.ro (rows B b) b.length, .sc (.int .i64 a)] (gotA (getT b a)) [.un, .un] := by
  have hw0 : IntKind.i64.wrap ((b.length : Int) - 2) = b.length - 2 := wrap_i64 (by omega) (by omega)
  by_cases h0 : a < 0
  · have e : getT b a = none := by unfold getT; rw [if_neg (by omega)]
    refine Ret.run Tryd.func52 K52 (by simp) rfl rfl 500 ?_
    simp [A52, iniρ, h0, e, gotA]
  by_cases h1 : (b.length : Int) - 2 < a
  · have e : getT b a = none := by unfold getT; rw [if_neg (by omega)]
    have h0' : 0 ≤ a := by omega
    refine Ret.run Tryd.func52 K52 (by simp) rfl rfl 500 ?_
    simp [A52, iniρ, h0, h0', h1, hw0, e, gotA]
  have h0' : 0 ≤ a := by omega
  obtain ⟨k, rfl⟩ : ∃ k : Nat, a = k := ⟨a.toNat, by omega⟩
  have k1 : k + 1 < b.length := by omega
  have d0 : List.drop k (rows B b) = .sc (.int .u8 b[k]) :: rows B (b.drop (k + 1)) := by
    have h := rows_drop B.len (b.take k) (b.drop k)
    rw [List.take_append_drop, List.length_take, Nat.mul_one, Nat.min_eq_left (by omega), List.drop_eq_getElem_cons (by omega : k < b.length), rows_cons] at h
    exact h
  have d1 : List.drop (k + 1) (rows B b) = .sc (.int .u8 b[k + 1]) :: rows B (b.drop (k + 2)) := by
    have h := rows_drop B.len (b.take (k + 1)) (b.drop (k + 1))
    rw [List.take_append_drop, List.length_take, Nat.mul_one, Nat.min_eq_left (by omega), List.drop_eq_getElem_cons (by omega : k + 1 < b.length), rows_cons] at h
    exact h
  have r0 := hb b[k] (List.getElem_mem _)
  have r1 := hb b[k + 1] (List.getElem_mem _)
  obtain ⟨x, hx⟩ : ∃ x, x = b[k] := ⟨_, rfl⟩
  obtain ⟨y, hy⟩ : ∃ y, y = b[k + 1] := ⟨_, rfl⟩
  rw [← hx] at d0 r0
  rw [← hy] at d1 r1
  have hn : lenAt b k = x.toNat * 256 + y.toNat := by
    unfold lenAt
    rw [List.getElem?_eq_getElem (by omega : k < b.length), List.getElem?_eq_getElem (by omega : k + 1 < b.length), ← hx, ← hy]; rfl
  obtain ⟨m, hm⟩ : ∃ m, m = lenAt b k := ⟨_, rfl⟩
  have hor := or_bytes r0 r1
  have hxy : x * 256 + y = (m : Int) := by rw [hm, hn]; omega
  rw [hxy] at hor
  have wx : IntKind.i64.wrap x = x := wrap_i64 (by omega) (by omega)
  have wy : IntKind.i64.wrap y = y := wrap_i64 (by omega) (by omega)
  have ws : IntKind.i64.wrap (x * 2 ^ min 8 IntKind.i64.bits) = x * 256 := by
    have : (2 : Int) ^ min 8 IntKind.i64.bits = 256 := rfl
    rw [this]; exact wrap_i64 (by omega) (by omega)
  have wk : IntKind.i64.wrap ((k : Int) + 1) = k + 1 := wrap_i64 (by omega) (by omega)
  have wk2 : IntKind.i64.wrap ((k : Int) + 2) = k + 2 := wrap_i64 (by omega) (by omega)
  have lt0 : k < b.length := by omega
  have nk : (0 : Int) ≤ (k : Int) + 1 := by omega
  have nk0 : ¬ ((k : Int) < 0) := by omega
  have ilt0 : (k : Int) < b.length := by omega
  have ilt1 : (k : Int) + 1 < b.length := by omega
  have wl : IntKind.i64.wrap ((b.length : Int) - (k + 2)) = b.length - (k + 2) := wrap_i64 (by omega) (by omega)
  have wm : IntKind.i64.wrap ((k : Int) + 2 + m) = k + 2 + m := wrap_i64 (by omega) (by omega)
  have key : getT b k = if m ≤ 60000 ∧ (m : Int) ≤ b.length - (k + 2) then some (strOfNums ((b.drop (k + 2)).take m), (k : Int) + 2 + m) else none := by
    unfold getT
    rw [if_pos ⟨by omega, by omega⟩, show (k : Int).toNat = k from rfl, ← hm]
    by_cases c : m ≤ 60000 ∧ (m : Int) ≤ b.length - (k + 2)
    · rw [if_pos c, if_pos ⟨c.1, by omega⟩]
    · rw [if_neg c, if_neg (fun h => c ⟨h.1, by omega⟩)]
  rw [key]
  by_cases g1 : m ≤ 60000
  case neg =>
    have g1' : (60000 : Int) < m := by omega
    rw [if_neg (fun h => g1 h.1)]
    refine Ret.run Tryd.func52 K52 (by simp) rfl rfl 500 ?_
    simp [A52, iniρ, h1, hw0, nk0]
    refine T.text 400 mixed (by kernel_rfl) (by kernel_rfl) ?_
    simp [nk, nk0, lt0, ilt0, ilt1, k1, d0, d1, wk, wx, wy, ws, hor, wk2, g1', gotA]
  have g1' : ¬ (60000 : Int) < m := by omega
  by_cases g2 : (m : Int) ≤ b.length - (k + 2)
  case neg =>
    have g2' : (b.length : Int) - (k + 2) < m := by omega
    rw [if_neg (fun h => g2 h.2)]
    refine Ret.run Tryd.func52 K52 (by simp) rfl rfl 500 ?_
    simp [A52, iniρ, h1, hw0, nk0]
    refine T.text 400 mixed (by kernel_rfl) (by kernel_rfl) ?_
    simp [nk, nk0, lt0, ilt0, ilt1, k1, d0, d1, wk, wx, wy, ws, hor, wk2, wl, g1', g2', gotA]
  have g2' : ¬ (b.length : Int) - (k + 2) < m := by omega
  rw [if_pos ⟨g1, g2⟩]
  have c1 : (k : Int) + 2 + m ≤ b.length := by omega
  have c2 : (k : Int) + 2 ≤ k + 2 + m := by omega
  have c0 : ¬ ((k : Int) + 2 < 0) := by omega
  have nk2 : (0 : Int) ≤ (k : Int) + 2 := by omega
  have nk3 : (0 : Int) ≤ (k : Int) + 2 + m := by omega
  have t2 : ((k : Int) + 2).toNat = k + 2 := by omega
  have t3 : ((k : Int) + 2 + m).toNat = k + 2 + m := by omega
  have c3 : k + 2 + m ≤ b.length := by omega
  have c4 : k + 2 + m - (k + 2) = m := by omega
  have dl : ((b.drop (k + 2)).take m).length = m := by rw [List.length_take, List.length_drop]; omega
  have ds : List.take m (List.drop (k + 2) (rows B b)) = rows B ((b.drop (k + 2)).take m) := by
    have h1 := rows_drop B.len (b.take (k + 2)) (b.drop (k + 2))
    rw [List.take_append_drop, List.length_take, Nat.mul_one, Nat.min_eq_left (by omega)] at h1
    have h2 := rows_takeN B.len (b.drop (k + 2)) m (by rw [List.length_drop]; omega)
    rw [Nat.mul_one] at h2
    rw [h1, h2]
  refine Ret.run Tryd.func52 K52 (by simp) rfl rfl 500 ?_
  simp [A52, iniρ, h1, hw0, nk0]
  refine T.text 400 mixed (by kernel_rfl) (by kernel_rfl) ?_
  simp [nk, nk0, lt0, ilt0, ilt1, k1, d0, d1, wk, wx, wy, ws, hor, wk2, wl, wm, g1', g2', gotA, c0, c1, c2, nk2, nk3, t2, t3, c3, c4, ds, dl, bytesA, B.count, B.num]
/- 45: loop.example/g00464/spec.GetText -/
def A45 : AC := (.seq (.ops [⟨(some 4), none, .q (.mov (.c (.sc (.string ⟨#[]⟩))))⟩, ⟨(some 5), none, .q (.mov (.c (.sc (.int .i64 0))))⟩, ⟨(some 6), none, .q (.mov (.c (.sc (.bool false))))⟩])
  (.seq (.seq (.ops [⟨(some 8), none, .q (.mov (.t 1))⟩, ⟨(some 9), none, .q (.mov (.t 0))⟩, ⟨(some 10), none, .q (.llen (.t 9))⟩, ⟨(some 11), none, .q (.bin .sub (.t 10) (.c (.sc (.int .i64 2))))⟩, ⟨(some 12), none, .c (.c (.clo 47 [])) [(.t 8), (.c (.sc (.int .i64 0))), (.t 11)]⟩, ⟨(some 13), none, .q (.not (.t 12))⟩])
  (.cond (.t 13) (.seq (.ops [⟨(some 4), none, .q (.mov (.c (.sc (.string ⟨#[]⟩))))⟩, ⟨(some 5), none, .q (.mov (.c (.sc (.int .i64 0))))⟩, ⟨(some 6), none, .q (.mov (.c (.sc (.bool false))))⟩])
  .ret)
  .skip))
  (.seq (.any [(⟨(some 14), none, .q (.mov (.t 0))⟩, []), (⟨(some 15), none, .q (.mov (.t 1))⟩, []), (⟨(some 16), none, .q (.iadr 1 (.t 14) (.t 15))⟩, [0, 1]), (⟨(some 17), none, .q (.load false 1 (.t 16))⟩, [2]), (⟨(some 18), none, .q (.cvi .i64 (.t 17))⟩, [3]), (⟨(some 19), none, .q (.bin .shl (.t 18) (.c (.sc (.int .u64 8))))⟩, [4]), (⟨(some 20), none, .q (.mov (.t 0))⟩, []), (⟨(some 21), none, .q (.mov (.t 1))⟩, []), (⟨(some 22), none, .q (.bin .add (.t 21) (.c (.sc (.int .i64 1))))⟩, [7]), (⟨(some 23), none, .q (.iadr 1 (.t 20) (.t 22))⟩, [6, 8]), (⟨(some 24), none, .q (.load false 1 (.t 23))⟩, [9]), (⟨(some 25), none, .q (.cvi .i64 (.t 24))⟩, [10]), (⟨(some 26), none, .q (.bin .or (.t 19) (.t 25))⟩, [5, 11]), (⟨(some 7), none, .q (.mov (.t 26))⟩, [12, 0, 1, 2, 3, 4, 5, 6, 7, 8, 9, 10, 11, 12])])
  (.seq (.seq (.ops [⟨(some 27), none, .q (.mov (.t 7))⟩, ⟨(some 28), none, .q (.mov (.t 0))⟩, ⟨(some 29), none, .q (.llen (.t 28))⟩, ⟨(some 30), none, .q (.mov (.t 1))⟩, ⟨(some 31), none, .q (.bin .sub (.t 29) (.t 30))⟩, ⟨(some 32), none, .q (.bin .sub (.t 31) (.c (.sc (.int .i64 2))))⟩, ⟨(some 33), none, .q (.bin .gtr (.t 27) (.t 32))⟩, ⟨(some 34), none, .q (.mov (.t 33))⟩, ⟨(some 35), (some (34, false)), .q (.mov (.t 7))⟩, ⟨(some 36), (some (34, false)), .q (.bin .gtr (.t 35) (.c (.sc (.int .i64 60000))))⟩, ⟨(some 37), none, .q (.pick (.t 34) (.c (.sc (.bool true))) (.t 36))⟩])
  (.cond (.t 37) (.seq (.ops [⟨(some 4), none, .q (.mov (.c (.sc (.string ⟨#[]⟩))))⟩, ⟨(some 5), none, .q (.mov (.c (.sc (.int .i64 0))))⟩, ⟨(some 6), none, .q (.mov (.c (.sc (.bool false))))⟩])
  .ret)
  .skip))
  (.seq (.ops [⟨(some 38), none, .q (.mov (.t 0))⟩, ⟨(some 39), none, .q (.mov (.t 1))⟩, ⟨(some 40), none, .q (.bin .add (.t 39) (.c (.sc (.int .i64 2))))⟩, ⟨(some 41), none, .q (.mov (.t 1))⟩, ⟨(some 42), none, .q (.bin .add (.t 41) (.c (.sc (.int .i64 2))))⟩, ⟨(some 43), none, .q (.mov (.t 7))⟩, ⟨(some 44), none, .q (.bin .add (.t 42) (.t 43))⟩, ⟨(some 45), none, .q (.subl 1 (.t 38) (some (.t 40)) (some (.t 44)))⟩, ⟨(some 46), none, .q (.bstr (.t 45))⟩, ⟨(some 47), none, .q (.mov (.t 1))⟩, ⟨(some 48), none, .q (.bin .add (.t 47) (.c (.sc (.int .i64 2))))⟩, ⟨(some 49), none, .q (.mov (.t 7))⟩, ⟨(some 50), none, .q (.bin .add (.t 48) (.t 49))⟩, ⟨(some 4), none, .q (.mov (.t 46))⟩, ⟨(some 5), none, .q (.mov (.t 50))⟩, ⟨(some 6), none, .q (.mov (.c (.sc (.bool true))))⟩])
  .ret)))))
theorem K45 : Tryd.f45.body.bind (comp Tryd.prog) = some A45 ∧ Tryd.f45.ntmps = 51 ∧ Tryd.f45.results.toList.mapM (resB Tryd.prog) = some [.mov (.t 4), .mov (.t 5), .mov (.t 6)] := ⟨by kernel_rfl, by kernel_rfl, by kernel_rfl⟩
set_option maxHeartbeats 1000000 in
theorem R45 (b : List Int) (a : Int) (ha : Ty.int.ok a) (hb : ∀ x ∈ b, 0 ≤ x ∧ x ≤ 255) (hl : b.length ≤ 140737488355328) : Ret Tryd.prog 45 [.ro (rows B b) b.length, .sc (.int .i64 a)] (gotA (getT b a)) [.un, .un] := by
  have hw0 : IntKind.i64.wrap ((b.length : Int) - 2) = b.length - 2 := wrap_i64 (by omega) (by omega)
  by_cases h0 : a < 0
  · have e : getT b a = none := by unfold getT; rw [if_neg (by omega)]
    refine Ret.run Tryd.func45 K45 (by simp) rfl rfl 500 ?_
    simp [A45, iniρ]
    refine callK.ro 0 rfl (by kernel_rfl) (by simp [roc_sc, hw0]) (R47 a 0 (b.length - 2)) rfl rfl rfl ?_
    simp [inR, h0, e, gotA]
  by_cases h1 : (b.length : Int) - 2 < a
  · have e : getT b a = none := by unfold getT; rw [if_neg (by omega)]
    have h0' : 0 ≤ a := by omega
    refine Ret.run Tryd.func45 K45 (by simp) rfl rfl 500 ?_
    simp [A45, iniρ]
    refine callK.ro 0 rfl (by kernel_rfl) (by simp [roc_sc, hw0]) (R47 a 0 (b.length - 2)) rfl rfl rfl ?_
    simp [inR, h0, h1, e, gotA]
  have h0' : 0 ≤ a := by omega
  obtain ⟨k, rfl⟩ : ∃ k : Nat, a = k := ⟨a.toNat, by omega⟩
  have k1 : k + 1 < b.length := by omega
  have d0 : List.drop k (rows B b) = .sc (.int .u8 b[k]) :: rows B (b.drop (k + 1)) := by
    have h := rows_drop B.len (b.take k) (b.drop k)
    rw [List.take_append_drop, List.length_take, Nat.mul_one, Nat.min_eq_left (by omega), List.drop_eq_getElem_cons (by omega : k < b.length), rows_cons] at h
    exact h
  have d1 : List.drop (k + 1) (rows B b) = .sc (.int .u8 b[k + 1]) :: rows B (b.drop (k + 2)) := by
    have h := rows_drop B.len (b.take (k + 1)) (b.drop (k + 1))
    rw [List.take_append_drop, List.length_take, Nat.mul_one, Nat.min_eq_left (by omega), List.drop_eq_getElem_cons (by omega : k + 1 < b.length), rows_cons] at h
    exact h
  have r0 := hb b[k] (List.getElem_mem _)
  have r1 := hb b[k + 1] (List.getElem_mem _)
  obtain ⟨x, hx⟩ : ∃ x, x = b[k] := ⟨_, rfl⟩
  obtain ⟨y, hy⟩ : ∃ y, y = b[k + 1] := ⟨_, rfl⟩
  rw [← hx] at d0 r0
  rw [← hy] at d1 r1
  have hn : lenAt b k = x.toNat * 256 + y.toNat := by
    unfold lenAt
    rw [List.getElem?_eq_getElem (by omega : k < b.length), List.getElem?_eq_getElem (by omega : k + 1 < b.length), ← hx, ← hy]; rfl
  obtain ⟨m, hm⟩ : ∃ m, m = lenAt b k := ⟨_, rfl⟩
  have hor := or_bytes r0 r1
  have hxy : x * 256 + y = (m : Int) := by rw [hm, hn]; omega
  rw [hxy] at hor
  have wx : IntKind.i64.wrap x = x := wrap_i64 (by omega) (by omega)
  have wy : IntKind.i64.wrap y = y := wrap_i64 (by omega) (by omega)
  have ws : IntKind.i64.wrap (x * 2 ^ min 8 IntKind.i64.bits) = x * 256 := by
    have : (2 : Int) ^ min 8 IntKind.i64.bits = 256 := rfl
    rw [this]; exact wrap_i64 (by omega) (by omega)
  have wk : IntKind.i64.wrap ((k : Int) + 1) = k + 1 := wrap_i64 (by omega) (by omega)
  have wk2 : IntKind.i64.wrap ((k : Int) + 2) = k + 2 := wrap_i64 (by omega) (by omega)
  have lt0 : k < b.length := by omega
  have nk : (0 : Int) ≤ (k : Int) + 1 := by omega
  have nk0 : ¬ ((k : Int) < 0) := by omega
  have ilt0 : (k : Int) < b.length := by omega
  have ilt1 : (k : Int) + 1 < b.length := by omega
  have wl : IntKind.i64.wrap ((b.length : Int) - k) = b.length - k := wrap_i64 (by omega) (by omega)
  have wl2 : IntKind.i64.wrap ((b.length : Int) - k - 2) = b.length - k - 2 := wrap_i64 (by omega) (by omega)
  have wm : IntKind.i64.wrap ((k : Int) + 2 + m) = k + 2 + m := wrap_i64 (by omega) (by omega)
  have key : getT b k = if m ≤ 60000 ∧ (m : Int) ≤ b.length - (k + 2) then some (strOfNums ((b.drop (k + 2)).take m), (k : Int) + 2 + m) else none := by
    unfold getT
    rw [if_pos ⟨by omega, by omega⟩, show (k : Int).toNat = k from rfl, ← hm]
    by_cases c : m ≤ 60000 ∧ (m : Int) ≤ b.length - (k + 2)
    · rw [if_pos c, if_pos ⟨c.1, by omega⟩]
    · rw [if_neg c, if_neg (fun h => c ⟨h.1, by omega⟩)]
  rw [key]
  by_cases g1 : m ≤ 60000
  case neg =>
    have g1' : (60000 : Int) < m := by omega
    rw [if_neg (fun h => g1 h.1)]
    by_cases g2' : (b.length : Int) - k - 2 < m
    · refine Ret.run Tryd.func45 K45 (by simp) rfl rfl 500 ?_
      simp [A45, iniρ]
      refine callK.ro 0 rfl (by kernel_rfl) (by simp [roc_sc, hw0]) (R47 k 0 (b.length - 2)) rfl rfl rfl ?_
      simp [inR, nk0, h1]
      refine T.text 400 mixed (by kernel_rfl) (by kernel_rfl) ?_
      simp [nk, nk0, lt0, ilt0, ilt1, k1, d0, d1, wk, wx, wy, ws, hor, wk2, wl, wl2, g1', g2', gotA]
    · refine Ret.run Tryd.func45 K45 (by simp) rfl rfl 500 ?_
      simp [A45, iniρ]
      refine callK.ro 0 rfl (by kernel_rfl) (by simp [roc_sc, hw0]) (R47 k 0 (b.length - 2)) rfl rfl rfl ?_
      simp [inR, nk0, h1]
      refine T.text 400 mixed (by kernel_rfl) (by kernel_rfl) ?_
      simp [nk, nk0, lt0, ilt0, ilt1, k1, d0, d1, wk, wx, wy, ws, hor, wk2, wl, wl2, g1', g2', gotA]
  have g1' : ¬ (60000 : Int) < m := by omega
  by_cases g2 : (m : Int) ≤ b.length - (k + 2)
  case neg =>
    have g2' : (b.length : Int) - k - 2 < m := by omega
    rw [if_neg (fun h => g2 h.2)]
    refine Ret.run Tryd.func45 K45 (by simp) rfl rfl 500 ?_
    simp [A45, iniρ]
    refine callK.ro 0 rfl (by kernel_rfl) (by simp [roc_sc, hw0]) (R47 k 0 (b.length - 2)) rfl rfl rfl ?_
    simp [inR, nk0, h1]
    refine T.text 400 mixed (by kernel_rfl) (by kernel_rfl) ?_
    simp [nk, nk0, lt0, ilt0, ilt1, k1, d0, d1, wk, wx, wy, ws, hor, wk2, wl, wl2, g1', g2', gotA]
  have g2' : ¬ (b.length : Int) - k - 2 < m := by omega
  rw [if_pos ⟨g1, g2⟩]
  have c1 : (k : Int) + 2 + m ≤ b.length := by omega
  have c2 : (k : Int) + 2 ≤ k + 2 + m := by omega
  have c0 : ¬ ((k : Int) + 2 < 0) := by omega
  have nk2 : (0 : Int) ≤ (k : Int) + 2 := by omega
  have nk3 : (0 : Int) ≤ (k : Int) + 2 + m := by omega
  have t2 : ((k : Int) + 2).toNat = k + 2 := by omega
  have t3 : ((k : Int) + 2 + m).toNat = k + 2 + m := by omega
  have c3 : k + 2 + m ≤ b.length := by omega
  have c4 : k + 2 + m - (k + 2) = m := by omega
  have dl : ((b.drop (k + 2)).take m).length = m := by rw [List.length_take, List.length_drop]; omega
  have ds : List.take m (List.drop (k + 2) (rows B b)) = rows B ((b.drop (k + 2)).take m) := by
    have h1 := rows_drop B.len (b.take (k + 2)) (b.drop (k + 2))
    rw [List.take_append_drop, List.length_take, Nat.mul_one, Nat.min_eq_left (by omega)] at h1
    have h2 := rows_takeN B.len (b.drop (k + 2)) m (by rw [List.length_drop]; omega)
    rw [Nat.mul_one] at h2
    rw [h1, h2]
  refine Ret.run Tryd.func45 K45 (by simp) rfl rfl 500 ?_
  simp [A45, iniρ]
  refine callK.ro 0 rfl (by kernel_rfl) (by simp [roc_sc, hw0]) (R47 k 0 (b.length - 2)) rfl rfl rfl ?_
  simp [inR, nk0, h1]
  refine T.text 400 mixed (by kernel_rfl) (by kernel_rfl) ?_
  simp [nk, nk0, lt0, ilt0, ilt1, k1, d0, d1, wk, wx, wy, ws, hor, wk2, wl, wl2, wm, g1', g2', gotA, c0, c1, c2, nk2, nk3, t2, t3, c3, c4, ds, dl, bytesA, B.count, B.num]
end Go.Proofs.YtaknfalbmblagaaDoor.Am
