/- The functions of the program, each by its contract: Cut; no condition. -/
import Derived.Test.YtaknfalbmblagaaDoorProg
import Derived.Test.YtaknfalbmblagaaDoorAmZ
import Derived.Test.YtaknfalbmblagaaDoorAmP
import Derived.Test.YtaknfalbmblagaaDoorAmL
import Derived.Test.YtaknfalbmblagaaDoorPaths
import Derived.KernelRfl
namespace Go.Proofs.YtaknfalbmblagaaDoor.Am
open Go Go.Proofs
set_option linter.unusedSimpArgs false
set_option linter.unusedVariables false
attribute [local congr] T_congr callK_congr callWK_congr
attribute [local simp] run_nil run_op0 run_opg run_seq run_cond run_block run_ret run_skip run_skip_after run_skip_blk run_exit run_exit_after run_exit_blk run_loop run_any runS_nil runS_op0 runS_opg runW_nil runW_op0 runW_opg exec_q exec_w exec_c exec_n execW_q execW_w execW_c restW_app hideH_app merge_app wblk rest_app restS_app execS_q execS_c aval dOk upd_app ev_t ev_c setO_some setO_none put_mk pinsOf isIo hasIo sbin endR fin resL one outL out1 clo1 cloL coe coeL shut shut.shutL wantA weff cellsOf fillA deref natOf ρ0_app h0_app plain plain.plainL keep_app keepH_app andThen_normal andThen_ret andThen_exit pop_nil pop_after pop_after_ret pop_after_exit pop_blk pop_blk_ret pop_blk_exit nilA srcOf srcCells keepR_app keepHR_app renA rb
theorem extract_toList (s : ByteArray) (i j : Nat) : (s.extract i j).data.toList = (s.data.toList.take j).drop i := by
  rw [ByteArray.data_extract, Array.toList_extract, List.extract_eq_take_drop, List.drop_take]
theorem ixB_cases (c : UInt8) : ∀ l : List UInt8, (Lib.indexByte l c = -1 ∧ c ∉ l) ∨ ∃ p q, l = p ++ c :: q ∧ c ∉ p ∧ Lib.indexByte l c = (p.length : Int)
  | [] => .inl ⟨rfl, by simp⟩
  | x :: l => by
    by_cases h : x = c
    · subst h
      exact .inr ⟨[], l, rfl, by simp, by simp [Lib.indexByte]⟩
    · have h2 : (x == c) = false := by simpa using h
      rcases ixB_cases c l with ⟨e, hn⟩ | ⟨p, q, e, hn, e2⟩
      · left
        refine ⟨by simp [Lib.indexByte, h2, e], fun hm => ?_⟩
        rcases List.mem_cons.1 hm with e2 | e2
        · exact h e2.symm
        · exact hn e2
      · right
        refine ⟨x :: p, q, by rw [e]; rfl, fun hm => ?_, ?_⟩
        · rcases List.mem_cons.1 hm with e3 | e3
          · exact h e3.symm
          · exact hn e3
        · have h3 : (Lib.indexByte l c == -1) = false := by rw [e2]; simp
          rw [Lib.indexByte, h2, h3, e2]
          simp
theorem u8_eq {x c : UInt8} : ((x.toNat : Int) = (c.toNat : Int)) ↔ x = c := ⟨fun h => UInt8.toNat_inj.1 (by omega), fun h => by rw [h]⟩
theorem splitP_miss (s : ByteArray) (c : UInt8) (f : Nat) : ∀ (l : List UInt8) (i : Nat), c ∉ l → splitP s (c.toNat : Int) f i l = [s.extract f (i + l.length)]
  | [], i, _ => rfl
  | x :: l, i, h => by
    have hx : ¬ ((x.toNat : Int) = (c.toNat : Int)) := fun e => h (by rw [u8_eq.1 e]; exact List.mem_cons_self ..)
    rw [splitP, if_neg hx, splitP_miss s c f l (i + 1) (fun hm => h (List.mem_cons_of_mem _ hm))]
    congr 2
    simp only [List.length_cons]; omega
theorem splitP_hit (s : ByteArray) (c : UInt8) (f : Nat) (q : List UInt8) : ∀ (p : List UInt8) (i : Nat), c ∉ p → splitP s (c.toNat : Int) f i (p ++ c :: q) = s.extract f (i + p.length) :: splitP s (c.toNat : Int) (i + p.length + 1) (i + p.length + 1) q
  | [], i, _ => by rw [List.nil_append, splitP, if_pos rfl]; rfl
  | x :: p, i, h => by
    have hx : ¬ ((x.toNat : Int) = (c.toNat : Int)) := fun e => h (by rw [u8_eq.1 e]; exact List.mem_cons_self ..)
    rw [List.cons_append, splitP, if_neg hx, splitP_hit s c f q p (i + 1) (fun hm => h (List.mem_cons_of_mem _ hm))]
    have e : i + 1 + p.length = i + (x :: p).length := by simp only [List.length_cons]; omega
    rw [e]
theorem splitP_cnt (s : ByteArray) (c : UInt8) : ∀ (l : List UInt8) (f i : Nat), (splitP s (c.toNat : Int) f i l).length = l.count c + 1
  | [], _, _ => rfl
  | x :: l, f, i => by
    rw [splitP]
    by_cases h : x = c
    · rw [if_pos (u8_eq.2 h), List.length_cons, splitP_cnt s c l, h, List.count_cons_self]
    · rw [if_neg (fun e => h (u8_eq.1 e)), splitP_cnt s c l, List.count_cons_of_ne (fun e => h (by simpa using e))]
theorem R84 (s : ByteArray) (c : UInt8) : Ret Tryd.prog 84 [.sc (.string s), .sc (.string ⟨#[c]⟩)] (.sc (.int .i64 (Lib.indexByte s.data.toList c))) [.un, .un] :=
  Ret.twoOf rfl rfl rfl fun w => Any.strings_Index_one Tryd.lays143 s c w
theorem R72 (s : ByteArray) (c : UInt8) : Ret Tryd.prog 72 [.sc (.string s), .sc (.string ⟨#[c]⟩)] (.sc (.int .i64 (Lib.indexByte s.data.toList c))) [.un, .un] :=
  Ret.twoOf rfl rfl rfl fun w => Any.stringslite_Index_one Tryd.lays219 s c w
theorem R83 (s : ByteArray) (c : UInt8) : Ret Tryd.prog 83 [.sc (.string s), .sc (.string ⟨#[c]⟩)] (.sc (.int .i64 (Lib.countByte s.data.toList c))) [.un, .un] :=
  Ret.twoOf rfl rfl rfl fun w => Any.strings_Count_one Tryd.lays138 s c w
def cutF (s : ByteArray) (c : UInt8) : ByteArray × ByteArray × Bool :=
  if 0 ≤ Lib.indexByte s.data.toList c then (s.extract 0 (Lib.indexByte s.data.toList c).toNat, s.extract ((Lib.indexByte s.data.toList c).toNat + 1) s.size, true) else (s, ⟨#[]⟩, false)
def cutRes (x : ByteArray × ByteArray × Bool) : AV := .tup [.sc (.string x.1), .sc (.string x.2.1), .sc (.bool x.2.2)]
/- 68: internal/stringslite.Cut -/
def A68 : AC := (.seq (.ops [⟨(some 4), none, .q (.mov (.c (.sc (.string ⟨#[]⟩))))⟩, ⟨(some 5), none, .q (.mov (.c (.sc (.string ⟨#[]⟩))))⟩, ⟨(some 6), none, .q (.mov (.c (.sc (.bool false))))⟩])
  (.seq (.seq (.ops [⟨(some 8), none, .q (.mov (.t 0))⟩, ⟨(some 9), none, .q (.mov (.t 1))⟩, ⟨(some 10), none, .c (.c (.clo 72 [])) [(.t 8), (.t 9)]⟩, ⟨(some 7), none, .q (.mov (.t 10))⟩])
  (.seq (.ops [⟨(some 11), none, .q (.mov (.t 7))⟩, ⟨(some 12), none, .q (.bin .geq (.t 11) (.c (.sc (.int .i64 0))))⟩])
  (.cond (.t 12) (.seq (.any [(⟨(some 13), none, .q (.mov (.t 0))⟩, []), (⟨(some 14), none, .q (.mov (.t 7))⟩, []), (⟨(some 15), none, .q (.subs (.t 13) none (some (.t 14)))⟩, [0, 1]), (⟨(some 16), none, .q (.mov (.t 0))⟩, []), (⟨(some 17), none, .q (.mov (.t 7))⟩, []), (⟨(some 18), none, .q (.mov (.t 1))⟩, []), (⟨(some 19), none, .q (.slen (.t 18))⟩, [5]), (⟨(some 20), none, .q (.bin .add (.t 17) (.t 19))⟩, [4, 6]), (⟨(some 21), none, .q (.subs (.t 16) (some (.t 20)) none)⟩, [3, 7]), (⟨(some 4), none, .q (.mov (.t 15))⟩, [2, 0, 1, 2]), (⟨(some 5), none, .q (.mov (.t 21))⟩, [8, 9, 0, 1, 2, 3, 4, 5, 6, 7, 8, 9]), (⟨(some 6), none, .q (.mov (.c (.sc (.bool true))))⟩, [10, 0, 1, 2, 3, 4, 5, 6, 7, 8, 9, 10])])
  .ret)
  .skip)))
  (.seq (.ops [⟨(some 22), none, .q (.mov (.t 0))⟩, ⟨(some 4), none, .q (.mov (.t 22))⟩, ⟨(some 5), none, .q (.mov (.c (.sc (.string ⟨#[]⟩))))⟩, ⟨(some 6), none, .q (.mov (.c (.sc (.bool false))))⟩])
  .ret)))
theorem K68 : Tryd.f68.body.bind (comp Tryd.prog) = some A68 ∧ Tryd.f68.ntmps = 23 ∧ Tryd.f68.results.toList.mapM (resB Tryd.prog) = some [.mov (.t 4), .mov (.t 5), .mov (.t 6)] := ⟨by kernel_rfl, by kernel_rfl, by kernel_rfl⟩
theorem R68 (s : ByteArray) (c : UInt8) (hs : s.size ≤ 140737488351232) : Ret Tryd.prog 68 [.sc (.string s), .sc (.string ⟨#[c]⟩)] (cutRes (cutF s c)) [.un, .un] := by
  refine Ret.run Tryd.func68 K68 (by simp) rfl rfl 500 ?_
  simp [A68, iniρ]
  refine callK.ro 0 rfl (by kernel_rfl) (by simp [roc_sc]) (R72 s c) rfl rfl rfl ?_
  rcases ixB_cases c s.data.toList with ⟨e, hn⟩ | ⟨p, q, e, hn, e2⟩
  · simp [e, cutF, cutRes]
  · have hsz := str_len e.symm
    have hl : p.length + 1 ≤ s.size := by rw [hsz]; simp
    have h0 : (0 : Int) ≤ p.length := by omega
    have hw : IntKind.i64.wrap ((p.length : Int) + 1) = p.length + 1 := wrap_i64 (by omega) (by omega)
    have h1 : (0 : Int) ≤ (p.length : Int) + 1 := by omega
    have h2 : ((p.length : Int) + 1).toNat = p.length + 1 := by omega
    have h3 : p.length ≤ s.size := by omega
    have hc : (⟨#[c]⟩ : ByteArray).size = 1 := rfl
    simp [e2, h0]
    refine T.text 400 mixed (by kernel_rfl) (by kernel_rfl) ?_
    simp [e2, h0, h1, h2, h3, hw, hl, hc, cutF, cutRes]
/- 63: strings.Cut -/
def A63 : AC := (.seq (.ops [⟨(some 4), none, .q (.mov (.c (.sc (.string ⟨#[]⟩))))⟩, ⟨(some 5), none, .q (.mov (.c (.sc (.string ⟨#[]⟩))))⟩, ⟨(some 6), none, .q (.mov (.c (.sc (.bool false))))⟩])
  (.seq (.ops [⟨(some 7), none, .q (.mov (.t 0))⟩, ⟨(some 8), none, .q (.mov (.t 1))⟩, ⟨(some 9), none, .c (.c (.clo 68 [])) [(.t 7), (.t 8)]⟩, ⟨(some 10), none, .q (.ext (.t 9) 0)⟩, ⟨(some 11), none, .q (.ext (.t 9) 1)⟩, ⟨(some 12), none, .q (.ext (.t 9) 2)⟩, ⟨(some 4), none, .q (.mov (.t 10))⟩, ⟨(some 5), none, .q (.mov (.t 11))⟩, ⟨(some 6), none, .q (.mov (.t 12))⟩])
  .ret))
theorem K63 : Tryd.f63.body.bind (comp Tryd.prog) = some A63 ∧ Tryd.f63.ntmps = 13 ∧ Tryd.f63.results.toList.mapM (resB Tryd.prog) = some [.mov (.t 4), .mov (.t 5), .mov (.t 6)] := ⟨by kernel_rfl, by kernel_rfl, by kernel_rfl⟩
theorem R63 (s : ByteArray) (c : UInt8) (hs : s.size ≤ 140737488351232) : Ret Tryd.prog 63 [.sc (.string s), .sc (.string ⟨#[c]⟩)] (cutRes (cutF s c)) [.un, .un] := by
  refine Ret.run Tryd.func63 K63 (by simp) rfl rfl 500 ?_
  simp [A63, iniρ]
  refine callK.ro 0 rfl (by kernel_rfl) (by simp [roc_sc]) (R68 s c hs) rfl (by simp [cutRes, inst, instL, shut]; exact ⟨rfl, rfl⟩) rfl ?_
  simp [cutRes]
theorem drop_str {s : ByteArray} {f : Nat} : (s.extract f s.size).data.toList = s.data.toList.drop f := by
  rw [extract_toList, show s.size = s.data.toList.length by rw [Array.length_toList]; rfl, List.take_length]
theorem extr0 {s : ByteArray} {f m : Nat} (h : f + m ≤ s.size) : (s.extract f s.size).extract 0 m = s.extract f (f + m) := by
  rw [ByteArray.extract_extract, Nat.add_zero, Nat.min_eq_left h]
theorem extr1 {s : ByteArray} {f m n : Nat} (h : s.size ≤ f + n) : (s.extract f s.size).extract m n = s.extract (f + m) s.size := by
  rw [ByteArray.extract_extract, Nat.min_eq_right h]
theorem repl_set {α : Type} (a x : α) : ∀ (l : List α) (n : Nat), (l ++ List.replicate (n + 1) a).set l.length x = (l ++ [x]) ++ List.replicate n a
  | [], n => rfl
  | y :: l, n => by simp [List.replicate_succ, List.set_append]
theorem rows_repl (n : Nat) (x : ByteArray) : rows Ty.str.oc (List.replicate n x) = List.replicate n (.sc (.string x)) := by
  induction n with
  | zero => rfl
  | succ n ih => rw [List.replicate_succ, List.replicate_succ, rows_cons, ih]; rfl
theorem over_str (l : List ByteArray) (n : Nat) (x : ByteArray) : over (rows Ty.str.oc (l ++ List.replicate (n + 1) ⟨#[]⟩)) l.length [.sc (.string x)] = rows Ty.str.oc ((l ++ [x]) ++ List.replicate n ⟨#[]⟩) := by
  rw [rows_append, rows_append, rows_append, rows_repl, rows_repl, List.replicate_succ]
  have e : (rows Ty.str.oc l).length = l.length := by rw [rows_length Ty.str.ocn]; exact Nat.mul_one _
  show (rows Ty.str.oc l ++ AV.sc (.string ⟨#[]⟩) :: List.replicate n (AV.sc (.string ⟨#[]⟩))).set l.length (.sc (.string x)) = _
  rw [← e, List.set_append_right _ _ (Nat.le_refl _), Nat.sub_self]
  show _ = (rows Ty.str.oc l ++ [AV.sc (.string x)]) ++ _
  simp
/- 73: strings.genSplit -/
def A73 : AC := (.seq (.ops [⟨(some 8), none, .q (.mov (.c .em))⟩])
  (.seq (.seq (.ops [⟨(some 12), none, .q (.mov (.t 3))⟩, ⟨(some 13), none, .q (.bin .eql (.t 12) (.c (.sc (.int .i64 0))))⟩])
  (.cond (.t 13) (.seq (.ops [⟨(some 8), none, .q (.mov (.c .em))⟩])
  .ret)
  .skip))
  (.seq (.seq (.ops [⟨(some 14), none, .q (.mov (.t 1))⟩, ⟨(some 15), none, .q (.bin .eql (.t 14) (.c (.sc (.string ⟨#[]⟩))))⟩])
  (.cond (.t 15) (.seq (.ops [⟨(some 16), none, .q (.mov (.t 0))⟩, ⟨(some 17), none, .q (.mov (.t 3))⟩, ⟨(some 18), none, .c (.c (.clo 82 [])) [(.t 16), (.t 17)]⟩, ⟨(some 8), none, .q (.mov (.t 18))⟩])
  .ret)
  .skip))
  (.seq (.seq (.ops [⟨(some 19), none, .q (.mov (.t 3))⟩, ⟨(some 20), none, .q (.bin .lss (.t 19) (.c (.sc (.int .i64 0))))⟩])
  (.cond (.t 20) (.ops [⟨(some 21), none, .q (.mov (.t 0))⟩, ⟨(some 22), none, .q (.mov (.t 1))⟩, ⟨(some 23), none, .c (.c (.clo 83 [])) [(.t 21), (.t 22)]⟩, ⟨(some 24), none, .q (.bin .add (.t 23) (.c (.sc (.int .i64 1))))⟩, ⟨(some 3), none, .q (.mov (.t 24))⟩])
  .skip))
  (.seq (.ops [⟨(some 25), none, .q (.mov (.t 3))⟩, ⟨(some 26), none, .q (.mov (.t 0))⟩, ⟨(some 27), none, .q (.slen (.t 26))⟩, ⟨(some 28), none, .q (.bin .add (.t 27) (.c (.sc (.int .i64 1))))⟩, ⟨(some 29), none, .q (.mm true (.t 25) (.t 28))⟩, ⟨(some 3), none, .q (.mov (.t 29))⟩])
  (.seq (.ops [⟨(some 30), none, .q (.mov (.t 3))⟩, ⟨(some 31), none, .w (.mk 1 16 [(.sc (.string ⟨#[]⟩))] (.t 30) (.t 30))⟩, ⟨(some 9), none, .q (.mov (.t 31))⟩])
  (.seq (.ops [⟨(some 32), none, .q (.mov (.t 3))⟩, ⟨(some 33), none, .q (.bin .sub (.t 32) (.c (.sc (.int .i64 1))))⟩, ⟨(some 3), none, .q (.mov (.t 33))⟩])
  (.seq (.ops [⟨(some 10), none, .q (.mov (.c (.sc (.int .i64 0))))⟩])
  (.seq (.block 0 (.loop (.seq (.seq (.ops [⟨(some 34), none, .q (.mov (.t 10))⟩, ⟨(some 35), none, .q (.mov (.t 3))⟩, ⟨(some 36), none, .q (.bin .lss (.t 34) (.t 35))⟩])
  (.cond (.t 36) .skip
  (.exit 0)))
  (.block 1 (.seq (.ops [⟨(some 37), none, .q (.mov (.t 0))⟩, ⟨(some 38), none, .q (.mov (.t 1))⟩, ⟨(some 39), none, .c (.c (.clo 84 [])) [(.t 37), (.t 38)]⟩, ⟨(some 11), none, .q (.mov (.t 39))⟩])
  (.seq (.seq (.ops [⟨(some 40), none, .q (.mov (.t 11))⟩, ⟨(some 41), none, .q (.bin .lss (.t 40) (.c (.sc (.int .i64 0))))⟩])
  (.cond (.t 41) (.exit 0)
  .skip))
  (.seq (.ops [⟨(some 42), none, .q (.mov (.t 9))⟩, ⟨(some 43), none, .q (.mov (.t 10))⟩, ⟨(some 44), none, .q (.mov (.t 0))⟩, ⟨(some 45), none, .q (.mov (.t 11))⟩, ⟨(some 46), none, .q (.mov (.t 2))⟩, ⟨(some 47), none, .q (.bin .add (.t 45) (.t 46))⟩, ⟨(some 48), none, .q (.subs (.t 44) none (some (.t 47)))⟩, ⟨(some 49), none, .q (.iadr 1 (.t 42) (.t 43))⟩, ⟨none, none, .w (.store 1 (.t 49) (.t 48))⟩])
  (.seq (.ops [⟨(some 50), none, .q (.mov (.t 0))⟩, ⟨(some 51), none, .q (.mov (.t 11))⟩, ⟨(some 52), none, .q (.mov (.t 1))⟩, ⟨(some 53), none, .q (.slen (.t 52))⟩, ⟨(some 54), none, .q (.bin .add (.t 51) (.t 53))⟩, ⟨(some 55), none, .q (.subs (.t 50) (some (.t 54)) none)⟩, ⟨(some 0), none, .q (.mov (.t 55))⟩])
  (.ops [⟨(some 56), none, .q (.mov (.t 10))⟩, ⟨(some 57), none, .q (.bin .add (.t 56) (.c (.sc (.int .i64 1))))⟩, ⟨(some 10), none, .q (.mov (.t 57))⟩])))))))))
  (.seq (.ops [⟨(some 58), none, .q (.mov (.t 9))⟩, ⟨(some 59), none, .q (.mov (.t 10))⟩, ⟨(some 60), none, .q (.mov (.t 0))⟩, ⟨(some 61), none, .q (.iadr 1 (.t 58) (.t 59))⟩, ⟨none, none, .w (.store 1 (.t 61) (.t 60))⟩])
  (.seq (.ops [⟨(some 62), none, .q (.mov (.t 9))⟩, ⟨(some 63), none, .q (.mov (.t 10))⟩, ⟨(some 64), none, .q (.bin .add (.t 63) (.c (.sc (.int .i64 1))))⟩, ⟨(some 65), none, .q (.subl 1 (.t 62) none (some (.t 64)))⟩, ⟨(some 8), none, .q (.mov (.t 65))⟩])
  .ret)))))))))))
theorem K73 : Tryd.f73.body.bind (comp Tryd.prog) = some A73 ∧ Tryd.f73.ntmps = 66 ∧ Tryd.f73.results.toList.mapM (resB Tryd.prog) = some [.mov (.t 8)] := ⟨by kernel_rfl, by kernel_rfl, by kernel_rfl⟩
set_option maxHeartbeats 1000000 in
theorem R73 (s : ByteArray) (c : UInt8) (hs : s.size ≤ 1048576) : Ret Tryd.prog 73 [.sc (.string s), .sc (.string ⟨#[c]⟩), .sc (.int .i64 0), .sc (.int .i64 (-1))] (.own (rows Ty.str.oc (splitS s c.toNat)) (splitS s c.toNat).length 1) [.un, .un, .un, .un] := by
  obtain ⟨N, hN⟩ : ∃ N, N = s.data.toList.count c := ⟨_, rfl⟩
  have hlen : (splitS s c.toNat).length = N + 1 := by rw [hN]; exact splitP_cnt s c s.data.toList 0 0
  have hNs : N ≤ s.size := by rw [hN, show s.size = s.data.toList.length by rw [Array.length_toList]; rfl]; exact List.count_le_length
  have hC := R83 s c
  rw [show Lib.countByte s.data.toList c = N from hN.symm] at hC
  have hcc : (⟨#[c]⟩ : ByteArray).size = 1 := rfl
  have hne : ¬ ((⟨#[c]⟩ : ByteArray).toList = []) := by rw [Lib.toList_data]; simp
  have w1 : IntKind.i64.wrap ((N : Int) + 1) = N + 1 := wrap_i64 (by omega) (by omega)
  have w2 : IntKind.i64.wrap ((s.size : Int) + 1) = s.size + 1 := wrap_i64 (by omega) (by omega)
  have w3 : IntKind.i64.wrap ((N : Int) + 1 - 1) = N := by rw [show (N : Int) + 1 - 1 = N by omega]; exact wrap_i64 (by omega) (by omega)
  have hmin : min ((N : Int) + 1) (s.size + 1) = N + 1 := by omega
  refine Ret.run Tryd.func73 K73 (by simp) rfl rfl 900 ?_
  simp [A73, iniρ, hne]
  refine callK.ro 0 rfl (by kernel_rfl) (by simp [roc_sc]) hC rfl rfl rfl ?_
  have n1 : ¬ (s.size < N) := by omega
  have n2 : (0 : Int) ≤ (N : Int) + 1 := by omega
  have n3 : ((N : Int) + 1) * 16 ≤ 281474976710656 := by omega
  have n4 : (N : Int) + 1 ≤ 9223372036854775807 := by omega
  have n5 : ((N : Int) + 1).toNat = N + 1 := by omega
  have w0 : IntKind.i64.wrap (N : Int) = N := wrap_i64 (by omega) (by omega)
  simp [w1, w2, w3, n1, n2, n3, n4, n5]
  refine T.rounds (μ := fun i : List ByteArray × Nat × List UInt8 => i.2.2.length)
    (fun i t => i.2.1 ≤ s.size ∧ i.2.2 = s.data.toList.drop i.2.1 ∧ i.1 ++ splitP s c.toNat i.2.1 i.2.1 i.2.2 = splitS s c.toNat ∧ t.ρ 0 = .sc (.string (s.extract i.2.1 s.size)) ∧ t.ρ 1 = .sc (.string ⟨#[c]⟩) ∧ t.ρ 2 = .sc (.int .i64 0) ∧ t.ρ 3 = .sc (.int .i64 N) ∧ t.ρ 9 = .sl 31 0 (N + 1) 1 false ∧ t.ρ 10 = .sc (.int .i64 i.1.length) ∧
      t.h 31 = some (some (rows Ty.str.oc (i.1 ++ List.replicate (N + 1 - i.1.length) ⟨#[]⟩))) ∧ t.n = 66) ([], 0, s.data.toList) (by simp [upd_app, splitS, rows_repl, w0]) ?_
  rintro ⟨done, f, l⟩ ⟨ρ, hh, n⟩ ⟨hf, hl, hE, k0, k1, k2, k3, k9, k10, k31, rfl⟩
  simp only at hf hl hE k0 k1 k2 k3 k9 k10 k31
  have hn2 := congrArg List.length hE
  rw [List.length_append, splitP_cnt, hlen] at hn2
  refine run_ok (n := 400) ?_
  have lt1 : (done.length : Int) ≤ N := by omega
  have hI := R84 (s.extract f s.size) c
  rw [drop_str, ← hl] at hI
  have fsz : (s.extract f s.size).size = s.size - f := by rw [ByteArray.size_extract]; omega
  have hlsz : l.length = s.size - f := by rw [hl, List.length_drop]; rfl
  by_cases hlt : done.length < N
  case neg =>
    obtain rfl : done.length = N := by omega
    have hcn : c ∉ l := fun hm => by have := List.count_pos_iff.2 hm; omega
    rw [splitP_miss s c f l f hcn] at hE
    have e2 : f + l.length = s.size := by omega
    rw [e2] at hE
    have hov := over_str done 0 (s.extract f s.size)
    rw [List.replicate_zero, List.append_nil, hE] at hov
    rw [show done.length + 1 - done.length = 0 + 1 by omega] at k31
    have hrl : (rows Ty.str.oc (done ++ List.replicate (0 + 1) (⟨#[]⟩ : ByteArray))).length = done.length + 1 := by rw [rows_length Ty.str.ocn]; simp; exact Nat.mul_one _
    have hrs : (rows Ty.str.oc (splitS s c.toNat)).length = done.length + 1 := by rw [rows_length Ty.str.ocn, hlen]; exact Nat.mul_one _
    have hid : idfree.idfreeL (rows Ty.str.oc (splitS s c.toNat)) = true := Ty.str.frL _
    obtain ⟨R, hR⟩ : ∃ R, R = rows Ty.str.oc (done ++ List.replicate (0 + 1) (⟨#[]⟩ : ByteArray)) := ⟨_, rfl⟩
    rw [← hR] at k31 hov hrl
    have lt3 : (done.length : Int) < done.length + 1 := by omega
    have w5 : IntKind.i64.wrap ((done.length : Int) + 1) = done.length + 1 := w1
    simp [k3, k10]
    refine T.on 400 ?_
    simp [k0, k9, k10, k31, lt3, hrl, hov, w5, n2, n5, ex1, hrs, hid, hlen]
  rcases ixB_cases c l with ⟨e, hn⟩ | ⟨p, q, e, hn, e2⟩
  · have : l.count c = 0 := List.count_eq_zero.2 hn
    omega
  have hsz2 : p.length + (q.length + 1) = s.size - f := by rw [← hlsz, e]; simp
  have lt2 : (done.length : Int) < N := by omega
  have hov := over_str done (N - done.length) (s.extract f (f + p.length))
  rw [show N - done.length + 1 = N + 1 - done.length by omega, show N - done.length = N + 1 - (done.length + 1) by omega] at hov
  have hrl : (rows Ty.str.oc (done ++ List.replicate (N + 1 - done.length) (⟨#[]⟩ : ByteArray))).length = N + 1 := by rw [rows_length Ty.str.ocn]; simp; show _ * 1 = _; omega
  obtain ⟨R, hR⟩ : ∃ R, R = rows Ty.str.oc (done ++ List.replicate (N + 1 - done.length) (⟨#[]⟩ : ByteArray)) := ⟨_, rfl⟩
  rw [← hR] at k31 hov hrl
  have x0 := extr0 (s := s) (f := f) (m := p.length) (by omega)
  have x1 := extr1 (s := s) (f := f) (m := p.length + 1) (n := s.size - f) (by omega)
  have wp : IntKind.i64.wrap (p.length : Int) = p.length := wrap_i64 (by omega) (by omega)
  have wp1 : IntKind.i64.wrap ((p.length : Int) + 1) = p.length + 1 := wrap_i64 (by omega) (by omega)
  have wd1 : IntKind.i64.wrap ((done.length : Int) + 1) = done.length + 1 := wrap_i64 (by omega) (by omega)
  have q0 : ¬ ((p.length : Int) < 0) := by omega
  have q1 : (0 : Int) ≤ (p.length : Int) + 1 := by omega
  have q2 : ((p.length : Int) + 1).toNat = p.length + 1 := by omega
  have q3 : p.length ≤ s.size - f := by omega
  have q4 : p.length + 1 ≤ s.size - f := by omega
  have q5 : (done.length : Int) < N + 1 := by omega
  have q6 : done.length + 1 ≤ N + 1 := by omega
  rw [e2] at hI
  simp [k0, k1, k3, k10, lt2]
  refine callK.ro 0 rfl (by kernel_rfl) (by simp [roc_sc]) hI rfl rfl rfl ?_
  simp [k0, k1, k2, k9, k10, k31, lt2, q0, q1, q2, q3, q4, q5, q6, wp, wp1, wd1, fsz, hcc, hrl, hov, x0, x1]
  have hq : q = s.data.toList.drop (f + p.length + 1) := by
    have h := congrArg (List.drop (p.length + 1)) (hl.symm.trans e)
    rw [List.drop_drop, show p.length + 1 = (p ++ [c]).length by simp, show p ++ c :: q = (p ++ [c]) ++ q by simp, List.drop_left] at h
    rw [← h]; simp; congr 1
  refine ⟨done ++ [s.extract f (f + p.length)], f + p.length + 1, q, by rw [e]; simp; omega, _, Le.refl _, by omega, hq, ?_, ?_⟩
  · rw [e, splitP_hit s c f q p f hn] at hE
    rw [← hE]; simp
  · simp [upd_app, k0, k1, k2, k3, k9, show f + (p.length + 1) = f + p.length + 1 by omega]
/- 70: strings.Split -/
def A70 : AC := (.seq (.ops [⟨(some 4), none, .q (.mov (.c .em))⟩])
  (.seq (.ops [⟨(some 5), none, .q (.mov (.t 0))⟩, ⟨(some 6), none, .q (.mov (.t 1))⟩, ⟨(some 7), none, .c (.c (.clo 73 [])) [(.t 5), (.t 6), (.c (.sc (.int .i64 0))), (.c (.sc (.int .i64 (-1))))]⟩, ⟨(some 4), none, .q (.mov (.t 7))⟩])
  .ret))
theorem K70 : Tryd.f70.body.bind (comp Tryd.prog) = some A70 ∧ Tryd.f70.ntmps = 8 ∧ Tryd.f70.results.toList.mapM (resB Tryd.prog) = some [.mov (.t 4)] := ⟨by kernel_rfl, by kernel_rfl, by kernel_rfl⟩
theorem R70 (s : ByteArray) (c : UInt8) (hs : s.size ≤ 1048576) : Ret Tryd.prog 70 [.sc (.string s), .sc (.string ⟨#[c]⟩)] (.own (rows Ty.str.oc (splitS s c.toNat)) (splitS s c.toNat).length 1) [.un, .un] := by
  have hl : (rows Ty.str.oc (splitS s c.toNat)).length = (splitS s c.toNat).length := by rw [rows_length Ty.str.ocn]; exact Nat.mul_one _
  have hid : idfree.idfreeL (rows Ty.str.oc (splitS s c.toNat)) = true := Ty.str.frL _
  refine Ret.run Tryd.func70 K70 (by simp) rfl rfl 500 ?_
  simp [A70, iniρ]
  refine callK.own 7 rfl (by kernel_rfl) (by simp [roc_sc]) (R73 s c hs) (Ty.str.flo _) (by simp) rfl ?_
  simp [ex1, hl, hid]
end Go.Proofs.YtaknfalbmblagaaDoor.Am
