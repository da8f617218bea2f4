/- The functions of the program, each by its contract: Draw; no condition. -/
import Derived.Test.YtadoadomogceiaaDoorProg
import Derived.Test.YtadoadomogceiaaDoorAmZ
import Derived.Test.YtadoadomogceiaaDoorAmP
import Derived.Test.YtadoadomogceiaaDoorAmM
import Derived.Test.YtadoadomogceiaaDoorBase
import Derived.Test.YtadoadomogceiaaDoorTypes
import Derived.KernelRfl
namespace Go.Proofs.YtadoadomogceiaaDoor.Am
open Go Go.Proofs
set_option linter.unusedSimpArgs false
set_option linter.unusedVariables false
attribute [local congr] T_congr callK_congr callWK_congr
attribute [local simp] run_nil run_op0 run_opg run_seq run_cond run_block run_ret run_skip run_skip_after run_skip_blk run_exit run_exit_after run_exit_blk run_loop run_any runS_nil runS_op0 runS_opg runW_nil runW_op0 runW_opg exec_q exec_w exec_c exec_n execW_q execW_w execW_c restW_app hideH_app merge_app wblk rest_app restS_app execS_q execS_c aval dOk upd_app ev_t ev_c setO_some setO_none put_mk pinsOf isIo hasIo sbin endR fin resL one outL out1 clo1 cloL coe coeL shut shut.shutL wantA weff cellsOf fillA deref natOf ρ0_app h0_app plain plain.plainL keep_app keepH_app andThen_normal andThen_ret andThen_exit pop_nil pop_after pop_after_ret pop_after_exit pop_blk pop_blk_ret pop_blk_exit nilA srcOf srcCells keepR_app keepHR_app renA rb
structure Cur where
  b : List Int
  i : Nat
  h : Int
def Cur.ok (c : Cur) : Prop := Ty.byte.slice.ok c.b ∧ c.i ≤ c.b.length
def Cur.cs (c : Cur) : List AV := [.ro (rows B c.b) c.b.length, .sc (.int .i64 c.i), .sc (.int .i64 c.h)]
def stepH (h : Int) : Int := IntKind.i64.wrap (IntKind.i64.wrap (h * 6364136223846793005) + 1442695040888963407)
def low8 (a : Int) : Int := IntKind.i64.wrap (((a % 2 ^ IntKind.i64.bits).toNat &&& 255 % 2 ^ IntKind.i64.bits : Nat) : Int)
def mixI (h : Int) : Int := IntKind.i64.wrap (((h.fdiv (2 ^ min 33 IntKind.i64.bits) % 2 ^ IntKind.i64.bits).toNat ^^^ (h.fdiv (2 ^ min 47 IntKind.i64.bits) % 2 ^ IntKind.i64.bits).toNat : Nat) : Int)
def byteV (c : Cur) : Int := if c.i < c.b.length then low8 (IntKind.i64.wrap (low8 (mixI (stepH c.h)) + IntKind.i64.wrap (c.b[c.i]?.getD 0))) else low8 (mixI (stepH c.h))
def byteC (c : Cur) : Cur := ⟨c.b, if c.i < c.b.length then c.i + 1 else c.i, stepH c.h⟩
theorem low8_rng (a : Int) : 0 ≤ low8 a ∧ low8 a ≤ 255 := by
  have h : (a % 2 ^ IntKind.i64.bits).toNat &&& 255 % 2 ^ IntKind.i64.bits ≤ 255 := Nat.le_trans Nat.and_le_right (Nat.mod_le _ _)
  unfold low8
  rw [wrap_i64 (by omega) (by omega)]
  omega
theorem byteV_rng (c : Cur) : 0 ≤ byteV c ∧ byteV c ≤ 255 := by
  unfold byteV
  split <;> exact low8_rng _
theorem byteC_ok {c : Cur} (h : c.ok) : (byteC c).ok := by
  refine ⟨h.1, ?_⟩
  have := h.2
  simp only [byteC]
  split <;> omega
theorem rowsB_get : ∀ (xs : List Int) (i : Nat), i < xs.length → ∃ br, List.drop i (rows B xs) = .sc (.int .u8 (xs[i]?.getD 0)) :: br
  | [], i, h => by simp at h
  | x :: xs, 0, h => ⟨rows B xs, by rw [rows_cons]; simp [B]⟩
  | x :: xs, i + 1, h => by
    obtain ⟨br, e⟩ := rowsB_get xs i (by simpa using h)
    exact ⟨br, by rw [rows_cons]; simpa [B] using e⟩
/- 54: loop.example/g00464/spec.l1Byte -/
def A54 : AC := (.seq (.ops [⟨(some 2), none, .q (.mov (.c (.sc (.int .i64 0))))⟩])
  (.seq (.ops [⟨(some 4), none, .q (.mov (.t 0))⟩, ⟨(some 5), none, .q (.mov (.t 0))⟩, ⟨(some 6), none, .q (.nilc (.t 5))⟩, ⟨(some 7), none, .q (.fadr 2 (.t 6))⟩, ⟨(some 8), none, .q (.load false 1 (.t 7))⟩, ⟨(some 9), none, .q (.bin .mul (.t 8) (.c (.sc (.int .i64 6364136223846793005))))⟩, ⟨(some 10), none, .q (.bin .add (.t 9) (.c (.sc (.int .i64 1442695040888963407))))⟩, ⟨(some 11), none, .q (.nilc (.t 4))⟩, ⟨(some 12), none, .q (.fadr 2 (.t 11))⟩, ⟨none, none, .w (.store 1 (.t 12) (.t 10))⟩])
  (.seq (.any [(⟨(some 13), none, .q (.mov (.t 0))⟩, []), (⟨(some 14), none, .q (.nilc (.t 13))⟩, [0]), (⟨(some 15), none, .q (.fadr 2 (.t 14))⟩, [1]), (⟨(some 16), none, .q (.load false 1 (.t 15))⟩, [2]), (⟨(some 17), none, .q (.bin .shr (.t 16) (.c (.sc (.int .u64 33))))⟩, [3]), (⟨(some 18), none, .q (.mov (.t 0))⟩, []), (⟨(some 19), none, .q (.nilc (.t 18))⟩, [5]), (⟨(some 20), none, .q (.fadr 2 (.t 19))⟩, [6]), (⟨(some 21), none, .q (.load false 1 (.t 20))⟩, [7]), (⟨(some 22), none, .q (.bin .shr (.t 21) (.c (.sc (.int .u64 47))))⟩, [8]), (⟨(some 23), none, .q (.bin .xor (.t 17) (.t 22))⟩, [4, 9]), (⟨(some 24), none, .q (.bin .and (.t 23) (.c (.sc (.int .i64 255))))⟩, [10]), (⟨(some 3), none, .q (.mov (.t 24))⟩, [11, 0, 1, 2, 3, 4, 5, 6, 7, 8, 9, 10, 11])])
  (.seq (.seq (.any [(⟨(some 25), none, .q (.mov (.t 0))⟩, []), (⟨(some 26), none, .q (.nilc (.t 25))⟩, [0]), (⟨(some 27), none, .q (.fadr 1 (.t 26))⟩, [1]), (⟨(some 28), none, .q (.load false 1 (.t 27))⟩, [2]), (⟨(some 29), none, .q (.mov (.t 0))⟩, []), (⟨(some 30), none, .q (.nilc (.t 29))⟩, [4]), (⟨(some 31), none, .q (.fadr 0 (.t 30))⟩, [5]), (⟨(some 32), none, .q (.load false 1 (.t 31))⟩, [6]), (⟨(some 33), none, .q (.llen (.t 32))⟩, [7]), (⟨(some 34), none, .q (.bin .lss (.t 28) (.t 33))⟩, [3, 8])])
  (.cond (.t 34) (.seq (.any [(⟨(some 35), none, .q (.mov (.t 3))⟩, []), (⟨(some 36), none, .q (.mov (.t 0))⟩, []), (⟨(some 37), none, .q (.nilc (.t 36))⟩, [1]), (⟨(some 38), none, .q (.fadr 0 (.t 37))⟩, [2]), (⟨(some 39), none, .q (.load false 1 (.t 38))⟩, [3]), (⟨(some 40), none, .q (.mov (.t 0))⟩, []), (⟨(some 41), none, .q (.nilc (.t 40))⟩, [5]), (⟨(some 42), none, .q (.fadr 1 (.t 41))⟩, [6]), (⟨(some 43), none, .q (.load false 1 (.t 42))⟩, [7]), (⟨(some 44), none, .q (.iadr 1 (.t 39) (.t 43))⟩, [4, 8]), (⟨(some 45), none, .q (.load false 1 (.t 44))⟩, [9]), (⟨(some 46), none, .q (.cvi .i64 (.t 45))⟩, [10]), (⟨(some 47), none, .q (.bin .add (.t 35) (.t 46))⟩, [0, 11]), (⟨(some 48), none, .q (.bin .and (.t 47) (.c (.sc (.int .i64 255))))⟩, [12]), (⟨(some 3), none, .q (.mov (.t 48))⟩, [13, 0, 1, 2, 3, 4, 5, 6, 7, 8, 9, 10, 11, 12, 13])])
  (.ops [⟨(some 49), none, .q (.mov (.t 0))⟩, ⟨(some 50), none, .q (.mov (.t 0))⟩, ⟨(some 51), none, .q (.nilc (.t 50))⟩, ⟨(some 52), none, .q (.fadr 1 (.t 51))⟩, ⟨(some 53), none, .q (.load false 1 (.t 52))⟩, ⟨(some 54), none, .q (.bin .add (.t 53) (.c (.sc (.int .i64 1))))⟩, ⟨(some 55), none, .q (.nilc (.t 49))⟩, ⟨(some 56), none, .q (.fadr 1 (.t 55))⟩, ⟨none, none, .w (.store 1 (.t 56) (.t 54))⟩]))
  .skip))
  (.seq (.ops [⟨(some 57), none, .q (.mov (.t 3))⟩, ⟨(some 2), none, .q (.mov (.t 57))⟩])
  .ret)))))
theorem K54 : Tryd.f54.body.bind (comp Tryd.prog) = some A54 ∧ Tryd.f54.ntmps = 58 ∧ Tryd.f54.results.toList.mapM (resB Tryd.prog) = some [.mov (.t 2)] := ⟨by kernel_rfl, by kernel_rfl, by kernel_rfl⟩
theorem R54 (c : Cur) (hc : c.ok) : Ret Tryd.prog 54 [.bx c.cs] (.sc (.int .i64 (byteV c))) [.bx (byteC c).cs] := by
  have hb : c.b.length * 1 ≤ 140737488351232 := hc.1.1
  refine Ret.run Tryd.func54 K54 (by simp) rfl rfl 900 ?_
  simp [A54, iniρ, Cur.cs, over]
  refine T.text 400 mixed (by kernel_rfl) (by kernel_rfl) ?_
  simp
  refine T.text 400 mixed (by kernel_rfl) (by kernel_rfl) ?_
  by_cases hlt : c.i < c.b.length
  case neg =>
    have hlt2 : ¬ ((c.i : Int) < c.b.length) := by omega
    simp [hlt2, ex1, byteV, byteC, low8, mixI, stepH, Cur.cs, hlt, idfree.idfreeL, idfree, ioPos1]
  have hlt2 : (c.i : Int) < c.b.length := by omega
  have hw : IntKind.i64.wrap ((c.i : Int) + 1) = c.i + 1 := wrap_i64 (by omega) (by omega)
  obtain ⟨br, hd⟩ := rowsB_get c.b c.i hlt
  simp [hlt2]
  refine T.textW 400 [([], []), ([], []), ([], []), ([], []), ([], []), ([], []), ([], []), ([], []), ([], []), ([], []), ([], []), ([], []), ([], []), ([], []), ([], [])] mixed (by kernel_rfl) (by kernel_rfl) ?_
  simp [hlt, hlt2, hd, hw, over, merge_nil, hideH_nil, ex1, byteV, byteC, low8, mixI, stepH, Cur.cs, idfree.idfreeL, idfree, ioPos1]
def belowV (c : Cur) (n : Int) : Int := if n ≤ 0 then 0 else if n ≤ 256 then (byteV c).tmod n else (byteV c * 65536 + byteV (byteC c) * 256 + byteV (byteC (byteC c))).tmod n
def belowC (c : Cur) (n : Int) : Cur := if n ≤ 0 then c else if n ≤ 256 then byteC c else byteC (byteC (byteC c))
theorem belowC_ok {c : Cur} (h : c.ok) (n : Int) : (belowC c n).ok := by
  unfold belowC
  split
  · exact h
  · split
    · exact byteC_ok h
    · exact byteC_ok (byteC_ok (byteC_ok h))
theorem belowV_rng (c : Cur) {n : Int} (h : 0 < n) : 0 ≤ belowV c n ∧ belowV c n < n := by
  have h1 := byteV_rng c
  have h2 := byteV_rng (byteC c)
  have h3 := byteV_rng (byteC (byteC c))
  unfold belowV
  rw [if_neg (by omega)]
  split
  · exact ⟨Int.tmod_nonneg _ (by omega), Int.tmod_lt_of_pos _ h⟩
  · exact ⟨Int.tmod_nonneg _ (by omega), Int.tmod_lt_of_pos _ h⟩
/- 23: loop.example/g00464/spec.l1Below -/
def A23 : AC := (.seq (.ops [⟨(some 4), none, .q (.mov (.c (.sc (.int .i64 0))))⟩])
  (.seq (.seq (.ops [⟨(some 8), none, .q (.mov (.t 1))⟩, ⟨(some 9), none, .q (.bin .leq (.t 8) (.c (.sc (.int .i64 0))))⟩])
  (.cond (.t 9) (.seq (.ops [⟨(some 4), none, .q (.mov (.c (.sc (.int .i64 0))))⟩])
  .ret)
  .skip))
  (.seq (.seq (.ops [⟨(some 10), none, .q (.mov (.t 1))⟩, ⟨(some 11), none, .q (.bin .leq (.t 10) (.c (.sc (.int .i64 256))))⟩])
  (.cond (.t 11) (.seq (.ops [⟨(some 12), none, .q (.mov (.t 0))⟩, ⟨(some 13), none, .c (.c (.clo 54 [])) [(.t 12)]⟩, ⟨(some 14), none, .q (.mov (.t 1))⟩, ⟨(some 15), none, .q (.bin .rem (.t 13) (.t 14))⟩, ⟨(some 4), none, .q (.mov (.t 15))⟩])
  .ret)
  .skip))
  (.seq (.ops [⟨(some 16), none, .q (.mov (.t 0))⟩, ⟨(some 17), none, .c (.c (.clo 54 [])) [(.t 16)]⟩, ⟨(some 5), none, .q (.mov (.t 17))⟩])
  (.seq (.ops [⟨(some 18), none, .q (.mov (.t 0))⟩, ⟨(some 19), none, .c (.c (.clo 54 [])) [(.t 18)]⟩, ⟨(some 6), none, .q (.mov (.t 19))⟩])
  (.seq (.ops [⟨(some 20), none, .q (.mov (.t 0))⟩, ⟨(some 21), none, .c (.c (.clo 54 [])) [(.t 20)]⟩, ⟨(some 7), none, .q (.mov (.t 21))⟩])
  (.seq (.ops [⟨(some 22), none, .q (.mov (.t 5))⟩, ⟨(some 23), none, .q (.bin .mul (.t 22) (.c (.sc (.int .i64 65536))))⟩, ⟨(some 24), none, .q (.mov (.t 6))⟩, ⟨(some 25), none, .q (.bin .mul (.t 24) (.c (.sc (.int .i64 256))))⟩, ⟨(some 26), none, .q (.bin .add (.t 23) (.t 25))⟩, ⟨(some 27), none, .q (.mov (.t 7))⟩, ⟨(some 28), none, .q (.bin .add (.t 26) (.t 27))⟩, ⟨(some 29), none, .q (.mov (.t 1))⟩, ⟨(some 30), none, .q (.bin .rem (.t 28) (.t 29))⟩, ⟨(some 4), none, .q (.mov (.t 30))⟩])
  .ret)))))))
theorem K23 : Tryd.f23.body.bind (comp Tryd.prog) = some A23 ∧ Tryd.f23.ntmps = 31 ∧ Tryd.f23.results.toList.mapM (resB Tryd.prog) = some [.mov (.t 4)] := ⟨by kernel_rfl, by kernel_rfl, by kernel_rfl⟩
theorem R23 (c : Cur) (hc : c.ok) (n : Int) : Ret Tryd.prog 23 [.bx c.cs, .sc (.int .i64 n)] (.sc (.int .i64 (belowV c n))) [.bx (belowC c n).cs, .un] := by
  refine Ret.run Tryd.func23 K23 (by simp) rfl rfl 900 ?_
  have fr : ∀ c : Cur, idfree.idfreeL c.cs = true := fun c => rfl
  by_cases h0 : n ≤ 0
  · simp [A23, iniρ, h0, belowV, belowC, ex1, fr, ioPos1]
  by_cases h1 : n ≤ 256
  · have hn : ¬ n = 0 := by omega
    simp [A23, iniρ, h0, h1]
    refine callK.bx (b := 100000) 0 rfl (by kernel_rfl) (by simp [upd_app]) (by simp [upd_app]) (fr c) rfl (by simp) (R54 c hc) rfl (by rfl) rfl ?_
    simp [h0, h1, hn, belowV, belowC, ex1, fr, ioPos1]
  simp [A23, iniρ, h0, h1]
  refine callK.bx (b := 100000) 0 rfl (by kernel_rfl) (by simp [upd_app]) (by simp [upd_app]) (fr c) rfl (by simp) (R54 c hc) rfl (by rfl) rfl ?_
  simp
  refine callK.bx (b := 100000) 0 rfl (by kernel_rfl) (by simp [upd_app]) (by simp [upd_app]) (fr _) rfl (by simp) (R54 _ (byteC_ok hc)) rfl (by rfl) rfl ?_
  simp
  refine callK.bx (b := 100000) 0 rfl (by kernel_rfl) (by simp [upd_app]) (by simp [upd_app]) (fr _) rfl (by simp) (R54 _ (byteC_ok (byteC_ok hc))) rfl (by rfl) rfl ?_
  have q1 := byteV_rng c
  have q2 := byteV_rng (byteC c)
  have q3 := byteV_rng (byteC (byteC c))
  have w1 : IntKind.i64.wrap (byteV c * 65536) = byteV c * 65536 := wrap_i64 (by omega) (by omega)
  have w2 : IntKind.i64.wrap (byteV (byteC c) * 256) = byteV (byteC c) * 256 := wrap_i64 (by omega) (by omega)
  have w3 : IntKind.i64.wrap (byteV c * 65536 + byteV (byteC c) * 256) = byteV c * 65536 + byteV (byteC c) * 256 := wrap_i64 (by omega) (by omega)
  have w4 : IntKind.i64.wrap (byteV c * 65536 + byteV (byteC c) * 256 + byteV (byteC (byteC c))) = byteV c * 65536 + byteV (byteC c) * 256 + byteV (byteC (byteC c)) := wrap_i64 (by omega) (by omega)
  have hn : ¬ n = 0 := by omega
  simp [h0, h1, hn, w1, w2, w3, w4, belowV, belowC, ex1, fr, ioPos1]
/- 51: loop.example/g00464/spec.l1Once -/
def A51 : AC := (.seq (.ops [⟨(some 4), none, .q (.mov (.c (.sc (.bool false))))⟩])
  (.seq (.ops [⟨(some 5), none, .q (.mov (.t 0))⟩, ⟨(some 6), none, .q (.mov (.t 1))⟩, ⟨(some 7), none, .c (.c (.clo 23 [])) [(.t 5), (.t 6)]⟩, ⟨(some 8), none, .q (.bin .eql (.t 7) (.c (.sc (.int .i64 0))))⟩, ⟨(some 4), none, .q (.mov (.t 8))⟩])
  .ret))
theorem K51 : Tryd.f51.body.bind (comp Tryd.prog) = some A51 ∧ Tryd.f51.ntmps = 9 ∧ Tryd.f51.results.toList.mapM (resB Tryd.prog) = some [.mov (.t 4)] := ⟨by kernel_rfl, by kernel_rfl, by kernel_rfl⟩
theorem R51 (c : Cur) (hc : c.ok) (n : Int) : Ret Tryd.prog 51 [.bx c.cs, .sc (.int .i64 n)] (.sc (.bool (belowV c n == 0))) [.bx (belowC c n).cs, .un] := by
  have fr : ∀ c : Cur, idfree.idfreeL c.cs = true := fun c => rfl
  refine Ret.run Tryd.func51 K51 (by simp) rfl rfl 900 ?_
  simp [A51, iniρ]
  refine callK.bx (b := 100000) 0 rfl (by kernel_rfl) (by simp [upd_app]) (by simp [upd_app]) (fr c) (by simp [upd_app]) (by simp) (R23 c hc n) rfl (by rfl) rfl ?_
  simp [ex1, fr, ioPos1]
/- 48: loop.example/g00464/spec.l1Str -/
def A48 : AC := (.seq (.ops [⟨(some 4), none, .q (.mov (.c (.sc (.string ⟨#[]⟩))))⟩])
  (.seq (.ops [⟨(some 5), none, .q (.mov (.t 1))⟩, ⟨(some 6), none, .q (.mov (.t 0))⟩, ⟨(some 7), none, .q (.mov (.t 1))⟩, ⟨(some 8), none, .q (.llen (.t 7))⟩, ⟨(some 9), none, .c (.c (.clo 23 [])) [(.t 6), (.t 8)]⟩, ⟨(some 10), none, .q (.iadr 1 (.t 5) (.t 9))⟩, ⟨(some 11), none, .q (.load false 1 (.t 10))⟩, ⟨(some 4), none, .q (.mov (.t 11))⟩])
  .ret))
theorem K48 : Tryd.f48.body.bind (comp Tryd.prog) = some A48 ∧ Tryd.f48.ntmps = 12 ∧ Tryd.f48.results.toList.mapM (resB Tryd.prog) = some [.mov (.t 4)] := ⟨by kernel_rfl, by kernel_rfl, by kernel_rfl⟩
theorem R48 (c : Cur) (hc : c.ok) (xs : List ByteArray) (hx : 0 < xs.length) : Ret Tryd.prog 48 [.bx c.cs, .own (rows Ty.str.oc xs) xs.length 1] (.sc (.string (xs[(belowV c xs.length).toNat]?.getD default))) [.bx (belowC c xs.length).cs, .un] := by
  have fr : ∀ c : Cur, idfree.idfreeL c.cs = true := fun c => rfl
  refine Ret.run Tryd.func48 K48 (by simp) rfl rfl 900 ?_
  simp [A48, iniρ]
  refine callK.bx (b := 100000) 0 rfl (by kernel_rfl) (by simp [upd_app]) (by simp [upd_app]) (fr c) (by simp [upd_app]) (by simp) (R23 c hc xs.length) rfl (by rfl) rfl ?_
  obtain ⟨r1, r2⟩ := belowV_rng c (n := xs.length) (by omega)
  obtain ⟨m, hm⟩ : ∃ m : Nat, belowV c xs.length = m := ⟨(belowV c xs.length).toNat, by omega⟩
  rw [hm] at r1 r2 ⊢
  have r3 : m < xs.length := by omega
  have hd : List.drop m (rows Ty.str.oc xs) = .sc (.string (xs[m]?.getD default)) :: rows Ty.str.oc (xs.drop (m + 1)) := by
    have h := rows_drop Ty.str.ocn (xs.take m) (xs.drop m)
    rw [List.take_append_drop, List.length_take, Nat.min_eq_left (by omega)] at h
    have h : List.drop m (rows Ty.str.oc xs) = rows Ty.str.oc (xs.drop m) := by
      have h2 := h
      rwa [show m * Ty.str.n = m from Nat.mul_one m] at h2
    rw [h, List.drop_eq_getElem_cons r3, rows_cons]
    simp [r3]
    rfl
  simp [r2, r3, hd, ex1, fr, ioPos1]
def low30 (a : Int) : Int := IntKind.i64.wrap (((a % 2 ^ IntKind.i64.bits).toNat &&& 1073741823 % 2 ^ IntKind.i64.bits : Nat) : Int)
def newS (h y : Int) : Int := low30 (IntKind.i64.wrap (IntKind.i64.wrap (IntKind.i64.wrap (h * 137) + IntKind.i64.wrap y) + 11))
def newH : Nat → List Int → Int → Int
  | 0, _, h => h
  | _ + 1, [], h => h
  | n + 1, y :: l, h => newH n l (newS h y)
def newC (b : List Int) : Cur := ⟨b, 0, newH 4000 b (778778 + b.length)⟩
theorem newC_ok {b : List Int} (h : Ty.byte.slice.ok b) : (newC b).ok := ⟨h, Nat.zero_le _⟩
/- 20: loop.example/g00464/spec.l1New -/
def A20 : AC := (.seq (.ops [⟨(some 2), none, .q (.mov (.c (.sc (.pointer none))))⟩])
  (.seq (.ops [⟨(some 5), none, .q (.mov (.t 0))⟩, ⟨(some 6), none, .q (.llen (.t 5))⟩, ⟨(some 7), none, .q (.bin .add (.c (.sc (.int .i64 778778))) (.t 6))⟩, ⟨(some 3), none, .q (.mov (.t 7))⟩])
  (.seq (.seq (.ops [⟨(some 4), none, .q (.mov (.c (.sc (.int .i64 0))))⟩])
  (.block 0 (.loop (.seq (.seq (.ops [⟨(some 8), none, .q (.mov (.t 4))⟩, ⟨(some 9), none, .q (.mov (.t 0))⟩, ⟨(some 10), none, .q (.llen (.t 9))⟩, ⟨(some 11), none, .q (.bin .lss (.t 8) (.t 10))⟩, ⟨(some 12), none, .q (.mov (.t 11))⟩, ⟨(some 13), (some (12, true)), .q (.mov (.t 4))⟩, ⟨(some 14), (some (12, true)), .q (.bin .lss (.t 13) (.c (.sc (.int .i64 4000))))⟩, ⟨(some 15), none, .q (.pick (.t 12) (.t 14) (.c (.sc (.bool false))))⟩])
  (.cond (.t 15) .skip
  (.exit 0)))
  (.seq (.block 1 (.ops [⟨(some 18), none, .q (.mov (.t 3))⟩, ⟨(some 19), none, .q (.bin .mul (.t 18) (.c (.sc (.int .i64 137))))⟩, ⟨(some 20), none, .q (.mov (.t 0))⟩, ⟨(some 21), none, .q (.mov (.t 4))⟩, ⟨(some 22), none, .q (.iadr 1 (.t 20) (.t 21))⟩, ⟨(some 23), none, .q (.load false 1 (.t 22))⟩, ⟨(some 24), none, .q (.cvi .i64 (.t 23))⟩, ⟨(some 25), none, .q (.bin .add (.t 19) (.t 24))⟩, ⟨(some 26), none, .q (.bin .add (.t 25) (.c (.sc (.int .i64 11))))⟩, ⟨(some 27), none, .q (.bin .and (.t 26) (.c (.sc (.int .i64 1073741823))))⟩, ⟨(some 3), none, .q (.mov (.t 27))⟩]))
  (.ops [⟨(some 16), none, .q (.mov (.t 4))⟩, ⟨(some 17), none, .q (.bin .add (.t 16) (.c (.sc (.int .i64 1))))⟩, ⟨(some 4), none, .q (.mov (.t 17))⟩]))))))
  (.seq (.ops [⟨(some 28), none, .q (.mov (.t 0))⟩, ⟨(some 29), none, .q (.mov (.t 3))⟩, ⟨(some 30), none, .w (.build [.em, (.sc (.int .i64 0)), (.sc (.int .i64 0))] [(0, 1, (.t 28)), (2, 1, (.t 29))])⟩, ⟨(some 31), none, .w (.box (.t 30))⟩, ⟨(some 2), none, .q (.mov (.t 31))⟩])
  .ret))))
theorem K20 : Tryd.f20.body.bind (comp Tryd.prog) = some A20 ∧ Tryd.f20.ntmps = 32 ∧ Tryd.f20.results.toList.mapM (resB Tryd.prog) = some [.mov (.t 2)] := ⟨by kernel_rfl, by kernel_rfl, by kernel_rfl⟩
theorem R20 (b : List Int) (hx : Ty.byte.slice.ok b) : Ret Tryd.prog 20 [.ro (rows B b) b.length] (.bx (newC b).cs) [.un] := by
  have hb : b.length * 1 ≤ 140737488351232 := hx.1
  have hw0 : IntKind.i64.wrap (778778 + (b.length : Int)) = 778778 + b.length := wrap_i64 (by omega) (by omega)
  refine Ret.run Tryd.func20 K20 (by simp) rfl rfl 900 ?_
  simp [A20, iniρ, hw0]
  refine T.rounds (μ := fun i : List Int × List Int × Int => i.2.1.length)
    (fun i s => i.1 ++ i.2.1 = b ∧ i.1.length ≤ 4000 ∧ newH (4000 - i.1.length) i.2.1 i.2.2 = newH 4000 b (778778 + b.length) ∧ s.ρ 0 = .ro (rows B b) b.length ∧ s.ρ 3 = .sc (.int .i64 i.2.2) ∧ s.ρ 4 = .sc (.int .i64 i.1.length) ∧ s.h 31 = none ∧ s.n = 32) ([], b, 778778 + b.length) (by simp [upd_app]) ?_
  rintro ⟨pre, rest, h⟩ ⟨ρ, hh, n⟩ ⟨hx, hp, hE, h0', h3', h4', hf, rfl⟩
  simp only at hx hp hE h0' h3' h4' hf
  refine run_ok (n := 400) ?_
  cases rest with
  | nil =>
    have hl : pre.length = b.length := by rw [← hx]; simp
    have hE2 : h = newH 4000 b (778778 + b.length) := by rw [← hE]; cases 4000 - pre.length <;> rfl
    simp [h0', h4', hl]
    refine T.on 400 ?_
    simp [h0', h3', hf, over, ex1, Cur.cs, newC, ← hE2, idfree.idfreeL, idfree]
  | cons y rest =>
    have hle : pre.length + (rest.length + 1) = b.length := by rw [← hx]; simp
    have hlt : (pre.length : Int) < b.length := by omega
    by_cases h4k : pre.length = 4000
    · have hE2 : h = newH 4000 b (778778 + b.length) := by rw [← hE, h4k]; rfl
      have h4l : ¬ ((pre.length : Int) < 4000) := by omega
      simp [h0', h4', hlt, h4l]
      refine T.on 400 ?_
      simp [h0', h3', hf, over, ex1, Cur.cs, newC, ← hE2, idfree.idfreeL, idfree]
    have h4l : (pre.length : Int) < 4000 := by omega
    have hd := rows_drop B.len pre (y :: rest)
    rw [hx, rows_cons, Nat.mul_one] at hd
    have hw : IntKind.i64.wrap ((pre.length : Int) + 1) = pre.length + 1 := wrap_i64 (by omega) (by omega)
    have hs : 4000 - pre.length = (4000 - (pre.length + 1)) + 1 := by omega
    rw [hs] at hE
    simp [h0', h3', h4', hlt, h4l, hd, B, hw]
    refine ⟨pre ++ [y], rest, by simp, newS h y, _, Le.refl _, ?_⟩
    simp [hx, h0', hf, upd_app, ← hE, newH, newS, low30]
    omega
def pickS (l : List ByteArray) (c : Cur) (n : Int) : ByteArray := l[(belowV c n).toNat]?.getD default
theorem pick_size {l : List ByteArray} {n : Nat} (h : ∀ x ∈ l, x.size ≤ n) (c : Cur) (k : Int) : (pickS l c k).size ≤ n := by
  unfold pickS
  cases e : l[(belowV c k).toNat]? with
  | none => exact Nat.zero_le _
  | some y => exact h y (List.mem_of_getElem? e)
theorem rowsRep : ∀ n : Nat, rows B (List.replicate n 0) = List.replicate n (AV.sc (.int .u8 0))
  | 0 => rfl
  | n + 1 => by rw [List.replicate_succ, rows_cons, rowsRep n, List.replicate_succ]; rfl
theorem bytesRep {h : Hp} {b n : Nat} (hb : h b = some (some (List.replicate n (AV.sc (.int .u8 0))))) : bytesA h (.sl b 0 n 1 false) = some (List.replicate n 0) := by
  have hn := B.num (List.replicate n 0)
  rw [rowsRep] at hn
  simp [bytesA, hb, hn]
end Go.Proofs.YtadoadomogceiaaDoor.Am
