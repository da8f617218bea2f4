/- The functions of the program, each by its contract: Damage; no condition. -/
import Derived.Test.YtlajojcobadieaaProg
import Derived.Test.YtlajojcobadieaaAmZ
import Derived.Test.YtlajojcobadieaaAmP
import Derived.Test.YtlajojcobadieaaCopies
import Derived.Test.YtlajojcobadieaaWords
import Derived.KernelRfl
namespace Go.Proofs.Ytlajojcobadieaa.Am
open Go Go.Proofs
set_option linter.unusedSimpArgs false
set_option linter.unusedVariables false
attribute [local congr] T_congr callK_congr callWK_congr
attribute [local simp] run_nil run_op0 run_opg run_seq run_cond run_block run_ret run_skip run_skip_after run_skip_blk run_exit run_exit_after run_exit_blk run_loop run_any runS_nil runS_op0 runS_opg runW_nil runW_op0 runW_opg exec_q exec_w exec_c exec_n execW_q execW_w execW_c restW_app hideH_app merge_app wblk rest_app restS_app execS_q execS_c aval dOk upd_app ev_t ev_c setO_some setO_none put_mk pinsOf isIo hasIo sbin endR fin resL one outL out1 clo1 cloL coe coeL shut shut.shutL wantA weff cellsOf fillA deref natOf ρ0_app h0_app plain plain.plainL keep_app keepH_app andThen_normal andThen_ret andThen_exit pop_nil pop_after pop_after_ret pop_after_exit pop_blk pop_blk_ret pop_blk_exit nilA srcOf srcCells keepR_app keepHR_app renA rb
def xr (y v : Int) : Int := IntKind.u8.wrap (((y % 2 ^ IntKind.u8.bits).toNat ^^^ (v % 2 ^ IntKind.u8.bits).toNat : Nat) : Int)
theorem rowsB_set : ∀ (xs : List Int) (i : Nat) (z : Int), (rows B xs).set i (.sc (.int .u8 z)) = rows B (xs.set i z)
  | [], _, _ => rfl
  | x :: xs, 0, z => by rw [rows_cons]; simp [B, rows_cons]
  | x :: xs, i + 1, z => by rw [rows_cons]; simp [B, rows_cons, rowsB_set xs i z]
def dmg (xs : List Slot) (i a v : Int) : List Slot :=
  if inR i 0 (xs.length - 1) = true ∧ 0 ≤ a then
    match xs[i.toNat]? with
    | some x => if x.b.length = 0 then xs else xs.set i.toNat ⟨x.key, x.b.set (a.toNat % x.b.length) (xr (x.b.getD (a.toNat % x.b.length) 0) (IntKind.u8.wrap v))⟩
    | none => xs
  else xs
/- 21: loop.example/g00464/spec.Damage -/
def A21 : AC := (.seq (.ops [⟨(some 8), none, .q (.mov (.c .em))⟩])
  (.seq (.ops [⟨(some 10), none, .q (.mov (.t 0))⟩, ⟨(some 11), none, .c (.c (.clo 49 [])) [(.t 10)]⟩, ⟨(some 9), none, .q (.mov (.t 11))⟩])
  (.seq (.seq (.ops [⟨(some 12), none, .q (.mov (.t 1))⟩, ⟨(some 13), none, .q (.mov (.t 0))⟩, ⟨(some 14), none, .q (.llen (.t 13))⟩, ⟨(some 15), none, .q (.bin .sub (.t 14) (.c (.sc (.int .i64 1))))⟩, ⟨(some 16), none, .c (.c (.clo 50 [])) [(.t 12), (.c (.sc (.int .i64 0))), (.t 15)]⟩, ⟨(some 17), none, .q (.not (.t 16))⟩, ⟨(some 18), none, .q (.mov (.t 17))⟩, ⟨(some 19), (some (18, false)), .q (.mov (.t 0))⟩, ⟨(some 20), (some (18, false)), .q (.mov (.t 1))⟩, ⟨(some 21), (some (18, false)), .q (.iadr 2 (.t 19) (.t 20))⟩, ⟨(some 22), (some (18, false)), .q (.fadr 1 (.t 21))⟩, ⟨(some 23), (some (18, false)), .q (.load false 1 (.t 22))⟩, ⟨(some 24), (some (18, false)), .q (.llen (.t 23))⟩, ⟨(some 25), (some (18, false)), .q (.bin .eql (.t 24) (.c (.sc (.int .i64 0))))⟩, ⟨(some 26), none, .q (.pick (.t 18) (.c (.sc (.bool true))) (.t 25))⟩, ⟨(some 27), none, .q (.mov (.t 26))⟩, ⟨(some 28), (some (27, false)), .q (.mov (.t 2))⟩, ⟨(some 29), (some (27, false)), .q (.bin .lss (.t 28) (.c (.sc (.int .i64 0))))⟩, ⟨(some 30), none, .q (.pick (.t 27) (.c (.sc (.bool true))) (.t 29))⟩])
  (.cond (.t 30) (.seq (.ops [⟨(some 31), none, .q (.mov (.t 9))⟩, ⟨(some 8), none, .q (.mov (.t 31))⟩])
  .ret)
  .skip))
  (.seq (.any [(⟨(some 32), none, .q (.mov (.t 9))⟩, []), (⟨(some 33), none, .q (.mov (.t 1))⟩, []), (⟨(some 34), none, .q (.iadr 2 (.t 32) (.t 33))⟩, [0, 1]), (⟨(some 35), none, .q (.fadr 1 (.t 34))⟩, [2]), (⟨(some 36), none, .q (.load false 1 (.t 35))⟩, [3]), (⟨(some 37), none, .q (.mov (.t 2))⟩, []), (⟨(some 38), none, .q (.mov (.t 0))⟩, []), (⟨(some 39), none, .q (.mov (.t 1))⟩, []), (⟨(some 40), none, .q (.iadr 2 (.t 38) (.t 39))⟩, [6, 7]), (⟨(some 41), none, .q (.fadr 1 (.t 40))⟩, [8]), (⟨(some 42), none, .q (.load false 1 (.t 41))⟩, [9]), (⟨(some 43), none, .q (.llen (.t 42))⟩, [10]), (⟨(some 44), none, .q (.bin .rem (.t 37) (.t 43))⟩, [5, 11]), (⟨(some 45), none, .q (.iadr 1 (.t 36) (.t 44))⟩, [4, 12]), (⟨(some 46), none, .q (.load false 1 (.t 45))⟩, [13]), (⟨(some 47), none, .q (.mov (.t 3))⟩, []), (⟨(some 48), none, .q (.cvi .u8 (.t 47))⟩, [15]), (⟨(some 49), none, .q (.bin .xor (.t 46) (.t 48))⟩, [14, 16]), (⟨(some 50), none, .q (.iadr 1 (.t 36) (.t 44))⟩, [4, 12, 0, 1, 2, 3, 4, 5, 6, 7, 8, 9, 10, 11, 12, 13, 14, 15, 16, 17]), (⟨none, none, .w (.store 1 (.t 50) (.t 49))⟩, [18, 17, 0, 1, 2, 3, 4, 5, 6, 7, 8, 9, 10, 11, 12, 13, 14, 15, 16, 17])])
  (.seq (.ops [⟨(some 51), none, .q (.mov (.t 9))⟩, ⟨(some 8), none, .q (.mov (.t 51))⟩])
  .ret)))))
theorem K21 : Try.f21.body.bind (comp Try.prog) = some A21 ∧ Try.f21.ntmps = 52 ∧ Try.f21.results.toList.mapM (resB Try.prog) = some [.mov (.t 8)] := ⟨by kernel_rfl, by kernel_rfl, by kernel_rfl⟩
set_option maxHeartbeats 1000000 in
theorem R21 (xs : List Slot) (i a v : Int) (hx : Slot.ty.slice.ok xs) (ha : Ty.int.ok a) : Ret Try.prog 21 [.ro (rows Slot.ty.cs xs) xs.length, .sc (.int .i64 i), .sc (.int .i64 a), .sc (.int .i64 v)] (.own (rows Slot.ty.oc (dmg xs i a v)) (dmg xs i a v).length 2) [.un, .un, .un, .un] := by
  have hb : xs.length * 48 ≤ 140737488351232 := hx.1
  have hs : ∀ x ∈ xs, Slot.ty.ok x := hx.2
  have hfl : flt (.own (rows Slot.ty.oc xs) xs.length 2) = true := by
    have h : flt.fltL [.own (rows Slot.ty.oc xs) xs.length 2] = true := Slot.ty.slice.flL xs
    simpa [flt.fltL] using h
  have hw : IntKind.i64.wrap ((xs.length : Int) - 1) = xs.length - 1 := wrap_i64 (by omega) (by omega)
  refine Ret.run Try.func21 K21 (by simp) rfl rfl 900 ?_
  simp [A21, iniρ]
  refine callK.own 11 rfl (by kernel_rfl) (by simp [roc_ro]) (R49 xs hx) hfl (by simp) rfl ?_
  simp [hw]
  refine callK.ro 0 rfl (by kernel_rfl) (by simp [roc_sc]) (R50 i 0 (xs.length - 1)) rfl rfl rfl ?_
  by_cases hR : inR i 0 (xs.length - 1) = true
  case neg =>
    have hR2 : inR i 0 (xs.length - 1) = false := by simpa using hR
    have e : dmg xs i a v = xs := by simp [dmg, hR2]
    simp [hR2, e, ex1, Slot.ocl, Slot.frL]
  obtain ⟨pre, x, rest, hxs, hn⟩ : ∃ pre x rest, xs = pre ++ x :: rest ∧ i = (pre.length : Int) := by
    simp only [inR, Bool.and_eq_true, decide_eq_true_eq] at hR
    have hlt : i.toNat < xs.length := by omega
    refine ⟨xs.take i.toNat, xs[i.toNat], xs.drop (i.toNat + 1), by simp, ?_⟩
    rw [List.length_take]
    omega
  have hle : xs.length = pre.length + (rest.length + 1) := by rw [hxs]; simp
  have hlt : pre.length < xs.length := by omega
  have hlt2 : (pre.length : Int) < xs.length := by omega
  have hg : xs[pre.length]? = some x := by rw [hxs]; simp
  have hd := rows_drop Slot.ty.csn pre (x :: rest)
  rw [← hxs, rows_cons] at hd
  have hd : List.drop (pre.length * 2) (rows Slot.ty.cs xs) = AV.ro (rows B x.key) x.key.length :: AV.ro (rows B x.b) x.b.length :: rows Slot.ty.cs rest := hd
  have hd1 : List.drop (pre.length * 2 + 1) (rows Slot.ty.cs xs) = AV.ro (rows B x.b) x.b.length :: rows Slot.ty.cs rest := by rw [← List.drop_drop, hd]; rfl
  subst hn
  by_cases hB : x.b.length = 0
  case pos =>
    have e : dmg xs pre.length a v = xs := by simp [dmg, hg, hB]
    simp [hR, hlt, hlt2, hd1, hB, e, ex1, Slot.ocl, Slot.frL]
  have hB2 : ¬ ((x.b.length : Int) = 0) := by omega
  by_cases hA : a < 0
  case pos =>
    have hA2 : ¬ (0 ≤ a) := by omega
    have e : dmg xs pre.length a v = xs := by simp [dmg, hA2]
    simp [hR, hlt, hlt2, hd1, hB, hB2, hA, e, ex1, Slot.ocl, Slot.frL]
  obtain ⟨m, rfl⟩ : ∃ m : Nat, a = m := ⟨a.toNat, by omega⟩
  have hm : ¬ ((m : Int) < 0) := by omega
  simp [hR, hlt, hlt2, hd1, hB, hB2, hm]
  obtain ⟨bp, y, br, hbs, hbl⟩ : ∃ bp y br, x.b = bp ++ y :: br ∧ bp.length = m % x.b.length := by
    have hq : m % x.b.length < x.b.length := Nat.mod_lt _ (by omega)
    refine ⟨x.b.take (m % x.b.length), x.b[m % x.b.length], x.b.drop (m % x.b.length + 1), by simp, ?_⟩
    rw [List.length_take]
    omega
  have hbq : bp.length < x.b.length := by rw [hbs]; simp
  have hoc : rows Slot.ty.oc xs = rows Slot.ty.oc pre ++ (AV.own (rows B x.key) x.key.length 1 :: AV.own (rows B x.b) x.b.length 1 :: rows Slot.ty.oc rest) := by rw [hxs, rows_append, rows_cons]; rfl
  have hj : (rows Slot.ty.oc xs)[pre.length * 2 + 1]? = some (.own (rows B x.b) x.b.length 1) := by rw [hoc]; exact get_at Slot.ty.ocn pre _ 1
  refine T.le (Le.open 11 (pre.length * 2 + 1) 60 (by simp [upd_app]) hj (by simp [upd_app]) (idfreeL_rows B.fr _)) ?_
  have hst : (rows Slot.ty.oc xs).set (pre.length * 2 + 1) (.sl 60 0 x.b.length 1 false) = rows Slot.ty.oc pre ++ (AV.own (rows B x.key) x.key.length 1 :: .sl 60 0 x.b.length 1 false :: rows Slot.ty.oc rest) := by rw [hoc]; exact pack_at (n := 2) Slot.ty.ocn pre _ 1 _
  have ho1 : List.drop (pre.length * 2 + 1) (rows Slot.ty.oc pre ++ (AV.own (rows B x.key) x.key.length 1 :: .sl 60 0 x.b.length 1 false :: rows Slot.ty.oc rest)) = .sl 60 0 x.b.length 1 false :: rows Slot.ty.oc rest := by
    rw [← List.drop_drop, ← Slot.ocl pre, List.drop_left]; rfl
  have hrem : (m : Int).tmod x.b.length = bp.length := by rw [hbl]; rfl
  have hyd : List.drop bp.length (rows B x.b) = AV.sc (.int .u8 y) :: rows B br := by
    have := rows_drop B.len bp (y :: br)
    rw [← hbs, Nat.mul_one] at this
    rw [this]; rfl
  have hle3 : bp.length + 1 ≤ x.b.length := hbq
  refine T.cutW 400 [([], []), ([], []), ([], []), ([], []), ([], []), ([], []), ([], []), ([], []), ([], []), ([], []), ([], []), ([], []), ([], []), ([], []), ([], []), ([], []), ([], []), ([], []), ([], []), ([60], [])] mixed (by kernel_rfl) (by kernel_rfl) ?_
  simp [hlt, hlt2, hd1, hst, ho1, hB, hB2, hrem, hyd, hbq, hle3, B.count, over, merge_nil, hideH_nil, cutQ_normal]
  refine ⟨_, Le.pack 11 (pre.length * 2 + 1) (i := 60) (len := x.b.length) (sz := 1) (cs' := rows B (x.b.set bp.length (xr y (IntKind.u8.wrap v)))) (by simp [upd_app]; rfl) ?_ (by simp [upd_app, rowsB_set, xr]) (by decide) (by simp [B.count]) (idfreeL_rows B.fr _), ?_⟩
  · exact get_at (n := 2) Slot.ty.ocn pre _ 1
  have hgd : x.b.getD (m % x.b.length) 0 = y := by rw [← hbl, hbs]; simp
  have e : dmg xs pre.length m v = pre ++ ⟨x.key, x.b.set bp.length (xr y (IntKind.u8.wrap v))⟩ :: rest := by
    have hgd' := hgd
    simp [dmg, hR, hg, hB] at hgd' ⊢
    rw [hgd', ← hbl, hxs]
    simp
  have hst2 : (rows Slot.ty.oc pre ++ (AV.own (rows B x.key) x.key.length 1 :: .sl 60 0 x.b.length 1 false :: rows Slot.ty.oc rest)).set (pre.length * 2 + 1) (.own (rows B (x.b.set bp.length (xr y (IntKind.u8.wrap v)))) x.b.length 1) = rows Slot.ty.oc (pre ++ ⟨x.key, x.b.set bp.length (xr y (IntKind.u8.wrap v))⟩ :: rest) := by
    refine Eq.trans (pack_at (n := 2) Slot.ty.ocn pre _ 1 _) ?_
    rw [rows_append, rows_cons, Slot.oce]
    simp
    exact ⟨rfl, rfl⟩
  have hl9 : (pre ++ (⟨x.key, x.b.set bp.length (xr y (IntKind.u8.wrap v))⟩ : Slot) :: rest).length = xs.length := by rw [hle]; simp
  rw [e, hl9]
  refine T.on 400 ?_
  have hl10 : (pre.length + (rest.length + 1)) * 2 = xs.length * 2 := by rw [hle]
  simp [hst2, ex1, Slot.ocl, Slot.frL, hl10]
/- 22: loop.example/g00464/impl.Damage -/
def A22 : AC := (.seq (.ops [⟨(some 8), none, .q (.mov (.c .em))⟩])
  (.seq (.ops [⟨(some 10), none, .q (.mov (.t 0))⟩, ⟨(some 11), none, .c (.c (.clo 51 [])) [(.t 10)]⟩, ⟨(some 9), none, .q (.mov (.t 11))⟩])
  (.seq (.seq (.ops [⟨(some 12), none, .q (.mov (.t 1))⟩, ⟨(some 13), none, .q (.mov (.t 0))⟩, ⟨(some 14), none, .q (.llen (.t 13))⟩, ⟨(some 15), none, .q (.bin .sub (.t 14) (.c (.sc (.int .i64 1))))⟩, ⟨(some 16), none, .c (.c (.clo 52 [])) [(.t 12), (.c (.sc (.int .i64 0))), (.t 15)]⟩, ⟨(some 17), none, .q (.not (.t 16))⟩, ⟨(some 18), none, .q (.mov (.t 17))⟩, ⟨(some 19), (some (18, false)), .q (.mov (.t 0))⟩, ⟨(some 20), (some (18, false)), .q (.mov (.t 1))⟩, ⟨(some 21), (some (18, false)), .q (.iadr 2 (.t 19) (.t 20))⟩, ⟨(some 22), (some (18, false)), .q (.fadr 1 (.t 21))⟩, ⟨(some 23), (some (18, false)), .q (.load false 1 (.t 22))⟩, ⟨(some 24), (some (18, false)), .q (.llen (.t 23))⟩, ⟨(some 25), (some (18, false)), .q (.bin .eql (.t 24) (.c (.sc (.int .i64 0))))⟩, ⟨(some 26), none, .q (.pick (.t 18) (.c (.sc (.bool true))) (.t 25))⟩, ⟨(some 27), none, .q (.mov (.t 26))⟩, ⟨(some 28), (some (27, false)), .q (.mov (.t 2))⟩, ⟨(some 29), (some (27, false)), .q (.bin .lss (.t 28) (.c (.sc (.int .i64 0))))⟩, ⟨(some 30), none, .q (.pick (.t 27) (.c (.sc (.bool true))) (.t 29))⟩])
  (.cond (.t 30) (.seq (.ops [⟨(some 31), none, .q (.mov (.t 9))⟩, ⟨(some 8), none, .q (.mov (.t 31))⟩])
  .ret)
  .skip))
  (.seq (.any [(⟨(some 32), none, .q (.mov (.t 9))⟩, []), (⟨(some 33), none, .q (.mov (.t 1))⟩, []), (⟨(some 34), none, .q (.iadr 2 (.t 32) (.t 33))⟩, [0, 1]), (⟨(some 35), none, .q (.fadr 1 (.t 34))⟩, [2]), (⟨(some 36), none, .q (.load false 1 (.t 35))⟩, [3]), (⟨(some 37), none, .q (.mov (.t 2))⟩, []), (⟨(some 38), none, .q (.mov (.t 0))⟩, []), (⟨(some 39), none, .q (.mov (.t 1))⟩, []), (⟨(some 40), none, .q (.iadr 2 (.t 38) (.t 39))⟩, [6, 7]), (⟨(some 41), none, .q (.fadr 1 (.t 40))⟩, [8]), (⟨(some 42), none, .q (.load false 1 (.t 41))⟩, [9]), (⟨(some 43), none, .q (.llen (.t 42))⟩, [10]), (⟨(some 44), none, .q (.bin .rem (.t 37) (.t 43))⟩, [5, 11]), (⟨(some 45), none, .q (.iadr 1 (.t 36) (.t 44))⟩, [4, 12]), (⟨(some 46), none, .q (.load false 1 (.t 45))⟩, [13]), (⟨(some 47), none, .q (.mov (.t 3))⟩, []), (⟨(some 48), none, .q (.cvi .u8 (.t 47))⟩, [15]), (⟨(some 49), none, .q (.bin .xor (.t 46) (.t 48))⟩, [14, 16]), (⟨(some 50), none, .q (.iadr 1 (.t 36) (.t 44))⟩, [4, 12, 0, 1, 2, 3, 4, 5, 6, 7, 8, 9, 10, 11, 12, 13, 14, 15, 16, 17]), (⟨none, none, .w (.store 1 (.t 50) (.t 49))⟩, [18, 17, 0, 1, 2, 3, 4, 5, 6, 7, 8, 9, 10, 11, 12, 13, 14, 15, 16, 17])])
  (.seq (.ops [⟨(some 51), none, .q (.mov (.t 9))⟩, ⟨(some 8), none, .q (.mov (.t 51))⟩])
  .ret)))))
theorem K22 : Try.f22.body.bind (comp Try.prog) = some A22 ∧ Try.f22.ntmps = 52 ∧ Try.f22.results.toList.mapM (resB Try.prog) = some [.mov (.t 8)] := ⟨by kernel_rfl, by kernel_rfl, by kernel_rfl⟩
set_option maxHeartbeats 1000000 in
theorem R22 (xs : List Slot) (i a v : Int) (hx : Slot.ty.slice.ok xs) (ha : Ty.int.ok a) : Ret Try.prog 22 [.ro (rows Slot.ty.cs xs) xs.length, .sc (.int .i64 i), .sc (.int .i64 a), .sc (.int .i64 v)] (.own (rows Slot.ty.oc (dmg xs i a v)) (dmg xs i a v).length 2) [.un, .un, .un, .un] := by
  have hb : xs.length * 48 ≤ 140737488351232 := hx.1
  have hs : ∀ x ∈ xs, Slot.ty.ok x := hx.2
  have hfl : flt (.own (rows Slot.ty.oc xs) xs.length 2) = true := by
    have h : flt.fltL [.own (rows Slot.ty.oc xs) xs.length 2] = true := Slot.ty.slice.flL xs
    simpa [flt.fltL] using h
  have hw : IntKind.i64.wrap ((xs.length : Int) - 1) = xs.length - 1 := wrap_i64 (by omega) (by omega)
  refine Ret.run Try.func22 K22 (by simp) rfl rfl 900 ?_
  simp [A22, iniρ]
  refine callK.own 11 rfl (by kernel_rfl) (by simp [roc_ro]) (R51 xs hx) hfl (by simp) rfl ?_
  simp [hw]
  refine callK.ro 0 rfl (by kernel_rfl) (by simp [roc_sc]) (R52 i 0 (xs.length - 1)) rfl rfl rfl ?_
  by_cases hR : inR i 0 (xs.length - 1) = true
  case neg =>
    have hR2 : inR i 0 (xs.length - 1) = false := by simpa using hR
    have e : dmg xs i a v = xs := by simp [dmg, hR2]
    simp [hR2, e, ex1, Slot.ocl, Slot.frL]
  obtain ⟨pre, x, rest, hxs, hn⟩ : ∃ pre x rest, xs = pre ++ x :: rest ∧ i = (pre.length : Int) := by
    simp only [inR, Bool.and_eq_true, decide_eq_true_eq] at hR
    have hlt : i.toNat < xs.length := by omega
    refine ⟨xs.take i.toNat, xs[i.toNat], xs.drop (i.toNat + 1), by simp, ?_⟩
    rw [List.length_take]
    omega
  have hle : xs.length = pre.length + (rest.length + 1) := by rw [hxs]; simp
  have hlt : pre.length < xs.length := by omega
  have hlt2 : (pre.length : Int) < xs.length := by omega
  have hg : xs[pre.length]? = some x := by rw [hxs]; simp
  have hd := rows_drop Slot.ty.csn pre (x :: rest)
  rw [← hxs, rows_cons] at hd
  have hd : List.drop (pre.length * 2) (rows Slot.ty.cs xs) = AV.ro (rows B x.key) x.key.length :: AV.ro (rows B x.b) x.b.length :: rows Slot.ty.cs rest := hd
  have hd1 : List.drop (pre.length * 2 + 1) (rows Slot.ty.cs xs) = AV.ro (rows B x.b) x.b.length :: rows Slot.ty.cs rest := by rw [← List.drop_drop, hd]; rfl
  subst hn
  by_cases hB : x.b.length = 0
  case pos =>
    have e : dmg xs pre.length a v = xs := by simp [dmg, hg, hB]
    simp [hR, hlt, hlt2, hd1, hB, e, ex1, Slot.ocl, Slot.frL]
  have hB2 : ¬ ((x.b.length : Int) = 0) := by omega
  by_cases hA : a < 0
  case pos =>
    have hA2 : ¬ (0 ≤ a) := by omega
    have e : dmg xs pre.length a v = xs := by simp [dmg, hA2]
    simp [hR, hlt, hlt2, hd1, hB, hB2, hA, e, ex1, Slot.ocl, Slot.frL]
  obtain ⟨m, rfl⟩ : ∃ m : Nat, a = m := ⟨a.toNat, by omega⟩
  have hm : ¬ ((m : Int) < 0) := by omega
  simp [hR, hlt, hlt2, hd1, hB, hB2, hm]
  obtain ⟨bp, y, br, hbs, hbl⟩ : ∃ bp y br, x.b = bp ++ y :: br ∧ bp.length = m % x.b.length := by
    have hq : m % x.b.length < x.b.length := Nat.mod_lt _ (by omega)
    refine ⟨x.b.take (m % x.b.length), x.b[m % x.b.length], x.b.drop (m % x.b.length + 1), by simp, ?_⟩
    rw [List.length_take]
    omega
  have hbq : bp.length < x.b.length := by rw [hbs]; simp
  have hoc : rows Slot.ty.oc xs = rows Slot.ty.oc pre ++ (AV.own (rows B x.key) x.key.length 1 :: AV.own (rows B x.b) x.b.length 1 :: rows Slot.ty.oc rest) := by rw [hxs, rows_append, rows_cons]; rfl
  have hj : (rows Slot.ty.oc xs)[pre.length * 2 + 1]? = some (.own (rows B x.b) x.b.length 1) := by rw [hoc]; exact get_at Slot.ty.ocn pre _ 1
  refine T.le (Le.open 11 (pre.length * 2 + 1) 60 (by simp [upd_app]) hj (by simp [upd_app]) (idfreeL_rows B.fr _)) ?_
  have hst : (rows Slot.ty.oc xs).set (pre.length * 2 + 1) (.sl 60 0 x.b.length 1 false) = rows Slot.ty.oc pre ++ (AV.own (rows B x.key) x.key.length 1 :: .sl 60 0 x.b.length 1 false :: rows Slot.ty.oc rest) := by rw [hoc]; exact pack_at (n := 2) Slot.ty.ocn pre _ 1 _
  have ho1 : List.drop (pre.length * 2 + 1) (rows Slot.ty.oc pre ++ (AV.own (rows B x.key) x.key.length 1 :: .sl 60 0 x.b.length 1 false :: rows Slot.ty.oc rest)) = .sl 60 0 x.b.length 1 false :: rows Slot.ty.oc rest := by
    rw [← List.drop_drop, ← Slot.ocl pre, List.drop_left]; rfl
  have hrem : (m : Int).tmod x.b.length = bp.length := by rw [hbl]; rfl
  have hyd : List.drop bp.length (rows B x.b) = AV.sc (.int .u8 y) :: rows B br := by
    have := rows_drop B.len bp (y :: br)
    rw [← hbs, Nat.mul_one] at this
    rw [this]; rfl
  have hle3 : bp.length + 1 ≤ x.b.length := hbq
  refine T.cutW 400 [([], []), ([], []), ([], []), ([], []), ([], []), ([], []), ([], []), ([], []), ([], []), ([], []), ([], []), ([], []), ([], []), ([], []), ([], []), ([], []), ([], []), ([], []), ([], []), ([60], [])] mixed (by kernel_rfl) (by kernel_rfl) ?_
  simp [hlt, hlt2, hd1, hst, ho1, hB, hB2, hrem, hyd, hbq, hle3, B.count, over, merge_nil, hideH_nil, cutQ_normal]
  refine ⟨_, Le.pack 11 (pre.length * 2 + 1) (i := 60) (len := x.b.length) (sz := 1) (cs' := rows B (x.b.set bp.length (xr y (IntKind.u8.wrap v)))) (by simp [upd_app]; rfl) ?_ (by simp [upd_app, rowsB_set, xr]) (by decide) (by simp [B.count]) (idfreeL_rows B.fr _), ?_⟩
  · exact get_at (n := 2) Slot.ty.ocn pre _ 1
  have hgd : x.b.getD (m % x.b.length) 0 = y := by rw [← hbl, hbs]; simp
  have e : dmg xs pre.length m v = pre ++ ⟨x.key, x.b.set bp.length (xr y (IntKind.u8.wrap v))⟩ :: rest := by
    have hgd' := hgd
    simp [dmg, hR, hg, hB] at hgd' ⊢
    rw [hgd', ← hbl, hxs]
    simp
  have hst2 : (rows Slot.ty.oc pre ++ (AV.own (rows B x.key) x.key.length 1 :: .sl 60 0 x.b.length 1 false :: rows Slot.ty.oc rest)).set (pre.length * 2 + 1) (.own (rows B (x.b.set bp.length (xr y (IntKind.u8.wrap v)))) x.b.length 1) = rows Slot.ty.oc (pre ++ ⟨x.key, x.b.set bp.length (xr y (IntKind.u8.wrap v))⟩ :: rest) := by
    refine Eq.trans (pack_at (n := 2) Slot.ty.ocn pre _ 1 _) ?_
    rw [rows_append, rows_cons, Slot.oce]
    simp
    exact ⟨rfl, rfl⟩
  have hl9 : (pre ++ (⟨x.key, x.b.set bp.length (xr y (IntKind.u8.wrap v))⟩ : Slot) :: rest).length = xs.length := by rw [hle]; simp
  rw [e, hl9]
  refine T.on 400 ?_
  have hl10 : (pre.length + (rest.length + 1)) * 2 = xs.length * 2 := by rw [hle]
  simp [hst2, ex1, Slot.ocl, Slot.frL, hl10]
end Go.Proofs.Ytlajojcobadieaa.Am
