/- The functions of the program, each by its contract: Marks2; no condition. -/
import Derived.Test.YtadoadomogceiaaProg
import Derived.Test.YtadoadomogceiaaAmZ
import Derived.Test.YtadoadomogceiaaAmP
import Derived.Test.YtadoadomogceiaaPlumb
import Derived.Test.YtadoadomogceiaaAmD
import Derived.KernelRfl
namespace Go.Proofs.Ytadoadomogceiaa.Am
open Go Go.Proofs
set_option linter.unusedSimpArgs false
set_option linter.unusedVariables false
attribute [local congr] T_congr callK_congr callWK_congr
attribute [local simp] run_nil run_op0 run_opg run_seq run_cond run_block run_ret run_skip run_skip_after run_skip_blk run_exit run_exit_after run_exit_blk run_loop run_any runS_nil runS_op0 runS_opg runW_nil runW_op0 runW_opg exec_q exec_w exec_c exec_n execW_q execW_w execW_c restW_app hideH_app merge_app wblk rest_app restS_app execS_q execS_c aval dOk upd_app ev_t ev_c setO_some setO_none put_mk pinsOf isIo hasIo sbin endR fin resL one outL out1 clo1 cloL coe coeL shut shut.shutL wantA weff cellsOf fillA deref natOf ρ0_app h0_app plain plain.plainL keep_app keepH_app andThen_normal andThen_ret andThen_exit pop_nil pop_after pop_after_ret pop_after_exit pop_blk pop_blk_ret pop_blk_exit nilA srcOf srcCells keepR_app keepHR_app renA rb
def digM (n : Int) : ByteArray := strOfNums [IntKind.u8.wrap (48 + n)]
theorem digM_size (n : Int) : (digM n).size = 1 := rfl
def mtF : Nat → Nat → ByteArray → ByteArray
  | 0, _, a => a
  | k + 1, n, a => if 0 < n then mtF k (n / 10) (digM ((n : Int) % 10) ++ a) else a
def mtext (n : Nat) : ByteArray := (⟨#[109]⟩ : ByteArray) ++ mtF n n ⟨#[]⟩
theorem mtF_size : ∀ (k n : Nat) (a : ByteArray), (mtF k n a).size ≤ a.size + n
  | 0, n, a => Nat.le_add_right _ _
  | k + 1, n, a => by
    rw [mtF]
    split
    · have h := mtF_size k (n / 10) (digM ((n : Int) % 10) ++ a)
      rw [ByteArray.size_append, digM_size] at h
      omega
    · exact Nat.le_add_right _ _
theorem over_at {M R : List AV} {a x : AV} {k : Nat} (h : M.length = k) : over (M ++ a :: R) k [x] = M ++ x :: R := by
  subst h
  simp [over, List.set_append]
/- 102: loop.example/g00464/laws.markText -/
def A102 : AC := (.seq (.ops [⟨(some 2), none, .q (.mov (.c (.sc (.string ⟨#[]⟩))))⟩])
  (.seq (.seq (.ops [⟨(some 4), none, .q (.mov (.t 0))⟩, ⟨(some 5), none, .q (.bin .leq (.t 4) (.c (.sc (.int .i64 0))))⟩])
  (.cond (.t 5) (.seq (.ops [⟨(some 2), none, .q (.mov (.c (.sc (.string ⟨#[109, 48]⟩))))⟩])
  .ret)
  .skip))
  (.seq (.ops [⟨(some 3), none, .q (.mov (.c (.sc (.string ⟨#[]⟩))))⟩])
  (.seq (.block 0 (.loop (.seq (.seq (.ops [⟨(some 6), none, .q (.mov (.t 0))⟩, ⟨(some 7), none, .q (.bin .gtr (.t 6) (.c (.sc (.int .i64 0))))⟩])
  (.cond (.t 7) .skip
  (.exit 0)))
  (.block 1 (.seq (.ops [⟨(some 8), none, .q (.mov (.t 0))⟩, ⟨(some 9), none, .q (.bin .rem (.t 8) (.c (.sc (.int .i64 10))))⟩, ⟨(some 10), none, .q (.bin .add (.c (.sc (.int .i64 48))) (.t 9))⟩, ⟨(some 11), none, .q (.cvi .u8 (.t 10))⟩, ⟨(some 12), none, .w (.bsl 1 1 [(.sc (.int .u8 0))] [(0, 1, (.t 11))])⟩, ⟨(some 13), none, .q (.bstr (.t 12))⟩, ⟨(some 14), none, .q (.mov (.t 3))⟩, ⟨(some 15), none, .q (.bin .add (.t 13) (.t 14))⟩, ⟨(some 3), none, .q (.mov (.t 15))⟩])
  (.ops [⟨(some 16), none, .q (.mov (.t 0))⟩, ⟨(some 17), none, .q (.bin .quo (.t 16) (.c (.sc (.int .i64 10))))⟩, ⟨(some 0), none, .q (.mov (.t 17))⟩]))))))
  (.seq (.ops [⟨(some 18), none, .q (.mov (.t 3))⟩, ⟨(some 19), none, .q (.bin .add (.c (.sc (.string ⟨#[109]⟩))) (.t 18))⟩, ⟨(some 2), none, .q (.mov (.t 19))⟩])
  .ret)))))
theorem K102 : Try.f102.body.bind (comp Try.prog) = some A102 ∧ Try.f102.ntmps = 20 ∧ Try.f102.results.toList.mapM (resB Try.prog) = some [.mov (.t 2)] := ⟨by kernel_rfl, by kernel_rfl, by kernel_rfl⟩
theorem R102 (n : Nat) (h0 : 0 < n) (hn : n < 4611686018427387904) : Ret Try.prog 102 [.sc (.int .i64 n)] (.sc (.string (mtext n))) [.un] := by
  have hnp : ¬ ((n : Int) ≤ 0) := by omega
  refine Ret.run Try.func102 K102 (by simp) rfl rfl 900 ?_
  simp only [A102, iniρ]
  have hn0 : ¬ n = 0 := by omega
  simp [hnp, hn0]
  have hz0 : (⟨#[]⟩ : ByteArray).size + n ≤ n := by show 0 + n ≤ n; omega
  refine T.rounds (μ := fun i : Nat × Nat × ByteArray => i.1)
    (fun i s => i.2.1 ≤ i.1 ∧ i.2.2.size + i.2.1 ≤ n ∧ mtF i.1 i.2.1 i.2.2 = mtF n n ⟨#[]⟩ ∧ s.ρ 0 = .sc (.int .i64 i.2.1) ∧ s.ρ 3 = .sc (.string i.2.2) ∧ s.h 12 = none ∧ s.n = 20) (n, n, ⟨#[]⟩) (by simp [upd_app, hz0]) ?_
  rintro ⟨k, m, a⟩ ⟨ρ, hh, n'⟩ ⟨hk, hs, hE, h0', h3', f1, rfl⟩
  simp only at hk hs hE h0' h3' f1
  refine run_ok (n := 400) ?_
  by_cases h9 : 0 < m
  case neg =>
    have h9' : ¬ ((0 : Int) < m) := by omega
    have hE2 : a = mtF n n ⟨#[]⟩ := by rw [← hE]; cases k <;> simp [mtF, h9]
    have hsz : (⟨#[109]⟩ : ByteArray).size + a.size ≤ 9223372036854775807 := by
      have e : (⟨#[109]⟩ : ByteArray).size = 1 := rfl
      rw [e]; omega
    simp [h0', h9, h9']
    refine T.on 400 ?_
    rw [hE2] at h3' hsz
    simp [h3', hsz, mtext]
  have h9' : (0 : Int) < m := by omega
  obtain ⟨k, rfl⟩ : ∃ k', k = k' + 1 := ⟨k - 1, by omega⟩
  rw [mtF, if_pos h9] at hE
  have hq1 : (m : Int).tdiv 10 = (m : Int) / 10 := rfl
  have hw1 : IntKind.i64.wrap ((m : Int) / 10) = (m : Int) / 10 := wrap_i64 (by omega) (by omega)
  have hr2 : (m : Int).tmod 10 = (m : Int) % 10 := rfl
  have hw2 : IntKind.i64.wrap (48 + (m : Int) % 10) = 48 + (m : Int) % 10 := wrap_i64 (by omega) (by omega)
  have hsz : (strOfNums [IntKind.u8.wrap (48 + (m : Int) % 10)]).size + a.size ≤ 9223372036854775807 := by
    have := digM_size ((m : Int) % 10)
    rw [digM] at this
    rw [this]; omega
  simp [h0', h3', h9, h9', f1, over, hq1, hw1, hr2, hw2, bytesA, num8, hsz]
  refine ⟨k, by omega, m / 10, digM ((m : Int) % 10) ++ a, _, Le.reset [0, 3] [] (by simp [upd_app, menB, idfree]) (by simp), ?_⟩
  simp [upd_app, hE, digM_size]
  exact ⟨by omega, by omega, rfl⟩
def Doc.mark (_ : Doc) (k : Int) : Doc := ⟨mtext k.toNat, mtext (k.toNat + 1)⟩
def Doc.tot (_ : Doc) : Nat := 2
def Op.mark (_ : Op) (k : Int) : Op := ⟨k, mtext (k.toNat + 1), mtext (k.toNat + 2)⟩
def Op.tot (_ : Op) : Nat := 3
theorem Doc.totL (xs : List Doc) : toL Doc.tot xs = 2 * xs.length := by
  induction xs with
  | nil => rfl
  | cons x xs ih => simp only [toL, Doc.tot, ih, List.length_cons]; omega
theorem Op.totL (xs : List Op) : toL Op.tot xs = 3 * xs.length := by
  induction xs with
  | nil => rfl
  | cons x xs ih => simp only [toL, Op.tot, ih, List.length_cons]; omega
/- 34: loop.example/g00464/laws.markDocS -/
def A34 : AC := (.seq (.ops [⟨(some 4), none, .q (.mov (.c (.sc (.int .i64 0))))⟩])
  (.seq (.seq (.ops [⟨(some 5), none, .q (.mov (.c (.sc (.int .i64 0))))⟩])
  (.block 0 (.loop (.seq (.seq (.ops [⟨(some 6), none, .q (.mov (.t 5))⟩, ⟨(some 7), none, .q (.mov (.t 0))⟩, ⟨(some 8), none, .q (.llen (.t 7))⟩, ⟨(some 9), none, .q (.bin .lss (.t 6) (.t 8))⟩])
  (.cond (.t 9) .skip
  (.exit 0)))
  (.seq (.block 1 (.seq (.ops [⟨(some 12), none, .q (.mov (.t 0))⟩, ⟨(some 13), none, .q (.mov (.t 5))⟩, ⟨(some 14), none, .q (.mov (.t 1))⟩, ⟨(some 15), none, .c (.c (.clo 102 [])) [(.t 14)]⟩, ⟨(some 16), none, .q (.iadr 2 (.t 12) (.t 13))⟩, ⟨(some 17), none, .q (.fadr 0 (.t 16))⟩, ⟨none, none, .w (.store 1 (.t 17) (.t 15))⟩])
  (.seq (.ops [⟨(some 18), none, .q (.mov (.t 1))⟩, ⟨(some 19), none, .q (.bin .add (.t 18) (.c (.sc (.int .i64 1))))⟩, ⟨(some 1), none, .q (.mov (.t 19))⟩])
  (.seq (.ops [⟨(some 20), none, .q (.mov (.t 0))⟩, ⟨(some 21), none, .q (.mov (.t 5))⟩, ⟨(some 22), none, .q (.mov (.t 1))⟩, ⟨(some 23), none, .c (.c (.clo 102 [])) [(.t 22)]⟩, ⟨(some 24), none, .q (.iadr 2 (.t 20) (.t 21))⟩, ⟨(some 25), none, .q (.fadr 1 (.t 24))⟩, ⟨none, none, .w (.store 1 (.t 25) (.t 23))⟩])
  (.ops [⟨(some 26), none, .q (.mov (.t 1))⟩, ⟨(some 27), none, .q (.bin .add (.t 26) (.c (.sc (.int .i64 1))))⟩, ⟨(some 1), none, .q (.mov (.t 27))⟩])))))
  (.ops [⟨(some 10), none, .q (.mov (.t 5))⟩, ⟨(some 11), none, .q (.bin .add (.t 10) (.c (.sc (.int .i64 1))))⟩, ⟨(some 5), none, .q (.mov (.t 11))⟩]))))))
  (.seq (.ops [⟨(some 28), none, .q (.mov (.t 1))⟩, ⟨(some 4), none, .q (.mov (.t 28))⟩])
  .ret)))
theorem K34 : Try.f34.body.bind (comp Try.prog) = some A34 ∧ Try.f34.ntmps = 29 ∧ Try.f34.results.toList.mapM (resB Try.prog) = some [.mov (.t 4)] := ⟨by kernel_rfl, by kernel_rfl, by kernel_rfl⟩
theorem R34 (xs : List Doc) (k : Nat) (hk : 0 < k) (hb : k + 2 * xs.length < 4611686018427387904) : MRet Try.prog 34 (rows Doc.ty.oc xs) xs.length 2 (.sc (.int .i64 k)) (.sc (.int .i64 ((k + 2 * xs.length : Nat) : Int))) (rows Doc.ty.oc (mkL Doc.mark Doc.tot xs k)) := by
  constructor
  · intro hpos
    refine Ret.run Try.func34 K34 (by simp) rfl rfl 500 ?_
    simp [A34, iniρ]
    refine T.rounds (μ := fun i : List Doc × List Doc × Nat => i.2.1.length)
      (fun i s => i.1 ++ i.2.1 = xs ∧ i.2.2 = k + 2 * i.1.length ∧ s.ρ 0 = .sl 100000 0 xs.length 2 false ∧ s.ρ 1 = .sc (.int .i64 i.2.2) ∧ s.ρ 5 = .sc (.int .i64 i.1.length) ∧ s.h 100000 = some (some (rows Doc.ty.oc (mkL Doc.mark Doc.tot i.1 k) ++ rows Doc.ty.oc i.2.1)) ∧ s.n = 29) ([], xs, k) (by simp [upd_app, mkL, rows_nil]) ?_
    rintro ⟨pre, rest, q⟩ ⟨ρ, hh, n⟩ ⟨hx, hq, h0', h1', h5', h7', rfl⟩
    simp only at hx hq h0' h1' h5' h7'
    refine run_ok (n := 400) ?_
    cases rest with
    | nil =>
      simp at hx
      subst hx
      simp [h0', h5']
      refine T.on 400 ?_
      simp [h0', h1', h7', ex1, rows_nil, Doc.ocl, Doc.frL, ioPos1, hpos, mkL_len, hq]
    | cons x rest =>
      have hle : pre.length + (rest.length + 1) = xs.length := by rw [← hx]; simp
      have hlt : (pre.length : Int) < xs.length := by omega
      have hw : IntKind.i64.wrap ((pre.length : Int) + 1) = pre.length + 1 := wrap_i64 (by omega) (by omega)
      have hw1 : IntKind.i64.wrap ((q : Int) + 1) = q + 1 := wrap_i64 (by omega) (by omega)
      have hw2 : IntKind.i64.wrap ((q : Int) + 1 + 1) = q + 1 + 1 := wrap_i64 (by omega) (by omega)
      obtain ⟨M, hM⟩ : ∃ M, M = rows Doc.ty.oc (mkL Doc.mark Doc.tot pre k) := ⟨_, rfl⟩
      have hMl : M.length = pre.length * 2 := by rw [hM, Doc.ocl, mkL_len]
      rw [← hM, rows_cons, Doc.oce] at h7'
      have h7' : hh 100000 = some (some (M ++ AV.sc (.string x.name) :: AV.sc (.string x.text) :: rows Doc.ty.oc rest)) := h7'
      have ho1 : over (M ++ AV.sc (.string x.name) :: AV.sc (.string x.text) :: rows Doc.ty.oc rest) (pre.length * 2) [AV.sc (.string (mtext q))] = M ++ AV.sc (.string (mtext q)) :: AV.sc (.string x.text) :: rows Doc.ty.oc rest := over_at hMl
      have ho2 : over (M ++ AV.sc (.string (mtext q)) :: AV.sc (.string x.text) :: rows Doc.ty.oc rest) (pre.length * 2 + 1) [AV.sc (.string (mtext (q + 1)))] = M ++ AV.sc (.string (mtext q)) :: AV.sc (.string (mtext (q + 1))) :: rows Doc.ty.oc rest := by
        have := over_at (M := M ++ [AV.sc (.string (mtext q))]) (R := rows Doc.ty.oc rest) (a := AV.sc (.string x.text)) (x := AV.sc (.string (mtext (q + 1)))) (k := pre.length * 2 + 1) (by simp [hMl])
        simpa using this
      have g1 : pre.length * 2 + 1 ≤ M.length + ((rows Doc.ty.oc rest).length + 1 + 1) := by omega
      have g2 : pre.length * 2 + 1 + 1 ≤ M.length + ((rows Doc.ty.oc rest).length + 1 + 1) := by omega
      have hRm1 := R102 q (by omega) (by omega)
      have hRm2 := R102 (q + 1) (by omega) (by omega)
      simp only [Int.natCast_add, Int.natCast_one] at hRm2
      simp [h0', h1', h5', hlt]
      refine callK.ro 0 rfl (by kernel_rfl) (by simp [roc_sc, upd_app]) hRm1 rfl rfl rfl ?_
      simp [h0', h1', h5', h7', hlt, ho1, hw1, g1]
      refine callK.ro 0 rfl (by kernel_rfl) (by simp [roc_sc, upd_app]) hRm2 rfl rfl rfl ?_
      simp [h0', h5', hlt, ho2, hw, hw1, hw2, g2]
      refine ⟨pre ++ [x], rest, by simp, q + 2, _, Le.refl _, ?_⟩
      have e : (k : Int) + 2 * pre.length = q := by omega
      have e2 : rows Doc.ty.oc (mkL Doc.mark Doc.tot (pre ++ [x]) k) = M ++ [.sc (.string (mtext q)), .sc (.string (mtext (q + 1)))] := by
        rw [mkL_app, rows_append, hM]
        congr 1
        have e3 : (k : Int) + (toL Doc.tot pre : Nat) = q := by rw [Doc.totL]; omega
        rw [e3]
        simp [mkL, Doc.mark, rows_cons, rows_nil, Doc.oce]
      simp [hx, h0', upd_app, e2]
      omega
  · intro h
    have e : xs = [] := List.length_eq_zero_iff.1 h
    subst e
    refine Ret.run Try.func34 K34 (by simp) rfl rfl 500 ?_
    simp [A34, iniρ]
    refine T.rounds (μ := fun i : Nat => i) (fun i s => s.ρ 0 = .ro [] 0 ∧ s.ρ 1 = .sc (.int .i64 k) ∧ s.ρ 5 = .sc (.int .i64 0) ∧ s.n = 29) 0 (by simp [upd_app]) ?_
    rintro i ⟨ρ, hh, n⟩ ⟨h0', h1', h5', rfl⟩
    simp only at h0' h1' h5'
    refine run_ok (n := 400) ?_
    simp [h0', h5']
    refine T.on 400 ?_
    simp [h1']
/- 35: loop.example/g00464/laws.heldDocS -/
def A35 : AC := (.seq (.ops [⟨(some 4), none, .q (.mov (.c (.sc (.int .i64 0))))⟩])
  (.seq (.seq (.ops [⟨(some 5), none, .q (.mov (.c (.sc (.int .i64 0))))⟩])
  (.block 0 (.loop (.seq (.seq (.ops [⟨(some 6), none, .q (.mov (.t 5))⟩, ⟨(some 7), none, .q (.mov (.t 0))⟩, ⟨(some 8), none, .q (.llen (.t 7))⟩, ⟨(some 9), none, .q (.bin .lss (.t 6) (.t 8))⟩])
  (.cond (.t 9) .skip
  (.exit 0)))
  (.seq (.block 1 (.seq (.seq (.any [(⟨(some 12), none, .q (.mov (.t 0))⟩, []), (⟨(some 13), none, .q (.mov (.t 5))⟩, []), (⟨(some 14), none, .q (.iadr 2 (.t 12) (.t 13))⟩, [0, 1]), (⟨(some 15), none, .q (.fadr 0 (.t 14))⟩, [2]), (⟨(some 16), none, .q (.load false 1 (.t 15))⟩, [3]), (⟨(some 17), none, .q (.mov (.t 1))⟩, []), (⟨(some 18), none, .c (.c (.clo 102 [])) [(.t 17)]⟩, [5]), (⟨(some 19), none, .q (.bin .neq (.t 16) (.t 18))⟩, [4, 6])])
  (.cond (.t 19) (.seq (.ops [⟨(some 4), none, .q (.mov (.c (.sc (.int .i64 (-1)))))⟩])
  .ret)
  .skip))
  (.seq (.ops [⟨(some 20), none, .q (.mov (.t 1))⟩, ⟨(some 21), none, .q (.bin .add (.t 20) (.c (.sc (.int .i64 1))))⟩, ⟨(some 1), none, .q (.mov (.t 21))⟩])
  (.seq (.seq (.any [(⟨(some 22), none, .q (.mov (.t 0))⟩, []), (⟨(some 23), none, .q (.mov (.t 5))⟩, []), (⟨(some 24), none, .q (.iadr 2 (.t 22) (.t 23))⟩, [0, 1]), (⟨(some 25), none, .q (.fadr 1 (.t 24))⟩, [2]), (⟨(some 26), none, .q (.load false 1 (.t 25))⟩, [3]), (⟨(some 27), none, .q (.mov (.t 1))⟩, []), (⟨(some 28), none, .c (.c (.clo 102 [])) [(.t 27)]⟩, [5]), (⟨(some 29), none, .q (.bin .neq (.t 26) (.t 28))⟩, [4, 6])])
  (.cond (.t 29) (.seq (.ops [⟨(some 4), none, .q (.mov (.c (.sc (.int .i64 (-1)))))⟩])
  .ret)
  .skip))
  (.ops [⟨(some 30), none, .q (.mov (.t 1))⟩, ⟨(some 31), none, .q (.bin .add (.t 30) (.c (.sc (.int .i64 1))))⟩, ⟨(some 1), none, .q (.mov (.t 31))⟩])))))
  (.ops [⟨(some 10), none, .q (.mov (.t 5))⟩, ⟨(some 11), none, .q (.bin .add (.t 10) (.c (.sc (.int .i64 1))))⟩, ⟨(some 5), none, .q (.mov (.t 11))⟩]))))))
  (.seq (.ops [⟨(some 32), none, .q (.mov (.t 1))⟩, ⟨(some 4), none, .q (.mov (.t 32))⟩])
  .ret)))
theorem K35 : Try.f35.body.bind (comp Try.prog) = some A35 ∧ Try.f35.ntmps = 33 ∧ Try.f35.results.toList.mapM (resB Try.prog) = some [.mov (.t 4)] := ⟨by kernel_rfl, by kernel_rfl, by kernel_rfl⟩
theorem R35 (xs : List Doc) (k : Nat) (hk : 0 < k) (hb : k + 2 * xs.length < 4611686018427387904) : Ret Try.prog 35 [.ro (rows Doc.ty.cs (mkL Doc.mark Doc.tot xs k)) xs.length, .sc (.int .i64 k)] (.sc (.int .i64 ((k + 2 * xs.length : Nat) : Int))) [.un, .un] := by
  refine Ret.run Try.func35 K35 (by simp) rfl rfl 500 ?_
  simp [A35, iniρ]
  obtain ⟨ms, hms⟩ : ∃ ms, ms = mkL Doc.mark Doc.tot xs k := ⟨_, rfl⟩
  rw [← hms]
  refine T.rounds (μ := fun i : List Doc × List Doc × Nat => i.2.1.length)
    (fun i s => i.1 ++ i.2.1 = xs ∧ i.2.2 = k + 2 * i.1.length ∧ s.ρ 0 = .ro (rows Doc.ty.cs ms) xs.length ∧ s.ρ 1 = .sc (.int .i64 i.2.2) ∧ s.ρ 5 = .sc (.int .i64 i.1.length) ∧ s.h = h0 ∧ s.n = 33) ([], xs, k) (by simp [upd_app]) ?_
  rintro ⟨pre, rest, q⟩ ⟨ρ, hh, n⟩ ⟨hx, hq, h0', h1', h5', rfl, rfl⟩
  simp only at hx hq h0' h1' h5'
  refine run_ok (n := 400) ?_
  cases rest with
  | nil =>
    simp at hx
    subst hx
    simp [h0', h5']
    refine T.on 400 ?_
    simp [h1', hq]
  | cons x rest =>
    have hle : pre.length + (rest.length + 1) = xs.length := by rw [← hx]; simp
    have hlt : (pre.length : Int) < xs.length := by omega
    have hw : IntKind.i64.wrap ((pre.length : Int) + 1) = pre.length + 1 := wrap_i64 (by omega) (by omega)
    have hw1 : IntKind.i64.wrap ((q : Int) + 1) = q + 1 := wrap_i64 (by omega) (by omega)
    have hw2 : IntKind.i64.wrap ((q : Int) + 1 + 1) = q + 1 + 1 := wrap_i64 (by omega) (by omega)
    have hRm1 := R102 q (by omega) (by omega)
    have hRm2 := R102 (q + 1) (by omega) (by omega)
    simp only [Int.natCast_add, Int.natCast_one] at hRm2
    have e3 : (k : Int) + (toL Doc.tot pre : Nat) = q := by rw [Doc.totL]; omega
    have hd : List.drop (pre.length * 2) (rows Doc.ty.cs ms) = AV.sc (.string (mtext q)) :: AV.sc (.string (mtext (q + 1))) :: rows Doc.ty.cs (mkL Doc.mark Doc.tot rest (q + Doc.tot x)) := by
      have e := rows_drop Doc.ty.csn (mkL Doc.mark Doc.tot pre k) (mkL Doc.mark Doc.tot (x :: rest) (k + toL Doc.tot pre))
      rw [← mkL_app, hx, mkL_len, ← hms, e3] at e
      have e : List.drop (pre.length * 2) (rows Doc.ty.cs ms) = _ := e
      rw [e, mkL, rows_cons, Doc.cse]
      simp [Doc.mark]
    have hd1 : List.drop (pre.length * 2 + 1) (rows Doc.ty.cs ms) = AV.sc (.string (mtext (q + 1))) :: rows Doc.ty.cs (mkL Doc.mark Doc.tot rest (q + Doc.tot x)) := by
      rw [← List.drop_drop, hd]; rfl
    simp [h0', h5', hlt]
    refine T.text 400 mixed (by kernel_rfl) (by kernel_rfl) ?_
    simp [h0', h1', h5', hlt, hd]
    refine callSK.by rfl (by kernel_rfl) (by simp [roc_sc, upd_app]) hRm1 ?_
    simp [h0', h1', h5', hlt, hw1]
    refine T.text 400 mixed (by kernel_rfl) (by kernel_rfl) ?_
    simp [h0', h5', hlt, hd1]
    refine callSK.by rfl (by kernel_rfl) (by simp [roc_sc, upd_app]) hRm2 ?_
    simp [h0', h5', hlt, hw, hw1, hw2]
    refine ⟨pre ++ [x], rest, by simp, q + 2, _, Le.refl _, ?_⟩
    simp [hx, h0', upd_app]
    omega
/- 101: loop.example/g00464/laws.markOpS -/
def A101 : AC := (.seq (.ops [⟨(some 4), none, .q (.mov (.c (.sc (.int .i64 0))))⟩])
  (.seq (.seq (.ops [⟨(some 5), none, .q (.mov (.c (.sc (.int .i64 0))))⟩])
  (.block 0 (.loop (.seq (.seq (.ops [⟨(some 6), none, .q (.mov (.t 5))⟩, ⟨(some 7), none, .q (.mov (.t 0))⟩, ⟨(some 8), none, .q (.llen (.t 7))⟩, ⟨(some 9), none, .q (.bin .lss (.t 6) (.t 8))⟩])
  (.cond (.t 9) .skip
  (.exit 0)))
  (.seq (.block 1 (.seq (.ops [⟨(some 12), none, .q (.mov (.t 0))⟩, ⟨(some 13), none, .q (.mov (.t 5))⟩, ⟨(some 14), none, .q (.mov (.t 1))⟩, ⟨(some 15), none, .q (.iadr 3 (.t 12) (.t 13))⟩, ⟨(some 16), none, .q (.fadr 0 (.t 15))⟩, ⟨none, none, .w (.store 1 (.t 16) (.t 14))⟩])
  (.seq (.ops [⟨(some 17), none, .q (.mov (.t 1))⟩, ⟨(some 18), none, .q (.bin .add (.t 17) (.c (.sc (.int .i64 1))))⟩, ⟨(some 1), none, .q (.mov (.t 18))⟩])
  (.seq (.ops [⟨(some 19), none, .q (.mov (.t 0))⟩, ⟨(some 20), none, .q (.mov (.t 5))⟩, ⟨(some 21), none, .q (.mov (.t 1))⟩, ⟨(some 22), none, .c (.c (.clo 102 [])) [(.t 21)]⟩, ⟨(some 23), none, .q (.iadr 3 (.t 19) (.t 20))⟩, ⟨(some 24), none, .q (.fadr 1 (.t 23))⟩, ⟨none, none, .w (.store 1 (.t 24) (.t 22))⟩])
  (.seq (.ops [⟨(some 25), none, .q (.mov (.t 1))⟩, ⟨(some 26), none, .q (.bin .add (.t 25) (.c (.sc (.int .i64 1))))⟩, ⟨(some 1), none, .q (.mov (.t 26))⟩])
  (.seq (.ops [⟨(some 27), none, .q (.mov (.t 0))⟩, ⟨(some 28), none, .q (.mov (.t 5))⟩, ⟨(some 29), none, .q (.mov (.t 1))⟩, ⟨(some 30), none, .c (.c (.clo 102 [])) [(.t 29)]⟩, ⟨(some 31), none, .q (.iadr 3 (.t 27) (.t 28))⟩, ⟨(some 32), none, .q (.fadr 2 (.t 31))⟩, ⟨none, none, .w (.store 1 (.t 32) (.t 30))⟩])
  (.ops [⟨(some 33), none, .q (.mov (.t 1))⟩, ⟨(some 34), none, .q (.bin .add (.t 33) (.c (.sc (.int .i64 1))))⟩, ⟨(some 1), none, .q (.mov (.t 34))⟩])))))))
  (.ops [⟨(some 10), none, .q (.mov (.t 5))⟩, ⟨(some 11), none, .q (.bin .add (.t 10) (.c (.sc (.int .i64 1))))⟩, ⟨(some 5), none, .q (.mov (.t 11))⟩]))))))
  (.seq (.ops [⟨(some 35), none, .q (.mov (.t 1))⟩, ⟨(some 4), none, .q (.mov (.t 35))⟩])
  .ret)))
theorem K101 : Try.f101.body.bind (comp Try.prog) = some A101 ∧ Try.f101.ntmps = 36 ∧ Try.f101.results.toList.mapM (resB Try.prog) = some [.mov (.t 4)] := ⟨by kernel_rfl, by kernel_rfl, by kernel_rfl⟩
theorem R101 (xs : List Op) (k : Nat) (hk : 0 < k) (hb : k + 3 * xs.length < 4611686018427387904) : MRet Try.prog 101 (rows Op.ty.oc xs) xs.length 3 (.sc (.int .i64 k)) (.sc (.int .i64 ((k + 3 * xs.length : Nat) : Int))) (rows Op.ty.oc (mkL Op.mark Op.tot xs k)) := by
  constructor
  · intro hpos
    refine Ret.run Try.func101 K101 (by simp) rfl rfl 500 ?_
    simp [A101, iniρ]
    refine T.rounds (μ := fun i : List Op × List Op × Nat => i.2.1.length)
      (fun i s => i.1 ++ i.2.1 = xs ∧ i.2.2 = k + 3 * i.1.length ∧ s.ρ 0 = .sl 100000 0 xs.length 3 false ∧ s.ρ 1 = .sc (.int .i64 i.2.2) ∧ s.ρ 5 = .sc (.int .i64 i.1.length) ∧ s.h 100000 = some (some (rows Op.ty.oc (mkL Op.mark Op.tot i.1 k) ++ rows Op.ty.oc i.2.1)) ∧ s.n = 36) ([], xs, k) (by simp [upd_app, mkL, rows_nil]) ?_
    rintro ⟨pre, rest, q⟩ ⟨ρ, hh, n⟩ ⟨hx, hq, h0', h1', h5', h7', rfl⟩
    simp only at hx hq h0' h1' h5' h7'
    refine run_ok (n := 400) ?_
    cases rest with
    | nil =>
      simp at hx
      subst hx
      simp [h0', h5']
      refine T.on 400 ?_
      simp [h0', h1', h7', ex1, rows_nil, Op.ocl, Op.frL, ioPos1, hpos, mkL_len, hq]
    | cons x rest =>
      have hle : pre.length + (rest.length + 1) = xs.length := by rw [← hx]; simp
      have hlt : (pre.length : Int) < xs.length := by omega
      have hw : IntKind.i64.wrap ((pre.length : Int) + 1) = pre.length + 1 := wrap_i64 (by omega) (by omega)
      have hw1 : IntKind.i64.wrap ((q : Int) + 1) = q + 1 := wrap_i64 (by omega) (by omega)
      have hw2 : IntKind.i64.wrap ((q : Int) + 1 + 1) = q + 1 + 1 := wrap_i64 (by omega) (by omega)
      have hw3 : IntKind.i64.wrap ((q : Int) + 1 + 1 + 1) = q + 1 + 1 + 1 := wrap_i64 (by omega) (by omega)
      obtain ⟨M, hM⟩ : ∃ M, M = rows Op.ty.oc (mkL Op.mark Op.tot pre k) := ⟨_, rfl⟩
      have hMl : M.length = pre.length * 3 := by rw [hM, Op.ocl, mkL_len]
      rw [← hM, rows_cons, Op.oce] at h7'
      obtain ⟨R, hR⟩ : ∃ R, R = rows Op.ty.oc rest := ⟨_, rfl⟩
      rw [← hR] at h7'
      have h7' : hh 100000 = some (some (M ++ AV.sc (.int .i64 x.kind) :: AV.sc (.string x.a) :: AV.sc (.string x.b) :: R)) := h7'
      have ho1 : over (M ++ AV.sc (.int .i64 x.kind) :: AV.sc (.string x.a) :: AV.sc (.string x.b) :: R) (pre.length * 3) [AV.sc (.int .i64 q)] = M ++ AV.sc (.int .i64 q) :: AV.sc (.string x.a) :: AV.sc (.string x.b) :: R := over_at hMl
      have ho2 : over (M ++ AV.sc (.int .i64 q) :: AV.sc (.string x.a) :: AV.sc (.string x.b) :: R) (pre.length * 3 + 1) [AV.sc (.string (mtext (q + 1)))] = M ++ AV.sc (.int .i64 q) :: AV.sc (.string (mtext (q + 1))) :: AV.sc (.string x.b) :: R := by
        have := over_at (M := M ++ [AV.sc (.int .i64 q)]) (R := AV.sc (.string x.b) :: R) (a := AV.sc (.string x.a)) (x := AV.sc (.string (mtext (q + 1)))) (k := pre.length * 3 + 1) (by simp [hMl])
        simpa using this
      have ho3 : over (M ++ AV.sc (.int .i64 q) :: AV.sc (.string (mtext (q + 1))) :: AV.sc (.string x.b) :: R) (pre.length * 3 + 2) [AV.sc (.string (mtext (q + 1 + 1)))] = M ++ AV.sc (.int .i64 q) :: AV.sc (.string (mtext (q + 1))) :: AV.sc (.string (mtext (q + 1 + 1))) :: R := by
        have := over_at (M := M ++ [AV.sc (.int .i64 q), AV.sc (.string (mtext (q + 1)))]) (R := R) (a := AV.sc (.string x.b)) (x := AV.sc (.string (mtext (q + 1 + 1)))) (k := pre.length * 3 + 2) (by simp [hMl])
        simpa using this
      have g1 : pre.length * 3 + 1 ≤ M.length + (R.length + 1 + 1 + 1) := by omega
      have g2 : pre.length * 3 + 1 + 1 ≤ M.length + (R.length + 1 + 1 + 1) := by omega
      have g3 : pre.length * 3 + 2 + 1 ≤ M.length + (R.length + 1 + 1 + 1) := by omega
      have hRm2 := R102 (q + 1) (by omega) (by omega)
      have hRm3 := R102 (q + 1 + 1) (by omega) (by omega)
      simp only [Int.natCast_add, Int.natCast_one] at hRm2 hRm3
      simp [h0', h1', h5', h7', hlt, ho1, hw1, g1]
      refine callK.ro 0 rfl (by kernel_rfl) (by simp [roc_sc, upd_app]) hRm2 rfl rfl rfl ?_
      simp [h0', h5', hlt, ho2, hw2, g2]
      refine callK.ro 0 rfl (by kernel_rfl) (by simp [roc_sc, upd_app]) hRm3 rfl rfl rfl ?_
      simp [h0', h5', hlt, ho3, hw, hw3, g3]
      refine ⟨pre ++ [x], rest, by simp, q + 3, _, Le.refl _, ?_⟩
      have e2 : rows Op.ty.oc (mkL Op.mark Op.tot (pre ++ [x]) k) = M ++ [.sc (.int .i64 q), .sc (.string (mtext (q + 1))), .sc (.string (mtext (q + 1 + 1)))] := by
        rw [mkL_app, rows_append, hM]
        congr 1
        have e3 : (k : Int) + (toL Op.tot pre : Nat) = q := by rw [Op.totL]; omega
        rw [e3]
        simp [mkL, Op.mark, rows_cons, rows_nil, Op.oce]
      simp [hx, h0', upd_app, e2, hR]
      omega
  · intro h
    have e : xs = [] := List.length_eq_zero_iff.1 h
    subst e
    refine Ret.run Try.func101 K101 (by simp) rfl rfl 500 ?_
    simp [A101, iniρ]
    refine T.rounds (μ := fun i : Nat => i) (fun i s => s.ρ 0 = .ro [] 0 ∧ s.ρ 1 = .sc (.int .i64 k) ∧ s.ρ 5 = .sc (.int .i64 0) ∧ s.n = 36) 0 (by simp [upd_app]) ?_
    rintro i ⟨ρ, hh, n⟩ ⟨h0', h1', h5', rfl⟩
    simp only at h0' h1' h5'
    refine run_ok (n := 400) ?_
    simp [h0', h5']
    refine T.on 400 ?_
    simp [h1']
/- 116: loop.example/g00464/laws.heldOpS -/
def A116 : AC := (.seq (.ops [⟨(some 4), none, .q (.mov (.c (.sc (.int .i64 0))))⟩])
  (.seq (.seq (.ops [⟨(some 5), none, .q (.mov (.c (.sc (.int .i64 0))))⟩])
  (.block 0 (.loop (.seq (.seq (.ops [⟨(some 6), none, .q (.mov (.t 5))⟩, ⟨(some 7), none, .q (.mov (.t 0))⟩, ⟨(some 8), none, .q (.llen (.t 7))⟩, ⟨(some 9), none, .q (.bin .lss (.t 6) (.t 8))⟩])
  (.cond (.t 9) .skip
  (.exit 0)))
  (.seq (.block 1 (.seq (.seq (.ops [⟨(some 12), none, .q (.mov (.t 0))⟩, ⟨(some 13), none, .q (.mov (.t 5))⟩, ⟨(some 14), none, .q (.iadr 3 (.t 12) (.t 13))⟩, ⟨(some 15), none, .q (.fadr 0 (.t 14))⟩, ⟨(some 16), none, .q (.load false 1 (.t 15))⟩, ⟨(some 17), none, .q (.mov (.t 1))⟩, ⟨(some 18), none, .q (.bin .neq (.t 16) (.t 17))⟩])
  (.cond (.t 18) (.seq (.ops [⟨(some 4), none, .q (.mov (.c (.sc (.int .i64 (-1)))))⟩])
  .ret)
  .skip))
  (.seq (.ops [⟨(some 19), none, .q (.mov (.t 1))⟩, ⟨(some 20), none, .q (.bin .add (.t 19) (.c (.sc (.int .i64 1))))⟩, ⟨(some 1), none, .q (.mov (.t 20))⟩])
  (.seq (.seq (.any [(⟨(some 21), none, .q (.mov (.t 0))⟩, []), (⟨(some 22), none, .q (.mov (.t 5))⟩, []), (⟨(some 23), none, .q (.iadr 3 (.t 21) (.t 22))⟩, [0, 1]), (⟨(some 24), none, .q (.fadr 1 (.t 23))⟩, [2]), (⟨(some 25), none, .q (.load false 1 (.t 24))⟩, [3]), (⟨(some 26), none, .q (.mov (.t 1))⟩, []), (⟨(some 27), none, .c (.c (.clo 102 [])) [(.t 26)]⟩, [5]), (⟨(some 28), none, .q (.bin .neq (.t 25) (.t 27))⟩, [4, 6])])
  (.cond (.t 28) (.seq (.ops [⟨(some 4), none, .q (.mov (.c (.sc (.int .i64 (-1)))))⟩])
  .ret)
  .skip))
  (.seq (.ops [⟨(some 29), none, .q (.mov (.t 1))⟩, ⟨(some 30), none, .q (.bin .add (.t 29) (.c (.sc (.int .i64 1))))⟩, ⟨(some 1), none, .q (.mov (.t 30))⟩])
  (.seq (.seq (.any [(⟨(some 31), none, .q (.mov (.t 0))⟩, []), (⟨(some 32), none, .q (.mov (.t 5))⟩, []), (⟨(some 33), none, .q (.iadr 3 (.t 31) (.t 32))⟩, [0, 1]), (⟨(some 34), none, .q (.fadr 2 (.t 33))⟩, [2]), (⟨(some 35), none, .q (.load false 1 (.t 34))⟩, [3]), (⟨(some 36), none, .q (.mov (.t 1))⟩, []), (⟨(some 37), none, .c (.c (.clo 102 [])) [(.t 36)]⟩, [5]), (⟨(some 38), none, .q (.bin .neq (.t 35) (.t 37))⟩, [4, 6])])
  (.cond (.t 38) (.seq (.ops [⟨(some 4), none, .q (.mov (.c (.sc (.int .i64 (-1)))))⟩])
  .ret)
  .skip))
  (.ops [⟨(some 39), none, .q (.mov (.t 1))⟩, ⟨(some 40), none, .q (.bin .add (.t 39) (.c (.sc (.int .i64 1))))⟩, ⟨(some 1), none, .q (.mov (.t 40))⟩])))))))
  (.ops [⟨(some 10), none, .q (.mov (.t 5))⟩, ⟨(some 11), none, .q (.bin .add (.t 10) (.c (.sc (.int .i64 1))))⟩, ⟨(some 5), none, .q (.mov (.t 11))⟩]))))))
  (.seq (.ops [⟨(some 41), none, .q (.mov (.t 1))⟩, ⟨(some 4), none, .q (.mov (.t 41))⟩])
  .ret)))
theorem K116 : Try.f116.body.bind (comp Try.prog) = some A116 ∧ Try.f116.ntmps = 42 ∧ Try.f116.results.toList.mapM (resB Try.prog) = some [.mov (.t 4)] := ⟨by kernel_rfl, by kernel_rfl, by kernel_rfl⟩
theorem R116 (xs : List Op) (k : Nat) (hk : 0 < k) (hb : k + 3 * xs.length < 4611686018427387904) : Ret Try.prog 116 [.ro (rows Op.ty.cs (mkL Op.mark Op.tot xs k)) xs.length, .sc (.int .i64 k)] (.sc (.int .i64 ((k + 3 * xs.length : Nat) : Int))) [.un, .un] := by
  refine Ret.run Try.func116 K116 (by simp) rfl rfl 500 ?_
  simp [A116, iniρ]
  obtain ⟨ms, hms⟩ : ∃ ms, ms = mkL Op.mark Op.tot xs k := ⟨_, rfl⟩
  rw [← hms]
  refine T.rounds (μ := fun i : List Op × List Op × Nat => i.2.1.length)
    (fun i s => i.1 ++ i.2.1 = xs ∧ i.2.2 = k + 3 * i.1.length ∧ s.ρ 0 = .ro (rows Op.ty.cs ms) xs.length ∧ s.ρ 1 = .sc (.int .i64 i.2.2) ∧ s.ρ 5 = .sc (.int .i64 i.1.length) ∧ s.h = h0 ∧ s.n = 42) ([], xs, k) (by simp [upd_app]) ?_
  rintro ⟨pre, rest, q⟩ ⟨ρ, hh, n⟩ ⟨hx, hq, h0', h1', h5', rfl, rfl⟩
  simp only at hx hq h0' h1' h5'
  refine run_ok (n := 400) ?_
  cases rest with
  | nil =>
    simp at hx
    subst hx
    simp [h0', h5']
    refine T.on 400 ?_
    simp [h1', hq]
  | cons x rest =>
    have hle : pre.length + (rest.length + 1) = xs.length := by rw [← hx]; simp
    have hlt : (pre.length : Int) < xs.length := by omega
    have hw : IntKind.i64.wrap ((pre.length : Int) + 1) = pre.length + 1 := wrap_i64 (by omega) (by omega)
    have hw1 : IntKind.i64.wrap ((q : Int) + 1) = q + 1 := wrap_i64 (by omega) (by omega)
    have hw2 : IntKind.i64.wrap ((q : Int) + 1 + 1) = q + 1 + 1 := wrap_i64 (by omega) (by omega)
    have hw3 : IntKind.i64.wrap ((q : Int) + 1 + 1 + 1) = q + 1 + 1 + 1 := wrap_i64 (by omega) (by omega)
    have hRm2 := R102 (q + 1) (by omega) (by omega)
    have hRm3 := R102 (q + 1 + 1) (by omega) (by omega)
    simp only [Int.natCast_add, Int.natCast_one] at hRm2 hRm3
    have e3 : (k : Int) + (toL Op.tot pre : Nat) = q := by rw [Op.totL]; omega
    have hd : List.drop (pre.length * 3) (rows Op.ty.cs ms) = AV.sc (.int .i64 q) :: AV.sc (.string (mtext (q + 1))) :: AV.sc (.string (mtext (q + 1 + 1))) :: rows Op.ty.cs (mkL Op.mark Op.tot rest (q + Op.tot x)) := by
      have e := rows_drop Op.ty.csn (mkL Op.mark Op.tot pre k) (mkL Op.mark Op.tot (x :: rest) (k + toL Op.tot pre))
      rw [← mkL_app, hx, mkL_len, ← hms, e3] at e
      have e : List.drop (pre.length * 3) (rows Op.ty.cs ms) = _ := e
      rw [e, mkL, rows_cons, Op.cse]
      simp [Op.mark]
    have hd1 : List.drop (pre.length * 3 + 1) (rows Op.ty.cs ms) = AV.sc (.string (mtext (q + 1))) :: AV.sc (.string (mtext (q + 1 + 1))) :: rows Op.ty.cs (mkL Op.mark Op.tot rest (q + Op.tot x)) := by
      rw [← List.drop_drop, hd]; rfl
    have hd2 : List.drop (pre.length * 3 + 2) (rows Op.ty.cs ms) = AV.sc (.string (mtext (q + 1 + 1))) :: rows Op.ty.cs (mkL Op.mark Op.tot rest (q + Op.tot x)) := by
      rw [← List.drop_drop, hd]; rfl
    simp [h0', h1', h5', hlt, hd, hw1]
    refine T.text 400 mixed (by kernel_rfl) (by kernel_rfl) ?_
    simp [h0', h5', hlt, hd1]
    refine callSK.by rfl (by kernel_rfl) (by simp [roc_sc, upd_app]) hRm2 ?_
    simp [h0', h5', hlt, hw1, hw2]
    refine T.text 400 mixed (by kernel_rfl) (by kernel_rfl) ?_
    simp [h0', h5', hlt, hd2]
    refine callSK.by rfl (by kernel_rfl) (by simp [roc_sc, upd_app]) hRm3 ?_
    simp [h0', h5', hlt, hw, hw1, hw2, hw3]
    refine ⟨pre ++ [x], rest, by simp, q + 3, _, Le.refl _, ?_⟩
    simp [hx, h0', upd_app]
    omega
def Disk.mk1 (d : Disk) (k : Nat) : List Doc := mkL Doc.mark Doc.tot d.sure k
def Disk.mk2 (d : Disk) (k : Nat) : List Op := mkL Op.mark Op.tot d.pend ((k + 2 * d.sure.length : Nat) : Int)
def Disk.mkd (d : Disk) (k : Nat) : Disk := ⟨d.mk1 k, d.mk2 k⟩
def Disk.tot (d : Disk) : Nat := 2 * d.sure.length + 3 * d.pend.length
attribute [local simp] outC ioPos1 isIo
/- 33: loop.example/g00464/laws.markDisk -/
def A33 : AC := (.seq (.ops [⟨(some 2), none, .w (.box (.t 0))⟩, ⟨(some 4), none, .q (.mov (.c (.sc (.int .i64 0))))⟩])
  (.seq (.ops [⟨(some 5), none, .q (.fadr 0 (.t 2))⟩, ⟨(some 6), none, .q (.load false 1 (.t 5))⟩, ⟨(some 7), none, .q (.mov (.t 1))⟩, ⟨(some 8), none, .c (.c (.clo 34 [])) [(.t 6), (.t 7)]⟩, ⟨(some 1), none, .q (.mov (.t 8))⟩])
  (.seq (.ops [⟨(some 9), none, .q (.fadr 1 (.t 2))⟩, ⟨(some 10), none, .q (.load false 1 (.t 9))⟩, ⟨(some 11), none, .q (.mov (.t 1))⟩, ⟨(some 12), none, .c (.c (.clo 101 [])) [(.t 10), (.t 11)]⟩, ⟨(some 1), none, .q (.mov (.t 12))⟩])
  (.seq (.ops [⟨(some 13), none, .q (.mov (.t 1))⟩, ⟨(some 4), none, .q (.mov (.t 13))⟩])
  .ret))))
theorem K33 : Try.f33.body.bind (comp Try.prog) = some A33 ∧ Try.f33.ntmps = 14 ∧ Try.f33.results.toList.mapM (resB Try.prog) = some [.mov (.t 4)] := ⟨by kernel_rfl, by kernel_rfl, by kernel_rfl⟩
theorem R33 (d : Disk) (k : Nat) (hk : 0 < k) (hb : k + d.tot < 4611686018427387904) : MRet2 Try.prog 33 (rows Doc.ty.oc d.sure) d.sure.length 2 (rows Op.ty.oc d.pend) d.pend.length 3 (.sc (.int .i64 k)) (.sc (.int .i64 ((k + d.tot : Nat) : Int))) (rows Doc.ty.oc (d.mk1 k)) (rows Op.ty.oc (d.mk2 k)) := by
  have ht : d.tot = 2 * d.sure.length + 3 * d.pend.length := rfl
  have m1 := R34 d.sure k hk (by omega)
  have m2 := R101 d.pend (k + 2 * d.sure.length) (by omega) (by omega)
  have l1 : (rows Doc.ty.oc (d.mk1 k)).length = (rows Doc.ty.oc d.sure).length := by rw [Doc.ocl, Doc.ocl, Disk.mk1, mkL_len]
  have l2 : (rows Op.ty.oc (d.mk2 k)).length = (rows Op.ty.oc d.pend).length := by rw [Op.ocl, Op.ocl, Disk.mk2, mkL_len]
  have n1 : (d.mk1 k).length = d.sure.length := by rw [Disk.mk1, mkL_len]
  have n2 : (d.mk2 k).length = d.pend.length := by rw [Disk.mk2, mkL_len]
  have f1 : flt.fltL (rows Doc.ty.oc (d.mk1 k)) = true := fltL_rows (fun x c hc => (Doc.ty.ow x c hc).fl) _
  have f2 : flt.fltL (rows Op.ty.oc (d.mk2 k)) = true := fltL_rows (fun x c hc => (Op.ty.ow x c hc).fl) _
  have e : k + 2 * d.sure.length + 3 * d.pend.length = k + d.tot := by omega
  change MRet Try.prog 34 _ _ _ _ _ (rows Doc.ty.oc (d.mk1 k)) at m1
  change MRet Try.prog 101 _ _ _ _ _ (rows Op.ty.oc (d.mk2 k)) at m2
  rw [e] at m2
  refine ⟨fun h1 h2 => ?_, fun h1 h2 => ?_, fun h1 h2 => ?_, fun h1 h2 => ?_⟩
  · refine Ret.run Try.func33 K33 (by simp) rfl rfl 500 ?_
    simp [A33, iniρ]
    refine callK.io (b := 100001000) rfl (by kernel_rfl) (by simp [upd_app]) (by simp [upd_app]) (Doc.ocl _) (Doc.frL _) (by simp [upd_app]) rfl m1 l1 f1 rfl ?_
    simp
    refine callK.io (b := 100001001) rfl (by kernel_rfl) (by simp [upd_app]) (by simp [upd_app]) (Op.ocl _) (Op.frL _) (by simp [upd_app]) rfl m2 l2 f2 rfl ?_
    simp [ex1, Doc.ocl, Doc.frL, Op.ocl, Op.frL, n1, n2, h1, h2]
  · obtain e2 : d.pend = [] := List.length_eq_zero_iff.1 h2
    rw [e2] at m2
    refine Ret.run Try.func33 K33 (by simp) rfl rfl 500 ?_
    simp [A33, iniρ]
    refine callK.io (b := 100001000) rfl (by kernel_rfl) (by simp [upd_app]) (by simp [upd_app]) (Doc.ocl _) (Doc.frL _) (by simp [upd_app]) rfl m1 l1 f1 rfl ?_
    simp
    refine callK.ro 0 rfl (by kernel_rfl) (by simp [roc_ro, roc_sc, upd_app]) (m2.2 rfl) rfl rfl rfl ?_
    simp [ex1, Doc.ocl, Doc.frL, n1, h1]
  · obtain e1 : d.sure = [] := List.length_eq_zero_iff.1 h1
    have m1 := m1.2 h1
    rw [h1] at m1 m2
    refine Ret.run Try.func33 K33 (by simp) rfl rfl 500 ?_
    simp [A33, iniρ]
    refine callK.ro 0 rfl (by kernel_rfl) (by simp [roc_ro, roc_sc, upd_app]) m1 rfl rfl rfl ?_
    simp
    refine callK.io (b := 100001001) rfl (by kernel_rfl) (by simp [upd_app]) (by simp [upd_app]) (Op.ocl _) (Op.frL _) (by simp [upd_app]) rfl m2 l2 f2 rfl ?_
    simp [ex1, Op.ocl, Op.frL, n2, h2]
  · have m1 := m1.2 h1
    have m2 := m2.2 h2
    rw [h1] at m1 m2
    refine Ret.run Try.func33 K33 (by simp) rfl rfl 500 ?_
    simp [A33, iniρ]
    refine callK.ro 0 rfl (by kernel_rfl) (by simp [roc_ro, roc_sc, upd_app]) m1 rfl rfl rfl ?_
    simp
    refine callK.ro 0 rfl (by kernel_rfl) (by simp [roc_ro, roc_sc, upd_app]) m2 rfl rfl rfl ?_
    simp
/- 52: loop.example/g00464/laws.heldDisk -/
def A52 : AC := (.seq (.ops [⟨(some 2), none, .w (.box (.t 0))⟩, ⟨(some 4), none, .q (.mov (.c (.sc (.int .i64 0))))⟩])
  (.seq (.ops [⟨(some 5), none, .q (.fadr 0 (.t 2))⟩, ⟨(some 6), none, .q (.load false 1 (.t 5))⟩, ⟨(some 7), none, .q (.mov (.t 1))⟩, ⟨(some 8), none, .c (.c (.clo 35 [])) [(.t 6), (.t 7)]⟩, ⟨(some 1), none, .q (.mov (.t 8))⟩])
  (.seq (.seq (.ops [⟨(some 9), none, .q (.mov (.t 1))⟩, ⟨(some 10), none, .q (.bin .lss (.t 9) (.c (.sc (.int .i64 0))))⟩])
  (.cond (.t 10) (.seq (.ops [⟨(some 4), none, .q (.mov (.c (.sc (.int .i64 (-1)))))⟩])
  .ret)
  .skip))
  (.seq (.ops [⟨(some 11), none, .q (.fadr 1 (.t 2))⟩, ⟨(some 12), none, .q (.load false 1 (.t 11))⟩, ⟨(some 13), none, .q (.mov (.t 1))⟩, ⟨(some 14), none, .c (.c (.clo 116 [])) [(.t 12), (.t 13)]⟩, ⟨(some 1), none, .q (.mov (.t 14))⟩])
  (.seq (.seq (.ops [⟨(some 15), none, .q (.mov (.t 1))⟩, ⟨(some 16), none, .q (.bin .lss (.t 15) (.c (.sc (.int .i64 0))))⟩])
  (.cond (.t 16) (.seq (.ops [⟨(some 4), none, .q (.mov (.c (.sc (.int .i64 (-1)))))⟩])
  .ret)
  .skip))
  (.seq (.ops [⟨(some 17), none, .q (.mov (.t 1))⟩, ⟨(some 4), none, .q (.mov (.t 17))⟩])
  .ret))))))
theorem K52 : Try.f52.body.bind (comp Try.prog) = some A52 ∧ Try.f52.ntmps = 18 ∧ Try.f52.results.toList.mapM (resB Try.prog) = some [.mov (.t 4)] := ⟨by kernel_rfl, by kernel_rfl, by kernel_rfl⟩
theorem R52 (d : Disk) (k : Nat) (hk : 0 < k) (hb : k + d.tot < 4611686018427387904) : Ret Try.prog 52 [.agg (Disk.ty.cs (d.mkd k)), .sc (.int .i64 k)] (.sc (.int .i64 ((k + d.tot : Nat) : Int))) [.un, .un] := by
  have ht : d.tot = 2 * d.sure.length + 3 * d.pend.length := rfl
  have e : k + 2 * d.sure.length + 3 * d.pend.length = k + d.tot := by omega
  have n1 : (d.mk1 k).length = d.sure.length := by rw [Disk.mk1, mkL_len]
  have n2 : (d.mk2 k).length = d.pend.length := by rw [Disk.mk2, mkL_len]
  have r1 := R35 d.sure k hk (by omega)
  have r2 := R116 d.pend (k + 2 * d.sure.length) (by omega) (by omega)
  rw [e] at r2
  change Ret Try.prog 35 [.ro (rows Doc.ty.cs (d.mk1 k)) d.sure.length, _] _ _ at r1
  change Ret Try.prog 116 [.ro (rows Op.ty.cs (d.mk2 k)) d.pend.length, _] _ _ at r2
  obtain ⟨q, hq⟩ : ∃ q : Int, q = ((k + 2 * d.sure.length : Nat) : Int) := ⟨_, rfl⟩
  obtain ⟨q2, hq2⟩ : ∃ q : Int, q = ((k + d.tot : Nat) : Int) := ⟨_, rfl⟩
  have p1 : ¬ (q < 0) := by omega
  have p2 : ¬ (q2 < 0) := by omega
  rw [← hq] at r1 r2
  rw [← hq2] at r2 ⊢
  refine Ret.run Try.func52 K52 (by simp) rfl rfl 500 ?_
  simp only [A52, iniρ, Disk.cse, Disk.mkd, n1, n2]
  simp
  refine callK.ro 0 rfl (by kernel_rfl) (by simp [roc_ro, roc_sc, upd_app]) r1 rfl rfl rfl ?_
  simp [p1]
  refine callK.ro 0 rfl (by kernel_rfl) (by simp [roc_ro, roc_sc, upd_app]) r2 rfl rfl rfl ?_
  simp [p2]
end Go.Proofs.Ytadoadomogceiaa.Am
