/- The functions of the program, each by its contract: Ready; no condition. -/
import Derived.Test.YtaknfalbmblagaaGreatProg
import Derived.Test.YtaknfalbmblagaaGreatAmZ
import Derived.Test.YtaknfalbmblagaaGreatAmP
import Derived.Test.YtaknfalbmblagaaGreatAmF
import Derived.Test.YtaknfalbmblagaaGreatRun
import Derived.KernelRfl
namespace Go.Proofs.YtaknfalbmblagaaGreat.Am
open Go Go.Proofs
set_option linter.unusedSimpArgs false
set_option linter.unusedVariables false
attribute [local congr] T_congr callK_congr callWK_congr
attribute [local simp] run_nil run_op0 run_opg run_seq run_cond run_block run_ret run_skip run_skip_after run_skip_blk run_exit run_exit_after run_exit_blk run_loop run_any runS_nil runS_op0 runS_opg runW_nil runW_op0 runW_opg exec_q exec_w exec_c exec_n execW_q execW_w execW_c restW_app hideH_app merge_app wblk rest_app restS_app execS_q execS_c aval dOk upd_app ev_t ev_c setO_some setO_none put_mk pinsOf isIo hasIo sbin endR fin resL one outL out1 clo1 cloL coe coeL shut shut.shutL wantA weff cellsOf fillA deref natOf ρ0_app h0_app plain plain.plainL keep_app keepH_app andThen_normal andThen_ret andThen_exit pop_nil pop_after pop_after_ret pop_after_exit pop_blk pop_blk_ret pop_blk_exit nilA srcOf srcCells keepR_app keepHR_app renA rb
def sameT (t x : ByteArray) : Bool := x.toList == t.toList
def tIx (t : ByteArray) (l : List ByteArray) : Int := idx (sameT t) l 0
def hasT (t : ByteArray) (l : List ByteArray) : Bool := l.any (sameT t)
def onC (ds : List (List ByteArray)) (i : Nat) : AV := match ds[i]? with | some d => .ro (rows Ty.str.cs d) d.length | none => .em
def onL (ts : List ByteArray) (ds : List (List ByteArray)) (t : ByteArray) : List ByteArray := if 0 ≤ tIx t ts then ds[(tIx t ts).toNat]?.getD [] else []
def madeB (how : Int) : Bool := how == 1 || how == 2
def freeB (r : Run) (t : ByteArray) : Bool := (onL r.p.tasks r.p.deps t).all fun d => madeB (howOf d r.marks)
def mayB (r : Run) (t : ByteArray) : Bool := howOf t r.marks == 0 && freeB r t
def goB (r : Run) (t : ByteArray) : Bool := !hasT t r.going && mayB r t
def readyF (r : Run) : List ByteArray := if r.slots ≤ r.going.length then [] else r.p.tasks.filter (goB r)
theorem strDrop (pre rest : List ByteArray) (x : ByteArray) : List.drop pre.length (rows Ty.str.cs (pre ++ x :: rest)) = .sc (.string x) :: rows Ty.str.cs rest := by
  have h := rows_drop Ty.str.csn pre (x :: rest)
  have h : List.drop (pre.length * 1) (rows Ty.str.cs (pre ++ x :: rest)) = rows Ty.str.cs (x :: rest) := h
  rw [Nat.mul_one] at h
  rw [h, rows_cons]; rfl
theorem hasT_ix (t : ByteArray) (l : List ByteArray) : decide (0 ≤ tIx t l) = hasT t l := by
  rcases idx_cases (sameT t) l 0 with ⟨pre, x, rest, e, h2, h1, e2⟩ | ⟨h1, e2⟩
  · have e2 : tIx t l = (pre.length : Int) := by unfold tIx; rw [e2]; omega
    rw [e2, hasT, e]
    simp [h2]
  · have e2 : tIx t l = -1 := e2
    have e3 : hasT t l = false := by
      unfold hasT
      rw [List.any_eq_false]
      exact fun x hx => by simp [h1 x hx]
    rw [e2, e3]; rfl
theorem tIx_at {t : ByteArray} {l : List ByteArray} (h : 0 ≤ tIx t l) : ∃ k : Nat, tIx t l = k ∧ k < l.length := by
  rcases idx_cases (sameT t) l 0 with ⟨pre, x, rest, e, h2, h1, e2⟩ | ⟨h1, e2⟩
  · have e2 : tIx t l = (pre.length : Int) := by unfold tIx; rw [e2]; omega
    exact ⟨pre.length, e2, by rw [e]; simp⟩
  · have e2 : tIx t l = -1 := e2
    omega
/- 86: slices.Index[[]string,string] -/
def A86 : AC := (.seq (.ops [⟨(some 4), none, .q (.mov (.c (.sc (.int .i64 0))))⟩])
  (.seq (.seq (.ops [⟨(some 6), none, .q (.mov (.t 0))⟩, ⟨(some 7), none, .q (.llen (.t 6))⟩, ⟨(some 8), none, .q (.mov (.c (.sc (.int .i64 0))))⟩])
  (.block 0 (.loop (.seq (.ops [⟨(some 9), none, .q (.bin .lss (.t 8) (.t 7))⟩])
  (.seq (.cond (.t 9) .skip
  (.exit 0))
  (.seq (.block 1 (.seq (.ops [⟨(some 10), none, .q (.mov (.t 8))⟩, ⟨(some 5), none, .q (.mov (.t 10))⟩])
  (.seq (.ops [⟨(some 11), none, .q (.mov (.t 1))⟩, ⟨(some 12), none, .q (.mov (.t 0))⟩, ⟨(some 13), none, .q (.mov (.t 5))⟩, ⟨(some 14), none, .q (.iadr 1 (.t 12) (.t 13))⟩, ⟨(some 15), none, .q (.load false 1 (.t 14))⟩, ⟨(some 16), none, .q (.bin .eql (.t 11) (.t 15))⟩])
  (.cond (.t 16) (.seq (.ops [⟨(some 17), none, .q (.mov (.t 5))⟩, ⟨(some 4), none, .q (.mov (.t 17))⟩])
  .ret)
  .skip))))
  (.ops [⟨(some 18), none, .q (.bin .add (.t 8) (.c (.sc (.int .i64 1))))⟩, ⟨(some 8), none, .q (.mov (.t 18))⟩])))))))
  (.seq (.ops [⟨(some 4), none, .q (.mov (.c (.sc (.int .i64 (-1)))))⟩])
  .ret)))
theorem K86 : Tryz.f86.body.bind (comp Tryz.prog) = some A86 ∧ Tryz.f86.ntmps = 19 ∧ Tryz.f86.results.toList.mapM (resB Tryz.prog) = some [.mov (.t 4)] := ⟨by kernel_rfl, by kernel_rfl, by kernel_rfl⟩
theorem R86 (xs : List ByteArray) (t : ByteArray) (hb : xs.length < 4611686018427387904) : Ret Tryz.prog 86 [.ro (rows Ty.str.cs xs) xs.length, .sc (.string t)] (.sc (.int .i64 (tIx t xs))) [.un, .un] := by
  refine Ret.run Tryz.func86 K86 (by simp) rfl rfl 500 ?_
  simp [A86, iniρ]
  refine T.rounds (μ := fun i : List ByteArray × List ByteArray => i.2.length)
    (fun i s => i.1 ++ i.2 = xs ∧ idx (sameT t) i.2 i.1.length = tIx t xs ∧ s.ρ 0 = .ro (rows Ty.str.cs xs) xs.length ∧ s.ρ 1 = .sc (.string t) ∧ s.ρ 7 = .sc (.int .i64 xs.length) ∧ s.ρ 8 = .sc (.int .i64 i.1.length) ∧ s.n = 19) ([], xs) (by simp [upd_app, tIx]) ?_
  rintro ⟨pre, rest⟩ ⟨ρ, hh, n⟩ ⟨hx, hE, k0, k1, k7, k8, rfl⟩
  simp only at hx hE k0 k1 k7 k8
  refine run_ok (n := 400) ?_
  cases rest with
  | nil =>
    simp at hx
    subst hx
    simp [k7, k8]
    refine T.on 400 ?_
    simp [← hE, idx]
  | cons x rest =>
    have hlt : (pre.length : Int) < xs.length := by rw [← hx]; simp only [List.length_append, List.length_cons]; omega
    have hd := strDrop pre rest x
    rw [hx] at hd
    have hw : IntKind.i64.wrap ((pre.length : Int) + 1) = pre.length + 1 := wrap_i64 (by omega) (by omega)
    by_cases hk : x.toList = t.toList
    · have hs : sameT t x = true := by simp [sameT, hk]
      simp [k0, k1, k7, k8, hlt, hd, hk, ← hE, idx, hs]
    · have hk' : ¬ t.toList = x.toList := fun e => hk e.symm
      have hs : sameT t x = false := by simp [sameT, hk]
      simp [k0, k1, k7, k8, hlt, hd, hk', hw]
      refine ⟨pre ++ [x], rest, by simp, _, Le.refl _, ?_⟩
      simp [hx, k0, k1, k7, upd_app, ← hE, idx, hs]
/- 58: slices.Contains[[]string,string] -/
def A58 : AC := (.seq (.ops [⟨(some 4), none, .q (.mov (.c (.sc (.bool false))))⟩])
  (.seq (.ops [⟨(some 5), none, .q (.mov (.t 0))⟩, ⟨(some 6), none, .q (.mov (.t 1))⟩, ⟨(some 7), none, .c (.c (.clo 86 [])) [(.t 5), (.t 6)]⟩, ⟨(some 8), none, .q (.bin .geq (.t 7) (.c (.sc (.int .i64 0))))⟩, ⟨(some 4), none, .q (.mov (.t 8))⟩])
  .ret))
theorem K58 : Tryz.f58.body.bind (comp Tryz.prog) = some A58 ∧ Tryz.f58.ntmps = 9 ∧ Tryz.f58.results.toList.mapM (resB Tryz.prog) = some [.mov (.t 4)] := ⟨by kernel_rfl, by kernel_rfl, by kernel_rfl⟩
theorem R58 (xs : List ByteArray) (t : ByteArray) (hb : xs.length < 4611686018427387904) : Ret Tryz.prog 58 [.ro (rows Ty.str.cs xs) xs.length, .sc (.string t)] (.sc (.bool (hasT t xs))) [.un, .un] := by
  refine Ret.run Tryz.func58 K58 (by simp) rfl rfl 500 ?_
  simp [A58, iniρ]
  refine callK.ro 0 rfl (by kernel_rfl) (by simp [roc_ro, roc_sc, upd_app]) (R86 xs t hb) rfl rfl rfl ?_
  simp [hasT_ix]
/- 20: loop.example/g00464/spec.l1Has -/
def A20 : AC := (.seq (.ops [⟨(some 4), none, .q (.mov (.c (.sc (.bool false))))⟩])
  (.seq (.seq (.ops [⟨(some 5), none, .q (.mov (.c (.sc (.int .i64 0))))⟩])
  (.block 0 (.loop (.seq (.seq (.ops [⟨(some 6), none, .q (.mov (.t 5))⟩, ⟨(some 7), none, .q (.mov (.t 0))⟩, ⟨(some 8), none, .q (.llen (.t 7))⟩, ⟨(some 9), none, .q (.bin .lss (.t 6) (.t 8))⟩])
  (.cond (.t 9) .skip
  (.exit 0)))
  (.seq (.block 1 (.seq (.ops [⟨(some 12), none, .q (.mov (.t 0))⟩, ⟨(some 13), none, .q (.mov (.t 5))⟩, ⟨(some 14), none, .q (.iadr 1 (.t 12) (.t 13))⟩, ⟨(some 15), none, .q (.load false 1 (.t 14))⟩, ⟨(some 16), none, .q (.mov (.t 1))⟩, ⟨(some 17), none, .q (.bin .eql (.t 15) (.t 16))⟩])
  (.cond (.t 17) (.seq (.ops [⟨(some 4), none, .q (.mov (.c (.sc (.bool true))))⟩])
  .ret)
  .skip)))
  (.ops [⟨(some 10), none, .q (.mov (.t 5))⟩, ⟨(some 11), none, .q (.bin .add (.t 10) (.c (.sc (.int .i64 1))))⟩, ⟨(some 5), none, .q (.mov (.t 11))⟩]))))))
  (.seq (.ops [⟨(some 4), none, .q (.mov (.c (.sc (.bool false))))⟩])
  .ret)))
theorem K20 : Tryz.f20.body.bind (comp Tryz.prog) = some A20 ∧ Tryz.f20.ntmps = 18 ∧ Tryz.f20.results.toList.mapM (resB Tryz.prog) = some [.mov (.t 4)] := ⟨by kernel_rfl, by kernel_rfl, by kernel_rfl⟩
theorem R20 (xs : List ByteArray) (t : ByteArray) (hb : xs.length < 4611686018427387904) : Ret Tryz.prog 20 [.ro (rows Ty.str.cs xs) xs.length, .sc (.string t)] (.sc (.bool (hasT t xs))) [.un, .un] := by
  refine Ret.run Tryz.func20 K20 (by simp) rfl rfl 500 ?_
  simp [A20, iniρ]
  refine T.rounds (μ := fun i : List ByteArray × List ByteArray => i.2.length)
    (fun i s => i.1 ++ i.2 = xs ∧ hasT t i.2 = hasT t xs ∧ s.ρ 0 = .ro (rows Ty.str.cs xs) xs.length ∧ s.ρ 1 = .sc (.string t) ∧ s.ρ 5 = .sc (.int .i64 i.1.length) ∧ s.n = 18) ([], xs) (by simp [upd_app]) ?_
  rintro ⟨pre, rest⟩ ⟨ρ, hh, n⟩ ⟨hx, hE, k0, k1, k5, rfl⟩
  simp only at hx hE k0 k1 k5
  refine run_ok (n := 400) ?_
  cases rest with
  | nil =>
    simp at hx
    subst hx
    have hE' : hasT t pre = false := hE.symm
    simp [k0, k5]
    refine T.on 400 ?_
    simp [hE']
  | cons x rest =>
    have hlt : (pre.length : Int) < xs.length := by rw [← hx]; simp only [List.length_append, List.length_cons]; omega
    have hd := strDrop pre rest x
    rw [hx] at hd
    have hw : IntKind.i64.wrap ((pre.length : Int) + 1) = pre.length + 1 := wrap_i64 (by omega) (by omega)
    by_cases hk : x.toList = t.toList
    · have hs : sameT t x = true := by simp [sameT, hk]
      have hE' : hasT t xs = true := by rw [← hE, hasT, List.any_cons, hs]; rfl
      simp [k0, k1, k5, hlt, hd, hk, hE']
    · have hs : sameT t x = false := by simp [sameT, hk]
      have hE' : hasT t rest = hasT t xs := by rw [← hE, hasT, hasT, List.any_cons, hs]; rfl
      simp [k0, k1, k5, hlt, hd, hk, hw]
      refine ⟨pre ++ [x], rest, by simp, _, Le.refl _, by simpa using hx, hE', ?_⟩
      simp [k0, k1, upd_app]
theorem depDrop (ds : List (List ByteArray)) (k : Nat) (h : k < ds.length) : ∃ br, List.drop k (rows Ty.str.slice.cs ds) = onC ds k :: br := by
  have e : ds = ds.take k ++ ds[k] :: ds.drop (k + 1) := by rw [← List.drop_eq_getElem_cons h, List.take_append_drop]
  have hl : (ds.take k).length = k := by rw [List.length_take]; omega
  have hd := rows_drop Ty.str.slice.csn (ds.take k) (ds[k] :: ds.drop (k + 1))
  rw [← e] at hd
  have hd : List.drop ((ds.take k).length * 1) (rows Ty.str.slice.cs ds) = rows Ty.str.slice.cs (ds[k] :: ds.drop (k + 1)) := hd
  rw [hl, Nat.mul_one] at hd
  refine ⟨rows Ty.str.slice.cs (ds.drop (k + 1)), ?_⟩
  rw [hd, rows_cons, onC, List.getElem?_eq_getElem h]
  rfl
def onsC (ds : List (List ByteArray)) (n : Nat) : List AV := (List.range n).map (onC ds)
theorem onsC_len (ds : List (List ByteArray)) (n : Nat) : (onsC ds n).length = n := by simp [onsC]
theorem onsC_succ (ds : List (List ByteArray)) (n : Nat) : onsC ds (n + 1) = onsC ds n ++ [onC ds n] := by simp [onsC, List.range_succ]
theorem onC_free (ds : List (List ByteArray)) (n : Nat) : idfree (onC ds n) = true := by
  unfold onC
  split <;> rfl
theorem onsC_free (ds : List (List ByteArray)) (n : Nat) : idfree.idfreeL (onsC ds n) = true := idfreeL_of fun x hx => by
  obtain ⟨k, _, rfl⟩ := List.mem_map.1 hx
  exact onC_free ds k
theorem onsC_drop (ds : List (List ByteArray)) (n k : Nat) (h : k < n) : ∃ br, List.drop k (onsC ds n) = onC ds k :: br := by
  refine ⟨(onsC ds n).drop (k + 1), ?_⟩
  rw [List.drop_eq_getElem_cons (by rw [onsC_len]; exact h)]
  simp [onsC]
/- 88: (*loop.example/g00464/impl.Plan).graph -/
def A88 : AC := (.seq (.ops [⟨(some 2), none, .q (.mov (.c (.sc (.pointer none))))⟩])
  (.seq (.ops [⟨(some 6), none, .q (.mov (.t 0))⟩, ⟨(some 7), none, .q (.nilc (.t 6))⟩, ⟨(some 8), none, .q (.fadr 0 (.t 7))⟩, ⟨(some 9), none, .q (.load false 1 (.t 8))⟩, ⟨(some 10), none, .w (.build [.em, .em] [(0, 1, (.t 9))])⟩, ⟨(some 11), none, .w (.box (.t 10))⟩, ⟨(some 3), none, .q (.mov (.t 11))⟩])
  (.seq (.seq (.ops [⟨(some 12), none, .q (.mov (.t 0))⟩, ⟨(some 13), none, .q (.nilc (.t 12))⟩, ⟨(some 14), none, .q (.fadr 0 (.t 13))⟩, ⟨(some 15), none, .q (.load false 1 (.t 14))⟩, ⟨(some 16), none, .q (.llen (.t 15))⟩, ⟨(some 17), none, .q (.mov (.c (.sc (.int .i64 0))))⟩])
  (.block 0 (.loop (.seq (.ops [⟨(some 18), none, .q (.bin .lss (.t 17) (.t 16))⟩])
  (.seq (.cond (.t 18) .skip
  (.exit 0))
  (.seq (.block 1 (.seq (.ops [⟨(some 19), none, .q (.mov (.t 17))⟩, ⟨(some 4), none, .q (.mov (.t 19))⟩])
  (.seq (.ops [⟨(some 5), none, .q (.mov (.c .em))⟩])
  (.seq (.seq (.ops [⟨(some 20), none, .q (.mov (.t 4))⟩, ⟨(some 21), none, .q (.mov (.t 0))⟩, ⟨(some 22), none, .q (.nilc (.t 21))⟩, ⟨(some 23), none, .q (.fadr 1 (.t 22))⟩, ⟨(some 24), none, .q (.load false 1 (.t 23))⟩, ⟨(some 25), none, .q (.llen (.t 24))⟩, ⟨(some 26), none, .q (.bin .lss (.t 20) (.t 25))⟩])
  (.cond (.t 26) (.ops [⟨(some 27), none, .q (.mov (.t 0))⟩, ⟨(some 28), none, .q (.nilc (.t 27))⟩, ⟨(some 29), none, .q (.fadr 1 (.t 28))⟩, ⟨(some 30), none, .q (.load false 1 (.t 29))⟩, ⟨(some 31), none, .q (.mov (.t 4))⟩, ⟨(some 32), none, .q (.iadr 1 (.t 30) (.t 31))⟩, ⟨(some 33), none, .q (.load false 1 (.t 32))⟩, ⟨(some 5), none, .q (.mov (.t 33))⟩])
  .skip))
  (.ops [⟨(some 34), none, .q (.mov (.t 3))⟩, ⟨(some 35), none, .q (.mov (.t 3))⟩, ⟨(some 36), none, .q (.nilc (.t 35))⟩, ⟨(some 37), none, .q (.fadr 1 (.t 36))⟩, ⟨(some 38), none, .q (.load false 1 (.t 37))⟩, ⟨(some 39), none, .q (.mov (.t 5))⟩, ⟨(some 40), none, .w (.bsl 1 1 [.em] [(0, 1, (.t 39))])⟩, ⟨(some 41), none, .w (.app 1 24 false (.t 38) (.t 40))⟩, ⟨(some 42), none, .q (.nilc (.t 34))⟩, ⟨(some 43), none, .q (.fadr 1 (.t 42))⟩, ⟨none, none, .w (.store 1 (.t 43) (.t 41))⟩])))))
  (.ops [⟨(some 44), none, .q (.bin .add (.t 17) (.c (.sc (.int .i64 1))))⟩, ⟨(some 17), none, .q (.mov (.t 44))⟩])))))))
  (.seq (.ops [⟨(some 45), none, .q (.mov (.t 3))⟩, ⟨(some 2), none, .q (.mov (.t 45))⟩])
  .ret))))
theorem K88 : Tryz.f88.body.bind (comp Tryz.prog) = some A88 ∧ Tryz.f88.ntmps = 46 ∧ Tryz.f88.results.toList.mapM (resB Tryz.prog) = some [.mov (.t 2)] := ⟨by kernel_rfl, by kernel_rfl, by kernel_rfl⟩
set_option maxHeartbeats 1000000 in
theorem R88 (r : Run) (hs : r.p.tasks.length ≤ 1048576) (hs2 : r.p.deps.length ≤ 1048576) : Ret Tryz.prog 88 [.rp (Run.ty.cs r) 4] (.bx [.ro (rows Ty.str.cs r.p.tasks) r.p.tasks.length, .own (onsC r.p.deps r.p.tasks.length) r.p.tasks.length 1]) [.un] := by
  obtain ⟨ts, hts⟩ : ∃ ts, ts = r.p.tasks := ⟨_, rfl⟩
  obtain ⟨ds, hds⟩ : ∃ ds, ds = r.p.deps := ⟨_, rfl⟩
  have hcs := Run.cse r
  rw [← hts, ← hds] at hcs
  rw [← hts] at hs ⊢
  rw [← hds] at hs2 ⊢
  refine Ret.run Tryz.func88 K88 (by simp) rfl rfl 900 ?_
  simp [A88, iniρ, hcs, over]
  refine T.le (Le.layC 11 1 1 (by simp [upd_app]; rfl) rfl) ?_
  refine T.rounds (μ := fun k : Nat => ts.length - k)
    (fun k s => k ≤ ts.length ∧ s.ρ 0 = .rp (Run.ty.cs r) 4 ∧ s.ρ 3 = .ref 11 0 ∧ s.ρ 16 = .sc (.int .i64 ts.length) ∧ s.ρ 17 = .sc (.int .i64 k) ∧ s.h 11 = some (some [.ro (rows Ty.str.cs ts) ts.length, .own (onsC ds k) k 1]) ∧ (∀ b, b ≠ 11 → s.h b = none) ∧ s.n = 46) 0 (by simp [upd_app, onsC, hcs]; exact fun b hb => by simp [hb]) ?_
  rintro k ⟨ρ, hh, n⟩ ⟨hk, k0, k3, k16, k17, kh, kf, rfl⟩
  simp only at hk k0 k3 k16 k17 kh kf
  rw [hcs] at k0
  by_cases hlt : k < ts.length
  case neg =>
    obtain rfl : k = ts.length := by omega
    refine run_ok (n := 400) ?_
    simp [k16, k17]
    refine T.on 400 ?_
    simp [k3, kh, over, ex1, idfree, idfree.idfreeL, onsC_free]
  have hlt2 : (k : Int) < ts.length := by omega
  have hw : IntKind.i64.wrap ((k : Int) + 1) = k + 1 := wrap_i64 (by omega) (by omega)
  have hcap : (k + 1) * 24 ≤ 140737488355328 := by omega
  refine T.le (Le.open 11 1 60 kh rfl (kf 60 (by decide)) (onsC_free ds k)) ?_
  have f40 := kf 40 (by decide)
  have f41 := kf 41 (by decide)
  have hol := onsC_len ds k
  have hap : onsC ds k ++ [onC ds k] = onsC ds (k + 1) := (onsC_succ ds k).symm
  refine run_ok (n := 400) ?_
  have fin : ∀ (ρ' : Nat → AV) (h' : Hp), ρ' 0 = .rp (Run.ty.cs r) 4 → ρ' 3 = .ref 11 0 → ρ' 16 = .sc (.int .i64 ts.length) → ρ' 17 = .sc (.int .i64 ((k + 1 : Nat) : Int)) → h' 11 = some (some [.ro (rows Ty.str.cs ts) ts.length, .sl 41 0 (k + 1) 1 false]) → h' 41 = some (some (onsC ds (k + 1))) →
      ∃ s, Le ⟨ρ', h', 46⟩ s ∧ k + 1 ≤ ts.length ∧ s.ρ 0 = .rp (Run.ty.cs r) 4 ∧ s.ρ 3 = .ref 11 0 ∧ s.ρ 16 = .sc (.int .i64 ts.length) ∧ s.ρ 17 = .sc (.int .i64 ((k + 1 : Nat) : Int)) ∧ s.h 11 = some (some [.ro (rows Ty.str.cs ts) ts.length, .own (onsC ds (k + 1)) (k + 1) 1]) ∧ (∀ b, b ≠ 11 → s.h b = none) ∧ s.n = 46 := by
    intro ρ' h' r0 r3 r16 r17 e11 e41
    refine ⟨_, Le.trans (Le.pack 11 1 (i := 41) (len := k + 1) (sz := 1) (cs' := onsC ds (k + 1)) e11 (by rfl) e41 (by decide) (by rw [onsC_len]; omega) (onsC_free _ _)) (Le.reset [0, 3, 16, 17] [11] (by simp [menB, idfree, r0, r3, r16, r17, hcs]) (by simp [upd_app, idfree, onsC_free])), hlt, by simp [keep_app, r0], by simp [keep_app, r3], by simp [keep_app, r16], by simp [keep_app, r17], by simp [keepH_app, upd_app], fun b hb => by simp [keepH_app, hb], rfl⟩
  by_cases hkm : k < ds.length
  · have hkm2 : (k : Int) < ds.length := by omega
    obtain ⟨br, hd⟩ := depDrop ds k hkm
    have hoe : onC ds k = .ro (rows Ty.str.cs ds[k]) ds[k].length := by unfold onC; rw [List.getElem?_eq_getElem hkm]
    rw [hoe] at hap hd
    simp [k0, k3, k16, k17, hlt2, hkm2, hkm, hd, over, f40, f41, upd_app, hol, hcap, hap, hw]
    exact ⟨k + 1, by omega, fin _ _ (by simp [upd_app, k0, hcs]) (by simp [upd_app, k3]) (by simp [upd_app, k16]) (by simp [upd_app]) (by simp [upd_app]) (by simp [upd_app])⟩
  · have hkm2 : ¬ (k : Int) < ds.length := by omega
    have hoe : onC ds k = .em := by unfold onC; rw [List.getElem?_eq_none (by omega)]
    rw [hoe] at hap
    simp [k0, k3, k16, k17, hlt2, hkm2, hkm, over, f40, f41, upd_app, hol, hcap, hap, hw]
    exact ⟨k + 1, by omega, fin _ _ (by simp [upd_app, k0, hcs]) (by simp [upd_app, k3]) (by simp [upd_app, k16]) (by simp [upd_app]) (by simp [upd_app]) (by simp [upd_app])⟩
end Go.Proofs.YtaknfalbmblagaaGreat.Am
