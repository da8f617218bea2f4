/- The functions of the program, each by its contract: Ready2; no condition. -/
import Derived.Test.YtaknfalbmblagaaGreatProg
import Derived.Test.YtaknfalbmblagaaGreatAmZ
import Derived.Test.YtaknfalbmblagaaGreatAmP
import Derived.Test.YtaknfalbmblagaaGreatReady
import Derived.KernelRfl
namespace Go.Proofs.YtaknfalbmblagaaGreat.Am
open Go Go.Proofs
set_option linter.unusedSimpArgs false
set_option linter.unusedVariables false
attribute [local congr] T_congr callK_congr callWK_congr
attribute [local simp] run_nil run_op0 run_opg run_seq run_cond run_block run_ret run_skip run_skip_after run_skip_blk run_exit run_exit_after run_exit_blk run_loop run_any runS_nil runS_op0 runS_opg runW_nil runW_op0 runW_opg exec_q exec_w exec_c exec_n execW_q execW_w execW_c restW_app hideH_app merge_app wblk rest_app restS_app execS_q execS_c aval dOk upd_app ev_t ev_c setO_some setO_none put_mk pinsOf isIo hasIo sbin endR fin resL one outL out1 clo1 cloL coe coeL shut shut.shutL wantA weff cellsOf fillA deref natOf ρ0_app h0_app plain plain.plainL keep_app keepH_app andThen_normal andThen_ret andThen_exit pop_nil pop_after pop_after_ret pop_after_exit pop_blk pop_blk_ret pop_blk_exit nilA srcOf srcCells keepR_app keepHR_app renA rb
def onA (ts : List ByteArray) (ds : List (List ByteArray)) (t : ByteArray) : AV := if 0 ≤ tIx t ts then onC ds (tIx t ts).toNat else .em
theorem onA_cases (ts : List ByteArray) (ds : List (List ByteArray)) (t : ByteArray) : (onA ts ds t = .em ∧ onL ts ds t = []) ∨ onA ts ds t = .ro (rows Ty.str.cs (onL ts ds t)) (onL ts ds t).length := by
  unfold onA onL
  by_cases h : 0 ≤ tIx t ts
  · rw [if_pos h, if_pos h]
    unfold onC
    cases e : ds[(tIx t ts).toNat]? with
    | none => exact .inl ⟨rfl, rfl⟩
    | some d => exact .inr rfl
  · rw [if_neg h, if_neg h]
    exact .inl ⟨rfl, rfl⟩
theorem rocL_shut {h : Hp} {k : Nat} : ∀ l : List AV, (∀ x ∈ l, shut x = true) → l.mapM (roc h k) = some l
  | [], _ => rfl
  | x :: l, hl => by
    rw [List.mapM_cons, roc_sh (hl x (by simp)), rocL_shut l fun y hy => hl y (List.mem_cons_of_mem _ hy)]
    rfl
theorem onsC_shut (ds : List (List ByteArray)) (n : Nat) : ∀ x ∈ onsC ds n, shut x = true := fun x hx => by
  obtain ⟨k, _, rfl⟩ := List.mem_map.1 hx
  unfold onC
  split
  · rename_i d _
    exact (Ty.str.slice.sh d _ (by simp [Ty.slice]))
  · rfl

theorem roc_graph {h : Hp} {b : Nat} {ts : List ByteArray} {ds : List (List ByteArray)} {n : Nat} (hb : h b = some (some [.ro (rows Ty.str.cs ts) ts.length, .own (onsC ds n) n 1])) :
    roc h 8 (.ref b 0) = some (.rp [.ro (rows Ty.str.cs ts) ts.length, .ro (onsC ds n) n] 0) := by
  have e1 : ∀ k, roc h (k + 1) (.own (onsC ds n) n 1) = some (.ro (onsC ds n) n) := fun k => by
    unfold roc
    rw [if_neg (by simp [shut])]
    simp only [rocL_shut _ (onsC_shut ds n), Option.map_some]
  have e2 : ∀ k, roc h k (.ro (rows Ty.str.cs ts) ts.length) = some (.ro (rows Ty.str.cs ts) ts.length) := fun k => roc_sh (Ty.str.slice.sh ts _ (by simp [Ty.slice]))
  unfold roc
  rw [if_neg (by simp [shut])]
  simp only [hb]
  rw [if_neg (by simp [shut.shutL, shut])]
  simp [List.mapM_cons, List.mapM_nil, e1, e2]
/- 89: (*loop.example/g00464/impl.graph).onOf -/
def A89 : AC := (.seq (.ops [⟨(some 4), none, .q (.mov (.c .em))⟩])
  (.seq (.ops [⟨(some 6), none, .q (.mov (.t 0))⟩, ⟨(some 7), none, .q (.nilc (.t 6))⟩, ⟨(some 8), none, .q (.fadr 0 (.t 7))⟩, ⟨(some 9), none, .q (.load false 1 (.t 8))⟩, ⟨(some 10), none, .q (.mov (.t 1))⟩, ⟨(some 11), none, .c (.c (.clo 86 [])) [(.t 9), (.t 10)]⟩, ⟨(some 5), none, .q (.mov (.t 11))⟩])
  (.seq (.seq (.ops [⟨(some 12), none, .q (.mov (.t 5))⟩, ⟨(some 13), none, .q (.bin .lss (.t 12) (.c (.sc (.int .i64 0))))⟩])
  (.cond (.t 13) (.seq (.ops [⟨(some 4), none, .q (.mov (.c .em))⟩])
  .ret)
  .skip))
  (.seq (.ops [⟨(some 14), none, .q (.mov (.t 0))⟩, ⟨(some 15), none, .q (.nilc (.t 14))⟩, ⟨(some 16), none, .q (.fadr 1 (.t 15))⟩, ⟨(some 17), none, .q (.load false 1 (.t 16))⟩, ⟨(some 18), none, .q (.mov (.t 5))⟩, ⟨(some 19), none, .q (.iadr 1 (.t 17) (.t 18))⟩, ⟨(some 20), none, .q (.load false 1 (.t 19))⟩, ⟨(some 4), none, .q (.mov (.t 20))⟩])
  .ret))))
theorem K89 : Tryz.f89.body.bind (comp Tryz.prog) = some A89 ∧ Tryz.f89.ntmps = 21 ∧ Tryz.f89.results.toList.mapM (resB Tryz.prog) = some [.mov (.t 4)] := ⟨by kernel_rfl, by kernel_rfl, by kernel_rfl⟩
theorem R89 (ts : List ByteArray) (ds : List (List ByteArray)) (t : ByteArray) (hb : ts.length ≤ 1048576) : Ret Tryz.prog 89 [.rp [.ro (rows Ty.str.cs ts) ts.length, .ro (onsC ds ts.length) ts.length] 0, .sc (.string t)] (onA ts ds t) [.un, .un] := by
  refine Ret.run Tryz.func89 K89 (by simp) rfl rfl 500 ?_
  simp [A89, iniρ]
  refine callK.ro 0 rfl (by kernel_rfl) (by simp [roc_ro, roc_sc, upd_app]) (R86 ts t (by omega)) rfl rfl rfl ?_
  by_cases h : 0 ≤ tIx t ts
  · obtain ⟨k, hk, hkl⟩ := tIx_at h
    obtain ⟨br, hd⟩ := onsC_drop ds ts.length k hkl
    have hk0 : ¬ ((k : Int) < 0) := by omega
    have hk1 : (k : Int) < ts.length := by omega
    have hA : onA ts ds t = onC ds k := by unfold onA; rw [if_pos h, hk]; rfl
    rw [hA]
    cases hds : ds[k]? with
    | none =>
      have hoe : onC ds k = .em := by unfold onC; rw [hds]
      rw [hoe] at hd ⊢
      simp [hk, hk0, hk1, hkl, hd, ex1]
    | some d =>
      have hoe : onC ds k = .ro (rows Ty.str.cs d) d.length := by unfold onC; rw [hds]
      rw [hoe] at hd ⊢
      simp [hk, hk0, hk1, hkl, hd, ex1]
  · have hA : onA ts ds t = .em := by unfold onA; rw [if_neg h]
    have hn : tIx t ts < 0 := by omega
    rw [hA]
    simp [hn, ex1]
/- 90: (*loop.example/g00464/impl.Run).isMade -/
def A90 : AC := (.seq (.ops [⟨(some 4), none, .q (.mov (.c (.sc (.bool false))))⟩])
  (.seq (.ops [⟨(some 6), none, .q (.mov (.t 0))⟩, ⟨(some 7), none, .q (.mov (.t 1))⟩, ⟨(some 8), none, .c (.c (.clo 87 [])) [(.t 6), (.t 7)]⟩, ⟨(some 5), none, .q (.mov (.t 8))⟩])
  (.seq (.ops [⟨(some 9), none, .q (.mov (.t 5))⟩, ⟨(some 10), none, .q (.bin .eql (.t 9) (.c (.sc (.int .i64 1))))⟩, ⟨(some 11), none, .q (.mov (.t 10))⟩, ⟨(some 12), (some (11, false)), .q (.mov (.t 5))⟩, ⟨(some 13), (some (11, false)), .q (.bin .eql (.t 12) (.c (.sc (.int .i64 2))))⟩, ⟨(some 14), none, .q (.pick (.t 11) (.c (.sc (.bool true))) (.t 13))⟩, ⟨(some 4), none, .q (.mov (.t 14))⟩])
  .ret)))
theorem K90 : Tryz.f90.body.bind (comp Tryz.prog) = some A90 ∧ Tryz.f90.ntmps = 15 ∧ Tryz.f90.results.toList.mapM (resB Tryz.prog) = some [.mov (.t 4)] := ⟨by kernel_rfl, by kernel_rfl, by kernel_rfl⟩
theorem R90 (r : Run) (hr : Run.ty.ok r) (t : ByteArray) : Ret Tryz.prog 90 [.rp (Run.ty.cs r) 0, .sc (.string t)] (.sc (.bool (madeB (howOf t r.marks)))) [.un, .un] := by
  refine Ret.run Tryz.func90 K90 (by simp) rfl rfl 500 ?_
  simp [A90, iniρ]
  have hro : ∀ h k, roc h k (.rp (Run.ty.cs r) 0) = some (.rp (Run.ty.cs r) 0) := fun h k => roc_sh (by simp [shut, Run.ty.shL])
  refine callK.ro 0 rfl (by kernel_rfl) (by simp [hro, roc_sc, upd_app]) (R87 r hr t) rfl rfl rfl ?_
  by_cases h1 : howOf t r.marks = 1
  · simp [h1, madeB]
  · by_cases h2 : howOf t r.marks = 2
    · simp [h2, madeB]
    · simp [h1, h2, madeB]
/- 59: (*loop.example/g00464/impl.Run).mayGo -/
def A59 : AC := (.seq (.ops [⟨(some 4), none, .q (.mov (.c (.sc (.bool false))))⟩])
  (.seq (.seq (.ops [⟨(some 7), none, .q (.mov (.t 0))⟩, ⟨(some 8), none, .q (.mov (.t 1))⟩, ⟨(some 9), none, .c (.c (.clo 87 [])) [(.t 7), (.t 8)]⟩, ⟨(some 10), none, .q (.bin .neq (.t 9) (.c (.sc (.int .i64 0))))⟩])
  (.cond (.t 10) (.seq (.ops [⟨(some 4), none, .q (.mov (.c (.sc (.bool false))))⟩])
  .ret)
  .skip))
  (.seq (.seq (.ops [⟨(some 11), none, .q (.mov (.t 0))⟩, ⟨(some 12), none, .q (.nilc (.t 11))⟩, ⟨(some 13), none, .q (.fadr 4 (.t 12))⟩, ⟨(some 14), none, .c (.c (.clo 88 [])) [(.t 13)]⟩, ⟨(some 15), none, .q (.mov (.t 1))⟩, ⟨(some 16), none, .c (.c (.clo 89 [])) [(.t 14), (.t 15)]⟩, ⟨(some 17), none, .q (.llen (.t 16))⟩, ⟨(some 18), none, .q (.mov (.c (.sc (.int .i64 0))))⟩])
  (.block 0 (.loop (.seq (.ops [⟨(some 19), none, .q (.bin .lss (.t 18) (.t 17))⟩])
  (.seq (.cond (.t 19) .skip
  (.exit 0))
  (.seq (.block 1 (.seq (.ops [⟨(some 20), none, .q (.iadr 1 (.t 16) (.t 18))⟩, ⟨(some 21), none, .q (.load false 1 (.t 20))⟩, ⟨(some 6), none, .q (.mov (.t 21))⟩])
  (.seq (.ops [⟨(some 22), none, .q (.mov (.t 0))⟩, ⟨(some 23), none, .q (.mov (.t 6))⟩, ⟨(some 24), none, .c (.c (.clo 90 [])) [(.t 22), (.t 23)]⟩, ⟨(some 25), none, .q (.not (.t 24))⟩])
  (.cond (.t 25) (.seq (.ops [⟨(some 4), none, .q (.mov (.c (.sc (.bool false))))⟩])
  .ret)
  .skip))))
  (.ops [⟨(some 26), none, .q (.bin .add (.t 18) (.c (.sc (.int .i64 1))))⟩, ⟨(some 18), none, .q (.mov (.t 26))⟩])))))))
  (.seq (.ops [⟨(some 4), none, .q (.mov (.c (.sc (.bool true))))⟩])
  .ret))))
theorem K59 : Tryz.f59.body.bind (comp Tryz.prog) = some A59 ∧ Tryz.f59.ntmps = 27 ∧ Tryz.f59.results.toList.mapM (resB Tryz.prog) = some [.mov (.t 4)] := ⟨by kernel_rfl, by kernel_rfl, by kernel_rfl⟩
set_option maxHeartbeats 1000000 in
theorem R59 (r : Run) (hr : Run.ty.ok r) (t : ByteArray) (hs : r.p.tasks.length ≤ 1048576) (hs2 : r.p.deps.length ≤ 1048576) (hs3 : (onL r.p.tasks r.p.deps t).length ≤ 4611686018427387903) : Ret Tryz.prog 59 [.rp (Run.ty.cs r) 0, .sc (.string t)] (.sc (.bool (mayB r t))) [.un, .un] := by
  have hrp : shut (.rp (Run.ty.cs r) 0) = true := by simp [shut, Run.ty.shL]
  have hro : ∀ h k, roc h k (.rp (Run.ty.cs r) 0) = some (.rp (Run.ty.cs r) 0) := fun h k => roc_sh hrp
  have hrp4 : shut (.rp (Run.ty.cs r) 4) = true := by simp [shut, Run.ty.shL]
  refine Ret.run Tryz.func59 K59 (by simp) rfl rfl 900 ?_
  simp [A59, iniρ]
  refine callK.ro 0 rfl (by kernel_rfl) (by simp [hro, roc_sc, upd_app]) (R87 r hr t) rfl rfl rfl ?_
  by_cases h0 : howOf t r.marks = 0
  case neg => simp [h0, mayB]
  simp [h0]
  refine callK.cut [.ro] 50 (r := [(none, none)]) rfl (by kernel_rfl) rfl (by rfl) (by rfl) (by simp [closedB, hrp4, upd_app]) (by simp [shutArgs, roc_sh, hrp4, upd_app]; rfl) (by rfl) (R88 r hs hs2) (by rfl) (by rfl) (by simp [inst, upd_app]; exact ⟨rfl, rfl⟩) rfl ?_
  simp [over]
  obtain ⟨ts, hts⟩ : ∃ ts, ts = r.p.tasks := ⟨_, rfl⟩
  obtain ⟨ds, hds⟩ : ∃ ds, ds = r.p.deps := ⟨_, rfl⟩
  have rO := R89 ts ds t (by rw [hts]; exact hs)
  obtain ⟨y, hy⟩ : ∃ y, y = onA ts ds t := ⟨_, rfl⟩
  obtain ⟨xs, hxs⟩ : ∃ xs, xs = onL ts ds t := ⟨_, rfl⟩
  have hc := onA_cases ts ds t
  rw [← hy, ← hxs] at hc
  rw [← hy] at rO
  have hsy : shut y = true := by
    rcases hc with ⟨rfl, _⟩ | rfl
    · rfl
    · exact Ty.str.slice.sh xs _ (by simp [Ty.slice])
  have hin : ∀ st : St, inst 64 0 y st = some (y, st) := by rcases hc with ⟨rfl, _⟩ | rfl <;> intro st <;> rfl
  have hM : mayB r t = xs.all fun d => madeB (howOf d r.marks) := by simp [mayB, freeB, h0, hxs, hts, hds]
  have hxl : xs.length ≤ 4611686018427387903 := by rw [hxs, hts, hds]; exact hs3
  rw [← hts, ← hds]
  refine callK.le (Le.freeze 8 [0, 1, 15] [] [(14, .rp [.ro (rows Ty.str.cs ts) ts.length, .ro (onsC ds ts.length) ts.length] 0)] (by simp [upd_app, menB, idfree]) (by simp) (by simp [upd_app, hideH_nil]; exact roc_graph (by simp [upd_app]))) ?_
  refine callK.cut [.ro, .ro] 0 (r := [(none, none), (none, none)]) rfl (by kernel_rfl) rfl (by rfl) (by rfl) (by simp [closedB, shut, frz, keep_app, upd_app]) (by simp [shutArgs, roc_sh, frz, keep_app, upd_app]; rfl) (by rfl) rO (by rfl) (by rfl) (hin _) rfl ?_
  rw [hM]
  rcases hc with ⟨rfl, rfl⟩ | rfl
  · simp [frz, keep_app, upd_app]
    refine T.rounds (μ := fun _ : Nat => 0) (fun _ s => s.ρ 17 = .sc (.int .i64 0) ∧ s.ρ 18 = .sc (.int .i64 0) ∧ s.n = 27) 0 (by simp [upd_app]) ?_
    rintro _ ⟨ρ, hh, n⟩ ⟨k17, k18, rfl⟩
    simp only at k17 k18
    refine run_ok (n := 400) ?_
    simp [k17, k18]
    refine T.on 400 ?_
    simp
  simp [frz, keep_app, upd_app]
  refine T.rounds (μ := fun i : List ByteArray × List ByteArray => i.2.length)
    (fun i s => i.1 ++ i.2 = xs ∧ (i.2.all fun d => madeB (howOf d r.marks)) = (xs.all fun d => madeB (howOf d r.marks)) ∧ s.ρ 0 = .rp (Run.ty.cs r) 0 ∧ s.ρ 16 = .ro (rows Ty.str.cs xs) xs.length ∧ s.ρ 17 = .sc (.int .i64 xs.length) ∧ s.ρ 18 = .sc (.int .i64 i.1.length) ∧ s.n = 27) ([], xs) (by simp [upd_app, keep_app]) ?_
  rintro ⟨pre, rest⟩ ⟨ρ, hh, n⟩ ⟨hx, hE, k0, k16, k17, k18, rfl⟩
  simp only at hx hE k0 k16 k17 k18
  refine run_ok (n := 400) ?_
  cases rest with
  | nil =>
    simp at hx
    subst hx
    have hE' := hE.symm
    simp only [List.all_nil] at hE'
    rw [hE']
    simp [k17, k18]
    refine T.on 400 ?_
    simp
  | cons x rest =>
    have hlt : (pre.length : Int) < xs.length := by rw [← hx]; simp only [List.length_append, List.length_cons]; omega
    have hd := strDrop pre rest x
    rw [hx] at hd
    have hw : IntKind.i64.wrap ((pre.length : Int) + 1) = pre.length + 1 := wrap_i64 (by omega) (by omega)
    simp [k0, k16, k17, k18, hlt, hd]
    refine callK.ro 0 rfl (by kernel_rfl) (by simp [hro, roc_sc, upd_app, k0]) (R90 r hr x) rfl rfl rfl ?_
    rw [← hE, List.all_cons]
    cases hk : madeB (howOf x r.marks) with
    | false => simp
    | true =>
      simp [k18, hw]
      refine ⟨pre ++ [x], rest, by simp, _, Le.refl _, by simpa using hx, rfl, ?_⟩
      simp [upd_app, k0, k16, k17]
/- 28: (*loop.example/g00464/impl.Run).ready -/
def A28 : AC := (.seq (.ops [⟨(some 2), none, .q (.mov (.c .em))⟩])
  (.seq (.seq (.any [(⟨(some 6), none, .q (.mov (.t 0))⟩, []), (⟨(some 7), none, .q (.nilc (.t 6))⟩, [0]), (⟨(some 8), none, .q (.fadr 10 (.t 7))⟩, [1]), (⟨(some 9), none, .q (.load false 1 (.t 8))⟩, [2]), (⟨(some 10), none, .q (.llen (.t 9))⟩, [3]), (⟨(some 11), none, .q (.mov (.t 0))⟩, []), (⟨(some 12), none, .q (.nilc (.t 11))⟩, [5]), (⟨(some 13), none, .q (.fadr 6 (.t 12))⟩, [6]), (⟨(some 14), none, .q (.load false 1 (.t 13))⟩, [7]), (⟨(some 15), none, .q (.bin .geq (.t 10) (.t 14))⟩, [4, 8])])
  (.cond (.t 15) (.seq (.ops [⟨(some 2), none, .q (.mov (.c .em))⟩])
  .ret)
  .skip))
  (.seq (.ops [⟨(some 3), none, .q (.mov (.c .em))⟩])
  (.seq (.seq (.ops [⟨(some 16), none, .q (.mov (.t 0))⟩, ⟨(some 17), none, .q (.nilc (.t 16))⟩, ⟨(some 18), none, .q (.fadr 4 (.t 17))⟩, ⟨(some 19), none, .q (.fadr 0 (.t 18))⟩, ⟨(some 20), none, .q (.load false 1 (.t 19))⟩, ⟨(some 21), none, .q (.llen (.t 20))⟩, ⟨(some 22), none, .q (.mov (.c (.sc (.int .i64 0))))⟩])
  (.block 0 (.loop (.seq (.ops [⟨(some 23), none, .q (.bin .lss (.t 22) (.t 21))⟩])
  (.seq (.cond (.t 23) .skip
  (.exit 0))
  (.seq (.block 1 (.seq (.ops [⟨(some 24), none, .q (.iadr 1 (.t 20) (.t 22))⟩, ⟨(some 25), none, .q (.load false 1 (.t 24))⟩, ⟨(some 5), none, .q (.mov (.t 25))⟩])
  (.seq (.ops [⟨(some 26), none, .q (.mov (.t 0))⟩, ⟨(some 27), none, .q (.nilc (.t 26))⟩, ⟨(some 28), none, .q (.fadr 10 (.t 27))⟩, ⟨(some 29), none, .q (.load false 1 (.t 28))⟩, ⟨(some 30), none, .q (.mov (.t 5))⟩, ⟨(some 31), none, .c (.c (.clo 58 [])) [(.t 29), (.t 30)]⟩, ⟨(some 32), none, .q (.not (.t 31))⟩, ⟨(some 33), none, .q (.mov (.t 32))⟩, ⟨(some 34), (some (33, true)), .q (.mov (.t 0))⟩, ⟨(some 35), (some (33, true)), .q (.mov (.t 5))⟩, ⟨(some 36), (some (33, true)), .c (.c (.clo 59 [])) [(.t 34), (.t 35)]⟩, ⟨(some 37), none, .q (.pick (.t 33) (.t 36) (.c (.sc (.bool false))))⟩])
  (.cond (.t 37) (.ops [⟨(some 38), none, .q (.mov (.t 3))⟩, ⟨(some 39), none, .q (.mov (.t 5))⟩, ⟨(some 40), none, .w (.bsl 1 1 [(.sc (.string ⟨#[]⟩))] [(0, 1, (.t 39))])⟩, ⟨(some 41), none, .w (.app 1 16 false (.t 38) (.t 40))⟩, ⟨(some 3), none, .q (.mov (.t 41))⟩])
  .skip))))
  (.ops [⟨(some 42), none, .q (.bin .add (.t 22) (.c (.sc (.int .i64 1))))⟩, ⟨(some 22), none, .q (.mov (.t 42))⟩])))))))
  (.seq (.ops [⟨(some 43), none, .q (.mov (.t 3))⟩, ⟨(some 2), none, .q (.mov (.t 43))⟩])
  .ret)))))
theorem K28 : Tryz.f28.body.bind (comp Tryz.prog) = some A28 ∧ Tryz.f28.ntmps = 44 ∧ Tryz.f28.results.toList.mapM (resB Tryz.prog) = some [.mov (.t 2)] := ⟨by kernel_rfl, by kernel_rfl, by kernel_rfl⟩
set_option maxHeartbeats 1000000 in
theorem R28 (r : Run) (hr : Run.ty.ok r) (hs : r.p.tasks.length ≤ 1048576) (hs2 : r.p.deps.length ≤ 1048576) (hs3 : ∀ t, (onL r.p.tasks r.p.deps t).length ≤ 4611686018427387903) : Ret Tryz.prog 28 [.rp (Run.ty.cs r) 0] (.own (rows Ty.str.oc (readyF r)) (readyF r).length 1) [.un] := by
  have hb : r.going.length < 4611686018427387904 := Ty.str.lenb (by decide) hr.2.2.2.2.2.2.1
  have hrp : shut (.rp (Run.ty.cs r) 0) = true := by simp [shut, Run.ty.shL]
  have hro : ∀ h k, roc h k (.rp (Run.ty.cs r) 0) = some (.rp (Run.ty.cs r) 0) := fun h k => roc_sh hrp
  have hcs := Run.cse r
  have hro2 : ∀ h k, roc h k (.ro (rows Ty.str.cs r.going) r.going.length) = some (.ro (rows Ty.str.cs r.going) r.going.length) := fun h k => roc_sh (Ty.str.slice.sh r.going _ (by simp [Ty.slice]))
  refine Ret.run Tryz.func28 K28 (by simp) rfl rfl 900 ?_
  simp [A28, iniρ]
  refine T.text 400 mixed (by kernel_rfl) (by kernel_rfl) ?_
  by_cases hg : r.slots ≤ r.going.length
  · have hF : readyF r = [] := by unfold readyF; rw [if_pos hg]
    rw [hF]
    simp [hcs, hg, ex1, rows_nil]
  have hF : readyF r = r.p.tasks.filter (goB r) := by unfold readyF; rw [if_neg hg]
  rw [hF]
  simp [hcs, hg]
  obtain ⟨ts, hts⟩ : ∃ ts, ts = r.p.tasks := ⟨_, rfl⟩
  rw [← hts]
  rw [← hts] at hs
  refine T.le (Le.lay 3 60 1 (by simp [upd_app]) (by simp)) ?_
  refine T.rounds (μ := fun i : List ByteArray × List ByteArray × List ByteArray => i.2.1.length)
    (fun i s => i.1 ++ i.2.1 = ts ∧ i.2.2 ++ i.2.1.filter (goB r) = ts.filter (goB r) ∧ i.2.2.length ≤ i.1.length ∧ s.ρ 0 = .rp (Run.ty.cs r) 0 ∧ s.ρ 3 = .sl 60 0 i.2.2.length 1 false ∧ s.ρ 20 = .ro (rows Ty.str.cs ts) ts.length ∧ s.ρ 21 = .sc (.int .i64 ts.length) ∧ s.ρ 22 = .sc (.int .i64 i.1.length) ∧
      s.h 60 = some (some (rows Ty.str.oc i.2.2)) ∧ (∀ b, b ≠ 60 → s.h b = none) ∧ s.n = 44) ([], ts, []) (by simp [upd_app, rows_nil, hcs, hts]) ?_
  rintro ⟨pre, rest, out⟩ ⟨ρ, hh, n⟩ ⟨hx, hE, hol, k0, k3, k20, k21, k22, kh, kf, rfl⟩
  simp only at hx hE hol k0 k3 k20 k21 k22 kh kf
  refine run_ok (n := 400) ?_
  cases rest with
  | nil =>
    simp at hx hE
    subst hx
    simp [k21, k22]
    refine T.on 400 ?_
    have hlo : (rows Ty.str.oc out).length = out.length := by rw [rows_length Ty.str.ocn]; exact Nat.mul_one _
    have hfr : idfree.idfreeL (rows Ty.str.oc out) = true := Ty.str.frL out
    simp [k3, kh, ex1, ← hE, hlo, hfr]
  | cons x rest =>
    have hlt : (pre.length : Int) < ts.length := by rw [← hx]; simp only [List.length_append, List.length_cons]; omega
    have hd := strDrop pre rest x
    rw [hx] at hd
    have hw : IntKind.i64.wrap ((pre.length : Int) + 1) = pre.length + 1 := wrap_i64 (by omega) (by omega)
    have f40 := kf 40 (by decide)
    have f41 := kf 41 (by decide)
    have hcap : (out.length + 1) * 16 ≤ 140737488355328 := by omega
    have hlo : (rows Ty.str.oc out).length = out.length := by rw [rows_length Ty.str.ocn]; exact Nat.mul_one _
    have hap : rows Ty.str.oc out ++ [.sc (.string x)] = rows Ty.str.oc (out ++ [x]) := by rw [rows_append, rows_cons, rows_nil]; rfl
    have k0' := k0
    rw [hcs] at k0'
    simp [k0', k20, k21, k22, hlt, hd]
    refine callK.ro 0 rfl (by kernel_rfl) (by simp [hro2, roc_sc, upd_app]) (R58 r.going x hb) rfl rfl rfl ?_
    cases hhas : hasT x r.going with
    | true =>
      have hgo : goB r x = false := by simp [goB, hhas]
      simp [k22, hw]
      refine ⟨pre ++ [x], rest, by simp, out, _, Le.refl _, by simpa using hx, by rw [← hE]; simp [hgo], by simp; omega, ?_⟩
      simp [upd_app, k0, k0', hcs, k3, k20, k21, kh]
      exact kf
    | false =>
      simp [k0', k22]
      refine callK.ro 0 rfl (by kernel_rfl) (by rw [← hcs]; simp [hro, roc_sc, upd_app, k0]) (R59 r hr x (by rw [← hts]; exact hs) hs2 (hs3 x)) rfl rfl rfl ?_
      cases hmay : mayB r x with
      | false =>
        have hgo : goB r x = false := by simp [goB, hmay]
        simp [k22, hw]
        refine ⟨pre ++ [x], rest, by simp, out, _, Le.refl _, by simpa using hx, by rw [← hE]; simp [hgo], by simp; omega, ?_⟩
        simp [upd_app, k0, k0', hcs, k3, k20, k21, kh]
        exact kf
      | true =>
        have hgo : goB r x = true := by simp [goB, hhas, hmay]
        simp [k3, k22, kh, f40, f41, over, hlo, hcap, hap, hw]
        refine ⟨pre ++ [x], rest, by simp, out ++ [x], _, Le.reseat [0, 3, 20, 21, 22] [(41, 60)] (by simp) (by simp [upd_app, menB, idfree, k0, k20, k21, hcs]) ?_, by simpa using hx, by rw [← hE]; simp [hgo], by simp; omega, ?_⟩
        · intro b hb' cs hcs'
          simp at hb'
          subst hb'
          simp [upd_app] at hcs'
          subst hcs'
          exact idfreeL_mem (Ty.str.frL _)
        · simp [upd_app, k0, k20, k21, hcs]
          intro b hb
          rw [if_neg (fun e => hb e.symm)]
def overF (r : Run) : Bool := r.going.isEmpty && (readyF r).isEmpty
/- 7: loop.example/g00464/impl.Ready -/
def A7 : AC := (.seq (.ops [⟨(some 1), none, .w (.box (.t 0))⟩, ⟨(some 2), none, .q (.mov (.c .em))⟩])
  (.seq (.ops [⟨(some 3), none, .c (.c (.clo 28 [])) [(.t 1)]⟩, ⟨(some 2), none, .q (.mov (.t 3))⟩])
  .ret))
theorem K7 : Tryz.f7.body.bind (comp Tryz.prog) = some A7 ∧ Tryz.f7.ntmps = 4 ∧ Tryz.f7.results.toList.mapM (resB Tryz.prog) = some [.mov (.t 2)] := ⟨by kernel_rfl, by kernel_rfl, by kernel_rfl⟩
theorem R7 (r : Run) (hr : Run.ty.ok r) (hs : r.p.tasks.length ≤ 1048576) (hs2 : r.p.deps.length ≤ 1048576) (hs3 : ∀ t, (onL r.p.tasks r.p.deps t).length ≤ 4611686018427387903) : Ret Tryz.prog 7 [.agg (Run.ty.cs r)] (.own (rows Ty.str.oc (readyF r)) (readyF r).length 1) [.un] := by
  have hlo : (rows Ty.str.oc (readyF r)).length = (readyF r).length := by rw [rows_length Ty.str.ocn]; exact Nat.mul_one _
  have hfr : idfree.idfreeL (rows Ty.str.oc (readyF r)) = true := Ty.str.frL _
  refine Ret.run Tryz.func7 K7 (by simp) rfl rfl 500 ?_
  simp [A7, iniρ, Run.cse]
  refine callK.ro 8 rfl (by kernel_rfl) (ys := [.rp (Run.ty.cs r) 0]) (by simp [roc_ref, Run.cse, shut.shutL, upd_app]) (R28 r hr hs hs2 hs3) (Ty.str.flo _) (by simp [inst, upd_app]; exact ⟨rfl, rfl⟩) rfl ?_
  simp [ex1, hlo, hfr]
end Go.Proofs.YtaknfalbmblagaaGreat.Am
