/- The functions of the program, each by its contract: Marks; no condition. -/
import Derived.Test.YtaknfalbmblagaaGreatProg
import Derived.Test.YtaknfalbmblagaaGreatAmZ
import Derived.Test.YtaknfalbmblagaaGreatAmP
import Derived.Test.YtaknfalbmblagaaGreatAmK
import Derived.Test.YtaknfalbmblagaaGreatBase
import Derived.Test.YtaknfalbmblagaaGreatTypes
import Derived.KernelRfl
namespace Go.Proofs.YtaknfalbmblagaaGreat.Am
open Go Go.Proofs
set_option linter.unusedSimpArgs false
set_option linter.unusedVariables false
attribute [local congr] T_congr callK_congr callWK_congr
attribute [local simp] run_nil run_op0 run_opg run_seq run_cond run_block run_ret run_skip run_skip_after run_skip_blk run_exit run_exit_after run_exit_blk run_loop run_any runS_nil runS_op0 runS_opg runW_nil runW_op0 runW_opg exec_q exec_w exec_c exec_n execW_q execW_w execW_c restW_app hideH_app merge_app wblk rest_app restS_app execS_q execS_c aval dOk upd_app ev_t ev_c setO_some setO_none put_mk pinsOf isIo hasIo sbin endR fin resL one outL out1 clo1 cloL coe coeL shut shut.shutL wantA weff cellsOf fillA deref natOf ρ0_app h0_app plain plain.plainL keep_app keepH_app andThen_normal andThen_ret andThen_exit pop_nil pop_after pop_after_ret pop_after_exit pop_blk pop_blk_ret pop_blk_exit nilA srcOf srcCells keepR_app keepHR_app renA rb
/- 39: loop.example/g00464/laws.markText -/
def A39 : AC := (.seq (.ops [⟨(some 2), none, .q (.mov (.c (.sc (.string ⟨#[]⟩))))⟩])
  (.seq (.seq (.ops [⟨(some 4), none, .q (.mov (.t 0))⟩, ⟨(some 5), none, .q (.bin .leq (.t 4) (.c (.sc (.int .i64 0))))⟩])
  (.cond (.t 5) (.seq (.ops [⟨(some 2), none, .q (.mov (.c (.sc (.string ⟨#[109, 48]⟩))))⟩])
  .ret)
  .skip))
  (.seq (.ops [⟨(some 3), none, .q (.mov (.c (.sc (.string ⟨#[]⟩))))⟩])
  (.seq (.block 0 (.loop (.seq (.seq (.ops [⟨(some 6), none, .q (.mov (.t 0))⟩, ⟨(some 7), none, .q (.bin .gtr (.t 6) (.c (.sc (.int .i64 0))))⟩])
  (.cond (.t 7) .skip
  (.exit 0)))
  (.block 1 (.seq (.ops [⟨(some 8), none, .q (.mov (.t 0))⟩, ⟨(some 9), none, .q (.bin .rem (.t 8) (.c (.sc (.int .i64 10))))⟩, ⟨(some 10), none, .q (.bin .add (.c (.sc (.int .i64 48))) (.t 9))⟩, ⟨(some 11), none, .q (.cvi .u8 (.t 10))⟩, ⟨(some 12), none, .w (.bsl 1 1 [(.sc (.int .u8 0))] [(0, 1, (.t 11))])⟩, ⟨(some 13), none, .q (.bstr (.t 12))⟩, ⟨(some 14), none, .q (.mov (.t 3))⟩, ⟨(some 15), none, .q (.bin .add (.t 13) (.t 14))⟩, ⟨(some 3), none, .q (.mov (.t 15))⟩])
  (.ops [⟨(some 16), none, .q (.mov (.t 0))⟩, ⟨(some 17), none, .q (.bin .quo (.t 16) (.c (.sc (.int .i64 10))))⟩, ⟨(some 0), none, .q (.mov (.t 17))⟩]))))))
  (.seq (.ops [⟨(some 18), none, .q (.mov (.t 3))⟩, ⟨(some 19), none, .q (.bin .add (.c (.sc (.string ⟨#[109]⟩))) (.t 18))⟩, ⟨(some 2), none, .q (.mov (.t 19))⟩])
  .ret)))))
theorem K39 : Tryz.f39.body.bind (comp Tryz.prog) = some A39 ∧ Tryz.f39.ntmps = 20 ∧ Tryz.f39.results.toList.mapM (resB Tryz.prog) = some [.mov (.t 2)] := ⟨by kernel_rfl, by kernel_rfl, by kernel_rfl⟩
theorem R39 (n : Nat) (h0 : 0 < n) (hn : n < 4611686018427387904) : Ret Tryz.prog 39 [.sc (.int .i64 n)] (.sc (.string (mtext n))) [.un] := by
  have hnp : ¬ ((n : Int) ≤ 0) := by omega
  refine Ret.run Tryz.func39 K39 (by simp) rfl rfl 900 ?_
  simp only [A39, iniρ]
  have hn0 : ¬ n = 0 := by omega
  simp [hnp, hn0]
  have hz0 : (⟨#[]⟩ : ByteArray).size + n ≤ n := by show 0 + n ≤ n; omega
  refine T.rounds (μ := fun i : Nat × Nat × ByteArray => i.1)
    (fun i s => i.2.1 ≤ i.1 ∧ i.2.2.size + i.2.1 ≤ n ∧ mtF i.1 i.2.1 i.2.2 = mtF n n ⟨#[]⟩ ∧ s.ρ 0 = .sc (.int .i64 i.2.1) ∧ s.ρ 3 = .sc (.string i.2.2) ∧ s.h 12 = none ∧ s.n = 20) (n, n, ⟨#[]⟩) (by simp [upd_app, hz0]) ?_
  rintro ⟨k, m, a⟩ ⟨ρ, hh, n'⟩ ⟨hk, hs, hE, h0', h3', f1, rfl⟩
  simp only at hk hs hE h0' h3' f1
  refine run_ok (n := 400) ?_
  by_cases h9 : 0 < m
  case neg =>
    have h9' : ¬ ((0 : Int) < m) := by omega
    have hE2 : a = mtF n n ⟨#[]⟩ := by rw [← hE]; cases k <;> simp [mtF, h9]
    have hsz : (⟨#[109]⟩ : ByteArray).size + a.size ≤ 9223372036854775807 := by
      have e : (⟨#[109]⟩ : ByteArray).size = 1 := rfl
      rw [e]; omega
    simp [h0', h9, h9']
    refine T.on 400 ?_
    rw [hE2] at h3' hsz
    simp [h3', hsz, mtext]
  have h9' : (0 : Int) < m := by omega
  obtain ⟨k, rfl⟩ : ∃ k', k = k' + 1 := ⟨k - 1, by omega⟩
  rw [mtF, if_pos h9] at hE
  have hq1 : (m : Int).tdiv 10 = (m : Int) / 10 := rfl
  have hw1 : IntKind.i64.wrap ((m : Int) / 10) = (m : Int) / 10 := wrap_i64 (by omega) (by omega)
  have hr2 : (m : Int).tmod 10 = (m : Int) % 10 := rfl
  have hw2 : IntKind.i64.wrap (48 + (m : Int) % 10) = 48 + (m : Int) % 10 := wrap_i64 (by omega) (by omega)
  have hsz : (strOfNums [IntKind.u8.wrap (48 + (m : Int) % 10)]).size + a.size ≤ 9223372036854775807 := by
    have := digM_size ((m : Int) % 10)
    rw [digM] at this
    rw [this]; omega
  simp [h0', h3', h9, h9', f1, over, hq1, hw1, hr2, hw2, bytesA, num8, hsz]
  refine ⟨k, by omega, m / 10, digM ((m : Int) % 10) ++ a, _, Le.reset [0, 3] [] (by simp [upd_app, menB, idfree]) (by simp), ?_⟩
  simp [upd_app, hE, digM_size]
  exact ⟨by omega, by omega, rfl⟩
theorem RmarkTextI (k : Int) (h0 : 0 < k) (hn : k < 4611686018427387904) : Ret Tryz.prog 39 [.sc (.int .i64 k)] (.sc (.string (mtI k))) [.un] := by
  have r := R39 k.toNat (by omega) (by omega)
  have e : ((k.toNat : Nat) : Int) = k := by omega
  rw [e] at r
  exact r
theorem strTot1 (x : ByteArray) : 1 ≤ strTot x := Nat.le_refl _
def File.mark (x : File) (k : Int) : File := ⟨(mtI (k)), (mtI (k + 1))⟩
def File.tot (x : File) : Nat := 1 + 1
theorem File.tote (x : File) : File.tot x = 1 + 1 := rfl
theorem File.totw (x : File) : File.tot x ≤ 3 * (1 + File.ty.wt x) := by
  rw [File.tote, File.wte]; omega
theorem File.tot1 (x : File) : 1 ≤ File.tot x := by rw [File.tote]; all_goals omega
def Need.mark (x : Need) (k : Int) : Need := ⟨(mtI (k)), (mtI (k + 1))⟩
def Need.tot (x : Need) : Nat := 1 + 1
theorem Need.tote (x : Need) : Need.tot x = 1 + 1 := rfl
theorem Need.totw (x : Need) : Need.tot x ≤ 3 * (1 + Need.ty.wt x) := by
  rw [Need.tote, Need.wte]; omega
theorem Need.tot1 (x : Need) : 1 ≤ Need.tot x := by rw [Need.tote]; all_goals omega
def Cmd.mark (x : Cmd) (k : Int) : Cmd := ⟨(mtI (k)), (mkL strMk strTot x.acts (k + 1))⟩
def Cmd.tot (x : Cmd) : Nat := 1 + toL strTot x.acts
theorem Cmd.tote (x : Cmd) : Cmd.tot x = 1 + toL strTot x.acts := rfl
theorem Cmd.totw (x : Cmd) : Cmd.tot x ≤ 3 * (1 + Cmd.ty.wt x) := by
  have w1 := toL_wt strTotw x.acts
  rw [Cmd.tote, Cmd.wte]; omega
theorem Cmd.tot1 (x : Cmd) : 1 ≤ Cmd.tot x := by rw [Cmd.tote]; all_goals omega
def Pack.mark (x : Pack) (k : Int) : Pack := ⟨(mtI (k)), (mkL strMk strTot x.uses (k + 1)), (mkL Need.mark Need.tot x.needs (k + 1 + (toL strTot x.uses : Nat))), (mkL Cmd.mark Cmd.tot x.cmds (k + 1 + (toL strTot x.uses : Nat) + (toL Need.tot x.needs : Nat)))⟩
def Pack.tot (x : Pack) : Nat := 1 + toL strTot x.uses + toL Need.tot x.needs + toL Cmd.tot x.cmds
theorem Pack.tote (x : Pack) : Pack.tot x = 1 + toL strTot x.uses + toL Need.tot x.needs + toL Cmd.tot x.cmds := rfl
theorem Pack.totw (x : Pack) : Pack.tot x ≤ 3 * (1 + Pack.ty.wt x) := by
  have w1 := toL_wt strTotw x.uses
  have w2 := toL_wt Need.totw x.needs
  have w3 := toL_wt Cmd.totw x.cmds
  rw [Pack.tote, Pack.wte]; omega
theorem Pack.tot1 (x : Pack) : 1 ≤ Pack.tot x := by rw [Pack.tote]; all_goals omega
def Env.mark (x : Env) (k : Int) : Env := ⟨(mtI (k)), (mtI (k + 1))⟩
def Env.tot (x : Env) : Nat := 1 + 1
theorem Env.tote (x : Env) : Env.tot x = 1 + 1 := rfl
theorem Env.totw (x : Env) : Env.tot x ≤ 3 * (1 + Env.ty.wt x) := by
  rw [Env.tote, Env.wte]; omega
theorem Env.tot1 (x : Env) : 1 ≤ Env.tot x := by rw [Env.tote]; all_goals omega
def Rule.mark (x : Rule) (k : Int) : Rule := ⟨(mtI (k)), (mkL strMk strTot x.on (k + 1)), (mkL strMk strTot x.ins (k + 1 + (toL strTot x.on : Nat))), (mkL strMk strTot x.envs (k + 1 + (toL strTot x.on : Nat) + (toL strTot x.ins : Nat))), ((k + 1 + (toL strTot x.on : Nat) + (toL strTot x.ins : Nat) + (toL strTot x.envs : Nat)).tmod 3 == 0)⟩
def Rule.tot (x : Rule) : Nat := 1 + toL strTot x.on + toL strTot x.ins + toL strTot x.envs + 1
theorem Rule.tote (x : Rule) : Rule.tot x = 1 + toL strTot x.on + toL strTot x.ins + toL strTot x.envs + 1 := rfl
theorem Rule.totw (x : Rule) : Rule.tot x ≤ 3 * (1 + Rule.ty.wt x) := by
  have w1 := toL_wt strTotw x.on
  have w2 := toL_wt strTotw x.ins
  have w3 := toL_wt strTotw x.envs
  rw [Rule.tote, Rule.wte]; omega
theorem Rule.tot1 (x : Rule) : 1 ≤ Rule.tot x := by rw [Rule.tote]; all_goals omega
def Made.mark (x : Made) (k : Int) : Made := ⟨(mtI (k)), (mkL File.mark File.tot x.outs (k + 1)), (mtI (k + 1 + (toL File.tot x.outs : Nat)))⟩
def Made.tot (x : Made) : Nat := 1 + toL File.tot x.outs + 1
theorem Made.tote (x : Made) : Made.tot x = 1 + toL File.tot x.outs + 1 := rfl
theorem Made.totw (x : Made) : Made.tot x ≤ 3 * (1 + Made.ty.wt x) := by
  have w1 := toL_wt File.totw x.outs
  rw [Made.tote, Made.wte]; omega
theorem Made.tot1 (x : Made) : 1 ≤ Made.tot x := by rw [Made.tote]; all_goals omega
def Mark.mark (x : Mark) (k : Int) : Mark := ⟨(mtI (k)), (k + 1)⟩
def Mark.tot (x : Mark) : Nat := 1 + 1
theorem Mark.tote (x : Mark) : Mark.tot x = 1 + 1 := rfl
theorem Mark.totw (x : Mark) : Mark.tot x ≤ 3 * (1 + Mark.ty.wt x) := by
  rw [Mark.tote, Mark.wte]; omega
theorem Mark.tot1 (x : Mark) : 1 ≤ Mark.tot x := by rw [Mark.tote]; all_goals omega
/- 11: loop.example/g00464/laws.markStringS -/
def A11 : AC := (.seq (.ops [⟨(some 4), none, .q (.mov (.c (.sc (.int .i64 0))))⟩])
  (.seq (.seq (.ops [⟨(some 5), none, .q (.mov (.c (.sc (.int .i64 0))))⟩])
  (.block 0 (.loop (.seq (.seq (.ops [⟨(some 6), none, .q (.mov (.t 5))⟩, ⟨(some 7), none, .q (.mov (.t 0))⟩, ⟨(some 8), none, .q (.llen (.t 7))⟩, ⟨(some 9), none, .q (.bin .lss (.t 6) (.t 8))⟩])
  (.cond (.t 9) .skip
  (.exit 0)))
  (.seq (.block 1 (.seq (.ops [⟨(some 12), none, .q (.mov (.t 0))⟩, ⟨(some 13), none, .q (.mov (.t 5))⟩, ⟨(some 14), none, .q (.mov (.t 1))⟩, ⟨(some 15), none, .c (.c (.clo 39 [])) [(.t 14)]⟩, ⟨(some 16), none, .q (.iadr 1 (.t 12) (.t 13))⟩, ⟨none, none, .w (.store 1 (.t 16) (.t 15))⟩])
  (.ops [⟨(some 17), none, .q (.mov (.t 1))⟩, ⟨(some 18), none, .q (.bin .add (.t 17) (.c (.sc (.int .i64 1))))⟩, ⟨(some 1), none, .q (.mov (.t 18))⟩])))
  (.ops [⟨(some 10), none, .q (.mov (.t 5))⟩, ⟨(some 11), none, .q (.bin .add (.t 10) (.c (.sc (.int .i64 1))))⟩, ⟨(some 5), none, .q (.mov (.t 11))⟩]))))))
  (.seq (.ops [⟨(some 19), none, .q (.mov (.t 1))⟩, ⟨(some 4), none, .q (.mov (.t 19))⟩])
  .ret)))
theorem K11 : Tryz.f11.body.bind (comp Tryz.prog) = some A11 ∧ Tryz.f11.ntmps = 20 ∧ Tryz.f11.results.toList.mapM (resB Tryz.prog) = some [.mov (.t 4)] := ⟨by kernel_rfl, by kernel_rfl, by kernel_rfl⟩
set_option maxHeartbeats 2000000 in
theorem R11 (xs : List (ByteArray)) (k : Int) (hk : 0 < k) (hb : k + (toL strTot xs : Nat) < 4611686018427387904) (hn : xs.length < 4611686018427387904) : MRet Tryz.prog 11 (rows Ty.str.oc xs) xs.length 1 (.sc (.int .i64 k)) (.sc (.int .i64 (k + toL strTot xs))) (rows Ty.str.oc (mkL strMk strTot xs k)) := by
  refine MRet.loop Ty.str strMk strTot (by decide) Tryz.func11 K11 xs k hn ?_
  intro ρ h M R pre x rest q hx hq hM hlt h0' h1' h5' h7' hfr hM' hR'
  have htot : toL strTot xs = toL strTot pre + (strTot x + toL strTot rest) := by rw [← hx, toL_app]; rfl
  have ht : strTot x = 1 := rfl
  have hM : M.length = pre.length * 1 := hM
  have h0' : ρ 0 = .sl 100000 0 xs.length 1 false := h0'
  have k2 : h 100000 = some (some (M ++ AV.sc (.string x) :: R)) := h7'
  have ho0 : over (M ++ AV.sc (.string x) :: R) (pre.length) [AV.sc (.string (mtI q))] = M ++ AV.sc (.string (mtI q)) :: R := by
    have := over_at (M := M ++ []) (R := R) (a := AV.sc (.string x)) (x := AV.sc (.string (mtI q))) (k := pre.length) (by simp [hM])
    simpa using this
  have hw0 : IntKind.i64.wrap (q + 1) = q + 1 := wrap_i64 (by omega) (by omega)
  have g0 : pre.length + 1 ≤ M.length + (R.length + 1) := by omega
  refine run_ok (n := 600) ?_
  simp [h0', h1', h5', k2, hlt, ho0, hw0, g0]
  refine callK.ro 0 rfl (by kernel_rfl) (by simp [roc_sc, upd_app, h1']) (RmarkTextI (q) (by omega) (by omega)) rfl rfl rfl ?_
  simp [h0', h1', h5', k2, hlt, ho0, hw0, g0]
  refine ⟨rfl, MRound.pack Ty.str (strMk x q) M R (by simp [upd_app, h0']) ?_ (by simp [upd_app, h5']) (by decide) ?_ ?_⟩
  · simp [upd_app, h1', ht]; all_goals omega
  · show _ = some (some (M ++ (AV.sc (.string (mtI q)) :: R)))
    simp [upd_app, k2]
  · intro i cs len sz hi
    match i with
    | 0 => cases hi
    | i + 1 => cases hi
/- 12: loop.example/g00464/laws.heldStringS -/
def A12 : AC := (.seq (.ops [⟨(some 4), none, .q (.mov (.c (.sc (.int .i64 0))))⟩])
  (.seq (.seq (.ops [⟨(some 5), none, .q (.mov (.c (.sc (.int .i64 0))))⟩])
  (.block 0 (.loop (.seq (.seq (.ops [⟨(some 6), none, .q (.mov (.t 5))⟩, ⟨(some 7), none, .q (.mov (.t 0))⟩, ⟨(some 8), none, .q (.llen (.t 7))⟩, ⟨(some 9), none, .q (.bin .lss (.t 6) (.t 8))⟩])
  (.cond (.t 9) .skip
  (.exit 0)))
  (.seq (.block 1 (.seq (.seq (.any [(⟨(some 12), none, .q (.mov (.t 0))⟩, []), (⟨(some 13), none, .q (.mov (.t 5))⟩, []), (⟨(some 14), none, .q (.iadr 1 (.t 12) (.t 13))⟩, [0, 1]), (⟨(some 15), none, .q (.load false 1 (.t 14))⟩, [2]), (⟨(some 16), none, .q (.mov (.t 1))⟩, []), (⟨(some 17), none, .c (.c (.clo 39 [])) [(.t 16)]⟩, [4]), (⟨(some 18), none, .q (.bin .neq (.t 15) (.t 17))⟩, [3, 5])])
  (.cond (.t 18) (.seq (.ops [⟨(some 4), none, .q (.mov (.c (.sc (.int .i64 (-1)))))⟩])
  .ret)
  .skip))
  (.ops [⟨(some 19), none, .q (.mov (.t 1))⟩, ⟨(some 20), none, .q (.bin .add (.t 19) (.c (.sc (.int .i64 1))))⟩, ⟨(some 1), none, .q (.mov (.t 20))⟩])))
  (.ops [⟨(some 10), none, .q (.mov (.t 5))⟩, ⟨(some 11), none, .q (.bin .add (.t 10) (.c (.sc (.int .i64 1))))⟩, ⟨(some 5), none, .q (.mov (.t 11))⟩]))))))
  (.seq (.ops [⟨(some 21), none, .q (.mov (.t 1))⟩, ⟨(some 4), none, .q (.mov (.t 21))⟩])
  .ret)))
theorem K12 : Tryz.f12.body.bind (comp Tryz.prog) = some A12 ∧ Tryz.f12.ntmps = 22 ∧ Tryz.f12.results.toList.mapM (resB Tryz.prog) = some [.mov (.t 4)] := ⟨by kernel_rfl, by kernel_rfl, by kernel_rfl⟩
set_option maxHeartbeats 2000000 in
theorem R12 (xs : List (ByteArray)) (k : Int) (hk : 0 < k) (hb : k + (toL strTot xs : Nat) < 4611686018427387904) (hn : xs.length < 4611686018427387904) : Ret Tryz.prog 12 [.ro (rows Ty.str.cs (mkL strMk strTot xs k)) xs.length, .sc (.int .i64 k)] (.sc (.int .i64 (k + toL strTot xs))) [.un, .un] := by
  refine Ret.heldLoop Ty.str strMk strTot (by decide) Tryz.func12 K12 xs k hn ?_
  intro ρ ms R pre x rest q Q hx hq hlt h0' h1' h5' hd
  have htot : toL strTot xs = toL strTot pre + (strTot x + toL strTot rest) := by rw [← hx, toL_app]; rfl
  have ht : strTot x = 1 := rfl
  have hw0 : IntKind.i64.wrap (q + 1) = q + 1 := wrap_i64 (by omega) (by omega)
  have hd0 : List.drop (pre.length) ms = AV.sc (.string (mtI q)) :: R := by
    have e : List.drop (pre.length) ms = Ty.str.cs (strMk x q) ++ R := by have e2 : List.drop (pre.length * 1) ms = _ := hd; rwa [Nat.mul_one] at e2
    rw [e]
    rfl
  refine run_ok (n := 600) ?_
  simp [h0', h1', h5', hlt, hw0, hd0]
  refine T.text 400 mixed (by kernel_rfl) (by kernel_rfl) ?_
  simp [h0', h1', h5', hlt, hw0, hd0]
  refine callSK.by rfl (by kernel_rfl) (by simp [roc_sc, upd_app, h1']) (RmarkTextI (q) (by omega) (by omega)) ?_
  simp [h0', h1', h5', hlt, hw0, hd0]
  refine ⟨rfl, by simp [upd_app, h0'], ?_, by simp [upd_app, h5'], rfl⟩
  simp [upd_app, h1', ht]
  all_goals omega
/- 72: loop.example/g00464/laws.markStringSS -/
def A72 : AC := (.seq (.ops [⟨(some 4), none, .q (.mov (.c (.sc (.int .i64 0))))⟩])
  (.seq (.seq (.ops [⟨(some 5), none, .q (.mov (.c (.sc (.int .i64 0))))⟩])
  (.block 0 (.loop (.seq (.seq (.ops [⟨(some 6), none, .q (.mov (.t 5))⟩, ⟨(some 7), none, .q (.mov (.t 0))⟩, ⟨(some 8), none, .q (.llen (.t 7))⟩, ⟨(some 9), none, .q (.bin .lss (.t 6) (.t 8))⟩])
  (.cond (.t 9) .skip
  (.exit 0)))
  (.seq (.block 1 (.ops [⟨(some 12), none, .q (.mov (.t 0))⟩, ⟨(some 13), none, .q (.mov (.t 5))⟩, ⟨(some 14), none, .q (.iadr 1 (.t 12) (.t 13))⟩, ⟨(some 15), none, .q (.load false 1 (.t 14))⟩, ⟨(some 16), none, .q (.mov (.t 1))⟩, ⟨(some 17), none, .c (.c (.clo 11 [])) [(.t 15), (.t 16)]⟩, ⟨(some 1), none, .q (.mov (.t 17))⟩]))
  (.ops [⟨(some 10), none, .q (.mov (.t 5))⟩, ⟨(some 11), none, .q (.bin .add (.t 10) (.c (.sc (.int .i64 1))))⟩, ⟨(some 5), none, .q (.mov (.t 11))⟩]))))))
  (.seq (.ops [⟨(some 18), none, .q (.mov (.t 1))⟩, ⟨(some 4), none, .q (.mov (.t 18))⟩])
  .ret)))
theorem K72 : Tryz.f72.body.bind (comp Tryz.prog) = some A72 ∧ Tryz.f72.ntmps = 19 ∧ Tryz.f72.results.toList.mapM (resB Tryz.prog) = some [.mov (.t 4)] := ⟨by kernel_rfl, by kernel_rfl, by kernel_rfl⟩
set_option maxHeartbeats 2000000 in
theorem R72 (xs : List (List ByteArray)) (k : Int) (hk : 0 < k) (hb : k + (toL strsTot xs : Nat) < 4611686018427387904) (hn : xs.length < 4611686018427387904) : MRet Tryz.prog 72 (rows Ty.str.slice.oc xs) xs.length 1 (.sc (.int .i64 k)) (.sc (.int .i64 (k + toL strsTot xs))) (rows Ty.str.slice.oc (mkL strsMk strsTot xs k)) := by
  refine MRet.loop Ty.str.slice strsMk strsTot (by decide) Tryz.func72 K72 xs k hn ?_
  intro ρ h M R pre x rest q hx hq hM hlt h0' h1' h5' h7' hfr hM' hR'
  have htot : toL strsTot xs = toL strsTot pre + (strsTot x + toL strsTot rest) := by rw [← hx, toL_app]; rfl
  have ht : strsTot x = toL strTot x := rfl
  have hM : M.length = pre.length * 1 := hM
  have h0' : ρ 0 = .sl 100000 0 xs.length 1 false := h0'
  obtain ⟨h', k1, k2, k4, k3⟩ := Le.openRow (ρ := ρ) (n := _) 100000 R (Ty.str.slice.oc x) 31000 M h h7' (Ty.str.slice.ow x) (fun i hi => hfr _ (by have := hi; rw [Ty.str.slice.ocn] at this; have e : Ty.str.slice.n = 1 := rfl; omega)) (by right; rw [Ty.str.slice.ocn]; decide)
  have k2 : h' 100000 = some (some (M ++ AV.sl 31000 0 x.length 1 false :: R)) := k2
  have e0 := k4 0 _ _ _ rfl
  rw [show 31000 + 0 = 31000 from rfl] at e0
  refine T.le k1 ?_
  have hd0 : List.drop (pre.length) (M ++ AV.sl 31000 0 x.length 1 false :: R) = AV.sl 31000 0 x.length 1 false :: R := by
    have e : M.length = pre.length := by omega
    rw [← e]; exact List.drop_left
  have u0 : x.length = toL strTot x := (toL_one _).symm
  refine run_ok (n := 600) ?_
  simp [h0', h1', h5', k2, hlt, hd0]
  refine callK.io (b := 31000) (len := x.length) (sz := 1) (cs := rows Ty.str.oc x) rfl (by kernel_rfl) (by simp [upd_app]) (by simpa [upd_app] using e0) (rows_length Ty.str.ocn _) (Ty.str.frL _) (by simp [upd_app, h1']) rfl (R11 x (q) (by omega) (by omega) (by omega)) (mkrows_len Ty.str _ _ _ _) (flrows Ty.str _) rfl ?_
  simp [h0', h1', h5', k2, hlt, hd0]
  refine ⟨rfl, MRound.pack Ty.str.slice (strsMk x q) M R (by simp [upd_app, h0']) ?_ (by simp [upd_app, h5']) (by decide) ?_ ?_⟩
  · simp [upd_app, h1', ht]; all_goals omega
  · show _ = some (some (M ++ (AV.sl 31000 0 (mkL strMk strTot x q).length 1 false :: R)))
    simp [upd_app, k2, mkL_len]
  · intro i cs len sz hi
    match i with
    | 0 => cases hi; simp [upd_app, strsMk]
    | i + 1 => cases hi
/- 70: loop.example/g00464/laws.markFileS -/
def A70 : AC := (.seq (.ops [⟨(some 4), none, .q (.mov (.c (.sc (.int .i64 0))))⟩])
  (.seq (.seq (.ops [⟨(some 5), none, .q (.mov (.c (.sc (.int .i64 0))))⟩])
  (.block 0 (.loop (.seq (.seq (.ops [⟨(some 6), none, .q (.mov (.t 5))⟩, ⟨(some 7), none, .q (.mov (.t 0))⟩, ⟨(some 8), none, .q (.llen (.t 7))⟩, ⟨(some 9), none, .q (.bin .lss (.t 6) (.t 8))⟩])
  (.cond (.t 9) .skip
  (.exit 0)))
  (.seq (.block 1 (.seq (.ops [⟨(some 12), none, .q (.mov (.t 0))⟩, ⟨(some 13), none, .q (.mov (.t 5))⟩, ⟨(some 14), none, .q (.mov (.t 1))⟩, ⟨(some 15), none, .c (.c (.clo 39 [])) [(.t 14)]⟩, ⟨(some 16), none, .q (.iadr 2 (.t 12) (.t 13))⟩, ⟨(some 17), none, .q (.fadr 0 (.t 16))⟩, ⟨none, none, .w (.store 1 (.t 17) (.t 15))⟩])
  (.seq (.ops [⟨(some 18), none, .q (.mov (.t 1))⟩, ⟨(some 19), none, .q (.bin .add (.t 18) (.c (.sc (.int .i64 1))))⟩, ⟨(some 1), none, .q (.mov (.t 19))⟩])
  (.seq (.ops [⟨(some 20), none, .q (.mov (.t 0))⟩, ⟨(some 21), none, .q (.mov (.t 5))⟩, ⟨(some 22), none, .q (.mov (.t 1))⟩, ⟨(some 23), none, .c (.c (.clo 39 [])) [(.t 22)]⟩, ⟨(some 24), none, .q (.iadr 2 (.t 20) (.t 21))⟩, ⟨(some 25), none, .q (.fadr 1 (.t 24))⟩, ⟨none, none, .w (.store 1 (.t 25) (.t 23))⟩])
  (.ops [⟨(some 26), none, .q (.mov (.t 1))⟩, ⟨(some 27), none, .q (.bin .add (.t 26) (.c (.sc (.int .i64 1))))⟩, ⟨(some 1), none, .q (.mov (.t 27))⟩])))))
  (.ops [⟨(some 10), none, .q (.mov (.t 5))⟩, ⟨(some 11), none, .q (.bin .add (.t 10) (.c (.sc (.int .i64 1))))⟩, ⟨(some 5), none, .q (.mov (.t 11))⟩]))))))
  (.seq (.ops [⟨(some 28), none, .q (.mov (.t 1))⟩, ⟨(some 4), none, .q (.mov (.t 28))⟩])
  .ret)))
theorem K70 : Tryz.f70.body.bind (comp Tryz.prog) = some A70 ∧ Tryz.f70.ntmps = 29 ∧ Tryz.f70.results.toList.mapM (resB Tryz.prog) = some [.mov (.t 4)] := ⟨by kernel_rfl, by kernel_rfl, by kernel_rfl⟩
set_option maxHeartbeats 2000000 in
theorem R70 (xs : List (File)) (k : Int) (hk : 0 < k) (hb : k + (toL File.tot xs : Nat) < 4611686018427387904) (hn : xs.length < 4611686018427387904) : MRet Tryz.prog 70 (rows File.ty.oc xs) xs.length 2 (.sc (.int .i64 k)) (.sc (.int .i64 (k + toL File.tot xs))) (rows File.ty.oc (mkL File.mark File.tot xs k)) := by
  refine MRet.loop File.ty File.mark File.tot (by decide) Tryz.func70 K70 xs k hn ?_
  intro ρ h M R pre x rest q hx hq hM hlt h0' h1' h5' h7' hfr hM' hR'
  have htot : toL File.tot xs = toL File.tot pre + (File.tot x + toL File.tot rest) := by rw [← hx, toL_app]; rfl
  have ht := File.tote x
  have hM : M.length = pre.length * 2 := hM
  have h0' : ρ 0 = .sl 100000 0 xs.length 2 false := h0'
  have k2 : h 100000 = some (some (M ++ AV.sc (.string x.path) :: AV.sc (.string x.text) :: R)) := h7'
  have ho0 : over (M ++ AV.sc (.string x.path) :: AV.sc (.string x.text) :: R) (pre.length * 2) [AV.sc (.string (mtI q))] = M ++ AV.sc (.string (mtI q)) :: AV.sc (.string x.text) :: R := by
    have := over_at (M := M ++ []) (R := AV.sc (.string x.text) :: R) (a := AV.sc (.string x.path)) (x := AV.sc (.string (mtI q))) (k := pre.length * 2) (by simp [hM])
    simpa using this
  have hw0 : IntKind.i64.wrap (q + 1) = q + 1 := wrap_i64 (by omega) (by omega)
  have g0 : pre.length * 2 + 1 ≤ M.length + (R.length + 1 + 1) := by omega
  have ho1 : over (M ++ AV.sc (.string (mtI q)) :: AV.sc (.string x.text) :: R) (pre.length * 2 + 1) [AV.sc (.string (mtI (q + 1)))] = M ++ AV.sc (.string (mtI q)) :: AV.sc (.string (mtI (q + 1))) :: R := by
    have := over_at (M := M ++ [AV.sc (.string (mtI q))]) (R := R) (a := AV.sc (.string x.text)) (x := AV.sc (.string (mtI (q + 1)))) (k := pre.length * 2 + 1) (by simp [hM])
    simpa using this
  have hw1 : IntKind.i64.wrap (q + 1 + 1) = q + 1 + 1 := wrap_i64 (by omega) (by omega)
  have g1 : pre.length * 2 + 1 + 1 ≤ M.length + (R.length + 1 + 1) := by omega
  refine run_ok (n := 600) ?_
  simp [h0', h1', h5', k2, hlt, ho0, hw0, g0, ho1, hw1, g1]
  refine callK.ro 0 rfl (by kernel_rfl) (by simp [roc_sc, upd_app, h1']) (RmarkTextI (q) (by omega) (by omega)) rfl rfl rfl ?_
  simp [h0', h1', h5', k2, hlt, ho0, hw0, g0, ho1, hw1, g1]
  refine callK.ro 0 rfl (by kernel_rfl) (by simp [roc_sc, upd_app, h1']) (RmarkTextI (q + 1) (by omega) (by omega)) rfl rfl rfl ?_
  simp [h0', h1', h5', k2, hlt, ho0, hw0, g0, ho1, hw1, g1]
  refine ⟨rfl, MRound.pack File.ty (File.mark x q) M R (by simp [upd_app, h0']) ?_ (by simp [upd_app, h5']) (by decide) ?_ ?_⟩
  · simp [upd_app, h1', ht]; all_goals omega
  · show _ = some (some (M ++ AV.sc (.string (mtI q)) :: AV.sc (.string (mtI (q + 1))) :: R))
    simp [upd_app, k2, mkL_len, File.mark]
  · intro i cs len sz hi
    match i with
    | 0 => cases hi
    | 1 => cases hi
    | i + 2 => cases hi
/- 96: loop.example/g00464/laws.markNeedS -/
def A96 : AC := (.seq (.ops [⟨(some 4), none, .q (.mov (.c (.sc (.int .i64 0))))⟩])
  (.seq (.seq (.ops [⟨(some 5), none, .q (.mov (.c (.sc (.int .i64 0))))⟩])
  (.block 0 (.loop (.seq (.seq (.ops [⟨(some 6), none, .q (.mov (.t 5))⟩, ⟨(some 7), none, .q (.mov (.t 0))⟩, ⟨(some 8), none, .q (.llen (.t 7))⟩, ⟨(some 9), none, .q (.bin .lss (.t 6) (.t 8))⟩])
  (.cond (.t 9) .skip
  (.exit 0)))
  (.seq (.block 1 (.seq (.ops [⟨(some 12), none, .q (.mov (.t 0))⟩, ⟨(some 13), none, .q (.mov (.t 5))⟩, ⟨(some 14), none, .q (.mov (.t 1))⟩, ⟨(some 15), none, .c (.c (.clo 39 [])) [(.t 14)]⟩, ⟨(some 16), none, .q (.iadr 2 (.t 12) (.t 13))⟩, ⟨(some 17), none, .q (.fadr 0 (.t 16))⟩, ⟨none, none, .w (.store 1 (.t 17) (.t 15))⟩])
  (.seq (.ops [⟨(some 18), none, .q (.mov (.t 1))⟩, ⟨(some 19), none, .q (.bin .add (.t 18) (.c (.sc (.int .i64 1))))⟩, ⟨(some 1), none, .q (.mov (.t 19))⟩])
  (.seq (.ops [⟨(some 20), none, .q (.mov (.t 0))⟩, ⟨(some 21), none, .q (.mov (.t 5))⟩, ⟨(some 22), none, .q (.mov (.t 1))⟩, ⟨(some 23), none, .c (.c (.clo 39 [])) [(.t 22)]⟩, ⟨(some 24), none, .q (.iadr 2 (.t 20) (.t 21))⟩, ⟨(some 25), none, .q (.fadr 1 (.t 24))⟩, ⟨none, none, .w (.store 1 (.t 25) (.t 23))⟩])
  (.ops [⟨(some 26), none, .q (.mov (.t 1))⟩, ⟨(some 27), none, .q (.bin .add (.t 26) (.c (.sc (.int .i64 1))))⟩, ⟨(some 1), none, .q (.mov (.t 27))⟩])))))
  (.ops [⟨(some 10), none, .q (.mov (.t 5))⟩, ⟨(some 11), none, .q (.bin .add (.t 10) (.c (.sc (.int .i64 1))))⟩, ⟨(some 5), none, .q (.mov (.t 11))⟩]))))))
  (.seq (.ops [⟨(some 28), none, .q (.mov (.t 1))⟩, ⟨(some 4), none, .q (.mov (.t 28))⟩])
  .ret)))
theorem K96 : Tryz.f96.body.bind (comp Tryz.prog) = some A96 ∧ Tryz.f96.ntmps = 29 ∧ Tryz.f96.results.toList.mapM (resB Tryz.prog) = some [.mov (.t 4)] := ⟨by kernel_rfl, by kernel_rfl, by kernel_rfl⟩
set_option maxHeartbeats 2000000 in
theorem R96 (xs : List (Need)) (k : Int) (hk : 0 < k) (hb : k + (toL Need.tot xs : Nat) < 4611686018427387904) (hn : xs.length < 4611686018427387904) : MRet Tryz.prog 96 (rows Need.ty.oc xs) xs.length 2 (.sc (.int .i64 k)) (.sc (.int .i64 (k + toL Need.tot xs))) (rows Need.ty.oc (mkL Need.mark Need.tot xs k)) := by
  refine MRet.loop Need.ty Need.mark Need.tot (by decide) Tryz.func96 K96 xs k hn ?_
  intro ρ h M R pre x rest q hx hq hM hlt h0' h1' h5' h7' hfr hM' hR'
  have htot : toL Need.tot xs = toL Need.tot pre + (Need.tot x + toL Need.tot rest) := by rw [← hx, toL_app]; rfl
  have ht := Need.tote x
  have hM : M.length = pre.length * 2 := hM
  have h0' : ρ 0 = .sl 100000 0 xs.length 2 false := h0'
  have k2 : h 100000 = some (some (M ++ AV.sc (.string x.name) :: AV.sc (.string x.range) :: R)) := h7'
  have ho0 : over (M ++ AV.sc (.string x.name) :: AV.sc (.string x.range) :: R) (pre.length * 2) [AV.sc (.string (mtI q))] = M ++ AV.sc (.string (mtI q)) :: AV.sc (.string x.range) :: R := by
    have := over_at (M := M ++ []) (R := AV.sc (.string x.range) :: R) (a := AV.sc (.string x.name)) (x := AV.sc (.string (mtI q))) (k := pre.length * 2) (by simp [hM])
    simpa using this
  have hw0 : IntKind.i64.wrap (q + 1) = q + 1 := wrap_i64 (by omega) (by omega)
  have g0 : pre.length * 2 + 1 ≤ M.length + (R.length + 1 + 1) := by omega
  have ho1 : over (M ++ AV.sc (.string (mtI q)) :: AV.sc (.string x.range) :: R) (pre.length * 2 + 1) [AV.sc (.string (mtI (q + 1)))] = M ++ AV.sc (.string (mtI q)) :: AV.sc (.string (mtI (q + 1))) :: R := by
    have := over_at (M := M ++ [AV.sc (.string (mtI q))]) (R := R) (a := AV.sc (.string x.range)) (x := AV.sc (.string (mtI (q + 1)))) (k := pre.length * 2 + 1) (by simp [hM])
    simpa using this
  have hw1 : IntKind.i64.wrap (q + 1 + 1) = q + 1 + 1 := wrap_i64 (by omega) (by omega)
  have g1 : pre.length * 2 + 1 + 1 ≤ M.length + (R.length + 1 + 1) := by omega
  refine run_ok (n := 600) ?_
  simp [h0', h1', h5', k2, hlt, ho0, hw0, g0, ho1, hw1, g1]
  refine callK.ro 0 rfl (by kernel_rfl) (by simp [roc_sc, upd_app, h1']) (RmarkTextI (q) (by omega) (by omega)) rfl rfl rfl ?_
  simp [h0', h1', h5', k2, hlt, ho0, hw0, g0, ho1, hw1, g1]
  refine callK.ro 0 rfl (by kernel_rfl) (by simp [roc_sc, upd_app, h1']) (RmarkTextI (q + 1) (by omega) (by omega)) rfl rfl rfl ?_
  simp [h0', h1', h5', k2, hlt, ho0, hw0, g0, ho1, hw1, g1]
  refine ⟨rfl, MRound.pack Need.ty (Need.mark x q) M R (by simp [upd_app, h0']) ?_ (by simp [upd_app, h5']) (by decide) ?_ ?_⟩
  · simp [upd_app, h1', ht]; all_goals omega
  · show _ = some (some (M ++ AV.sc (.string (mtI q)) :: AV.sc (.string (mtI (q + 1))) :: R))
    simp [upd_app, k2, mkL_len, Need.mark]
  · intro i cs len sz hi
    match i with
    | 0 => cases hi
    | 1 => cases hi
    | i + 2 => cases hi
/- 97: loop.example/g00464/laws.markCmdS -/
def A97 : AC := (.seq (.ops [⟨(some 4), none, .q (.mov (.c (.sc (.int .i64 0))))⟩])
  (.seq (.seq (.ops [⟨(some 5), none, .q (.mov (.c (.sc (.int .i64 0))))⟩])
  (.block 0 (.loop (.seq (.seq (.ops [⟨(some 6), none, .q (.mov (.t 5))⟩, ⟨(some 7), none, .q (.mov (.t 0))⟩, ⟨(some 8), none, .q (.llen (.t 7))⟩, ⟨(some 9), none, .q (.bin .lss (.t 6) (.t 8))⟩])
  (.cond (.t 9) .skip
  (.exit 0)))
  (.seq (.block 1 (.seq (.ops [⟨(some 12), none, .q (.mov (.t 0))⟩, ⟨(some 13), none, .q (.mov (.t 5))⟩, ⟨(some 14), none, .q (.mov (.t 1))⟩, ⟨(some 15), none, .c (.c (.clo 39 [])) [(.t 14)]⟩, ⟨(some 16), none, .q (.iadr 2 (.t 12) (.t 13))⟩, ⟨(some 17), none, .q (.fadr 0 (.t 16))⟩, ⟨none, none, .w (.store 1 (.t 17) (.t 15))⟩])
  (.seq (.ops [⟨(some 18), none, .q (.mov (.t 1))⟩, ⟨(some 19), none, .q (.bin .add (.t 18) (.c (.sc (.int .i64 1))))⟩, ⟨(some 1), none, .q (.mov (.t 19))⟩])
  (.ops [⟨(some 20), none, .q (.mov (.t 0))⟩, ⟨(some 21), none, .q (.mov (.t 5))⟩, ⟨(some 22), none, .q (.iadr 2 (.t 20) (.t 21))⟩, ⟨(some 23), none, .q (.fadr 1 (.t 22))⟩, ⟨(some 24), none, .q (.load false 1 (.t 23))⟩, ⟨(some 25), none, .q (.mov (.t 1))⟩, ⟨(some 26), none, .c (.c (.clo 11 [])) [(.t 24), (.t 25)]⟩, ⟨(some 1), none, .q (.mov (.t 26))⟩]))))
  (.ops [⟨(some 10), none, .q (.mov (.t 5))⟩, ⟨(some 11), none, .q (.bin .add (.t 10) (.c (.sc (.int .i64 1))))⟩, ⟨(some 5), none, .q (.mov (.t 11))⟩]))))))
  (.seq (.ops [⟨(some 27), none, .q (.mov (.t 1))⟩, ⟨(some 4), none, .q (.mov (.t 27))⟩])
  .ret)))
theorem K97 : Tryz.f97.body.bind (comp Tryz.prog) = some A97 ∧ Tryz.f97.ntmps = 28 ∧ Tryz.f97.results.toList.mapM (resB Tryz.prog) = some [.mov (.t 4)] := ⟨by kernel_rfl, by kernel_rfl, by kernel_rfl⟩
set_option maxHeartbeats 2000000 in
theorem R97 (xs : List (Cmd)) (k : Int) (hk : 0 < k) (hb : k + (toL Cmd.tot xs : Nat) < 4611686018427387904) (hn : xs.length < 4611686018427387904) : MRet Tryz.prog 97 (rows Cmd.ty.oc xs) xs.length 2 (.sc (.int .i64 k)) (.sc (.int .i64 (k + toL Cmd.tot xs))) (rows Cmd.ty.oc (mkL Cmd.mark Cmd.tot xs k)) := by
  refine MRet.loop Cmd.ty Cmd.mark Cmd.tot (by decide) Tryz.func97 K97 xs k hn ?_
  intro ρ h M R pre x rest q hx hq hM hlt h0' h1' h5' h7' hfr hM' hR'
  have htot : toL Cmd.tot xs = toL Cmd.tot pre + (Cmd.tot x + toL Cmd.tot rest) := by rw [← hx, toL_app]; rfl
  have ht := Cmd.tote x
  have hM : M.length = pre.length * 2 := hM
  have h0' : ρ 0 = .sl 100000 0 xs.length 2 false := h0'
  obtain ⟨h', k1, k2, k4, k3⟩ := Le.openRow (ρ := ρ) (n := _) 100000 R (Cmd.ty.oc x) 31000 M h h7' (Cmd.ty.ow x) (fun i hi => hfr _ (by have := hi; rw [Cmd.ty.ocn] at this; have e : Cmd.ty.n = 2 := rfl; omega)) (by right; rw [Cmd.ty.ocn]; decide)
  have k2 : h' 100000 = some (some (M ++ AV.sc (.string x.task) :: AV.sl 31001 0 x.acts.length 1 false :: R)) := k2
  have e1 := k4 1 _ _ _ rfl
  rw [show 31000 + 1 = 31001 from rfl] at e1
  refine T.le k1 ?_
  have ho0 : over (M ++ AV.sc (.string x.task) :: AV.sl 31001 0 x.acts.length 1 false :: R) (pre.length * 2) [AV.sc (.string (mtI q))] = M ++ AV.sc (.string (mtI q)) :: AV.sl 31001 0 x.acts.length 1 false :: R := by
    have := over_at (M := M ++ []) (R := AV.sl 31001 0 x.acts.length 1 false :: R) (a := AV.sc (.string x.task)) (x := AV.sc (.string (mtI q))) (k := pre.length * 2) (by simp [hM])
    simpa using this
  have hw0 : IntKind.i64.wrap (q + 1) = q + 1 := wrap_i64 (by omega) (by omega)
  have g0 : pre.length * 2 + 1 ≤ M.length + (R.length + 1 + 1) := by omega
  have hd1 : List.drop (pre.length * 2 + 1) (M ++ AV.sc (.string (mtI q)) :: AV.sl 31001 0 x.acts.length 1 false :: R) = AV.sl 31001 0 x.acts.length 1 false :: R := by
    have : List.drop (M ++ [AV.sc (.string (mtI q))]).length ((M ++ [AV.sc (.string (mtI q))]) ++ (AV.sl 31001 0 x.acts.length 1 false :: R)) = _ := List.drop_left
    simpa [hM] using this
  have u1 : x.acts.length = toL strTot x.acts := (toL_one _).symm
  refine run_ok (n := 600) ?_
  simp [h0', h1', h5', k2, hlt, ho0, hw0, g0, hd1]
  refine callK.ro 0 rfl (by kernel_rfl) (by simp [roc_sc, upd_app, h1']) (RmarkTextI (q) (by omega) (by omega)) rfl rfl rfl ?_
  simp [h0', h1', h5', k2, hlt, ho0, hw0, g0, hd1]
  refine callK.io (b := 31001) (len := x.acts.length) (sz := 1) (cs := rows Ty.str.oc x.acts) rfl (by kernel_rfl) (by simp [upd_app]) (by simpa [upd_app] using e1) (rows_length Ty.str.ocn _) (Ty.str.frL _) (by simp [upd_app, h1']) rfl (R11 x.acts (q + 1) (by omega) (by omega) (by omega)) (mkrows_len Ty.str _ _ _ _) (flrows Ty.str _) rfl ?_
  simp [h0', h1', h5', k2, hlt, ho0, hw0, g0, hd1]
  refine ⟨rfl, MRound.pack Cmd.ty (Cmd.mark x q) M R (by simp [upd_app, h0']) ?_ (by simp [upd_app, h5']) (by decide) ?_ ?_⟩
  · simp [upd_app, h1', ht]; all_goals omega
  · show _ = some (some (M ++ AV.sc (.string (mtI q)) :: AV.sl 31001 0 (mkL strMk strTot x.acts (q + 1)).length 1 false :: R))
    simp [upd_app, k2, mkL_len, Cmd.mark]
  · intro i cs len sz hi
    match i with
    | 0 => cases hi
    | 1 => cases hi; simp [upd_app, Cmd.mark]
    | i + 2 => cases hi
/- 68: loop.example/g00464/laws.markPackS -/
def A68 : AC := (.seq (.ops [⟨(some 4), none, .q (.mov (.c (.sc (.int .i64 0))))⟩])
  (.seq (.seq (.ops [⟨(some 5), none, .q (.mov (.c (.sc (.int .i64 0))))⟩])
  (.block 0 (.loop (.seq (.seq (.ops [⟨(some 6), none, .q (.mov (.t 5))⟩, ⟨(some 7), none, .q (.mov (.t 0))⟩, ⟨(some 8), none, .q (.llen (.t 7))⟩, ⟨(some 9), none, .q (.bin .lss (.t 6) (.t 8))⟩])
  (.cond (.t 9) .skip
  (.exit 0)))
  (.seq (.block 1 (.seq (.ops [⟨(some 12), none, .q (.mov (.t 0))⟩, ⟨(some 13), none, .q (.mov (.t 5))⟩, ⟨(some 14), none, .q (.mov (.t 1))⟩, ⟨(some 15), none, .c (.c (.clo 39 [])) [(.t 14)]⟩, ⟨(some 16), none, .q (.iadr 4 (.t 12) (.t 13))⟩, ⟨(some 17), none, .q (.fadr 0 (.t 16))⟩, ⟨none, none, .w (.store 1 (.t 17) (.t 15))⟩])
  (.seq (.ops [⟨(some 18), none, .q (.mov (.t 1))⟩, ⟨(some 19), none, .q (.bin .add (.t 18) (.c (.sc (.int .i64 1))))⟩, ⟨(some 1), none, .q (.mov (.t 19))⟩])
  (.seq (.ops [⟨(some 20), none, .q (.mov (.t 0))⟩, ⟨(some 21), none, .q (.mov (.t 5))⟩, ⟨(some 22), none, .q (.iadr 4 (.t 20) (.t 21))⟩, ⟨(some 23), none, .q (.fadr 1 (.t 22))⟩, ⟨(some 24), none, .q (.load false 1 (.t 23))⟩, ⟨(some 25), none, .q (.mov (.t 1))⟩, ⟨(some 26), none, .c (.c (.clo 11 [])) [(.t 24), (.t 25)]⟩, ⟨(some 1), none, .q (.mov (.t 26))⟩])
  (.seq (.ops [⟨(some 27), none, .q (.mov (.t 0))⟩, ⟨(some 28), none, .q (.mov (.t 5))⟩, ⟨(some 29), none, .q (.iadr 4 (.t 27) (.t 28))⟩, ⟨(some 30), none, .q (.fadr 2 (.t 29))⟩, ⟨(some 31), none, .q (.load false 1 (.t 30))⟩, ⟨(some 32), none, .q (.mov (.t 1))⟩, ⟨(some 33), none, .c (.c (.clo 96 [])) [(.t 31), (.t 32)]⟩, ⟨(some 1), none, .q (.mov (.t 33))⟩])
  (.ops [⟨(some 34), none, .q (.mov (.t 0))⟩, ⟨(some 35), none, .q (.mov (.t 5))⟩, ⟨(some 36), none, .q (.iadr 4 (.t 34) (.t 35))⟩, ⟨(some 37), none, .q (.fadr 3 (.t 36))⟩, ⟨(some 38), none, .q (.load false 1 (.t 37))⟩, ⟨(some 39), none, .q (.mov (.t 1))⟩, ⟨(some 40), none, .c (.c (.clo 97 [])) [(.t 38), (.t 39)]⟩, ⟨(some 1), none, .q (.mov (.t 40))⟩]))))))
  (.ops [⟨(some 10), none, .q (.mov (.t 5))⟩, ⟨(some 11), none, .q (.bin .add (.t 10) (.c (.sc (.int .i64 1))))⟩, ⟨(some 5), none, .q (.mov (.t 11))⟩]))))))
  (.seq (.ops [⟨(some 41), none, .q (.mov (.t 1))⟩, ⟨(some 4), none, .q (.mov (.t 41))⟩])
  .ret)))
theorem K68 : Tryz.f68.body.bind (comp Tryz.prog) = some A68 ∧ Tryz.f68.ntmps = 42 ∧ Tryz.f68.results.toList.mapM (resB Tryz.prog) = some [.mov (.t 4)] := ⟨by kernel_rfl, by kernel_rfl, by kernel_rfl⟩
set_option maxHeartbeats 2000000 in
theorem R68 (xs : List (Pack)) (k : Int) (hk : 0 < k) (hb : k + (toL Pack.tot xs : Nat) < 4611686018427387904) (hn : xs.length < 4611686018427387904) : MRet Tryz.prog 68 (rows Pack.ty.oc xs) xs.length 4 (.sc (.int .i64 k)) (.sc (.int .i64 (k + toL Pack.tot xs))) (rows Pack.ty.oc (mkL Pack.mark Pack.tot xs k)) := by
  refine MRet.loop Pack.ty Pack.mark Pack.tot (by decide) Tryz.func68 K68 xs k hn ?_
  intro ρ h M R pre x rest q hx hq hM hlt h0' h1' h5' h7' hfr hM' hR'
  have htot : toL Pack.tot xs = toL Pack.tot pre + (Pack.tot x + toL Pack.tot rest) := by rw [← hx, toL_app]; rfl
  have ht := Pack.tote x
  have hM : M.length = pre.length * 4 := hM
  have h0' : ρ 0 = .sl 100000 0 xs.length 4 false := h0'
  obtain ⟨h', k1, k2, k4, k3⟩ := Le.openRow (ρ := ρ) (n := _) 100000 R (Pack.ty.oc x) 31000 M h h7' (Pack.ty.ow x) (fun i hi => hfr _ (by have := hi; rw [Pack.ty.ocn] at this; have e : Pack.ty.n = 4 := rfl; omega)) (by right; rw [Pack.ty.ocn]; decide)
  have k2 : h' 100000 = some (some (M ++ AV.sc (.string x.name) :: AV.sl 31001 0 x.uses.length 1 false :: AV.sl 31002 0 x.needs.length 2 false :: AV.sl 31003 0 x.cmds.length 2 false :: R)) := k2
  have e1 := k4 1 _ _ _ rfl
  rw [show 31000 + 1 = 31001 from rfl] at e1
  have e2 := k4 2 _ _ _ rfl
  rw [show 31000 + 2 = 31002 from rfl] at e2
  have e3 := k4 3 _ _ _ rfl
  rw [show 31000 + 3 = 31003 from rfl] at e3
  refine T.le k1 ?_
  have ho0 : over (M ++ AV.sc (.string x.name) :: AV.sl 31001 0 x.uses.length 1 false :: AV.sl 31002 0 x.needs.length 2 false :: AV.sl 31003 0 x.cmds.length 2 false :: R) (pre.length * 4) [AV.sc (.string (mtI q))] = M ++ AV.sc (.string (mtI q)) :: AV.sl 31001 0 x.uses.length 1 false :: AV.sl 31002 0 x.needs.length 2 false :: AV.sl 31003 0 x.cmds.length 2 false :: R := by
    have := over_at (M := M ++ []) (R := AV.sl 31001 0 x.uses.length 1 false :: AV.sl 31002 0 x.needs.length 2 false :: AV.sl 31003 0 x.cmds.length 2 false :: R) (a := AV.sc (.string x.name)) (x := AV.sc (.string (mtI q))) (k := pre.length * 4) (by simp [hM])
    simpa using this
  have hw0 : IntKind.i64.wrap (q + 1) = q + 1 := wrap_i64 (by omega) (by omega)
  have g0 : pre.length * 4 + 1 ≤ M.length + (R.length + 1 + 1 + 1 + 1) := by omega
  have hd1 : List.drop (pre.length * 4 + 1) (M ++ AV.sc (.string (mtI q)) :: AV.sl 31001 0 x.uses.length 1 false :: AV.sl 31002 0 x.needs.length 2 false :: AV.sl 31003 0 x.cmds.length 2 false :: R) = AV.sl 31001 0 x.uses.length 1 false :: AV.sl 31002 0 x.needs.length 2 false :: AV.sl 31003 0 x.cmds.length 2 false :: R := by
    have : List.drop (M ++ [AV.sc (.string (mtI q))]).length ((M ++ [AV.sc (.string (mtI q))]) ++ (AV.sl 31001 0 x.uses.length 1 false :: AV.sl 31002 0 x.needs.length 2 false :: AV.sl 31003 0 x.cmds.length 2 false :: R)) = _ := List.drop_left
    simpa [hM] using this
  have u1 : x.uses.length = toL strTot x.uses := (toL_one _).symm
  have hd2 : List.drop (pre.length * 4 + 2) (M ++ AV.sc (.string (mtI q)) :: AV.sl 31001 0 x.uses.length 1 false :: AV.sl 31002 0 x.needs.length 2 false :: AV.sl 31003 0 x.cmds.length 2 false :: R) = AV.sl 31002 0 x.needs.length 2 false :: AV.sl 31003 0 x.cmds.length 2 false :: R := by
    have : List.drop (M ++ [AV.sc (.string (mtI q)), AV.sl 31001 0 x.uses.length 1 false]).length ((M ++ [AV.sc (.string (mtI q)), AV.sl 31001 0 x.uses.length 1 false]) ++ (AV.sl 31002 0 x.needs.length 2 false :: AV.sl 31003 0 x.cmds.length 2 false :: R)) = _ := List.drop_left
    simpa [hM] using this
  have u2 := toL_ge Need.tot1 x.needs
  have hd3 : List.drop (pre.length * 4 + 3) (M ++ AV.sc (.string (mtI q)) :: AV.sl 31001 0 x.uses.length 1 false :: AV.sl 31002 0 x.needs.length 2 false :: AV.sl 31003 0 x.cmds.length 2 false :: R) = AV.sl 31003 0 x.cmds.length 2 false :: R := by
    have : List.drop (M ++ [AV.sc (.string (mtI q)), AV.sl 31001 0 x.uses.length 1 false, AV.sl 31002 0 x.needs.length 2 false]).length ((M ++ [AV.sc (.string (mtI q)), AV.sl 31001 0 x.uses.length 1 false, AV.sl 31002 0 x.needs.length 2 false]) ++ (AV.sl 31003 0 x.cmds.length 2 false :: R)) = _ := List.drop_left
    simpa [hM] using this
  have u3 := toL_ge Cmd.tot1 x.cmds
  refine run_ok (n := 600) ?_
  simp [h0', h1', h5', k2, hlt, ho0, hw0, g0, hd1, hd2, hd3]
  refine callK.ro 0 rfl (by kernel_rfl) (by simp [roc_sc, upd_app, h1']) (RmarkTextI (q) (by omega) (by omega)) rfl rfl rfl ?_
  simp [h0', h1', h5', k2, hlt, ho0, hw0, g0, hd1, hd2, hd3]
  refine callK.io (b := 31001) (len := x.uses.length) (sz := 1) (cs := rows Ty.str.oc x.uses) rfl (by kernel_rfl) (by simp [upd_app]) (by simpa [upd_app] using e1) (rows_length Ty.str.ocn _) (Ty.str.frL _) (by simp [upd_app, h1']) rfl (R11 x.uses (q + 1) (by omega) (by omega) (by omega)) (mkrows_len Ty.str _ _ _ _) (flrows Ty.str _) rfl ?_
  simp [h0', h1', h5', k2, hlt, ho0, hw0, g0, hd1, hd2, hd3]
  refine callK.io (b := 31002) (len := x.needs.length) (sz := 2) (cs := rows Need.ty.oc x.needs) rfl (by kernel_rfl) (by simp [upd_app]) (by simpa [upd_app] using e2) (rows_length Need.ty.ocn _) (Need.ty.frL _) (by simp [upd_app, h1']) rfl (R96 x.needs (q + 1 + (toL strTot x.uses : Nat)) (by omega) (by omega) (by omega)) (mkrows_len Need.ty _ _ _ _) (flrows Need.ty _) rfl ?_
  simp [h0', h1', h5', k2, hlt, ho0, hw0, g0, hd1, hd2, hd3]
  refine callK.io (b := 31003) (len := x.cmds.length) (sz := 2) (cs := rows Cmd.ty.oc x.cmds) rfl (by kernel_rfl) (by simp [upd_app]) (by simpa [upd_app] using e3) (rows_length Cmd.ty.ocn _) (Cmd.ty.frL _) (by simp [upd_app, h1']) rfl (R97 x.cmds (q + 1 + (toL strTot x.uses : Nat) + (toL Need.tot x.needs : Nat)) (by omega) (by omega) (by omega)) (mkrows_len Cmd.ty _ _ _ _) (flrows Cmd.ty _) rfl ?_
  simp [h0', h1', h5', k2, hlt, ho0, hw0, g0, hd1, hd2, hd3]
  refine ⟨rfl, MRound.pack Pack.ty (Pack.mark x q) M R (by simp [upd_app, h0']) ?_ (by simp [upd_app, h5']) (by decide) ?_ ?_⟩
  · simp [upd_app, h1', ht]; all_goals omega
  · show _ = some (some (M ++ AV.sc (.string (mtI q)) :: AV.sl 31001 0 (mkL strMk strTot x.uses (q + 1)).length 1 false :: AV.sl 31002 0 (mkL Need.mark Need.tot x.needs (q + 1 + (toL strTot x.uses : Nat))).length 2 false :: AV.sl 31003 0 (mkL Cmd.mark Cmd.tot x.cmds (q + 1 + (toL strTot x.uses : Nat) + (toL Need.tot x.needs : Nat))).length 2 false :: R))
    simp [upd_app, k2, mkL_len, Pack.mark]
  · intro i cs len sz hi
    match i with
    | 0 => cases hi
    | 1 => cases hi; simp [upd_app, Pack.mark]
    | 2 => cases hi; simp [upd_app, Pack.mark]
    | 3 => cases hi; simp [upd_app, Pack.mark]
    | i + 4 => cases hi
/- 71: loop.example/g00464/laws.markEnvS -/
def A71 : AC := (.seq (.ops [⟨(some 4), none, .q (.mov (.c (.sc (.int .i64 0))))⟩])
  (.seq (.seq (.ops [⟨(some 5), none, .q (.mov (.c (.sc (.int .i64 0))))⟩])
  (.block 0 (.loop (.seq (.seq (.ops [⟨(some 6), none, .q (.mov (.t 5))⟩, ⟨(some 7), none, .q (.mov (.t 0))⟩, ⟨(some 8), none, .q (.llen (.t 7))⟩, ⟨(some 9), none, .q (.bin .lss (.t 6) (.t 8))⟩])
  (.cond (.t 9) .skip
  (.exit 0)))
  (.seq (.block 1 (.seq (.ops [⟨(some 12), none, .q (.mov (.t 0))⟩, ⟨(some 13), none, .q (.mov (.t 5))⟩, ⟨(some 14), none, .q (.mov (.t 1))⟩, ⟨(some 15), none, .c (.c (.clo 39 [])) [(.t 14)]⟩, ⟨(some 16), none, .q (.iadr 2 (.t 12) (.t 13))⟩, ⟨(some 17), none, .q (.fadr 0 (.t 16))⟩, ⟨none, none, .w (.store 1 (.t 17) (.t 15))⟩])
  (.seq (.ops [⟨(some 18), none, .q (.mov (.t 1))⟩, ⟨(some 19), none, .q (.bin .add (.t 18) (.c (.sc (.int .i64 1))))⟩, ⟨(some 1), none, .q (.mov (.t 19))⟩])
  (.seq (.ops [⟨(some 20), none, .q (.mov (.t 0))⟩, ⟨(some 21), none, .q (.mov (.t 5))⟩, ⟨(some 22), none, .q (.mov (.t 1))⟩, ⟨(some 23), none, .c (.c (.clo 39 [])) [(.t 22)]⟩, ⟨(some 24), none, .q (.iadr 2 (.t 20) (.t 21))⟩, ⟨(some 25), none, .q (.fadr 1 (.t 24))⟩, ⟨none, none, .w (.store 1 (.t 25) (.t 23))⟩])
  (.ops [⟨(some 26), none, .q (.mov (.t 1))⟩, ⟨(some 27), none, .q (.bin .add (.t 26) (.c (.sc (.int .i64 1))))⟩, ⟨(some 1), none, .q (.mov (.t 27))⟩])))))
  (.ops [⟨(some 10), none, .q (.mov (.t 5))⟩, ⟨(some 11), none, .q (.bin .add (.t 10) (.c (.sc (.int .i64 1))))⟩, ⟨(some 5), none, .q (.mov (.t 11))⟩]))))))
  (.seq (.ops [⟨(some 28), none, .q (.mov (.t 1))⟩, ⟨(some 4), none, .q (.mov (.t 28))⟩])
  .ret)))
theorem K71 : Tryz.f71.body.bind (comp Tryz.prog) = some A71 ∧ Tryz.f71.ntmps = 29 ∧ Tryz.f71.results.toList.mapM (resB Tryz.prog) = some [.mov (.t 4)] := ⟨by kernel_rfl, by kernel_rfl, by kernel_rfl⟩
set_option maxHeartbeats 2000000 in
theorem R71 (xs : List (Env)) (k : Int) (hk : 0 < k) (hb : k + (toL Env.tot xs : Nat) < 4611686018427387904) (hn : xs.length < 4611686018427387904) : MRet Tryz.prog 71 (rows Env.ty.oc xs) xs.length 2 (.sc (.int .i64 k)) (.sc (.int .i64 (k + toL Env.tot xs))) (rows Env.ty.oc (mkL Env.mark Env.tot xs k)) := by
  refine MRet.loop Env.ty Env.mark Env.tot (by decide) Tryz.func71 K71 xs k hn ?_
  intro ρ h M R pre x rest q hx hq hM hlt h0' h1' h5' h7' hfr hM' hR'
  have htot : toL Env.tot xs = toL Env.tot pre + (Env.tot x + toL Env.tot rest) := by rw [← hx, toL_app]; rfl
  have ht := Env.tote x
  have hM : M.length = pre.length * 2 := hM
  have h0' : ρ 0 = .sl 100000 0 xs.length 2 false := h0'
  have k2 : h 100000 = some (some (M ++ AV.sc (.string x.name) :: AV.sc (.string x.val) :: R)) := h7'
  have ho0 : over (M ++ AV.sc (.string x.name) :: AV.sc (.string x.val) :: R) (pre.length * 2) [AV.sc (.string (mtI q))] = M ++ AV.sc (.string (mtI q)) :: AV.sc (.string x.val) :: R := by
    have := over_at (M := M ++ []) (R := AV.sc (.string x.val) :: R) (a := AV.sc (.string x.name)) (x := AV.sc (.string (mtI q))) (k := pre.length * 2) (by simp [hM])
    simpa using this
  have hw0 : IntKind.i64.wrap (q + 1) = q + 1 := wrap_i64 (by omega) (by omega)
  have g0 : pre.length * 2 + 1 ≤ M.length + (R.length + 1 + 1) := by omega
  have ho1 : over (M ++ AV.sc (.string (mtI q)) :: AV.sc (.string x.val) :: R) (pre.length * 2 + 1) [AV.sc (.string (mtI (q + 1)))] = M ++ AV.sc (.string (mtI q)) :: AV.sc (.string (mtI (q + 1))) :: R := by
    have := over_at (M := M ++ [AV.sc (.string (mtI q))]) (R := R) (a := AV.sc (.string x.val)) (x := AV.sc (.string (mtI (q + 1)))) (k := pre.length * 2 + 1) (by simp [hM])
    simpa using this
  have hw1 : IntKind.i64.wrap (q + 1 + 1) = q + 1 + 1 := wrap_i64 (by omega) (by omega)
  have g1 : pre.length * 2 + 1 + 1 ≤ M.length + (R.length + 1 + 1) := by omega
  refine run_ok (n := 600) ?_
  simp [h0', h1', h5', k2, hlt, ho0, hw0, g0, ho1, hw1, g1]
  refine callK.ro 0 rfl (by kernel_rfl) (by simp [roc_sc, upd_app, h1']) (RmarkTextI (q) (by omega) (by omega)) rfl rfl rfl ?_
  simp [h0', h1', h5', k2, hlt, ho0, hw0, g0, ho1, hw1, g1]
  refine callK.ro 0 rfl (by kernel_rfl) (by simp [roc_sc, upd_app, h1']) (RmarkTextI (q + 1) (by omega) (by omega)) rfl rfl rfl ?_
  simp [h0', h1', h5', k2, hlt, ho0, hw0, g0, ho1, hw1, g1]
  refine ⟨rfl, MRound.pack Env.ty (Env.mark x q) M R (by simp [upd_app, h0']) ?_ (by simp [upd_app, h5']) (by decide) ?_ ?_⟩
  · simp [upd_app, h1', ht]; all_goals omega
  · show _ = some (some (M ++ AV.sc (.string (mtI q)) :: AV.sc (.string (mtI (q + 1))) :: R))
    simp [upd_app, k2, mkL_len, Env.mark]
  · intro i cs len sz hi
    match i with
    | 0 => cases hi
    | 1 => cases hi
    | i + 2 => cases hi
/- 69: loop.example/g00464/laws.markRuleS -/
def A69 : AC := (.seq (.ops [⟨(some 4), none, .q (.mov (.c (.sc (.int .i64 0))))⟩])
  (.seq (.seq (.ops [⟨(some 5), none, .q (.mov (.c (.sc (.int .i64 0))))⟩])
  (.block 0 (.loop (.seq (.seq (.ops [⟨(some 6), none, .q (.mov (.t 5))⟩, ⟨(some 7), none, .q (.mov (.t 0))⟩, ⟨(some 8), none, .q (.llen (.t 7))⟩, ⟨(some 9), none, .q (.bin .lss (.t 6) (.t 8))⟩])
  (.cond (.t 9) .skip
  (.exit 0)))
  (.seq (.block 1 (.seq (.ops [⟨(some 12), none, .q (.mov (.t 0))⟩, ⟨(some 13), none, .q (.mov (.t 5))⟩, ⟨(some 14), none, .q (.mov (.t 1))⟩, ⟨(some 15), none, .c (.c (.clo 39 [])) [(.t 14)]⟩, ⟨(some 16), none, .q (.iadr 5 (.t 12) (.t 13))⟩, ⟨(some 17), none, .q (.fadr 0 (.t 16))⟩, ⟨none, none, .w (.store 1 (.t 17) (.t 15))⟩])
  (.seq (.ops [⟨(some 18), none, .q (.mov (.t 1))⟩, ⟨(some 19), none, .q (.bin .add (.t 18) (.c (.sc (.int .i64 1))))⟩, ⟨(some 1), none, .q (.mov (.t 19))⟩])
  (.seq (.ops [⟨(some 20), none, .q (.mov (.t 0))⟩, ⟨(some 21), none, .q (.mov (.t 5))⟩, ⟨(some 22), none, .q (.iadr 5 (.t 20) (.t 21))⟩, ⟨(some 23), none, .q (.fadr 1 (.t 22))⟩, ⟨(some 24), none, .q (.load false 1 (.t 23))⟩, ⟨(some 25), none, .q (.mov (.t 1))⟩, ⟨(some 26), none, .c (.c (.clo 11 [])) [(.t 24), (.t 25)]⟩, ⟨(some 1), none, .q (.mov (.t 26))⟩])
  (.seq (.ops [⟨(some 27), none, .q (.mov (.t 0))⟩, ⟨(some 28), none, .q (.mov (.t 5))⟩, ⟨(some 29), none, .q (.iadr 5 (.t 27) (.t 28))⟩, ⟨(some 30), none, .q (.fadr 2 (.t 29))⟩, ⟨(some 31), none, .q (.load false 1 (.t 30))⟩, ⟨(some 32), none, .q (.mov (.t 1))⟩, ⟨(some 33), none, .c (.c (.clo 11 [])) [(.t 31), (.t 32)]⟩, ⟨(some 1), none, .q (.mov (.t 33))⟩])
  (.seq (.ops [⟨(some 34), none, .q (.mov (.t 0))⟩, ⟨(some 35), none, .q (.mov (.t 5))⟩, ⟨(some 36), none, .q (.iadr 5 (.t 34) (.t 35))⟩, ⟨(some 37), none, .q (.fadr 3 (.t 36))⟩, ⟨(some 38), none, .q (.load false 1 (.t 37))⟩, ⟨(some 39), none, .q (.mov (.t 1))⟩, ⟨(some 40), none, .c (.c (.clo 11 [])) [(.t 38), (.t 39)]⟩, ⟨(some 1), none, .q (.mov (.t 40))⟩])
  (.seq (.ops [⟨(some 41), none, .q (.mov (.t 0))⟩, ⟨(some 42), none, .q (.mov (.t 5))⟩, ⟨(some 43), none, .q (.mov (.t 1))⟩, ⟨(some 44), none, .q (.bin .rem (.t 43) (.c (.sc (.int .i64 3))))⟩, ⟨(some 45), none, .q (.bin .eql (.t 44) (.c (.sc (.int .i64 0))))⟩, ⟨(some 46), none, .q (.iadr 5 (.t 41) (.t 42))⟩, ⟨(some 47), none, .q (.fadr 4 (.t 46))⟩, ⟨none, none, .w (.store 1 (.t 47) (.t 45))⟩])
  (.ops [⟨(some 48), none, .q (.mov (.t 1))⟩, ⟨(some 49), none, .q (.bin .add (.t 48) (.c (.sc (.int .i64 1))))⟩, ⟨(some 1), none, .q (.mov (.t 49))⟩]))))))))
  (.ops [⟨(some 10), none, .q (.mov (.t 5))⟩, ⟨(some 11), none, .q (.bin .add (.t 10) (.c (.sc (.int .i64 1))))⟩, ⟨(some 5), none, .q (.mov (.t 11))⟩]))))))
  (.seq (.ops [⟨(some 50), none, .q (.mov (.t 1))⟩, ⟨(some 4), none, .q (.mov (.t 50))⟩])
  .ret)))
theorem K69 : Tryz.f69.body.bind (comp Tryz.prog) = some A69 ∧ Tryz.f69.ntmps = 51 ∧ Tryz.f69.results.toList.mapM (resB Tryz.prog) = some [.mov (.t 4)] := ⟨by kernel_rfl, by kernel_rfl, by kernel_rfl⟩
set_option maxHeartbeats 2000000 in
theorem R69 (xs : List (Rule)) (k : Int) (hk : 0 < k) (hb : k + (toL Rule.tot xs : Nat) < 4611686018427387904) (hn : xs.length < 4611686018427387904) : MRet Tryz.prog 69 (rows Rule.ty.oc xs) xs.length 5 (.sc (.int .i64 k)) (.sc (.int .i64 (k + toL Rule.tot xs))) (rows Rule.ty.oc (mkL Rule.mark Rule.tot xs k)) := by
  refine MRet.loop Rule.ty Rule.mark Rule.tot (by decide) Tryz.func69 K69 xs k hn ?_
  intro ρ h M R pre x rest q hx hq hM hlt h0' h1' h5' h7' hfr hM' hR'
  have htot : toL Rule.tot xs = toL Rule.tot pre + (Rule.tot x + toL Rule.tot rest) := by rw [← hx, toL_app]; rfl
  have ht := Rule.tote x
  have hM : M.length = pre.length * 5 := hM
  have h0' : ρ 0 = .sl 100000 0 xs.length 5 false := h0'
  obtain ⟨h', k1, k2, k4, k3⟩ := Le.openRow (ρ := ρ) (n := _) 100000 R (Rule.ty.oc x) 31000 M h h7' (Rule.ty.ow x) (fun i hi => hfr _ (by have := hi; rw [Rule.ty.ocn] at this; have e : Rule.ty.n = 5 := rfl; omega)) (by right; rw [Rule.ty.ocn]; decide)
  have k2 : h' 100000 = some (some (M ++ AV.sc (.string x.task) :: AV.sl 31001 0 x.on.length 1 false :: AV.sl 31002 0 x.ins.length 1 false :: AV.sl 31003 0 x.envs.length 1 false :: AV.sc (.bool x.keep) :: R)) := k2
  have e1 := k4 1 _ _ _ rfl
  rw [show 31000 + 1 = 31001 from rfl] at e1
  have e2 := k4 2 _ _ _ rfl
  rw [show 31000 + 2 = 31002 from rfl] at e2
  have e3 := k4 3 _ _ _ rfl
  rw [show 31000 + 3 = 31003 from rfl] at e3
  refine T.le k1 ?_
  have ho0 : over (M ++ AV.sc (.string x.task) :: AV.sl 31001 0 x.on.length 1 false :: AV.sl 31002 0 x.ins.length 1 false :: AV.sl 31003 0 x.envs.length 1 false :: AV.sc (.bool x.keep) :: R) (pre.length * 5) [AV.sc (.string (mtI q))] = M ++ AV.sc (.string (mtI q)) :: AV.sl 31001 0 x.on.length 1 false :: AV.sl 31002 0 x.ins.length 1 false :: AV.sl 31003 0 x.envs.length 1 false :: AV.sc (.bool x.keep) :: R := by
    have := over_at (M := M ++ []) (R := AV.sl 31001 0 x.on.length 1 false :: AV.sl 31002 0 x.ins.length 1 false :: AV.sl 31003 0 x.envs.length 1 false :: AV.sc (.bool x.keep) :: R) (a := AV.sc (.string x.task)) (x := AV.sc (.string (mtI q))) (k := pre.length * 5) (by simp [hM])
    simpa using this
  have hw0 : IntKind.i64.wrap (q + 1) = q + 1 := wrap_i64 (by omega) (by omega)
  have g0 : pre.length * 5 + 1 ≤ M.length + (R.length + 1 + 1 + 1 + 1 + 1) := by omega
  have hd1 : List.drop (pre.length * 5 + 1) (M ++ AV.sc (.string (mtI q)) :: AV.sl 31001 0 x.on.length 1 false :: AV.sl 31002 0 x.ins.length 1 false :: AV.sl 31003 0 x.envs.length 1 false :: AV.sc (.bool x.keep) :: R) = AV.sl 31001 0 x.on.length 1 false :: AV.sl 31002 0 x.ins.length 1 false :: AV.sl 31003 0 x.envs.length 1 false :: AV.sc (.bool x.keep) :: R := by
    have : List.drop (M ++ [AV.sc (.string (mtI q))]).length ((M ++ [AV.sc (.string (mtI q))]) ++ (AV.sl 31001 0 x.on.length 1 false :: AV.sl 31002 0 x.ins.length 1 false :: AV.sl 31003 0 x.envs.length 1 false :: AV.sc (.bool x.keep) :: R)) = _ := List.drop_left
    simpa [hM] using this
  have u1 : x.on.length = toL strTot x.on := (toL_one _).symm
  have hd2 : List.drop (pre.length * 5 + 2) (M ++ AV.sc (.string (mtI q)) :: AV.sl 31001 0 x.on.length 1 false :: AV.sl 31002 0 x.ins.length 1 false :: AV.sl 31003 0 x.envs.length 1 false :: AV.sc (.bool x.keep) :: R) = AV.sl 31002 0 x.ins.length 1 false :: AV.sl 31003 0 x.envs.length 1 false :: AV.sc (.bool x.keep) :: R := by
    have : List.drop (M ++ [AV.sc (.string (mtI q)), AV.sl 31001 0 x.on.length 1 false]).length ((M ++ [AV.sc (.string (mtI q)), AV.sl 31001 0 x.on.length 1 false]) ++ (AV.sl 31002 0 x.ins.length 1 false :: AV.sl 31003 0 x.envs.length 1 false :: AV.sc (.bool x.keep) :: R)) = _ := List.drop_left
    simpa [hM] using this
  have u2 : x.ins.length = toL strTot x.ins := (toL_one _).symm
  have hd3 : List.drop (pre.length * 5 + 3) (M ++ AV.sc (.string (mtI q)) :: AV.sl 31001 0 x.on.length 1 false :: AV.sl 31002 0 x.ins.length 1 false :: AV.sl 31003 0 x.envs.length 1 false :: AV.sc (.bool x.keep) :: R) = AV.sl 31003 0 x.envs.length 1 false :: AV.sc (.bool x.keep) :: R := by
    have : List.drop (M ++ [AV.sc (.string (mtI q)), AV.sl 31001 0 x.on.length 1 false, AV.sl 31002 0 x.ins.length 1 false]).length ((M ++ [AV.sc (.string (mtI q)), AV.sl 31001 0 x.on.length 1 false, AV.sl 31002 0 x.ins.length 1 false]) ++ (AV.sl 31003 0 x.envs.length 1 false :: AV.sc (.bool x.keep) :: R)) = _ := List.drop_left
    simpa [hM] using this
  have u3 : x.envs.length = toL strTot x.envs := (toL_one _).symm
  have ho4 : over (M ++ AV.sc (.string (mtI q)) :: AV.sl 31001 0 x.on.length 1 false :: AV.sl 31002 0 x.ins.length 1 false :: AV.sl 31003 0 x.envs.length 1 false :: AV.sc (.bool x.keep) :: R) (pre.length * 5 + 4) [AV.sc (.bool ((q + 1 + (toL strTot x.on : Nat) + (toL strTot x.ins : Nat) + (toL strTot x.envs : Nat)).tmod 3 == 0))] = M ++ AV.sc (.string (mtI q)) :: AV.sl 31001 0 x.on.length 1 false :: AV.sl 31002 0 x.ins.length 1 false :: AV.sl 31003 0 x.envs.length 1 false :: AV.sc (.bool ((q + 1 + (toL strTot x.on : Nat) + (toL strTot x.ins : Nat) + (toL strTot x.envs : Nat)).tmod 3 == 0)) :: R := by
    have := over_at (M := M ++ [AV.sc (.string (mtI q)), AV.sl 31001 0 x.on.length 1 false, AV.sl 31002 0 x.ins.length 1 false, AV.sl 31003 0 x.envs.length 1 false]) (R := R) (a := AV.sc (.bool x.keep)) (x := AV.sc (.bool ((q + 1 + (toL strTot x.on : Nat) + (toL strTot x.ins : Nat) + (toL strTot x.envs : Nat)).tmod 3 == 0))) (k := pre.length * 5 + 4) (by simp [hM])
    simpa using this
  have hw4 : IntKind.i64.wrap (q + 1 + (toL strTot x.on : Nat) + (toL strTot x.ins : Nat) + (toL strTot x.envs : Nat) + 1) = q + 1 + (toL strTot x.on : Nat) + (toL strTot x.ins : Nat) + (toL strTot x.envs : Nat) + 1 := wrap_i64 (by omega) (by omega)
  have hb4 : IntKind.i64.wrap ((q + 1 + (toL strTot x.on : Nat) + (toL strTot x.ins : Nat) + (toL strTot x.envs : Nat)).tmod 3) = (q + 1 + (toL strTot x.on : Nat) + (toL strTot x.ins : Nat) + (toL strTot x.envs : Nat)).tmod 3 := by
    have e : (q + 1 + (toL strTot x.on : Nat) + (toL strTot x.ins : Nat) + (toL strTot x.envs : Nat)).tmod 3 = (q + 1 + (toL strTot x.on : Nat) + (toL strTot x.ins : Nat) + (toL strTot x.envs : Nat)) % 3 := Int.tmod_eq_emod_of_nonneg (by omega)
    rw [e]; exact wrap_i64 (by omega) (by omega)
  have g4 : pre.length * 5 + 4 + 1 ≤ M.length + (R.length + 1 + 1 + 1 + 1 + 1) := by omega
  refine run_ok (n := 600) ?_
  simp [h0', h1', h5', k2, hlt, ho0, hw0, g0, hd1, hd2, hd3, ho4, hw4, hb4, g4]
  refine callK.ro 0 rfl (by kernel_rfl) (by simp [roc_sc, upd_app, h1']) (RmarkTextI (q) (by omega) (by omega)) rfl rfl rfl ?_
  simp [h0', h1', h5', k2, hlt, ho0, hw0, g0, hd1, hd2, hd3, ho4, hw4, hb4, g4]
  refine callK.io (b := 31001) (len := x.on.length) (sz := 1) (cs := rows Ty.str.oc x.on) rfl (by kernel_rfl) (by simp [upd_app]) (by simpa [upd_app] using e1) (rows_length Ty.str.ocn _) (Ty.str.frL _) (by simp [upd_app, h1']) rfl (R11 x.on (q + 1) (by omega) (by omega) (by omega)) (mkrows_len Ty.str _ _ _ _) (flrows Ty.str _) rfl ?_
  simp [h0', h1', h5', k2, hlt, ho0, hw0, g0, hd1, hd2, hd3, ho4, hw4, hb4, g4]
  refine callK.io (b := 31002) (len := x.ins.length) (sz := 1) (cs := rows Ty.str.oc x.ins) rfl (by kernel_rfl) (by simp [upd_app]) (by simpa [upd_app] using e2) (rows_length Ty.str.ocn _) (Ty.str.frL _) (by simp [upd_app, h1']) rfl (R11 x.ins (q + 1 + (toL strTot x.on : Nat)) (by omega) (by omega) (by omega)) (mkrows_len Ty.str _ _ _ _) (flrows Ty.str _) rfl ?_
  simp [h0', h1', h5', k2, hlt, ho0, hw0, g0, hd1, hd2, hd3, ho4, hw4, hb4, g4]
  refine callK.io (b := 31003) (len := x.envs.length) (sz := 1) (cs := rows Ty.str.oc x.envs) rfl (by kernel_rfl) (by simp [upd_app]) (by simpa [upd_app] using e3) (rows_length Ty.str.ocn _) (Ty.str.frL _) (by simp [upd_app, h1']) rfl (R11 x.envs (q + 1 + (toL strTot x.on : Nat) + (toL strTot x.ins : Nat)) (by omega) (by omega) (by omega)) (mkrows_len Ty.str _ _ _ _) (flrows Ty.str _) rfl ?_
  simp [h0', h1', h5', k2, hlt, ho0, hw0, g0, hd1, hd2, hd3, ho4, hw4, hb4, g4]
  refine ⟨rfl, MRound.pack Rule.ty (Rule.mark x q) M R (by simp [upd_app, h0']) ?_ (by simp [upd_app, h5']) (by decide) ?_ ?_⟩
  · simp [upd_app, h1', ht]; all_goals omega
  · show _ = some (some (M ++ AV.sc (.string (mtI q)) :: AV.sl 31001 0 (mkL strMk strTot x.on (q + 1)).length 1 false :: AV.sl 31002 0 (mkL strMk strTot x.ins (q + 1 + (toL strTot x.on : Nat))).length 1 false :: AV.sl 31003 0 (mkL strMk strTot x.envs (q + 1 + (toL strTot x.on : Nat) + (toL strTot x.ins : Nat))).length 1 false :: AV.sc (.bool ((q + 1 + (toL strTot x.on : Nat) + (toL strTot x.ins : Nat) + (toL strTot x.envs : Nat)).tmod 3 == 0)) :: R))
    simp [upd_app, k2, mkL_len, Rule.mark]
  · intro i cs len sz hi
    match i with
    | 0 => cases hi
    | 1 => cases hi; simp [upd_app, Rule.mark]
    | 2 => cases hi; simp [upd_app, Rule.mark]
    | 3 => cases hi; simp [upd_app, Rule.mark]
    | 4 => cases hi
    | i + 5 => cases hi
/- 36: loop.example/g00464/laws.markMadeS -/
def A36 : AC := (.seq (.ops [⟨(some 4), none, .q (.mov (.c (.sc (.int .i64 0))))⟩])
  (.seq (.seq (.ops [⟨(some 5), none, .q (.mov (.c (.sc (.int .i64 0))))⟩])
  (.block 0 (.loop (.seq (.seq (.ops [⟨(some 6), none, .q (.mov (.t 5))⟩, ⟨(some 7), none, .q (.mov (.t 0))⟩, ⟨(some 8), none, .q (.llen (.t 7))⟩, ⟨(some 9), none, .q (.bin .lss (.t 6) (.t 8))⟩])
  (.cond (.t 9) .skip
  (.exit 0)))
  (.seq (.block 1 (.seq (.ops [⟨(some 12), none, .q (.mov (.t 0))⟩, ⟨(some 13), none, .q (.mov (.t 5))⟩, ⟨(some 14), none, .q (.mov (.t 1))⟩, ⟨(some 15), none, .c (.c (.clo 39 [])) [(.t 14)]⟩, ⟨(some 16), none, .q (.iadr 3 (.t 12) (.t 13))⟩, ⟨(some 17), none, .q (.fadr 0 (.t 16))⟩, ⟨none, none, .w (.store 1 (.t 17) (.t 15))⟩])
  (.seq (.ops [⟨(some 18), none, .q (.mov (.t 1))⟩, ⟨(some 19), none, .q (.bin .add (.t 18) (.c (.sc (.int .i64 1))))⟩, ⟨(some 1), none, .q (.mov (.t 19))⟩])
  (.seq (.ops [⟨(some 20), none, .q (.mov (.t 0))⟩, ⟨(some 21), none, .q (.mov (.t 5))⟩, ⟨(some 22), none, .q (.iadr 3 (.t 20) (.t 21))⟩, ⟨(some 23), none, .q (.fadr 1 (.t 22))⟩, ⟨(some 24), none, .q (.load false 1 (.t 23))⟩, ⟨(some 25), none, .q (.mov (.t 1))⟩, ⟨(some 26), none, .c (.c (.clo 70 [])) [(.t 24), (.t 25)]⟩, ⟨(some 1), none, .q (.mov (.t 26))⟩])
  (.seq (.ops [⟨(some 27), none, .q (.mov (.t 0))⟩, ⟨(some 28), none, .q (.mov (.t 5))⟩, ⟨(some 29), none, .q (.mov (.t 1))⟩, ⟨(some 30), none, .c (.c (.clo 39 [])) [(.t 29)]⟩, ⟨(some 31), none, .q (.iadr 3 (.t 27) (.t 28))⟩, ⟨(some 32), none, .q (.fadr 2 (.t 31))⟩, ⟨none, none, .w (.store 1 (.t 32) (.t 30))⟩])
  (.ops [⟨(some 33), none, .q (.mov (.t 1))⟩, ⟨(some 34), none, .q (.bin .add (.t 33) (.c (.sc (.int .i64 1))))⟩, ⟨(some 1), none, .q (.mov (.t 34))⟩]))))))
  (.ops [⟨(some 10), none, .q (.mov (.t 5))⟩, ⟨(some 11), none, .q (.bin .add (.t 10) (.c (.sc (.int .i64 1))))⟩, ⟨(some 5), none, .q (.mov (.t 11))⟩]))))))
  (.seq (.ops [⟨(some 35), none, .q (.mov (.t 1))⟩, ⟨(some 4), none, .q (.mov (.t 35))⟩])
  .ret)))
theorem K36 : Tryz.f36.body.bind (comp Tryz.prog) = some A36 ∧ Tryz.f36.ntmps = 36 ∧ Tryz.f36.results.toList.mapM (resB Tryz.prog) = some [.mov (.t 4)] := ⟨by kernel_rfl, by kernel_rfl, by kernel_rfl⟩
set_option maxHeartbeats 2000000 in
theorem R36 (xs : List (Made)) (k : Int) (hk : 0 < k) (hb : k + (toL Made.tot xs : Nat) < 4611686018427387904) (hn : xs.length < 4611686018427387904) : MRet Tryz.prog 36 (rows Made.ty.oc xs) xs.length 3 (.sc (.int .i64 k)) (.sc (.int .i64 (k + toL Made.tot xs))) (rows Made.ty.oc (mkL Made.mark Made.tot xs k)) := by
  refine MRet.loop Made.ty Made.mark Made.tot (by decide) Tryz.func36 K36 xs k hn ?_
  intro ρ h M R pre x rest q hx hq hM hlt h0' h1' h5' h7' hfr hM' hR'
  have htot : toL Made.tot xs = toL Made.tot pre + (Made.tot x + toL Made.tot rest) := by rw [← hx, toL_app]; rfl
  have ht := Made.tote x
  have hM : M.length = pre.length * 3 := hM
  have h0' : ρ 0 = .sl 100000 0 xs.length 3 false := h0'
  obtain ⟨h', k1, k2, k4, k3⟩ := Le.openRow (ρ := ρ) (n := _) 100000 R (Made.ty.oc x) 31000 M h h7' (Made.ty.ow x) (fun i hi => hfr _ (by have := hi; rw [Made.ty.ocn] at this; have e : Made.ty.n = 3 := rfl; omega)) (by right; rw [Made.ty.ocn]; decide)
  have k2 : h' 100000 = some (some (M ++ AV.sc (.string x.task) :: AV.sl 31001 0 x.outs.length 2 false :: AV.sc (.string x.log) :: R)) := k2
  have e1 := k4 1 _ _ _ rfl
  rw [show 31000 + 1 = 31001 from rfl] at e1
  refine T.le k1 ?_
  have ho0 : over (M ++ AV.sc (.string x.task) :: AV.sl 31001 0 x.outs.length 2 false :: AV.sc (.string x.log) :: R) (pre.length * 3) [AV.sc (.string (mtI q))] = M ++ AV.sc (.string (mtI q)) :: AV.sl 31001 0 x.outs.length 2 false :: AV.sc (.string x.log) :: R := by
    have := over_at (M := M ++ []) (R := AV.sl 31001 0 x.outs.length 2 false :: AV.sc (.string x.log) :: R) (a := AV.sc (.string x.task)) (x := AV.sc (.string (mtI q))) (k := pre.length * 3) (by simp [hM])
    simpa using this
  have hw0 : IntKind.i64.wrap (q + 1) = q + 1 := wrap_i64 (by omega) (by omega)
  have g0 : pre.length * 3 + 1 ≤ M.length + (R.length + 1 + 1 + 1) := by omega
  have hd1 : List.drop (pre.length * 3 + 1) (M ++ AV.sc (.string (mtI q)) :: AV.sl 31001 0 x.outs.length 2 false :: AV.sc (.string x.log) :: R) = AV.sl 31001 0 x.outs.length 2 false :: AV.sc (.string x.log) :: R := by
    have : List.drop (M ++ [AV.sc (.string (mtI q))]).length ((M ++ [AV.sc (.string (mtI q))]) ++ (AV.sl 31001 0 x.outs.length 2 false :: AV.sc (.string x.log) :: R)) = _ := List.drop_left
    simpa [hM] using this
  have u1 := toL_ge File.tot1 x.outs
  have ho2 : over (M ++ AV.sc (.string (mtI q)) :: AV.sl 31001 0 x.outs.length 2 false :: AV.sc (.string x.log) :: R) (pre.length * 3 + 2) [AV.sc (.string (mtI (q + 1 + (toL File.tot x.outs : Nat))))] = M ++ AV.sc (.string (mtI q)) :: AV.sl 31001 0 x.outs.length 2 false :: AV.sc (.string (mtI (q + 1 + (toL File.tot x.outs : Nat)))) :: R := by
    have := over_at (M := M ++ [AV.sc (.string (mtI q)), AV.sl 31001 0 x.outs.length 2 false]) (R := R) (a := AV.sc (.string x.log)) (x := AV.sc (.string (mtI (q + 1 + (toL File.tot x.outs : Nat))))) (k := pre.length * 3 + 2) (by simp [hM])
    simpa using this
  have hw2 : IntKind.i64.wrap (q + 1 + (toL File.tot x.outs : Nat) + 1) = q + 1 + (toL File.tot x.outs : Nat) + 1 := wrap_i64 (by omega) (by omega)
  have g2 : pre.length * 3 + 2 + 1 ≤ M.length + (R.length + 1 + 1 + 1) := by omega
  refine run_ok (n := 600) ?_
  simp [h0', h1', h5', k2, hlt, ho0, hw0, g0, hd1, ho2, hw2, g2]
  refine callK.ro 0 rfl (by kernel_rfl) (by simp [roc_sc, upd_app, h1']) (RmarkTextI (q) (by omega) (by omega)) rfl rfl rfl ?_
  simp [h0', h1', h5', k2, hlt, ho0, hw0, g0, hd1, ho2, hw2, g2]
  refine callK.io (b := 31001) (len := x.outs.length) (sz := 2) (cs := rows File.ty.oc x.outs) rfl (by kernel_rfl) (by simp [upd_app]) (by simpa [upd_app] using e1) (rows_length File.ty.ocn _) (File.ty.frL _) (by simp [upd_app, h1']) rfl (R70 x.outs (q + 1) (by omega) (by omega) (by omega)) (mkrows_len File.ty _ _ _ _) (flrows File.ty _) rfl ?_
  simp [h0', h1', h5', k2, hlt, ho0, hw0, g0, hd1, ho2, hw2, g2]
  refine callK.ro 0 rfl (by kernel_rfl) (by simp [roc_sc, upd_app, h1']) (RmarkTextI (q + 1 + (toL File.tot x.outs : Nat)) (by omega) (by omega)) rfl rfl rfl ?_
  simp [h0', h1', h5', k2, hlt, ho0, hw0, g0, hd1, ho2, hw2, g2]
  refine ⟨rfl, MRound.pack Made.ty (Made.mark x q) M R (by simp [upd_app, h0']) ?_ (by simp [upd_app, h5']) (by decide) ?_ ?_⟩
  · simp [upd_app, h1', ht]; all_goals omega
  · show _ = some (some (M ++ AV.sc (.string (mtI q)) :: AV.sl 31001 0 (mkL File.mark File.tot x.outs (q + 1)).length 2 false :: AV.sc (.string (mtI (q + 1 + (toL File.tot x.outs : Nat)))) :: R))
    simp [upd_app, k2, mkL_len, Made.mark]
  · intro i cs len sz hi
    match i with
    | 0 => cases hi
    | 1 => cases hi; simp [upd_app, Made.mark]
    | 2 => cases hi
    | i + 3 => cases hi
/- 37: loop.example/g00464/laws.markMarkS -/
def A37 : AC := (.seq (.ops [⟨(some 4), none, .q (.mov (.c (.sc (.int .i64 0))))⟩])
  (.seq (.seq (.ops [⟨(some 5), none, .q (.mov (.c (.sc (.int .i64 0))))⟩])
  (.block 0 (.loop (.seq (.seq (.ops [⟨(some 6), none, .q (.mov (.t 5))⟩, ⟨(some 7), none, .q (.mov (.t 0))⟩, ⟨(some 8), none, .q (.llen (.t 7))⟩, ⟨(some 9), none, .q (.bin .lss (.t 6) (.t 8))⟩])
  (.cond (.t 9) .skip
  (.exit 0)))
  (.seq (.block 1 (.seq (.ops [⟨(some 12), none, .q (.mov (.t 0))⟩, ⟨(some 13), none, .q (.mov (.t 5))⟩, ⟨(some 14), none, .q (.mov (.t 1))⟩, ⟨(some 15), none, .c (.c (.clo 39 [])) [(.t 14)]⟩, ⟨(some 16), none, .q (.iadr 2 (.t 12) (.t 13))⟩, ⟨(some 17), none, .q (.fadr 0 (.t 16))⟩, ⟨none, none, .w (.store 1 (.t 17) (.t 15))⟩])
  (.seq (.ops [⟨(some 18), none, .q (.mov (.t 1))⟩, ⟨(some 19), none, .q (.bin .add (.t 18) (.c (.sc (.int .i64 1))))⟩, ⟨(some 1), none, .q (.mov (.t 19))⟩])
  (.seq (.ops [⟨(some 20), none, .q (.mov (.t 0))⟩, ⟨(some 21), none, .q (.mov (.t 5))⟩, ⟨(some 22), none, .q (.mov (.t 1))⟩, ⟨(some 23), none, .q (.iadr 2 (.t 20) (.t 21))⟩, ⟨(some 24), none, .q (.fadr 1 (.t 23))⟩, ⟨none, none, .w (.store 1 (.t 24) (.t 22))⟩])
  (.ops [⟨(some 25), none, .q (.mov (.t 1))⟩, ⟨(some 26), none, .q (.bin .add (.t 25) (.c (.sc (.int .i64 1))))⟩, ⟨(some 1), none, .q (.mov (.t 26))⟩])))))
  (.ops [⟨(some 10), none, .q (.mov (.t 5))⟩, ⟨(some 11), none, .q (.bin .add (.t 10) (.c (.sc (.int .i64 1))))⟩, ⟨(some 5), none, .q (.mov (.t 11))⟩]))))))
  (.seq (.ops [⟨(some 27), none, .q (.mov (.t 1))⟩, ⟨(some 4), none, .q (.mov (.t 27))⟩])
  .ret)))
theorem K37 : Tryz.f37.body.bind (comp Tryz.prog) = some A37 ∧ Tryz.f37.ntmps = 28 ∧ Tryz.f37.results.toList.mapM (resB Tryz.prog) = some [.mov (.t 4)] := ⟨by kernel_rfl, by kernel_rfl, by kernel_rfl⟩
set_option maxHeartbeats 2000000 in
theorem R37 (xs : List (Mark)) (k : Int) (hk : 0 < k) (hb : k + (toL Mark.tot xs : Nat) < 4611686018427387904) (hn : xs.length < 4611686018427387904) : MRet Tryz.prog 37 (rows Mark.ty.oc xs) xs.length 2 (.sc (.int .i64 k)) (.sc (.int .i64 (k + toL Mark.tot xs))) (rows Mark.ty.oc (mkL Mark.mark Mark.tot xs k)) := by
  refine MRet.loop Mark.ty Mark.mark Mark.tot (by decide) Tryz.func37 K37 xs k hn ?_
  intro ρ h M R pre x rest q hx hq hM hlt h0' h1' h5' h7' hfr hM' hR'
  have htot : toL Mark.tot xs = toL Mark.tot pre + (Mark.tot x + toL Mark.tot rest) := by rw [← hx, toL_app]; rfl
  have ht := Mark.tote x
  have hM : M.length = pre.length * 2 := hM
  have h0' : ρ 0 = .sl 100000 0 xs.length 2 false := h0'
  have k2 : h 100000 = some (some (M ++ AV.sc (.string x.task) :: AV.sc (.int .i64 x.how) :: R)) := h7'
  have ho0 : over (M ++ AV.sc (.string x.task) :: AV.sc (.int .i64 x.how) :: R) (pre.length * 2) [AV.sc (.string (mtI q))] = M ++ AV.sc (.string (mtI q)) :: AV.sc (.int .i64 x.how) :: R := by
    have := over_at (M := M ++ []) (R := AV.sc (.int .i64 x.how) :: R) (a := AV.sc (.string x.task)) (x := AV.sc (.string (mtI q))) (k := pre.length * 2) (by simp [hM])
    simpa using this
  have hw0 : IntKind.i64.wrap (q + 1) = q + 1 := wrap_i64 (by omega) (by omega)
  have g0 : pre.length * 2 + 1 ≤ M.length + (R.length + 1 + 1) := by omega
  have ho1 : over (M ++ AV.sc (.string (mtI q)) :: AV.sc (.int .i64 x.how) :: R) (pre.length * 2 + 1) [AV.sc (.int .i64 (q + 1))] = M ++ AV.sc (.string (mtI q)) :: AV.sc (.int .i64 (q + 1)) :: R := by
    have := over_at (M := M ++ [AV.sc (.string (mtI q))]) (R := R) (a := AV.sc (.int .i64 x.how)) (x := AV.sc (.int .i64 (q + 1))) (k := pre.length * 2 + 1) (by simp [hM])
    simpa using this
  have hw1 : IntKind.i64.wrap (q + 1 + 1) = q + 1 + 1 := wrap_i64 (by omega) (by omega)
  have g1 : pre.length * 2 + 1 + 1 ≤ M.length + (R.length + 1 + 1) := by omega
  refine run_ok (n := 600) ?_
  simp [h0', h1', h5', k2, hlt, ho0, hw0, g0, ho1, hw1, g1]
  refine callK.ro 0 rfl (by kernel_rfl) (by simp [roc_sc, upd_app, h1']) (RmarkTextI (q) (by omega) (by omega)) rfl rfl rfl ?_
  simp [h0', h1', h5', k2, hlt, ho0, hw0, g0, ho1, hw1, g1]
  refine ⟨rfl, MRound.pack Mark.ty (Mark.mark x q) M R (by simp [upd_app, h0']) ?_ (by simp [upd_app, h5']) (by decide) ?_ ?_⟩
  · simp [upd_app, h1', ht]; all_goals omega
  · show _ = some (some (M ++ AV.sc (.string (mtI q)) :: AV.sc (.int .i64 (q + 1)) :: R))
    simp [upd_app, k2, mkL_len, Mark.mark]
  · intro i cs len sz hi
    match i with
    | 0 => cases hi
    | 1 => cases hi
    | i + 2 => cases hi
end Go.Proofs.YtaknfalbmblagaaGreat.Am
