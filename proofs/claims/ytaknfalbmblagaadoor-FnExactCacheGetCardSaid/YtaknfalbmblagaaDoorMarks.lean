/- The functions of the program, each by its contract: Marks; no condition. -/
import Derived.Test.YtaknfalbmblagaaDoorProg
import Derived.Test.YtaknfalbmblagaaDoorAmZ
import Derived.Test.YtaknfalbmblagaaDoorAmP
import Derived.Test.YtaknfalbmblagaaDoorAmK
import Derived.Test.YtaknfalbmblagaaDoorBase
import Derived.Test.YtaknfalbmblagaaDoorTypes
import Derived.KernelRfl
namespace Go.Proofs.YtaknfalbmblagaaDoor.Am
open Go Go.Proofs
set_option linter.unusedSimpArgs false
set_option linter.unusedVariables false
attribute [local congr] T_congr callK_congr callWK_congr
attribute [local simp] run_nil run_op0 run_opg run_seq run_cond run_block run_ret run_skip run_skip_after run_skip_blk run_exit run_exit_after run_exit_blk run_loop run_any runS_nil runS_op0 runS_opg runW_nil runW_op0 runW_opg exec_q exec_w exec_c exec_n execW_q execW_w execW_c restW_app hideH_app merge_app wblk rest_app restS_app execS_q execS_c aval dOk upd_app ev_t ev_c setO_some setO_none put_mk pinsOf isIo hasIo sbin endR fin resL one outL out1 clo1 cloL coe coeL shut shut.shutL wantA weff cellsOf fillA deref natOf ρ0_app h0_app plain plain.plainL keep_app keepH_app andThen_normal andThen_ret andThen_exit pop_nil pop_after pop_after_ret pop_after_exit pop_blk pop_blk_ret pop_blk_exit nilA srcOf srcCells keepR_app keepHR_app renA rb
/- 44: loop.example/g00464/laws.markText -/
def A44 : AC := (.seq (.ops [⟨(some 2), none, .q (.mov (.c (.sc (.string ⟨#[]⟩))))⟩])
  (.seq (.seq (.ops [⟨(some 4), none, .q (.mov (.t 0))⟩, ⟨(some 5), none, .q (.bin .leq (.t 4) (.c (.sc (.int .i64 0))))⟩])
  (.cond (.t 5) (.seq (.ops [⟨(some 2), none, .q (.mov (.c (.sc (.string ⟨#[109, 48]⟩))))⟩])
  .ret)
  .skip))
  (.seq (.ops [⟨(some 3), none, .q (.mov (.c (.sc (.string ⟨#[]⟩))))⟩])
  (.seq (.block 0 (.loop (.seq (.seq (.ops [⟨(some 6), none, .q (.mov (.t 0))⟩, ⟨(some 7), none, .q (.bin .gtr (.t 6) (.c (.sc (.int .i64 0))))⟩])
  (.cond (.t 7) .skip
  (.exit 0)))
  (.block 1 (.seq (.ops [⟨(some 8), none, .q (.mov (.t 0))⟩, ⟨(some 9), none, .q (.bin .rem (.t 8) (.c (.sc (.int .i64 10))))⟩, ⟨(some 10), none, .q (.bin .add (.c (.sc (.int .i64 48))) (.t 9))⟩, ⟨(some 11), none, .q (.cvi .u8 (.t 10))⟩, ⟨(some 12), none, .w (.bsl 1 1 [(.sc (.int .u8 0))] [(0, 1, (.t 11))])⟩, ⟨(some 13), none, .q (.bstr (.t 12))⟩, ⟨(some 14), none, .q (.mov (.t 3))⟩, ⟨(some 15), none, .q (.bin .add (.t 13) (.t 14))⟩, ⟨(some 3), none, .q (.mov (.t 15))⟩])
  (.ops [⟨(some 16), none, .q (.mov (.t 0))⟩, ⟨(some 17), none, .q (.bin .quo (.t 16) (.c (.sc (.int .i64 10))))⟩, ⟨(some 0), none, .q (.mov (.t 17))⟩]))))))
  (.seq (.ops [⟨(some 18), none, .q (.mov (.t 3))⟩, ⟨(some 19), none, .q (.bin .add (.c (.sc (.string ⟨#[109]⟩))) (.t 18))⟩, ⟨(some 2), none, .q (.mov (.t 19))⟩])
  .ret)))))
theorem K44 : Tryd.f44.body.bind (comp Tryd.prog) = some A44 ∧ Tryd.f44.ntmps = 20 ∧ Tryd.f44.results.toList.mapM (resB Tryd.prog) = some [.mov (.t 2)] := ⟨by kernel_rfl, by kernel_rfl, by kernel_rfl⟩
theorem R44 (n : Nat) (h0 : 0 < n) (hn : n < 4611686018427387904) : Ret Tryd.prog 44 [.sc (.int .i64 n)] (.sc (.string (mtext n))) [.un] := by
  have hnp : ¬ ((n : Int) ≤ 0) := by omega
  refine Ret.run Tryd.func44 K44 (by simp) rfl rfl 900 ?_
  simp only [A44, iniρ]
  have hn0 : ¬ n = 0 := by omega
  simp [hnp, hn0]
  have hz0 : (⟨#[]⟩ : ByteArray).size + n ≤ n := by show 0 + n ≤ n; omega
  refine T.rounds (μ := fun i : Nat × Nat × ByteArray => i.1)
    (fun i s => i.2.1 ≤ i.1 ∧ i.2.2.size + i.2.1 ≤ n ∧ mtF i.1 i.2.1 i.2.2 = mtF n n ⟨#[]⟩ ∧ s.ρ 0 = .sc (.int .i64 i.2.1) ∧ s.ρ 3 = .sc (.string i.2.2) ∧ s.h 12 = none ∧ s.n = 20) (n, n, ⟨#[]⟩) (by simp [upd_app, hz0]) ?_
  rintro ⟨k, m, a⟩ ⟨ρ, hh, n'⟩ ⟨hk, hs, hE, h0', h3', f1, rfl⟩
  simp only at hk hs hE h0' h3' f1
  refine run_ok (n := 400) ?_
  by_cases h9 : 0 < m
  case neg =>
    have h9' : ¬ ((0 : Int) < m) := by omega
    have hE2 : a = mtF n n ⟨#[]⟩ := by rw [← hE]; cases k <;> simp [mtF, h9]
    have hsz : (⟨#[109]⟩ : ByteArray).size + a.size ≤ 9223372036854775807 := by
      have e : (⟨#[109]⟩ : ByteArray).size = 1 := rfl
      rw [e]; omega
    simp [h0', h9, h9']
    refine T.on 400 ?_
    rw [hE2] at h3' hsz
    simp [h3', hsz, mtext]
  have h9' : (0 : Int) < m := by omega
  obtain ⟨k, rfl⟩ : ∃ k', k = k' + 1 := ⟨k - 1, by omega⟩
  rw [mtF, if_pos h9] at hE
  have hq1 : (m : Int).tdiv 10 = (m : Int) / 10 := rfl
  have hw1 : IntKind.i64.wrap ((m : Int) / 10) = (m : Int) / 10 := wrap_i64 (by omega) (by omega)
  have hr2 : (m : Int).tmod 10 = (m : Int) % 10 := rfl
  have hw2 : IntKind.i64.wrap (48 + (m : Int) % 10) = 48 + (m : Int) % 10 := wrap_i64 (by omega) (by omega)
  have hsz : (strOfNums [IntKind.u8.wrap (48 + (m : Int) % 10)]).size + a.size ≤ 9223372036854775807 := by
    have := digM_size ((m : Int) % 10)
    rw [digM] at this
    rw [this]; omega
  simp [h0', h3', h9, h9', f1, over, hq1, hw1, hr2, hw2, bytesA, num8, hsz]
  refine ⟨k, by omega, m / 10, digM ((m : Int) % 10) ++ a, _, Le.reset [0, 3] [] (by simp [upd_app, menB, idfree]) (by simp), ?_⟩
  simp [upd_app, hE, digM_size]
  exact ⟨by omega, by omega, rfl⟩
theorem RmarkTextI (k : Int) (h0 : 0 < k) (hn : k < 4611686018427387904) : Ret Tryd.prog 44 [.sc (.int .i64 k)] (.sc (.string (mtI k))) [.un] := by
  have r := R44 k.toNat (by omega) (by omega)
  have e : ((k.toNat : Nat) : Int) = k := by omega
  rw [e] at r
  exact r
theorem strTot1 (x : ByteArray) : 1 ≤ strTot x := Nat.le_refl _
def File.mark (x : File) (k : Int) : File := ⟨(mtI (k)), (mtI (k + 1))⟩
def File.tot (x : File) : Nat := 1 + 1
theorem File.tote (x : File) : File.tot x = 1 + 1 := rfl
theorem File.totw (x : File) : File.tot x ≤ 3 * (1 + File.ty.wt x) := by
  rw [File.tote, File.wte]; omega
theorem File.tot1 (x : File) : 1 ≤ File.tot x := by rw [File.tote]; all_goals omega
def Need.mark (x : Need) (k : Int) : Need := ⟨(mtI (k)), (mtI (k + 1))⟩
def Need.tot (x : Need) : Nat := 1 + 1
theorem Need.tote (x : Need) : Need.tot x = 1 + 1 := rfl
theorem Need.totw (x : Need) : Need.tot x ≤ 3 * (1 + Need.ty.wt x) := by
  rw [Need.tote, Need.wte]; omega
theorem Need.tot1 (x : Need) : 1 ≤ Need.tot x := by rw [Need.tote]; all_goals omega
def Cmd.mark (x : Cmd) (k : Int) : Cmd := ⟨(mtI (k)), (mkL strMk strTot x.acts (k + 1))⟩
def Cmd.tot (x : Cmd) : Nat := 1 + toL strTot x.acts
theorem Cmd.tote (x : Cmd) : Cmd.tot x = 1 + toL strTot x.acts := rfl
theorem Cmd.totw (x : Cmd) : Cmd.tot x ≤ 3 * (1 + Cmd.ty.wt x) := by
  have w1 := toL_wt strTotw x.acts
  rw [Cmd.tote, Cmd.wte]; omega
theorem Cmd.tot1 (x : Cmd) : 1 ≤ Cmd.tot x := by rw [Cmd.tote]; all_goals omega
def Pack.mark (x : Pack) (k : Int) : Pack := ⟨(mtI (k)), (mkL strMk strTot x.uses (k + 1)), (mkL Need.mark Need.tot x.needs (k + 1 + (toL strTot x.uses : Nat))), (mkL Cmd.mark Cmd.tot x.cmds (k + 1 + (toL strTot x.uses : Nat) + (toL Need.tot x.needs : Nat)))⟩
def Pack.tot (x : Pack) : Nat := 1 + toL strTot x.uses + toL Need.tot x.needs + toL Cmd.tot x.cmds
theorem Pack.tote (x : Pack) : Pack.tot x = 1 + toL strTot x.uses + toL Need.tot x.needs + toL Cmd.tot x.cmds := rfl
theorem Pack.totw (x : Pack) : Pack.tot x ≤ 3 * (1 + Pack.ty.wt x) := by
  have w1 := toL_wt strTotw x.uses
  have w2 := toL_wt Need.totw x.needs
  have w3 := toL_wt Cmd.totw x.cmds
  rw [Pack.tote, Pack.wte]; omega
theorem Pack.tot1 (x : Pack) : 1 ≤ Pack.tot x := by rw [Pack.tote]; all_goals omega
def Env.mark (x : Env) (k : Int) : Env := ⟨(mtI (k)), (mtI (k + 1))⟩
def Env.tot (x : Env) : Nat := 1 + 1
theorem Env.tote (x : Env) : Env.tot x = 1 + 1 := rfl
theorem Env.totw (x : Env) : Env.tot x ≤ 3 * (1 + Env.ty.wt x) := by
  rw [Env.tote, Env.wte]; omega
theorem Env.tot1 (x : Env) : 1 ≤ Env.tot x := by rw [Env.tote]; all_goals omega
def Rule.mark (x : Rule) (k : Int) : Rule := ⟨(mtI (k)), (mkL strMk strTot x.on (k + 1)), (mkL strMk strTot x.ins (k + 1 + (toL strTot x.on : Nat))), (mkL strMk strTot x.envs (k + 1 + (toL strTot x.on : Nat) + (toL strTot x.ins : Nat))), ((k + 1 + (toL strTot x.on : Nat) + (toL strTot x.ins : Nat) + (toL strTot x.envs : Nat)).tmod 3 == 0)⟩
def Rule.tot (x : Rule) : Nat := 1 + toL strTot x.on + toL strTot x.ins + toL strTot x.envs + 1
theorem Rule.tote (x : Rule) : Rule.tot x = 1 + toL strTot x.on + toL strTot x.ins + toL strTot x.envs + 1 := rfl
theorem Rule.totw (x : Rule) : Rule.tot x ≤ 3 * (1 + Rule.ty.wt x) := by
  have w1 := toL_wt strTotw x.on
  have w2 := toL_wt strTotw x.ins
  have w3 := toL_wt strTotw x.envs
  rw [Rule.tote, Rule.wte]; omega
theorem Rule.tot1 (x : Rule) : 1 ≤ Rule.tot x := by rw [Rule.tote]; all_goals omega
def Made.mark (x : Made) (k : Int) : Made := ⟨(mtI (k)), (mkL File.mark File.tot x.outs (k + 1)), (mtI (k + 1 + (toL File.tot x.outs : Nat)))⟩
def Made.tot (x : Made) : Nat := 1 + toL File.tot x.outs + 1
theorem Made.tote (x : Made) : Made.tot x = 1 + toL File.tot x.outs + 1 := rfl
theorem Made.totw (x : Made) : Made.tot x ≤ 3 * (1 + Made.ty.wt x) := by
  have w1 := toL_wt File.totw x.outs
  rw [Made.tote, Made.wte]; omega
theorem Made.tot1 (x : Made) : 1 ≤ Made.tot x := by rw [Made.tote]; all_goals omega
def Mark.mark (x : Mark) (k : Int) : Mark := ⟨(mtI (k)), (k + 1)⟩
def Mark.tot (x : Mark) : Nat := 1 + 1
theorem Mark.tote (x : Mark) : Mark.tot x = 1 + 1 := rfl
theorem Mark.totw (x : Mark) : Mark.tot x ≤ 3 * (1 + Mark.ty.wt x) := by
  rw [Mark.tote, Mark.wte]; omega
theorem Mark.tot1 (x : Mark) : 1 ≤ Mark.tot x := by rw [Mark.tote]; all_goals omega

theorem File.totL : ∀ xs : List File, toL File.tot xs = 2 * xs.length
  | [] => rfl
  | x :: xs => by
    have e : File.tot x = 2 := rfl
    simp only [toL, e, File.totL xs, List.length_cons]; omega
/- 26: loop.example/g00464/laws.markFileS -/
def A26 : AC := (.seq (.ops [⟨(some 4), none, .q (.mov (.c (.sc (.int .i64 0))))⟩])
  (.seq (.seq (.ops [⟨(some 5), none, .q (.mov (.c (.sc (.int .i64 0))))⟩])
  (.block 0 (.loop (.seq (.seq (.ops [⟨(some 6), none, .q (.mov (.t 5))⟩, ⟨(some 7), none, .q (.mov (.t 0))⟩, ⟨(some 8), none, .q (.llen (.t 7))⟩, ⟨(some 9), none, .q (.bin .lss (.t 6) (.t 8))⟩])
  (.cond (.t 9) .skip
  (.exit 0)))
  (.seq (.block 1 (.seq (.ops [⟨(some 12), none, .q (.mov (.t 0))⟩, ⟨(some 13), none, .q (.mov (.t 5))⟩, ⟨(some 14), none, .q (.mov (.t 1))⟩, ⟨(some 15), none, .c (.c (.clo 44 [])) [(.t 14)]⟩, ⟨(some 16), none, .q (.iadr 2 (.t 12) (.t 13))⟩, ⟨(some 17), none, .q (.fadr 0 (.t 16))⟩, ⟨none, none, .w (.store 1 (.t 17) (.t 15))⟩])
  (.seq (.ops [⟨(some 18), none, .q (.mov (.t 1))⟩, ⟨(some 19), none, .q (.bin .add (.t 18) (.c (.sc (.int .i64 1))))⟩, ⟨(some 1), none, .q (.mov (.t 19))⟩])
  (.seq (.ops [⟨(some 20), none, .q (.mov (.t 0))⟩, ⟨(some 21), none, .q (.mov (.t 5))⟩, ⟨(some 22), none, .q (.mov (.t 1))⟩, ⟨(some 23), none, .c (.c (.clo 44 [])) [(.t 22)]⟩, ⟨(some 24), none, .q (.iadr 2 (.t 20) (.t 21))⟩, ⟨(some 25), none, .q (.fadr 1 (.t 24))⟩, ⟨none, none, .w (.store 1 (.t 25) (.t 23))⟩])
  (.ops [⟨(some 26), none, .q (.mov (.t 1))⟩, ⟨(some 27), none, .q (.bin .add (.t 26) (.c (.sc (.int .i64 1))))⟩, ⟨(some 1), none, .q (.mov (.t 27))⟩])))))
  (.ops [⟨(some 10), none, .q (.mov (.t 5))⟩, ⟨(some 11), none, .q (.bin .add (.t 10) (.c (.sc (.int .i64 1))))⟩, ⟨(some 5), none, .q (.mov (.t 11))⟩]))))))
  (.seq (.ops [⟨(some 28), none, .q (.mov (.t 1))⟩, ⟨(some 4), none, .q (.mov (.t 28))⟩])
  .ret)))
theorem K26 : Tryd.f26.body.bind (comp Tryd.prog) = some A26 ∧ Tryd.f26.ntmps = 29 ∧ Tryd.f26.results.toList.mapM (resB Tryd.prog) = some [.mov (.t 4)] := ⟨by kernel_rfl, by kernel_rfl, by kernel_rfl⟩
set_option maxHeartbeats 2000000 in
theorem R26 (xs : List (File)) (k : Int) (hk : 0 < k) (hb : k + (toL File.tot xs : Nat) < 4611686018427387904) (hn : xs.length < 4611686018427387904) : MRet Tryd.prog 26 (rows File.ty.oc xs) xs.length 2 (.sc (.int .i64 k)) (.sc (.int .i64 (k + toL File.tot xs))) (rows File.ty.oc (mkL File.mark File.tot xs k)) := by
  refine MRet.loop File.ty File.mark File.tot (by decide) Tryd.func26 K26 xs k hn ?_
  intro ρ h M R pre x rest q hx hq hM hlt h0' h1' h5' h7' hfr hM' hR'
  have htot : toL File.tot xs = toL File.tot pre + (File.tot x + toL File.tot rest) := by rw [← hx, toL_app]; rfl
  have ht := File.tote x
  have hM : M.length = pre.length * 2 := hM
  have h0' : ρ 0 = .sl 100000 0 xs.length 2 false := h0'
  have k2 : h 100000 = some (some (M ++ AV.sc (.string x.path) :: AV.sc (.string x.text) :: R)) := h7'
  have ho0 : over (M ++ AV.sc (.string x.path) :: AV.sc (.string x.text) :: R) (pre.length * 2) [AV.sc (.string (mtI q))] = M ++ AV.sc (.string (mtI q)) :: AV.sc (.string x.text) :: R := by
    have := over_at (M := M ++ []) (R := AV.sc (.string x.text) :: R) (a := AV.sc (.string x.path)) (x := AV.sc (.string (mtI q))) (k := pre.length * 2) (by simp [hM])
    simpa using this
  have hw0 : IntKind.i64.wrap (q + 1) = q + 1 := wrap_i64 (by omega) (by omega)
  have g0 : pre.length * 2 + 1 ≤ M.length + (R.length + 1 + 1) := by omega
  have ho1 : over (M ++ AV.sc (.string (mtI q)) :: AV.sc (.string x.text) :: R) (pre.length * 2 + 1) [AV.sc (.string (mtI (q + 1)))] = M ++ AV.sc (.string (mtI q)) :: AV.sc (.string (mtI (q + 1))) :: R := by
    have := over_at (M := M ++ [AV.sc (.string (mtI q))]) (R := R) (a := AV.sc (.string x.text)) (x := AV.sc (.string (mtI (q + 1)))) (k := pre.length * 2 + 1) (by simp [hM])
    simpa using this
  have hw1 : IntKind.i64.wrap (q + 1 + 1) = q + 1 + 1 := wrap_i64 (by omega) (by omega)
  have g1 : pre.length * 2 + 1 + 1 ≤ M.length + (R.length + 1 + 1) := by omega
  refine run_ok (n := 600) ?_
  simp [h0', h1', h5', k2, hlt, ho0, hw0, g0, ho1, hw1, g1]
  refine callK.ro 0 rfl (by kernel_rfl) (by simp [roc_sc, upd_app, h1']) (RmarkTextI (q) (by omega) (by omega)) rfl rfl rfl ?_
  simp [h0', h1', h5', k2, hlt, ho0, hw0, g0, ho1, hw1, g1]
  refine callK.ro 0 rfl (by kernel_rfl) (by simp [roc_sc, upd_app, h1']) (RmarkTextI (q + 1) (by omega) (by omega)) rfl rfl rfl ?_
  simp [h0', h1', h5', k2, hlt, ho0, hw0, g0, ho1, hw1, g1]
  refine ⟨rfl, MRound.pack File.ty (File.mark x q) M R (by simp [upd_app, h0']) ?_ (by simp [upd_app, h5']) (by decide) ?_ ?_⟩
  · simp [upd_app, h1', ht]; all_goals omega
  · show _ = some (some (M ++ AV.sc (.string (mtI q)) :: AV.sc (.string (mtI (q + 1))) :: R))
    simp [upd_app, k2, mkL_len, File.mark]
  · intro i cs len sz hi
    match i with
    | 0 => cases hi
    | 1 => cases hi
    | i + 2 => cases hi
/- 27: loop.example/g00464/laws.heldFileS -/
def A27 : AC := (.seq (.ops [⟨(some 4), none, .q (.mov (.c (.sc (.int .i64 0))))⟩])
  (.seq (.seq (.ops [⟨(some 5), none, .q (.mov (.c (.sc (.int .i64 0))))⟩])
  (.block 0 (.loop (.seq (.seq (.ops [⟨(some 6), none, .q (.mov (.t 5))⟩, ⟨(some 7), none, .q (.mov (.t 0))⟩, ⟨(some 8), none, .q (.llen (.t 7))⟩, ⟨(some 9), none, .q (.bin .lss (.t 6) (.t 8))⟩])
  (.cond (.t 9) .skip
  (.exit 0)))
  (.seq (.block 1 (.seq (.seq (.any [(⟨(some 12), none, .q (.mov (.t 0))⟩, []), (⟨(some 13), none, .q (.mov (.t 5))⟩, []), (⟨(some 14), none, .q (.iadr 2 (.t 12) (.t 13))⟩, [0, 1]), (⟨(some 15), none, .q (.fadr 0 (.t 14))⟩, [2]), (⟨(some 16), none, .q (.load false 1 (.t 15))⟩, [3]), (⟨(some 17), none, .q (.mov (.t 1))⟩, []), (⟨(some 18), none, .c (.c (.clo 44 [])) [(.t 17)]⟩, [5]), (⟨(some 19), none, .q (.bin .neq (.t 16) (.t 18))⟩, [4, 6])])
  (.cond (.t 19) (.seq (.ops [⟨(some 4), none, .q (.mov (.c (.sc (.int .i64 (-1)))))⟩])
  .ret)
  .skip))
  (.seq (.ops [⟨(some 20), none, .q (.mov (.t 1))⟩, ⟨(some 21), none, .q (.bin .add (.t 20) (.c (.sc (.int .i64 1))))⟩, ⟨(some 1), none, .q (.mov (.t 21))⟩])
  (.seq (.seq (.any [(⟨(some 22), none, .q (.mov (.t 0))⟩, []), (⟨(some 23), none, .q (.mov (.t 5))⟩, []), (⟨(some 24), none, .q (.iadr 2 (.t 22) (.t 23))⟩, [0, 1]), (⟨(some 25), none, .q (.fadr 1 (.t 24))⟩, [2]), (⟨(some 26), none, .q (.load false 1 (.t 25))⟩, [3]), (⟨(some 27), none, .q (.mov (.t 1))⟩, []), (⟨(some 28), none, .c (.c (.clo 44 [])) [(.t 27)]⟩, [5]), (⟨(some 29), none, .q (.bin .neq (.t 26) (.t 28))⟩, [4, 6])])
  (.cond (.t 29) (.seq (.ops [⟨(some 4), none, .q (.mov (.c (.sc (.int .i64 (-1)))))⟩])
  .ret)
  .skip))
  (.ops [⟨(some 30), none, .q (.mov (.t 1))⟩, ⟨(some 31), none, .q (.bin .add (.t 30) (.c (.sc (.int .i64 1))))⟩, ⟨(some 1), none, .q (.mov (.t 31))⟩])))))
  (.ops [⟨(some 10), none, .q (.mov (.t 5))⟩, ⟨(some 11), none, .q (.bin .add (.t 10) (.c (.sc (.int .i64 1))))⟩, ⟨(some 5), none, .q (.mov (.t 11))⟩]))))))
  (.seq (.ops [⟨(some 32), none, .q (.mov (.t 1))⟩, ⟨(some 4), none, .q (.mov (.t 32))⟩])
  .ret)))
theorem K27 : Tryd.f27.body.bind (comp Tryd.prog) = some A27 ∧ Tryd.f27.ntmps = 33 ∧ Tryd.f27.results.toList.mapM (resB Tryd.prog) = some [.mov (.t 4)] := ⟨by kernel_rfl, by kernel_rfl, by kernel_rfl⟩
set_option maxHeartbeats 2000000 in
theorem R27 (xs : List (File)) (k : Int) (hk : 0 < k) (hb : k + (toL File.tot xs : Nat) < 4611686018427387904) (hn : xs.length < 4611686018427387904) : Ret Tryd.prog 27 [.ro (rows File.ty.cs (mkL File.mark File.tot xs k)) xs.length, .sc (.int .i64 k)] (.sc (.int .i64 (k + toL File.tot xs))) [.un, .un] := by
  refine Ret.heldLoop File.ty File.mark File.tot (by decide) Tryd.func27 K27 xs k hn ?_
  intro ρ ms R pre x rest q Q hx hq hlt h0' h1' h5' hd
  have htot : toL File.tot xs = toL File.tot pre + (File.tot x + toL File.tot rest) := by rw [← hx, toL_app]; rfl
  have ht := File.tote x
  have hw0 : IntKind.i64.wrap (q + 1) = q + 1 := wrap_i64 (by omega) (by omega)
  have hw1 : IntKind.i64.wrap (q + 1 + 1) = q + 1 + 1 := wrap_i64 (by omega) (by omega)
  have hd0 : List.drop (pre.length * 2) ms = AV.sc (.string (mtI q)) :: AV.sc (.string (mtI (q + 1))) :: R := by
    have e : List.drop (pre.length * 2) ms = File.ty.cs (File.mark x q) ++ R := hd
    rw [e]
    simp [File.cse, File.mark, mkL_len]
  have hd1 : List.drop (pre.length * 2 + 1) ms = AV.sc (.string (mtI (q + 1))) :: R := by rw [← List.drop_drop, hd0]; rfl
  refine run_ok (n := 600) ?_
  simp [h0', h1', h5', hlt, hw0, hw1, hd0, hd1]
  refine T.text 400 mixed (by kernel_rfl) (by kernel_rfl) ?_
  simp [h0', h1', h5', hlt, hw0, hw1, hd0, hd1]
  refine callSK.by rfl (by kernel_rfl) (by simp [roc_sc, upd_app, h1']) (RmarkTextI (q) (by omega) (by omega)) ?_
  simp [h0', h1', h5', hlt, hw0, hw1, hd0, hd1]
  refine T.text 400 mixed (by kernel_rfl) (by kernel_rfl) ?_
  simp [h0', h1', h5', hlt, hw0, hw1, hd0, hd1]
  refine callSK.by rfl (by kernel_rfl) (by simp [roc_sc, upd_app, h1']) (RmarkTextI (q + 1) (by omega) (by omega)) ?_
  simp [h0', h1', h5', hlt, hw0, hw1, hd0, hd1]
  refine ⟨rfl, by simp [upd_app, h0'], ?_, by simp [upd_app, h5'], rfl⟩
  simp [upd_app, h1', ht]
  all_goals omega
end Go.Proofs.YtaknfalbmblagaaDoor.Am
