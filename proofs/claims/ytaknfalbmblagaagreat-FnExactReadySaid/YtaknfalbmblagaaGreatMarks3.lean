/- The functions of the program, each by its contract: Marks3; no condition. -/
import Derived.Test.YtaknfalbmblagaaGreatProg
import Derived.Test.YtaknfalbmblagaaGreatAmZ
import Derived.Test.YtaknfalbmblagaaGreatAmP
import Derived.Test.YtaknfalbmblagaaGreatMarks
import Derived.Test.YtaknfalbmblagaaGreatSlots
import Derived.KernelRfl
namespace Go.Proofs.YtaknfalbmblagaaGreat.Am
open Go Go.Proofs
set_option linter.unusedSimpArgs false
set_option linter.unusedVariables false
attribute [local congr] T_congr callK_congr callWK_congr
attribute [local simp] run_nil run_op0 run_opg run_seq run_cond run_block run_ret run_skip run_skip_after run_skip_blk run_exit run_exit_after run_exit_blk run_loop run_any runS_nil runS_op0 runS_opg runW_nil runW_op0 runW_opg exec_q exec_w exec_c exec_n execW_q execW_w execW_c restW_app hideH_app merge_app wblk rest_app restS_app execS_q execS_c aval dOk upd_app ev_t ev_c setO_some setO_none put_mk pinsOf isIo hasIo sbin endR fin resL one outL out1 clo1 cloL coe coeL shut shut.shutL wantA weff cellsOf fillA deref natOf ρ0_app h0_app plain plain.plainL keep_app keepH_app andThen_normal andThen_ret andThen_exit pop_nil pop_after pop_after_ret pop_after_exit pop_blk pop_blk_ret pop_blk_exit nilA srcOf srcCells keepR_app keepHR_app renA rb
theorem Slot.totw (x : Slot) : Slot.tot x ≤ 3 * (1 + Slot.ty.wt x) := by
  rw [Slot.wte]; unfold Slot.tot; omega
def Plan.stot (x : Plan) : Nat := toL strTot x.tasks + toL strsTot x.deps
theorem Plan.stote (x : Plan) : Plan.stot x = toL strTot x.tasks + toL strsTot x.deps := rfl
theorem Plan.stotw (x : Plan) : Plan.stot x ≤ 3 * Plan.ty.wt x := by
  have w0 := toL_wt strTotw x.tasks
  have w1 := toL_wt strsTotw x.deps
  rw [Plan.stote, Plan.wte]; omega
def World.stot (x : World) : Nat := toL Pack.tot x.packs + toL Rule.tot x.rules + toL File.tot x.files + toL Env.tot x.envs
theorem World.stote (x : World) : World.stot x = toL Pack.tot x.packs + toL Rule.tot x.rules + toL File.tot x.files + toL Env.tot x.envs := rfl
theorem World.stotw (x : World) : World.stot x ≤ 3 * World.ty.wt x := by
  have w0 := toL_wt Pack.totw x.packs
  have w1 := toL_wt Rule.totw x.rules
  have w2 := toL_wt File.totw x.files
  have w3 := toL_wt Env.totw x.envs
  rw [World.stote, World.wte]; omega
def Job.stot (x : Job) : Nat := toL strTot x.acts + toL File.tot x.ins + toL Env.tot x.envs + toL Made.tot x.deps
theorem Job.stote (x : Job) : Job.stot x = toL strTot x.acts + toL File.tot x.ins + toL Env.tot x.envs + toL Made.tot x.deps := rfl
theorem Job.stotw (x : Job) : Job.stot x ≤ 3 * Job.ty.wt x := by
  have w1 := toL_wt strTotw x.acts
  have w2 := toL_wt File.totw x.ins
  have w3 := toL_wt Env.totw x.envs
  have w4 := toL_wt Made.totw x.deps
  rw [Job.stote, Job.wte]; omega
def Run.stot (x : Run) : Nat := World.stot x.w + Plan.stot x.p + toL Made.tot x.made + toL Mark.tot x.marks + toL strTot x.going + toL Slot.tot x.cache
theorem Run.stote (x : Run) : Run.stot x = World.stot x.w + Plan.stot x.p + toL Made.tot x.made + toL Mark.tot x.marks + toL strTot x.going + toL Slot.tot x.cache := rfl
theorem Run.stotw (x : Run) : Run.stot x ≤ 3 * Run.ty.wt x := by
  have w0 := World.stotw x.w
  have w1 := Plan.stotw x.p
  have w4 := toL_wt Made.totw x.made
  have w5 := toL_wt Mark.totw x.marks
  have w6 := toL_wt strTotw x.going
  have w7 := toL_wt Slot.totw x.cache
  rw [Run.stote, Run.wte]; omega
/- 35: loop.example/g00464/laws.markPlan -/
def A35 : AC := (.seq (.ops [⟨(some 2), none, .w (.box (.t 0))⟩, ⟨(some 4), none, .q (.mov (.c (.sc (.int .i64 0))))⟩])
  (.seq (.ops [⟨(some 5), none, .q (.fadr 0 (.t 2))⟩, ⟨(some 6), none, .q (.load false 1 (.t 5))⟩, ⟨(some 7), none, .q (.mov (.t 1))⟩, ⟨(some 8), none, .c (.c (.clo 11 [])) [(.t 6), (.t 7)]⟩, ⟨(some 1), none, .q (.mov (.t 8))⟩])
  (.seq (.ops [⟨(some 9), none, .q (.fadr 1 (.t 2))⟩, ⟨(some 10), none, .q (.load false 1 (.t 9))⟩, ⟨(some 11), none, .q (.mov (.t 1))⟩, ⟨(some 12), none, .c (.c (.clo 72 [])) [(.t 10), (.t 11)]⟩, ⟨(some 1), none, .q (.mov (.t 12))⟩])
  (.seq (.ops [⟨(some 13), none, .q (.mov (.t 1))⟩, ⟨(some 4), none, .q (.mov (.t 13))⟩])
  .ret))))
theorem K35 : Tryz.f35.body.bind (comp Tryz.prog) = some A35 ∧ Tryz.f35.ntmps = 14 ∧ Tryz.f35.results.toList.mapM (resB Tryz.prog) = some [.mov (.t 4)] := ⟨by kernel_rfl, by kernel_rfl, by kernel_rfl⟩
set_option maxHeartbeats 2000000 in
theorem R35 (x : Plan) (k : Int) (hk : 0 < k) (hb : k + (Plan.stot x : Nat) < 4611686018427387904) (hn0 : x.deps.length < 4611686018427387904) : Ret Tryz.prog 35 [.agg (Plan.ty.oc x), .sc (.int .i64 k)] (.sc (.int .i64 (k + Plan.stot x))) [.un, .un] := by
  have ht := Plan.stote x
  have u1 : x.tasks.length = toL strTot x.tasks := (toL_one _).symm
  refine Ret.run Tryz.func35 K35 (by simp) rfl rfl 900 ?_
  simp [A35, iniρ, Plan.oce]
  refine callK.io (b := 100001000) (len := x.tasks.length) (sz := 1) (cs := rows Ty.str.oc x.tasks) rfl (by kernel_rfl) (by simp [upd_app]; all_goals rfl) (by simp [upd_app]) (rows_length Ty.str.ocn _) (Ty.str.frL _) (by simp [upd_app]) rfl (R11 x.tasks (k) (by omega) (by omega) (by omega)) (mkrows_len Ty.str _ _ _ _) (flrows Ty.str _) rfl ?_
  simp [goneL]
  refine callK.io (b := 100001001) (len := x.deps.length) (sz := 1) (cs := rows Ty.str.slice.oc x.deps) rfl (by kernel_rfl) (by simp [upd_app]; all_goals rfl) (by simp [upd_app]) (rows_length Ty.str.slice.ocn _) (Ty.str.slice.frL _) (by simp [upd_app]) rfl (R72 x.deps (k + (toL strTot x.tasks : Nat)) (by omega) (by omega) (by omega)) (mkrows_len Ty.str.slice _ _ _ _) (flrows Ty.str.slice _) rfl ?_
  simp [ht]
  all_goals omega
/- 34: loop.example/g00464/laws.markWorld -/
def A34 : AC := (.seq (.ops [⟨(some 2), none, .w (.box (.t 0))⟩, ⟨(some 4), none, .q (.mov (.c (.sc (.int .i64 0))))⟩])
  (.seq (.ops [⟨(some 5), none, .q (.fadr 0 (.t 2))⟩, ⟨(some 6), none, .q (.load false 1 (.t 5))⟩, ⟨(some 7), none, .q (.mov (.t 1))⟩, ⟨(some 8), none, .c (.c (.clo 68 [])) [(.t 6), (.t 7)]⟩, ⟨(some 1), none, .q (.mov (.t 8))⟩])
  (.seq (.ops [⟨(some 9), none, .q (.fadr 1 (.t 2))⟩, ⟨(some 10), none, .q (.load false 1 (.t 9))⟩, ⟨(some 11), none, .q (.mov (.t 1))⟩, ⟨(some 12), none, .c (.c (.clo 69 [])) [(.t 10), (.t 11)]⟩, ⟨(some 1), none, .q (.mov (.t 12))⟩])
  (.seq (.ops [⟨(some 13), none, .q (.fadr 2 (.t 2))⟩, ⟨(some 14), none, .q (.load false 1 (.t 13))⟩, ⟨(some 15), none, .q (.mov (.t 1))⟩, ⟨(some 16), none, .c (.c (.clo 70 [])) [(.t 14), (.t 15)]⟩, ⟨(some 1), none, .q (.mov (.t 16))⟩])
  (.seq (.ops [⟨(some 17), none, .q (.fadr 3 (.t 2))⟩, ⟨(some 18), none, .q (.load false 1 (.t 17))⟩, ⟨(some 19), none, .q (.mov (.t 1))⟩, ⟨(some 20), none, .c (.c (.clo 71 [])) [(.t 18), (.t 19)]⟩, ⟨(some 1), none, .q (.mov (.t 20))⟩])
  (.seq (.ops [⟨(some 21), none, .q (.mov (.t 1))⟩, ⟨(some 4), none, .q (.mov (.t 21))⟩])
  .ret))))))
theorem K34 : Tryz.f34.body.bind (comp Tryz.prog) = some A34 ∧ Tryz.f34.ntmps = 22 ∧ Tryz.f34.results.toList.mapM (resB Tryz.prog) = some [.mov (.t 4)] := ⟨by kernel_rfl, by kernel_rfl, by kernel_rfl⟩
set_option maxHeartbeats 2000000 in
theorem R34 (x : World) (k : Int) (hk : 0 < k) (hb : k + (World.stot x : Nat) < 4611686018427387904) : Ret Tryz.prog 34 [.agg (World.ty.oc x), .sc (.int .i64 k)] (.sc (.int .i64 (k + World.stot x))) [.un, .un] := by
  have ht := World.stote x
  have u1 := toL_ge Pack.tot1 x.packs
  have u2 := toL_ge Rule.tot1 x.rules
  have u3 := toL_ge File.tot1 x.files
  have u4 := toL_ge Env.tot1 x.envs
  refine Ret.run Tryz.func34 K34 (by simp) rfl rfl 900 ?_
  simp [A34, iniρ, World.oce]
  refine callK.io (b := 100001000) (len := x.packs.length) (sz := 4) (cs := rows Pack.ty.oc x.packs) rfl (by kernel_rfl) (by simp [upd_app]; all_goals rfl) (by simp [upd_app]) (rows_length Pack.ty.ocn _) (Pack.ty.frL _) (by simp [upd_app]) rfl (R68 x.packs (k) (by omega) (by omega) (by omega)) (mkrows_len Pack.ty _ _ _ _) (flrows Pack.ty _) rfl ?_
  simp [goneL]
  refine callK.io (b := 100001001) (len := x.rules.length) (sz := 5) (cs := rows Rule.ty.oc x.rules) rfl (by kernel_rfl) (by simp [upd_app]; all_goals rfl) (by simp [upd_app]) (rows_length Rule.ty.ocn _) (Rule.ty.frL _) (by simp [upd_app]) rfl (R69 x.rules (k + (toL Pack.tot x.packs : Nat)) (by omega) (by omega) (by omega)) (mkrows_len Rule.ty _ _ _ _) (flrows Rule.ty _) rfl ?_
  simp [goneL]
  refine callK.io (b := 100001002) (len := x.files.length) (sz := 2) (cs := rows File.ty.oc x.files) rfl (by kernel_rfl) (by simp [upd_app]; all_goals rfl) (by simp [upd_app]) (rows_length File.ty.ocn _) (File.ty.frL _) (by simp [upd_app]) rfl (R70 x.files (k + (toL Pack.tot x.packs : Nat) + (toL Rule.tot x.rules : Nat)) (by omega) (by omega) (by omega)) (mkrows_len File.ty _ _ _ _) (flrows File.ty _) rfl ?_
  simp [goneL]
  refine callK.io (b := 100001003) (len := x.envs.length) (sz := 2) (cs := rows Env.ty.oc x.envs) rfl (by kernel_rfl) (by simp [upd_app]; all_goals rfl) (by simp [upd_app]) (rows_length Env.ty.ocn _) (Env.ty.frL _) (by simp [upd_app]) rfl (R71 x.envs (k + (toL Pack.tot x.packs : Nat) + (toL Rule.tot x.rules : Nat) + (toL File.tot x.files : Nat)) (by omega) (by omega) (by omega)) (mkrows_len Env.ty _ _ _ _) (flrows Env.ty _) rfl ?_
  simp [ht]
  all_goals omega
/- 10: loop.example/g00464/laws.markRun -/
def A10 : AC := (.seq (.ops [⟨(some 2), none, .w (.box (.t 0))⟩, ⟨(some 4), none, .q (.mov (.c (.sc (.int .i64 0))))⟩])
  (.seq (.ops [⟨(some 5), none, .q (.fadr 0 (.t 2))⟩, ⟨(some 6), none, .q (.load true 4 (.t 5))⟩, ⟨(some 7), none, .q (.mov (.t 1))⟩, ⟨(some 8), none, .c (.c (.clo 34 [])) [(.t 6), (.t 7)]⟩, ⟨(some 1), none, .q (.mov (.t 8))⟩])
  (.seq (.ops [⟨(some 9), none, .q (.fadr 4 (.t 2))⟩, ⟨(some 10), none, .q (.load true 2 (.t 9))⟩, ⟨(some 11), none, .q (.mov (.t 1))⟩, ⟨(some 12), none, .c (.c (.clo 35 [])) [(.t 10), (.t 11)]⟩, ⟨(some 1), none, .q (.mov (.t 12))⟩])
  (.seq (.ops [⟨(some 13), none, .q (.fadr 8 (.t 2))⟩, ⟨(some 14), none, .q (.load false 1 (.t 13))⟩, ⟨(some 15), none, .q (.mov (.t 1))⟩, ⟨(some 16), none, .c (.c (.clo 36 [])) [(.t 14), (.t 15)]⟩, ⟨(some 1), none, .q (.mov (.t 16))⟩])
  (.seq (.ops [⟨(some 17), none, .q (.fadr 9 (.t 2))⟩, ⟨(some 18), none, .q (.load false 1 (.t 17))⟩, ⟨(some 19), none, .q (.mov (.t 1))⟩, ⟨(some 20), none, .c (.c (.clo 37 [])) [(.t 18), (.t 19)]⟩, ⟨(some 1), none, .q (.mov (.t 20))⟩])
  (.seq (.ops [⟨(some 21), none, .q (.fadr 10 (.t 2))⟩, ⟨(some 22), none, .q (.load false 1 (.t 21))⟩, ⟨(some 23), none, .q (.mov (.t 1))⟩, ⟨(some 24), none, .c (.c (.clo 11 [])) [(.t 22), (.t 23)]⟩, ⟨(some 1), none, .q (.mov (.t 24))⟩])
  (.seq (.ops [⟨(some 25), none, .q (.fadr 11 (.t 2))⟩, ⟨(some 26), none, .q (.load false 1 (.t 25))⟩, ⟨(some 27), none, .q (.mov (.t 1))⟩, ⟨(some 28), none, .c (.c (.clo 38 [])) [(.t 26), (.t 27)]⟩, ⟨(some 1), none, .q (.mov (.t 28))⟩])
  (.seq (.ops [⟨(some 29), none, .q (.mov (.t 1))⟩, ⟨(some 4), none, .q (.mov (.t 29))⟩])
  .ret))))))))
theorem K10 : Tryz.f10.body.bind (comp Tryz.prog) = some A10 ∧ Tryz.f10.ntmps = 30 ∧ Tryz.f10.results.toList.mapM (resB Tryz.prog) = some [.mov (.t 4)] := ⟨by kernel_rfl, by kernel_rfl, by kernel_rfl⟩
set_option maxHeartbeats 2000000 in
theorem R10 (x : Run) (k : Int) (hk : 0 < k) (hb : k + (Run.stot x : Nat) < 4611686018427387904) (hn0 : x.p.deps.length < 4611686018427387904) (hn1 : x.cache.length < 4611686018427387904) : Ret Tryz.prog 10 [.agg (Run.ty.oc x), .sc (.int .i64 k)] (.sc (.int .i64 (k + Run.stot x))) [.un, .un] := by
  have ht := Run.stote x
  have u9 := toL_ge Made.tot1 x.made
  have u10 := toL_ge Mark.tot1 x.marks
  have u11 : x.going.length = toL strTot x.going := (toL_one _).symm
  refine Ret.run Tryz.func10 K10 (by simp) rfl rfl 900 ?_
  simp [A10, iniρ, Run.oce, World.oce, Plan.oce]
  have rs0 := R34 x.w (k) (by omega) (by omega)
  rw [World.oce] at rs0
  refine callK.mvS [.bk 100001000 x.w.packs.length 4 (rows Pack.ty.oc x.w.packs), .bk 100001001 x.w.rules.length 5 (rows Rule.ty.oc x.w.rules), .bk 100001002 x.w.files.length 2 (rows File.ty.oc x.w.files), .bk 100001003 x.w.envs.length 2 (rows Env.ty.oc x.w.envs)] rfl (by kernel_rfl) (by simp [upd_app]; exact ⟨rfl, rfl, rfl, rfl⟩) (by simp [MvD.bl]) (by simp [MvD.ok, upd_app, rows_length Env.ty.ocn, Env.ty.frL, show Env.ty.n = 2 from rfl, rows_length File.ty.ocn, File.ty.frL, show File.ty.n = 2 from rfl, rows_length Pack.ty.ocn, Pack.ty.frL, show Pack.ty.n = 4 from rfl, rows_length Rule.ty.ocn, Rule.ty.frL, show Rule.ty.n = 5 from rfl]) (by simp [upd_app]) rfl rs0 rfl ?_
  simp [goneL]
  have rs4 := R35 x.p (k + (World.stot x.w : Nat)) (by omega) (by omega) hn0
  rw [Plan.oce] at rs4
  refine callK.mvS [.bk 100001004 x.p.tasks.length 1 (rows Ty.str.oc x.p.tasks), .bk 100001005 x.p.deps.length 1 (rows Ty.str.slice.oc x.p.deps)] rfl (by kernel_rfl) (by simp [upd_app]; exact ⟨rfl, rfl⟩) (by simp [MvD.bl]) (by simp [MvD.ok, upd_app, rows_length Ty.str.ocn, Ty.str.frL, show Ty.str.n = 1 from rfl, rows_length Ty.str.slice.ocn, Ty.str.slice.frL, show Ty.str.slice.n = 1 from rfl]) (by simp [upd_app]) rfl rs4 rfl ?_
  simp [goneL]
  refine callK.io (b := 100001008) (len := x.made.length) (sz := 3) (cs := rows Made.ty.oc x.made) rfl (by kernel_rfl) (by simp [upd_app]; all_goals rfl) (by simp [upd_app]) (rows_length Made.ty.ocn _) (Made.ty.frL _) (by simp [upd_app]) rfl (R36 x.made (k + (World.stot x.w : Nat) + (Plan.stot x.p : Nat)) (by omega) (by omega) (by omega)) (mkrows_len Made.ty _ _ _ _) (flrows Made.ty _) rfl ?_
  simp [goneL]
  refine callK.io (b := 100001009) (len := x.marks.length) (sz := 2) (cs := rows Mark.ty.oc x.marks) rfl (by kernel_rfl) (by simp [upd_app]; all_goals rfl) (by simp [upd_app]) (rows_length Mark.ty.ocn _) (Mark.ty.frL _) (by simp [upd_app]) rfl (R37 x.marks (k + (World.stot x.w : Nat) + (Plan.stot x.p : Nat) + (toL Made.tot x.made : Nat)) (by omega) (by omega) (by omega)) (mkrows_len Mark.ty _ _ _ _) (flrows Mark.ty _) rfl ?_
  simp [goneL]
  refine callK.io (b := 100001010) (len := x.going.length) (sz := 1) (cs := rows Ty.str.oc x.going) rfl (by kernel_rfl) (by simp [upd_app]; all_goals rfl) (by simp [upd_app]) (rows_length Ty.str.ocn _) (Ty.str.frL _) (by simp [upd_app]) rfl (R11 x.going (k + (World.stot x.w : Nat) + (Plan.stot x.p : Nat) + (toL Made.tot x.made : Nat) + (toL Mark.tot x.marks : Nat)) (by omega) (by omega) (by omega)) (mkrows_len Ty.str _ _ _ _) (flrows Ty.str _) rfl ?_
  simp [goneL]
  refine callK.io (b := 100001011) (len := x.cache.length) (sz := 2) (cs := rows Slot.ty.oc x.cache) rfl (by kernel_rfl) (by simp [upd_app]; all_goals rfl) (by simp [upd_app]) (rows_length Slot.ty.ocn _) (Slot.ty.frL _) (by simp [upd_app]) rfl (R38 x.cache (k + (World.stot x.w : Nat) + (Plan.stot x.p : Nat) + (toL Made.tot x.made : Nat) + (toL Mark.tot x.marks : Nat) + (toL strTot x.going : Nat)) (by omega) (by omega) (by omega)) (mkrows_len Slot.ty _ _ _ _) (flrows Slot.ty _) rfl ?_
  simp [ht]
  all_goals omega
end Go.Proofs.YtaknfalbmblagaaGreat.Am
