/- The functions of the program, each by its contract: Marks3; no condition. -/
import Derived.Test.YtaknfalbmblagaaDoorProg
import Derived.Test.YtaknfalbmblagaaDoorAmZ
import Derived.Test.YtaknfalbmblagaaDoorAmP
import Derived.Test.YtaknfalbmblagaaDoorMarks
import Derived.Test.YtaknfalbmblagaaDoorSlots
import Derived.KernelRfl
namespace Go.Proofs.YtaknfalbmblagaaDoor.Am
open Go Go.Proofs
set_option linter.unusedSimpArgs false
set_option linter.unusedVariables false
attribute [local congr] T_congr callK_congr callWK_congr
attribute [local simp] run_nil run_op0 run_opg run_seq run_cond run_block run_ret run_skip run_skip_after run_skip_blk run_exit run_exit_after run_exit_blk run_loop run_any runS_nil runS_op0 runS_opg runW_nil runW_op0 runW_opg exec_q exec_w exec_c exec_n execW_q execW_w execW_c restW_app hideH_app merge_app wblk rest_app restS_app execS_q execS_c aval dOk upd_app ev_t ev_c setO_some setO_none put_mk pinsOf isIo hasIo sbin endR fin resL one outL out1 clo1 cloL coe coeL shut shut.shutL wantA weff cellsOf fillA deref natOf ρ0_app h0_app plain plain.plainL keep_app keepH_app andThen_normal andThen_ret andThen_exit pop_nil pop_after pop_after_ret pop_after_exit pop_blk pop_blk_ret pop_blk_exit nilA srcOf srcCells keepR_app keepHR_app renA rb
theorem Slot.totw (x : Slot) : Slot.tot x ≤ 3 * (1 + Slot.ty.wt x) := by
  rw [Slot.wte]; unfold Slot.tot; omega
def Plan.stot (x : Plan) : Nat := toL strTot x.tasks + toL strsTot x.deps
theorem Plan.stote (x : Plan) : Plan.stot x = toL strTot x.tasks + toL strsTot x.deps := rfl
theorem Plan.stotw (x : Plan) : Plan.stot x ≤ 3 * Plan.ty.wt x := by
  have w0 := toL_wt strTotw x.tasks
  have w1 := toL_wt strsTotw x.deps
  rw [Plan.stote, Plan.wte]; omega
def World.stot (x : World) : Nat := toL Pack.tot x.packs + toL Rule.tot x.rules + toL File.tot x.files + toL Env.tot x.envs
theorem World.stote (x : World) : World.stot x = toL Pack.tot x.packs + toL Rule.tot x.rules + toL File.tot x.files + toL Env.tot x.envs := rfl
theorem World.stotw (x : World) : World.stot x ≤ 3 * World.ty.wt x := by
  have w0 := toL_wt Pack.totw x.packs
  have w1 := toL_wt Rule.totw x.rules
  have w2 := toL_wt File.totw x.files
  have w3 := toL_wt Env.totw x.envs
  rw [World.stote, World.wte]; omega
def Job.stot (x : Job) : Nat := toL strTot x.acts + toL File.tot x.ins + toL Env.tot x.envs + toL Made.tot x.deps
theorem Job.stote (x : Job) : Job.stot x = toL strTot x.acts + toL File.tot x.ins + toL Env.tot x.envs + toL Made.tot x.deps := rfl
theorem Job.stotw (x : Job) : Job.stot x ≤ 3 * Job.ty.wt x := by
  have w1 := toL_wt strTotw x.acts
  have w2 := toL_wt File.totw x.ins
  have w3 := toL_wt Env.totw x.envs
  have w4 := toL_wt Made.totw x.deps
  rw [Job.stote, Job.wte]; omega
def Run.stot (x : Run) : Nat := World.stot x.w + Plan.stot x.p + toL Made.tot x.made + toL Mark.tot x.marks + toL strTot x.going + toL Slot.tot x.cache
theorem Run.stote (x : Run) : Run.stot x = World.stot x.w + Plan.stot x.p + toL Made.tot x.made + toL Mark.tot x.marks + toL strTot x.going + toL Slot.tot x.cache := rfl
theorem Run.stotw (x : Run) : Run.stot x ≤ 3 * Run.ty.wt x := by
  have w0 := World.stotw x.w
  have w1 := Plan.stotw x.p
  have w4 := toL_wt Made.totw x.made
  have w5 := toL_wt Mark.totw x.marks
  have w6 := toL_wt strTotw x.going
  have w7 := toL_wt Slot.totw x.cache
  rw [Run.stote, Run.wte]; omega
end Go.Proofs.YtaknfalbmblagaaDoor.Am
