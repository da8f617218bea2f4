/- The functions of the program, each by its contract: Types; no condition. -/
import Derived.Test.YtaknfalbmblagaaDoorProg
import Derived.Test.YtaknfalbmblagaaDoorAmZ
import Derived.Test.YtaknfalbmblagaaDoorAmP
import Derived.KernelRfl
namespace Go.Proofs.YtaknfalbmblagaaDoor.Am
open Go Go.Proofs
set_option linter.unusedSimpArgs false
set_option linter.unusedVariables false
attribute [local congr] T_congr callK_congr callWK_congr
attribute [local simp] run_nil run_op0 run_opg run_seq run_cond run_block run_ret run_skip run_skip_after run_skip_blk run_exit run_exit_after run_exit_blk run_loop run_any runS_nil runS_op0 runS_opg runW_nil runW_op0 runW_opg exec_q exec_w exec_c exec_n execW_q execW_w execW_c restW_app hideH_app merge_app wblk rest_app restS_app execS_q execS_c aval dOk upd_app ev_t ev_c setO_some setO_none put_mk pinsOf isIo hasIo sbin endR fin resL one outL out1 clo1 cloL coe coeL shut shut.shutL wantA weff cellsOf fillA deref natOf ρ0_app h0_app plain plain.plainL keep_app keepH_app andThen_normal andThen_ret andThen_exit pop_nil pop_after pop_after_ret pop_after_exit pop_blk pop_blk_ret pop_blk_exit nilA srcOf srcCells keepR_app keepHR_app renA rb
structure File where
  path : ByteArray
  text : ByteArray
def File.ty : Ty File := Ty.struct (Ty.str.cons (Ty.str.cons Ty.nil)) (fun x => (x.path, x.text, ())) (fun p => ⟨p.1, p.2.1⟩) (fun _ => rfl) 32
theorem File.cse (x : File) : File.ty.cs x = [.sc (.string x.path), .sc (.string x.text)] := rfl
theorem File.oce (x : File) : File.ty.oc x = [.sc (.string x.path), .sc (.string x.text)] := rfl
theorem File.wte (x : File) : File.ty.wt x = x.path.size + (x.text.size + 0) := rfl
theorem File.ocl (xs : List File) : (rows File.ty.oc xs).length = xs.length * 2 := rows_length File.ty.ocn xs
theorem File.csl (xs : List File) : (rows File.ty.cs xs).length = xs.length * 2 := rows_length File.ty.csn xs
theorem File.frL (xs : List File) : idfree.idfreeL (rows File.ty.oc xs) = true := File.ty.frL xs
theorem File.roc8 {h : Hp} {b : Nat} {xs : List File} {lim : Bool} (hb : h b = some (some (rows File.ty.oc xs))) : roc h 8 (.sl b 0 xs.length 2 lim) = some (.ro (rows File.ty.cs xs) xs.length) := File.ty.roc8 (by decide) hb
theorem File.roc7 {h : Hp} {b : Nat} {xs : List File} {lim : Bool} (hb : h b = some (some (rows File.ty.oc xs))) : roc h 7 (.sl b 0 xs.length 2 lim) = some (.ro (rows File.ty.cs xs) xs.length) := File.ty.roc7 (by decide) hb
structure Need where
  name : ByteArray
  range : ByteArray
def Need.ty : Ty Need := Ty.struct (Ty.str.cons (Ty.str.cons Ty.nil)) (fun x => (x.name, x.range, ())) (fun p => ⟨p.1, p.2.1⟩) (fun _ => rfl) 32
theorem Need.cse (x : Need) : Need.ty.cs x = [.sc (.string x.name), .sc (.string x.range)] := rfl
theorem Need.oce (x : Need) : Need.ty.oc x = [.sc (.string x.name), .sc (.string x.range)] := rfl
theorem Need.wte (x : Need) : Need.ty.wt x = x.name.size + (x.range.size + 0) := rfl
theorem Need.ocl (xs : List Need) : (rows Need.ty.oc xs).length = xs.length * 2 := rows_length Need.ty.ocn xs
theorem Need.csl (xs : List Need) : (rows Need.ty.cs xs).length = xs.length * 2 := rows_length Need.ty.csn xs
theorem Need.frL (xs : List Need) : idfree.idfreeL (rows Need.ty.oc xs) = true := Need.ty.frL xs
theorem Need.roc8 {h : Hp} {b : Nat} {xs : List Need} {lim : Bool} (hb : h b = some (some (rows Need.ty.oc xs))) : roc h 8 (.sl b 0 xs.length 2 lim) = some (.ro (rows Need.ty.cs xs) xs.length) := Need.ty.roc8 (by decide) hb
theorem Need.roc7 {h : Hp} {b : Nat} {xs : List Need} {lim : Bool} (hb : h b = some (some (rows Need.ty.oc xs))) : roc h 7 (.sl b 0 xs.length 2 lim) = some (.ro (rows Need.ty.cs xs) xs.length) := Need.ty.roc7 (by decide) hb
structure Cmd where
  task : ByteArray
  acts : List ByteArray
def Cmd.ty : Ty Cmd := Ty.struct (Ty.str.cons (Ty.str.slice.cons Ty.nil)) (fun x => (x.task, x.acts, ())) (fun p => ⟨p.1, p.2.1⟩) (fun _ => rfl) 40
theorem Cmd.cse (x : Cmd) : Cmd.ty.cs x = [.sc (.string x.task), .ro (rows Ty.str.cs x.acts) x.acts.length] := rfl
theorem Cmd.oce (x : Cmd) : Cmd.ty.oc x = [.sc (.string x.task), .own (rows Ty.str.oc x.acts) x.acts.length 1] := rfl
theorem Cmd.wte (x : Cmd) : Cmd.ty.wt x = x.task.size + ((x.acts.length + wtL Ty.str.wt x.acts) + 0) := rfl
theorem Cmd.ocl (xs : List Cmd) : (rows Cmd.ty.oc xs).length = xs.length * 2 := rows_length Cmd.ty.ocn xs
theorem Cmd.csl (xs : List Cmd) : (rows Cmd.ty.cs xs).length = xs.length * 2 := rows_length Cmd.ty.csn xs
theorem Cmd.frL (xs : List Cmd) : idfree.idfreeL (rows Cmd.ty.oc xs) = true := Cmd.ty.frL xs
theorem Cmd.roc8 {h : Hp} {b : Nat} {xs : List Cmd} {lim : Bool} (hb : h b = some (some (rows Cmd.ty.oc xs))) : roc h 8 (.sl b 0 xs.length 2 lim) = some (.ro (rows Cmd.ty.cs xs) xs.length) := Cmd.ty.roc8 (by decide) hb
theorem Cmd.roc7 {h : Hp} {b : Nat} {xs : List Cmd} {lim : Bool} (hb : h b = some (some (rows Cmd.ty.oc xs))) : roc h 7 (.sl b 0 xs.length 2 lim) = some (.ro (rows Cmd.ty.cs xs) xs.length) := Cmd.ty.roc7 (by decide) hb
structure Pack where
  name : ByteArray
  uses : List ByteArray
  needs : List Need
  cmds : List Cmd
def Pack.ty : Ty Pack := Ty.struct (Ty.str.cons (Ty.str.slice.cons (Need.ty.slice.cons (Cmd.ty.slice.cons Ty.nil)))) (fun x => (x.name, x.uses, x.needs, x.cmds, ())) (fun p => ⟨p.1, p.2.1, p.2.2.1, p.2.2.2.1⟩) (fun _ => rfl) 88
theorem Pack.cse (x : Pack) : Pack.ty.cs x = [.sc (.string x.name), .ro (rows Ty.str.cs x.uses) x.uses.length, .ro (rows Need.ty.cs x.needs) x.needs.length, .ro (rows Cmd.ty.cs x.cmds) x.cmds.length] := rfl
theorem Pack.oce (x : Pack) : Pack.ty.oc x = [.sc (.string x.name), .own (rows Ty.str.oc x.uses) x.uses.length 1, .own (rows Need.ty.oc x.needs) x.needs.length 2, .own (rows Cmd.ty.oc x.cmds) x.cmds.length 2] := rfl
theorem Pack.wte (x : Pack) : Pack.ty.wt x = x.name.size + ((x.uses.length + wtL Ty.str.wt x.uses) + ((x.needs.length + wtL Need.ty.wt x.needs) + ((x.cmds.length + wtL Cmd.ty.wt x.cmds) + 0))) := rfl
theorem Pack.ocl (xs : List Pack) : (rows Pack.ty.oc xs).length = xs.length * 4 := rows_length Pack.ty.ocn xs
theorem Pack.csl (xs : List Pack) : (rows Pack.ty.cs xs).length = xs.length * 4 := rows_length Pack.ty.csn xs
theorem Pack.frL (xs : List Pack) : idfree.idfreeL (rows Pack.ty.oc xs) = true := Pack.ty.frL xs
theorem Pack.roc8 {h : Hp} {b : Nat} {xs : List Pack} {lim : Bool} (hb : h b = some (some (rows Pack.ty.oc xs))) : roc h 8 (.sl b 0 xs.length 4 lim) = some (.ro (rows Pack.ty.cs xs) xs.length) := Pack.ty.roc8 (by decide) hb
theorem Pack.roc7 {h : Hp} {b : Nat} {xs : List Pack} {lim : Bool} (hb : h b = some (some (rows Pack.ty.oc xs))) : roc h 7 (.sl b 0 xs.length 4 lim) = some (.ro (rows Pack.ty.cs xs) xs.length) := Pack.ty.roc7 (by decide) hb
structure Env where
  name : ByteArray
  val : ByteArray
def Env.ty : Ty Env := Ty.struct (Ty.str.cons (Ty.str.cons Ty.nil)) (fun x => (x.name, x.val, ())) (fun p => ⟨p.1, p.2.1⟩) (fun _ => rfl) 32
theorem Env.cse (x : Env) : Env.ty.cs x = [.sc (.string x.name), .sc (.string x.val)] := rfl
theorem Env.oce (x : Env) : Env.ty.oc x = [.sc (.string x.name), .sc (.string x.val)] := rfl
theorem Env.wte (x : Env) : Env.ty.wt x = x.name.size + (x.val.size + 0) := rfl
theorem Env.ocl (xs : List Env) : (rows Env.ty.oc xs).length = xs.length * 2 := rows_length Env.ty.ocn xs
theorem Env.csl (xs : List Env) : (rows Env.ty.cs xs).length = xs.length * 2 := rows_length Env.ty.csn xs
theorem Env.frL (xs : List Env) : idfree.idfreeL (rows Env.ty.oc xs) = true := Env.ty.frL xs
theorem Env.roc8 {h : Hp} {b : Nat} {xs : List Env} {lim : Bool} (hb : h b = some (some (rows Env.ty.oc xs))) : roc h 8 (.sl b 0 xs.length 2 lim) = some (.ro (rows Env.ty.cs xs) xs.length) := Env.ty.roc8 (by decide) hb
theorem Env.roc7 {h : Hp} {b : Nat} {xs : List Env} {lim : Bool} (hb : h b = some (some (rows Env.ty.oc xs))) : roc h 7 (.sl b 0 xs.length 2 lim) = some (.ro (rows Env.ty.cs xs) xs.length) := Env.ty.roc7 (by decide) hb
structure Rule where
  task : ByteArray
  on : List ByteArray
  ins : List ByteArray
  envs : List ByteArray
  keep : Bool
def Rule.ty : Ty Rule := Ty.struct (Ty.str.cons (Ty.str.slice.cons (Ty.str.slice.cons (Ty.str.slice.cons (Ty.bool.cons Ty.nil))))) (fun x => (x.task, x.on, x.ins, x.envs, x.keep, ())) (fun p => ⟨p.1, p.2.1, p.2.2.1, p.2.2.2.1, p.2.2.2.2.1⟩) (fun _ => rfl) 96
theorem Rule.cse (x : Rule) : Rule.ty.cs x = [.sc (.string x.task), .ro (rows Ty.str.cs x.on) x.on.length, .ro (rows Ty.str.cs x.ins) x.ins.length, .ro (rows Ty.str.cs x.envs) x.envs.length, .sc (.bool x.keep)] := rfl
theorem Rule.oce (x : Rule) : Rule.ty.oc x = [.sc (.string x.task), .own (rows Ty.str.oc x.on) x.on.length 1, .own (rows Ty.str.oc x.ins) x.ins.length 1, .own (rows Ty.str.oc x.envs) x.envs.length 1, .sc (.bool x.keep)] := rfl
theorem Rule.wte (x : Rule) : Rule.ty.wt x = x.task.size + ((x.on.length + wtL Ty.str.wt x.on) + ((x.ins.length + wtL Ty.str.wt x.ins) + ((x.envs.length + wtL Ty.str.wt x.envs) + (0 + 0)))) := rfl
theorem Rule.ocl (xs : List Rule) : (rows Rule.ty.oc xs).length = xs.length * 5 := rows_length Rule.ty.ocn xs
theorem Rule.csl (xs : List Rule) : (rows Rule.ty.cs xs).length = xs.length * 5 := rows_length Rule.ty.csn xs
theorem Rule.frL (xs : List Rule) : idfree.idfreeL (rows Rule.ty.oc xs) = true := Rule.ty.frL xs
theorem Rule.roc8 {h : Hp} {b : Nat} {xs : List Rule} {lim : Bool} (hb : h b = some (some (rows Rule.ty.oc xs))) : roc h 8 (.sl b 0 xs.length 5 lim) = some (.ro (rows Rule.ty.cs xs) xs.length) := Rule.ty.roc8 (by decide) hb
theorem Rule.roc7 {h : Hp} {b : Nat} {xs : List Rule} {lim : Bool} (hb : h b = some (some (rows Rule.ty.oc xs))) : roc h 7 (.sl b 0 xs.length 5 lim) = some (.ro (rows Rule.ty.cs xs) xs.length) := Rule.ty.roc7 (by decide) hb
structure World where
  packs : List Pack
  rules : List Rule
  files : List File
  envs : List Env
def World.ty : Ty World := Ty.struct (Pack.ty.slice.cons (Rule.ty.slice.cons (File.ty.slice.cons (Env.ty.slice.cons Ty.nil)))) (fun x => (x.packs, x.rules, x.files, x.envs, ())) (fun p => ⟨p.1, p.2.1, p.2.2.1, p.2.2.2.1⟩) (fun _ => rfl) 96
theorem World.cse (x : World) : World.ty.cs x = [.ro (rows Pack.ty.cs x.packs) x.packs.length, .ro (rows Rule.ty.cs x.rules) x.rules.length, .ro (rows File.ty.cs x.files) x.files.length, .ro (rows Env.ty.cs x.envs) x.envs.length] := rfl
theorem World.oce (x : World) : World.ty.oc x = [.own (rows Pack.ty.oc x.packs) x.packs.length 4, .own (rows Rule.ty.oc x.rules) x.rules.length 5, .own (rows File.ty.oc x.files) x.files.length 2, .own (rows Env.ty.oc x.envs) x.envs.length 2] := rfl
theorem World.wte (x : World) : World.ty.wt x = (x.packs.length + wtL Pack.ty.wt x.packs) + ((x.rules.length + wtL Rule.ty.wt x.rules) + ((x.files.length + wtL File.ty.wt x.files) + ((x.envs.length + wtL Env.ty.wt x.envs) + 0))) := rfl
theorem World.ocl (xs : List World) : (rows World.ty.oc xs).length = xs.length * 4 := rows_length World.ty.ocn xs
theorem World.csl (xs : List World) : (rows World.ty.cs xs).length = xs.length * 4 := rows_length World.ty.csn xs
theorem World.frL (xs : List World) : idfree.idfreeL (rows World.ty.oc xs) = true := World.ty.frL xs
theorem World.roc8 {h : Hp} {b : Nat} {xs : List World} {lim : Bool} (hb : h b = some (some (rows World.ty.oc xs))) : roc h 8 (.sl b 0 xs.length 4 lim) = some (.ro (rows World.ty.cs xs) xs.length) := World.ty.roc8 (by decide) hb
theorem World.roc7 {h : Hp} {b : Nat} {xs : List World} {lim : Bool} (hb : h b = some (some (rows World.ty.oc xs))) : roc h 7 (.sl b 0 xs.length 4 lim) = some (.ro (rows World.ty.cs xs) xs.length) := World.ty.roc7 (by decide) hb
structure Plan where
  tasks : List ByteArray
  deps : List (List ByteArray)
def Plan.ty : Ty Plan := Ty.struct (Ty.str.slice.cons (Ty.str.slice.slice.cons Ty.nil)) (fun x => (x.tasks, x.deps, ())) (fun p => ⟨p.1, p.2.1⟩) (fun _ => rfl) 48
theorem Plan.cse (x : Plan) : Plan.ty.cs x = [.ro (rows Ty.str.cs x.tasks) x.tasks.length, .ro (rows Ty.str.slice.cs x.deps) x.deps.length] := rfl
theorem Plan.oce (x : Plan) : Plan.ty.oc x = [.own (rows Ty.str.oc x.tasks) x.tasks.length 1, .own (rows Ty.str.slice.oc x.deps) x.deps.length 1] := rfl
theorem Plan.wte (x : Plan) : Plan.ty.wt x = (x.tasks.length + wtL Ty.str.wt x.tasks) + ((x.deps.length + wtL Ty.str.slice.wt x.deps) + 0) := rfl
theorem Plan.ocl (xs : List Plan) : (rows Plan.ty.oc xs).length = xs.length * 2 := rows_length Plan.ty.ocn xs
theorem Plan.csl (xs : List Plan) : (rows Plan.ty.cs xs).length = xs.length * 2 := rows_length Plan.ty.csn xs
theorem Plan.frL (xs : List Plan) : idfree.idfreeL (rows Plan.ty.oc xs) = true := Plan.ty.frL xs
theorem Plan.roc8 {h : Hp} {b : Nat} {xs : List Plan} {lim : Bool} (hb : h b = some (some (rows Plan.ty.oc xs))) : roc h 8 (.sl b 0 xs.length 2 lim) = some (.ro (rows Plan.ty.cs xs) xs.length) := Plan.ty.roc8 (by decide) hb
theorem Plan.roc7 {h : Hp} {b : Nat} {xs : List Plan} {lim : Bool} (hb : h b = some (some (rows Plan.ty.oc xs))) : roc h 7 (.sl b 0 xs.length 2 lim) = some (.ro (rows Plan.ty.cs xs) xs.length) := Plan.ty.roc7 (by decide) hb
structure Made where
  task : ByteArray
  outs : List File
  log : ByteArray
def Made.ty : Ty Made := Ty.struct (Ty.str.cons (File.ty.slice.cons (Ty.str.cons Ty.nil))) (fun x => (x.task, x.outs, x.log, ())) (fun p => ⟨p.1, p.2.1, p.2.2.1⟩) (fun _ => rfl) 56
theorem Made.cse (x : Made) : Made.ty.cs x = [.sc (.string x.task), .ro (rows File.ty.cs x.outs) x.outs.length, .sc (.string x.log)] := rfl
theorem Made.oce (x : Made) : Made.ty.oc x = [.sc (.string x.task), .own (rows File.ty.oc x.outs) x.outs.length 2, .sc (.string x.log)] := rfl
theorem Made.wte (x : Made) : Made.ty.wt x = x.task.size + ((x.outs.length + wtL File.ty.wt x.outs) + (x.log.size + 0)) := rfl
theorem Made.ocl (xs : List Made) : (rows Made.ty.oc xs).length = xs.length * 3 := rows_length Made.ty.ocn xs
theorem Made.csl (xs : List Made) : (rows Made.ty.cs xs).length = xs.length * 3 := rows_length Made.ty.csn xs
theorem Made.frL (xs : List Made) : idfree.idfreeL (rows Made.ty.oc xs) = true := Made.ty.frL xs
theorem Made.roc8 {h : Hp} {b : Nat} {xs : List Made} {lim : Bool} (hb : h b = some (some (rows Made.ty.oc xs))) : roc h 8 (.sl b 0 xs.length 3 lim) = some (.ro (rows Made.ty.cs xs) xs.length) := Made.ty.roc8 (by decide) hb
theorem Made.roc7 {h : Hp} {b : Nat} {xs : List Made} {lim : Bool} (hb : h b = some (some (rows Made.ty.oc xs))) : roc h 7 (.sl b 0 xs.length 3 lim) = some (.ro (rows Made.ty.cs xs) xs.length) := Made.ty.roc7 (by decide) hb
structure Mark where
  task : ByteArray
  how : Int
def Mark.ty : Ty Mark := Ty.struct (Ty.str.cons (Ty.int.cons Ty.nil)) (fun x => (x.task, x.how, ())) (fun p => ⟨p.1, p.2.1⟩) (fun _ => rfl) 24
theorem Mark.cse (x : Mark) : Mark.ty.cs x = [.sc (.string x.task), .sc (.int .i64 x.how)] := rfl
theorem Mark.oce (x : Mark) : Mark.ty.oc x = [.sc (.string x.task), .sc (.int .i64 x.how)] := rfl
theorem Mark.wte (x : Mark) : Mark.ty.wt x = x.task.size + (0 + 0) := rfl
theorem Mark.ocl (xs : List Mark) : (rows Mark.ty.oc xs).length = xs.length * 2 := rows_length Mark.ty.ocn xs
theorem Mark.csl (xs : List Mark) : (rows Mark.ty.cs xs).length = xs.length * 2 := rows_length Mark.ty.csn xs
theorem Mark.frL (xs : List Mark) : idfree.idfreeL (rows Mark.ty.oc xs) = true := Mark.ty.frL xs
theorem Mark.roc8 {h : Hp} {b : Nat} {xs : List Mark} {lim : Bool} (hb : h b = some (some (rows Mark.ty.oc xs))) : roc h 8 (.sl b 0 xs.length 2 lim) = some (.ro (rows Mark.ty.cs xs) xs.length) := Mark.ty.roc8 (by decide) hb
theorem Mark.roc7 {h : Hp} {b : Nat} {xs : List Mark} {lim : Bool} (hb : h b = some (some (rows Mark.ty.oc xs))) : roc h 7 (.sl b 0 xs.length 2 lim) = some (.ro (rows Mark.ty.cs xs) xs.length) := Mark.ty.roc7 (by decide) hb
structure Slot where
  key : List Int
  b : List Int
def Slot.ty : Ty Slot := Ty.struct (Ty.byte.slice.cons (Ty.byte.slice.cons Ty.nil)) (fun x => (x.key, x.b, ())) (fun p => ⟨p.1, p.2.1⟩) (fun _ => rfl) 48
theorem Slot.cse (x : Slot) : Slot.ty.cs x = [.ro (rows Ty.byte.cs x.key) x.key.length, .ro (rows Ty.byte.cs x.b) x.b.length] := rfl
theorem Slot.oce (x : Slot) : Slot.ty.oc x = [.own (rows Ty.byte.oc x.key) x.key.length 1, .own (rows Ty.byte.oc x.b) x.b.length 1] := rfl
theorem Slot.wte (x : Slot) : Slot.ty.wt x = (x.key.length + wtL Ty.byte.wt x.key) + ((x.b.length + wtL Ty.byte.wt x.b) + 0) := rfl
theorem Slot.ocl (xs : List Slot) : (rows Slot.ty.oc xs).length = xs.length * 2 := rows_length Slot.ty.ocn xs
theorem Slot.csl (xs : List Slot) : (rows Slot.ty.cs xs).length = xs.length * 2 := rows_length Slot.ty.csn xs
theorem Slot.frL (xs : List Slot) : idfree.idfreeL (rows Slot.ty.oc xs) = true := Slot.ty.frL xs
theorem Slot.roc8 {h : Hp} {b : Nat} {xs : List Slot} {lim : Bool} (hb : h b = some (some (rows Slot.ty.oc xs))) : roc h 8 (.sl b 0 xs.length 2 lim) = some (.ro (rows Slot.ty.cs xs) xs.length) := Slot.ty.roc8 (by decide) hb
theorem Slot.roc7 {h : Hp} {b : Nat} {xs : List Slot} {lim : Bool} (hb : h b = some (some (rows Slot.ty.oc xs))) : roc h 7 (.sl b 0 xs.length 2 lim) = some (.ro (rows Slot.ty.cs xs) xs.length) := Slot.ty.roc7 (by decide) hb
structure Run where
  w : World
  p : Plan
  slots : Int
  goOn : Bool
  made : List Made
  marks : List Mark
  going : List ByteArray
  cache : List Slot
def Run.ty : Ty Run := Ty.struct (World.ty.cons (Plan.ty.cons (Ty.int.cons (Ty.bool.cons (Made.ty.slice.cons (Mark.ty.slice.cons (Ty.str.slice.cons (Slot.ty.slice.cons Ty.nil)))))))) (fun x => (x.w, x.p, x.slots, x.goOn, x.made, x.marks, x.going, x.cache, ())) (fun p => ⟨p.1, p.2.1, p.2.2.1, p.2.2.2.1, p.2.2.2.2.1, p.2.2.2.2.2.1, p.2.2.2.2.2.2.1, p.2.2.2.2.2.2.2.1⟩) (fun _ => rfl) 256
theorem Run.cse (x : Run) : Run.ty.cs x = [.ro (rows Pack.ty.cs x.w.packs) x.w.packs.length, .ro (rows Rule.ty.cs x.w.rules) x.w.rules.length, .ro (rows File.ty.cs x.w.files) x.w.files.length, .ro (rows Env.ty.cs x.w.envs) x.w.envs.length, .ro (rows Ty.str.cs x.p.tasks) x.p.tasks.length, .ro (rows Ty.str.slice.cs x.p.deps) x.p.deps.length, .sc (.int .i64 x.slots), .sc (.bool x.goOn), .ro (rows Made.ty.cs x.made) x.made.length, .ro (rows Mark.ty.cs x.marks) x.marks.length, .ro (rows Ty.str.cs x.going) x.going.length, .ro (rows Slot.ty.cs x.cache) x.cache.length] := rfl
theorem Run.oce (x : Run) : Run.ty.oc x = [.own (rows Pack.ty.oc x.w.packs) x.w.packs.length 4, .own (rows Rule.ty.oc x.w.rules) x.w.rules.length 5, .own (rows File.ty.oc x.w.files) x.w.files.length 2, .own (rows Env.ty.oc x.w.envs) x.w.envs.length 2, .own (rows Ty.str.oc x.p.tasks) x.p.tasks.length 1, .own (rows Ty.str.slice.oc x.p.deps) x.p.deps.length 1, .sc (.int .i64 x.slots), .sc (.bool x.goOn), .own (rows Made.ty.oc x.made) x.made.length 3, .own (rows Mark.ty.oc x.marks) x.marks.length 2, .own (rows Ty.str.oc x.going) x.going.length 1, .own (rows Slot.ty.oc x.cache) x.cache.length 2] := rfl
theorem Run.wte (x : Run) : Run.ty.wt x = World.ty.wt x.w + (Plan.ty.wt x.p + (0 + (0 + ((x.made.length + wtL Made.ty.wt x.made) + ((x.marks.length + wtL Mark.ty.wt x.marks) + ((x.going.length + wtL Ty.str.wt x.going) + ((x.cache.length + wtL Slot.ty.wt x.cache) + 0))))))) := rfl
theorem Run.ocl (xs : List Run) : (rows Run.ty.oc xs).length = xs.length * 12 := rows_length Run.ty.ocn xs
theorem Run.csl (xs : List Run) : (rows Run.ty.cs xs).length = xs.length * 12 := rows_length Run.ty.csn xs
theorem Run.frL (xs : List Run) : idfree.idfreeL (rows Run.ty.oc xs) = true := Run.ty.frL xs
theorem Run.roc8 {h : Hp} {b : Nat} {xs : List Run} {lim : Bool} (hb : h b = some (some (rows Run.ty.oc xs))) : roc h 8 (.sl b 0 xs.length 12 lim) = some (.ro (rows Run.ty.cs xs) xs.length) := Run.ty.roc8 (by decide) hb
theorem Run.roc7 {h : Hp} {b : Nat} {xs : List Run} {lim : Bool} (hb : h b = some (some (rows Run.ty.oc xs))) : roc h 7 (.sl b 0 xs.length 12 lim) = some (.ro (rows Run.ty.cs xs) xs.length) := Run.ty.roc7 (by decide) hb
structure Job where
  name : ByteArray
  acts : List ByteArray
  ins : List File
  envs : List Env
  deps : List Made
def Job.ty : Ty Job := Ty.struct (Ty.str.cons (Ty.str.slice.cons (File.ty.slice.cons (Env.ty.slice.cons (Made.ty.slice.cons Ty.nil))))) (fun x => (x.name, x.acts, x.ins, x.envs, x.deps, ())) (fun p => ⟨p.1, p.2.1, p.2.2.1, p.2.2.2.1, p.2.2.2.2.1⟩) (fun _ => rfl) 112
theorem Job.cse (x : Job) : Job.ty.cs x = [.sc (.string x.name), .ro (rows Ty.str.cs x.acts) x.acts.length, .ro (rows File.ty.cs x.ins) x.ins.length, .ro (rows Env.ty.cs x.envs) x.envs.length, .ro (rows Made.ty.cs x.deps) x.deps.length] := rfl
theorem Job.oce (x : Job) : Job.ty.oc x = [.sc (.string x.name), .own (rows Ty.str.oc x.acts) x.acts.length 1, .own (rows File.ty.oc x.ins) x.ins.length 2, .own (rows Env.ty.oc x.envs) x.envs.length 2, .own (rows Made.ty.oc x.deps) x.deps.length 3] := rfl
theorem Job.wte (x : Job) : Job.ty.wt x = x.name.size + ((x.acts.length + wtL Ty.str.wt x.acts) + ((x.ins.length + wtL File.ty.wt x.ins) + ((x.envs.length + wtL Env.ty.wt x.envs) + ((x.deps.length + wtL Made.ty.wt x.deps) + 0)))) := rfl
theorem Job.ocl (xs : List Job) : (rows Job.ty.oc xs).length = xs.length * 5 := rows_length Job.ty.ocn xs
theorem Job.csl (xs : List Job) : (rows Job.ty.cs xs).length = xs.length * 5 := rows_length Job.ty.csn xs
theorem Job.frL (xs : List Job) : idfree.idfreeL (rows Job.ty.oc xs) = true := Job.ty.frL xs
theorem Job.roc8 {h : Hp} {b : Nat} {xs : List Job} {lim : Bool} (hb : h b = some (some (rows Job.ty.oc xs))) : roc h 8 (.sl b 0 xs.length 5 lim) = some (.ro (rows Job.ty.cs xs) xs.length) := Job.ty.roc8 (by decide) hb
theorem Job.roc7 {h : Hp} {b : Nat} {xs : List Job} {lim : Bool} (hb : h b = some (some (rows Job.ty.oc xs))) : roc h 7 (.sl b 0 xs.length 5 lim) = some (.ro (rows Job.ty.cs xs) xs.length) := Job.ty.roc7 (by decide) hb
structure Doc where
  name : ByteArray
  text : ByteArray
def Doc.ty : Ty Doc := Ty.struct (Ty.str.cons (Ty.str.cons Ty.nil)) (fun x => (x.name, x.text, ())) (fun p => ⟨p.1, p.2.1⟩) (fun _ => rfl) 32
theorem Doc.cse (x : Doc) : Doc.ty.cs x = [.sc (.string x.name), .sc (.string x.text)] := rfl
theorem Doc.oce (x : Doc) : Doc.ty.oc x = [.sc (.string x.name), .sc (.string x.text)] := rfl
theorem Doc.wte (x : Doc) : Doc.ty.wt x = x.name.size + (x.text.size + 0) := rfl
theorem Doc.ocl (xs : List Doc) : (rows Doc.ty.oc xs).length = xs.length * 2 := rows_length Doc.ty.ocn xs
theorem Doc.csl (xs : List Doc) : (rows Doc.ty.cs xs).length = xs.length * 2 := rows_length Doc.ty.csn xs
theorem Doc.frL (xs : List Doc) : idfree.idfreeL (rows Doc.ty.oc xs) = true := Doc.ty.frL xs
theorem Doc.roc8 {h : Hp} {b : Nat} {xs : List Doc} {lim : Bool} (hb : h b = some (some (rows Doc.ty.oc xs))) : roc h 8 (.sl b 0 xs.length 2 lim) = some (.ro (rows Doc.ty.cs xs) xs.length) := Doc.ty.roc8 (by decide) hb
theorem Doc.roc7 {h : Hp} {b : Nat} {xs : List Doc} {lim : Bool} (hb : h b = some (some (rows Doc.ty.oc xs))) : roc h 7 (.sl b 0 xs.length 2 lim) = some (.ro (rows Doc.ty.cs xs) xs.length) := Doc.ty.roc7 (by decide) hb
structure Op where
  kind : Int
  a : ByteArray
  b : ByteArray
def Op.ty : Ty Op := Ty.struct (Ty.int.cons (Ty.str.cons (Ty.str.cons Ty.nil))) (fun x => (x.kind, x.a, x.b, ())) (fun p => ⟨p.1, p.2.1, p.2.2.1⟩) (fun _ => rfl) 40
theorem Op.cse (x : Op) : Op.ty.cs x = [.sc (.int .i64 x.kind), .sc (.string x.a), .sc (.string x.b)] := rfl
theorem Op.oce (x : Op) : Op.ty.oc x = [.sc (.int .i64 x.kind), .sc (.string x.a), .sc (.string x.b)] := rfl
theorem Op.wte (x : Op) : Op.ty.wt x = 0 + (x.a.size + (x.b.size + 0)) := rfl
theorem Op.ocl (xs : List Op) : (rows Op.ty.oc xs).length = xs.length * 3 := rows_length Op.ty.ocn xs
theorem Op.csl (xs : List Op) : (rows Op.ty.cs xs).length = xs.length * 3 := rows_length Op.ty.csn xs
theorem Op.frL (xs : List Op) : idfree.idfreeL (rows Op.ty.oc xs) = true := Op.ty.frL xs
theorem Op.roc8 {h : Hp} {b : Nat} {xs : List Op} {lim : Bool} (hb : h b = some (some (rows Op.ty.oc xs))) : roc h 8 (.sl b 0 xs.length 3 lim) = some (.ro (rows Op.ty.cs xs) xs.length) := Op.ty.roc8 (by decide) hb
theorem Op.roc7 {h : Hp} {b : Nat} {xs : List Op} {lim : Bool} (hb : h b = some (some (rows Op.ty.oc xs))) : roc h 7 (.sl b 0 xs.length 3 lim) = some (.ro (rows Op.ty.cs xs) xs.length) := Op.ty.roc7 (by decide) hb
structure Disk where
  sure : List Doc
  pend : List Op
def Disk.ty : Ty Disk := Ty.struct (Doc.ty.slice.cons (Op.ty.slice.cons Ty.nil)) (fun x => (x.sure, x.pend, ())) (fun p => ⟨p.1, p.2.1⟩) (fun _ => rfl) 48
theorem Disk.cse (x : Disk) : Disk.ty.cs x = [.ro (rows Doc.ty.cs x.sure) x.sure.length, .ro (rows Op.ty.cs x.pend) x.pend.length] := rfl
theorem Disk.oce (x : Disk) : Disk.ty.oc x = [.own (rows Doc.ty.oc x.sure) x.sure.length 2, .own (rows Op.ty.oc x.pend) x.pend.length 3] := rfl
theorem Disk.wte (x : Disk) : Disk.ty.wt x = (x.sure.length + wtL Doc.ty.wt x.sure) + ((x.pend.length + wtL Op.ty.wt x.pend) + 0) := rfl
theorem Disk.ocl (xs : List Disk) : (rows Disk.ty.oc xs).length = xs.length * 2 := rows_length Disk.ty.ocn xs
theorem Disk.csl (xs : List Disk) : (rows Disk.ty.cs xs).length = xs.length * 2 := rows_length Disk.ty.csn xs
theorem Disk.frL (xs : List Disk) : idfree.idfreeL (rows Disk.ty.oc xs) = true := Disk.ty.frL xs
theorem Disk.roc8 {h : Hp} {b : Nat} {xs : List Disk} {lim : Bool} (hb : h b = some (some (rows Disk.ty.oc xs))) : roc h 8 (.sl b 0 xs.length 2 lim) = some (.ro (rows Disk.ty.cs xs) xs.length) := Disk.ty.roc8 (by decide) hb
theorem Disk.roc7 {h : Hp} {b : Nat} {xs : List Disk} {lim : Bool} (hb : h b = some (some (rows Disk.ty.oc xs))) : roc h 7 (.sl b 0 xs.length 2 lim) = some (.ro (rows Disk.ty.cs xs) xs.length) := Disk.ty.roc7 (by decide) hb
structure Ver where
  a : Int
  b : Int
  c : Int
  pre : List ByteArray
def Ver.ty : Ty Ver := Ty.struct (Ty.int.cons (Ty.int.cons (Ty.int.cons (Ty.str.slice.cons Ty.nil)))) (fun x => (x.a, x.b, x.c, x.pre, ())) (fun p => ⟨p.1, p.2.1, p.2.2.1, p.2.2.2.1⟩) (fun _ => rfl) 48
theorem Ver.cse (x : Ver) : Ver.ty.cs x = [.sc (.int .i64 x.a), .sc (.int .i64 x.b), .sc (.int .i64 x.c), .ro (rows Ty.str.cs x.pre) x.pre.length] := rfl
theorem Ver.oce (x : Ver) : Ver.ty.oc x = [.sc (.int .i64 x.a), .sc (.int .i64 x.b), .sc (.int .i64 x.c), .own (rows Ty.str.oc x.pre) x.pre.length 1] := rfl
theorem Ver.wte (x : Ver) : Ver.ty.wt x = 0 + (0 + (0 + ((x.pre.length + wtL Ty.str.wt x.pre) + 0))) := rfl
theorem Ver.ocl (xs : List Ver) : (rows Ver.ty.oc xs).length = xs.length * 4 := rows_length Ver.ty.ocn xs
theorem Ver.csl (xs : List Ver) : (rows Ver.ty.cs xs).length = xs.length * 4 := rows_length Ver.ty.csn xs
theorem Ver.frL (xs : List Ver) : idfree.idfreeL (rows Ver.ty.oc xs) = true := Ver.ty.frL xs
theorem Ver.roc8 {h : Hp} {b : Nat} {xs : List Ver} {lim : Bool} (hb : h b = some (some (rows Ver.ty.oc xs))) : roc h 8 (.sl b 0 xs.length 4 lim) = some (.ro (rows Ver.ty.cs xs) xs.length) := Ver.ty.roc8 (by decide) hb
theorem Ver.roc7 {h : Hp} {b : Nat} {xs : List Ver} {lim : Bool} (hb : h b = some (some (rows Ver.ty.oc xs))) : roc h 7 (.sl b 0 xs.length 4 lim) = some (.ro (rows Ver.ty.cs xs) xs.length) := Ver.ty.roc7 (by decide) hb
structure Cmp where
  op : Int
  v : Ver
def Cmp.ty : Ty Cmp := Ty.struct (Ty.int.cons (Ver.ty.cons Ty.nil)) (fun x => (x.op, x.v, ())) (fun p => ⟨p.1, p.2.1⟩) (fun _ => rfl) 56
theorem Cmp.cse (x : Cmp) : Cmp.ty.cs x = [.sc (.int .i64 x.op), .sc (.int .i64 x.v.a), .sc (.int .i64 x.v.b), .sc (.int .i64 x.v.c), .ro (rows Ty.str.cs x.v.pre) x.v.pre.length] := rfl
theorem Cmp.oce (x : Cmp) : Cmp.ty.oc x = [.sc (.int .i64 x.op), .sc (.int .i64 x.v.a), .sc (.int .i64 x.v.b), .sc (.int .i64 x.v.c), .own (rows Ty.str.oc x.v.pre) x.v.pre.length 1] := rfl
theorem Cmp.wte (x : Cmp) : Cmp.ty.wt x = 0 + (Ver.ty.wt x.v + 0) := rfl
theorem Cmp.ocl (xs : List Cmp) : (rows Cmp.ty.oc xs).length = xs.length * 5 := rows_length Cmp.ty.ocn xs
theorem Cmp.csl (xs : List Cmp) : (rows Cmp.ty.cs xs).length = xs.length * 5 := rows_length Cmp.ty.csn xs
theorem Cmp.frL (xs : List Cmp) : idfree.idfreeL (rows Cmp.ty.oc xs) = true := Cmp.ty.frL xs
theorem Cmp.roc8 {h : Hp} {b : Nat} {xs : List Cmp} {lim : Bool} (hb : h b = some (some (rows Cmp.ty.oc xs))) : roc h 8 (.sl b 0 xs.length 5 lim) = some (.ro (rows Cmp.ty.cs xs) xs.length) := Cmp.ty.roc8 (by decide) hb
theorem Cmp.roc7 {h : Hp} {b : Nat} {xs : List Cmp} {lim : Bool} (hb : h b = some (some (rows Cmp.ty.oc xs))) : roc h 7 (.sl b 0 xs.length 5 lim) = some (.ro (rows Cmp.ty.cs xs) xs.length) := Cmp.ty.roc7 (by decide) hb
structure Entry where
  name : ByteArray
  v : Ver
  needs : List Need
def Entry.ty : Ty Entry := Ty.struct (Ty.str.cons (Ver.ty.cons (Need.ty.slice.cons Ty.nil))) (fun x => (x.name, x.v, x.needs, ())) (fun p => ⟨p.1, p.2.1, p.2.2.1⟩) (fun _ => rfl) 88
theorem Entry.cse (x : Entry) : Entry.ty.cs x = [.sc (.string x.name), .sc (.int .i64 x.v.a), .sc (.int .i64 x.v.b), .sc (.int .i64 x.v.c), .ro (rows Ty.str.cs x.v.pre) x.v.pre.length, .ro (rows Need.ty.cs x.needs) x.needs.length] := rfl
theorem Entry.oce (x : Entry) : Entry.ty.oc x = [.sc (.string x.name), .sc (.int .i64 x.v.a), .sc (.int .i64 x.v.b), .sc (.int .i64 x.v.c), .own (rows Ty.str.oc x.v.pre) x.v.pre.length 1, .own (rows Need.ty.oc x.needs) x.needs.length 2] := rfl
theorem Entry.wte (x : Entry) : Entry.ty.wt x = x.name.size + (Ver.ty.wt x.v + ((x.needs.length + wtL Need.ty.wt x.needs) + 0)) := rfl
theorem Entry.ocl (xs : List Entry) : (rows Entry.ty.oc xs).length = xs.length * 6 := rows_length Entry.ty.ocn xs
theorem Entry.csl (xs : List Entry) : (rows Entry.ty.cs xs).length = xs.length * 6 := rows_length Entry.ty.csn xs
theorem Entry.frL (xs : List Entry) : idfree.idfreeL (rows Entry.ty.oc xs) = true := Entry.ty.frL xs
theorem Entry.roc8 {h : Hp} {b : Nat} {xs : List Entry} {lim : Bool} (hb : h b = some (some (rows Entry.ty.oc xs))) : roc h 8 (.sl b 0 xs.length 6 lim) = some (.ro (rows Entry.ty.cs xs) xs.length) := Entry.ty.roc8 (by decide) hb
theorem Entry.roc7 {h : Hp} {b : Nat} {xs : List Entry} {lim : Bool} (hb : h b = some (some (rows Entry.ty.oc xs))) : roc h 7 (.sl b 0 xs.length 6 lim) = some (.ro (rows Entry.ty.cs xs) xs.length) := Entry.ty.roc7 (by decide) hb
structure Pick where
  name : ByteArray
  v : Ver
def Pick.ty : Ty Pick := Ty.struct (Ty.str.cons (Ver.ty.cons Ty.nil)) (fun x => (x.name, x.v, ())) (fun p => ⟨p.1, p.2.1⟩) (fun _ => rfl) 64
theorem Pick.cse (x : Pick) : Pick.ty.cs x = [.sc (.string x.name), .sc (.int .i64 x.v.a), .sc (.int .i64 x.v.b), .sc (.int .i64 x.v.c), .ro (rows Ty.str.cs x.v.pre) x.v.pre.length] := rfl
theorem Pick.oce (x : Pick) : Pick.ty.oc x = [.sc (.string x.name), .sc (.int .i64 x.v.a), .sc (.int .i64 x.v.b), .sc (.int .i64 x.v.c), .own (rows Ty.str.oc x.v.pre) x.v.pre.length 1] := rfl
theorem Pick.wte (x : Pick) : Pick.ty.wt x = x.name.size + (Ver.ty.wt x.v + 0) := rfl
theorem Pick.ocl (xs : List Pick) : (rows Pick.ty.oc xs).length = xs.length * 5 := rows_length Pick.ty.ocn xs
theorem Pick.csl (xs : List Pick) : (rows Pick.ty.cs xs).length = xs.length * 5 := rows_length Pick.ty.csn xs
theorem Pick.frL (xs : List Pick) : idfree.idfreeL (rows Pick.ty.oc xs) = true := Pick.ty.frL xs
theorem Pick.roc8 {h : Hp} {b : Nat} {xs : List Pick} {lim : Bool} (hb : h b = some (some (rows Pick.ty.oc xs))) : roc h 8 (.sl b 0 xs.length 5 lim) = some (.ro (rows Pick.ty.cs xs) xs.length) := Pick.ty.roc8 (by decide) hb
theorem Pick.roc7 {h : Hp} {b : Nat} {xs : List Pick} {lim : Bool} (hb : h b = some (some (rows Pick.ty.oc xs))) : roc h 7 (.sl b 0 xs.length 5 lim) = some (.ro (rows Pick.ty.cs xs) xs.length) := Pick.ty.roc7 (by decide) hb
theorem strDrop (pre rest : List ByteArray) (x : ByteArray) : List.drop pre.length (rows Ty.str.cs (pre ++ x :: rest)) = .sc (.string x) :: rows Ty.str.cs rest := by
  have h := rows_drop Ty.str.csn pre (x :: rest)
  have h : List.drop (pre.length * 1) (rows Ty.str.cs (pre ++ x :: rest)) = rows Ty.str.cs (x :: rest) := h
  rw [Nat.mul_one] at h
  rw [h, rows_cons]; rfl
end Go.Proofs.YtaknfalbmblagaaDoor.Am
