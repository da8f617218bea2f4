/- The small machine and the contracts of the functions, part 1 (Base, Types, Plumb, Job, Sames, Words, Paths, Files, Draw, DrawMarks, Num, DrawMades, Cut, Tasks, Texts, Itoa, Parse, Nums, Puts, Cache, Reader, GetMade, GetMadeS, MadeLaw, KeyLaw); no condition. -/
import Derived.Test.YtepjkkaemlpmgaaDoorProg
import Derived.Test.YtepjkkaemlpmgaaDoorAmZ
import Derived.Test.YtepjkkaemlpmgaaDoorAmP
import Derived.KernelRfl
import Derived.Test.YtepjkkaemlpmgaaDoorAmM
import Derived.Test.YtepjkkaemlpmgaaDoorAmL
import Derived.Test.YtepjkkaemlpmgaaDoorAmD
import Derived.Test.YtepjkkaemlpmgaaDoorAmK
namespace Go.Proofs.YtepjkkaemlpmgaaDoor.Am
open Go Go.Proofs
set_option linter.unusedSimpArgs false
set_option linter.unusedVariables false
attribute [local congr] T_congr callK_congr callWK_congr
attribute [local simp] run_nil run_op0 run_opg run_seq run_cond run_block run_ret run_skip run_skip_after run_skip_blk run_exit run_exit_after run_exit_blk run_loop run_any runS_nil runS_op0 runS_opg runW_nil runW_op0 runW_opg exec_q exec_w exec_c exec_n execW_q execW_w execW_c restW_app hideH_app merge_app wblk rest_app restS_app execS_q execS_c aval dOk upd_app ev_t ev_c setO_some setO_none put_mk pinsOf isIo hasIo sbin endR fin resL one outL out1 clo1 cloL coe coeL shut shut.shutL wantA weff cellsOf fillA deref natOf ρ0_app h0_app plain plain.plainL keep_app keepH_app andThen_normal andThen_ret andThen_exit pop_nil pop_after pop_after_ret pop_after_exit pop_blk pop_blk_ret pop_blk_exit nilA srcOf srcCells keepR_app keepHR_app renA rb
structure File where
  path : ByteArray
  text : ByteArray
def File.ty : Ty File := Ty.struct (Ty.str.cons (Ty.str.cons Ty.nil)) (fun x => (x.path, x.text, ())) (fun p => ⟨p.1, p.2.1⟩) (fun _ => rfl) 32
theorem File.cse (x : File) : File.ty.cs x = [.sc (.string x.path), .sc (.string x.text)] := rfl
theorem File.oce (x : File) : File.ty.oc x = [.sc (.string x.path), .sc (.string x.text)] := rfl
theorem File.ocl (xs : List File) : (rows File.ty.oc xs).length = xs.length * 2 := rows_length File.ty.ocn xs
theorem File.frL (xs : List File) : idfree.idfreeL (rows File.ty.oc xs) = true := File.ty.frL xs
theorem File.roc8 {h : Hp} {b : Nat} {xs : List File} {lim : Bool} (hb : h b = some (some (rows File.ty.oc xs))) : roc h 8 (.sl b 0 xs.length 2 lim) = some (.ro (rows File.ty.cs xs) xs.length) := File.ty.roc8 (by decide) hb
theorem File.roc7 {h : Hp} {b : Nat} {xs : List File} {lim : Bool} (hb : h b = some (some (rows File.ty.oc xs))) : roc h 7 (.sl b 0 xs.length 2 lim) = some (.ro (rows File.ty.cs xs) xs.length) := File.ty.roc7 (by decide) hb
structure Need where
  name : ByteArray
  range : ByteArray
def Need.ty : Ty Need := Ty.struct (Ty.str.cons (Ty.str.cons Ty.nil)) (fun x => (x.name, x.range, ())) (fun p => ⟨p.1, p.2.1⟩) (fun _ => rfl) 32
theorem Need.cse (x : Need) : Need.ty.cs x = [.sc (.string x.name), .sc (.string x.range)] := rfl
theorem Need.oce (x : Need) : Need.ty.oc x = [.sc (.string x.name), .sc (.string x.range)] := rfl
theorem Need.ocl (xs : List Need) : (rows Need.ty.oc xs).length = xs.length * 2 := rows_length Need.ty.ocn xs
theorem Need.frL (xs : List Need) : idfree.idfreeL (rows Need.ty.oc xs) = true := Need.ty.frL xs
theorem Need.roc8 {h : Hp} {b : Nat} {xs : List Need} {lim : Bool} (hb : h b = some (some (rows Need.ty.oc xs))) : roc h 8 (.sl b 0 xs.length 2 lim) = some (.ro (rows Need.ty.cs xs) xs.length) := Need.ty.roc8 (by decide) hb
theorem Need.roc7 {h : Hp} {b : Nat} {xs : List Need} {lim : Bool} (hb : h b = some (some (rows Need.ty.oc xs))) : roc h 7 (.sl b 0 xs.length 2 lim) = some (.ro (rows Need.ty.cs xs) xs.length) := Need.ty.roc7 (by decide) hb
structure Cmd where
  task : ByteArray
  acts : List ByteArray
def Cmd.ty : Ty Cmd := Ty.struct (Ty.str.cons (Ty.str.slice.cons Ty.nil)) (fun x => (x.task, x.acts, ())) (fun p => ⟨p.1, p.2.1⟩) (fun _ => rfl) 40
theorem Cmd.cse (x : Cmd) : Cmd.ty.cs x = [.sc (.string x.task), .ro (rows Ty.str.cs x.acts) x.acts.length] := rfl
theorem Cmd.oce (x : Cmd) : Cmd.ty.oc x = [.sc (.string x.task), .own (rows Ty.str.oc x.acts) x.acts.length 1] := rfl
theorem Cmd.ocl (xs : List Cmd) : (rows Cmd.ty.oc xs).length = xs.length * 2 := rows_length Cmd.ty.ocn xs
theorem Cmd.frL (xs : List Cmd) : idfree.idfreeL (rows Cmd.ty.oc xs) = true := Cmd.ty.frL xs
theorem Cmd.roc8 {h : Hp} {b : Nat} {xs : List Cmd} {lim : Bool} (hb : h b = some (some (rows Cmd.ty.oc xs))) : roc h 8 (.sl b 0 xs.length 2 lim) = some (.ro (rows Cmd.ty.cs xs) xs.length) := Cmd.ty.roc8 (by decide) hb
theorem Cmd.roc7 {h : Hp} {b : Nat} {xs : List Cmd} {lim : Bool} (hb : h b = some (some (rows Cmd.ty.oc xs))) : roc h 7 (.sl b 0 xs.length 2 lim) = some (.ro (rows Cmd.ty.cs xs) xs.length) := Cmd.ty.roc7 (by decide) hb
structure Pack where
  name : ByteArray
  uses : List ByteArray
  needs : List Need
  cmds : List Cmd
def Pack.ty : Ty Pack := Ty.struct (Ty.str.cons (Ty.str.slice.cons (Need.ty.slice.cons (Cmd.ty.slice.cons Ty.nil)))) (fun x => (x.name, x.uses, x.needs, x.cmds, ())) (fun p => ⟨p.1, p.2.1, p.2.2.1, p.2.2.2.1⟩) (fun _ => rfl) 88
theorem Pack.cse (x : Pack) : Pack.ty.cs x = [.sc (.string x.name), .ro (rows Ty.str.cs x.uses) x.uses.length, .ro (rows Need.ty.cs x.needs) x.needs.length, .ro (rows Cmd.ty.cs x.cmds) x.cmds.length] := rfl
theorem Pack.oce (x : Pack) : Pack.ty.oc x = [.sc (.string x.name), .own (rows Ty.str.oc x.uses) x.uses.length 1, .own (rows Need.ty.oc x.needs) x.needs.length 2, .own (rows Cmd.ty.oc x.cmds) x.cmds.length 2] := rfl
theorem Pack.ocl (xs : List Pack) : (rows Pack.ty.oc xs).length = xs.length * 4 := rows_length Pack.ty.ocn xs
theorem Pack.frL (xs : List Pack) : idfree.idfreeL (rows Pack.ty.oc xs) = true := Pack.ty.frL xs
theorem Pack.roc8 {h : Hp} {b : Nat} {xs : List Pack} {lim : Bool} (hb : h b = some (some (rows Pack.ty.oc xs))) : roc h 8 (.sl b 0 xs.length 4 lim) = some (.ro (rows Pack.ty.cs xs) xs.length) := Pack.ty.roc8 (by decide) hb
theorem Pack.roc7 {h : Hp} {b : Nat} {xs : List Pack} {lim : Bool} (hb : h b = some (some (rows Pack.ty.oc xs))) : roc h 7 (.sl b 0 xs.length 4 lim) = some (.ro (rows Pack.ty.cs xs) xs.length) := Pack.ty.roc7 (by decide) hb
structure Env where
  name : ByteArray
  val : ByteArray
def Env.ty : Ty Env := Ty.struct (Ty.str.cons (Ty.str.cons Ty.nil)) (fun x => (x.name, x.val, ())) (fun p => ⟨p.1, p.2.1⟩) (fun _ => rfl) 32
theorem Env.cse (x : Env) : Env.ty.cs x = [.sc (.string x.name), .sc (.string x.val)] := rfl
theorem Env.oce (x : Env) : Env.ty.oc x = [.sc (.string x.name), .sc (.string x.val)] := rfl
theorem Env.ocl (xs : List Env) : (rows Env.ty.oc xs).length = xs.length * 2 := rows_length Env.ty.ocn xs
theorem Env.frL (xs : List Env) : idfree.idfreeL (rows Env.ty.oc xs) = true := Env.ty.frL xs
theorem Env.roc8 {h : Hp} {b : Nat} {xs : List Env} {lim : Bool} (hb : h b = some (some (rows Env.ty.oc xs))) : roc h 8 (.sl b 0 xs.length 2 lim) = some (.ro (rows Env.ty.cs xs) xs.length) := Env.ty.roc8 (by decide) hb
theorem Env.roc7 {h : Hp} {b : Nat} {xs : List Env} {lim : Bool} (hb : h b = some (some (rows Env.ty.oc xs))) : roc h 7 (.sl b 0 xs.length 2 lim) = some (.ro (rows Env.ty.cs xs) xs.length) := Env.ty.roc7 (by decide) hb
structure Rule where
  task : ByteArray
  on : List ByteArray
  ins : List ByteArray
  envs : List ByteArray
  keep : Bool
def Rule.ty : Ty Rule := Ty.struct (Ty.str.cons (Ty.str.slice.cons (Ty.str.slice.cons (Ty.str.slice.cons (Ty.bool.cons Ty.nil))))) (fun x => (x.task, x.on, x.ins, x.envs, x.keep, ())) (fun p => ⟨p.1, p.2.1, p.2.2.1, p.2.2.2.1, p.2.2.2.2.1⟩) (fun _ => rfl) 96
theorem Rule.cse (x : Rule) : Rule.ty.cs x = [.sc (.string x.task), .ro (rows Ty.str.cs x.on) x.on.length, .ro (rows Ty.str.cs x.ins) x.ins.length, .ro (rows Ty.str.cs x.envs) x.envs.length, .sc (.bool x.keep)] := rfl
theorem Rule.oce (x : Rule) : Rule.ty.oc x = [.sc (.string x.task), .own (rows Ty.str.oc x.on) x.on.length 1, .own (rows Ty.str.oc x.ins) x.ins.length 1, .own (rows Ty.str.oc x.envs) x.envs.length 1, .sc (.bool x.keep)] := rfl
theorem Rule.ocl (xs : List Rule) : (rows Rule.ty.oc xs).length = xs.length * 5 := rows_length Rule.ty.ocn xs
theorem Rule.frL (xs : List Rule) : idfree.idfreeL (rows Rule.ty.oc xs) = true := Rule.ty.frL xs
theorem Rule.roc8 {h : Hp} {b : Nat} {xs : List Rule} {lim : Bool} (hb : h b = some (some (rows Rule.ty.oc xs))) : roc h 8 (.sl b 0 xs.length 5 lim) = some (.ro (rows Rule.ty.cs xs) xs.length) := Rule.ty.roc8 (by decide) hb
theorem Rule.roc7 {h : Hp} {b : Nat} {xs : List Rule} {lim : Bool} (hb : h b = some (some (rows Rule.ty.oc xs))) : roc h 7 (.sl b 0 xs.length 5 lim) = some (.ro (rows Rule.ty.cs xs) xs.length) := Rule.ty.roc7 (by decide) hb
structure World where
  packs : List Pack
  rules : List Rule
  files : List File
  envs : List Env
def World.ty : Ty World := Ty.struct (Pack.ty.slice.cons (Rule.ty.slice.cons (File.ty.slice.cons (Env.ty.slice.cons Ty.nil)))) (fun x => (x.packs, x.rules, x.files, x.envs, ())) (fun p => ⟨p.1, p.2.1, p.2.2.1, p.2.2.2.1⟩) (fun _ => rfl) 96
theorem World.cse (x : World) : World.ty.cs x = [.ro (rows Pack.ty.cs x.packs) x.packs.length, .ro (rows Rule.ty.cs x.rules) x.rules.length, .ro (rows File.ty.cs x.files) x.files.length, .ro (rows Env.ty.cs x.envs) x.envs.length] := rfl
theorem World.oce (x : World) : World.ty.oc x = [.own (rows Pack.ty.oc x.packs) x.packs.length 4, .own (rows Rule.ty.oc x.rules) x.rules.length 5, .own (rows File.ty.oc x.files) x.files.length 2, .own (rows Env.ty.oc x.envs) x.envs.length 2] := rfl
theorem World.ocl (xs : List World) : (rows World.ty.oc xs).length = xs.length * 4 := rows_length World.ty.ocn xs
theorem World.frL (xs : List World) : idfree.idfreeL (rows World.ty.oc xs) = true := World.ty.frL xs
theorem World.roc8 {h : Hp} {b : Nat} {xs : List World} {lim : Bool} (hb : h b = some (some (rows World.ty.oc xs))) : roc h 8 (.sl b 0 xs.length 4 lim) = some (.ro (rows World.ty.cs xs) xs.length) := World.ty.roc8 (by decide) hb
theorem World.roc7 {h : Hp} {b : Nat} {xs : List World} {lim : Bool} (hb : h b = some (some (rows World.ty.oc xs))) : roc h 7 (.sl b 0 xs.length 4 lim) = some (.ro (rows World.ty.cs xs) xs.length) := World.ty.roc7 (by decide) hb
structure Plan where
  tasks : List ByteArray
  deps : List (List ByteArray)
def Plan.ty : Ty Plan := Ty.struct (Ty.str.slice.cons (Ty.str.slice.slice.cons Ty.nil)) (fun x => (x.tasks, x.deps, ())) (fun p => ⟨p.1, p.2.1⟩) (fun _ => rfl) 48
theorem Plan.cse (x : Plan) : Plan.ty.cs x = [.ro (rows Ty.str.cs x.tasks) x.tasks.length, .ro (rows Ty.str.slice.cs x.deps) x.deps.length] := rfl
theorem Plan.oce (x : Plan) : Plan.ty.oc x = [.own (rows Ty.str.oc x.tasks) x.tasks.length 1, .own (rows Ty.str.slice.oc x.deps) x.deps.length 1] := rfl
theorem Plan.ocl (xs : List Plan) : (rows Plan.ty.oc xs).length = xs.length * 2 := rows_length Plan.ty.ocn xs
theorem Plan.frL (xs : List Plan) : idfree.idfreeL (rows Plan.ty.oc xs) = true := Plan.ty.frL xs
theorem Plan.roc8 {h : Hp} {b : Nat} {xs : List Plan} {lim : Bool} (hb : h b = some (some (rows Plan.ty.oc xs))) : roc h 8 (.sl b 0 xs.length 2 lim) = some (.ro (rows Plan.ty.cs xs) xs.length) := Plan.ty.roc8 (by decide) hb
theorem Plan.roc7 {h : Hp} {b : Nat} {xs : List Plan} {lim : Bool} (hb : h b = some (some (rows Plan.ty.oc xs))) : roc h 7 (.sl b 0 xs.length 2 lim) = some (.ro (rows Plan.ty.cs xs) xs.length) := Plan.ty.roc7 (by decide) hb
structure Made where
  task : ByteArray
  outs : List File
  log : ByteArray
def Made.ty : Ty Made := Ty.struct (Ty.str.cons (File.ty.slice.cons (Ty.str.cons Ty.nil))) (fun x => (x.task, x.outs, x.log, ())) (fun p => ⟨p.1, p.2.1, p.2.2.1⟩) (fun _ => rfl) 56
theorem Made.cse (x : Made) : Made.ty.cs x = [.sc (.string x.task), .ro (rows File.ty.cs x.outs) x.outs.length, .sc (.string x.log)] := rfl
theorem Made.oce (x : Made) : Made.ty.oc x = [.sc (.string x.task), .own (rows File.ty.oc x.outs) x.outs.length 2, .sc (.string x.log)] := rfl
theorem Made.ocl (xs : List Made) : (rows Made.ty.oc xs).length = xs.length * 3 := rows_length Made.ty.ocn xs
theorem Made.frL (xs : List Made) : idfree.idfreeL (rows Made.ty.oc xs) = true := Made.ty.frL xs
theorem Made.roc8 {h : Hp} {b : Nat} {xs : List Made} {lim : Bool} (hb : h b = some (some (rows Made.ty.oc xs))) : roc h 8 (.sl b 0 xs.length 3 lim) = some (.ro (rows Made.ty.cs xs) xs.length) := Made.ty.roc8 (by decide) hb
theorem Made.roc7 {h : Hp} {b : Nat} {xs : List Made} {lim : Bool} (hb : h b = some (some (rows Made.ty.oc xs))) : roc h 7 (.sl b 0 xs.length 3 lim) = some (.ro (rows Made.ty.cs xs) xs.length) := Made.ty.roc7 (by decide) hb
structure Mark where
  task : ByteArray
  how : Int
def Mark.ty : Ty Mark := Ty.struct (Ty.str.cons (Ty.int.cons Ty.nil)) (fun x => (x.task, x.how, ())) (fun p => ⟨p.1, p.2.1⟩) (fun _ => rfl) 24
theorem Mark.cse (x : Mark) : Mark.ty.cs x = [.sc (.string x.task), .sc (.int .i64 x.how)] := rfl
theorem Mark.oce (x : Mark) : Mark.ty.oc x = [.sc (.string x.task), .sc (.int .i64 x.how)] := rfl
theorem Mark.ocl (xs : List Mark) : (rows Mark.ty.oc xs).length = xs.length * 2 := rows_length Mark.ty.ocn xs
theorem Mark.frL (xs : List Mark) : idfree.idfreeL (rows Mark.ty.oc xs) = true := Mark.ty.frL xs
theorem Mark.roc8 {h : Hp} {b : Nat} {xs : List Mark} {lim : Bool} (hb : h b = some (some (rows Mark.ty.oc xs))) : roc h 8 (.sl b 0 xs.length 2 lim) = some (.ro (rows Mark.ty.cs xs) xs.length) := Mark.ty.roc8 (by decide) hb
theorem Mark.roc7 {h : Hp} {b : Nat} {xs : List Mark} {lim : Bool} (hb : h b = some (some (rows Mark.ty.oc xs))) : roc h 7 (.sl b 0 xs.length 2 lim) = some (.ro (rows Mark.ty.cs xs) xs.length) := Mark.ty.roc7 (by decide) hb
structure Slot where
  key : List Int
  b : List Int
def Slot.ty : Ty Slot := Ty.struct (Ty.byte.slice.cons (Ty.byte.slice.cons Ty.nil)) (fun x => (x.key, x.b, ())) (fun p => ⟨p.1, p.2.1⟩) (fun _ => rfl) 48
theorem Slot.cse (x : Slot) : Slot.ty.cs x = [.ro (rows Ty.byte.cs x.key) x.key.length, .ro (rows Ty.byte.cs x.b) x.b.length] := rfl
theorem Slot.oce (x : Slot) : Slot.ty.oc x = [.own (rows Ty.byte.oc x.key) x.key.length 1, .own (rows Ty.byte.oc x.b) x.b.length 1] := rfl
theorem Slot.ocl (xs : List Slot) : (rows Slot.ty.oc xs).length = xs.length * 2 := rows_length Slot.ty.ocn xs
theorem Slot.frL (xs : List Slot) : idfree.idfreeL (rows Slot.ty.oc xs) = true := Slot.ty.frL xs
theorem Slot.roc8 {h : Hp} {b : Nat} {xs : List Slot} {lim : Bool} (hb : h b = some (some (rows Slot.ty.oc xs))) : roc h 8 (.sl b 0 xs.length 2 lim) = some (.ro (rows Slot.ty.cs xs) xs.length) := Slot.ty.roc8 (by decide) hb
theorem Slot.roc7 {h : Hp} {b : Nat} {xs : List Slot} {lim : Bool} (hb : h b = some (some (rows Slot.ty.oc xs))) : roc h 7 (.sl b 0 xs.length 2 lim) = some (.ro (rows Slot.ty.cs xs) xs.length) := Slot.ty.roc7 (by decide) hb
structure Run where
  w : World
  p : Plan
  slots : Int
  goOn : Bool
  made : List Made
  marks : List Mark
  going : List ByteArray
  cache : List Slot
def Run.ty : Ty Run := Ty.struct (World.ty.cons (Plan.ty.cons (Ty.int.cons (Ty.bool.cons (Made.ty.slice.cons (Mark.ty.slice.cons (Ty.str.slice.cons (Slot.ty.slice.cons Ty.nil)))))))) (fun x => (x.w, x.p, x.slots, x.goOn, x.made, x.marks, x.going, x.cache, ())) (fun p => ⟨p.1, p.2.1, p.2.2.1, p.2.2.2.1, p.2.2.2.2.1, p.2.2.2.2.2.1, p.2.2.2.2.2.2.1, p.2.2.2.2.2.2.2.1⟩) (fun _ => rfl) 256
theorem Run.cse (x : Run) : Run.ty.cs x = [.ro (rows Pack.ty.cs x.w.packs) x.w.packs.length, .ro (rows Rule.ty.cs x.w.rules) x.w.rules.length, .ro (rows File.ty.cs x.w.files) x.w.files.length, .ro (rows Env.ty.cs x.w.envs) x.w.envs.length, .ro (rows Ty.str.cs x.p.tasks) x.p.tasks.length, .ro (rows Ty.str.slice.cs x.p.deps) x.p.deps.length, .sc (.int .i64 x.slots), .sc (.bool x.goOn), .ro (rows Made.ty.cs x.made) x.made.length, .ro (rows Mark.ty.cs x.marks) x.marks.length, .ro (rows Ty.str.cs x.going) x.going.length, .ro (rows Slot.ty.cs x.cache) x.cache.length] := rfl
theorem Run.oce (x : Run) : Run.ty.oc x = [.own (rows Pack.ty.oc x.w.packs) x.w.packs.length 4, .own (rows Rule.ty.oc x.w.rules) x.w.rules.length 5, .own (rows File.ty.oc x.w.files) x.w.files.length 2, .own (rows Env.ty.oc x.w.envs) x.w.envs.length 2, .own (rows Ty.str.oc x.p.tasks) x.p.tasks.length 1, .own (rows Ty.str.slice.oc x.p.deps) x.p.deps.length 1, .sc (.int .i64 x.slots), .sc (.bool x.goOn), .own (rows Made.ty.oc x.made) x.made.length 3, .own (rows Mark.ty.oc x.marks) x.marks.length 2, .own (rows Ty.str.oc x.going) x.going.length 1, .own (rows Slot.ty.oc x.cache) x.cache.length 2] := rfl
theorem Run.ocl (xs : List Run) : (rows Run.ty.oc xs).length = xs.length * 12 := rows_length Run.ty.ocn xs
theorem Run.frL (xs : List Run) : idfree.idfreeL (rows Run.ty.oc xs) = true := Run.ty.frL xs
theorem Run.roc8 {h : Hp} {b : Nat} {xs : List Run} {lim : Bool} (hb : h b = some (some (rows Run.ty.oc xs))) : roc h 8 (.sl b 0 xs.length 12 lim) = some (.ro (rows Run.ty.cs xs) xs.length) := Run.ty.roc8 (by decide) hb
theorem Run.roc7 {h : Hp} {b : Nat} {xs : List Run} {lim : Bool} (hb : h b = some (some (rows Run.ty.oc xs))) : roc h 7 (.sl b 0 xs.length 12 lim) = some (.ro (rows Run.ty.cs xs) xs.length) := Run.ty.roc7 (by decide) hb
structure Job where
  name : ByteArray
  acts : List ByteArray
  ins : List File
  envs : List Env
  deps : List Made
def Job.ty : Ty Job := Ty.struct (Ty.str.cons (Ty.str.slice.cons (File.ty.slice.cons (Env.ty.slice.cons (Made.ty.slice.cons Ty.nil))))) (fun x => (x.name, x.acts, x.ins, x.envs, x.deps, ())) (fun p => ⟨p.1, p.2.1, p.2.2.1, p.2.2.2.1, p.2.2.2.2.1⟩) (fun _ => rfl) 112
theorem Job.cse (x : Job) : Job.ty.cs x = [.sc (.string x.name), .ro (rows Ty.str.cs x.acts) x.acts.length, .ro (rows File.ty.cs x.ins) x.ins.length, .ro (rows Env.ty.cs x.envs) x.envs.length, .ro (rows Made.ty.cs x.deps) x.deps.length] := rfl
theorem Job.oce (x : Job) : Job.ty.oc x = [.sc (.string x.name), .own (rows Ty.str.oc x.acts) x.acts.length 1, .own (rows File.ty.oc x.ins) x.ins.length 2, .own (rows Env.ty.oc x.envs) x.envs.length 2, .own (rows Made.ty.oc x.deps) x.deps.length 3] := rfl
theorem Job.ocl (xs : List Job) : (rows Job.ty.oc xs).length = xs.length * 5 := rows_length Job.ty.ocn xs
theorem Job.frL (xs : List Job) : idfree.idfreeL (rows Job.ty.oc xs) = true := Job.ty.frL xs
theorem Job.roc8 {h : Hp} {b : Nat} {xs : List Job} {lim : Bool} (hb : h b = some (some (rows Job.ty.oc xs))) : roc h 8 (.sl b 0 xs.length 5 lim) = some (.ro (rows Job.ty.cs xs) xs.length) := Job.ty.roc8 (by decide) hb
theorem Job.roc7 {h : Hp} {b : Nat} {xs : List Job} {lim : Bool} (hb : h b = some (some (rows Job.ty.oc xs))) : roc h 7 (.sl b 0 xs.length 5 lim) = some (.ro (rows Job.ty.cs xs) xs.length) := Job.ty.roc7 (by decide) hb
structure Doc where
  name : ByteArray
  text : ByteArray
def Doc.ty : Ty Doc := Ty.struct (Ty.str.cons (Ty.str.cons Ty.nil)) (fun x => (x.name, x.text, ())) (fun p => ⟨p.1, p.2.1⟩) (fun _ => rfl) 32
theorem Doc.cse (x : Doc) : Doc.ty.cs x = [.sc (.string x.name), .sc (.string x.text)] := rfl
theorem Doc.oce (x : Doc) : Doc.ty.oc x = [.sc (.string x.name), .sc (.string x.text)] := rfl
theorem Doc.ocl (xs : List Doc) : (rows Doc.ty.oc xs).length = xs.length * 2 := rows_length Doc.ty.ocn xs
theorem Doc.frL (xs : List Doc) : idfree.idfreeL (rows Doc.ty.oc xs) = true := Doc.ty.frL xs
theorem Doc.roc8 {h : Hp} {b : Nat} {xs : List Doc} {lim : Bool} (hb : h b = some (some (rows Doc.ty.oc xs))) : roc h 8 (.sl b 0 xs.length 2 lim) = some (.ro (rows Doc.ty.cs xs) xs.length) := Doc.ty.roc8 (by decide) hb
theorem Doc.roc7 {h : Hp} {b : Nat} {xs : List Doc} {lim : Bool} (hb : h b = some (some (rows Doc.ty.oc xs))) : roc h 7 (.sl b 0 xs.length 2 lim) = some (.ro (rows Doc.ty.cs xs) xs.length) := Doc.ty.roc7 (by decide) hb
structure Op where
  kind : Int
  a : ByteArray
  b : ByteArray
def Op.ty : Ty Op := Ty.struct (Ty.int.cons (Ty.str.cons (Ty.str.cons Ty.nil))) (fun x => (x.kind, x.a, x.b, ())) (fun p => ⟨p.1, p.2.1, p.2.2.1⟩) (fun _ => rfl) 40
theorem Op.cse (x : Op) : Op.ty.cs x = [.sc (.int .i64 x.kind), .sc (.string x.a), .sc (.string x.b)] := rfl
theorem Op.oce (x : Op) : Op.ty.oc x = [.sc (.int .i64 x.kind), .sc (.string x.a), .sc (.string x.b)] := rfl
theorem Op.ocl (xs : List Op) : (rows Op.ty.oc xs).length = xs.length * 3 := rows_length Op.ty.ocn xs
theorem Op.frL (xs : List Op) : idfree.idfreeL (rows Op.ty.oc xs) = true := Op.ty.frL xs
theorem Op.roc8 {h : Hp} {b : Nat} {xs : List Op} {lim : Bool} (hb : h b = some (some (rows Op.ty.oc xs))) : roc h 8 (.sl b 0 xs.length 3 lim) = some (.ro (rows Op.ty.cs xs) xs.length) := Op.ty.roc8 (by decide) hb
theorem Op.roc7 {h : Hp} {b : Nat} {xs : List Op} {lim : Bool} (hb : h b = some (some (rows Op.ty.oc xs))) : roc h 7 (.sl b 0 xs.length 3 lim) = some (.ro (rows Op.ty.cs xs) xs.length) := Op.ty.roc7 (by decide) hb
structure Disk where
  sure : List Doc
  pend : List Op
def Disk.ty : Ty Disk := Ty.struct (Doc.ty.slice.cons (Op.ty.slice.cons Ty.nil)) (fun x => (x.sure, x.pend, ())) (fun p => ⟨p.1, p.2.1⟩) (fun _ => rfl) 48
theorem Disk.cse (x : Disk) : Disk.ty.cs x = [.ro (rows Doc.ty.cs x.sure) x.sure.length, .ro (rows Op.ty.cs x.pend) x.pend.length] := rfl
theorem Disk.oce (x : Disk) : Disk.ty.oc x = [.own (rows Doc.ty.oc x.sure) x.sure.length 2, .own (rows Op.ty.oc x.pend) x.pend.length 3] := rfl
theorem Disk.ocl (xs : List Disk) : (rows Disk.ty.oc xs).length = xs.length * 2 := rows_length Disk.ty.ocn xs
theorem Disk.frL (xs : List Disk) : idfree.idfreeL (rows Disk.ty.oc xs) = true := Disk.ty.frL xs
theorem Disk.roc8 {h : Hp} {b : Nat} {xs : List Disk} {lim : Bool} (hb : h b = some (some (rows Disk.ty.oc xs))) : roc h 8 (.sl b 0 xs.length 2 lim) = some (.ro (rows Disk.ty.cs xs) xs.length) := Disk.ty.roc8 (by decide) hb
theorem Disk.roc7 {h : Hp} {b : Nat} {xs : List Disk} {lim : Bool} (hb : h b = some (some (rows Disk.ty.oc xs))) : roc h 7 (.sl b 0 xs.length 2 lim) = some (.ro (rows Disk.ty.cs xs) xs.length) := Disk.ty.roc7 (by decide) hb
structure Ver where
  a : Int
  b : Int
  c : Int
  pre : List ByteArray
def Ver.ty : Ty Ver := Ty.struct (Ty.int.cons (Ty.int.cons (Ty.int.cons (Ty.str.slice.cons Ty.nil)))) (fun x => (x.a, x.b, x.c, x.pre, ())) (fun p => ⟨p.1, p.2.1, p.2.2.1, p.2.2.2.1⟩) (fun _ => rfl) 48
theorem Ver.cse (x : Ver) : Ver.ty.cs x = [.sc (.int .i64 x.a), .sc (.int .i64 x.b), .sc (.int .i64 x.c), .ro (rows Ty.str.cs x.pre) x.pre.length] := rfl
theorem Ver.oce (x : Ver) : Ver.ty.oc x = [.sc (.int .i64 x.a), .sc (.int .i64 x.b), .sc (.int .i64 x.c), .own (rows Ty.str.oc x.pre) x.pre.length 1] := rfl
theorem Ver.ocl (xs : List Ver) : (rows Ver.ty.oc xs).length = xs.length * 4 := rows_length Ver.ty.ocn xs
theorem Ver.frL (xs : List Ver) : idfree.idfreeL (rows Ver.ty.oc xs) = true := Ver.ty.frL xs
theorem Ver.roc8 {h : Hp} {b : Nat} {xs : List Ver} {lim : Bool} (hb : h b = some (some (rows Ver.ty.oc xs))) : roc h 8 (.sl b 0 xs.length 4 lim) = some (.ro (rows Ver.ty.cs xs) xs.length) := Ver.ty.roc8 (by decide) hb
theorem Ver.roc7 {h : Hp} {b : Nat} {xs : List Ver} {lim : Bool} (hb : h b = some (some (rows Ver.ty.oc xs))) : roc h 7 (.sl b 0 xs.length 4 lim) = some (.ro (rows Ver.ty.cs xs) xs.length) := Ver.ty.roc7 (by decide) hb
structure Cmp where
  op : Int
  v : Ver
def Cmp.ty : Ty Cmp := Ty.struct (Ty.int.cons (Ver.ty.cons Ty.nil)) (fun x => (x.op, x.v, ())) (fun p => ⟨p.1, p.2.1⟩) (fun _ => rfl) 56
theorem Cmp.cse (x : Cmp) : Cmp.ty.cs x = [.sc (.int .i64 x.op), .sc (.int .i64 x.v.a), .sc (.int .i64 x.v.b), .sc (.int .i64 x.v.c), .ro (rows Ty.str.cs x.v.pre) x.v.pre.length] := rfl
theorem Cmp.oce (x : Cmp) : Cmp.ty.oc x = [.sc (.int .i64 x.op), .sc (.int .i64 x.v.a), .sc (.int .i64 x.v.b), .sc (.int .i64 x.v.c), .own (rows Ty.str.oc x.v.pre) x.v.pre.length 1] := rfl
theorem Cmp.ocl (xs : List Cmp) : (rows Cmp.ty.oc xs).length = xs.length * 5 := rows_length Cmp.ty.ocn xs
theorem Cmp.frL (xs : List Cmp) : idfree.idfreeL (rows Cmp.ty.oc xs) = true := Cmp.ty.frL xs
theorem Cmp.roc8 {h : Hp} {b : Nat} {xs : List Cmp} {lim : Bool} (hb : h b = some (some (rows Cmp.ty.oc xs))) : roc h 8 (.sl b 0 xs.length 5 lim) = some (.ro (rows Cmp.ty.cs xs) xs.length) := Cmp.ty.roc8 (by decide) hb
theorem Cmp.roc7 {h : Hp} {b : Nat} {xs : List Cmp} {lim : Bool} (hb : h b = some (some (rows Cmp.ty.oc xs))) : roc h 7 (.sl b 0 xs.length 5 lim) = some (.ro (rows Cmp.ty.cs xs) xs.length) := Cmp.ty.roc7 (by decide) hb
structure Entry where
  name : ByteArray
  v : Ver
  needs : List Need
def Entry.ty : Ty Entry := Ty.struct (Ty.str.cons (Ver.ty.cons (Need.ty.slice.cons Ty.nil))) (fun x => (x.name, x.v, x.needs, ())) (fun p => ⟨p.1, p.2.1, p.2.2.1⟩) (fun _ => rfl) 88
theorem Entry.cse (x : Entry) : Entry.ty.cs x = [.sc (.string x.name), .sc (.int .i64 x.v.a), .sc (.int .i64 x.v.b), .sc (.int .i64 x.v.c), .ro (rows Ty.str.cs x.v.pre) x.v.pre.length, .ro (rows Need.ty.cs x.needs) x.needs.length] := rfl
theorem Entry.oce (x : Entry) : Entry.ty.oc x = [.sc (.string x.name), .sc (.int .i64 x.v.a), .sc (.int .i64 x.v.b), .sc (.int .i64 x.v.c), .own (rows Ty.str.oc x.v.pre) x.v.pre.length 1, .own (rows Need.ty.oc x.needs) x.needs.length 2] := rfl
theorem Entry.ocl (xs : List Entry) : (rows Entry.ty.oc xs).length = xs.length * 6 := rows_length Entry.ty.ocn xs
theorem Entry.frL (xs : List Entry) : idfree.idfreeL (rows Entry.ty.oc xs) = true := Entry.ty.frL xs
theorem Entry.roc8 {h : Hp} {b : Nat} {xs : List Entry} {lim : Bool} (hb : h b = some (some (rows Entry.ty.oc xs))) : roc h 8 (.sl b 0 xs.length 6 lim) = some (.ro (rows Entry.ty.cs xs) xs.length) := Entry.ty.roc8 (by decide) hb
theorem Entry.roc7 {h : Hp} {b : Nat} {xs : List Entry} {lim : Bool} (hb : h b = some (some (rows Entry.ty.oc xs))) : roc h 7 (.sl b 0 xs.length 6 lim) = some (.ro (rows Entry.ty.cs xs) xs.length) := Entry.ty.roc7 (by decide) hb
structure Pick where
  name : ByteArray
  v : Ver
def Pick.ty : Ty Pick := Ty.struct (Ty.str.cons (Ver.ty.cons Ty.nil)) (fun x => (x.name, x.v, ())) (fun p => ⟨p.1, p.2.1⟩) (fun _ => rfl) 64
theorem Pick.cse (x : Pick) : Pick.ty.cs x = [.sc (.string x.name), .sc (.int .i64 x.v.a), .sc (.int .i64 x.v.b), .sc (.int .i64 x.v.c), .ro (rows Ty.str.cs x.v.pre) x.v.pre.length] := rfl
theorem Pick.oce (x : Pick) : Pick.ty.oc x = [.sc (.string x.name), .sc (.int .i64 x.v.a), .sc (.int .i64 x.v.b), .sc (.int .i64 x.v.c), .own (rows Ty.str.oc x.v.pre) x.v.pre.length 1] := rfl
theorem Pick.ocl (xs : List Pick) : (rows Pick.ty.oc xs).length = xs.length * 5 := rows_length Pick.ty.ocn xs
theorem Pick.frL (xs : List Pick) : idfree.idfreeL (rows Pick.ty.oc xs) = true := Pick.ty.frL xs
theorem Pick.roc8 {h : Hp} {b : Nat} {xs : List Pick} {lim : Bool} (hb : h b = some (some (rows Pick.ty.oc xs))) : roc h 8 (.sl b 0 xs.length 5 lim) = some (.ro (rows Pick.ty.cs xs) xs.length) := Pick.ty.roc8 (by decide) hb
theorem Pick.roc7 {h : Hp} {b : Nat} {xs : List Pick} {lim : Bool} (hb : h b = some (some (rows Pick.ty.oc xs))) : roc h 7 (.sl b 0 xs.length 5 lim) = some (.ro (rows Pick.ty.cs xs) xs.length) := Pick.ty.roc7 (by decide) hb
def fileEq (a b : File) : Bool := strEq a.path b.path && strEq a.text b.text
def envEq (a b : Env) : Bool := strEq a.name b.name && strEq a.val b.val
def madeEq (a b : Made) : Bool := strEq a.task b.task && (strEq a.log b.log && eqBy fileEq a.outs b.outs)
def jobEq (a b : Job) : Bool := strEq a.name b.name && eqBy strEq a.acts b.acts && eqBy fileEq a.ins b.ins && eqBy envEq a.envs b.envs && eqBy madeEq a.deps b.deps
theorem R22 (xs ys : List ByteArray) (hb : xs.length < 4611686018427387904) : Ret Tryd.prog 22 [.ro (rows Ty.str.cs xs) xs.length, .ro (rows Ty.str.cs ys) ys.length] (.sc (.bool (eqBy strEq xs ys))) [.un, .un] := Ret.sameStr mixed Tryd.func22 ⟨by kernel_rfl, by kernel_rfl, by kernel_rfl⟩ xs ys hb
theorem R18 (xs ys : List ByteArray) (hb : xs.length < 4611686018427387904) : Ret Tryd.prog 18 [.ro (rows Ty.str.cs xs) xs.length, .ro (rows Ty.str.cs ys) ys.length] (.sc (.bool (eqBy strEq xs ys))) [.un, .un] := Ret.equalStr mixed Tryd.func18 ⟨by kernel_rfl, by kernel_rfl, by kernel_rfl⟩ xs ys hb
theorem R23 (xs ys : List File) (hb : xs.length < 4611686018427387904) : Ret Tryd.prog 23 [.ro (rows File.ty.cs xs) xs.length, .ro (rows File.ty.cs ys) ys.length] (.sc (.bool (eqBy fileEq xs ys))) [.un, .un] := Ret.same mixed File.ty (offs := [(0, 0), (1, 0)]) Tryd.func23 ⟨by kernel_rfl, by kernel_rfl, by kernel_rfl⟩ fileEq (fun x y => by simp [File.cse, eqOff, seq1, fileEq, strEq]) xs ys hb
theorem R19 (xs ys : List File) (hb : xs.length < 4611686018427387904) : Ret Tryd.prog 19 [.ro (rows File.ty.cs xs) xs.length, .ro (rows File.ty.cs ys) ys.length] (.sc (.bool (eqBy fileEq xs ys))) [.un, .un] := Ret.equal mixed File.ty (offs := [(0, 0), (1, 0)]) Tryd.func19 ⟨by kernel_rfl, by kernel_rfl, by kernel_rfl⟩ fileEq (fun x y => by simp [File.cse, eqOff, seq1, fileEq, strEq]) xs ys hb
theorem R20 (xs ys : List Env) (hb : xs.length < 4611686018427387904) : Ret Tryd.prog 20 [.ro (rows Env.ty.cs xs) xs.length, .ro (rows Env.ty.cs ys) ys.length] (.sc (.bool (eqBy envEq xs ys))) [.un, .un] := Ret.equal mixed Env.ty (offs := [(0, 0), (1, 0)]) Tryd.func20 ⟨by kernel_rfl, by kernel_rfl, by kernel_rfl⟩ envEq (fun x y => by simp [Env.cse, eqOff, seq1, envEq, strEq]) xs ys hb
def A24 : AC := (.seq (.ops [⟨(some 2), none, .w (.box (.t 0))⟩, ⟨(some 3), none, .w (.box (.t 1))⟩, ⟨(some 4), none, .q (.mov (.c (.sc (.bool false))))⟩])
  (.seq (.ops [⟨(some 5), none, .q (.fadr 0 (.t 2))⟩, ⟨(some 6), none, .q (.load false 1 (.t 5))⟩, ⟨(some 7), none, .q (.fadr 0 (.t 3))⟩, ⟨(some 8), none, .q (.load false 1 (.t 7))⟩, ⟨(some 9), none, .q (.bin .eql (.t 6) (.t 8))⟩, ⟨(some 10), none, .q (.mov (.t 9))⟩, ⟨(some 11), (some (10, true)), .q (.fadr 2 (.t 2))⟩, ⟨(some 12), (some (10, true)), .q (.load false 1 (.t 11))⟩, ⟨(some 13), (some (10, true)), .q (.fadr 2 (.t 3))⟩, ⟨(some 14), (some (10, true)), .q (.load false 1 (.t 13))⟩, ⟨(some 15), (some (10, true)), .q (.bin .eql (.t 12) (.t 14))⟩, ⟨(some 16), none, .q (.pick (.t 10) (.t 15) (.c (.sc (.bool false))))⟩, ⟨(some 17), none, .q (.mov (.t 16))⟩, ⟨(some 18), (some (17, true)), .q (.fadr 1 (.t 2))⟩, ⟨(some 19), (some (17, true)), .q (.load false 1 (.t 18))⟩, ⟨(some 20), (some (17, true)), .q (.fadr 1 (.t 3))⟩, ⟨(some 21), (some (17, true)), .q (.load false 1 (.t 20))⟩, ⟨(some 22), (some (17, true)), .c (.c (.clo 23 [])) [(.t 19), (.t 21)]⟩, ⟨(some 23), none, .q (.pick (.t 17) (.t 22) (.c (.sc (.bool false))))⟩, ⟨(some 4), none, .q (.mov (.t 23))⟩])
  .ret))
theorem K24 : Tryd.f24.body.bind (comp Tryd.prog) = some A24 ∧ Tryd.f24.ntmps = 24 ∧ Tryd.f24.results.toList.mapM (resB Tryd.prog) = some [.mov (.t 4)] := ⟨by kernel_rfl, by kernel_rfl, by kernel_rfl⟩
theorem R24 (a b : Made) (ha : Made.ty.ok a) : Ret Tryd.prog 24 [.agg (Made.ty.cs a), .agg (Made.ty.cs b)] (.sc (.bool (madeEq a b))) [.un, .un] := by
  have hb := File.ty.lenb (by decide) ha.2.1
  refine Ret.run Tryd.func24 K24 (by simp) rfl rfl 500 ?_
  simp [A24, iniρ, Made.cse]
  by_cases h1 : a.task.toList = b.task.toList
  case neg => simp [h1, madeEq, strEq]
  by_cases h2 : a.log.toList = b.log.toList
  case neg => simp [h1, h2, madeEq, strEq]
  simp [h1, h2]
  refine callK.ro 0 rfl (by kernel_rfl) (by simp [roc_ro]) (R23 a.outs b.outs hb) rfl rfl rfl ?_
  simp [madeEq, strEq, h1, h2]
def A37 : AC := (.seq (.ops [⟨(some 2), none, .w (.box (.t 0))⟩, ⟨(some 3), none, .w (.box (.t 1))⟩, ⟨(some 4), none, .q (.mov (.c (.sc (.bool false))))⟩])
  (.seq (.ops [⟨(some 5), none, .q (.fadr 0 (.t 2))⟩, ⟨(some 6), none, .q (.load false 1 (.t 5))⟩, ⟨(some 7), none, .q (.fadr 0 (.t 3))⟩, ⟨(some 8), none, .q (.load false 1 (.t 7))⟩, ⟨(some 9), none, .q (.bin .eql (.t 6) (.t 8))⟩, ⟨(some 10), none, .q (.mov (.t 9))⟩, ⟨(some 11), (some (10, true)), .q (.fadr 2 (.t 2))⟩, ⟨(some 12), (some (10, true)), .q (.load false 1 (.t 11))⟩, ⟨(some 13), (some (10, true)), .q (.fadr 2 (.t 3))⟩, ⟨(some 14), (some (10, true)), .q (.load false 1 (.t 13))⟩, ⟨(some 15), (some (10, true)), .q (.bin .eql (.t 12) (.t 14))⟩, ⟨(some 16), none, .q (.pick (.t 10) (.t 15) (.c (.sc (.bool false))))⟩, ⟨(some 17), none, .q (.mov (.t 16))⟩, ⟨(some 18), (some (17, true)), .q (.fadr 1 (.t 2))⟩, ⟨(some 19), (some (17, true)), .q (.load false 1 (.t 18))⟩, ⟨(some 20), (some (17, true)), .q (.fadr 1 (.t 3))⟩, ⟨(some 21), (some (17, true)), .q (.load false 1 (.t 20))⟩, ⟨(some 22), (some (17, true)), .c (.c (.clo 19 [])) [(.t 19), (.t 21)]⟩, ⟨(some 23), none, .q (.pick (.t 17) (.t 22) (.c (.sc (.bool false))))⟩, ⟨(some 4), none, .q (.mov (.t 23))⟩])
  .ret))
theorem K37 : Tryd.f37.body.bind (comp Tryd.prog) = some A37 ∧ Tryd.f37.ntmps = 24 ∧ Tryd.f37.results.toList.mapM (resB Tryd.prog) = some [.mov (.t 4)] := ⟨by kernel_rfl, by kernel_rfl, by kernel_rfl⟩
theorem R37 (a b : Made) (ha : Made.ty.ok a) : Ret Tryd.prog 37 [.agg (Made.ty.cs a), .agg (Made.ty.cs b)] (.sc (.bool (madeEq a b))) [.un, .un] := by
  have hb := File.ty.lenb (by decide) ha.2.1
  refine Ret.run Tryd.func37 K37 (by simp) rfl rfl 500 ?_
  simp [A37, iniρ, Made.cse]
  by_cases h1 : a.task.toList = b.task.toList
  case neg => simp [h1, madeEq, strEq]
  by_cases h2 : a.log.toList = b.log.toList
  case neg => simp [h1, h2, madeEq, strEq]
  simp [h1, h2]
  refine callK.ro 0 rfl (by kernel_rfl) (by simp [roc_ro]) (R19 a.outs b.outs hb) rfl rfl rfl ?_
  simp [madeEq, strEq, h1, h2]
theorem R36 (xs ys : List Made) (hx : Made.ty.slice.ok xs) : Ret Tryd.prog 36 [.ro (rows Made.ty.cs xs) xs.length, .ro (rows Made.ty.cs ys) ys.length, .clo 37 []] (.sc (.bool (eqBy madeEq xs ys))) [.un, .un, .un] := Ret.equalFunc Made.ty (z := Made.ty.z) Tryd.func36 ⟨by kernel_rfl, by kernel_rfl, by kernel_rfl⟩ rfl 37 madeEq (by kernel_rfl) xs ys (fun x h y _ => R37 x y (hx.2 x h)) (Made.ty.lenb (by decide) hx)
def A21 : AC := (.seq (.ops [⟨(some 4), none, .q (.mov (.c (.sc (.bool false))))⟩])
  (.seq (.ops [⟨(some 5), none, .q (.mov (.t 0))⟩, ⟨(some 6), none, .q (.mov (.t 1))⟩, ⟨(some 7), none, .c (.c (.clo 36 [])) [(.t 5), (.t 6), (.c (.clo 37 []))]⟩, ⟨(some 4), none, .q (.mov (.t 7))⟩])
  .ret))
theorem K21 : Tryd.f21.body.bind (comp Tryd.prog) = some A21 ∧ Tryd.f21.ntmps = 8 ∧ Tryd.f21.results.toList.mapM (resB Tryd.prog) = some [.mov (.t 4)] := ⟨by kernel_rfl, by kernel_rfl, by kernel_rfl⟩
theorem R21 (xs ys : List Made) (hx : Made.ty.slice.ok xs) : Ret Tryd.prog 21 [.ro (rows Made.ty.cs xs) xs.length, .ro (rows Made.ty.cs ys) ys.length] (.sc (.bool (eqBy madeEq xs ys))) [.un, .un] := by
  refine Ret.run Tryd.func21 K21 (by simp) rfl rfl 500 ?_
  simp [A21, iniρ]
  refine callK.ro 0 rfl (by kernel_rfl) (by simp [roc_ro, roc_clo (cs := []) rfl]) (R36 xs ys hx) rfl rfl rfl ?_
  simp
def A8 : AC := (.seq (.ops [⟨(some 2), none, .w (.box (.t 0))⟩, ⟨(some 3), none, .w (.box (.t 1))⟩, ⟨(some 4), none, .q (.mov (.c (.sc (.bool false))))⟩])
  (.seq (.seq (.ops [⟨(some 5), none, .q (.fadr 0 (.t 2))⟩, ⟨(some 6), none, .q (.load false 1 (.t 5))⟩, ⟨(some 7), none, .q (.fadr 0 (.t 3))⟩, ⟨(some 8), none, .q (.load false 1 (.t 7))⟩, ⟨(some 9), none, .q (.bin .neq (.t 6) (.t 8))⟩, ⟨(some 10), none, .q (.mov (.t 9))⟩, ⟨(some 11), (some (10, false)), .q (.fadr 1 (.t 2))⟩, ⟨(some 12), (some (10, false)), .q (.load false 1 (.t 11))⟩, ⟨(some 13), (some (10, false)), .q (.fadr 1 (.t 3))⟩, ⟨(some 14), (some (10, false)), .q (.load false 1 (.t 13))⟩, ⟨(some 15), (some (10, false)), .c (.c (.clo 18 [])) [(.t 12), (.t 14)]⟩, ⟨(some 16), (some (10, false)), .q (.not (.t 15))⟩, ⟨(some 17), none, .q (.pick (.t 10) (.c (.sc (.bool true))) (.t 16))⟩, ⟨(some 18), none, .q (.mov (.t 17))⟩, ⟨(some 19), (some (18, false)), .q (.fadr 2 (.t 2))⟩, ⟨(some 20), (some (18, false)), .q (.load false 1 (.t 19))⟩, ⟨(some 21), (some (18, false)), .q (.fadr 2 (.t 3))⟩, ⟨(some 22), (some (18, false)), .q (.load false 1 (.t 21))⟩, ⟨(some 23), (some (18, false)), .c (.c (.clo 19 [])) [(.t 20), (.t 22)]⟩, ⟨(some 24), (some (18, false)), .q (.not (.t 23))⟩, ⟨(some 25), none, .q (.pick (.t 18) (.c (.sc (.bool true))) (.t 24))⟩, ⟨(some 26), none, .q (.mov (.t 25))⟩, ⟨(some 27), (some (26, false)), .q (.fadr 3 (.t 2))⟩, ⟨(some 28), (some (26, false)), .q (.load false 1 (.t 27))⟩, ⟨(some 29), (some (26, false)), .q (.fadr 3 (.t 3))⟩, ⟨(some 30), (some (26, false)), .q (.load false 1 (.t 29))⟩, ⟨(some 31), (some (26, false)), .c (.c (.clo 20 [])) [(.t 28), (.t 30)]⟩, ⟨(some 32), (some (26, false)), .q (.not (.t 31))⟩, ⟨(some 33), none, .q (.pick (.t 26) (.c (.sc (.bool true))) (.t 32))⟩])
  (.cond (.t 33) (.seq (.ops [⟨(some 4), none, .q (.mov (.c (.sc (.bool false))))⟩])
  .ret)
  .skip))
  (.seq (.ops [⟨(some 34), none, .q (.fadr 4 (.t 2))⟩, ⟨(some 35), none, .q (.load false 1 (.t 34))⟩, ⟨(some 36), none, .q (.fadr 4 (.t 3))⟩, ⟨(some 37), none, .q (.load false 1 (.t 36))⟩, ⟨(some 38), none, .c (.c (.clo 21 [])) [(.t 35), (.t 37)]⟩, ⟨(some 4), none, .q (.mov (.t 38))⟩])
  .ret)))
theorem K8 : Tryd.f8.body.bind (comp Tryd.prog) = some A8 ∧ Tryd.f8.ntmps = 39 ∧ Tryd.f8.results.toList.mapM (resB Tryd.prog) = some [.mov (.t 4)] := ⟨by kernel_rfl, by kernel_rfl, by kernel_rfl⟩
set_option maxHeartbeats 1000000 in
set_option maxRecDepth 100000 in
theorem R8 (a b : Job) (ha : Job.ty.ok a) : Ret Tryd.prog 8 [.agg (Job.ty.cs a), .agg (Job.ty.cs b)] (.sc (.bool (jobEq a b))) [.un, .un] := by
  obtain ⟨o0, o1, o2, o3, o4, _⟩ := ha
  have h1 := Ty.str.lenb (by decide) o1
  have h2 := File.ty.lenb (by decide) o2
  have h3 : a.envs.length < 4611686018427387904 := Env.ty.lenb (by decide) o3
  refine Ret.run Tryd.func8 K8 (by simp) rfl rfl 500 ?_
  by_cases k0 : a.name.toList = b.name.toList
  case neg =>
    have k0' : (a.name.toList == b.name.toList) = false := by simpa using k0
    simp [A8, iniρ, Job.cse, k0, k0', jobEq, strEq]
  simp [A8, iniρ, Job.cse, k0]
  refine callK.ro 0 rfl (by kernel_rfl) (by simp [roc_ro]) (R18 a.acts b.acts h1) rfl rfl rfl ?_
  cases k1 : eqBy strEq a.acts b.acts
  · simp [jobEq, k1]
  simp
  refine callK.ro 0 rfl (by kernel_rfl) (by simp [roc_ro]) (R19 a.ins b.ins h2) rfl rfl rfl ?_
  cases k2 : eqBy fileEq a.ins b.ins
  · simp [jobEq, k2]
  simp
  refine callK.ro 0 rfl (by kernel_rfl) (by simp [roc_ro]) (R20 a.envs b.envs h3) rfl rfl rfl ?_
  cases k3 : eqBy envEq a.envs b.envs
  · simp [jobEq, k3]
  simp
  refine callK.ro 0 rfl (by kernel_rfl) (by simp [roc_ro]) (R21 a.deps b.deps o4) rfl rfl rfl ?_
  simp [jobEq, strEq, k0, k1, k2, k3]
def A9 : AC := (.seq (.ops [⟨(some 2), none, .w (.box (.t 0))⟩, ⟨(some 3), none, .w (.box (.t 1))⟩, ⟨(some 4), none, .q (.mov (.c (.sc (.bool false))))⟩])
  (.seq (.seq (.ops [⟨(some 7), none, .q (.fadr 0 (.t 2))⟩, ⟨(some 8), none, .q (.load false 1 (.t 7))⟩, ⟨(some 9), none, .q (.fadr 0 (.t 3))⟩, ⟨(some 10), none, .q (.load false 1 (.t 9))⟩, ⟨(some 11), none, .q (.bin .neq (.t 8) (.t 10))⟩, ⟨(some 12), none, .q (.mov (.t 11))⟩, ⟨(some 13), (some (12, false)), .q (.fadr 1 (.t 2))⟩, ⟨(some 14), (some (12, false)), .q (.load false 1 (.t 13))⟩, ⟨(some 15), (some (12, false)), .q (.fadr 1 (.t 3))⟩, ⟨(some 16), (some (12, false)), .q (.load false 1 (.t 15))⟩, ⟨(some 17), (some (12, false)), .c (.c (.clo 22 [])) [(.t 14), (.t 16)]⟩, ⟨(some 18), (some (12, false)), .q (.not (.t 17))⟩, ⟨(some 19), none, .q (.pick (.t 12) (.c (.sc (.bool true))) (.t 18))⟩, ⟨(some 20), none, .q (.mov (.t 19))⟩, ⟨(some 21), (some (20, false)), .q (.fadr 2 (.t 2))⟩, ⟨(some 22), (some (20, false)), .q (.load false 1 (.t 21))⟩, ⟨(some 23), (some (20, false)), .q (.fadr 2 (.t 3))⟩, ⟨(some 24), (some (20, false)), .q (.load false 1 (.t 23))⟩, ⟨(some 25), (some (20, false)), .c (.c (.clo 23 [])) [(.t 22), (.t 24)]⟩, ⟨(some 26), (some (20, false)), .q (.not (.t 25))⟩, ⟨(some 27), none, .q (.pick (.t 20) (.c (.sc (.bool true))) (.t 26))⟩, ⟨(some 28), none, .q (.mov (.t 27))⟩, ⟨(some 29), (some (28, false)), .q (.fadr 3 (.t 2))⟩, ⟨(some 30), (some (28, false)), .q (.load false 1 (.t 29))⟩, ⟨(some 31), (some (28, false)), .q (.llen (.t 30))⟩, ⟨(some 32), (some (28, false)), .q (.fadr 3 (.t 3))⟩, ⟨(some 33), (some (28, false)), .q (.load false 1 (.t 32))⟩, ⟨(some 34), (some (28, false)), .q (.llen (.t 33))⟩, ⟨(some 35), (some (28, false)), .q (.bin .neq (.t 31) (.t 34))⟩, ⟨(some 36), none, .q (.pick (.t 28) (.c (.sc (.bool true))) (.t 35))⟩, ⟨(some 37), none, .q (.mov (.t 36))⟩, ⟨(some 38), (some (37, false)), .q (.fadr 4 (.t 2))⟩, ⟨(some 39), (some (37, false)), .q (.load false 1 (.t 38))⟩, ⟨(some 40), (some (37, false)), .q (.llen (.t 39))⟩, ⟨(some 41), (some (37, false)), .q (.fadr 4 (.t 3))⟩, ⟨(some 42), (some (37, false)), .q (.load false 1 (.t 41))⟩, ⟨(some 43), (some (37, false)), .q (.llen (.t 42))⟩, ⟨(some 44), (some (37, false)), .q (.bin .neq (.t 40) (.t 43))⟩, ⟨(some 45), none, .q (.pick (.t 37) (.c (.sc (.bool true))) (.t 44))⟩])
  (.cond (.t 45) (.seq (.ops [⟨(some 4), none, .q (.mov (.c (.sc (.bool false))))⟩])
  .ret)
  .skip))
  (.seq (.seq (.ops [⟨(some 5), none, .q (.mov (.c (.sc (.int .i64 0))))⟩])
  (.block 0 (.loop (.seq (.seq (.ops [⟨(some 46), none, .q (.mov (.t 5))⟩, ⟨(some 47), none, .q (.fadr 3 (.t 2))⟩, ⟨(some 48), none, .q (.load false 1 (.t 47))⟩, ⟨(some 49), none, .q (.llen (.t 48))⟩, ⟨(some 50), none, .q (.bin .lss (.t 46) (.t 49))⟩])
  (.cond (.t 50) .skip
  (.exit 0)))
  (.seq (.block 1 (.seq (.any [(⟨(some 53), none, .q (.fadr 3 (.t 2))⟩, []), (⟨(some 54), none, .q (.load false 1 (.t 53))⟩, [0]), (⟨(some 55), none, .q (.mov (.t 5))⟩, []), (⟨(some 56), none, .q (.iadr 2 (.t 54) (.t 55))⟩, [1, 2]), (⟨(some 57), none, .q (.load true 2 (.t 56))⟩, [3]), (⟨(some 58), none, .q (.fadr 3 (.t 3))⟩, []), (⟨(some 59), none, .q (.load false 1 (.t 58))⟩, [5]), (⟨(some 60), none, .q (.mov (.t 5))⟩, []), (⟨(some 61), none, .q (.iadr 2 (.t 59) (.t 60))⟩, [6, 7]), (⟨(some 62), none, .q (.load true 2 (.t 61))⟩, [8]), (⟨(some 63), none, .q (.aeq true [(0, 0), (1, 0)] (.t 57) (.t 62))⟩, [4, 9])])
  (.cond (.t 63) (.seq (.ops [⟨(some 4), none, .q (.mov (.c (.sc (.bool false))))⟩])
  .ret)
  .skip)))
  (.ops [⟨(some 51), none, .q (.mov (.t 5))⟩, ⟨(some 52), none, .q (.bin .add (.t 51) (.c (.sc (.int .i64 1))))⟩, ⟨(some 5), none, .q (.mov (.t 52))⟩]))))))
  (.seq (.seq (.ops [⟨(some 6), none, .q (.mov (.c (.sc (.int .i64 0))))⟩])
  (.block 2 (.loop (.seq (.seq (.ops [⟨(some 64), none, .q (.mov (.t 6))⟩, ⟨(some 65), none, .q (.fadr 4 (.t 2))⟩, ⟨(some 66), none, .q (.load false 1 (.t 65))⟩, ⟨(some 67), none, .q (.llen (.t 66))⟩, ⟨(some 68), none, .q (.bin .lss (.t 64) (.t 67))⟩])
  (.cond (.t 68) .skip
  (.exit 2)))
  (.seq (.block 3 (.seq (.any [(⟨(some 71), none, .q (.fadr 4 (.t 2))⟩, []), (⟨(some 72), none, .q (.load false 1 (.t 71))⟩, [0]), (⟨(some 73), none, .q (.mov (.t 6))⟩, []), (⟨(some 74), none, .q (.iadr 3 (.t 72) (.t 73))⟩, [1, 2]), (⟨(some 75), none, .q (.load true 3 (.t 74))⟩, [3]), (⟨(some 76), none, .q (.fadr 4 (.t 3))⟩, []), (⟨(some 77), none, .q (.load false 1 (.t 76))⟩, [5]), (⟨(some 78), none, .q (.mov (.t 6))⟩, []), (⟨(some 79), none, .q (.iadr 3 (.t 77) (.t 78))⟩, [6, 7]), (⟨(some 80), none, .q (.load true 3 (.t 79))⟩, [8]), (⟨(some 81), none, .c (.c (.clo 24 [])) [(.t 75), (.t 80)]⟩, [4, 9]), (⟨(some 82), none, .q (.not (.t 81))⟩, [10])])
  (.cond (.t 82) (.seq (.ops [⟨(some 4), none, .q (.mov (.c (.sc (.bool false))))⟩])
  .ret)
  .skip)))
  (.ops [⟨(some 69), none, .q (.mov (.t 6))⟩, ⟨(some 70), none, .q (.bin .add (.t 69) (.c (.sc (.int .i64 1))))⟩, ⟨(some 6), none, .q (.mov (.t 70))⟩]))))))
  (.seq (.ops [⟨(some 4), none, .q (.mov (.c (.sc (.bool true))))⟩])
  .ret)))))
theorem K9 : Tryd.f9.body.bind (comp Tryd.prog) = some A9 ∧ Tryd.f9.ntmps = 83 ∧ Tryd.f9.results.toList.mapM (resB Tryd.prog) = some [.mov (.t 4)] := ⟨by kernel_rfl, by kernel_rfl, by kernel_rfl⟩
set_option maxHeartbeats 1000000 in
set_option maxRecDepth 100000 in
theorem R9 (a b : Job) (ha : Job.ty.ok a) : Ret Tryd.prog 9 [.agg (Job.ty.cs a), .agg (Job.ty.cs b)] (.sc (.bool (jobEq a b))) [.un, .un] := by
  obtain ⟨o0, o1, o2, o3, o4, _⟩ := ha
  have h1 := Ty.str.lenb (by decide) o1
  have h2 := File.ty.lenb (by decide) o2
  have h3 : a.envs.length < 4611686018427387904 := Env.ty.lenb (by decide) o3
  have h4 : a.deps.length < 4611686018427387904 := Made.ty.lenb (by decide) o4
  have s4 : ∀ x ∈ a.deps, Made.ty.ok x := o4.2
  refine Ret.run Tryd.func9 K9 (by simp) rfl rfl 500 ?_
  by_cases k0 : a.name.toList = b.name.toList
  case neg =>
    have k0' : (a.name.toList == b.name.toList) = false := by simpa using k0
    simp [A9, iniρ, Job.cse, k0, k0', jobEq, strEq]
  simp [A9, iniρ, Job.cse, k0]
  refine callK.ro 0 rfl (by kernel_rfl) (by simp [roc_ro]) (R22 a.acts b.acts h1) rfl rfl rfl ?_
  cases k1 : eqBy strEq a.acts b.acts
  · simp [jobEq, k1]
  simp
  refine callK.ro 0 rfl (by kernel_rfl) (by simp [roc_ro]) (R23 a.ins b.ins h2) rfl rfl rfl ?_
  cases k2 : eqBy fileEq a.ins b.ins
  · simp [jobEq, k2]
  by_cases l3 : a.envs.length = b.envs.length
  case neg =>
    have l3' : ¬ (a.envs.length : Int) = b.envs.length := by omega
    simp [jobEq, l3, l3', eqBy_len l3]
  by_cases l4 : a.deps.length = b.deps.length
  case neg =>
    have l4' : ¬ (a.deps.length : Int) = b.deps.length := by omega
    simp [jobEq, l3, l4, l4', eqBy_len l4]
  simp [l3, l4]
  have e0 : jobEq a b = (eqBy envEq a.envs b.envs && eqBy madeEq a.deps b.deps) := by simp [jobEq, strEq, k0, k1, k2]
  rw [e0]
  have e3 := l3.symm
  have e4 := l4.symm
  obtain ⟨xs, hxs⟩ : ∃ xs, xs = a.envs := ⟨_, rfl⟩
  obtain ⟨ys, hys⟩ : ∃ ys, ys = b.envs := ⟨_, rfl⟩
  obtain ⟨us, hus⟩ : ∃ us, us = a.deps := ⟨_, rfl⟩
  obtain ⟨vs, hvs⟩ : ∃ vs, vs = b.deps := ⟨_, rfl⟩
  rw [← hxs] at h3 l3 ⊢
  rw [← hys] at l3 ⊢
  rw [← hus] at h4 s4 l4 ⊢
  rw [← hvs] at l4 ⊢
  refine T.rounds (μ := fun i : List Env × List Env × List Env × List Env => i.2.1.length)
    (fun i s => i.1 ++ i.2.1 = xs ∧ i.2.2.1 ++ i.2.2.2 = ys ∧ i.1.length = i.2.2.1.length ∧ eqBy envEq i.2.1 i.2.2.2 = eqBy envEq xs ys ∧ s.ρ 2 = .ref 2 0 ∧ s.ρ 3 = .ref 3 0 ∧ s.ρ 5 = .sc (.int .i64 i.1.length) ∧ s.h 2 = some (some (Job.ty.cs a)) ∧ s.h 3 = some (some (Job.ty.cs b)) ∧ s.n = 83) ([], xs, [], ys) (by simp [upd_app, Job.cse, hxs, hys, hus, hvs, e3, e4]) ?_
  rintro ⟨pre, rest, pre', rest'⟩ ⟨ρ, hh, n⟩ ⟨hx, hy, hp, hE, j2, j3, j5, jh2, jh3, rfl⟩
  simp only at hx hy hp hE j2 j3 j5 jh2 jh3
  refine run_ok (n := 400) ?_
  have hlr : rest.length = rest'.length := by have := congrArg List.length hx; have := congrArg List.length hy; simp only [List.length_append] at *; omega
  cases rest with
  | nil =>
    cases rest' with
    | cons y r => simp at hlr
    | nil =>
    simp at hx
    have hE2 : eqBy envEq xs ys = true := by rw [← hE]; rfl
    simp [j2, j5, jh2, Job.cse, ← hxs, hx]
    refine T.on 400 ?_
    rw [hE2, Bool.true_and]
    simp
    refine T.rounds (μ := fun i : List Made × List Made × List Made × List Made => i.2.1.length)
      (fun i s => i.1 ++ i.2.1 = us ∧ i.2.2.1 ++ i.2.2.2 = vs ∧ i.1.length = i.2.2.1.length ∧ eqBy madeEq i.2.1 i.2.2.2 = eqBy madeEq us vs ∧ s.ρ 2 = .ref 2 0 ∧ s.ρ 3 = .ref 3 0 ∧ s.ρ 6 = .sc (.int .i64 i.1.length) ∧ s.h 2 = some (some (Job.ty.cs a)) ∧ s.h 3 = some (some (Job.ty.cs b)) ∧ s.n = 83) ([], us, [], vs) (by simp [upd_app, j2, j3, jh2, jh3]) ?_
    rintro ⟨pre, rest, pre', rest'⟩ ⟨ρ, hh, n⟩ ⟨hx, hy, hp, hE, j2, j3, j6, jh2, jh3, rfl⟩
    simp only at hx hy hp hE j2 j3 j6 jh2 jh3
    refine run_ok (n := 400) ?_
    have hlr : rest.length = rest'.length := by have := congrArg List.length hx; have := congrArg List.length hy; simp only [List.length_append] at *; omega
    cases rest with
    | nil =>
      cases rest' with
      | cons y r => simp at hlr
      | nil =>
      simp at hx
      simp [j2, j6, jh2, Job.cse, ← hus, hx]
      refine T.on 400 ?_
      simp [← hE, eqBy]
    | cons x rest =>
      cases rest' with
      | nil => simp at hlr
      | cons y rest' =>
      have hlt : (pre.length : Int) < us.length := by rw [← hx]; simp only [List.length_append, List.length_cons]; omega
      have hd := rows_drop Made.ty.csn pre (x :: rest)
      rw [hx, rows_cons] at hd
      have hd : List.drop (pre.length * 3) (rows Made.ty.cs us) = Made.ty.cs x ++ rows Made.ty.cs rest := hd
      have hd' := rows_drop Made.ty.csn pre' (y :: rest')
      rw [hy, rows_cons, ← hp] at hd'
      have hd' : List.drop (pre.length * 3) (rows Made.ty.cs vs) = Made.ty.cs y ++ rows Made.ty.cs rest' := hd'
      have hw : IntKind.i64.wrap ((pre.length : Int) + 1) = pre.length + 1 := wrap_i64 (by omega) (by omega)
      have hlt' : (pre.length : Int) < vs.length := by omega
      simp [j2, j3, j6, jh2, jh3, Job.cse, ← hus, ← hvs, hlt]
      refine T.text 400 mixed (by kernel_rfl) (by kernel_rfl) ?_
      simp [j2, j3, j6, jh2, jh3, Job.cse, ← hus, ← hvs, hlt, hlt', hd, hd', Made.cse]
      refine callSK.by rfl (by kernel_rfl) (by simp [roc_agg, Made.cse]) (R24 x y (s4 x (by rw [← hx]; simp))) ?_
      cases hE1 : madeEq x y
      · simp [← hE, eqBy, hE1]
      · simp [j6, hw]
        refine ⟨pre ++ [x], rest, by simp, pre' ++ [y], rest', _, Le.refl _, ?_⟩
        simp [hx, hy, hp, j2, j3, jh2, jh3, ← hE, eqBy, hE1, Job.cse, ← hus, ← hvs, upd_app]
  | cons x rest =>
    cases rest' with
    | nil => simp at hlr
    | cons y rest' =>
    have hlt : (pre.length : Int) < xs.length := by rw [← hx]; simp only [List.length_append, List.length_cons]; omega
    have hd := rows_drop Env.ty.csn pre (x :: rest)
    rw [hx, rows_cons] at hd
    have hd : List.drop (pre.length * 2) (rows Env.ty.cs xs) = Env.ty.cs x ++ rows Env.ty.cs rest := hd
    have hd' := rows_drop Env.ty.csn pre' (y :: rest')
    rw [hy, rows_cons, ← hp] at hd'
    have hd' : List.drop (pre.length * 2) (rows Env.ty.cs ys) = Env.ty.cs y ++ rows Env.ty.cs rest' := hd'
    have hw : IntKind.i64.wrap ((pre.length : Int) + 1) = pre.length + 1 := wrap_i64 (by omega) (by omega)
    have hlt' : (pre.length : Int) < ys.length := by omega
    simp [j2, j3, j5, jh2, jh3, Job.cse, ← hxs, ← hys, hlt]
    refine T.text 400 mixed (by kernel_rfl) (by kernel_rfl) ?_
    have hq : eqOff [(0, 0), (1, 0)] (Env.ty.cs x) (Env.ty.cs y) = some (envEq x y) := by simp [Env.cse, eqOff, seq1, envEq, strEq]
    rw [Env.cse, Env.cse] at hq
    simp [j2, j3, j5, jh2, jh3, Job.cse, ← hxs, ← hys, hlt, hlt', hd, hd', Env.cse, hq]
    cases hE1 : envEq x y
    · simp [← hE, eqBy, hE1]
    · simp [j5, hw]
      refine ⟨pre ++ [x], rest, by simp, pre' ++ [y], rest', _, Le.refl _, ?_⟩
      simp [hx, hy, hp, j2, j3, jh2, jh3, ← hE, eqBy, hE1, Job.cse, ← hxs, ← hys, upd_app]
def inR (x a b : Int) : Bool := decide (a ≤ x) && decide (x ≤ b)
def smallI (n : Int) : Bool := decide (97 ≤ n) && decide (n ≤ 122)
def figI (n : Int) : Bool := decide (48 ≤ n) && decide (n ≤ 57)
theorem str_get {s : ByteArray} {pre rest : List UInt8} {c : UInt8} (h : pre ++ c :: rest = s.data.toList) : s[pre.length]? = some c := by
  have h2 : s.data.toList[pre.length]? = some c := by rw [← h]; simp
  have hlt : pre.length < s.size := by
    have := (List.getElem?_eq_some_iff.1 h2).1
    simpa using this
  have h3 : s.data[pre.length]? = some c := by rw [← Array.getElem?_toList]; exact h2
  rw [Array.getElem?_eq_some_iff] at h3
  obtain ⟨h4, h5⟩ := h3
  have : s[pre.length]? = some s[pre.length] := getElem?_pos s pre.length hlt
  rw [this]
  congr 1
theorem str_len {s : ByteArray} {l : List UInt8} (h : l = s.data.toList) : s.size = l.length := by subst h; exact Array.length_toList.symm
def A58 : AC := (.seq (.ops [⟨(some 6), none, .q (.mov (.c (.sc (.bool false))))⟩])
  (.seq (.ops [⟨(some 7), none, .q (.mov (.t 0))⟩, ⟨(some 8), none, .q (.mov (.t 1))⟩, ⟨(some 9), none, .q (.bin .geq (.t 7) (.t 8))⟩, ⟨(some 10), none, .q (.mov (.t 9))⟩, ⟨(some 11), (some (10, true)), .q (.mov (.t 0))⟩, ⟨(some 12), (some (10, true)), .q (.mov (.t 2))⟩, ⟨(some 13), (some (10, true)), .q (.bin .leq (.t 11) (.t 12))⟩, ⟨(some 14), none, .q (.pick (.t 10) (.t 13) (.c (.sc (.bool false))))⟩, ⟨(some 6), none, .q (.mov (.t 14))⟩])
  .ret))
theorem K58 : Tryd.f58.body.bind (comp Tryd.prog) = some A58 ∧ Tryd.f58.ntmps = 15 ∧ Tryd.f58.results.toList.mapM (resB Tryd.prog) = some [.mov (.t 6)] := ⟨by kernel_rfl, by kernel_rfl, by kernel_rfl⟩
theorem R58 (x a b : Int) : Ret Tryd.prog 58 [.sc (.int .i64 x), .sc (.int .i64 a), .sc (.int .i64 b)] (.sc (.bool (inR x a b))) [.un, .un, .un] := by
  refine Ret.run Tryd.func58 K58 (by simp) rfl rfl 500 ?_
  by_cases h : a ≤ x <;> simp [A58, iniρ, inR, h]
def A61 : AC := (.seq (.ops [⟨(some 2), none, .q (.mov (.c (.sc (.bool false))))⟩])
  (.seq (.ops [⟨(some 3), none, .q (.mov (.t 0))⟩, ⟨(some 4), none, .q (.cvi .i64 (.t 3))⟩, ⟨(some 5), none, .c (.c (.clo 58 [])) [(.t 4), (.c (.sc (.int .i64 97))), (.c (.sc (.int .i64 122)))]⟩, ⟨(some 2), none, .q (.mov (.t 5))⟩])
  .ret))
theorem K61 : Tryd.f61.body.bind (comp Tryd.prog) = some A61 ∧ Tryd.f61.ntmps = 6 ∧ Tryd.f61.results.toList.mapM (resB Tryd.prog) = some [.mov (.t 2)] := ⟨by kernel_rfl, by kernel_rfl, by kernel_rfl⟩
theorem R61 (c : UInt8) : Ret Tryd.prog 61 [.sc (.int .u8 c.toNat)] (.sc (.bool (smallI c.toNat))) [.un] := by
  have hw : IntKind.i64.wrap (c.toNat : Int) = c.toNat := wrap_i64 (by omega) (by have := c.toNat_lt; omega)
  refine Ret.run Tryd.func61 K61 (by simp) rfl rfl 500 ?_
  simp [A61, iniρ, hw]
  refine callK.ro 0 rfl (by kernel_rfl) (by simp [roc_sc]) (R58 c.toNat 97 122) rfl rfl rfl ?_
  simp [inR, smallI]
def A62 : AC := (.seq (.ops [⟨(some 2), none, .q (.mov (.c (.sc (.bool false))))⟩])
  (.seq (.ops [⟨(some 3), none, .q (.mov (.t 0))⟩, ⟨(some 4), none, .q (.cvi .i64 (.t 3))⟩, ⟨(some 5), none, .c (.c (.clo 58 [])) [(.t 4), (.c (.sc (.int .i64 48))), (.c (.sc (.int .i64 57)))]⟩, ⟨(some 2), none, .q (.mov (.t 5))⟩])
  .ret))
theorem K62 : Tryd.f62.body.bind (comp Tryd.prog) = some A62 ∧ Tryd.f62.ntmps = 6 ∧ Tryd.f62.results.toList.mapM (resB Tryd.prog) = some [.mov (.t 2)] := ⟨by kernel_rfl, by kernel_rfl, by kernel_rfl⟩
theorem R62 (c : UInt8) : Ret Tryd.prog 62 [.sc (.int .u8 c.toNat)] (.sc (.bool (figI c.toNat))) [.un] := by
  have hw : IntKind.i64.wrap (c.toNat : Int) = c.toNat := wrap_i64 (by omega) (by have := c.toNat_lt; omega)
  refine Ret.run Tryd.func62 K62 (by simp) rfl rfl 500 ?_
  simp [A62, iniρ, hw]
  refine callK.ro 0 rfl (by kernel_rfl) (by simp [roc_sc]) (R58 c.toNat 48 57) rfl rfl rfl ?_
  simp [inR, figI]
def lttI (n : Int) : Bool := smallI n || figI n || n == 46 || n == 45 || n == 95
def letL : List UInt8 → Bool
  | [] => true
  | c :: l => lttI (c.toNat : Int) && letL l
def partOk (s : ByteArray) : Bool := letL s.data.toList && (inR s.size 1 12 && !(s.toList == [46]) && !(s.toList == [46, 46]))
def A57 : AC := (.seq (.ops [⟨(some 2), none, .q (.mov (.c (.sc (.bool false))))⟩])
  (.seq (.ops [⟨(some 3), none, .q (.mov (.t 0))⟩, ⟨(some 4), none, .c (.c (.clo 61 [])) [(.t 3)]⟩, ⟨(some 5), none, .q (.mov (.t 4))⟩, ⟨(some 6), (some (5, false)), .q (.mov (.t 0))⟩, ⟨(some 7), (some (5, false)), .c (.c (.clo 62 [])) [(.t 6)]⟩, ⟨(some 8), none, .q (.pick (.t 5) (.c (.sc (.bool true))) (.t 7))⟩, ⟨(some 9), none, .q (.mov (.t 8))⟩, ⟨(some 10), (some (9, false)), .q (.mov (.t 0))⟩, ⟨(some 11), (some (9, false)), .q (.bin .eql (.t 10) (.c (.sc (.int .u8 46))))⟩, ⟨(some 12), none, .q (.pick (.t 9) (.c (.sc (.bool true))) (.t 11))⟩, ⟨(some 13), none, .q (.mov (.t 12))⟩, ⟨(some 14), (some (13, false)), .q (.mov (.t 0))⟩, ⟨(some 15), (some (13, false)), .q (.bin .eql (.t 14) (.c (.sc (.int .u8 45))))⟩, ⟨(some 16), none, .q (.pick (.t 13) (.c (.sc (.bool true))) (.t 15))⟩, ⟨(some 17), none, .q (.mov (.t 16))⟩, ⟨(some 18), (some (17, false)), .q (.mov (.t 0))⟩, ⟨(some 19), (some (17, false)), .q (.bin .eql (.t 18) (.c (.sc (.int .u8 95))))⟩, ⟨(some 20), none, .q (.pick (.t 17) (.c (.sc (.bool true))) (.t 19))⟩, ⟨(some 2), none, .q (.mov (.t 20))⟩])
  .ret))
theorem K57 : Tryd.f57.body.bind (comp Tryd.prog) = some A57 ∧ Tryd.f57.ntmps = 21 ∧ Tryd.f57.results.toList.mapM (resB Tryd.prog) = some [.mov (.t 2)] := ⟨by kernel_rfl, by kernel_rfl, by kernel_rfl⟩
theorem R57 (c : UInt8) : Ret Tryd.prog 57 [.sc (.int .u8 c.toNat)] (.sc (.bool (lttI c.toNat))) [.un] := by
  refine Ret.run Tryd.func57 K57 (by simp) rfl rfl 500 ?_
  simp [A57, iniρ]
  refine callK.ro 0 rfl (by kernel_rfl) (by simp [roc_sc]) (R61 c) rfl rfl rfl ?_
  cases h1 : smallI (c.toNat : Int)
  case true => simp [lttI, h1]
  simp
  refine callK.ro 0 rfl (by kernel_rfl) (by simp [roc_sc]) (R62 c) rfl rfl rfl ?_
  cases h2 : figI (c.toNat : Int)
  case true => simp [lttI, h1, h2]
  by_cases h3 : (c.toNat : Int) = 46
  · simp [lttI, h1, h2, h3]
  by_cases h4 : (c.toNat : Int) = 45
  · simp [lttI, h1, h2, h3, h4]
  simp [lttI, h1, h2, h3, h4]
def A51 : AC := (.seq (.ops [⟨(some 2), none, .q (.mov (.c (.sc (.bool false))))⟩])
  (.seq (.seq (.ops [⟨(some 3), none, .q (.mov (.c (.sc (.int .i64 0))))⟩])
  (.block 0 (.loop (.seq (.seq (.ops [⟨(some 4), none, .q (.mov (.t 3))⟩, ⟨(some 5), none, .q (.mov (.t 0))⟩, ⟨(some 6), none, .q (.slen (.t 5))⟩, ⟨(some 7), none, .q (.bin .lss (.t 4) (.t 6))⟩])
  (.cond (.t 7) .skip
  (.exit 0)))
  (.seq (.block 1 (.seq (.ops [⟨(some 10), none, .q (.mov (.t 0))⟩, ⟨(some 11), none, .q (.mov (.t 3))⟩, ⟨(some 12), none, .q (.idx (.t 10) (.t 11))⟩, ⟨(some 13), none, .c (.c (.clo 57 [])) [(.t 12)]⟩, ⟨(some 14), none, .q (.not (.t 13))⟩])
  (.cond (.t 14) (.seq (.ops [⟨(some 2), none, .q (.mov (.c (.sc (.bool false))))⟩])
  .ret)
  .skip)))
  (.ops [⟨(some 8), none, .q (.mov (.t 3))⟩, ⟨(some 9), none, .q (.bin .add (.t 8) (.c (.sc (.int .i64 1))))⟩, ⟨(some 3), none, .q (.mov (.t 9))⟩]))))))
  (.seq (.ops [⟨(some 15), none, .q (.mov (.t 0))⟩, ⟨(some 16), none, .q (.slen (.t 15))⟩, ⟨(some 17), none, .c (.c (.clo 58 [])) [(.t 16), (.c (.sc (.int .i64 1))), (.c (.sc (.int .i64 12)))]⟩, ⟨(some 18), none, .q (.mov (.t 17))⟩, ⟨(some 19), (some (18, true)), .q (.mov (.t 0))⟩, ⟨(some 20), (some (18, true)), .q (.bin .neq (.t 19) (.c (.sc (.string ⟨#[46]⟩))))⟩, ⟨(some 21), none, .q (.pick (.t 18) (.t 20) (.c (.sc (.bool false))))⟩, ⟨(some 22), none, .q (.mov (.t 21))⟩, ⟨(some 23), (some (22, true)), .q (.mov (.t 0))⟩, ⟨(some 24), (some (22, true)), .q (.bin .neq (.t 23) (.c (.sc (.string ⟨#[46, 46]⟩))))⟩, ⟨(some 25), none, .q (.pick (.t 22) (.t 24) (.c (.sc (.bool false))))⟩, ⟨(some 2), none, .q (.mov (.t 25))⟩])
  .ret)))
theorem K51 : Tryd.f51.body.bind (comp Tryd.prog) = some A51 ∧ Tryd.f51.ntmps = 26 ∧ Tryd.f51.results.toList.mapM (resB Tryd.prog) = some [.mov (.t 2)] := ⟨by kernel_rfl, by kernel_rfl, by kernel_rfl⟩
theorem R51 (s : ByteArray) (hs : s.size ≤ 140737488351232) : Ret Tryd.prog 51 [.sc (.string s)] (.sc (.bool (partOk s))) [.un] := by
  refine Ret.run Tryd.func51 K51 (by simp) rfl rfl 500 ?_
  simp [A51, iniρ]
  refine T.rounds (μ := fun i : List UInt8 × List UInt8 => i.2.length)
    (fun i t => i.1 ++ i.2 = s.data.toList ∧ letL i.2 = letL s.data.toList ∧ t.ρ 0 = .sc (.string s) ∧ t.ρ 3 = .sc (.int .i64 i.1.length) ∧ t.h = h0 ∧ t.n = 26) ([], s.data.toList) (by simp [upd_app]) ?_
  rintro ⟨pre, rest⟩ ⟨ρ, hh, n⟩ ⟨hx, hE, k0, k3, rfl, rfl⟩
  simp only at hx hE k0 k3
  have hsz := str_len hx
  refine run_ok (n := 400) ?_
  cases rest with
  | nil =>
    simp at hsz
    simp [k0, k3, hsz]
    refine T.on 400 ?_
    simp [k0]
    refine callK.ro 0 rfl (by kernel_rfl) (by simp [roc_sc]) (R58 s.size 1 12) rfl rfl rfl ?_
    have hL : letL s.data.toList = true := by rw [← hE]; rfl
    cases h1 : inR s.size 1 12
    case false => simp [partOk, h1]
    by_cases h2 : s.toList = [46]
    case pos => simp [k0, partOk, h1, h2]
    have h2' : (s.toList == [46]) = false := by simpa using h2
    by_cases h3 : s.toList = [46, 46]
    · simp [k0, partOk, h1, h2, h2', h3, hL]
    · have h3' : (s.toList == [46, 46]) = false := by simpa using h3
      simp [k0, partOk, h1, h2, h2', h3, h3', hL]
  | cons c rest =>
    have hg := str_get hx
    simp at hsz
    have hlt : (pre.length : Int) < s.size := by omega
    have hw : IntKind.i64.wrap ((pre.length : Int) + 1) = pre.length + 1 := wrap_i64 (by omega) (by omega)
    simp [k0, k3, hlt, hg]
    refine callK.ro 0 rfl (by kernel_rfl) (by simp [roc_sc]) (R57 c) rfl rfl rfl ?_
    cases h1 : lttI (c.toNat : Int)
    · have : partOk s = false := by simp [partOk, ← hE, letL, h1]
      simp [this]
    · simp [k3, hw]
      refine ⟨pre ++ [c], rest, by simp, _, Le.refl _, ?_⟩
      simp [hx, k0, upd_app, ← hE, letL, h1]
def splitP (s : ByteArray) (b : Int) : Nat → Nat → List UInt8 → List ByteArray
  | f, i, [] => [s.extract f i]
  | f, i, c :: l => if (c.toNat : Int) = b then s.extract f i :: splitP s b (i + 1) (i + 1) l else splitP s b f (i + 1) l
def splitS (s : ByteArray) (b : Int) : List ByteArray := splitP s b 0 0 s.data.toList
structure Opt where
  v : Bool
def A50 : AC := (.seq (.ops [⟨(some 4), none, .q (.mov (.c .em))⟩])
  (.seq (.ops [⟨(some 8), none, .w (.bsl 1 0 [] [])⟩, ⟨(some 5), none, .q (.mov (.t 8))⟩])
  (.seq (.ops [⟨(some 6), none, .q (.mov (.c (.sc (.int .i64 0))))⟩])
  (.seq (.seq (.ops [⟨(some 7), none, .q (.mov (.c (.sc (.int .i64 0))))⟩])
  (.block 0 (.loop (.seq (.seq (.ops [⟨(some 9), none, .q (.mov (.t 7))⟩, ⟨(some 10), none, .q (.mov (.t 0))⟩, ⟨(some 11), none, .q (.slen (.t 10))⟩, ⟨(some 12), none, .q (.bin .leq (.t 9) (.t 11))⟩])
  (.cond (.t 12) .skip
  (.exit 0)))
  (.seq (.block 1 (.seq (.ops [⟨(some 15), none, .q (.mov (.t 7))⟩, ⟨(some 16), none, .q (.mov (.t 0))⟩, ⟨(some 17), none, .q (.slen (.t 16))⟩, ⟨(some 18), none, .q (.bin .eql (.t 15) (.t 17))⟩, ⟨(some 19), none, .q (.mov (.t 18))⟩, ⟨(some 20), (some (19, false)), .q (.mov (.t 0))⟩, ⟨(some 21), (some (19, false)), .q (.mov (.t 7))⟩, ⟨(some 22), (some (19, false)), .q (.idx (.t 20) (.t 21))⟩, ⟨(some 23), (some (19, false)), .q (.mov (.t 1))⟩, ⟨(some 24), (some (19, false)), .q (.bin .eql (.t 22) (.t 23))⟩, ⟨(some 25), none, .q (.pick (.t 19) (.c (.sc (.bool true))) (.t 24))⟩])
  (.cond (.t 25) (.seq (.ops [⟨(some 26), none, .q (.mov (.t 5))⟩, ⟨(some 27), none, .q (.mov (.t 0))⟩, ⟨(some 28), none, .q (.mov (.t 6))⟩, ⟨(some 29), none, .q (.mov (.t 7))⟩, ⟨(some 30), none, .q (.subs (.t 27) (some (.t 28)) (some (.t 29)))⟩, ⟨(some 31), none, .w (.bsl 1 1 [(.sc (.string ⟨#[]⟩))] [(0, 1, (.t 30))])⟩, ⟨(some 32), none, .w (.app 1 16 false (.t 26) (.t 31))⟩, ⟨(some 5), none, .q (.mov (.t 32))⟩])
  (.ops [⟨(some 33), none, .q (.mov (.t 7))⟩, ⟨(some 34), none, .q (.bin .add (.t 33) (.c (.sc (.int .i64 1))))⟩, ⟨(some 6), none, .q (.mov (.t 34))⟩]))
  .skip)))
  (.ops [⟨(some 13), none, .q (.mov (.t 7))⟩, ⟨(some 14), none, .q (.bin .add (.t 13) (.c (.sc (.int .i64 1))))⟩, ⟨(some 7), none, .q (.mov (.t 14))⟩]))))))
  (.seq (.ops [⟨(some 35), none, .q (.mov (.t 5))⟩, ⟨(some 4), none, .q (.mov (.t 35))⟩])
  .ret)))))
theorem K50 : Tryd.f50.body.bind (comp Tryd.prog) = some A50 ∧ Tryd.f50.ntmps = 36 ∧ Tryd.f50.results.toList.mapM (resB Tryd.prog) = some [.mov (.t 4)] := ⟨by kernel_rfl, by kernel_rfl, by kernel_rfl⟩
theorem R50 (s : ByteArray) (b : Int) (hs : s.size ≤ 1048576) : Ret Tryd.prog 50 [.sc (.string s), .sc (.int .u8 b)] (.own (rows Ty.str.oc (splitS s b)) (splitS s b).length 1) [.un, .un] := by
  refine Ret.run Tryd.func50 K50 (by simp) rfl rfl 900 ?_
  simp [A50, iniρ, over]
  -- ended: the last part is out
  refine T.rounds (μ := fun i : List UInt8 × List UInt8 × List ByteArray × Nat × Opt => i.2.1.length + (if i.2.2.2.2.v then 0 else 1))
    (fun i t => i.1 ++ i.2.1 = s.data.toList ∧ i.2.2.2.1 ≤ i.1.length ∧ i.2.2.1.length ≤ i.1.length + (if i.2.2.2.2.v then 1 else 0) ∧ (if i.2.2.2.2.v then i.2.1 = [] ∧ i.2.2.1 = splitS s b else i.2.2.1 ++ splitP s b i.2.2.2.1 i.1.length i.2.1 = splitS s b) ∧
      t.ρ 0 = .sc (.string s) ∧ t.ρ 1 = .sc (.int .u8 b) ∧ t.ρ 5 = .sl 8 0 i.2.2.1.length 1 false ∧ (i.2.2.2.2.v = false → t.ρ 6 = .sc (.int .i64 i.2.2.2.1)) ∧ t.ρ 7 = .sc (.int .i64 (i.1.length + (if i.2.2.2.2.v then 1 else 0))) ∧ t.h 8 = some (some (rows Ty.str.oc i.2.2.1)) ∧ t.h 31 = none ∧ t.h 32 = none ∧ t.n = 36) ([], s.data.toList, [], 0, ⟨false⟩) (by simp [upd_app, rows_nil, splitS]) ?_
  rintro ⟨pre, rest, out, f, ⟨e⟩⟩ ⟨ρ, hh, n⟩ ⟨hx, hf, ho, hE, k0, k1, k5, k6, k7, k8, f1, f2, rfl⟩
  simp only at hx hf ho hE k0 k1 k5 k6 k7 k8 f1 f2
  have hsz := str_len hx
  refine run_ok (n := 400) ?_
  cases e with
  | true =>
    simp at hE k7
    obtain ⟨rfl, hE⟩ := hE
    simp at hsz
    have h1 : ¬ ((pre.length : Int) + 1 ≤ s.size) := by omega
    simp [k0, k7, h1]
    refine T.on 400 ?_
    have hid : idfree.idfreeL (rows Ty.str.oc (splitS s b)) = true := Ty.str.frL _
    simp [k5, k8, ex1, hE, str_ocl, hid]
  | false =>
    simp at hE k6 k7 ho
    have hps : pre.length ≤ s.size := by rw [hsz]; simp
    have hw : IntKind.i64.wrap ((pre.length : Int) + 1) = pre.length + 1 := wrap_i64 (by omega) (by omega)
    have hcap : (out.length + 1) * 16 ≤ 140737488355328 := by omega
    have hap : ∀ (l : List ByteArray) (g : ByteArray), rows Ty.str.oc l ++ [.sc (.string g)] = rows Ty.str.oc (l ++ [g]) := fun l g => by rw [rows_append]; rfl
    cases rest with
    | nil =>
      simp at hsz
      simp [k0, k1, k5, k6, k7, k8, f1, f2, hsz, hw, over, str_ocl, hcap, hap, hf]
      refine ⟨pre, [], out ++ [s.extract f pre.length], f, ⟨true⟩, ⟨rfl, rfl⟩, _, Le.reseat [0, 1, 5, 7] [(32, 8)] (by simp) (by simp [upd_app, menB, idfree, k0, k1]) ?_, ?_⟩
      · intro b' hb cs hcs
        simp at hb
        subst hb
        simp [upd_app] at hcs
        subst hcs
        exact rows_all (fun x c hc => (Ty.str.ow x c hc).fr) _
      · have hE2 : out ++ [s.extract f pre.length] = splitS s b := hE
        simp [upd_app, k0, k1, hE2]
        refine ⟨by simpa using hx, hf, ?_⟩
        rw [← hE2]; simp; omega
    | cons c rest =>
      have hg := str_get hx
      simp at hsz
      have hlt : (pre.length : Int) < s.size := by omega
      have hlt2 : pre.length < s.size := by omega
      have hle : (pre.length : Int) ≤ s.size := by omega
      have hne : ¬ ((pre.length : Int) = s.size) := by omega
      have hne2 : ¬ (pre.length = s.size) := by omega
      rw [splitP] at hE
      by_cases hc : (c.toNat : Int) = b
      · rw [if_pos hc] at hE
        simp [k0, k1, k5, k6, k7, k8, f1, f2, hlt, hle, hne, hne2, hg, hc, hw, hps, over, str_ocl, hcap, hap, hf]
        refine ⟨pre ++ [c], rest, out ++ [s.extract f pre.length], pre.length + 1, ⟨false⟩, by simp, _, Le.reseat [0, 1, 5, 6, 7] [(32, 8)] (by simp) (by simp [upd_app, menB, idfree, k0, k1]) ?_, ?_⟩
        · intro b' hb cs hcs
          simp at hb
          subst hb
          simp [upd_app] at hcs
          subst hcs
          exact rows_all (fun x c hc => (Ty.str.ow x c hc).fr) _
        · simp [upd_app, k0, k1, hx, hE]
          omega
      · have hcb : ((c.toNat : Int) == b) = false := by simpa using hc
        rw [if_neg hc] at hE
        simp [k0, k1, k5, k6, k7, k8, f1, f2, hlt, hle, hne, hne2, hg, hc, hcb, hw, over, str_ocl, hap]
        refine ⟨pre ++ [c], rest, out, f, ⟨false⟩, by simp, _, Le.refl _, ?_⟩
        simp [upd_app, k0, k1, k5, k6, k8, f1, f2, hx, hE]
        omega
def allPart : List ByteArray → Bool
  | [] => true
  | x :: l => partOk x && allPart l
def pathOk (s : ByteArray) : Bool := allPart (splitS s 47) && decide ((splitS s 47).length ≤ 4)
theorem splitP_size (s : ByteArray) (b : Int) : ∀ (l : List UInt8) (f i : Nat), ∀ x ∈ splitP s b f i l, x.size ≤ s.size
  | [], f, i, x, h => by
    simp [splitP] at h
    subst h
    rw [ByteArray.size_extract]; omega
  | c :: l, f, i, x, h => by
    rw [splitP] at h
    split at h
    · rcases List.mem_cons.1 h with rfl | h
      · rw [ByteArray.size_extract]; omega
      · exact splitP_size s b l _ _ x h
    · exact splitP_size s b l _ _ x h
theorem splitP_len (s : ByteArray) (b : Int) : ∀ (l : List UInt8) (f i : Nat), (splitP s b f i l).length ≤ l.length + 1
  | [], f, i => by simp [splitP]
  | c :: l, f, i => by
    rw [splitP]
    split
    · have := splitP_len s b l (i + 1) (i + 1); simp; omega
    · have := splitP_len s b l f (i + 1); simp; omega
def A45 : AC := (.seq (.ops [⟨(some 2), none, .q (.mov (.c (.sc (.bool false))))⟩])
  (.seq (.ops [⟨(some 5), none, .q (.mov (.t 0))⟩, ⟨(some 6), none, .c (.c (.clo 50 [])) [(.t 5), (.c (.sc (.int .u8 47)))]⟩, ⟨(some 3), none, .q (.mov (.t 6))⟩])
  (.seq (.seq (.ops [⟨(some 4), none, .q (.mov (.c (.sc (.int .i64 0))))⟩])
  (.block 0 (.loop (.seq (.seq (.ops [⟨(some 7), none, .q (.mov (.t 4))⟩, ⟨(some 8), none, .q (.mov (.t 3))⟩, ⟨(some 9), none, .q (.llen (.t 8))⟩, ⟨(some 10), none, .q (.bin .lss (.t 7) (.t 9))⟩])
  (.cond (.t 10) .skip
  (.exit 0)))
  (.seq (.block 1 (.seq (.ops [⟨(some 13), none, .q (.mov (.t 3))⟩, ⟨(some 14), none, .q (.mov (.t 4))⟩, ⟨(some 15), none, .q (.iadr 1 (.t 13) (.t 14))⟩, ⟨(some 16), none, .q (.load false 1 (.t 15))⟩, ⟨(some 17), none, .c (.c (.clo 51 [])) [(.t 16)]⟩, ⟨(some 18), none, .q (.not (.t 17))⟩])
  (.cond (.t 18) (.seq (.ops [⟨(some 2), none, .q (.mov (.c (.sc (.bool false))))⟩])
  .ret)
  .skip)))
  (.ops [⟨(some 11), none, .q (.mov (.t 4))⟩, ⟨(some 12), none, .q (.bin .add (.t 11) (.c (.sc (.int .i64 1))))⟩, ⟨(some 4), none, .q (.mov (.t 12))⟩]))))))
  (.seq (.ops [⟨(some 19), none, .q (.mov (.t 3))⟩, ⟨(some 20), none, .q (.llen (.t 19))⟩, ⟨(some 21), none, .q (.bin .leq (.t 20) (.c (.sc (.int .i64 4))))⟩, ⟨(some 2), none, .q (.mov (.t 21))⟩])
  .ret))))
theorem K45 : Tryd.f45.body.bind (comp Tryd.prog) = some A45 ∧ Tryd.f45.ntmps = 22 ∧ Tryd.f45.results.toList.mapM (resB Tryd.prog) = some [.mov (.t 2)] := ⟨by kernel_rfl, by kernel_rfl, by kernel_rfl⟩
theorem R45 (s : ByteArray) (hs : s.size ≤ 1048576) : Ret Tryd.prog 45 [.sc (.string s)] (.sc (.bool (pathOk s))) [.un] := by
  have hz : ∀ x ∈ splitS s 47, x.size ≤ s.size := splitP_size s 47 _ 0 0
  have hl : (splitS s 47).length ≤ s.size + 1 := by
    have := splitP_len s 47 s.data.toList 0 0
    simpa [splitS] using this
  obtain ⟨ps, hps⟩ : ∃ ps, ps = splitS s 47 := ⟨_, rfl⟩
  have rs := R50 s 47 hs
  rw [← hps] at hz hl rs
  refine Ret.run Tryd.func45 K45 (by simp) rfl rfl 900 ?_
  simp [A45, iniρ]
  refine callK.own 6 rfl (by kernel_rfl) (by simp [roc_sc]) rs (Ty.str.flo ps) (by simp) rfl ?_
  simp
  refine T.rounds (μ := fun i : List ByteArray × List ByteArray => i.2.length)
    (fun i t => i.1 ++ i.2 = ps ∧ allPart i.2 = allPart ps ∧ t.ρ 3 = .sl 6 0 ps.length 1 false ∧ t.ρ 4 = .sc (.int .i64 i.1.length) ∧ t.h 6 = some (some (rows Ty.str.oc ps)) ∧ t.n = 22) ([], ps) (by simp [upd_app]) ?_
  rintro ⟨pre, rest⟩ ⟨ρ, hh, n⟩ ⟨hx, hE, k3, k4, k6, rfl⟩
  simp only at hx hE k3 k4 k6
  refine run_ok (n := 400) ?_
  cases rest with
  | nil =>
    have hxl : pre.length = ps.length := by rw [← hx]; simp
    have hA : allPart ps = true := by rw [← hE]; rfl
    simp [k3, k4, hxl]
    refine T.on 400 ?_
    simp [k3, pathOk, ← hps, hA]
    try omega
  | cons x rest =>
    have hle : pre.length + (rest.length + 1) = ps.length := by rw [← hx]; simp
    have hlt : (pre.length : Int) < ps.length := by omega
    have hlt2 : pre.length < ps.length := by omega
    have hw : IntKind.i64.wrap ((pre.length : Int) + 1) = pre.length + 1 := wrap_i64 (by omega) (by omega)
    have hd := rows_drop Ty.str.ocn pre (x :: rest)
    rw [hx, rows_cons] at hd
    have hd : List.drop pre.length (rows Ty.str.oc ps) = AV.sc (.string x) :: rows Ty.str.oc rest := by
      have h2 := hd
      rwa [show pre.length * Ty.str.n = pre.length from Nat.mul_one _] at h2
    simp [k3, k4, k6, hlt, hlt2, hd]
    have hxz := hz x (by rw [← hx]; simp)
    refine callK.ro 0 rfl (by kernel_rfl) (by simp [roc_sc]) (R51 x (by omega)) rfl rfl rfl ?_
    cases h1 : partOk x
    · have hA : allPart ps = false := by rw [← hE]; simp [allPart, h1]
      simp [pathOk, ← hps, hA]
    · simp [k4, hw]
      refine ⟨pre ++ [x], rest, by simp, _, Le.refl _, ?_⟩
      simp [hx, k3, k6, upd_app, ← hE, allPart, h1]
structure FlP where
  v : Bool
def gtrP (a b : ByteArray) : Bool := !Op.bytesLess a.toList b.toList && !(a.toList == b.toList)
def putF (f : File) : List File → Bool → List File
  | [], d => if d then [] else [f]
  | x :: xs, d => if x.path.toList = f.path.toList then putF f xs d else if (!d && gtrP x.path f.path) = true then f :: x :: putF f xs true else x :: putF f xs d
theorem fileSc (xs : List File) : plain.plainL (rows File.ty.oc xs) = true := plainL_of (rows_all (q := plain) (fun x c hc => by simp [File.oce] at hc; rcases hc with rfl | rfl <;> rfl) xs)
theorem fileId (xs : List File) : ∀ y ∈ rows File.ty.oc xs, idfree y = true := rows_all (fun x c hc => (File.ty.ow x c hc).fr) xs
def A42 : AC := (.seq (.ops [⟨(some 3), none, .w (.box (.t 1))⟩, ⟨(some 4), none, .q (.mov (.c .em))⟩])
  (.seq (.ops [⟨(some 8), none, .w (.bsl 2 0 [] [])⟩, ⟨(some 5), none, .q (.mov (.t 8))⟩])
  (.seq (.ops [⟨(some 6), none, .q (.mov (.c (.sc (.bool false))))⟩])
  (.seq (.seq (.ops [⟨(some 7), none, .q (.mov (.c (.sc (.int .i64 0))))⟩])
  (.block 0 (.loop (.seq (.seq (.ops [⟨(some 9), none, .q (.mov (.t 7))⟩, ⟨(some 10), none, .q (.mov (.t 0))⟩, ⟨(some 11), none, .q (.llen (.t 10))⟩, ⟨(some 12), none, .q (.bin .lss (.t 9) (.t 11))⟩])
  (.cond (.t 12) .skip
  (.exit 0)))
  (.seq (.block 1 (.seq (.seq (.any [(⟨(some 15), none, .q (.mov (.t 0))⟩, []), (⟨(some 16), none, .q (.mov (.t 7))⟩, []), (⟨(some 17), none, .q (.iadr 2 (.t 15) (.t 16))⟩, [0, 1]), (⟨(some 18), none, .q (.fadr 0 (.t 17))⟩, [2]), (⟨(some 19), none, .q (.load false 1 (.t 18))⟩, [3]), (⟨(some 20), none, .q (.fadr 0 (.t 3))⟩, []), (⟨(some 21), none, .q (.load false 1 (.t 20))⟩, [5]), (⟨(some 22), none, .q (.bin .eql (.t 19) (.t 21))⟩, [4, 6])])
  (.cond (.t 22) (.exit 1)
  .skip))
  (.seq (.seq (.any [(⟨(some 23), none, .q (.mov (.t 6))⟩, []), (⟨(some 24), none, .q (.not (.t 23))⟩, [0]), (⟨(some 25), none, .q (.mov (.t 24))⟩, [1]), (⟨(some 26), (some (25, true)), .q (.mov (.t 0))⟩, [2]), (⟨(some 27), (some (25, true)), .q (.mov (.t 7))⟩, [2]), (⟨(some 28), (some (25, true)), .q (.iadr 2 (.t 26) (.t 27))⟩, [3, 4, 2]), (⟨(some 29), (some (25, true)), .q (.fadr 0 (.t 28))⟩, [5, 2]), (⟨(some 30), (some (25, true)), .q (.load false 1 (.t 29))⟩, [6, 2]), (⟨(some 31), (some (25, true)), .q (.fadr 0 (.t 3))⟩, [2]), (⟨(some 32), (some (25, true)), .q (.load false 1 (.t 31))⟩, [8, 2]), (⟨(some 33), (some (25, true)), .q (.bin .gtr (.t 30) (.t 32))⟩, [7, 9, 2]), (⟨(some 34), none, .q (.pick (.t 25) (.t 33) (.c (.sc (.bool false))))⟩, [2, 10])])
  (.cond (.t 34) (.seq (.ops [⟨(some 35), none, .q (.mov (.t 5))⟩, ⟨(some 36), none, .q (.load true 2 (.t 3))⟩, ⟨(some 37), none, .w (.bsl 2 1 [(.sc (.string ⟨#[]⟩)), (.sc (.string ⟨#[]⟩))] [(0, 2, (.t 36))])⟩, ⟨(some 38), none, .w (.app 2 32 false (.t 35) (.t 37))⟩, ⟨(some 5), none, .q (.mov (.t 38))⟩])
  (.ops [⟨(some 6), none, .q (.mov (.c (.sc (.bool true))))⟩]))
  .skip))
  (.ops [⟨(some 39), none, .q (.mov (.t 5))⟩, ⟨(some 40), none, .q (.mov (.t 0))⟩, ⟨(some 41), none, .q (.mov (.t 7))⟩, ⟨(some 42), none, .q (.iadr 2 (.t 40) (.t 41))⟩, ⟨(some 43), none, .q (.load true 2 (.t 42))⟩, ⟨(some 44), none, .w (.bsl 2 1 [(.sc (.string ⟨#[]⟩)), (.sc (.string ⟨#[]⟩))] [(0, 2, (.t 43))])⟩, ⟨(some 45), none, .w (.app 2 32 false (.t 39) (.t 44))⟩, ⟨(some 5), none, .q (.mov (.t 45))⟩]))))
  (.ops [⟨(some 13), none, .q (.mov (.t 7))⟩, ⟨(some 14), none, .q (.bin .add (.t 13) (.c (.sc (.int .i64 1))))⟩, ⟨(some 7), none, .q (.mov (.t 14))⟩]))))))
  (.seq (.seq (.ops [⟨(some 46), none, .q (.mov (.t 6))⟩, ⟨(some 47), none, .q (.not (.t 46))⟩])
  (.cond (.t 47) (.ops [⟨(some 48), none, .q (.mov (.t 5))⟩, ⟨(some 49), none, .q (.load true 2 (.t 3))⟩, ⟨(some 50), none, .w (.bsl 2 1 [(.sc (.string ⟨#[]⟩)), (.sc (.string ⟨#[]⟩))] [(0, 2, (.t 49))])⟩, ⟨(some 51), none, .w (.app 2 32 false (.t 48) (.t 50))⟩, ⟨(some 5), none, .q (.mov (.t 51))⟩])
  .skip))
  (.seq (.ops [⟨(some 52), none, .q (.mov (.t 5))⟩, ⟨(some 4), none, .q (.mov (.t 52))⟩])
  .ret))))))
theorem K42 : Tryd.f42.body.bind (comp Tryd.prog) = some A42 ∧ Tryd.f42.ntmps = 53 ∧ Tryd.f42.results.toList.mapM (resB Tryd.prog) = some [.mov (.t 4)] := ⟨by kernel_rfl, by kernel_rfl, by kernel_rfl⟩
set_option maxHeartbeats 1000000 in
theorem R42 (xs : List File) (f : File) (hok : File.ty.slice.ok xs) : Ret Tryd.prog 42 [.ro (rows File.ty.cs xs) xs.length, .agg (File.ty.cs f)] (.own (rows File.ty.oc (putF f xs false)) (putF f xs false).length 2) [.un, .un] := by
  have hb : xs.length * 32 ≤ 140737488351232 := hok.1
  refine Ret.run Tryd.func42 K42 (by simp) rfl rfl 900 ?_
  simp [A42, iniρ, File.cse, over]
  refine T.rounds (μ := fun i : List File × List File × List File × FlP => i.2.1.length)
    (fun i s => i.1 ++ i.2.1 = xs ∧ i.2.2.1 ++ putF f i.2.1 i.2.2.2.v = putF f xs false ∧ i.2.2.1.length ≤ i.1.length + (if i.2.2.2.v then 1 else 0) ∧ s.ρ 0 = .ro (rows File.ty.cs xs) xs.length ∧ s.ρ 3 = .ref 3 0 ∧ s.ρ 5 = .sl 8 0 i.2.2.1.length 2 false ∧ s.ρ 6 = .sc (.bool i.2.2.2.v) ∧ s.ρ 7 = .sc (.int .i64 i.1.length) ∧
      s.h 3 = some (some [.sc (.string f.path), .sc (.string f.text)]) ∧ s.h 8 = some (some (rows File.ty.oc i.2.2.1)) ∧ s.h 37 = none ∧ s.h 38 = none ∧ s.h 44 = none ∧ s.h 45 = none ∧ s.h 50 = none ∧ s.h 51 = none ∧ s.n = 53) ([], xs, [], ⟨false⟩) (by simp [upd_app, rows_nil]) ?_
  rintro ⟨pre, rest, out, ⟨done⟩⟩ ⟨ρ, hh, n⟩ ⟨hx, hE, hle, h0', h3', h5', h6', h7', k3, k8, f1, f2, f3, f4, f5, f6, rfl⟩
  simp only at hx hE hle h0' h3' h5' h6' h7' k3 k8 f1 f2 f3 f4 f5 f6
  refine run_ok (n := 400) ?_
  have hpl : pre.length + rest.length = xs.length := by rw [← hx]; simp
  have hol : out.length ≤ pre.length + 1 := by split at hle <;> omega
  have hc1 : (out.length + 1) * 32 ≤ 140737488355328 := by omega
  cases rest with
  | nil =>
    simp at hx
    obtain ⟨xs0, hx0⟩ : ∃ xs0, xs0 = xs := ⟨_, rfl⟩
    rw [← hx0] at hE ⊢
    rw [hx0]
    have hpx : pre.length = xs.length := by rw [hx]
    simp [h0', h7', hpx]
    refine T.on 400 ?_
    rw [← hx0] at *
    cases done
    · have hfin : rows File.ty.oc out ++ [.sc (.string f.path), .sc (.string f.text)] = rows File.ty.oc (putF f xs0 false) := by rw [← hE, rows_append, putF]; simp [rows_cons, rows_nil, File.oce]
      have hlen : (putF f xs0 false).length = out.length + 1 := by rw [← hE, putF]; simp
      have hid : idfree.idfreeL (rows File.ty.oc (putF f xs0 false)) = true := File.frL _
      simp [h3', h5', h6', k3, k8, f5, f6, over, File.ocl, hc1, ex1, hfin, hlen, hid]
    · have hE2 : out = putF f xs0 false := by rw [← hE, putF]; simp
      simp [h5', h6', k8, ex1, File.ocl, File.frL, hE2]
  | cons x rest =>
    have hlt : (pre.length : Int) < xs.length := by simp only [List.length_cons] at hpl; omega
    have hlt2 : pre.length < xs.length := by omega
    have hd := rows_drop File.ty.csn pre (x :: rest)
    rw [hx, rows_cons] at hd
    have hd : List.drop (pre.length * 2) (rows File.ty.cs xs) = AV.sc (.string x.path) :: AV.sc (.string x.text) :: rows File.ty.cs rest := hd
    have hw : IntKind.i64.wrap ((pre.length : Int) + 1) = pre.length + 1 := wrap_i64 (by omega) (by omega)
    have hap : ∀ (l : List File) (g : File), rows File.ty.oc l ++ [.sc (.string g.path), .sc (.string g.text)] = rows File.ty.oc (l ++ [g]) := fun l g => by rw [rows_append]; simp [rows_cons, rows_nil, File.oce]
    simp [h0', h7', hlt]
    refine T.text 400 mixed (by kernel_rfl) (by kernel_rfl) ?_
    by_cases hk : x.path.toList = f.path.toList
    case pos =>
      simp [h0', h3', h7', k3, hlt, hlt2, hd, hk, hw]
      refine ⟨pre ++ [x], rest, by simp, out, ⟨done⟩, _, Le.refl _, ?_⟩
      simp [hx, h0', h3', h5', h6', k3, k8, f1, f2, f3, f4, f5, f6, upd_app]
      rw [putF, if_pos hk] at hE
      exact ⟨hE, by omega⟩
    rw [putF, if_neg hk] at hE
    have hk2 : (x.path.toList == f.path.toList) = false := by simpa using hk
    simp only [List.length_cons] at hpl
    simp [h0', h3', h7', k3, hlt, hlt2, hd, hk, hw]
    refine T.text 400 mixed (by kernel_rfl) (by kernel_rfl) ?_
    cases done
    case true =>
      simp at hE hle
      have hc2 : (out.length + 1) * 32 ≤ 140737488355328 := by omega
      simp [h0', h3', h5', h6', h7', k3, k8, f3, f4, hlt, hlt2, hd, hw, over, File.ocl, hc2, hap]
      refine ⟨pre ++ [x], rest, by simp, out ++ [x], ⟨true⟩, _, Le.reseat [0, 3, 5, 6, 7] [(45, 8), (3, 3)] (by simp) (by simp [upd_app, menB, idfree, h0', h3', h6']) ?_, ?_⟩
      · intro b hb cs hcs
        simp at hb
        rcases hb with rfl | rfl
        · simp [upd_app] at hcs
          subst hcs
          exact fileId _
        · simp [upd_app, k3] at hcs
          subst hcs
          simp [idfree]
      · simp [hx, h0', h3', h6', k3, upd_app, hE]
        omega
    simp at hle
    cases hg : Op.bytesLess x.path.toList f.path.toList
    case false =>
      have hgt : gtrP x.path f.path = true := by simp [gtrP, hg, hk2]
      simp [hgt] at hE
      have hc2 : (out.length + 1) * 32 ≤ 140737488355328 := by omega
      have hc4 : out.length + 1 + 1 ≤ xs.length + 1 := by omega
      have hc3 : (out.length + 1 + 1) * 32 ≤ 140737488355328 := Nat.le_trans (Nat.mul_le_mul_right 32 hc4) (Nat.le_trans (Nat.le_of_eq (Nat.succ_mul xs.length 32)) (Nat.le_trans (Nat.add_le_add_right hb 32) (by decide)))
      simp [h0', h3', h5', h6', h7', k3, k8, f1, f2, f3, f4, hlt, hlt2, hd, hw, hk, hk2, hg, over, File.ocl, hc2, hc3, hap]
      refine ⟨pre ++ [x], rest, by simp, out ++ [f, x], ⟨true⟩, _, Le.reseat [0, 3, 5, 6, 7] [(45, 8), (3, 3)] (by simp) (by simp [upd_app, menB, idfree, h0', h3', h6']) ?_, ?_⟩
      · intro b hb cs hcs
        simp at hb
        rcases hb with rfl | rfl
        · simp [upd_app] at hcs
          subst hcs
          exact fileId _
        · simp [upd_app, k3] at hcs
          subst hcs
          simp [idfree]
      · simp [hx, h0', h3', h6', k3, upd_app, hE]
        omega
    case true =>
      have hgt : gtrP x.path f.path = false := by simp [gtrP, hg, hk2]
      simp [hgt] at hE
      have hc2 : (out.length + 1) * 32 ≤ 140737488355328 := hc1
      simp [h0', h3', h5', h6', h7', k3, k8, f1, f2, f3, f4, hlt, hlt2, hd, hw, hk, hk2, hg, over, File.ocl, hc2, hap]
      refine ⟨pre ++ [x], rest, by simp, out ++ [x], ⟨false⟩, _, Le.reseat [0, 3, 5, 6, 7] [(45, 8), (3, 3)] (by simp) (by simp [upd_app, menB, idfree, h0', h3', h6']) ?_, ?_⟩
      · intro b hb cs hcs
        simp at hb
        rcases hb with rfl | rfl
        · simp [upd_app] at hcs
          subst hcs
          exact fileId _
        · simp [upd_app, k3] at hcs
          subst hcs
          simp [idfree]
      · simp [hx, h0', h3', h6', k3, upd_app, hE]
        omega
def above (p : Option ByteArray) (x : ByteArray) : Bool := match p with | none => true | some q => Op.bytesLess q.toList x.toList
def filesL : Option ByteArray → List File → Bool
  | _, [] => true
  | p, x :: l => pathOk x.path && (decide (x.text.size ≤ 60) && (above p x.path && filesL (some x.path) l))
def lastP : List File → Option ByteArray
  | [] => none
  | x :: l => match lastP l with | some p => some p | none => some x.path
theorem lastP_snoc : ∀ (l : List File) (x : File), lastP (l ++ [x]) = some x.path
  | [], x => rfl
  | y :: l, x => by simp only [List.cons_append, lastP, lastP_snoc l x]
def filesOk (xs : List File) : Bool := filesL none xs && decide (xs.length ≤ 30)
def A43 : AC := (.seq (.ops [⟨(some 2), none, .q (.mov (.c (.sc (.bool false))))⟩])
  (.seq (.seq (.ops [⟨(some 3), none, .q (.mov (.c (.sc (.int .i64 0))))⟩])
  (.block 0 (.loop (.seq (.seq (.ops [⟨(some 4), none, .q (.mov (.t 3))⟩, ⟨(some 5), none, .q (.mov (.t 0))⟩, ⟨(some 6), none, .q (.llen (.t 5))⟩, ⟨(some 7), none, .q (.bin .lss (.t 4) (.t 6))⟩])
  (.cond (.t 7) .skip
  (.exit 0)))
  (.seq (.block 1 (.seq (.any [(⟨(some 10), none, .q (.mov (.t 0))⟩, []), (⟨(some 11), none, .q (.mov (.t 3))⟩, []), (⟨(some 12), none, .q (.iadr 2 (.t 10) (.t 11))⟩, [0, 1]), (⟨(some 13), none, .q (.fadr 0 (.t 12))⟩, [2]), (⟨(some 14), none, .q (.load false 1 (.t 13))⟩, [3]), (⟨(some 15), none, .c (.c (.clo 45 [])) [(.t 14)]⟩, [4]), (⟨(some 16), none, .q (.not (.t 15))⟩, [5]), (⟨(some 17), none, .q (.mov (.t 16))⟩, [6, 5]), (⟨(some 18), (some (17, false)), .q (.mov (.t 0))⟩, [7]), (⟨(some 19), (some (17, false)), .q (.mov (.t 3))⟩, [7]), (⟨(some 20), (some (17, false)), .q (.iadr 2 (.t 18) (.t 19))⟩, [8, 9, 7]), (⟨(some 21), (some (17, false)), .q (.fadr 1 (.t 20))⟩, [10, 7]), (⟨(some 22), (some (17, false)), .q (.load false 1 (.t 21))⟩, [11, 7]), (⟨(some 23), (some (17, false)), .q (.slen (.t 22))⟩, [12, 7]), (⟨(some 24), (some (17, false)), .q (.bin .gtr (.t 23) (.c (.sc (.int .i64 60))))⟩, [13, 7]), (⟨(some 25), none, .q (.pick (.t 17) (.c (.sc (.bool true))) (.t 24))⟩, [7, 14]), (⟨(some 26), none, .q (.mov (.t 25))⟩, [15, 7]), (⟨(some 27), (some (26, false)), .q (.mov (.t 3))⟩, [16]), (⟨(some 28), (some (26, false)), .q (.bin .gtr (.t 27) (.c (.sc (.int .i64 0))))⟩, [17, 16]), (⟨(some 29), (some (26, false)), .q (.mov (.t 28))⟩, [18, 16, 16]), (⟨(some 30), (some (29, true)), .q (.mov (.t 0))⟩, [19]), (⟨(some 31), (some (29, true)), .q (.mov (.t 3))⟩, [19]), (⟨(some 32), (some (29, true)), .q (.bin .sub (.t 31) (.c (.sc (.int .i64 1))))⟩, [21, 19]), (⟨(some 33), (some (29, true)), .q (.iadr 2 (.t 30) (.t 32))⟩, [20, 22, 19]), (⟨(some 34), (some (29, true)), .q (.fadr 0 (.t 33))⟩, [23, 19]), (⟨(some 35), (some (29, true)), .q (.load false 1 (.t 34))⟩, [24, 19]), (⟨(some 36), (some (29, true)), .q (.mov (.t 0))⟩, [19]), (⟨(some 37), (some (29, true)), .q (.mov (.t 3))⟩, [19]), (⟨(some 38), (some (29, true)), .q (.iadr 2 (.t 36) (.t 37))⟩, [26, 27, 19]), (⟨(some 39), (some (29, true)), .q (.fadr 0 (.t 38))⟩, [28, 19]), (⟨(some 40), (some (29, true)), .q (.load false 1 (.t 39))⟩, [29, 19]), (⟨(some 41), (some (29, true)), .q (.bin .geq (.t 35) (.t 40))⟩, [25, 30, 19]), (⟨(some 42), (some (26, false)), .q (.pick (.t 29) (.t 41) (.c (.sc (.bool false))))⟩, [19, 31, 16]), (⟨(some 43), none, .q (.pick (.t 26) (.c (.sc (.bool true))) (.t 42))⟩, [16, 32])])
  (.cond (.t 43) (.seq (.ops [⟨(some 2), none, .q (.mov (.c (.sc (.bool false))))⟩])
  .ret)
  .skip)))
  (.ops [⟨(some 8), none, .q (.mov (.t 3))⟩, ⟨(some 9), none, .q (.bin .add (.t 8) (.c (.sc (.int .i64 1))))⟩, ⟨(some 3), none, .q (.mov (.t 9))⟩]))))))
  (.seq (.ops [⟨(some 44), none, .q (.mov (.t 0))⟩, ⟨(some 45), none, .q (.llen (.t 44))⟩, ⟨(some 46), none, .q (.bin .leq (.t 45) (.c (.sc (.int .i64 30))))⟩, ⟨(some 2), none, .q (.mov (.t 46))⟩])
  .ret)))
theorem K43 : Tryd.f43.body.bind (comp Tryd.prog) = some A43 ∧ Tryd.f43.ntmps = 47 ∧ Tryd.f43.results.toList.mapM (resB Tryd.prog) = some [.mov (.t 2)] := ⟨by kernel_rfl, by kernel_rfl, by kernel_rfl⟩
set_option maxHeartbeats 2000000 in
set_option maxRecDepth 100000 in
theorem R43 (xs : List File) (hb : xs.length < 4611686018427387904) (hp : ∀ x ∈ xs, x.path.size ≤ 1048576) : Ret Tryd.prog 43 [.ro (rows File.ty.cs xs) xs.length] (.sc (.bool (filesOk xs))) [.un] := by
  refine Ret.run Tryd.func43 K43 (by simp) rfl rfl 900 ?_
  simp [A43, iniρ]
  refine T.rounds (μ := fun i : List File × List File => i.2.length)
    (fun i s => i.1 ++ i.2 = xs ∧ filesL (lastP i.1) i.2 = filesL none xs ∧ s.ρ 0 = .ro (rows File.ty.cs xs) xs.length ∧ s.ρ 3 = .sc (.int .i64 i.1.length) ∧ s.h = h0 ∧ s.n = 47) ([], xs) (by simp [upd_app, lastP]) ?_
  rintro ⟨pre, rest⟩ ⟨ρ, hh, n⟩ ⟨hx, hE, k0, k3, rfl, rfl⟩
  simp only at hx hE k0 k3
  refine run_ok (n := 400) ?_
  cases rest with
  | nil =>
    have hxl : pre.length = xs.length := by rw [← hx]; simp
    have hA : filesL none xs = true := by rw [← hE]; cases lastP pre <;> rfl
    simp [k0, k3, hxl]
    refine T.on 400 ?_
    simp [k0, filesOk, hA]
    try omega
  | cons x rest =>
    have hle : pre.length + (rest.length + 1) = xs.length := by rw [← hx]; simp
    have hlt : (pre.length : Int) < xs.length := by omega
    have hlt2 : pre.length < xs.length := by omega
    have hw : IntKind.i64.wrap ((pre.length : Int) + 1) = pre.length + 1 := wrap_i64 (by omega) (by omega)
    have hd := rows_drop File.ty.csn pre (x :: rest)
    rw [hx, rows_cons] at hd
    have hd : List.drop (pre.length * 2) (rows File.ty.cs xs) = AV.sc (.string x.path) :: AV.sc (.string x.text) :: rows File.ty.cs rest := hd
    have hd1 : List.drop (pre.length * 2 + 1) (rows File.ty.cs xs) = AV.sc (.string x.text) :: rows File.ty.cs rest := by rw [← List.drop_drop, hd]; rfl
    have hxp := hp x (by rw [← hx]; simp)
    have stop : ∀ c, (pathOk x.path && (decide (x.text.size ≤ 60) && above (lastP pre) x.path)) = c → c = false → filesOk xs = false := fun c h1 h2 => by
      subst h2
      have : filesL none xs = false := by
        rw [← hE, filesL]
        cases h5 : pathOk x.path <;> cases h6 : decide (x.text.size ≤ 60) <;> cases h7 : above (lastP pre) x.path <;> simp_all
      simp [filesOk, this]
    simp [k0, k3, hlt]
    refine T.text 400 mixed (by kernel_rfl) (by kernel_rfl) ?_
    simp [k0, k3, hlt, hlt2, hd]
    refine callSK.by rfl (by kernel_rfl) rfl (R45 x.path hxp) ?_
    cases h1 : pathOk x.path
    · have := stop _ rfl (by simp [h1])
      simp [this]
    by_cases h2 : x.text.size ≤ 60
    case neg =>
      have := stop _ rfl (by simp [h2])
      have h2' : (60 : Int) < x.text.size := by omega
      simp [k0, k3, hlt, hlt2, hd1, h2', this]
    have h2' : ¬ ((60 : Int) < x.text.size) := by omega
    have fin : above (lastP pre) x.path = true → filesL (some x.path) rest = filesL none xs := fun h => by
      rw [← hE, filesL, h1, h]; simp [h2]
    rcases List.eq_nil_or_concat pre with rfl | ⟨p0, q, ep⟩
    · simp at hlt hlt2 hd1 hw
      simp [k0, k3, hlt, hlt2, hd1, h2']
      refine ⟨[x], rest, by simp, _, Le.refl _, ?_⟩
      have hF := fin rfl
      simp at hx
      simp [hx, k0, upd_app, lastP, hF, hw]
    rw [List.concat_eq_append] at ep
    subst ep
    have hq : List.drop (p0.length * 2) (rows File.ty.cs xs) = AV.sc (.string q.path) :: AV.sc (.string q.text) :: rows File.ty.cs (x :: rest) := by
      have h := rows_drop File.ty.csn p0 (q :: x :: rest)
      have e : p0 ++ q :: x :: rest = xs := by rw [← hx]; simp
      rw [e, rows_cons] at h
      exact h
    have hw0 : IntKind.i64.wrap (p0.length : Int) = p0.length := wrap_i64 (by omega) (by simp only [List.length_append] at hle; omega)
    have hl0 : p0.length < xs.length := by simp only [List.length_append] at hle; omega
    rw [lastP_snoc] at fin stop
    simp only [List.length_append, List.length_cons, List.length_nil, Nat.zero_add] at hlt hlt2 hd hd1 hw k3
    have hpos : (0 : Int) < (p0.length : Int) + 1 := by omega
    have hpos2 : (0 : Int) ≤ (p0.length : Int) + 1 := by omega
    have hlt3 : (p0.length : Int) + 1 < xs.length := by omega
    cases h3 : Op.bytesLess q.path.toList x.path.toList
    · have := stop _ rfl (by simp [above, h3])
      simp [k0, k3, hlt, hlt2, hd, hd1, h2', hpos, hpos2, hlt3, hw0, hl0, hq, h3, this]
    · have hF := fin (by simp [above, h3])
      simp [k0, k3, hlt, hlt2, hd, hd1, h2', hpos, hpos2, hlt3, hw0, hl0, hq, h3]
      refine ⟨p0 ++ [q] ++ [x], rest, by simp, _, Le.refl _, ?_⟩
      rw [lastP_snoc]
      simp at hw hx
      simp [hx, k0, upd_app, hF, hw]
      omega
theorem putF_len (f : File) : ∀ (xs : List File) (d : Bool), (putF f xs d).length ≤ xs.length + 1
  | [], d => by cases d <;> simp [putF]
  | x :: xs, d => by
    have h1 := putF_len f xs d
    rw [putF]
    split
    · simp; omega
    · split
      · have h3 : ∀ (xs : List File), (putF f xs true).length ≤ xs.length := by
          intro xs
          induction xs with
          | nil => simp [putF]
          | cons y ys ih =>
            rw [putF]
            split
            · simp; omega
            · simp; omega
        have := h3 xs
        simp; omega
      · simp; omega
theorem putF_mem (f : File) : ∀ (xs : List File) (d : Bool), ∀ x ∈ putF f xs d, x = f ∨ x ∈ xs
  | [], d, x, h => by cases d <;> simp [putF] at h; exact .inl h
  | y :: ys, d, x, h => by
    rw [putF] at h
    split at h
    · exact (putF_mem f ys d x h).imp id (List.mem_cons_of_mem _)
    · split at h
      · rcases List.mem_cons.1 h with rfl | h
        · exact .inl rfl
        · rcases List.mem_cons.1 h with rfl | h
          · exact .inr (List.mem_cons_self ..)
          · exact (putF_mem f ys true x h).imp id (List.mem_cons_of_mem _)
      · rcases List.mem_cons.1 h with rfl | h
        · exact .inr (List.mem_cons_self ..)
        · exact (putF_mem f ys d x h).imp id (List.mem_cons_of_mem _)
def putFile (xs : List File) (f : File) : List File × Bool := if filesOk (putF f xs false) = true then (putF f xs false, true) else (xs, false)
def A39 : AC := (.seq (.ops [⟨(some 3), none, .w (.box (.t 1))⟩, ⟨(some 4), none, .q (.mov (.c .em))⟩, ⟨(some 5), none, .q (.mov (.c (.sc (.bool false))))⟩])
  (.seq (.ops [⟨(some 7), none, .q (.mov (.t 0))⟩, ⟨(some 8), none, .q (.load true 2 (.t 3))⟩, ⟨(some 9), none, .c (.c (.clo 42 [])) [(.t 7), (.t 8)]⟩, ⟨(some 6), none, .q (.mov (.t 9))⟩])
  (.seq (.seq (.ops [⟨(some 10), none, .q (.mov (.t 6))⟩, ⟨(some 11), none, .c (.c (.clo 43 [])) [(.t 10)]⟩, ⟨(some 12), none, .q (.not (.t 11))⟩])
  (.cond (.t 12) (.seq (.ops [⟨(some 13), none, .w (.bsl 2 0 [] [])⟩, ⟨(some 14), none, .q (.mov (.t 0))⟩, ⟨(some 15), none, .w (.app 2 32 false (.t 13) (.t 14))⟩, ⟨(some 4), none, .q (.mov (.t 15))⟩, ⟨(some 5), none, .q (.mov (.c (.sc (.bool false))))⟩])
  .ret)
  .skip))
  (.seq (.ops [⟨(some 16), none, .q (.mov (.t 6))⟩, ⟨(some 4), none, .q (.mov (.t 16))⟩, ⟨(some 5), none, .q (.mov (.c (.sc (.bool true))))⟩])
  .ret))))
theorem K39 : Tryd.f39.body.bind (comp Tryd.prog) = some A39 ∧ Tryd.f39.ntmps = 17 ∧ Tryd.f39.results.toList.mapM (resB Tryd.prog) = some [.mov (.t 4), .mov (.t 5)] := ⟨by kernel_rfl, by kernel_rfl, by kernel_rfl⟩
theorem R39 (xs : List File) (f : File) (hok : File.ty.slice.ok xs) (hp : ∀ x ∈ xs, x.path.size ≤ 1048576) (hf : f.path.size ≤ 1048576) : Ret Tryd.prog 39 [.ro (rows File.ty.cs xs) xs.length, .agg (File.ty.cs f)] (.tup [.own (rows File.ty.oc (putFile xs f).1) (putFile xs f).1.length 2, .sc (.bool (putFile xs f).2)]) [.un, .un] := by
  have hb : xs.length * 32 ≤ 140737488351232 := hok.1
  obtain ⟨ys, hys⟩ : ∃ ys, ys = putF f xs false := ⟨_, rfl⟩
  have rp := R42 xs f hok
  have hl := putF_len f xs false
  have hm := putF_mem f xs false
  rw [← hys] at rp hl hm
  have rf := R43 ys (by omega) (fun x hx => (hm x hx).elim (fun e => e ▸ hf) (hp x))
  refine Ret.run Tryd.func39 K39 (by simp) rfl rfl 900 ?_
  simp [A39, iniρ, File.cse, over]
  refine callK.own 9 rfl (by kernel_rfl) (by simp [roc_ro, roc_agg]; rfl) rp (File.ty.flo ys) (by simp [upd_app]) rfl ?_
  simp
  refine callK.ro 0 rfl (by kernel_rfl) (by simp [File.roc8]) rf rfl rfl rfl ?_
  have hcap : xs.length * 32 ≤ 140737488355328 := by omega
  have hsc := fileSc xs
  have hfe : rows File.ty.cs xs = rows File.ty.oc xs := rfl
  cases h : filesOk ys
  · simp [putFile, ← hys, h, over, hcap, hfe, hsc, File.ocl, ex1, File.frL]
  · simp [putFile, ← hys, h, ex1, File.ocl, File.frL]
structure Cur where
  b : List Int
  i : Nat
  h : Int
def Cur.ok (c : Cur) : Prop := Ty.byte.slice.ok c.b ∧ c.i ≤ c.b.length
def Cur.cs (c : Cur) : List AV := [.ro (rows B c.b) c.b.length, .sc (.int .i64 c.i), .sc (.int .i64 c.h)]
def stepH (h : Int) : Int := IntKind.i64.wrap (IntKind.i64.wrap (h * 6364136223846793005) + 1442695040888963407)
def low8 (a : Int) : Int := IntKind.i64.wrap (((a % 2 ^ IntKind.i64.bits).toNat &&& 255 % 2 ^ IntKind.i64.bits : Nat) : Int)
def mixI (h : Int) : Int := IntKind.i64.wrap (((h.fdiv (2 ^ min 33 IntKind.i64.bits) % 2 ^ IntKind.i64.bits).toNat ^^^ (h.fdiv (2 ^ min 47 IntKind.i64.bits) % 2 ^ IntKind.i64.bits).toNat : Nat) : Int)
def byteV (c : Cur) : Int := if c.i < c.b.length then low8 (IntKind.i64.wrap (low8 (mixI (stepH c.h)) + IntKind.i64.wrap (c.b[c.i]?.getD 0))) else low8 (mixI (stepH c.h))
def byteC (c : Cur) : Cur := ⟨c.b, if c.i < c.b.length then c.i + 1 else c.i, stepH c.h⟩
theorem low8_rng (a : Int) : 0 ≤ low8 a ∧ low8 a ≤ 255 := by
  have h : (a % 2 ^ IntKind.i64.bits).toNat &&& 255 % 2 ^ IntKind.i64.bits ≤ 255 := Nat.le_trans Nat.and_le_right (Nat.mod_le _ _)
  unfold low8
  rw [wrap_i64 (by omega) (by omega)]
  omega
theorem byteV_rng (c : Cur) : 0 ≤ byteV c ∧ byteV c ≤ 255 := by
  unfold byteV
  split <;> exact low8_rng _
theorem byteC_ok {c : Cur} (h : c.ok) : (byteC c).ok := by
  refine ⟨h.1, ?_⟩
  have := h.2
  simp only [byteC]
  split <;> omega
theorem rowsB_get : ∀ (xs : List Int) (i : Nat), i < xs.length → ∃ br, List.drop i (rows B xs) = .sc (.int .u8 (xs[i]?.getD 0)) :: br
  | [], i, h => by simp at h
  | x :: xs, 0, h => ⟨rows B xs, by rw [rows_cons]; simp [B]⟩
  | x :: xs, i + 1, h => by
    obtain ⟨br, e⟩ := rowsB_get xs i (by simpa using h)
    exact ⟨br, by rw [rows_cons]; simpa [B] using e⟩
def A34 : AC := (.seq (.ops [⟨(some 2), none, .q (.mov (.c (.sc (.int .i64 0))))⟩])
  (.seq (.ops [⟨(some 4), none, .q (.mov (.t 0))⟩, ⟨(some 5), none, .q (.mov (.t 0))⟩, ⟨(some 6), none, .q (.nilc (.t 5))⟩, ⟨(some 7), none, .q (.fadr 2 (.t 6))⟩, ⟨(some 8), none, .q (.load false 1 (.t 7))⟩, ⟨(some 9), none, .q (.bin .mul (.t 8) (.c (.sc (.int .i64 6364136223846793005))))⟩, ⟨(some 10), none, .q (.bin .add (.t 9) (.c (.sc (.int .i64 1442695040888963407))))⟩, ⟨(some 11), none, .q (.nilc (.t 4))⟩, ⟨(some 12), none, .q (.fadr 2 (.t 11))⟩, ⟨none, none, .w (.store 1 (.t 12) (.t 10))⟩])
  (.seq (.any [(⟨(some 13), none, .q (.mov (.t 0))⟩, []), (⟨(some 14), none, .q (.nilc (.t 13))⟩, [0]), (⟨(some 15), none, .q (.fadr 2 (.t 14))⟩, [1]), (⟨(some 16), none, .q (.load false 1 (.t 15))⟩, [2]), (⟨(some 17), none, .q (.bin .shr (.t 16) (.c (.sc (.int .u64 33))))⟩, [3]), (⟨(some 18), none, .q (.mov (.t 0))⟩, []), (⟨(some 19), none, .q (.nilc (.t 18))⟩, [5]), (⟨(some 20), none, .q (.fadr 2 (.t 19))⟩, [6]), (⟨(some 21), none, .q (.load false 1 (.t 20))⟩, [7]), (⟨(some 22), none, .q (.bin .shr (.t 21) (.c (.sc (.int .u64 47))))⟩, [8]), (⟨(some 23), none, .q (.bin .xor (.t 17) (.t 22))⟩, [4, 9]), (⟨(some 24), none, .q (.bin .and (.t 23) (.c (.sc (.int .i64 255))))⟩, [10]), (⟨(some 3), none, .q (.mov (.t 24))⟩, [11, 0, 1, 2, 3, 4, 5, 6, 7, 8, 9, 10, 11])])
  (.seq (.seq (.any [(⟨(some 25), none, .q (.mov (.t 0))⟩, []), (⟨(some 26), none, .q (.nilc (.t 25))⟩, [0]), (⟨(some 27), none, .q (.fadr 1 (.t 26))⟩, [1]), (⟨(some 28), none, .q (.load false 1 (.t 27))⟩, [2]), (⟨(some 29), none, .q (.mov (.t 0))⟩, []), (⟨(some 30), none, .q (.nilc (.t 29))⟩, [4]), (⟨(some 31), none, .q (.fadr 0 (.t 30))⟩, [5]), (⟨(some 32), none, .q (.load false 1 (.t 31))⟩, [6]), (⟨(some 33), none, .q (.llen (.t 32))⟩, [7]), (⟨(some 34), none, .q (.bin .lss (.t 28) (.t 33))⟩, [3, 8])])
  (.cond (.t 34) (.seq (.any [(⟨(some 35), none, .q (.mov (.t 3))⟩, []), (⟨(some 36), none, .q (.mov (.t 0))⟩, []), (⟨(some 37), none, .q (.nilc (.t 36))⟩, [1]), (⟨(some 38), none, .q (.fadr 0 (.t 37))⟩, [2]), (⟨(some 39), none, .q (.load false 1 (.t 38))⟩, [3]), (⟨(some 40), none, .q (.mov (.t 0))⟩, []), (⟨(some 41), none, .q (.nilc (.t 40))⟩, [5]), (⟨(some 42), none, .q (.fadr 1 (.t 41))⟩, [6]), (⟨(some 43), none, .q (.load false 1 (.t 42))⟩, [7]), (⟨(some 44), none, .q (.iadr 1 (.t 39) (.t 43))⟩, [4, 8]), (⟨(some 45), none, .q (.load false 1 (.t 44))⟩, [9]), (⟨(some 46), none, .q (.cvi .i64 (.t 45))⟩, [10]), (⟨(some 47), none, .q (.bin .add (.t 35) (.t 46))⟩, [0, 11]), (⟨(some 48), none, .q (.bin .and (.t 47) (.c (.sc (.int .i64 255))))⟩, [12]), (⟨(some 3), none, .q (.mov (.t 48))⟩, [13, 0, 1, 2, 3, 4, 5, 6, 7, 8, 9, 10, 11, 12, 13])])
  (.ops [⟨(some 49), none, .q (.mov (.t 0))⟩, ⟨(some 50), none, .q (.mov (.t 0))⟩, ⟨(some 51), none, .q (.nilc (.t 50))⟩, ⟨(some 52), none, .q (.fadr 1 (.t 51))⟩, ⟨(some 53), none, .q (.load false 1 (.t 52))⟩, ⟨(some 54), none, .q (.bin .add (.t 53) (.c (.sc (.int .i64 1))))⟩, ⟨(some 55), none, .q (.nilc (.t 49))⟩, ⟨(some 56), none, .q (.fadr 1 (.t 55))⟩, ⟨none, none, .w (.store 1 (.t 56) (.t 54))⟩]))
  .skip))
  (.seq (.ops [⟨(some 57), none, .q (.mov (.t 3))⟩, ⟨(some 2), none, .q (.mov (.t 57))⟩])
  .ret)))))
theorem K34 : Tryd.f34.body.bind (comp Tryd.prog) = some A34 ∧ Tryd.f34.ntmps = 58 ∧ Tryd.f34.results.toList.mapM (resB Tryd.prog) = some [.mov (.t 2)] := ⟨by kernel_rfl, by kernel_rfl, by kernel_rfl⟩
theorem R34 (c : Cur) (hc : c.ok) : Ret Tryd.prog 34 [.bx c.cs] (.sc (.int .i64 (byteV c))) [.bx (byteC c).cs] := by
  have hb : c.b.length * 1 ≤ 140737488351232 := hc.1.1
  refine Ret.run Tryd.func34 K34 (by simp) rfl rfl 900 ?_
  simp [A34, iniρ, Cur.cs, over]
  refine T.text 400 mixed (by kernel_rfl) (by kernel_rfl) ?_
  simp
  refine T.text 400 mixed (by kernel_rfl) (by kernel_rfl) ?_
  by_cases hlt : c.i < c.b.length
  case neg =>
    have hlt2 : ¬ ((c.i : Int) < c.b.length) := by omega
    simp [hlt2, ex1, byteV, byteC, low8, mixI, stepH, Cur.cs, hlt, idfree.idfreeL, idfree, ioPos1]
  have hlt2 : (c.i : Int) < c.b.length := by omega
  have hw : IntKind.i64.wrap ((c.i : Int) + 1) = c.i + 1 := wrap_i64 (by omega) (by omega)
  obtain ⟨br, hd⟩ := rowsB_get c.b c.i hlt
  simp [hlt2]
  refine T.textW 400 [([], []), ([], []), ([], []), ([], []), ([], []), ([], []), ([], []), ([], []), ([], []), ([], []), ([], []), ([], []), ([], []), ([], []), ([], [])] mixed (by kernel_rfl) (by kernel_rfl) ?_
  simp [hlt, hlt2, hd, hw, over, merge_nil, hideH_nil, ex1, byteV, byteC, low8, mixI, stepH, Cur.cs, idfree.idfreeL, idfree, ioPos1]
def belowV (c : Cur) (n : Int) : Int := if n ≤ 0 then 0 else if n ≤ 256 then (byteV c).tmod n else (byteV c * 65536 + byteV (byteC c) * 256 + byteV (byteC (byteC c))).tmod n
def belowC (c : Cur) (n : Int) : Cur := if n ≤ 0 then c else if n ≤ 256 then byteC c else byteC (byteC (byteC c))
theorem belowC_ok {c : Cur} (h : c.ok) (n : Int) : (belowC c n).ok := by
  unfold belowC
  split
  · exact h
  · split
    · exact byteC_ok h
    · exact byteC_ok (byteC_ok (byteC_ok h))
theorem belowV_rng (c : Cur) {n : Int} (h : 0 < n) : 0 ≤ belowV c n ∧ belowV c n < n := by
  have h1 := byteV_rng c
  have h2 := byteV_rng (byteC c)
  have h3 := byteV_rng (byteC (byteC c))
  unfold belowV
  rw [if_neg (by omega)]
  split
  · exact ⟨Int.tmod_nonneg _ (by omega), Int.tmod_lt_of_pos _ h⟩
  · exact ⟨Int.tmod_nonneg _ (by omega), Int.tmod_lt_of_pos _ h⟩
def A14 : AC := (.seq (.ops [⟨(some 4), none, .q (.mov (.c (.sc (.int .i64 0))))⟩])
  (.seq (.seq (.ops [⟨(some 8), none, .q (.mov (.t 1))⟩, ⟨(some 9), none, .q (.bin .leq (.t 8) (.c (.sc (.int .i64 0))))⟩])
  (.cond (.t 9) (.seq (.ops [⟨(some 4), none, .q (.mov (.c (.sc (.int .i64 0))))⟩])
  .ret)
  .skip))
  (.seq (.seq (.ops [⟨(some 10), none, .q (.mov (.t 1))⟩, ⟨(some 11), none, .q (.bin .leq (.t 10) (.c (.sc (.int .i64 256))))⟩])
  (.cond (.t 11) (.seq (.ops [⟨(some 12), none, .q (.mov (.t 0))⟩, ⟨(some 13), none, .c (.c (.clo 34 [])) [(.t 12)]⟩, ⟨(some 14), none, .q (.mov (.t 1))⟩, ⟨(some 15), none, .q (.bin .rem (.t 13) (.t 14))⟩, ⟨(some 4), none, .q (.mov (.t 15))⟩])
  .ret)
  .skip))
  (.seq (.ops [⟨(some 16), none, .q (.mov (.t 0))⟩, ⟨(some 17), none, .c (.c (.clo 34 [])) [(.t 16)]⟩, ⟨(some 5), none, .q (.mov (.t 17))⟩])
  (.seq (.ops [⟨(some 18), none, .q (.mov (.t 0))⟩, ⟨(some 19), none, .c (.c (.clo 34 [])) [(.t 18)]⟩, ⟨(some 6), none, .q (.mov (.t 19))⟩])
  (.seq (.ops [⟨(some 20), none, .q (.mov (.t 0))⟩, ⟨(some 21), none, .c (.c (.clo 34 [])) [(.t 20)]⟩, ⟨(some 7), none, .q (.mov (.t 21))⟩])
  (.seq (.ops [⟨(some 22), none, .q (.mov (.t 5))⟩, ⟨(some 23), none, .q (.bin .mul (.t 22) (.c (.sc (.int .i64 65536))))⟩, ⟨(some 24), none, .q (.mov (.t 6))⟩, ⟨(some 25), none, .q (.bin .mul (.t 24) (.c (.sc (.int .i64 256))))⟩, ⟨(some 26), none, .q (.bin .add (.t 23) (.t 25))⟩, ⟨(some 27), none, .q (.mov (.t 7))⟩, ⟨(some 28), none, .q (.bin .add (.t 26) (.t 27))⟩, ⟨(some 29), none, .q (.mov (.t 1))⟩, ⟨(some 30), none, .q (.bin .rem (.t 28) (.t 29))⟩, ⟨(some 4), none, .q (.mov (.t 30))⟩])
  .ret)))))))
theorem K14 : Tryd.f14.body.bind (comp Tryd.prog) = some A14 ∧ Tryd.f14.ntmps = 31 ∧ Tryd.f14.results.toList.mapM (resB Tryd.prog) = some [.mov (.t 4)] := ⟨by kernel_rfl, by kernel_rfl, by kernel_rfl⟩
theorem R14 (c : Cur) (hc : c.ok) (n : Int) : Ret Tryd.prog 14 [.bx c.cs, .sc (.int .i64 n)] (.sc (.int .i64 (belowV c n))) [.bx (belowC c n).cs, .un] := by
  refine Ret.run Tryd.func14 K14 (by simp) rfl rfl 900 ?_
  have fr : ∀ c : Cur, idfree.idfreeL c.cs = true := fun c => rfl
  by_cases h0 : n ≤ 0
  · simp [A14, iniρ, h0, belowV, belowC, ex1, fr, ioPos1]
  by_cases h1 : n ≤ 256
  · have hn : ¬ n = 0 := by omega
    simp [A14, iniρ, h0, h1]
    refine callK.bx (b := 100000) 0 rfl (by kernel_rfl) (by simp [upd_app]) (by simp [upd_app]) (fr c) rfl (by simp) (R34 c hc) rfl (by rfl) rfl ?_
    simp [h0, h1, hn, belowV, belowC, ex1, fr, ioPos1]
  simp [A14, iniρ, h0, h1]
  refine callK.bx (b := 100000) 0 rfl (by kernel_rfl) (by simp [upd_app]) (by simp [upd_app]) (fr c) rfl (by simp) (R34 c hc) rfl (by rfl) rfl ?_
  simp
  refine callK.bx (b := 100000) 0 rfl (by kernel_rfl) (by simp [upd_app]) (by simp [upd_app]) (fr _) rfl (by simp) (R34 _ (byteC_ok hc)) rfl (by rfl) rfl ?_
  simp
  refine callK.bx (b := 100000) 0 rfl (by kernel_rfl) (by simp [upd_app]) (by simp [upd_app]) (fr _) rfl (by simp) (R34 _ (byteC_ok (byteC_ok hc))) rfl (by rfl) rfl ?_
  have q1 := byteV_rng c
  have q2 := byteV_rng (byteC c)
  have q3 := byteV_rng (byteC (byteC c))
  have w1 : IntKind.i64.wrap (byteV c * 65536) = byteV c * 65536 := wrap_i64 (by omega) (by omega)
  have w2 : IntKind.i64.wrap (byteV (byteC c) * 256) = byteV (byteC c) * 256 := wrap_i64 (by omega) (by omega)
  have w3 : IntKind.i64.wrap (byteV c * 65536 + byteV (byteC c) * 256) = byteV c * 65536 + byteV (byteC c) * 256 := wrap_i64 (by omega) (by omega)
  have w4 : IntKind.i64.wrap (byteV c * 65536 + byteV (byteC c) * 256 + byteV (byteC (byteC c))) = byteV c * 65536 + byteV (byteC c) * 256 + byteV (byteC (byteC c)) := wrap_i64 (by omega) (by omega)
  have hn : ¬ n = 0 := by omega
  simp [h0, h1, hn, w1, w2, w3, w4, belowV, belowC, ex1, fr, ioPos1]
def A31 : AC := (.seq (.ops [⟨(some 4), none, .q (.mov (.c (.sc (.bool false))))⟩])
  (.seq (.ops [⟨(some 5), none, .q (.mov (.t 0))⟩, ⟨(some 6), none, .q (.mov (.t 1))⟩, ⟨(some 7), none, .c (.c (.clo 14 [])) [(.t 5), (.t 6)]⟩, ⟨(some 8), none, .q (.bin .eql (.t 7) (.c (.sc (.int .i64 0))))⟩, ⟨(some 4), none, .q (.mov (.t 8))⟩])
  .ret))
theorem K31 : Tryd.f31.body.bind (comp Tryd.prog) = some A31 ∧ Tryd.f31.ntmps = 9 ∧ Tryd.f31.results.toList.mapM (resB Tryd.prog) = some [.mov (.t 4)] := ⟨by kernel_rfl, by kernel_rfl, by kernel_rfl⟩
theorem R31 (c : Cur) (hc : c.ok) (n : Int) : Ret Tryd.prog 31 [.bx c.cs, .sc (.int .i64 n)] (.sc (.bool (belowV c n == 0))) [.bx (belowC c n).cs, .un] := by
  have fr : ∀ c : Cur, idfree.idfreeL c.cs = true := fun c => rfl
  refine Ret.run Tryd.func31 K31 (by simp) rfl rfl 900 ?_
  simp [A31, iniρ]
  refine callK.bx (b := 100000) 0 rfl (by kernel_rfl) (by simp [upd_app]) (by simp [upd_app]) (fr c) (by simp [upd_app]) (by simp) (R14 c hc n) rfl (by rfl) rfl ?_
  simp [ex1, fr, ioPos1]
def A28 : AC := (.seq (.ops [⟨(some 4), none, .q (.mov (.c (.sc (.string ⟨#[]⟩))))⟩])
  (.seq (.ops [⟨(some 5), none, .q (.mov (.t 1))⟩, ⟨(some 6), none, .q (.mov (.t 0))⟩, ⟨(some 7), none, .q (.mov (.t 1))⟩, ⟨(some 8), none, .q (.llen (.t 7))⟩, ⟨(some 9), none, .c (.c (.clo 14 [])) [(.t 6), (.t 8)]⟩, ⟨(some 10), none, .q (.iadr 1 (.t 5) (.t 9))⟩, ⟨(some 11), none, .q (.load false 1 (.t 10))⟩, ⟨(some 4), none, .q (.mov (.t 11))⟩])
  .ret))
theorem K28 : Tryd.f28.body.bind (comp Tryd.prog) = some A28 ∧ Tryd.f28.ntmps = 12 ∧ Tryd.f28.results.toList.mapM (resB Tryd.prog) = some [.mov (.t 4)] := ⟨by kernel_rfl, by kernel_rfl, by kernel_rfl⟩
theorem R28 (c : Cur) (hc : c.ok) (xs : List ByteArray) (hx : 0 < xs.length) : Ret Tryd.prog 28 [.bx c.cs, .own (rows Ty.str.oc xs) xs.length 1] (.sc (.string (xs[(belowV c xs.length).toNat]?.getD default))) [.bx (belowC c xs.length).cs, .un] := by
  have fr : ∀ c : Cur, idfree.idfreeL c.cs = true := fun c => rfl
  refine Ret.run Tryd.func28 K28 (by simp) rfl rfl 900 ?_
  simp [A28, iniρ]
  refine callK.bx (b := 100000) 0 rfl (by kernel_rfl) (by simp [upd_app]) (by simp [upd_app]) (fr c) (by simp [upd_app]) (by simp) (R14 c hc xs.length) rfl (by rfl) rfl ?_
  obtain ⟨r1, r2⟩ := belowV_rng c (n := xs.length) (by omega)
  obtain ⟨m, hm⟩ : ∃ m : Nat, belowV c xs.length = m := ⟨(belowV c xs.length).toNat, by omega⟩
  rw [hm] at r1 r2 ⊢
  have r3 : m < xs.length := by omega
  have hd : List.drop m (rows Ty.str.oc xs) = .sc (.string (xs[m]?.getD default)) :: rows Ty.str.oc (xs.drop (m + 1)) := by
    have h := rows_drop Ty.str.ocn (xs.take m) (xs.drop m)
    rw [List.take_append_drop, List.length_take, Nat.min_eq_left (by omega)] at h
    have h : List.drop m (rows Ty.str.oc xs) = rows Ty.str.oc (xs.drop m) := by
      have h2 := h
      rwa [show m * Ty.str.n = m from Nat.mul_one m] at h2
    rw [h, List.drop_eq_getElem_cons r3, rows_cons]
    simp [r3]
    rfl
  simp [r2, r3, hd, ex1, fr, ioPos1]
def low30 (a : Int) : Int := IntKind.i64.wrap (((a % 2 ^ IntKind.i64.bits).toNat &&& 1073741823 % 2 ^ IntKind.i64.bits : Nat) : Int)
def newS (h y : Int) : Int := low30 (IntKind.i64.wrap (IntKind.i64.wrap (IntKind.i64.wrap (h * 137) + IntKind.i64.wrap y) + 11))
def newH : Nat → List Int → Int → Int
  | 0, _, h => h
  | _ + 1, [], h => h
  | n + 1, y :: l, h => newH n l (newS h y)
def newC (b : List Int) : Cur := ⟨b, 0, newH 4000 b (778778 + b.length)⟩
theorem newC_ok {b : List Int} (h : Ty.byte.slice.ok b) : (newC b).ok := ⟨h, Nat.zero_le _⟩
def A11 : AC := (.seq (.ops [⟨(some 2), none, .q (.mov (.c (.sc (.pointer none))))⟩])
  (.seq (.ops [⟨(some 5), none, .q (.mov (.t 0))⟩, ⟨(some 6), none, .q (.llen (.t 5))⟩, ⟨(some 7), none, .q (.bin .add (.c (.sc (.int .i64 778778))) (.t 6))⟩, ⟨(some 3), none, .q (.mov (.t 7))⟩])
  (.seq (.seq (.ops [⟨(some 4), none, .q (.mov (.c (.sc (.int .i64 0))))⟩])
  (.block 0 (.loop (.seq (.seq (.ops [⟨(some 8), none, .q (.mov (.t 4))⟩, ⟨(some 9), none, .q (.mov (.t 0))⟩, ⟨(some 10), none, .q (.llen (.t 9))⟩, ⟨(some 11), none, .q (.bin .lss (.t 8) (.t 10))⟩, ⟨(some 12), none, .q (.mov (.t 11))⟩, ⟨(some 13), (some (12, true)), .q (.mov (.t 4))⟩, ⟨(some 14), (some (12, true)), .q (.bin .lss (.t 13) (.c (.sc (.int .i64 4000))))⟩, ⟨(some 15), none, .q (.pick (.t 12) (.t 14) (.c (.sc (.bool false))))⟩])
  (.cond (.t 15) .skip
  (.exit 0)))
  (.seq (.block 1 (.ops [⟨(some 18), none, .q (.mov (.t 3))⟩, ⟨(some 19), none, .q (.bin .mul (.t 18) (.c (.sc (.int .i64 137))))⟩, ⟨(some 20), none, .q (.mov (.t 0))⟩, ⟨(some 21), none, .q (.mov (.t 4))⟩, ⟨(some 22), none, .q (.iadr 1 (.t 20) (.t 21))⟩, ⟨(some 23), none, .q (.load false 1 (.t 22))⟩, ⟨(some 24), none, .q (.cvi .i64 (.t 23))⟩, ⟨(some 25), none, .q (.bin .add (.t 19) (.t 24))⟩, ⟨(some 26), none, .q (.bin .add (.t 25) (.c (.sc (.int .i64 11))))⟩, ⟨(some 27), none, .q (.bin .and (.t 26) (.c (.sc (.int .i64 1073741823))))⟩, ⟨(some 3), none, .q (.mov (.t 27))⟩]))
  (.ops [⟨(some 16), none, .q (.mov (.t 4))⟩, ⟨(some 17), none, .q (.bin .add (.t 16) (.c (.sc (.int .i64 1))))⟩, ⟨(some 4), none, .q (.mov (.t 17))⟩]))))))
  (.seq (.ops [⟨(some 28), none, .q (.mov (.t 0))⟩, ⟨(some 29), none, .q (.mov (.t 3))⟩, ⟨(some 30), none, .w (.build [.em, (.sc (.int .i64 0)), (.sc (.int .i64 0))] [(0, 1, (.t 28)), (2, 1, (.t 29))])⟩, ⟨(some 31), none, .w (.box (.t 30))⟩, ⟨(some 2), none, .q (.mov (.t 31))⟩])
  .ret))))
theorem K11 : Tryd.f11.body.bind (comp Tryd.prog) = some A11 ∧ Tryd.f11.ntmps = 32 ∧ Tryd.f11.results.toList.mapM (resB Tryd.prog) = some [.mov (.t 2)] := ⟨by kernel_rfl, by kernel_rfl, by kernel_rfl⟩
theorem R11 (b : List Int) (hx : Ty.byte.slice.ok b) : Ret Tryd.prog 11 [.ro (rows B b) b.length] (.bx (newC b).cs) [.un] := by
  have hb : b.length * 1 ≤ 140737488351232 := hx.1
  have hw0 : IntKind.i64.wrap (778778 + (b.length : Int)) = 778778 + b.length := wrap_i64 (by omega) (by omega)
  refine Ret.run Tryd.func11 K11 (by simp) rfl rfl 900 ?_
  simp [A11, iniρ, hw0]
  refine T.rounds (μ := fun i : List Int × List Int × Int => i.2.1.length)
    (fun i s => i.1 ++ i.2.1 = b ∧ i.1.length ≤ 4000 ∧ newH (4000 - i.1.length) i.2.1 i.2.2 = newH 4000 b (778778 + b.length) ∧ s.ρ 0 = .ro (rows B b) b.length ∧ s.ρ 3 = .sc (.int .i64 i.2.2) ∧ s.ρ 4 = .sc (.int .i64 i.1.length) ∧ s.h 31 = none ∧ s.n = 32) ([], b, 778778 + b.length) (by simp [upd_app]) ?_
  rintro ⟨pre, rest, h⟩ ⟨ρ, hh, n⟩ ⟨hx, hp, hE, h0', h3', h4', hf, rfl⟩
  simp only at hx hp hE h0' h3' h4' hf
  refine run_ok (n := 400) ?_
  cases rest with
  | nil =>
    have hl : pre.length = b.length := by rw [← hx]; simp
    have hE2 : h = newH 4000 b (778778 + b.length) := by rw [← hE]; cases 4000 - pre.length <;> rfl
    simp [h0', h4', hl]
    refine T.on 400 ?_
    simp [h0', h3', hf, over, ex1, Cur.cs, newC, ← hE2, idfree.idfreeL, idfree]
  | cons y rest =>
    have hle : pre.length + (rest.length + 1) = b.length := by rw [← hx]; simp
    have hlt : (pre.length : Int) < b.length := by omega
    by_cases h4k : pre.length = 4000
    · have hE2 : h = newH 4000 b (778778 + b.length) := by rw [← hE, h4k]; rfl
      have h4l : ¬ ((pre.length : Int) < 4000) := by omega
      simp [h0', h4', hlt, h4l]
      refine T.on 400 ?_
      simp [h0', h3', hf, over, ex1, Cur.cs, newC, ← hE2, idfree.idfreeL, idfree]
    have h4l : (pre.length : Int) < 4000 := by omega
    have hd := rows_drop B.len pre (y :: rest)
    rw [hx, rows_cons, Nat.mul_one] at hd
    have hw : IntKind.i64.wrap ((pre.length : Int) + 1) = pre.length + 1 := wrap_i64 (by omega) (by omega)
    have hs : 4000 - pre.length = (4000 - (pre.length + 1)) + 1 := by omega
    rw [hs] at hE
    simp [h0', h3', h4', hlt, h4l, hd, B, hw]
    refine ⟨pre ++ [y], rest, by simp, newS h y, _, Le.refl _, ?_⟩
    simp [hx, h0', hf, upd_app, ← hE, newH, newS, low30]
    omega
def pickS (l : List ByteArray) (c : Cur) (n : Int) : ByteArray := l[(belowV c n).toNat]?.getD default
theorem pick_size {l : List ByteArray} {n : Nat} (h : ∀ x ∈ l, x.size ≤ n) (c : Cur) (k : Int) : (pickS l c k).size ≤ n := by
  unfold pickS
  cases e : l[(belowV c k).toNat]? with
  | none => exact Nat.zero_le _
  | some y => exact h y (List.mem_of_getElem? e)
def digC (n : Int) : ByteArray := strOfNums [IntKind.u8.wrap (48 + n)]
theorem digC_size (n : Int) : (digC n).size = 1 := rfl
def numF : Nat → Nat → ByteArray → ByteArray
  | 0, _, a => a
  | k + 1, n, a => if 9 < n then numF k (n / 10) (digC ((n : Int) / 10 % 10) ++ a) else a
def numT (n : Nat) : ByteArray := numF n n (digC ((n : Int) % 10))
def A38 : AC := (.seq (.ops [⟨(some 2), none, .q (.mov (.c (.sc (.string ⟨#[]⟩))))⟩])
  (.seq (.seq (.ops [⟨(some 4), none, .q (.mov (.t 0))⟩, ⟨(some 5), none, .q (.bin .lss (.t 4) (.c (.sc (.int .i64 0))))⟩])
  (.cond (.t 5) (.ops [⟨(some 0), none, .q (.mov (.c (.sc (.int .i64 0))))⟩])
  .skip))
  (.seq (.ops [⟨(some 6), none, .q (.mov (.t 0))⟩, ⟨(some 7), none, .q (.bin .rem (.t 6) (.c (.sc (.int .i64 10))))⟩, ⟨(some 8), none, .q (.bin .add (.c (.sc (.int .i64 48))) (.t 7))⟩, ⟨(some 9), none, .q (.cvi .u8 (.t 8))⟩, ⟨(some 10), none, .w (.bsl 1 1 [(.sc (.int .u8 0))] [(0, 1, (.t 9))])⟩, ⟨(some 11), none, .q (.bstr (.t 10))⟩, ⟨(some 3), none, .q (.mov (.t 11))⟩])
  (.seq (.block 0 (.loop (.seq (.seq (.ops [⟨(some 12), none, .q (.mov (.t 0))⟩, ⟨(some 13), none, .q (.bin .gtr (.t 12) (.c (.sc (.int .i64 9))))⟩])
  (.cond (.t 13) .skip
  (.exit 0)))
  (.block 1 (.seq (.ops [⟨(some 14), none, .q (.mov (.t 0))⟩, ⟨(some 15), none, .q (.bin .quo (.t 14) (.c (.sc (.int .i64 10))))⟩, ⟨(some 0), none, .q (.mov (.t 15))⟩])
  (.ops [⟨(some 16), none, .q (.mov (.t 0))⟩, ⟨(some 17), none, .q (.bin .rem (.t 16) (.c (.sc (.int .i64 10))))⟩, ⟨(some 18), none, .q (.bin .add (.c (.sc (.int .i64 48))) (.t 17))⟩, ⟨(some 19), none, .q (.cvi .u8 (.t 18))⟩, ⟨(some 20), none, .w (.bsl 1 1 [(.sc (.int .u8 0))] [(0, 1, (.t 19))])⟩, ⟨(some 21), none, .q (.bstr (.t 20))⟩, ⟨(some 22), none, .q (.mov (.t 3))⟩, ⟨(some 23), none, .q (.bin .add (.t 21) (.t 22))⟩, ⟨(some 3), none, .q (.mov (.t 23))⟩]))))))
  (.seq (.ops [⟨(some 24), none, .q (.mov (.t 3))⟩, ⟨(some 2), none, .q (.mov (.t 24))⟩])
  .ret)))))
theorem K38 : Tryd.f38.body.bind (comp Tryd.prog) = some A38 ∧ Tryd.f38.ntmps = 25 ∧ Tryd.f38.results.toList.mapM (resB Tryd.prog) = some [.mov (.t 2)] := ⟨by kernel_rfl, by kernel_rfl, by kernel_rfl⟩
theorem R38 (n : Nat) (hn : n < 4611686018427387904) : Ret Tryd.prog 38 [.sc (.int .i64 n)] (.sc (.string (numT n))) [.un] := by
  have hrem : (n : Int).tmod 10 = (n : Int) % 10 := rfl
  have hw0 : IntKind.i64.wrap (48 + (n : Int) % 10) = 48 + (n : Int) % 10 := wrap_i64 (by omega) (by omega)
  have hz0 : (digC ((n : Int) % 10)).size + n ≤ n + 1 := by rw [digC_size]; omega
  have h0n : ¬ ((n : Int) < 0) := by omega
  refine Ret.run Tryd.func38 K38 (by simp) rfl rfl 900 ?_
  simp only [A38, iniρ]
  simp [h0n, over, hrem, hw0, bytesA, num8]
  refine T.rounds (μ := fun i : Nat × Nat × ByteArray => i.1)
    (fun i s => i.2.1 ≤ i.1 ∧ i.2.2.size + i.2.1 ≤ n + 1 ∧ numF i.1 i.2.1 i.2.2 = numT n ∧ s.ρ 0 = .sc (.int .i64 i.2.1) ∧ s.ρ 3 = .sc (.string i.2.2) ∧ s.h 20 = none ∧ s.n = 25) (n, n, digC ((n : Int) % 10)) (by simp [upd_app, numT, hz0]; rfl) ?_
  rintro ⟨k, m, a⟩ ⟨ρ, hh, n'⟩ ⟨hk, hs, hE, h0', h3', f1, rfl⟩
  simp only at hk hs hE h0' h3' f1
  refine run_ok (n := 400) ?_
  by_cases h9 : 9 < m
  case neg =>
    have h9' : ¬ ((9 : Int) < m) := by omega
    have hE2 : a = numT n := by rw [← hE]; cases k <;> simp [numF, h9]
    simp [h0', h9']
    refine T.on 400 ?_
    simp [h3', hE2]
  have h9' : (9 : Int) < m := by omega
  obtain ⟨k, rfl⟩ : ∃ k', k = k' + 1 := ⟨k - 1, by omega⟩
  rw [numF, if_pos h9] at hE
  have hq1 : (m : Int).tdiv 10 = (m : Int) / 10 := rfl
  have hw1 : IntKind.i64.wrap ((m : Int) / 10) = (m : Int) / 10 := wrap_i64 (by omega) (by omega)
  have hr2 : ((m : Int) / 10).tmod 10 = (m : Int) / 10 % 10 := rfl
  have hw2 : IntKind.i64.wrap (48 + (m : Int) / 10 % 10) = 48 + (m : Int) / 10 % 10 := wrap_i64 (by omega) (by omega)
  have hsz : (strOfNums [IntKind.u8.wrap (48 + (m : Int) / 10 % 10)]).size + a.size ≤ 9223372036854775807 := by
    have := digC_size ((m : Int) / 10 % 10)
    rw [digC] at this
    rw [this]; omega
  simp [h0', h3', h9', f1, over, hq1, hw1, hr2, hw2, bytesA, num8, hsz]
  refine ⟨k, by omega, m / 10, digC ((m : Int) / 10 % 10) ++ a, _, Le.reset [0, 3] [] (by simp [upd_app, menB, idfree]) (by simp), ?_⟩
  simp [upd_app, hE, digC_size]
  exact ⟨by omega, by omega, rfl⟩
theorem numF_size : ∀ (k n : Nat) (a : ByteArray), (numF k n a).size ≤ a.size + n
  | 0, n, a => Nat.le_add_right _ _
  | k + 1, n, a => by
    rw [numF]
    split
    · have h := numF_size k (n / 10) (digC ((n : Int) / 10 % 10) ++ a)
      rw [ByteArray.size_append, digC_size] at h
      omega
    · exact Nat.le_add_right _ _
theorem numT_size (n : Nat) : (numT n).size ≤ n + 1 := by
  have h := numF_size n n (digC ((n : Int) % 10))
  rw [digC_size] at h
  rw [numT]; omega
def A33 : AC := (.seq (.ops [⟨(some 1), none, .w (.box (.t 0))⟩, ⟨(some 2), none, .w (.alloc [(.sc (.string ⟨#[]⟩)), .em, (.sc (.string ⟨#[]⟩))])⟩])
  (.seq (.any [(⟨(some 3), none, .q (.fadr 0 (.t 1))⟩, []), (⟨(some 4), none, .q (.load false 1 (.t 3))⟩, [0]), (⟨(some 5), none, .w (.bsl 2 0 [] [])⟩, []), (⟨(some 6), none, .q (.fadr 1 (.t 1))⟩, []), (⟨(some 7), none, .q (.load false 1 (.t 6))⟩, [3]), (⟨(some 8), none, .w (.app 2 32 false (.t 5) (.t 7))⟩, [2, 4]), (⟨(some 9), none, .q (.fadr 2 (.t 1))⟩, []), (⟨(some 10), none, .q (.load false 1 (.t 9))⟩, [6]), (⟨(some 11), none, .w (.build [(.sc (.string ⟨#[]⟩)), .em, (.sc (.string ⟨#[]⟩))] [(0, 1, (.t 4)), (1, 1, (.t 8)), (2, 1, (.t 10))])⟩, [1, 5, 7]), (⟨none, none, .w (.store 3 (.t 2) (.t 11))⟩, [8, 5, 0, 1, 2, 3, 4, 5, 6, 7, 8])])
  .ret))
theorem K33 : Tryd.f33.body.bind (comp Tryd.prog) = some A33 ∧ Tryd.f33.ntmps = 12 ∧ Tryd.f33.results.toList.mapM (resB Tryd.prog) = some [.load true 3 (.t 2)] := ⟨by kernel_rfl, by kernel_rfl, by kernel_rfl⟩
theorem R33 (m : Made) (hm : Made.ty.ok m) : Ret Tryd.prog 33 [.agg (Made.ty.cs m)] (.agg (Made.ty.oc m)) [.un] := by
  have hb : m.outs.length * 32 ≤ 140737488351232 := hm.2.1.1
  have hcap : m.outs.length * 32 ≤ 140737488355328 := by omega
  have hsc := fileSc m.outs
  have hfe : rows File.ty.cs m.outs = rows File.ty.oc m.outs := rfl
  refine Ret.run Tryd.func33 K33 (by simp) rfl rfl 900 ?_
  simp [A33, iniρ, Made.cse, over]
  refine T.textW 400 [([], [5, 8]), ([], [5, 8]), ([5], []), ([], [5]), ([], [5]), ([5, 8], []), ([], [5, 8]), ([], [5, 8]), ([], []), ([2], [])] mixed (by kernel_rfl) (by kernel_rfl) ?_
  simp [over, hcap, hsc, hfe, File.ocl, merge_nil, hideH_nil, ex1, File.frL, Made.oce]
def doneL : List ByteArray := [⟨#[]⟩, ⟨#[100, 111, 110, 101, 10]⟩, ⟨#[120, 32, 121, 10]⟩]
def opqL : List ByteArray := [⟨#[111]⟩, ⟨#[112]⟩, ⟨#[113]⟩]
def hiTL : List ByteArray := [⟨#[]⟩, ⟨#[104, 105]⟩, ⟨#[104, 101, 108, 108, 111]⟩]
def oneOut (c : Cur) : File := ⟨pickS opqL c 3, pickS hiTL (belowC c 3) 3⟩
def puts : Nat → Cur → List File → List File × Cur
  | 0, c, l => (l, c)
  | n + 1, c, l => puts n (belowC (belowC c 3) 3) (putFile l (oneOut c)).1
def madeP (c : Cur) : List File × Cur := puts (belowV (belowC c 3) 3).toNat (belowC (belowC c 3) 3) []
def madeV (c : Cur) (t : ByteArray) : Made := ⟨t, (madeP c).1, pickS doneL c 3⟩
def madeC (c : Cur) : Cur := (madeP c).2
theorem putFile_len (xs : List File) (f : File) : (putFile xs f).1.length ≤ xs.length + 1 := by
  unfold putFile
  split
  · exact putF_len f xs false
  · exact Nat.le_succ _
theorem putFile_mem (xs : List File) (f : File) : ∀ x ∈ (putFile xs f).1, x = f ∨ x ∈ xs := by
  unfold putFile
  split
  · exact putF_mem f xs false
  · exact fun x h => .inr h
theorem oneOut_size (c : Cur) : (oneOut c).path.size ≤ 5 ∧ (oneOut c).text.size ≤ 5 := ⟨pick_size (by decide) _ _, pick_size (by decide) _ _⟩
def A32 : AC := (.seq (.ops [⟨(some 4), none, .w (.alloc [(.sc (.string ⟨#[]⟩)), .em, (.sc (.string ⟨#[]⟩))])⟩])
  (.seq (.ops [⟨(some 7), none, .q (.mov (.t 1))⟩, ⟨(some 8), none, .q (.mov (.t 0))⟩, ⟨(some 9), none, .w (.bsl 1 3 [(.sc (.string ⟨#[]⟩)), (.sc (.string ⟨#[]⟩)), (.sc (.string ⟨#[]⟩))] [(0, 1, (.c (.sc (.string ⟨#[]⟩)))), (1, 1, (.c (.sc (.string ⟨#[100, 111, 110, 101, 10]⟩)))), (2, 1, (.c (.sc (.string ⟨#[120, 32, 121, 10]⟩))))])⟩, ⟨(some 10), none, .c (.c (.clo 28 [])) [(.t 8), (.t 9)]⟩, ⟨(some 11), none, .w (.build [(.sc (.string ⟨#[]⟩)), .em, (.sc (.string ⟨#[]⟩))] [(0, 1, (.t 7)), (2, 1, (.t 10))])⟩, ⟨(some 5), none, .w (.alloc [(.sc (.string ⟨#[]⟩)), .em, (.sc (.string ⟨#[]⟩))])⟩, ⟨none, none, .w (.store 3 (.t 5) (.t 11))⟩])
  (.seq (.seq (.ops [⟨(some 12), none, .q (.mov (.t 0))⟩, ⟨(some 13), none, .c (.c (.clo 14 [])) [(.t 12), (.c (.sc (.int .i64 3)))]⟩, ⟨(some 6), none, .q (.mov (.t 13))⟩])
  (.block 0 (.loop (.seq (.seq (.ops [⟨(some 14), none, .q (.mov (.t 6))⟩, ⟨(some 15), none, .q (.bin .gtr (.t 14) (.c (.sc (.int .i64 0))))⟩])
  (.cond (.t 15) .skip
  (.exit 0)))
  (.seq (.block 1 (.any [(⟨(some 19), none, .q (.fadr 1 (.t 5))⟩, []), (⟨(some 20), none, .q (.load false 1 (.t 19))⟩, [0]), (⟨(some 21), none, .q (.mov (.t 0))⟩, []), (⟨(some 22), none, .w (.bsl 1 3 [(.sc (.string ⟨#[]⟩)), (.sc (.string ⟨#[]⟩)), (.sc (.string ⟨#[]⟩))] [(0, 1, (.c (.sc (.string ⟨#[111]⟩)))), (1, 1, (.c (.sc (.string ⟨#[112]⟩)))), (2, 1, (.c (.sc (.string ⟨#[113]⟩))))])⟩, []), (⟨(some 23), none, .c (.c (.clo 28 [])) [(.t 21), (.t 22)]⟩, [2, 3]), (⟨(some 24), none, .q (.mov (.t 0))⟩, []), (⟨(some 25), none, .w (.bsl 1 3 [(.sc (.string ⟨#[]⟩)), (.sc (.string ⟨#[]⟩)), (.sc (.string ⟨#[]⟩))] [(0, 1, (.c (.sc (.string ⟨#[]⟩)))), (1, 1, (.c (.sc (.string ⟨#[104, 105]⟩)))), (2, 1, (.c (.sc (.string ⟨#[104, 101, 108, 108, 111]⟩))))])⟩, []), (⟨(some 26), none, .c (.c (.clo 28 [])) [(.t 24), (.t 25)]⟩, [5, 6, 4]), (⟨(some 27), none, .w (.build [(.sc (.string ⟨#[]⟩)), (.sc (.string ⟨#[]⟩))] [(0, 1, (.t 23)), (1, 1, (.t 26))])⟩, [4, 7]), (⟨(some 28), none, .c (.c (.clo 39 [])) [(.t 20), (.t 27)]⟩, [1, 8, 7]), (⟨(some 18), none, .q (.mov (.t 28))⟩, [9]), (⟨(some 29), none, .q (.ext (.t 18) 0)⟩, [10]), (⟨(some 30), none, .q (.ext (.t 18) 1)⟩, [10]), (⟨(some 31), none, .q (.fadr 1 (.t 5))⟩, [0, 1, 2, 3, 4, 5, 6, 7, 8, 9, 10, 11]), (⟨none, none, .w (.store 1 (.t 31) (.t 29))⟩, [13, 11, 9, 0, 1, 2, 3, 4, 5, 6, 7, 8, 9, 10, 11])]))
  (.ops [⟨(some 16), none, .q (.mov (.t 6))⟩, ⟨(some 17), none, .q (.bin .sub (.t 16) (.c (.sc (.int .i64 1))))⟩, ⟨(some 6), none, .q (.mov (.t 17))⟩]))))))
  (.seq (.ops [⟨(some 32), none, .q (.load true 3 (.t 5))⟩, ⟨none, none, .w (.store 3 (.t 4) (.t 32))⟩])
  .ret))))
theorem K32 : Tryd.f32.body.bind (comp Tryd.prog) = some A32 ∧ Tryd.f32.ntmps = 33 ∧ Tryd.f32.results.toList.mapM (resB Tryd.prog) = some [.load true 3 (.t 4)] := ⟨by kernel_rfl, by kernel_rfl, by kernel_rfl⟩
set_option maxHeartbeats 2000000 in
theorem R32 (c : Cur) (hc : c.ok) (t : ByteArray) : Ret Tryd.prog 32 [.bx c.cs, .sc (.string t)] (.agg (Made.ty.oc (madeV c t))) [.bx (madeC c).cs, .un] := by
  have fr : ∀ c : Cur, idfree.idfreeL c.cs = true := fun c => rfl
  have r1 : Ret Tryd.prog 28 [.bx c.cs, .own (rows Ty.str.oc doneL) 3 1] (.sc (.string (pickS doneL c 3))) [.bx (belowC c 3).cs, .un] := R28 c hc doneL (by decide)
  refine Ret.run Tryd.func32 K32 (by simp) rfl rfl 900 ?_
  simp [A32, iniρ, over]
  refine callK.bm 100000 9 (len := 3) (sz := 1) rfl (by kernel_rfl) (by simp [upd_app]) (by simp [upd_app]) (fr c) (by simp [upd_app]) (by simp [upd_app]; rfl) (by rfl) (by rfl) (by decide) r1 rfl rfl ?_
  simp [over]
  refine callK.bx (b := 100000) 0 rfl (by kernel_rfl) (by simp [upd_app]) (by simp [upd_app]) (fr _) (by simp [upd_app]) (by simp) (R14 _ (belowC_ok hc 3) 3) rfl (by rfl) rfl ?_
  obtain ⟨q1, q2⟩ := belowV_rng (belowC c 3) (n := 3) (by omega)
  obtain ⟨m, hm⟩ : ∃ m : Nat, belowV (belowC c 3) 3 = m := ⟨(belowV (belowC c 3) 3).toNat, by omega⟩
  have hP : puts m (belowC (belowC c 3) 3) [] = ((madeV c t).outs, madeC c) := by simp [madeV, madeC, madeP, hm]
  rw [hm] at q2 ⊢
  simp
  refine T.le (Le.layC 5 1 2 (by simp [upd_app]; rfl) rfl) ?_
  refine T.rounds (μ := fun i : Nat × Cur × List File => i.1)
    (fun i s => i.2.1.ok ∧ i.2.2.length + i.1 ≤ 3 ∧ (∀ x ∈ i.2.2, x.path.size ≤ 5 ∧ x.text.size ≤ 5) ∧ puts i.1 i.2.1 i.2.2 = ((madeV c t).outs, madeC c) ∧ s.ρ 0 = .ref 100000 0 ∧ s.ρ 4 = .ref 4 0 ∧ s.ρ 5 = .ref 5 0 ∧ s.ρ 6 = .sc (.int .i64 i.1) ∧ s.h 100000 = some (some i.2.1.cs) ∧
      s.h 4 = some (some [.sc (.string ⟨#[]⟩), .em, .sc (.string ⟨#[]⟩)]) ∧ s.h 5 = some (some [.sc (.string t), .own (rows File.ty.oc i.2.2) i.2.2.length 2, .sc (.string (pickS doneL c 3))]) ∧ s.h 60 = none ∧ s.h 22 = none ∧ s.h 25 = none ∧ s.h 29000 = none ∧ s.n = 33) (m, belowC (belowC c 3) 3, []) (by simp [upd_app, rows_nil, hP, belowC_ok, hc]; omega) ?_
  rintro ⟨j, d, out⟩ ⟨ρ, hh, n⟩ ⟨hd, hj, hs, hE, h0', h4', h5', h6', kc, k4, k5, f1, f2, f3, f4, rfl⟩
  simp only at hd hj hs hE h0' h4' h5' h6' kc k4 k5 f1 f2 f3 f4
  refine T.le (Le.open 5 1 60 k5 rfl f1 (File.frL _)) ?_
  refine run_ok (n := 400) ?_
  cases j with
  | zero =>
    simp only [puts] at hE
    have hE1 : out = (madeV c t).outs := by rw [← (Prod.mk.inj hE).1]
    have hE2 : d = madeC c := (Prod.mk.inj hE).2
    simp [h6']
    refine T.on 400 ?_
    simp [h0', h4', h5', k4, kc, over, ex1, File.ocl, File.frL, fr, ioPos1, Made.oce, hE1, hE2]
    exact ⟨rfl, rfl⟩
  | succ j =>
    have hw : IntKind.i64.wrap (j : Int) = j := wrap_i64 (by omega) (by omega)
    have hpos : (0 : Int) < (j : Int) + 1 := by omega
    have ra : Ret Tryd.prog 28 [.bx d.cs, .own (rows Ty.str.oc opqL) 3 1] (.sc (.string (oneOut d).path)) [.bx (belowC d 3).cs, .un] := R28 d hd opqL (by decide)
    have rb : Ret Tryd.prog 28 [.bx (belowC d 3).cs, .own (rows Ty.str.oc hiTL) 3 1] (.sc (.string (oneOut d).text)) [.bx (belowC (belowC d 3) 3).cs, .un] := R28 _ (belowC_ok hd 3) hiTL (by decide)
    have hok : File.ty.slice.ok out := ⟨show out.length * 32 ≤ 140737488351232 by omega, fun x hx => ⟨show x.path.size ≤ 140737488351232 by have := hs x hx; omega, show x.text.size ≤ 140737488351232 by have := hs x hx; omega, trivial⟩⟩
    have rp := R39 out (oneOut d) hok (fun x hx => by have := hs x hx; omega) (by have := oneOut_size d; omega)
    simp [h6', hpos]
    refine T.textW 400 [([], [22, 25, 100000]), ([], [22, 25, 100000]), ([], [22, 25]), ([22], [25]), ([100000, 22], [25]), ([], [22, 25, 100000]), ([25], [22, 100000]), ([100000, 25], []), ([], []), ([29000], []), ([], []), ([], []), ([], [5]), ([], []), ([5], [])] mixed (by kernel_rfl) (by kernel_rfl) ?_
    simp [h0', h5', f2, f3, over]
    refine callWK.bm 100000 22 (len := 3) (sz := 1) rfl (by kernel_rfl) (by simp [upd_app, h0']) (by simp [upd_app, kc]) (fr d) (by simp [upd_app]) (by simp [upd_app]; rfl) (by rfl) (by rfl) (by decide) ra rfl (by decide) ?_
    simp [h0', h5', f2, f3, over, merge_nil, hideH_nil]
    refine callWK.bm 100000 25 (len := 3) (sz := 1) rfl (by kernel_rfl) (by simp [upd_app, h0']) (by simp [upd_app, kc]) (fr _) (by simp [upd_app]) (by simp [upd_app]; rfl) (by rfl) (by rfl) (by decide) rb rfl (by decide) ?_
    simp [h0', h5', f2, f3, over, merge_nil, hideH_nil]
    refine callWK.ro 28 rfl (by kernel_rfl) (by simp [roc_agg, File.roc8, File.cse, upd_app]) rp (by simpa [flt, flt.fltL] using fltL_of (rows_all (q := flt) (fun x c hc => (File.ty.ow x c hc).fl) _)) (by simp [inst, instL, upd_app, f4]; exact ⟨rfl, rfl⟩) (by rfl) ?_
    simp [h0', h5', h6', f2, f3, f4, over, merge_nil, hideH_nil, hw]
    refine ⟨j, by omega, belowC (belowC d 3) 3, (putFile out (oneOut d)).1, _, Le.trans (Le.pack 5 1 (i := 29000) (len := (putFile out (oneOut d)).1.length) (sz := 2) (cs' := rows File.ty.oc (putFile out (oneOut d)).1) (by simp [upd_app, merge_app]; rfl) (by rfl) (by simp [upd_app, merge_app]) (by decide) (by simp [File.ocl]) (File.frL _)) (Le.reseat [0, 4, 5, 6] [(100000, 100000), (4, 4), (5, 5)] (by simp) (by simp [upd_app, menB, idfree, h0', h4', h5']) ?_), ?_⟩
    · intro b hb cs hcs
      simp at hb
      rcases hb with rfl | rfl | rfl
      · simp [upd_app, merge_app] at hcs
        subst hcs
        intro y hy
        simp [Cur.cs] at hy
        rcases hy with rfl | rfl | rfl <;> rfl
      · simp [upd_app, merge_app, hideH_app, k4] at hcs
        subst hcs
        simp [idfree]
      · simp [upd_app, merge_app] at hcs
        subst hcs
        have hf := File.frL (putFile out (oneOut d)).1
        simp [idfree, hf]
    · have hl := putFile_len out (oneOut d)
      have hz := oneOut_size d
      simp [upd_app, merge_app, hideH_app, h0', h4', h5', k4, belowC_ok, hd]
      refine ⟨by omega, fun x hx => (putFile_mem out (oneOut d) x hx).elim (fun e => e ▸ hz) (hs x), hE⟩
theorem puts_ok : ∀ (n : Nat) (c : Cur) (l : List File), c.ok → (∀ x ∈ l, x.path.size ≤ 5 ∧ x.text.size ≤ 5) → (puts n c l).2.ok ∧ (puts n c l).1.length ≤ l.length + n ∧ ∀ x ∈ (puts n c l).1, x.path.size ≤ 5 ∧ x.text.size ≤ 5
  | 0, c, l, hc, h => ⟨hc, Nat.le_refl _, h⟩
  | n + 1, c, l, hc, h => by
    have hl := putFile_len l (oneOut c)
    obtain ⟨h1, h2, h3⟩ := puts_ok n (belowC (belowC c 3) 3) (putFile l (oneOut c)).1 (belowC_ok (belowC_ok hc 3) 3) (fun x hx => (putFile_mem l (oneOut c) x hx).elim (fun e => e ▸ oneOut_size c) (h x))
    exact ⟨h1, Nat.le_trans h2 (by omega), h3⟩
theorem madeP_ok {c : Cur} (hc : c.ok) : (madeC c).ok ∧ (madeP c).1.length ≤ 2 ∧ ∀ x ∈ (madeP c).1, x.path.size ≤ 5 ∧ x.text.size ≤ 5 := by
  obtain ⟨q1, q2⟩ := belowV_rng (belowC c 3) (n := 3) (by omega)
  obtain ⟨h1, h2, h3⟩ := puts_ok (belowV (belowC c 3) 3).toNat (belowC (belowC c 3) 3) [] (belowC_ok (belowC_ok hc 3) 3) (by simp)
  refine ⟨h1, Nat.le_trans h2 ?_, h3⟩
  simp only [List.length_nil]
  omega
def abxL : List ByteArray := [⟨#[97, 35, 98, 117, 105, 108, 100]⟩, ⟨#[98, 35, 116, 101, 115, 116]⟩, ⟨#[120]⟩, ⟨#[]⟩]
def abzL : List ByteArray := [⟨#[97, 47, 98]⟩, ⟨#[]⟩, ⟨#[97]⟩, ⟨#[122, 122]⟩]
def zF (i : Nat) : File := ⟨⟨#[122]⟩ ++ numT i, ⟨#[]⟩⟩
def zFs : Nat → List File
  | 0 => []
  | n + 1 => zFs n ++ [zF n]
def anyP (c : Cur) : Made × Cur :=
  let t := pickS abxL c 4
  let m := madeV (belowC c 4) t
  let c2 := madeC (belowC c 4)
  let c3 := belowC c2 8
  if belowV c2 8 = 0 then (⟨m.task, m.outs ++ [⟨pickS abzL c3 4, ⟨#[]⟩⟩], m.log⟩, belowC c3 4)
  else if belowV c2 8 = 1 then (⟨m.task, m.outs, strOfNums (List.replicate (200 + belowV c3 2).toNat 0)⟩, belowC c3 2)
  else if belowV c2 8 = 2 then (⟨m.task, m.outs ++ zFs 6, m.log⟩, c3)
  else (m, c3)
def sB (s : ByteArray) : List Int := s.data.toList.map fun b => (b.toNat : Int)
theorem sB_len (s : ByteArray) : (sB s).length = s.size := by rw [sB, List.length_map, Array.length_toList]; rfl
theorem strCells_rows (s : ByteArray) : strCells s = rows B (sB s) := by
  unfold strCells sB
  induction s.data.toList with
  | nil => rfl
  | cons x xs ih => rw [List.map_cons, List.map_cons, rows_cons, ih]; rfl
def hiL (n : Nat) : List Int := [(n : Int) / 256, (n : Int) % 256]
def putT (b : List Int) (s : ByteArray) : List Int := if s.size ≤ 60000 then b ++ (hiL s.size ++ sB s) else b
theorem rowsB_hi (n : Nat) : [AV.sc (.int .u8 ((n : Int) / 256)), AV.sc (.int .u8 ((n : Int) % 256))] = rows B (hiL n) := rfl
theorem wrap_hi {n : Nat} (h : n ≤ 60000) : IntKind.u8.wrap ((n : Int).fdiv (2 ^ min 8 IntKind.i64.bits)) = (n : Int) / 256 := by
  have e : (n : Int).fdiv (2 ^ min 8 IntKind.i64.bits) = (n : Int) / 256 := by
    rw [Int.fdiv_eq_ediv_of_nonneg _ (by decide)]; rfl
  rw [e]
  simp [IntKind.wrap, IntKind.bits, IntKind.signed]
  omega
theorem wrap_lo (n : Nat) : IntKind.u8.wrap (n : Int) = (n : Int) % 256 := rfl
def A15 : AC := (.seq (.ops [⟨(some 4), none, .q (.mov (.c .em))⟩])
  (.seq (.seq (.ops [⟨(some 5), none, .q (.mov (.t 1))⟩, ⟨(some 6), none, .q (.slen (.t 5))⟩, ⟨(some 7), none, .q (.bin .gtr (.t 6) (.c (.sc (.int .i64 60000))))⟩])
  (.cond (.t 7) (.seq (.ops [⟨(some 8), none, .q (.mov (.t 0))⟩, ⟨(some 4), none, .q (.mov (.t 8))⟩])
  .ret)
  .skip))
  (.seq (.ops [⟨(some 9), none, .q (.mov (.t 0))⟩, ⟨(some 10), none, .q (.mov (.t 1))⟩, ⟨(some 11), none, .q (.slen (.t 10))⟩, ⟨(some 12), none, .q (.bin .shr (.t 11) (.c (.sc (.int .u64 8))))⟩, ⟨(some 13), none, .q (.cvi .u8 (.t 12))⟩, ⟨(some 14), none, .q (.mov (.t 1))⟩, ⟨(some 15), none, .q (.slen (.t 14))⟩, ⟨(some 16), none, .q (.cvi .u8 (.t 15))⟩, ⟨(some 17), none, .w (.bsl 1 2 [(.sc (.int .u8 0)), (.sc (.int .u8 0))] [(0, 1, (.t 13)), (1, 1, (.t 16))])⟩, ⟨(some 18), none, .w (.app 1 1 false (.t 9) (.t 17))⟩, ⟨(some 19), none, .q (.mov (.t 1))⟩, ⟨(some 20), none, .w (.app 1 1 true (.t 18) (.t 19))⟩, ⟨(some 4), none, .q (.mov (.t 20))⟩])
  .ret)))
theorem K15 : Tryd.f15.body.bind (comp Tryd.prog) = some A15 ∧ Tryd.f15.ntmps = 21 ∧ Tryd.f15.results.toList.mapM (resB Tryd.prog) = some [.mov (.t 4)] := ⟨by kernel_rfl, by kernel_rfl, by kernel_rfl⟩
theorem R15 (b : List Int) (s : ByteArray) (hb : b.length + s.size ≤ 140737488350000) : Ret Tryd.prog 15 [.own (rows B b) b.length 1, .sc (.string s)] (.own (rows B (putT b s)) (putT b s).length 1) [.un, .un] := by
  have hl := sB_len s
  refine Ret.run Tryd.func15 K15 (by simp) rfl rfl 500 ?_
  simp [A15, iniρ]
  by_cases h : s.size ≤ 60000
  case neg =>
    have h2 : (60000 : Int) < s.size := by omega
    have e : putT b s = b := if_neg h
    simp [h2, e, ex1, B.count, idfreeL_rows B.fr]
  have h2 : ¬ (60000 : Int) < s.size := by omega
  have e : putT b s = b ++ (hiL s.size ++ sB s) := if_pos h
  have hw := wrap_hi h
  have hw2 := wrap_lo s.size
  have c1 : b.length + 2 ≤ 140737488355328 := by omega
  have c2 : b.length + 2 + s.size ≤ 140737488355328 := by omega
  have e2 : (putT b s).length = b.length + 2 + s.size := by rw [e]; simp [hiL, hl]; omega
  have e3 : rows B (putT b s) = rows B b ++ (AV.sc (.int .u8 ((s.size : Int) / 256)) :: AV.sc (.int .u8 ((s.size : Int) % 256)) :: rows B (sB s)) := by rw [e, rows_append, rows_append, ← rowsB_hi]; rfl
  have hid := idfreeL_rows B.fr (putT b s)
  have c3 : b.length + (s.size + 1 + 1) = b.length + 2 + s.size := by omega
  rw [e3] at hid
  rw [e2, e3]
  simp [h2, hw, hw2, over, ex1, B.count, c1, c2, c3, strCells_rows, hl, hid]
def A26 : AC := (.seq (.ops [⟨(some 4), none, .q (.mov (.c .em))⟩])
  (.seq (.ops [⟨(some 6), none, .w (.bsl 1 0 [] [])⟩, ⟨(some 7), none, .q (.mov (.t 0))⟩, ⟨(some 8), none, .w (.app 1 1 false (.t 6) (.t 7))⟩, ⟨(some 5), none, .q (.mov (.t 8))⟩])
  (.seq (.seq (.ops [⟨(some 9), none, .q (.mov (.t 1))⟩, ⟨(some 10), none, .q (.slen (.t 9))⟩, ⟨(some 11), none, .q (.bin .gtr (.t 10) (.c (.sc (.int .i64 60000))))⟩])
  (.cond (.t 11) (.seq (.ops [⟨(some 12), none, .q (.mov (.t 5))⟩, ⟨(some 4), none, .q (.mov (.t 12))⟩])
  .ret)
  .skip))
  (.seq (.ops [⟨(some 13), none, .q (.mov (.t 5))⟩, ⟨(some 14), none, .q (.mov (.t 1))⟩, ⟨(some 15), none, .q (.slen (.t 14))⟩, ⟨(some 16), none, .q (.bin .shr (.t 15) (.c (.sc (.int .u64 8))))⟩, ⟨(some 17), none, .q (.cvi .u8 (.t 16))⟩, ⟨(some 18), none, .q (.mov (.t 1))⟩, ⟨(some 19), none, .q (.slen (.t 18))⟩, ⟨(some 20), none, .q (.cvi .u8 (.t 19))⟩, ⟨(some 21), none, .w (.bsl 1 2 [(.sc (.int .u8 0)), (.sc (.int .u8 0))] [(0, 1, (.t 17)), (1, 1, (.t 20))])⟩, ⟨(some 22), none, .w (.app 1 1 false (.t 13) (.t 21))⟩, ⟨(some 5), none, .q (.mov (.t 22))⟩])
  (.seq (.ops [⟨(some 23), none, .q (.mov (.t 5))⟩, ⟨(some 24), none, .q (.mov (.t 1))⟩, ⟨(some 25), none, .w (.app 1 1 true (.t 23) (.t 24))⟩, ⟨(some 4), none, .q (.mov (.t 25))⟩])
  .ret)))))
theorem K26 : Tryd.f26.body.bind (comp Tryd.prog) = some A26 ∧ Tryd.f26.ntmps = 26 ∧ Tryd.f26.results.toList.mapM (resB Tryd.prog) = some [.mov (.t 4)] := ⟨by kernel_rfl, by kernel_rfl, by kernel_rfl⟩
theorem R26 (b : List Int) (s : ByteArray) (hb : b.length + s.size ≤ 140737488350000) : Ret Tryd.prog 26 [.ro (rows B b) b.length, .sc (.string s)] (.own (rows B (putT b s)) (putT b s).length 1) [.un, .un] := by
  have hl := sB_len s
  have c0 : b.length ≤ 140737488355328 := by omega
  refine Ret.run Tryd.func26 K26 (by simp) rfl rfl 500 ?_
  simp [A26, iniρ, over]
  by_cases h : s.size ≤ 60000
  case neg =>
    have h2 : (60000 : Int) < s.size := by omega
    have e : putT b s = b := if_neg h
    simp [h2, e, ex1, B.count, idfreeL_rows B.fr, c0]
  have h2 : ¬ (60000 : Int) < s.size := by omega
  have e : putT b s = b ++ (hiL s.size ++ sB s) := if_pos h
  have hw := wrap_hi h
  have hw2 := wrap_lo s.size
  have c1 : b.length + 2 ≤ 140737488355328 := by omega
  have c2 : b.length + 2 + s.size ≤ 140737488355328 := by omega
  have e2 : (putT b s).length = b.length + 2 + s.size := by rw [e]; simp [hiL, hl]; omega
  have e3 : rows B (putT b s) = rows B b ++ (AV.sc (.int .u8 ((s.size : Int) / 256)) :: AV.sc (.int .u8 ((s.size : Int) % 256)) :: rows B (sB s)) := by rw [e, rows_append, rows_append, ← rowsB_hi]; rfl
  have hid := idfreeL_rows B.fr (putT b s)
  have c3 : b.length + (s.size + 1 + 1) = b.length + 2 + s.size := by omega
  rw [e3] at hid
  rw [e2, e3]
  simp [h2, hw, hw2, over, ex1, B.count, c0, c1, c2, c3, strCells_rows, hl, hid]
theorem digC_is (m : Nat) (h : m < 10) : digC (m : Int) = ⟨#[UInt8.ofNat (48 + m)]⟩ := by
  have : m = 0 ∨ m = 1 ∨ m = 2 ∨ m = 3 ∨ m = 4 ∨ m = 5 ∨ m = 6 ∨ m = 7 ∨ m = 8 ∨ m = 9 := by omega
  rcases this with rfl | rfl | rfl | rfl | rfl | rfl | rfl | rfl | rfl | rfl <;> rfl
theorem ba_app (a b : List UInt8) : (⟨a.toArray⟩ : ByteArray) ++ (⟨b.toArray⟩ : ByteArray) = ⟨(a ++ b).toArray⟩ := by
  apply ByteArray.ext
  simp [ByteArray.data_append]
theorem numF_dec : ∀ (k n : Nat) (b : ByteArray), n ≤ k → numF k n (digC ((n : Int) % 10) ++ b) = ⟨(Lib.decDigits n).toArray⟩ ++ b := by
  intro k
  induction k with
  | zero =>
    intro n b h
    obtain rfl : n = 0 := by omega
    rw [Lib.decDigits]; rfl
  | succ k ih =>
    intro n b h
    by_cases h9 : 9 < n
    · rw [numF, if_pos h9]
      have e1 : ((n : Int) / 10 % 10) = ((n / 10 : Nat) : Int) % 10 := by omega
      have hd : Lib.decDigits n = Lib.decDigits (n / 10) ++ [UInt8.ofNat (48 + n % 10)] := by rw [Lib.decDigits, dif_neg (by omega)]
      rw [e1, ih (n / 10) _ (by omega), hd]
      have e2 : ((n : Int) % 10) = ((n % 10 : Nat) : Int) := by omega
      rw [e2, digC_is _ (by omega), ← ba_app, ByteArray.append_assoc]
    · rw [numF, if_neg h9, Lib.decDigits, dif_pos (by omega)]
      have e2 : ((n : Int) % 10) = (n : Int) := by omega
      rw [e2, digC_is _ (by omega)]
theorem numT_dec (n : Nat) : (⟨(Lib.itoa n).toArray⟩ : ByteArray) = numT n := by
  have h := numF_dec n n ⟨#[]⟩ (Nat.le_refl _)
  have e : ∀ a : ByteArray, a ++ (⟨#[]⟩ : ByteArray) = a := fun a => by apply ByteArray.ext; simp [ByteArray.data_append]
  rw [e, e] at h
  rw [numT, h, Lib.itoa, if_neg (by omega)]
  rfl
theorem R35 (n : Int) (h0 : -9223372036854775808 ≤ n) (h1 : n ≤ 9223372036854775807) : Ret Tryd.prog 35 [.sc (.int .i64 n)] (.sc (.string ⟨(Lib.itoa n).toArray⟩)) [.un] :=
  Ret.itoaOf (fun n w h0 h1 ht => Any.strconv_Itoa Tryd.laysM171 n h0 h1 w ht) n h0 h1
def A16 : AC := (.seq (.ops [⟨(some 2), none, .q (.mov (.c (.sc (.string ⟨#[]⟩))))⟩])
  (.seq (.ops [⟨(some 3), none, .q (.mov (.t 0))⟩, ⟨(some 4), none, .q (.mm false (.t 3) (.c (.sc (.int .i64 0))))⟩, ⟨(some 5), none, .c (.c (.clo 35 [])) [(.t 4)]⟩, ⟨(some 2), none, .q (.mov (.t 5))⟩])
  .ret))
theorem K16 : Tryd.f16.body.bind (comp Tryd.prog) = some A16 ∧ Tryd.f16.ntmps = 6 ∧ Tryd.f16.results.toList.mapM (resB Tryd.prog) = some [.mov (.t 2)] := ⟨by kernel_rfl, by kernel_rfl, by kernel_rfl⟩
theorem R16 (n : Nat) (hn : n < 4611686018427387904) : Ret Tryd.prog 16 [.sc (.int .i64 n)] (.sc (.string (numT n))) [.un] := by
  have h0 : ¬ ((n : Int) < 0) := by omega
  have r := R35 n (by omega) (by omega)
  rw [numT_dec] at r
  refine Ret.run Tryd.func16 K16 (by simp) rfl rfl 500 ?_
  simp [A16, iniρ, h0]
  refine callK.ro 0 rfl (by kernel_rfl) (by simp [roc_sc, upd_app]) r rfl rfl rfl ?_
  simp
def figL : List UInt8 → Bool
  | [] => true
  | c :: l => figI (c.toNat : Int) && figL l
def digS (a : Nat) (c : UInt8) : Nat := a * 10 + (c.toNat - 48)
theorem digS_eq (a : Nat) (c : UInt8) : digS a c = a * 10 + (c.toNat - 48) := rfl
def digF (a : Nat) (l : List UInt8) : Nat := l.foldl digS a
theorem digF_nil (a : Nat) : digF a [] = a := rfl
theorem digF_cons (a : Nat) (c : UInt8) (l : List UInt8) : digF a (c :: l) = digF (a * 10 + (c.toNat - 48)) l := by unfold digF; rw [List.foldl_cons, digS_eq]
theorem figL_app : ∀ a b : List UInt8, figL (a ++ b) = (figL a && figL b)
  | [], b => rfl
  | x :: a, b => by rw [List.cons_append, figL, figL, figL_app a b, Bool.and_assoc]
theorem digF_app (a b : List UInt8) (n : Nat) : digF n (a ++ b) = digF (digF n a) b := by unfold digF; rw [List.foldl_append]
theorem dec_small {n : Nat} (h : n < 10) : Lib.decDigits n = [UInt8.ofNat (48 + n)] := by rw [Lib.decDigits, dif_pos h]
theorem dec_big {n : Nat} (h : 10 ≤ n) : Lib.decDigits n = Lib.decDigits (n / 10) ++ [UInt8.ofNat (48 + n % 10)] := by rw [Lib.decDigits, dif_neg (by omega)]
theorem numT_list (n : Nat) : (numT n).data.toList = Lib.decDigits n := by
  rw [← numT_dec, Lib.itoa, if_neg (by omega)]
  simp
def putFs : List Int → List File → List Int
  | b, [] => b
  | b, f :: l => putFs (putT (putT b f.path) f.text) l
def putFl (b : List Int) (l : List File) : List Int := putFs (putT b (numT l.length)) l
def fw : List File → Nat
  | [] => 0
  | f :: l => f.path.size + f.text.size + 4 + fw l
theorem putT_le (b : List Int) (s : ByteArray) : (putT b s).length ≤ b.length + s.size + 2 := by
  unfold putT
  split
  · have := sB_len s
    simp only [List.length_append, hiL, List.length_cons, List.length_nil, this]; omega
  · omega
theorem B_fl (b : List Int) : flt (.own (rows B b) b.length 1) = true := B.flo b
theorem B_cnt (b : List Int) : (rows B b).length = b.length * 1 := by rw [Nat.mul_one]; exact B.count b
def A17 : AC := (.seq (.ops [⟨(some 4), none, .q (.mov (.c .em))⟩])
  (.seq (.ops [⟨(some 7), none, .q (.mov (.t 0))⟩, ⟨(some 8), none, .q (.mov (.t 1))⟩, ⟨(some 9), none, .q (.llen (.t 8))⟩, ⟨(some 10), none, .c (.c (.clo 16 [])) [(.t 9)]⟩, ⟨(some 11), none, .c (.c (.clo 15 [])) [(.t 7), (.t 10)]⟩, ⟨(some 0), none, .q (.mov (.t 11))⟩])
  (.seq (.seq (.ops [⟨(some 12), none, .q (.mov (.t 1))⟩, ⟨(some 13), none, .q (.llen (.t 12))⟩, ⟨(some 14), none, .q (.mov (.c (.sc (.int .i64 0))))⟩])
  (.block 0 (.loop (.seq (.ops [⟨(some 15), none, .q (.bin .lss (.t 14) (.t 13))⟩])
  (.seq (.cond (.t 15) .skip
  (.exit 0))
  (.seq (.block 1 (.seq (.ops [⟨(some 16), none, .q (.iadr 2 (.t 12) (.t 14))⟩, ⟨(some 17), none, .q (.load true 2 (.t 16))⟩, ⟨(some 6), none, .w (.alloc [(.sc (.string ⟨#[]⟩)), (.sc (.string ⟨#[]⟩))])⟩, ⟨none, none, .w (.store 2 (.t 6) (.t 17))⟩])
  (.any [(⟨(some 18), none, .q (.mov (.t 0))⟩, []), (⟨(some 19), none, .q (.fadr 0 (.t 6))⟩, []), (⟨(some 20), none, .q (.load false 1 (.t 19))⟩, [1]), (⟨(some 21), none, .c (.c (.clo 15 [])) [(.t 18), (.t 20)]⟩, [0, 2]), (⟨(some 22), none, .q (.fadr 1 (.t 6))⟩, []), (⟨(some 23), none, .q (.load false 1 (.t 22))⟩, [4]), (⟨(some 24), none, .c (.c (.clo 15 [])) [(.t 21), (.t 23)]⟩, [3, 5, 3]), (⟨(some 0), none, .q (.mov (.t 24))⟩, [6, 6, 0, 1, 2, 3, 4, 5, 6])])))
  (.ops [⟨(some 25), none, .q (.bin .add (.t 14) (.c (.sc (.int .i64 1))))⟩, ⟨(some 14), none, .q (.mov (.t 25))⟩])))))))
  (.seq (.ops [⟨(some 26), none, .q (.mov (.t 0))⟩, ⟨(some 4), none, .q (.mov (.t 26))⟩])
  .ret))))
theorem K17 : Tryd.f17.body.bind (comp Tryd.prog) = some A17 ∧ Tryd.f17.ntmps = 27 ∧ Tryd.f17.results.toList.mapM (resB Tryd.prog) = some [.mov (.t 4)] := ⟨by kernel_rfl, by kernel_rfl, by kernel_rfl⟩
set_option maxHeartbeats 2000000 in
theorem R17 (b : List Int) (xs : List File) (hn : xs.length < 4611686018427387904) (hb : b.length + xs.length + 10 + fw xs ≤ 140737488350000) : Ret Tryd.prog 17 [.own (rows B b) b.length 1, .ro (rows File.ty.cs xs) xs.length] (.own (rows B (putFl b xs)) (putFl b xs).length 1) [.un, .un] := by
  have hns := numT_size xs.length
  have hpl := putT_le b (numT xs.length)
  refine Ret.run Tryd.func17 K17 (by simp) rfl rfl 900 ?_
  simp [A17, iniρ]
  refine callK.ro 0 rfl (by kernel_rfl) (by simp [roc_sc]) (R16 xs.length hn) rfl rfl rfl ?_
  simp
  refine callK.mv1 11 100000 rfl (by kernel_rfl) (by simp [upd_app]) (by simp [upd_app]) (B_cnt _) (idfreeL_rows B.fr _) (by simp [upd_app, roc_sc]) (R15 b (numT xs.length) (by omega)) (B_fl _) (by simp [inst, upd_app]; exact ⟨rfl, rfl⟩) rfl ?_
  simp
  refine T.le (Le.reseat [0, 1, 12, 13, 14] [(11, 60)] (by simp) (by simp [upd_app, menB, idfree]) (by
    intro c hc cs hcs
    simp at hc
    subst hc
    simp [upd_app] at hcs
    subst hcs
    exact idfreeL_mem (idfreeL_rows B.fr _))) ?_
  refine T.rounds (μ := fun i : List File × List File × List Int => i.2.1.length)
    (fun i s => i.1 ++ i.2.1 = xs ∧ putFs i.2.2 i.2.1 = putFl b xs ∧ i.2.2.length + fw i.2.1 ≤ 140737488350000 ∧ s.ρ 0 = .sl 60 0 i.2.2.length 1 false ∧ s.ρ 12 = .ro (rows File.ty.cs xs) xs.length ∧ s.ρ 13 = .sc (.int .i64 xs.length) ∧ s.ρ 14 = .sc (.int .i64 i.1.length) ∧ s.h 60 = some (some (rows B i.2.2)) ∧ (∀ c, c ≠ 60 → s.h c = none) ∧ s.n = 27) ([], xs, putT b (numT xs.length)) (by simp [upd_app, putFl]; exact ⟨by omega, fun c hc => by rw [if_neg (fun e => hc e.symm)]⟩) ?_
  rintro ⟨pre, rest, cur⟩ ⟨ρ, hh, n⟩ ⟨hx, hE, hw, k0, k12, k13, k14, b60, bf, rfl⟩
  simp only at hx hE hw k0 k12 k13 k14 b60 bf
  refine run_ok (n := 400) ?_
  cases rest with
  | nil =>
    have hxl : pre.length = xs.length := by rw [← hx]; simp
    have hE : cur = putFl b xs := hE
    simp [k13, k14, hxl]
    refine T.on 400 ?_
    simp [k0, b60, hE, ex1, B.count, idfreeL_rows B.fr]
  | cons x rest =>
    have hle : pre.length + (rest.length + 1) = xs.length := by rw [← hx]; simp
    have hlt : (pre.length : Int) < xs.length := by omega
    have hwr : IntKind.i64.wrap ((pre.length : Int) + 1) = pre.length + 1 := wrap_i64 (by omega) (by omega)
    have hd := rows_drop File.ty.csn pre (x :: rest)
    rw [hx, rows_cons] at hd
    have hd : List.drop (pre.length * 2) (rows File.ty.cs xs) = AV.sc (.string x.path) :: AV.sc (.string x.text) :: rows File.ty.cs rest := hd
    have f6 := bf 6 (by decide)
    have f21 := bf 21 (by decide)
    have f24 := bf 24 (by decide)
    rw [fw] at hw
    have p1 := putT_le cur x.path
    have p2 := putT_le (putT cur x.path) x.text
    simp [k0, k12, k13, k14, hlt, hd, f6, over]
    refine T.textW 400 [([], []), ([], []), ([], []), ([60, 21], []), ([], [21, 60]), ([], [21, 60]), ([21, 24], []), ([], [])] mixed (by kernel_rfl) (by kernel_rfl) ?_
    simp [k0, merge_nil, hideH_nil]
    refine callWK.mv1 21 60 rfl (by kernel_rfl) (by simp [upd_app]) (by simp [upd_app, hideH_app, b60]) (B_cnt _) (idfreeL_rows B.fr _) (by simp [upd_app, roc_sc]) (R15 cur x.path (by omega)) (B_fl _) (by simp [inst, upd_app, hideH_app, f21]; exact ⟨rfl, rfl⟩) (by rfl) ?_
    simp [merge_nil, hideH_nil]
    refine callWK.mv1 24 21 rfl (by kernel_rfl) (by simp [upd_app]) (by simp [upd_app, hideH_app]) (B_cnt _) (idfreeL_rows B.fr _) (by simp [upd_app, roc_sc]) (R15 (putT cur x.path) x.text (by omega)) (B_fl _) (by simp [inst, upd_app, hideH_app, f24]; exact ⟨rfl, rfl⟩) (by rfl) ?_
    simp [k14, hwr, merge_nil, hideH_nil]
    refine ⟨pre ++ [x], rest, by simp, putT (putT cur x.path) x.text, _, Le.reseat [0, 12, 13, 14] [(24, 60)] (by simp) (by simp [upd_app, menB, idfree, k12, k13]) ?_, by simpa using hx, hE, by omega, ?_⟩
    · intro c hc cs hcs
      simp at hc
      subst hc
      simp [upd_app] at hcs
      subst hcs
      exact idfreeL_mem (idfreeL_rows B.fr _)
    · simp [upd_app, k12, k13]
      intro c hc
      rw [if_neg (fun e => hc e.symm)]
def A25 : AC := (.seq (.ops [⟨(some 4), none, .q (.mov (.c .em))⟩])
  (.seq (.ops [⟨(some 5), none, .q (.mov (.t 0))⟩, ⟨(some 6), none, .q (.mov (.t 1))⟩, ⟨(some 7), none, .c (.c (.clo 38 [])) [(.t 6)]⟩, ⟨(some 8), none, .c (.c (.clo 26 [])) [(.t 5), (.t 7)]⟩, ⟨(some 4), none, .q (.mov (.t 8))⟩])
  .ret))
theorem K25 : Tryd.f25.body.bind (comp Tryd.prog) = some A25 ∧ Tryd.f25.ntmps = 9 ∧ Tryd.f25.results.toList.mapM (resB Tryd.prog) = some [.mov (.t 4)] := ⟨by kernel_rfl, by kernel_rfl, by kernel_rfl⟩
theorem R25 (b : List Int) (n : Nat) (hn : n < 4611686018427387904) (hb : b.length + n + 10 ≤ 140737488350000) : Ret Tryd.prog 25 [.ro (rows B b) b.length, .sc (.int .i64 n)] (.own (rows B (putT b (numT n))) (putT b (numT n)).length 1) [.un, .un] := by
  have hns := numT_size n
  refine Ret.run Tryd.func25 K25 (by simp) rfl rfl 900 ?_
  simp [A25, iniρ]
  refine callK.ro 0 rfl (by kernel_rfl) (by simp [roc_sc]) (R38 n hn) rfl rfl rfl ?_
  simp
  refine callK.own 8 rfl (by kernel_rfl) (by simp [roc_sc, roc_ro]) (R26 b (numT n) (by omega)) (B_fl _) (by simp) rfl ?_
  simp [ex1, B.count, idfreeL_rows B.fr]
def A27 : AC := (.seq (.ops [⟨(some 4), none, .q (.mov (.c .em))⟩])
  (.seq (.ops [⟨(some 6), none, .q (.mov (.t 0))⟩, ⟨(some 7), none, .q (.mov (.t 1))⟩, ⟨(some 8), none, .q (.llen (.t 7))⟩, ⟨(some 9), none, .c (.c (.clo 25 [])) [(.t 6), (.t 8)]⟩, ⟨(some 0), none, .q (.mov (.t 9))⟩])
  (.seq (.seq (.ops [⟨(some 5), none, .q (.mov (.c (.sc (.int .i64 0))))⟩])
  (.block 0 (.loop (.seq (.seq (.ops [⟨(some 10), none, .q (.mov (.t 5))⟩, ⟨(some 11), none, .q (.mov (.t 1))⟩, ⟨(some 12), none, .q (.llen (.t 11))⟩, ⟨(some 13), none, .q (.bin .lss (.t 10) (.t 12))⟩])
  (.cond (.t 13) .skip
  (.exit 0)))
  (.seq (.block 1 (.any [(⟨(some 16), none, .q (.mov (.t 0))⟩, []), (⟨(some 17), none, .q (.mov (.t 1))⟩, []), (⟨(some 18), none, .q (.mov (.t 5))⟩, []), (⟨(some 19), none, .q (.iadr 2 (.t 17) (.t 18))⟩, [1, 2]), (⟨(some 20), none, .q (.fadr 0 (.t 19))⟩, [3]), (⟨(some 21), none, .q (.load false 1 (.t 20))⟩, [4]), (⟨(some 22), none, .c (.c (.clo 26 [])) [(.t 16), (.t 21)]⟩, [0, 5]), (⟨(some 23), none, .q (.mov (.t 1))⟩, []), (⟨(some 24), none, .q (.mov (.t 5))⟩, []), (⟨(some 25), none, .q (.iadr 2 (.t 23) (.t 24))⟩, [7, 8]), (⟨(some 26), none, .q (.fadr 1 (.t 25))⟩, [9]), (⟨(some 27), none, .q (.load false 1 (.t 26))⟩, [10]), (⟨(some 28), none, .c (.c (.clo 26 [])) [(.t 22), (.t 27)]⟩, [6, 11, 6]), (⟨(some 0), none, .q (.mov (.t 28))⟩, [12, 12, 0, 1, 2, 3, 4, 5, 6, 7, 8, 9, 10, 11, 12])]))
  (.ops [⟨(some 14), none, .q (.mov (.t 5))⟩, ⟨(some 15), none, .q (.bin .add (.t 14) (.c (.sc (.int .i64 1))))⟩, ⟨(some 5), none, .q (.mov (.t 15))⟩]))))))
  (.seq (.ops [⟨(some 29), none, .q (.mov (.t 0))⟩, ⟨(some 4), none, .q (.mov (.t 29))⟩])
  .ret))))
theorem K27 : Tryd.f27.body.bind (comp Tryd.prog) = some A27 ∧ Tryd.f27.ntmps = 30 ∧ Tryd.f27.results.toList.mapM (resB Tryd.prog) = some [.mov (.t 4)] := ⟨by kernel_rfl, by kernel_rfl, by kernel_rfl⟩
set_option maxHeartbeats 2000000 in
theorem R27 (b : List Int) (xs : List File) (hn : xs.length < 4611686018427387904) (hb : b.length + xs.length + 10 + fw xs ≤ 140737488350000) : Ret Tryd.prog 27 [.ro (rows B b) b.length, .ro (rows File.ty.cs xs) xs.length] (.own (rows B (putFl b xs)) (putFl b xs).length 1) [.un, .un] := by
  have hns := numT_size xs.length
  have hpl := putT_le b (numT xs.length)
  refine Ret.run Tryd.func27 K27 (by simp) rfl rfl 900 ?_
  simp [A27, iniρ]
  refine callK.own 9 rfl (by kernel_rfl) (by simp [roc_sc, roc_ro]) (R25 b xs.length hn (by omega)) (B_fl _) (by simp) rfl ?_
  simp
  refine T.le (Le.reseat [0, 1, 5] [(9, 60)] (by simp) (by simp [upd_app, menB, idfree]) (by
    intro c hc cs hcs
    simp at hc
    subst hc
    simp [upd_app] at hcs
    subst hcs
    exact idfreeL_mem (idfreeL_rows B.fr _))) ?_
  refine T.rounds (μ := fun i : List File × List File × List Int => i.2.1.length)
    (fun i s => i.1 ++ i.2.1 = xs ∧ putFs i.2.2 i.2.1 = putFl b xs ∧ i.2.2.length + fw i.2.1 ≤ 140737488350000 ∧ s.ρ 0 = .sl 60 0 i.2.2.length 1 false ∧ s.ρ 1 = .ro (rows File.ty.cs xs) xs.length ∧ s.ρ 5 = .sc (.int .i64 i.1.length) ∧ s.h 60 = some (some (rows B i.2.2)) ∧ (∀ c, c ≠ 60 → s.h c = none) ∧ s.n = 30) ([], xs, putT b (numT xs.length)) (by simp [upd_app, putFl]; exact ⟨by omega, fun c hc => by rw [if_neg (fun e => hc e.symm)]⟩) ?_
  rintro ⟨pre, rest, cur⟩ ⟨ρ, hh, n⟩ ⟨hx, hE, hw, k0, k1, k5, b60, bf, rfl⟩
  simp only at hx hE hw k0 k1 k5 b60 bf
  refine run_ok (n := 400) ?_
  cases rest with
  | nil =>
    have hxl : pre.length = xs.length := by rw [← hx]; simp
    have hE : cur = putFl b xs := hE
    simp [k1, k5, hxl]
    refine T.on 400 ?_
    simp [k0, b60, hE, ex1, B.count, idfreeL_rows B.fr]
  | cons x rest =>
    have hle : pre.length + (rest.length + 1) = xs.length := by rw [← hx]; simp
    have hlt : (pre.length : Int) < xs.length := by omega
    have hwr : IntKind.i64.wrap ((pre.length : Int) + 1) = pre.length + 1 := wrap_i64 (by omega) (by omega)
    have hd := rows_drop File.ty.csn pre (x :: rest)
    rw [hx, rows_cons] at hd
    have hd : List.drop (pre.length * 2) (rows File.ty.cs xs) = AV.sc (.string x.path) :: AV.sc (.string x.text) :: rows File.ty.cs rest := hd
    have hd1 : List.drop (pre.length * 2 + 1) (rows File.ty.cs xs) = AV.sc (.string x.text) :: rows File.ty.cs rest := by rw [← List.drop_drop, hd]; rfl
    have f22 := bf 22 (by decide)
    have f28 := bf 28 (by decide)
    rw [fw] at hw
    have p1 := putT_le cur x.path
    have p2 := putT_le (putT cur x.path) x.text
    have r60 : ∀ (h : Hp), h 60 = some (some (rows B cur)) → roc h 8 (.sl 60 0 cur.length 1 false) = some (.ro (rows B cur) cur.length) := fun h e => B.roc e
    have r22 : ∀ (h : Hp), h 22 = some (some (rows B (putT cur x.path))) → roc h 8 (.sl 22 0 (putT cur x.path).length 1 false) = some (.ro (rows B (putT cur x.path)) (putT cur x.path).length) := fun h e => B.roc e
    simp [k1, k5, hlt]
    refine T.textW 400 [([], []), ([], []), ([], []), ([], []), ([], []), ([], []), ([22], []), ([], [22]), ([], [22]), ([], [22]), ([], [22]), ([], [22]), ([28], []), ([], [])] mixed (by kernel_rfl) (by kernel_rfl) ?_
    simp [k0, k1, k5, hlt, hd, merge_nil, hideH_nil]
    refine callWK.ro 22 rfl (by kernel_rfl) (by simp [upd_app, roc_sc, hideH_app, r60, b60]) (R26 cur x.path (by omega)) (B_fl _) (by simp [inst, upd_app, hideH_app, f22]; exact ⟨rfl, rfl⟩) (by rfl) ?_
    simp [k0, k1, k5, hlt, hd1, merge_nil, hideH_nil]
    refine callWK.ro 28 rfl (by kernel_rfl) (by simp [upd_app, roc_sc, hideH_app, r22]) (R26 (putT cur x.path) x.text (by omega)) (B_fl _) (by simp [inst, upd_app, hideH_app, f28]; exact ⟨rfl, rfl⟩) (by rfl) ?_
    simp [k5, hwr, merge_nil, hideH_nil]
    refine ⟨pre ++ [x], rest, by simp, putT (putT cur x.path) x.text, _, Le.reseat [0, 1, 5] [(28, 60)] (by simp) (by simp [upd_app, menB, idfree, k1]) ?_, by simpa using hx, hE, by omega, ?_⟩
    · intro c hc cs hcs
      simp at hc
      subst hc
      simp [upd_app] at hcs
      subst hcs
      exact idfreeL_mem (idfreeL_rows B.fr _)
    · simp [upd_app, k1]
      intro c hc
      rw [if_neg (fun e => hc e.symm)]
def byteL (b : List Int) : Prop := ∀ x ∈ b, 0 ≤ x ∧ x ≤ 255
theorem sB_byte (s : ByteArray) : byteL (sB s) := fun x hx => by
  obtain ⟨c, _, rfl⟩ := List.mem_map.1 hx
  have := c.toNat_lt
  omega
theorem byteL_app {a b : List Int} (ha : byteL a) (hb : byteL b) : byteL (a ++ b) := fun x hx => (List.mem_append.1 hx).elim (ha x) (hb x)
theorem hiL_byte {n : Nat} (h : n ≤ 60000) : byteL (hiL n) := fun x hx => by
  simp only [hiL, List.mem_cons, List.not_mem_nil, or_false] at hx
  rcases hx with rfl | rfl <;> omega
theorem putT_byte {b : List Int} (hb : byteL b) (s : ByteArray) : byteL (putT b s) := by
  unfold putT
  split
  · rename_i h
    exact byteL_app hb (byteL_app (hiL_byte h) (sB_byte s))
  · exact hb
def enc1 (s : ByteArray) : List Int := hiL s.size ++ sB s
theorem strOf_sB (s : ByteArray) : strOfNums (sB s) = s := by
  apply ByteArray.ext
  unfold strOfNums sB
  rw [List.map_map]
  have : (s.data.toList.map ((fun n : Int => UInt8.ofNat n.toNat) ∘ fun b : UInt8 => (b.toNat : Int))) = s.data.toList := by
    conv => rhs; rw [← List.map_id s.data.toList]
    refine List.map_congr_left fun c _ => ?_
    show UInt8.ofNat ((c.toNat : Int).toNat) = c
    rw [Int.toNat_natCast, UInt8.ofNat_toNat]
  rw [this]
theorem sB_strOf {l : List Int} (h : byteL l) : sB (strOfNums l) = l := by
  unfold strOfNums sB
  rw [List.map_map]
  conv => rhs; rw [← List.map_id l]
  refine List.map_congr_left fun x hx => ?_
  have := h x hx
  show (((UInt8.ofNat x.toNat).toNat : Nat) : Int) = x
  rw [UInt8.toNat_ofNat']
  omega
theorem bEq_iff {a b : List Int} (ha : byteL a) (hb : byteL b) : bEq a b = true ↔ a = b := by
  unfold bEq
  rw [beq_iff_eq, Lib.toList_data, Lib.toList_data]
  constructor
  · intro h
    have h2 : strOfNums a = strOfNums b := by
      apply ByteArray.ext
      exact Array.ext' h
    rw [← sB_strOf ha, ← sB_strOf hb, h2]
  · rintro rfl; rfl
def filesFit (l : List File) : Prop := ∀ f ∈ l, f.path.size ≤ 60000 ∧ f.text.size ≤ 60000
theorem putT_enc {b : List Int} {s : ByteArray} (h : s.size ≤ 60000) : putT b s = b ++ enc1 s := if_pos h
structure Fit (m : Made) : Prop where
  task : m.task.size ≤ 60000
  log : m.log.size ≤ 60000
  outs : filesFit m.outs
  num : m.outs.length ≤ 1000
theorem digF_dec : ∀ (k n : Nat), n ≤ k → digF 0 (Lib.decDigits n) = n ∧ figL (Lib.decDigits n) = true
  | k, n, hk => by
    have dg : ∀ d : Nat, d < 10 → (UInt8.ofNat (48 + d)).toNat = 48 + d := fun d hd => by rw [UInt8.toNat_ofNat']; omega
    have fg : ∀ d : Nat, d < 10 → figI ((UInt8.ofNat (48 + d)).toNat : Int) = true := fun d hd => by
      rw [dg d hd]; simp only [figI, Bool.and_eq_true, decide_eq_true_eq]; omega
    by_cases h9 : n < 10
    · rw [dec_small h9]
      refine ⟨by rw [digF_cons, digF_nil, dg n h9]; omega, by rw [figL, fg n h9]; rfl⟩
    · have ih : digF 0 (Lib.decDigits (n / 10)) = n / 10 ∧ figL (Lib.decDigits (n / 10)) = true := by
        match k, hk with
        | 0, hk => omega
        | k + 1, hk => exact digF_dec k (n / 10) (by omega)
      rw [dec_big (by omega), digF_app, figL_app, ih.1, ih.2, digF_cons, digF_nil, dg _ (by omega)]
      refine ⟨by omega, by rw [figL, fg _ (by omega)]; rfl⟩
def encS : List ByteArray → List Int
  | [] => []
  | s :: l => enc1 s ++ encS l
def txF : List File → List ByteArray
  | [] => []
  | f :: l => f.path :: f.text :: txF l
def txE : List Env → List ByteArray
  | [] => []
  | f :: l => f.name :: f.val :: txE l
def txM : List Made → List ByteArray
  | [] => []
  | m :: l => m.task :: m.log :: numT m.outs.length :: (txF m.outs ++ txM l)
def txJ (j : Job) : List ByteArray := j.name :: numT j.acts.length :: (j.acts ++ numT j.ins.length :: (txF j.ins ++ numT j.envs.length :: (txE j.envs ++ numT j.deps.length :: txM j.deps)))
def putL : List Int → List ByteArray → List Int
  | b, [] => b
  | b, s :: l => putL (putT b s) l
def jkey (j : Job) : List Int := putL [] (txJ j)
theorem putL_app : ∀ (x y : List ByteArray) (b : List Int), putL b (x ++ y) = putL (putL b x) y
  | [], _, _ => rfl
  | s :: x, y, b => putL_app x y (putT b s)
theorem putFs_L : ∀ (l : List File) (b : List Int), putFs b l = putL b (txF l)
  | [], _ => rfl
  | f :: l, b => putFs_L l (putT (putT b f.path) f.text)
theorem putFl_L (l : List File) (b : List Int) : putFl b l = putL b (numT l.length :: txF l) := putFs_L l _
def sw : List ByteArray → Nat
  | [] => 0
  | s :: l => s.size + 2 + sw l
theorem sw_app : ∀ (x y : List ByteArray), sw (x ++ y) = sw x + sw y
  | [], y => by simp [sw]
  | s :: x, y => by simp only [List.cons_append, sw, sw_app x y]; omega
theorem putL_le : ∀ (l : List ByteArray) (b : List Int), (putL b l).length ≤ b.length + sw l
  | [], _ => Nat.le_refl _
  | s :: l, b => by
    have h1 := putT_le b s
    have h2 := putL_le l (putT b s)
    rw [sw]
    exact Nat.le_trans h2 (by omega)
theorem putL_byte : ∀ (l : List ByteArray) {b : List Int}, byteL b → byteL (putL b l)
  | [], _, h => h
  | s :: l, _, h => putL_byte l (putT_byte h s)
theorem jkey_byte (j : Job) : byteL (jkey j) := putL_byte _ (fun x hx => by cases hx)
def fitS (l : List ByteArray) : Prop := ∀ s ∈ l, s.size ≤ 60000
theorem putL_enc : ∀ (l : List ByteArray) (b : List Int), fitS l → putL b l = b ++ encS l
  | [], b, _ => (List.append_nil b).symm
  | s :: l, b, h => by
    rw [putL, putT_enc (h s List.mem_cons_self), putL_enc l _ fun t ht => h t (List.mem_cons_of_mem _ ht), encS, List.append_assoc]
theorem sB_inj {s t : ByteArray} (h : sB s = sB t) : s = t := by rw [← strOf_sB s, ← strOf_sB t, h]
theorem enc1_pre {s t : ByteArray} {x y : List Int} (h : enc1 s ++ x = enc1 t ++ y) : s = t ∧ x = y := by
  simp only [enc1, hiL, List.cons_append, List.nil_append, List.cons.injEq] at h
  obtain ⟨h1, h2, h3⟩ := h
  have hs : s.size = t.size := by omega
  have hl : (sB s).length = (sB t).length := by rw [sB_len, sB_len, hs]
  obtain ⟨e1, e2⟩ := List.append_inj h3 hl
  exact ⟨sB_inj e1, e2⟩
theorem encS_inj : ∀ (l m : List ByteArray), encS l = encS m → l = m
  | [], [], _ => rfl
  | [], t :: m, h => by simp [encS, enc1, hiL] at h
  | s :: l, [], h => by simp [encS, enc1, hiL] at h
  | s :: l, t :: m, h => by
    obtain ⟨rfl, e⟩ := enc1_pre h
    rw [encS_inj l m e]
theorem numT_inj {n m : Nat} (h : numT n = numT m) : n = m := by
  have e : Lib.decDigits n = Lib.decDigits m := by rw [← numT_list, ← numT_list, h]
  rw [← (digF_dec n n (Nat.le_refl _)).1, e, (digF_dec m m (Nat.le_refl _)).1]
theorem txF_inj : ∀ (l m : List File) (x y : List ByteArray), l.length = m.length → txF l ++ x = txF m ++ y → l = m ∧ x = y
  | [], [], _, _, _, h => ⟨rfl, h⟩
  | ⟨_, _⟩ :: l, ⟨_, _⟩ :: m, x, y, hl, h => by
    simp only [txF, List.cons_append, List.cons.injEq] at h
    obtain ⟨rfl, rfl, h⟩ := h
    obtain ⟨rfl, e⟩ := txF_inj l m x y (by simpa using hl) h
    exact ⟨rfl, e⟩
theorem txE_inj : ∀ (l m : List Env) (x y : List ByteArray), l.length = m.length → txE l ++ x = txE m ++ y → l = m ∧ x = y
  | [], [], _, _, _, h => ⟨rfl, h⟩
  | ⟨_, _⟩ :: l, ⟨_, _⟩ :: m, x, y, hl, h => by
    simp only [txE, List.cons_append, List.cons.injEq] at h
    obtain ⟨rfl, rfl, h⟩ := h
    obtain ⟨rfl, e⟩ := txE_inj l m x y (by simpa using hl) h
    exact ⟨rfl, e⟩
theorem txM_inj : ∀ (l m : List Made), l.length = m.length → txM l = txM m → l = m
  | [], [], _, _ => rfl
  | ⟨_, o1, _⟩ :: l, ⟨_, o2, _⟩ :: m, hl, h => by
    simp only [txM, List.cons.injEq] at h
    obtain ⟨rfl, rfl, hn, h⟩ := h
    obtain ⟨rfl, e⟩ := txF_inj o1 o2 _ _ (numT_inj hn) h
    rw [txM_inj l m (by simpa using hl) e]
theorem txJ_inj {a b : Job} (h : txJ a = txJ b) : a = b := by
  obtain ⟨n1, a1, i1, e1, d1⟩ := a
  obtain ⟨n2, a2, i2, e2, d2⟩ := b
  simp only [txJ, List.cons.injEq] at h
  obtain ⟨rfl, ha, h⟩ := h
  obtain ⟨rfl, h2⟩ := List.append_inj h (numT_inj ha)
  obtain ⟨hi, h3⟩ := List.cons.inj h2
  obtain ⟨rfl, h4⟩ := txF_inj i1 i2 _ _ (numT_inj hi) h3
  obtain ⟨he, h5⟩ := List.cons.inj h4
  obtain ⟨rfl, h6⟩ := txE_inj e1 e2 _ _ (numT_inj he) h5
  obtain ⟨hd, h7⟩ := List.cons.inj h6
  rw [txM_inj d1 d2 (numT_inj hd) h7]
theorem jkey_inj {a b : Job} (ha : fitS (txJ a)) (hb : fitS (txJ b)) (h : jkey a = jkey b) : a = b := by
  unfold jkey at h
  rw [putL_enc _ _ ha, putL_enc _ _ hb, List.nil_append, List.nil_append] at h
  exact txJ_inj (encS_inj _ _ h)
theorem strEq_iff {a b : ByteArray} : strEq a b = true ↔ a = b := by
  unfold strEq
  rw [beq_iff_eq, Lib.toList_data, Lib.toList_data]
  exact ⟨fun h => ByteArray.ext (Array.ext' h), fun h => by rw [h]⟩
theorem eqBy_iff {α : Type} {f : α → α → Bool} (h : ∀ x y, f x y = true ↔ x = y) : ∀ (xs ys : List α), eqBy f xs ys = true ↔ xs = ys
  | [], [] => by simp [eqBy]
  | [], _ :: _ => by simp [eqBy]
  | _ :: _, [] => by simp [eqBy]
  | x :: xs, y :: ys => by simp [eqBy, h x y, eqBy_iff h xs ys]
theorem fileEq_iff (a b : File) : fileEq a b = true ↔ a = b := by
  obtain ⟨_, _⟩ := a
  obtain ⟨_, _⟩ := b
  simp [fileEq, strEq_iff]
theorem envEq_iff (a b : Env) : envEq a b = true ↔ a = b := by
  obtain ⟨_, _⟩ := a
  obtain ⟨_, _⟩ := b
  simp [envEq, strEq_iff]
theorem madeEq_iff (a b : Made) : madeEq a b = true ↔ a = b := by
  obtain ⟨_, _, _⟩ := a
  obtain ⟨_, _, _⟩ := b
  simp only [madeEq, Bool.and_eq_true, strEq_iff, eqBy_iff fileEq_iff, Made.mk.injEq]
  exact ⟨fun h => ⟨h.1, h.2.2, h.2.1⟩, fun h => ⟨h.1, h.2.2, h.2.1⟩⟩
theorem jobEq_iff (a b : Job) : jobEq a b = true ↔ a = b := by
  obtain ⟨_, _, _, _, _⟩ := a
  obtain ⟨_, _, _, _, _⟩ := b
  simp only [jobEq, Bool.and_eq_true, strEq_iff, eqBy_iff (fun _ _ => strEq_iff), eqBy_iff fileEq_iff, eqBy_iff envEq_iff, eqBy_iff madeEq_iff, Job.mk.injEq]
  exact ⟨fun h => ⟨h.1.1.1.1, h.1.1.1.2, h.1.1.2, h.1.2, h.2⟩, fun h => ⟨⟨⟨⟨h.1, h.2.1⟩, h.2.2.1⟩, h.2.2.2.1⟩, h.2.2.2.2⟩⟩
theorem key_same {a b : Job} (ha : fitS (txJ a)) (hb : fitS (txJ b)) : bEq (jkey a) (jkey b) = jobEq a b := by
  rw [Bool.eq_iff_iff, bEq_iff (jkey_byte a) (jkey_byte b), jobEq_iff]
  exact ⟨jkey_inj ha hb, fun h => by rw [h]⟩
end Go.Proofs.YtepjkkaemlpmgaaDoor.Am
