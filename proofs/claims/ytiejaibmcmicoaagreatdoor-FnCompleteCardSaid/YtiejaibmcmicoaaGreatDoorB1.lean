/- The small machine and the contracts of the functions, part 1 (Base, Types, Draw, Words, Paths, Cut, Plumb, Job, Sames, Files, Tasks, Glob, GlobT, GlobM, DrawKit, Thaw, Cool, Texts, Num, Itoa, Parse, Nums, Ver, ParseVer, VerS, ParseVerS, Less, Clone); no condition. -/
import Derived.Test.YtiejaibmcmicoaaGreatDoorProg
import Derived.Test.YtiejaibmcmicoaaGreatDoorAmZ
import Derived.Test.YtiejaibmcmicoaaGreatDoorAmP
import Derived.KernelRfl
import Derived.Test.YtiejaibmcmicoaaGreatDoorAmM
import Derived.Test.YtiejaibmcmicoaaGreatDoorAmL
import Derived.Test.YtiejaibmcmicoaaGreatDoorAmH
import Derived.Test.YtiejaibmcmicoaaGreatDoorAmD
import Derived.Test.YtiejaibmcmicoaaGreatDoorAmJ
namespace Go.Proofs.YtiejaibmcmicoaaGreatDoor.Am
open Go Go.Proofs
abbrev yq (d : Nat) (o : QOp) : AOp := ⟨some d, none, .q o⟩
abbrev yw (d : Nat) (o : WOp) : AOp := ⟨some d, none, .w o⟩
abbrev yn (o : WOp) : AOp := ⟨none, none, .w o⟩
abbrev yc (d f : Nat) (xs : List AX) : AOp := ⟨some d, none, .c (.c (.clo f [])) xs⟩
abbrev yg (d g : Nat) (b : Bool) (o : QOp) : AOp := ⟨some d, some (g, b), .q o⟩
abbrev yh (d g : Nat) (b : Bool) (f : Nat) (xs : List AX) : AOp := ⟨some d, some (g, b), .c (.c (.clo f [])) xs⟩
abbrev yi (n : Int) : AX := .c (.sc (.int .i64 n))
abbrev yK (P : Program) (fn : Func) (c : AC) (n : Nat) (rs : List QOp) : Prop := fn.body.bind (comp P) = some c ∧ fn.ntmps = n ∧ fn.results.toList.mapM (resB P) = some rs
set_option linter.unusedSimpArgs false
set_option linter.unusedVariables false
attribute [local congr] T_congr callK_congr callWK_congr
attribute [local simp] run_nil run_op0 run_opg run_seq run_cond run_block run_ret run_skip run_skip_after run_skip_blk run_exit run_exit_after run_exit_blk run_loop run_any runS_nil runS_op0 runS_opg runW_nil runW_op0 runW_opg exec_q exec_w exec_c exec_n execW_q execW_w execW_c restW_app hideH_app merge_app wblk rest_app restS_app execS_q execS_c aval dOk upd_app ev_t ev_c setO_some setO_none put_mk pinsOf isIo hasIo sbin endR fin resL one outL out1 clo1 cloL coe coeL shut shut.shutL wantA weff cellsOf fillA deref natOf ρ0_app h0_app plain plain.plainL keep_app keepH_app andThen_normal andThen_ret andThen_exit pop_nil pop_after pop_after_ret pop_after_exit pop_blk pop_blk_ret pop_blk_exit nilA srcOf srcCells keepR_app keepHR_app renA rb
structure File where
  path : ByteArray
  text : ByteArray
def File.ty : Ty File := Ty.struct (Ty.str.cons (Ty.str.cons Ty.nil)) (fun x => (x.path, x.text, ())) (fun p => ⟨p.1, p.2.1⟩) (fun _ => rfl) 32
theorem File.cse (x : File) : File.ty.cs x = [.sc (.string x.path), .sc (.string x.text)] := rfl
theorem File.oce (x : File) : File.ty.oc x = [.sc (.string x.path), .sc (.string x.text)] := rfl
theorem File.ocl (xs : List File) : (rows File.ty.oc xs).length = xs.length * 2 := rows_length File.ty.ocn xs
theorem File.csl (xs : List File) : (rows File.ty.cs xs).length = xs.length * 2 := rows_length File.ty.csn xs
theorem File.frL (xs : List File) : idfree.idfreeL (rows File.ty.oc xs) = true := File.ty.frL xs
theorem File.roc7 {h : Hp} {b : Nat} {xs : List File} {lim : Bool} (hb : h b = some (some (rows File.ty.oc xs))) : roc h 7 (.sl b 0 xs.length 2 lim) = some (.ro (rows File.ty.cs xs) xs.length) := File.ty.roc7 (by decide) hb
structure Need where
  name : ByteArray
  range : ByteArray
def Need.ty : Ty Need := Ty.struct (Ty.str.cons (Ty.str.cons Ty.nil)) (fun x => (x.name, x.range, ())) (fun p => ⟨p.1, p.2.1⟩) (fun _ => rfl) 32
theorem Need.cse (x : Need) : Need.ty.cs x = [.sc (.string x.name), .sc (.string x.range)] := rfl
theorem Need.oce (x : Need) : Need.ty.oc x = [.sc (.string x.name), .sc (.string x.range)] := rfl
theorem Need.ocl (xs : List Need) : (rows Need.ty.oc xs).length = xs.length * 2 := rows_length Need.ty.ocn xs
theorem Need.csl (xs : List Need) : (rows Need.ty.cs xs).length = xs.length * 2 := rows_length Need.ty.csn xs
theorem Need.frL (xs : List Need) : idfree.idfreeL (rows Need.ty.oc xs) = true := Need.ty.frL xs
theorem Need.roc7 {h : Hp} {b : Nat} {xs : List Need} {lim : Bool} (hb : h b = some (some (rows Need.ty.oc xs))) : roc h 7 (.sl b 0 xs.length 2 lim) = some (.ro (rows Need.ty.cs xs) xs.length) := Need.ty.roc7 (by decide) hb
structure Cmd where
  task : ByteArray
  acts : List ByteArray
def Cmd.ty : Ty Cmd := Ty.struct (Ty.str.cons (Ty.str.slice.cons Ty.nil)) (fun x => (x.task, x.acts, ())) (fun p => ⟨p.1, p.2.1⟩) (fun _ => rfl) 40
theorem Cmd.cse (x : Cmd) : Cmd.ty.cs x = [.sc (.string x.task), .ro (rows Ty.str.cs x.acts) x.acts.length] := rfl
theorem Cmd.oce (x : Cmd) : Cmd.ty.oc x = [.sc (.string x.task), .own (rows Ty.str.oc x.acts) x.acts.length 1] := rfl
theorem Cmd.ocl (xs : List Cmd) : (rows Cmd.ty.oc xs).length = xs.length * 2 := rows_length Cmd.ty.ocn xs
theorem Cmd.csl (xs : List Cmd) : (rows Cmd.ty.cs xs).length = xs.length * 2 := rows_length Cmd.ty.csn xs
theorem Cmd.frL (xs : List Cmd) : idfree.idfreeL (rows Cmd.ty.oc xs) = true := Cmd.ty.frL xs
theorem Cmd.roc7 {h : Hp} {b : Nat} {xs : List Cmd} {lim : Bool} (hb : h b = some (some (rows Cmd.ty.oc xs))) : roc h 7 (.sl b 0 xs.length 2 lim) = some (.ro (rows Cmd.ty.cs xs) xs.length) := Cmd.ty.roc7 (by decide) hb
structure Pack where
  name : ByteArray
  uses : List ByteArray
  needs : List Need
  cmds : List Cmd
def Pack.ty : Ty Pack := Ty.struct (Ty.str.cons (Ty.str.slice.cons (Need.ty.slice.cons (Cmd.ty.slice.cons Ty.nil)))) (fun x => (x.name, x.uses, x.needs, x.cmds, ())) (fun p => ⟨p.1, p.2.1, p.2.2.1, p.2.2.2.1⟩) (fun _ => rfl) 88
theorem Pack.cse (x : Pack) : Pack.ty.cs x = [.sc (.string x.name), .ro (rows Ty.str.cs x.uses) x.uses.length, .ro (rows Need.ty.cs x.needs) x.needs.length, .ro (rows Cmd.ty.cs x.cmds) x.cmds.length] := rfl
theorem Pack.oce (x : Pack) : Pack.ty.oc x = [.sc (.string x.name), .own (rows Ty.str.oc x.uses) x.uses.length 1, .own (rows Need.ty.oc x.needs) x.needs.length 2, .own (rows Cmd.ty.oc x.cmds) x.cmds.length 2] := rfl
theorem Pack.ocl (xs : List Pack) : (rows Pack.ty.oc xs).length = xs.length * 4 := rows_length Pack.ty.ocn xs
theorem Pack.csl (xs : List Pack) : (rows Pack.ty.cs xs).length = xs.length * 4 := rows_length Pack.ty.csn xs
theorem Pack.frL (xs : List Pack) : idfree.idfreeL (rows Pack.ty.oc xs) = true := Pack.ty.frL xs
theorem Pack.roc7 {h : Hp} {b : Nat} {xs : List Pack} {lim : Bool} (hb : h b = some (some (rows Pack.ty.oc xs))) : roc h 7 (.sl b 0 xs.length 4 lim) = some (.ro (rows Pack.ty.cs xs) xs.length) := Pack.ty.roc7 (by decide) hb
structure Env where
  name : ByteArray
  val : ByteArray
def Env.ty : Ty Env := Ty.struct (Ty.str.cons (Ty.str.cons Ty.nil)) (fun x => (x.name, x.val, ())) (fun p => ⟨p.1, p.2.1⟩) (fun _ => rfl) 32
theorem Env.cse (x : Env) : Env.ty.cs x = [.sc (.string x.name), .sc (.string x.val)] := rfl
theorem Env.oce (x : Env) : Env.ty.oc x = [.sc (.string x.name), .sc (.string x.val)] := rfl
theorem Env.ocl (xs : List Env) : (rows Env.ty.oc xs).length = xs.length * 2 := rows_length Env.ty.ocn xs
theorem Env.csl (xs : List Env) : (rows Env.ty.cs xs).length = xs.length * 2 := rows_length Env.ty.csn xs
theorem Env.frL (xs : List Env) : idfree.idfreeL (rows Env.ty.oc xs) = true := Env.ty.frL xs
theorem Env.roc7 {h : Hp} {b : Nat} {xs : List Env} {lim : Bool} (hb : h b = some (some (rows Env.ty.oc xs))) : roc h 7 (.sl b 0 xs.length 2 lim) = some (.ro (rows Env.ty.cs xs) xs.length) := Env.ty.roc7 (by decide) hb
structure Rule where
  task : ByteArray
  on : List ByteArray
  ins : List ByteArray
  envs : List ByteArray
  keep : Bool
def Rule.ty : Ty Rule := Ty.struct (Ty.str.cons (Ty.str.slice.cons (Ty.str.slice.cons (Ty.str.slice.cons (Ty.bool.cons Ty.nil))))) (fun x => (x.task, x.on, x.ins, x.envs, x.keep, ())) (fun p => ⟨p.1, p.2.1, p.2.2.1, p.2.2.2.1, p.2.2.2.2.1⟩) (fun _ => rfl) 96
theorem Rule.cse (x : Rule) : Rule.ty.cs x = [.sc (.string x.task), .ro (rows Ty.str.cs x.on) x.on.length, .ro (rows Ty.str.cs x.ins) x.ins.length, .ro (rows Ty.str.cs x.envs) x.envs.length, .sc (.bool x.keep)] := rfl
theorem Rule.oce (x : Rule) : Rule.ty.oc x = [.sc (.string x.task), .own (rows Ty.str.oc x.on) x.on.length 1, .own (rows Ty.str.oc x.ins) x.ins.length 1, .own (rows Ty.str.oc x.envs) x.envs.length 1, .sc (.bool x.keep)] := rfl
theorem Rule.ocl (xs : List Rule) : (rows Rule.ty.oc xs).length = xs.length * 5 := rows_length Rule.ty.ocn xs
theorem Rule.csl (xs : List Rule) : (rows Rule.ty.cs xs).length = xs.length * 5 := rows_length Rule.ty.csn xs
theorem Rule.frL (xs : List Rule) : idfree.idfreeL (rows Rule.ty.oc xs) = true := Rule.ty.frL xs
theorem Rule.roc7 {h : Hp} {b : Nat} {xs : List Rule} {lim : Bool} (hb : h b = some (some (rows Rule.ty.oc xs))) : roc h 7 (.sl b 0 xs.length 5 lim) = some (.ro (rows Rule.ty.cs xs) xs.length) := Rule.ty.roc7 (by decide) hb
structure World where
  packs : List Pack
  rules : List Rule
  files : List File
  envs : List Env
def World.ty : Ty World := Ty.struct (Pack.ty.slice.cons (Rule.ty.slice.cons (File.ty.slice.cons (Env.ty.slice.cons Ty.nil)))) (fun x => (x.packs, x.rules, x.files, x.envs, ())) (fun p => ⟨p.1, p.2.1, p.2.2.1, p.2.2.2.1⟩) (fun _ => rfl) 96
theorem World.cse (x : World) : World.ty.cs x = [.ro (rows Pack.ty.cs x.packs) x.packs.length, .ro (rows Rule.ty.cs x.rules) x.rules.length, .ro (rows File.ty.cs x.files) x.files.length, .ro (rows Env.ty.cs x.envs) x.envs.length] := rfl
theorem World.oce (x : World) : World.ty.oc x = [.own (rows Pack.ty.oc x.packs) x.packs.length 4, .own (rows Rule.ty.oc x.rules) x.rules.length 5, .own (rows File.ty.oc x.files) x.files.length 2, .own (rows Env.ty.oc x.envs) x.envs.length 2] := rfl
theorem World.ocl (xs : List World) : (rows World.ty.oc xs).length = xs.length * 4 := rows_length World.ty.ocn xs
theorem World.csl (xs : List World) : (rows World.ty.cs xs).length = xs.length * 4 := rows_length World.ty.csn xs
theorem World.frL (xs : List World) : idfree.idfreeL (rows World.ty.oc xs) = true := World.ty.frL xs
theorem World.roc7 {h : Hp} {b : Nat} {xs : List World} {lim : Bool} (hb : h b = some (some (rows World.ty.oc xs))) : roc h 7 (.sl b 0 xs.length 4 lim) = some (.ro (rows World.ty.cs xs) xs.length) := World.ty.roc7 (by decide) hb
structure Plan where
  tasks : List ByteArray
  deps : List (List ByteArray)
def Plan.ty : Ty Plan := Ty.struct (Ty.str.slice.cons (Ty.str.slice.slice.cons Ty.nil)) (fun x => (x.tasks, x.deps, ())) (fun p => ⟨p.1, p.2.1⟩) (fun _ => rfl) 48
theorem Plan.cse (x : Plan) : Plan.ty.cs x = [.ro (rows Ty.str.cs x.tasks) x.tasks.length, .ro (rows Ty.str.slice.cs x.deps) x.deps.length] := rfl
theorem Plan.oce (x : Plan) : Plan.ty.oc x = [.own (rows Ty.str.oc x.tasks) x.tasks.length 1, .own (rows Ty.str.slice.oc x.deps) x.deps.length 1] := rfl
theorem Plan.ocl (xs : List Plan) : (rows Plan.ty.oc xs).length = xs.length * 2 := rows_length Plan.ty.ocn xs
theorem Plan.csl (xs : List Plan) : (rows Plan.ty.cs xs).length = xs.length * 2 := rows_length Plan.ty.csn xs
theorem Plan.frL (xs : List Plan) : idfree.idfreeL (rows Plan.ty.oc xs) = true := Plan.ty.frL xs
theorem Plan.roc7 {h : Hp} {b : Nat} {xs : List Plan} {lim : Bool} (hb : h b = some (some (rows Plan.ty.oc xs))) : roc h 7 (.sl b 0 xs.length 2 lim) = some (.ro (rows Plan.ty.cs xs) xs.length) := Plan.ty.roc7 (by decide) hb
structure Made where
  task : ByteArray
  outs : List File
  log : ByteArray
def Made.ty : Ty Made := Ty.struct (Ty.str.cons (File.ty.slice.cons (Ty.str.cons Ty.nil))) (fun x => (x.task, x.outs, x.log, ())) (fun p => ⟨p.1, p.2.1, p.2.2.1⟩) (fun _ => rfl) 56
theorem Made.cse (x : Made) : Made.ty.cs x = [.sc (.string x.task), .ro (rows File.ty.cs x.outs) x.outs.length, .sc (.string x.log)] := rfl
theorem Made.oce (x : Made) : Made.ty.oc x = [.sc (.string x.task), .own (rows File.ty.oc x.outs) x.outs.length 2, .sc (.string x.log)] := rfl
theorem Made.ocl (xs : List Made) : (rows Made.ty.oc xs).length = xs.length * 3 := rows_length Made.ty.ocn xs
theorem Made.csl (xs : List Made) : (rows Made.ty.cs xs).length = xs.length * 3 := rows_length Made.ty.csn xs
theorem Made.frL (xs : List Made) : idfree.idfreeL (rows Made.ty.oc xs) = true := Made.ty.frL xs
theorem Made.roc7 {h : Hp} {b : Nat} {xs : List Made} {lim : Bool} (hb : h b = some (some (rows Made.ty.oc xs))) : roc h 7 (.sl b 0 xs.length 3 lim) = some (.ro (rows Made.ty.cs xs) xs.length) := Made.ty.roc7 (by decide) hb
structure Mark where
  task : ByteArray
  how : Int
def Mark.ty : Ty Mark := Ty.struct (Ty.str.cons (Ty.int.cons Ty.nil)) (fun x => (x.task, x.how, ())) (fun p => ⟨p.1, p.2.1⟩) (fun _ => rfl) 24
theorem Mark.cse (x : Mark) : Mark.ty.cs x = [.sc (.string x.task), .sc (.int .i64 x.how)] := rfl
theorem Mark.oce (x : Mark) : Mark.ty.oc x = [.sc (.string x.task), .sc (.int .i64 x.how)] := rfl
theorem Mark.ocl (xs : List Mark) : (rows Mark.ty.oc xs).length = xs.length * 2 := rows_length Mark.ty.ocn xs
theorem Mark.csl (xs : List Mark) : (rows Mark.ty.cs xs).length = xs.length * 2 := rows_length Mark.ty.csn xs
theorem Mark.frL (xs : List Mark) : idfree.idfreeL (rows Mark.ty.oc xs) = true := Mark.ty.frL xs
theorem Mark.roc7 {h : Hp} {b : Nat} {xs : List Mark} {lim : Bool} (hb : h b = some (some (rows Mark.ty.oc xs))) : roc h 7 (.sl b 0 xs.length 2 lim) = some (.ro (rows Mark.ty.cs xs) xs.length) := Mark.ty.roc7 (by decide) hb
structure Slot where
  key : List Int
  b : List Int
def Slot.ty : Ty Slot := Ty.struct (Ty.byte.slice.cons (Ty.byte.slice.cons Ty.nil)) (fun x => (x.key, x.b, ())) (fun p => ⟨p.1, p.2.1⟩) (fun _ => rfl) 48
theorem Slot.cse (x : Slot) : Slot.ty.cs x = [.ro (rows Ty.byte.cs x.key) x.key.length, .ro (rows Ty.byte.cs x.b) x.b.length] := rfl
theorem Slot.oce (x : Slot) : Slot.ty.oc x = [.own (rows Ty.byte.oc x.key) x.key.length 1, .own (rows Ty.byte.oc x.b) x.b.length 1] := rfl
theorem Slot.ocl (xs : List Slot) : (rows Slot.ty.oc xs).length = xs.length * 2 := rows_length Slot.ty.ocn xs
theorem Slot.csl (xs : List Slot) : (rows Slot.ty.cs xs).length = xs.length * 2 := rows_length Slot.ty.csn xs
theorem Slot.frL (xs : List Slot) : idfree.idfreeL (rows Slot.ty.oc xs) = true := Slot.ty.frL xs
theorem Slot.roc7 {h : Hp} {b : Nat} {xs : List Slot} {lim : Bool} (hb : h b = some (some (rows Slot.ty.oc xs))) : roc h 7 (.sl b 0 xs.length 2 lim) = some (.ro (rows Slot.ty.cs xs) xs.length) := Slot.ty.roc7 (by decide) hb
structure Run where
  w : World
  p : Plan
  slots : Int
  goOn : Bool
  made : List Made
  marks : List Mark
  going : List ByteArray
  cache : List Slot
def Run.ty : Ty Run := Ty.struct (World.ty.cons (Plan.ty.cons (Ty.int.cons (Ty.bool.cons (Made.ty.slice.cons (Mark.ty.slice.cons (Ty.str.slice.cons (Slot.ty.slice.cons Ty.nil)))))))) (fun x => (x.w, x.p, x.slots, x.goOn, x.made, x.marks, x.going, x.cache, ())) (fun p => ⟨p.1, p.2.1, p.2.2.1, p.2.2.2.1, p.2.2.2.2.1, p.2.2.2.2.2.1, p.2.2.2.2.2.2.1, p.2.2.2.2.2.2.2.1⟩) (fun _ => rfl) 256
theorem Run.cse (x : Run) : Run.ty.cs x = [.ro (rows Pack.ty.cs x.w.packs) x.w.packs.length, .ro (rows Rule.ty.cs x.w.rules) x.w.rules.length, .ro (rows File.ty.cs x.w.files) x.w.files.length, .ro (rows Env.ty.cs x.w.envs) x.w.envs.length, .ro (rows Ty.str.cs x.p.tasks) x.p.tasks.length, .ro (rows Ty.str.slice.cs x.p.deps) x.p.deps.length, .sc (.int .i64 x.slots), .sc (.bool x.goOn), .ro (rows Made.ty.cs x.made) x.made.length, .ro (rows Mark.ty.cs x.marks) x.marks.length, .ro (rows Ty.str.cs x.going) x.going.length, .ro (rows Slot.ty.cs x.cache) x.cache.length] := rfl
theorem Run.oce (x : Run) : Run.ty.oc x = [.own (rows Pack.ty.oc x.w.packs) x.w.packs.length 4, .own (rows Rule.ty.oc x.w.rules) x.w.rules.length 5, .own (rows File.ty.oc x.w.files) x.w.files.length 2, .own (rows Env.ty.oc x.w.envs) x.w.envs.length 2, .own (rows Ty.str.oc x.p.tasks) x.p.tasks.length 1, .own (rows Ty.str.slice.oc x.p.deps) x.p.deps.length 1, .sc (.int .i64 x.slots), .sc (.bool x.goOn), .own (rows Made.ty.oc x.made) x.made.length 3, .own (rows Mark.ty.oc x.marks) x.marks.length 2, .own (rows Ty.str.oc x.going) x.going.length 1, .own (rows Slot.ty.oc x.cache) x.cache.length 2] := rfl
theorem Run.ocl (xs : List Run) : (rows Run.ty.oc xs).length = xs.length * 12 := rows_length Run.ty.ocn xs
theorem Run.csl (xs : List Run) : (rows Run.ty.cs xs).length = xs.length * 12 := rows_length Run.ty.csn xs
theorem Run.frL (xs : List Run) : idfree.idfreeL (rows Run.ty.oc xs) = true := Run.ty.frL xs
theorem Run.roc7 {h : Hp} {b : Nat} {xs : List Run} {lim : Bool} (hb : h b = some (some (rows Run.ty.oc xs))) : roc h 7 (.sl b 0 xs.length 12 lim) = some (.ro (rows Run.ty.cs xs) xs.length) := Run.ty.roc7 (by decide) hb
structure Job where
  name : ByteArray
  acts : List ByteArray
  ins : List File
  envs : List Env
  deps : List Made
def Job.ty : Ty Job := Ty.struct (Ty.str.cons (Ty.str.slice.cons (File.ty.slice.cons (Env.ty.slice.cons (Made.ty.slice.cons Ty.nil))))) (fun x => (x.name, x.acts, x.ins, x.envs, x.deps, ())) (fun p => ⟨p.1, p.2.1, p.2.2.1, p.2.2.2.1, p.2.2.2.2.1⟩) (fun _ => rfl) 112
theorem Job.cse (x : Job) : Job.ty.cs x = [.sc (.string x.name), .ro (rows Ty.str.cs x.acts) x.acts.length, .ro (rows File.ty.cs x.ins) x.ins.length, .ro (rows Env.ty.cs x.envs) x.envs.length, .ro (rows Made.ty.cs x.deps) x.deps.length] := rfl
theorem Job.oce (x : Job) : Job.ty.oc x = [.sc (.string x.name), .own (rows Ty.str.oc x.acts) x.acts.length 1, .own (rows File.ty.oc x.ins) x.ins.length 2, .own (rows Env.ty.oc x.envs) x.envs.length 2, .own (rows Made.ty.oc x.deps) x.deps.length 3] := rfl
theorem Job.ocl (xs : List Job) : (rows Job.ty.oc xs).length = xs.length * 5 := rows_length Job.ty.ocn xs
theorem Job.csl (xs : List Job) : (rows Job.ty.cs xs).length = xs.length * 5 := rows_length Job.ty.csn xs
theorem Job.frL (xs : List Job) : idfree.idfreeL (rows Job.ty.oc xs) = true := Job.ty.frL xs
theorem Job.roc7 {h : Hp} {b : Nat} {xs : List Job} {lim : Bool} (hb : h b = some (some (rows Job.ty.oc xs))) : roc h 7 (.sl b 0 xs.length 5 lim) = some (.ro (rows Job.ty.cs xs) xs.length) := Job.ty.roc7 (by decide) hb
structure Doc where
  name : ByteArray
  text : ByteArray
def Doc.ty : Ty Doc := Ty.struct (Ty.str.cons (Ty.str.cons Ty.nil)) (fun x => (x.name, x.text, ())) (fun p => ⟨p.1, p.2.1⟩) (fun _ => rfl) 32
theorem Doc.cse (x : Doc) : Doc.ty.cs x = [.sc (.string x.name), .sc (.string x.text)] := rfl
theorem Doc.oce (x : Doc) : Doc.ty.oc x = [.sc (.string x.name), .sc (.string x.text)] := rfl
theorem Doc.ocl (xs : List Doc) : (rows Doc.ty.oc xs).length = xs.length * 2 := rows_length Doc.ty.ocn xs
theorem Doc.csl (xs : List Doc) : (rows Doc.ty.cs xs).length = xs.length * 2 := rows_length Doc.ty.csn xs
theorem Doc.frL (xs : List Doc) : idfree.idfreeL (rows Doc.ty.oc xs) = true := Doc.ty.frL xs
theorem Doc.roc7 {h : Hp} {b : Nat} {xs : List Doc} {lim : Bool} (hb : h b = some (some (rows Doc.ty.oc xs))) : roc h 7 (.sl b 0 xs.length 2 lim) = some (.ro (rows Doc.ty.cs xs) xs.length) := Doc.ty.roc7 (by decide) hb
structure Op where
  kind : Int
  a : ByteArray
  b : ByteArray
def Op.ty : Ty Op := Ty.struct (Ty.int.cons (Ty.str.cons (Ty.str.cons Ty.nil))) (fun x => (x.kind, x.a, x.b, ())) (fun p => ⟨p.1, p.2.1, p.2.2.1⟩) (fun _ => rfl) 40
theorem Op.cse (x : Op) : Op.ty.cs x = [.sc (.int .i64 x.kind), .sc (.string x.a), .sc (.string x.b)] := rfl
theorem Op.oce (x : Op) : Op.ty.oc x = [.sc (.int .i64 x.kind), .sc (.string x.a), .sc (.string x.b)] := rfl
theorem Op.ocl (xs : List Op) : (rows Op.ty.oc xs).length = xs.length * 3 := rows_length Op.ty.ocn xs
theorem Op.csl (xs : List Op) : (rows Op.ty.cs xs).length = xs.length * 3 := rows_length Op.ty.csn xs
theorem Op.frL (xs : List Op) : idfree.idfreeL (rows Op.ty.oc xs) = true := Op.ty.frL xs
theorem Op.roc7 {h : Hp} {b : Nat} {xs : List Op} {lim : Bool} (hb : h b = some (some (rows Op.ty.oc xs))) : roc h 7 (.sl b 0 xs.length 3 lim) = some (.ro (rows Op.ty.cs xs) xs.length) := Op.ty.roc7 (by decide) hb
structure Disk where
  sure : List Doc
  pend : List Op
def Disk.ty : Ty Disk := Ty.struct (Doc.ty.slice.cons (Op.ty.slice.cons Ty.nil)) (fun x => (x.sure, x.pend, ())) (fun p => ⟨p.1, p.2.1⟩) (fun _ => rfl) 48
theorem Disk.cse (x : Disk) : Disk.ty.cs x = [.ro (rows Doc.ty.cs x.sure) x.sure.length, .ro (rows Op.ty.cs x.pend) x.pend.length] := rfl
theorem Disk.oce (x : Disk) : Disk.ty.oc x = [.own (rows Doc.ty.oc x.sure) x.sure.length 2, .own (rows Op.ty.oc x.pend) x.pend.length 3] := rfl
theorem Disk.ocl (xs : List Disk) : (rows Disk.ty.oc xs).length = xs.length * 2 := rows_length Disk.ty.ocn xs
theorem Disk.csl (xs : List Disk) : (rows Disk.ty.cs xs).length = xs.length * 2 := rows_length Disk.ty.csn xs
theorem Disk.frL (xs : List Disk) : idfree.idfreeL (rows Disk.ty.oc xs) = true := Disk.ty.frL xs
theorem Disk.roc7 {h : Hp} {b : Nat} {xs : List Disk} {lim : Bool} (hb : h b = some (some (rows Disk.ty.oc xs))) : roc h 7 (.sl b 0 xs.length 2 lim) = some (.ro (rows Disk.ty.cs xs) xs.length) := Disk.ty.roc7 (by decide) hb
structure Ver where
  a : Int
  b : Int
  c : Int
  pre : List ByteArray
def Ver.ty : Ty Ver := Ty.struct (Ty.int.cons (Ty.int.cons (Ty.int.cons (Ty.str.slice.cons Ty.nil)))) (fun x => (x.a, x.b, x.c, x.pre, ())) (fun p => ⟨p.1, p.2.1, p.2.2.1, p.2.2.2.1⟩) (fun _ => rfl) 48
theorem Ver.cse (x : Ver) : Ver.ty.cs x = [.sc (.int .i64 x.a), .sc (.int .i64 x.b), .sc (.int .i64 x.c), .ro (rows Ty.str.cs x.pre) x.pre.length] := rfl
theorem Ver.oce (x : Ver) : Ver.ty.oc x = [.sc (.int .i64 x.a), .sc (.int .i64 x.b), .sc (.int .i64 x.c), .own (rows Ty.str.oc x.pre) x.pre.length 1] := rfl
theorem Ver.ocl (xs : List Ver) : (rows Ver.ty.oc xs).length = xs.length * 4 := rows_length Ver.ty.ocn xs
theorem Ver.csl (xs : List Ver) : (rows Ver.ty.cs xs).length = xs.length * 4 := rows_length Ver.ty.csn xs
theorem Ver.frL (xs : List Ver) : idfree.idfreeL (rows Ver.ty.oc xs) = true := Ver.ty.frL xs
theorem Ver.roc7 {h : Hp} {b : Nat} {xs : List Ver} {lim : Bool} (hb : h b = some (some (rows Ver.ty.oc xs))) : roc h 7 (.sl b 0 xs.length 4 lim) = some (.ro (rows Ver.ty.cs xs) xs.length) := Ver.ty.roc7 (by decide) hb
structure Cmp where
  op : Int
  v : Ver
def Cmp.ty : Ty Cmp := Ty.struct (Ty.int.cons (Ver.ty.cons Ty.nil)) (fun x => (x.op, x.v, ())) (fun p => ⟨p.1, p.2.1⟩) (fun _ => rfl) 56
theorem Cmp.cse (x : Cmp) : Cmp.ty.cs x = [.sc (.int .i64 x.op), .sc (.int .i64 x.v.a), .sc (.int .i64 x.v.b), .sc (.int .i64 x.v.c), .ro (rows Ty.str.cs x.v.pre) x.v.pre.length] := rfl
theorem Cmp.oce (x : Cmp) : Cmp.ty.oc x = [.sc (.int .i64 x.op), .sc (.int .i64 x.v.a), .sc (.int .i64 x.v.b), .sc (.int .i64 x.v.c), .own (rows Ty.str.oc x.v.pre) x.v.pre.length 1] := rfl
theorem Cmp.ocl (xs : List Cmp) : (rows Cmp.ty.oc xs).length = xs.length * 5 := rows_length Cmp.ty.ocn xs
theorem Cmp.csl (xs : List Cmp) : (rows Cmp.ty.cs xs).length = xs.length * 5 := rows_length Cmp.ty.csn xs
theorem Cmp.frL (xs : List Cmp) : idfree.idfreeL (rows Cmp.ty.oc xs) = true := Cmp.ty.frL xs
theorem Cmp.roc7 {h : Hp} {b : Nat} {xs : List Cmp} {lim : Bool} (hb : h b = some (some (rows Cmp.ty.oc xs))) : roc h 7 (.sl b 0 xs.length 5 lim) = some (.ro (rows Cmp.ty.cs xs) xs.length) := Cmp.ty.roc7 (by decide) hb
structure Entry where
  name : ByteArray
  v : Ver
  needs : List Need
def Entry.ty : Ty Entry := Ty.struct (Ty.str.cons (Ver.ty.cons (Need.ty.slice.cons Ty.nil))) (fun x => (x.name, x.v, x.needs, ())) (fun p => ⟨p.1, p.2.1, p.2.2.1⟩) (fun _ => rfl) 88
theorem Entry.cse (x : Entry) : Entry.ty.cs x = [.sc (.string x.name), .sc (.int .i64 x.v.a), .sc (.int .i64 x.v.b), .sc (.int .i64 x.v.c), .ro (rows Ty.str.cs x.v.pre) x.v.pre.length, .ro (rows Need.ty.cs x.needs) x.needs.length] := rfl
theorem Entry.oce (x : Entry) : Entry.ty.oc x = [.sc (.string x.name), .sc (.int .i64 x.v.a), .sc (.int .i64 x.v.b), .sc (.int .i64 x.v.c), .own (rows Ty.str.oc x.v.pre) x.v.pre.length 1, .own (rows Need.ty.oc x.needs) x.needs.length 2] := rfl
theorem Entry.ocl (xs : List Entry) : (rows Entry.ty.oc xs).length = xs.length * 6 := rows_length Entry.ty.ocn xs
theorem Entry.csl (xs : List Entry) : (rows Entry.ty.cs xs).length = xs.length * 6 := rows_length Entry.ty.csn xs
theorem Entry.frL (xs : List Entry) : idfree.idfreeL (rows Entry.ty.oc xs) = true := Entry.ty.frL xs
theorem Entry.roc7 {h : Hp} {b : Nat} {xs : List Entry} {lim : Bool} (hb : h b = some (some (rows Entry.ty.oc xs))) : roc h 7 (.sl b 0 xs.length 6 lim) = some (.ro (rows Entry.ty.cs xs) xs.length) := Entry.ty.roc7 (by decide) hb
structure Pick where
  name : ByteArray
  v : Ver
def Pick.ty : Ty Pick := Ty.struct (Ty.str.cons (Ver.ty.cons Ty.nil)) (fun x => (x.name, x.v, ())) (fun p => ⟨p.1, p.2.1⟩) (fun _ => rfl) 64
theorem Pick.cse (x : Pick) : Pick.ty.cs x = [.sc (.string x.name), .sc (.int .i64 x.v.a), .sc (.int .i64 x.v.b), .sc (.int .i64 x.v.c), .ro (rows Ty.str.cs x.v.pre) x.v.pre.length] := rfl
theorem Pick.oce (x : Pick) : Pick.ty.oc x = [.sc (.string x.name), .sc (.int .i64 x.v.a), .sc (.int .i64 x.v.b), .sc (.int .i64 x.v.c), .own (rows Ty.str.oc x.v.pre) x.v.pre.length 1] := rfl
theorem Pick.ocl (xs : List Pick) : (rows Pick.ty.oc xs).length = xs.length * 5 := rows_length Pick.ty.ocn xs
theorem Pick.csl (xs : List Pick) : (rows Pick.ty.cs xs).length = xs.length * 5 := rows_length Pick.ty.csn xs
theorem Pick.frL (xs : List Pick) : idfree.idfreeL (rows Pick.ty.oc xs) = true := Pick.ty.frL xs
theorem Pick.roc7 {h : Hp} {b : Nat} {xs : List Pick} {lim : Bool} (hb : h b = some (some (rows Pick.ty.oc xs))) : roc h 7 (.sl b 0 xs.length 5 lim) = some (.ro (rows Pick.ty.cs xs) xs.length) := Pick.ty.roc7 (by decide) hb
structure Cur where
  b : List Int
  i : Nat
  h : Int
def Cur.ok (c : Cur) : Prop := Ty.byte.slice.ok c.b ∧ c.i ≤ c.b.length
def Cur.cs (c : Cur) : List AV := [.ro (rows B c.b) c.b.length, .sc (.int .i64 c.i), .sc (.int .i64 c.h)]
def stepH (h : Int) : Int := IntKind.i64.wrap (IntKind.i64.wrap (h * 6364136223846793005) + 1442695040888963407)
def low8 (a : Int) : Int := IntKind.i64.wrap (((a % 2 ^ IntKind.i64.bits).toNat &&& 255 % 2 ^ IntKind.i64.bits : Nat) : Int)
def mixI (h : Int) : Int := IntKind.i64.wrap (((h.fdiv (2 ^ min 33 IntKind.i64.bits) % 2 ^ IntKind.i64.bits).toNat ^^^ (h.fdiv (2 ^ min 47 IntKind.i64.bits) % 2 ^ IntKind.i64.bits).toNat : Nat) : Int)
def byteV (c : Cur) : Int := if c.i < c.b.length then low8 (IntKind.i64.wrap (low8 (mixI (stepH c.h)) + IntKind.i64.wrap (c.b[c.i]?.getD 0))) else low8 (mixI (stepH c.h))
def byteC (c : Cur) : Cur := ⟨c.b, if c.i < c.b.length then c.i + 1 else c.i, stepH c.h⟩
theorem low8_rng (a : Int) : 0 ≤ low8 a ∧ low8 a ≤ 255 := by
  have h : (a % 2 ^ IntKind.i64.bits).toNat &&& 255 % 2 ^ IntKind.i64.bits ≤ 255 := Nat.le_trans Nat.and_le_right (Nat.mod_le _ _)
  unfold low8
  rw [wrap_i64 (by omega) (by omega)]
  omega
theorem byteV_rng (c : Cur) : 0 ≤ byteV c ∧ byteV c ≤ 255 := by
  unfold byteV
  split <;> exact low8_rng _
theorem byteC_ok {c : Cur} (h : c.ok) : (byteC c).ok := by
  refine ⟨h.1, ?_⟩
  have := h.2
  simp only [byteC]
  split <;> omega
theorem rowsB_get : ∀ (xs : List Int) (i : Nat), i < xs.length → ∃ br, List.drop i (rows B xs) = .sc (.int .u8 (xs[i]?.getD 0)) :: br
  | [], i, h => by simp at h
  | x :: xs, 0, h => ⟨rows B xs, by rw [rows_cons]; simp [B]⟩
  | x :: xs, i + 1, h => by
    obtain ⟨br, e⟩ := rowsB_get xs i (by simpa using h)
    exact ⟨br, by rw [rows_cons]; simpa [B] using e⟩
def A93 : AC := (.seq (.ops [yq 2 (.mov (yi 0))])
  (.seq (.ops [yq 4 (.mov (.t 0)), yq 5 (.mov (.t 0)), yq 6 (.nilc (.t 5)), yq 7 (.fadr 2 (.t 6)), yq 8 (.load false 1 (.t 7)), yq 9 (.bin .mul (.t 8) (yi 6364136223846793005)), yq 10 (.bin .add (.t 9) (yi 1442695040888963407)), yq 11 (.nilc (.t 4)), yq 12 (.fadr 2 (.t 11)), yn (.store 1 (.t 12) (.t 10))])
  (.seq (.any [(yq 13 (.mov (.t 0)), []), (yq 14 (.nilc (.t 13)), [0]), (yq 15 (.fadr 2 (.t 14)), [1]), (yq 16 (.load false 1 (.t 15)), [2]), (yq 17 (.bin .shr (.t 16) (.c (.sc (.int .u64 33)))), [3]), (yq 18 (.mov (.t 0)), []), (yq 19 (.nilc (.t 18)), [5]), (yq 20 (.fadr 2 (.t 19)), [6]), (yq 21 (.load false 1 (.t 20)), [7]), (yq 22 (.bin .shr (.t 21) (.c (.sc (.int .u64 47)))), [8]), (yq 23 (.bin .xor (.t 17) (.t 22)), [4, 9]), (yq 24 (.bin .and (.t 23) (yi 255)), [10]), (yq 3 (.mov (.t 24)), [11, 0, 1, 2, 3, 4, 5, 6, 7, 8, 9, 10, 11])])
  (.seq (.seq (.any [(yq 25 (.mov (.t 0)), []), (yq 26 (.nilc (.t 25)), [0]), (yq 27 (.fadr 1 (.t 26)), [1]), (yq 28 (.load false 1 (.t 27)), [2]), (yq 29 (.mov (.t 0)), []), (yq 30 (.nilc (.t 29)), [4]), (yq 31 (.fadr 0 (.t 30)), [5]), (yq 32 (.load false 1 (.t 31)), [6]), (yq 33 (.llen (.t 32)), [7]), (yq 34 (.bin .lss (.t 28) (.t 33)), [3, 8])])
  (.cond (.t 34) (.seq (.any [(yq 35 (.mov (.t 3)), []), (yq 36 (.mov (.t 0)), []), (yq 37 (.nilc (.t 36)), [1]), (yq 38 (.fadr 0 (.t 37)), [2]), (yq 39 (.load false 1 (.t 38)), [3]), (yq 40 (.mov (.t 0)), []), (yq 41 (.nilc (.t 40)), [5]), (yq 42 (.fadr 1 (.t 41)), [6]), (yq 43 (.load false 1 (.t 42)), [7]), (yq 44 (.iadr 1 (.t 39) (.t 43)), [4, 8]), (yq 45 (.load false 1 (.t 44)), [9]), (yq 46 (.cvi .i64 (.t 45)), [10]), (yq 47 (.bin .add (.t 35) (.t 46)), [0, 11]), (yq 48 (.bin .and (.t 47) (yi 255)), [12]), (yq 3 (.mov (.t 48)), [13, 0, 1, 2, 3, 4, 5, 6, 7, 8, 9, 10, 11, 12, 13])])
  (.ops [yq 49 (.mov (.t 0)), yq 50 (.mov (.t 0)), yq 51 (.nilc (.t 50)), yq 52 (.fadr 1 (.t 51)), yq 53 (.load false 1 (.t 52)), yq 54 (.bin .add (.t 53) (yi 1)), yq 55 (.nilc (.t 49)), yq 56 (.fadr 1 (.t 55)), yn (.store 1 (.t 56) (.t 54))]))
  .skip))
  (.seq (.ops [yq 57 (.mov (.t 3)), yq 2 (.mov (.t 57))])
  .ret)))))
theorem K93 : yK Tryz.prog Tryz.f93 A93 58 [.mov (.t 2)] := ⟨by kernel_rfl, by kernel_rfl, by kernel_rfl⟩
theorem R93 (c : Cur) (hc : c.ok) : Ret Tryz.prog 93 [.bx c.cs] (.sc (.int .i64 (byteV c))) [.bx (byteC c).cs] := by
  have hb : c.b.length * 1 ≤ 140737488351232 := hc.1.1
  refine Ret.run Tryz.func93 K93 (by simp) rfl rfl 900 ?_
  simp [A93, iniρ, Cur.cs, over]
  refine T.text 400 mixed (by kernel_rfl) (by kernel_rfl) ?_
  simp
  refine T.text 400 mixed (by kernel_rfl) (by kernel_rfl) ?_
  by_cases hlt : c.i < c.b.length
  case neg =>
    have hlt2 : ¬ ((c.i : Int) < c.b.length) := by omega
    simp [hlt2, ex1, byteV, byteC, low8, mixI, stepH, Cur.cs, hlt, idfree.idfreeL, idfree, ioPos1]
  have hlt2 : (c.i : Int) < c.b.length := by omega
  have hw : IntKind.i64.wrap ((c.i : Int) + 1) = c.i + 1 := wrap_i64 (by omega) (by omega)
  obtain ⟨br, hd⟩ := rowsB_get c.b c.i hlt
  simp [hlt2]
  refine T.textW 400 [([], []), ([], []), ([], []), ([], []), ([], []), ([], []), ([], []), ([], []), ([], []), ([], []), ([], []), ([], []), ([], []), ([], []), ([], [])] mixed (by kernel_rfl) (by kernel_rfl) ?_
  simp [hlt, hlt2, hd, hw, over, merge_nil, hideH_nil, ex1, byteV, byteC, low8, mixI, stepH, Cur.cs, idfree.idfreeL, idfree, ioPos1]
def belowV (c : Cur) (n : Int) : Int := if n ≤ 0 then 0 else if n ≤ 256 then (byteV c).tmod n else (byteV c * 65536 + byteV (byteC c) * 256 + byteV (byteC (byteC c))).tmod n
def belowC (c : Cur) (n : Int) : Cur := if n ≤ 0 then c else if n ≤ 256 then byteC c else byteC (byteC (byteC c))
theorem belowC_ok {c : Cur} (h : c.ok) (n : Int) : (belowC c n).ok := by
  unfold belowC
  split
  · exact h
  · split
    · exact byteC_ok h
    · exact byteC_ok (byteC_ok (byteC_ok h))
theorem belowV_rng (c : Cur) {n : Int} (h : 0 < n) : 0 ≤ belowV c n ∧ belowV c n < n := by
  have h1 := byteV_rng c
  have h2 := byteV_rng (byteC c)
  have h3 := byteV_rng (byteC (byteC c))
  unfold belowV
  rw [if_neg (by omega)]
  split
  · exact ⟨Int.tmod_nonneg _ (by omega), Int.tmod_lt_of_pos _ h⟩
  · exact ⟨Int.tmod_nonneg _ (by omega), Int.tmod_lt_of_pos _ h⟩
def A55 : AC := (.seq (.ops [yq 4 (.mov (yi 0))])
  (.seq (.seq (.ops [yq 8 (.mov (.t 1)), yq 9 (.bin .leq (.t 8) (yi 0))])
  (.cond (.t 9) (.seq (.ops [yq 4 (.mov (yi 0))])
  .ret)
  .skip))
  (.seq (.seq (.ops [yq 10 (.mov (.t 1)), yq 11 (.bin .leq (.t 10) (yi 256))])
  (.cond (.t 11) (.seq (.ops [yq 12 (.mov (.t 0)), yc 13 93 [.t 12], yq 14 (.mov (.t 1)), yq 15 (.bin .rem (.t 13) (.t 14)), yq 4 (.mov (.t 15))])
  .ret)
  .skip))
  (.seq (.ops [yq 16 (.mov (.t 0)), yc 17 93 [.t 16], yq 5 (.mov (.t 17))])
  (.seq (.ops [yq 18 (.mov (.t 0)), yc 19 93 [.t 18], yq 6 (.mov (.t 19))])
  (.seq (.ops [yq 20 (.mov (.t 0)), yc 21 93 [.t 20], yq 7 (.mov (.t 21))])
  (.seq (.ops [yq 22 (.mov (.t 5)), yq 23 (.bin .mul (.t 22) (yi 65536)), yq 24 (.mov (.t 6)), yq 25 (.bin .mul (.t 24) (yi 256)), yq 26 (.bin .add (.t 23) (.t 25)), yq 27 (.mov (.t 7)), yq 28 (.bin .add (.t 26) (.t 27)), yq 29 (.mov (.t 1)), yq 30 (.bin .rem (.t 28) (.t 29)), yq 4 (.mov (.t 30))])
  .ret)))))))
theorem K55 : yK Tryz.prog Tryz.f55 A55 31 [.mov (.t 4)] := ⟨by kernel_rfl, by kernel_rfl, by kernel_rfl⟩
theorem R55 (c : Cur) (hc : c.ok) (n : Int) : Ret Tryz.prog 55 [.bx c.cs, .sc (.int .i64 n)] (.sc (.int .i64 (belowV c n))) [.bx (belowC c n).cs, .un] := by
  refine Ret.run Tryz.func55 K55 (by simp) rfl rfl 900 ?_
  have fr : ∀ c : Cur, idfree.idfreeL c.cs = true := fun c => rfl
  by_cases h0 : n ≤ 0
  · simp [A55, iniρ, h0, belowV, belowC, ex1, fr, ioPos1]
  by_cases h1 : n ≤ 256
  · have hn : ¬ n = 0 := by omega
    simp [A55, iniρ, h0, h1]
    refine callK.bx (b := 100000) 0 rfl (by kernel_rfl) (by simp [upd_app]) (by simp [upd_app]) (fr c) rfl (by simp) (R93 c hc) rfl (by rfl) rfl ?_
    simp [h0, h1, hn, belowV, belowC, ex1, fr, ioPos1]
  simp [A55, iniρ, h0, h1]
  refine callK.bx (b := 100000) 0 rfl (by kernel_rfl) (by simp [upd_app]) (by simp [upd_app]) (fr c) rfl (by simp) (R93 c hc) rfl (by rfl) rfl ?_
  simp
  refine callK.bx (b := 100000) 0 rfl (by kernel_rfl) (by simp [upd_app]) (by simp [upd_app]) (fr _) rfl (by simp) (R93 _ (byteC_ok hc)) rfl (by rfl) rfl ?_
  simp
  refine callK.bx (b := 100000) 0 rfl (by kernel_rfl) (by simp [upd_app]) (by simp [upd_app]) (fr _) rfl (by simp) (R93 _ (byteC_ok (byteC_ok hc))) rfl (by rfl) rfl ?_
  have q1 := byteV_rng c
  have q2 := byteV_rng (byteC c)
  have q3 := byteV_rng (byteC (byteC c))
  have w1 : IntKind.i64.wrap (byteV c * 65536) = byteV c * 65536 := wrap_i64 (by omega) (by omega)
  have w2 : IntKind.i64.wrap (byteV (byteC c) * 256) = byteV (byteC c) * 256 := wrap_i64 (by omega) (by omega)
  have w3 : IntKind.i64.wrap (byteV c * 65536 + byteV (byteC c) * 256) = byteV c * 65536 + byteV (byteC c) * 256 := wrap_i64 (by omega) (by omega)
  have w4 : IntKind.i64.wrap (byteV c * 65536 + byteV (byteC c) * 256 + byteV (byteC (byteC c))) = byteV c * 65536 + byteV (byteC c) * 256 + byteV (byteC (byteC c)) := wrap_i64 (by omega) (by omega)
  have hn : ¬ n = 0 := by omega
  simp [h0, h1, hn, w1, w2, w3, w4, belowV, belowC, ex1, fr, ioPos1]
def A56 : AC := (.seq (.ops [yq 4 (.mov (.c (.sc (.bool false))))])
  (.seq (.ops [yq 5 (.mov (.t 0)), yq 6 (.mov (.t 1)), yc 7 55 [.t 5, .t 6], yq 8 (.bin .eql (.t 7) (yi 0)), yq 4 (.mov (.t 8))])
  .ret))
theorem K56 : yK Tryz.prog Tryz.f56 A56 9 [.mov (.t 4)] := ⟨by kernel_rfl, by kernel_rfl, by kernel_rfl⟩
theorem R56 (c : Cur) (hc : c.ok) (n : Int) : Ret Tryz.prog 56 [.bx c.cs, .sc (.int .i64 n)] (.sc (.bool (belowV c n == 0))) [.bx (belowC c n).cs, .un] := by
  have fr : ∀ c : Cur, idfree.idfreeL c.cs = true := fun c => rfl
  refine Ret.run Tryz.func56 K56 (by simp) rfl rfl 900 ?_
  simp [A56, iniρ]
  refine callK.bx (b := 100000) 0 rfl (by kernel_rfl) (by simp [upd_app]) (by simp [upd_app]) (fr c) (by simp [upd_app]) (by simp) (R55 c hc n) rfl (by rfl) rfl ?_
  simp [ex1, fr, ioPos1]
def A33 : AC := (.seq (.ops [yq 4 (.mov (.c (.sc (.string ⟨#[]⟩))))])
  (.seq (.ops [yq 5 (.mov (.t 1)), yq 6 (.mov (.t 0)), yq 7 (.mov (.t 1)), yq 8 (.llen (.t 7)), yc 9 55 [.t 6, .t 8], yq 10 (.iadr 1 (.t 5) (.t 9)), yq 11 (.load false 1 (.t 10)), yq 4 (.mov (.t 11))])
  .ret))
theorem K33 : yK Tryz.prog Tryz.f33 A33 12 [.mov (.t 4)] := ⟨by kernel_rfl, by kernel_rfl, by kernel_rfl⟩
theorem R33 (c : Cur) (hc : c.ok) (xs : List ByteArray) (hx : 0 < xs.length) : Ret Tryz.prog 33 [.bx c.cs, .own (rows Ty.str.oc xs) xs.length 1] (.sc (.string (xs[(belowV c xs.length).toNat]?.getD default))) [.bx (belowC c xs.length).cs, .un] := by
  have fr : ∀ c : Cur, idfree.idfreeL c.cs = true := fun c => rfl
  refine Ret.run Tryz.func33 K33 (by simp) rfl rfl 900 ?_
  simp [A33, iniρ]
  refine callK.bx (b := 100000) 0 rfl (by kernel_rfl) (by simp [upd_app]) (by simp [upd_app]) (fr c) (by simp [upd_app]) (by simp) (R55 c hc xs.length) rfl (by rfl) rfl ?_
  obtain ⟨r1, r2⟩ := belowV_rng c (n := xs.length) (by omega)
  obtain ⟨m, hm⟩ : ∃ m : Nat, belowV c xs.length = m := ⟨(belowV c xs.length).toNat, by omega⟩
  rw [hm] at r1 r2 ⊢
  have r3 : m < xs.length := by omega
  have hd : List.drop m (rows Ty.str.oc xs) = .sc (.string (xs[m]?.getD default)) :: rows Ty.str.oc (xs.drop (m + 1)) := by
    have h := rows_drop Ty.str.ocn (xs.take m) (xs.drop m)
    rw [List.take_append_drop, List.length_take, Nat.min_eq_left (by omega)] at h
    have h : List.drop m (rows Ty.str.oc xs) = rows Ty.str.oc (xs.drop m) := by
      have h2 := h
      rwa [show m * Ty.str.n = m from Nat.mul_one m] at h2
    rw [h, List.drop_eq_getElem_cons r3, rows_cons]
    simp [r3]
    rfl
  simp [r2, r3, hd, ex1, fr, ioPos1]
def low30 (a : Int) : Int := IntKind.i64.wrap (((a % 2 ^ IntKind.i64.bits).toNat &&& 1073741823 % 2 ^ IntKind.i64.bits : Nat) : Int)
def newS (h y : Int) : Int := low30 (IntKind.i64.wrap (IntKind.i64.wrap (IntKind.i64.wrap (h * 137) + IntKind.i64.wrap y) + 11))
def newH : Nat → List Int → Int → Int
  | 0, _, h => h
  | _ + 1, [], h => h
  | n + 1, y :: l, h => newH n l (newS h y)
def newC (b : List Int) : Cur := ⟨b, 0, newH 4000 b (778778 + b.length)⟩
theorem newC_ok {b : List Int} (h : Ty.byte.slice.ok b) : (newC b).ok := ⟨h, Nat.zero_le _⟩
def A22 : AC := (.seq (.ops [yq 2 (.mov (.c (.sc (.pointer none))))])
  (.seq (.ops [yq 5 (.mov (.t 0)), yq 6 (.llen (.t 5)), yq 7 (.bin .add (yi 778778) (.t 6)), yq 3 (.mov (.t 7))])
  (.seq (.seq (.ops [yq 4 (.mov (yi 0))])
  (.block 0 (.loop (.seq (.seq (.ops [yq 8 (.mov (.t 4)), yq 9 (.mov (.t 0)), yq 10 (.llen (.t 9)), yq 11 (.bin .lss (.t 8) (.t 10)), yq 12 (.mov (.t 11)), yg 13 12 true (.mov (.t 4)), yg 14 12 true (.bin .lss (.t 13) (yi 4000)), yq 15 (.pick (.t 12) (.t 14) (.c (.sc (.bool false))))])
  (.cond (.t 15) .skip
  (.exit 0)))
  (.seq (.block 1 (.ops [yq 18 (.mov (.t 3)), yq 19 (.bin .mul (.t 18) (yi 137)), yq 20 (.mov (.t 0)), yq 21 (.mov (.t 4)), yq 22 (.iadr 1 (.t 20) (.t 21)), yq 23 (.load false 1 (.t 22)), yq 24 (.cvi .i64 (.t 23)), yq 25 (.bin .add (.t 19) (.t 24)), yq 26 (.bin .add (.t 25) (yi 11)), yq 27 (.bin .and (.t 26) (yi 1073741823)), yq 3 (.mov (.t 27))]))
  (.ops [yq 16 (.mov (.t 4)), yq 17 (.bin .add (.t 16) (yi 1)), yq 4 (.mov (.t 17))]))))))
  (.seq (.ops [yq 28 (.mov (.t 0)), yq 29 (.mov (.t 3)), yw 30 (.build [.em, (.sc (.int .i64 0)), (.sc (.int .i64 0))] [(0, 1, (.t 28)), (2, 1, (.t 29))]), yw 31 (.box (.t 30)), yq 2 (.mov (.t 31))])
  .ret))))
theorem K22 : yK Tryz.prog Tryz.f22 A22 32 [.mov (.t 2)] := ⟨by kernel_rfl, by kernel_rfl, by kernel_rfl⟩
theorem R22 (b : List Int) (hx : Ty.byte.slice.ok b) : Ret Tryz.prog 22 [.ro (rows B b) b.length] (.bx (newC b).cs) [.un] := by
  have hb : b.length * 1 ≤ 140737488351232 := hx.1
  have hw0 : IntKind.i64.wrap (778778 + (b.length : Int)) = 778778 + b.length := wrap_i64 (by omega) (by omega)
  refine Ret.run Tryz.func22 K22 (by simp) rfl rfl 900 ?_
  simp [A22, iniρ, hw0]
  refine T.rounds (μ := fun i : List Int × List Int × Int => i.2.1.length)
    (fun i s => i.1 ++ i.2.1 = b ∧ i.1.length ≤ 4000 ∧ newH (4000 - i.1.length) i.2.1 i.2.2 = newH 4000 b (778778 + b.length) ∧ s.ρ 0 = .ro (rows B b) b.length ∧ s.ρ 3 = .sc (.int .i64 i.2.2) ∧ s.ρ 4 = .sc (.int .i64 i.1.length) ∧ s.h 31 = none ∧ s.n = 32) ([], b, 778778 + b.length) (by simp [upd_app]) ?_
  rintro ⟨pre, rest, h⟩ ⟨ρ, hh, n⟩ ⟨hx, hp, hE, h0', h3', h4', hf, rfl⟩
  simp only at hx hp hE h0' h3' h4' hf
  refine run_ok (n := 400) ?_
  cases rest with
  | nil =>
    have hl : pre.length = b.length := by rw [← hx]; simp
    have hE2 : h = newH 4000 b (778778 + b.length) := by rw [← hE]; cases 4000 - pre.length <;> rfl
    simp [h0', h4', hl]
    refine T.on 400 ?_
    simp [h0', h3', hf, over, ex1, Cur.cs, newC, ← hE2, idfree.idfreeL, idfree]
  | cons y rest =>
    have hle : pre.length + (rest.length + 1) = b.length := by rw [← hx]; simp
    have hlt : (pre.length : Int) < b.length := by omega
    by_cases h4k : pre.length = 4000
    · have hE2 : h = newH 4000 b (778778 + b.length) := by rw [← hE, h4k]; rfl
      have h4l : ¬ ((pre.length : Int) < 4000) := by omega
      simp [h0', h4', hlt, h4l]
      refine T.on 400 ?_
      simp [h0', h3', hf, over, ex1, Cur.cs, newC, ← hE2, idfree.idfreeL, idfree]
    have h4l : (pre.length : Int) < 4000 := by omega
    have hd := rows_drop B.len pre (y :: rest)
    rw [hx, rows_cons, Nat.mul_one] at hd
    have hw : IntKind.i64.wrap ((pre.length : Int) + 1) = pre.length + 1 := wrap_i64 (by omega) (by omega)
    have hs : 4000 - pre.length = (4000 - (pre.length + 1)) + 1 := by omega
    rw [hs] at hE
    simp [h0', h3', h4', hlt, h4l, hd, B, hw]
    refine ⟨pre ++ [y], rest, by simp, newS h y, _, Le.refl _, ?_⟩
    simp [hx, h0', hf, upd_app, ← hE, newH, newS, low30]
    omega
def pickS (l : List ByteArray) (c : Cur) (n : Int) : ByteArray := l[(belowV c n).toNat]?.getD default
def inR (x a b : Int) : Bool := decide (a ≤ x) && decide (x ≤ b)
def smallI (n : Int) : Bool := decide (97 ≤ n) && decide (n ≤ 122)
def figI (n : Int) : Bool := decide (48 ≤ n) && decide (n ≤ 57)
def nameC (i : Nat) (c : UInt8) : Bool := smallI (c.toNat : Int) || (decide (i ≠ 0) && (figI (c.toNat : Int) || decide ((c.toNat : Int) = 45)))
def nameL : List UInt8 → Nat → Bool
  | [], _ => true
  | c :: l, i => nameC i c && nameL l (i + 1)
def nameOk (s : ByteArray) : Bool := nameL s.data.toList 0 && inR s.size 1 10
theorem str_get {s : ByteArray} {pre rest : List UInt8} {c : UInt8} (h : pre ++ c :: rest = s.data.toList) : s[pre.length]? = some c := by
  have h2 : s.data.toList[pre.length]? = some c := by rw [← h]; simp
  have hlt : pre.length < s.size := by
    have := (List.getElem?_eq_some_iff.1 h2).1
    simpa using this
  have h3 : s.data[pre.length]? = some c := by rw [← Array.getElem?_toList]; exact h2
  rw [Array.getElem?_eq_some_iff] at h3
  obtain ⟨h4, h5⟩ := h3
  have : s[pre.length]? = some s[pre.length] := getElem?_pos s pre.length hlt
  rw [this]
  congr 1
theorem str_len {s : ByteArray} {l : List UInt8} (h : l = s.data.toList) : s.size = l.length := by subst h; exact Array.length_toList.symm
def A42 : AC := (.seq (.ops [yq 6 (.mov (.c (.sc (.bool false))))])
  (.seq (.ops [yq 7 (.mov (.t 0)), yq 8 (.mov (.t 1)), yq 9 (.bin .geq (.t 7) (.t 8)), yq 10 (.mov (.t 9)), yg 11 10 true (.mov (.t 0)), yg 12 10 true (.mov (.t 2)), yg 13 10 true (.bin .leq (.t 11) (.t 12)), yq 14 (.pick (.t 10) (.t 13) (.c (.sc (.bool false)))), yq 6 (.mov (.t 14))])
  .ret))
theorem K42 : yK Tryz.prog Tryz.f42 A42 15 [.mov (.t 6)] := ⟨by kernel_rfl, by kernel_rfl, by kernel_rfl⟩
theorem R42 (x a b : Int) : Ret Tryz.prog 42 [.sc (.int .i64 x), .sc (.int .i64 a), .sc (.int .i64 b)] (.sc (.bool (inR x a b))) [.un, .un, .un] := by
  refine Ret.run Tryz.func42 K42 (by simp) rfl rfl 500 ?_
  by_cases h : a ≤ x <;> simp [A42, iniρ, inR, h]
def A27 : AC := (.seq (.ops [yq 6 (.mov (.c (.sc (.bool false))))])
  (.seq (.ops [yq 7 (.mov (.t 0)), yq 8 (.mov (.t 1)), yq 9 (.bin .geq (.t 7) (.t 8)), yq 10 (.mov (.t 9)), yg 11 10 true (.mov (.t 0)), yg 12 10 true (.mov (.t 2)), yg 13 10 true (.bin .leq (.t 11) (.t 12)), yq 14 (.pick (.t 10) (.t 13) (.c (.sc (.bool false)))), yq 6 (.mov (.t 14))])
  .ret))
theorem K27 : yK Tryz.prog Tryz.f27 A27 15 [.mov (.t 6)] := ⟨by kernel_rfl, by kernel_rfl, by kernel_rfl⟩
theorem R27 (x a b : Int) : Ret Tryz.prog 27 [.sc (.int .i64 x), .sc (.int .i64 a), .sc (.int .i64 b)] (.sc (.bool (inR x a b))) [.un, .un, .un] := by
  refine Ret.run Tryz.func27 K27 (by simp) rfl rfl 500 ?_
  by_cases h : a ≤ x <;> simp [A27, iniρ, inR, h]
def A95 : AC := (.seq (.ops [yq 2 (.mov (.c (.sc (.bool false))))])
  (.seq (.ops [yq 3 (.mov (.t 0)), yq 4 (.bin .geq (.t 3) (.c (.sc (.int .u8 97)))), yq 5 (.mov (.t 4)), yg 6 5 true (.mov (.t 0)), yg 7 5 true (.bin .leq (.t 6) (.c (.sc (.int .u8 122)))), yq 8 (.pick (.t 5) (.t 7) (.c (.sc (.bool false)))), yq 2 (.mov (.t 8))])
  .ret))
theorem K95 : yK Tryz.prog Tryz.f95 A95 9 [.mov (.t 2)] := ⟨by kernel_rfl, by kernel_rfl, by kernel_rfl⟩
theorem R95 (c : UInt8) : Ret Tryz.prog 95 [.sc (.int .u8 c.toNat)] (.sc (.bool (smallI c.toNat))) [.un] := by
  refine Ret.run Tryz.func95 K95 (by simp) rfl rfl 500 ?_
  by_cases h : (97 : Int) ≤ c.toNat <;> simp [A95, iniρ, smallI, h]
def A96 : AC := (.seq (.ops [yq 2 (.mov (.c (.sc (.bool false))))])
  (.seq (.ops [yq 3 (.mov (.t 0)), yq 4 (.bin .geq (.t 3) (.c (.sc (.int .u8 48)))), yq 5 (.mov (.t 4)), yg 6 5 true (.mov (.t 0)), yg 7 5 true (.bin .leq (.t 6) (.c (.sc (.int .u8 57)))), yq 8 (.pick (.t 5) (.t 7) (.c (.sc (.bool false)))), yq 2 (.mov (.t 8))])
  .ret))
theorem K96 : yK Tryz.prog Tryz.f96 A96 9 [.mov (.t 2)] := ⟨by kernel_rfl, by kernel_rfl, by kernel_rfl⟩
theorem R96 (c : UInt8) : Ret Tryz.prog 96 [.sc (.int .u8 c.toNat)] (.sc (.bool (figI c.toNat))) [.un] := by
  refine Ret.run Tryz.func96 K96 (by simp) rfl rfl 500 ?_
  by_cases h : (48 : Int) ≤ c.toNat <;> simp [A96, iniρ, figI, h]
def A113 : AC := (.seq (.ops [yq 2 (.mov (.c (.sc (.bool false))))])
  (.seq (.ops [yq 3 (.mov (.t 0)), yq 4 (.cvi .i64 (.t 3)), yc 5 42 [.t 4, yi 97, yi 122], yq 2 (.mov (.t 5))])
  .ret))
theorem K113 : yK Tryz.prog Tryz.f113 A113 6 [.mov (.t 2)] := ⟨by kernel_rfl, by kernel_rfl, by kernel_rfl⟩
theorem R113 (c : UInt8) : Ret Tryz.prog 113 [.sc (.int .u8 c.toNat)] (.sc (.bool (smallI c.toNat))) [.un] := by
  have hw : IntKind.i64.wrap (c.toNat : Int) = c.toNat := wrap_i64 (by omega) (by have := c.toNat_lt; omega)
  refine Ret.run Tryz.func113 K113 (by simp) rfl rfl 500 ?_
  simp [A113, iniρ, hw]
  refine callK.ro 0 rfl (by kernel_rfl) (by simp [roc_sc]) (R42 c.toNat 97 122) rfl rfl rfl ?_
  simp [inR, smallI]
def A114 : AC := (.seq (.ops [yq 2 (.mov (.c (.sc (.bool false))))])
  (.seq (.ops [yq 3 (.mov (.t 0)), yq 4 (.cvi .i64 (.t 3)), yc 5 42 [.t 4, yi 48, yi 57], yq 2 (.mov (.t 5))])
  .ret))
theorem K114 : yK Tryz.prog Tryz.f114 A114 6 [.mov (.t 2)] := ⟨by kernel_rfl, by kernel_rfl, by kernel_rfl⟩
theorem R114 (c : UInt8) : Ret Tryz.prog 114 [.sc (.int .u8 c.toNat)] (.sc (.bool (figI c.toNat))) [.un] := by
  have hw : IntKind.i64.wrap (c.toNat : Int) = c.toNat := wrap_i64 (by omega) (by have := c.toNat_lt; omega)
  refine Ret.run Tryz.func114 K114 (by simp) rfl rfl 500 ?_
  simp [A114, iniρ, hw]
  refine callK.ro 0 rfl (by kernel_rfl) (by simp [roc_sc]) (R42 c.toNat 48 57) rfl rfl rfl ?_
  simp [inR, figI]
def A75 : AC := (.seq (.ops [yq 2 (.mov (.c (.sc (.bool false))))])
  (.seq (.seq (.ops [yq 3 (.mov (yi 0))])
  (.block 0 (.loop (.seq (.seq (.ops [yq 4 (.mov (.t 3)), yq 5 (.mov (.t 0)), yq 6 (.slen (.t 5)), yq 7 (.bin .lss (.t 4) (.t 6))])
  (.cond (.t 7) .skip
  (.exit 0)))
  (.seq (.block 1 (.seq (.ops [yq 10 (.mov (.t 0)), yq 11 (.mov (.t 3)), yq 12 (.idx (.t 10) (.t 11)), yc 13 113 [.t 12], yq 14 (.not (.t 13)), yq 15 (.mov (.t 14)), yg 16 15 true (.mov (.t 3)), yg 17 15 true (.bin .eql (.t 16) (yi 0)), yg 18 15 true (.mov (.t 17)), yg 19 18 false (.mov (.t 0)), yg 20 18 false (.mov (.t 3)), yg 21 18 false (.idx (.t 19) (.t 20)), yh 22 18 false 114 [.t 21], yg 23 18 false (.not (.t 22)), yg 24 18 false (.mov (.t 23)), yg 25 24 true (.mov (.t 0)), yg 26 24 true (.mov (.t 3)), yg 27 24 true (.idx (.t 25) (.t 26)), yg 28 24 true (.bin .neq (.t 27) (.c (.sc (.int .u8 45)))), yg 29 18 false (.pick (.t 24) (.t 28) (.c (.sc (.bool false)))), yg 30 15 true (.pick (.t 18) (.c (.sc (.bool true))) (.t 29)), yq 31 (.pick (.t 15) (.t 30) (.c (.sc (.bool false))))])
  (.cond (.t 31) (.seq (.ops [yq 2 (.mov (.c (.sc (.bool false))))])
  .ret)
  .skip)))
  (.ops [yq 8 (.mov (.t 3)), yq 9 (.bin .add (.t 8) (yi 1)), yq 3 (.mov (.t 9))]))))))
  (.seq (.ops [yq 32 (.mov (.t 0)), yq 33 (.slen (.t 32)), yc 34 42 [.t 33, yi 1, yi 10], yq 2 (.mov (.t 34))])
  .ret)))
theorem K75 : yK Tryz.prog Tryz.f75 A75 35 [.mov (.t 2)] := ⟨by kernel_rfl, by kernel_rfl, by kernel_rfl⟩
theorem R75 (s : ByteArray) (hs : s.size ≤ 140737488351232) : Ret Tryz.prog 75 [.sc (.string s)] (.sc (.bool (nameOk s))) [.un] := by
  refine Ret.run Tryz.func75 K75 (by simp) rfl rfl 500 ?_
  simp [A75, iniρ]
  refine T.rounds (μ := fun i : List UInt8 × List UInt8 => i.2.length)
    (fun i t => i.1 ++ i.2 = s.data.toList ∧ nameL i.2 i.1.length = nameL s.data.toList 0 ∧ t.ρ 0 = .sc (.string s) ∧ t.ρ 3 = .sc (.int .i64 i.1.length) ∧ t.h = h0 ∧ t.n = 35) ([], s.data.toList) (by simp [upd_app]) ?_
  rintro ⟨pre, rest⟩ ⟨ρ, hh, n⟩ ⟨hx, hE, k0, k3, rfl, rfl⟩
  simp only at hx hE k0 k3
  have hsz := str_len hx
  refine run_ok (n := 400) ?_
  cases rest with
  | nil =>
    simp at hsz
    simp [k0, k3, hsz]
    refine T.on 400 ?_
    simp [k0]
    refine callK.ro 0 rfl (by kernel_rfl) (by simp [roc_sc]) (R42 s.size 1 10) rfl rfl rfl ?_
    simp [nameOk, ← hE, nameL]
  | cons c rest =>
    have hg := str_get hx
    simp at hsz
    have hlt : (pre.length : Int) < s.size := by omega
    have hw : IntKind.i64.wrap ((pre.length : Int) + 1) = pre.length + 1 := wrap_i64 (by omega) (by omega)
    simp [k0, k3, hlt, hg]
    refine callK.ro 0 rfl (by kernel_rfl) (by simp [roc_sc]) (R113 c) rfl rfl rfl ?_
    have step : nameC pre.length c = true → ∀ (Q : Prop), (nameL rest (pre.length + 1) = nameL s.data.toList 0 → Q) → Q := fun h Q k => k (by rw [← hE]; simp [nameL, h])
    have stop : nameC pre.length c = false → nameOk s = false := fun h => by simp [nameOk, ← hE, nameL, h]
    cases h1 : smallI (c.toNat : Int)
    · by_cases hz : pre.length = 0
      · have := stop (by simp [nameC, h1, hz])
        simp [k0, k3, h1, hz, hlt, hg, this]
      · have hz' : pre ≠ [] := fun e => hz (by simp [e])
        simp [k0, k3, h1, hz, hz', hlt, hg]
        refine callK.ro 0 rfl (by kernel_rfl) (by simp [roc_sc]) (R114 c) rfl rfl rfl ?_
        cases h2 : figI (c.toNat : Int)
        · by_cases h3 : (c.toNat : Int) = 45
          · simp [k0, k3, h1, h2, hz, hz', hlt, hg, h3, hw]
            refine step (by simp [nameC, h1, h2, hz, hz', h3]) _ fun hE2 => ?_
            refine ⟨pre ++ [c], rest, by simp, _, Le.refl _, ?_⟩
            simp [hx, k0, hE2, upd_app]
          · have := stop (by simp [nameC, h1, h2, hz, hz', h3])
            simp [k0, k3, h1, h2, hz, hz', hlt, hg, h3, this]
        · simp [k0, k3, h1, h2, hz, hz', hlt, hg, hw]
          refine step (by simp [nameC, h1, h2, hz, hz']) _ fun hE2 => ?_
          refine ⟨pre ++ [c], rest, by simp, _, Le.refl _, ?_⟩
          simp [hx, k0, hE2, upd_app]
    · simp [k0, k3, h1, hlt, hg, hw]
      refine step (by simp [nameC, h1]) _ fun hE2 => ?_
      refine ⟨pre ++ [c], rest, by simp, _, Le.refl _, ?_⟩
      simp [hx, k0, hE2, upd_app]
def A60 : AC := (.seq (.ops [yq 2 (.mov (.c (.sc (.bool false))))])
  (.seq (.seq (.ops [yq 3 (.mov (yi 0))])
  (.block 0 (.loop (.seq (.seq (.ops [yq 4 (.mov (.t 3)), yq 5 (.mov (.t 0)), yq 6 (.slen (.t 5)), yq 7 (.bin .lss (.t 4) (.t 6))])
  (.cond (.t 7) .skip
  (.exit 0)))
  (.seq (.block 1 (.seq (.ops [yq 10 (.mov (.t 0)), yq 11 (.mov (.t 3)), yq 12 (.idx (.t 10) (.t 11)), yc 13 95 [.t 12], yq 14 (.not (.t 13)), yq 15 (.mov (.t 14)), yg 16 15 true (.mov (.t 3)), yg 17 15 true (.bin .eql (.t 16) (yi 0)), yg 18 15 true (.mov (.t 17)), yg 19 18 false (.mov (.t 0)), yg 20 18 false (.mov (.t 3)), yg 21 18 false (.idx (.t 19) (.t 20)), yh 22 18 false 96 [.t 21], yg 23 18 false (.not (.t 22)), yg 24 18 false (.mov (.t 23)), yg 25 24 true (.mov (.t 0)), yg 26 24 true (.mov (.t 3)), yg 27 24 true (.idx (.t 25) (.t 26)), yg 28 24 true (.bin .neq (.t 27) (.c (.sc (.int .u8 45)))), yg 29 18 false (.pick (.t 24) (.t 28) (.c (.sc (.bool false)))), yg 30 15 true (.pick (.t 18) (.c (.sc (.bool true))) (.t 29)), yq 31 (.pick (.t 15) (.t 30) (.c (.sc (.bool false))))])
  (.cond (.t 31) (.seq (.ops [yq 2 (.mov (.c (.sc (.bool false))))])
  .ret)
  .skip)))
  (.ops [yq 8 (.mov (.t 3)), yq 9 (.bin .add (.t 8) (yi 1)), yq 3 (.mov (.t 9))]))))))
  (.seq (.ops [yq 32 (.mov (.t 0)), yq 33 (.slen (.t 32)), yc 34 27 [.t 33, yi 1, yi 10], yq 2 (.mov (.t 34))])
  .ret)))
theorem K60 : yK Tryz.prog Tryz.f60 A60 35 [.mov (.t 2)] := ⟨by kernel_rfl, by kernel_rfl, by kernel_rfl⟩
theorem R60 (s : ByteArray) (hs : s.size ≤ 140737488351232) : Ret Tryz.prog 60 [.sc (.string s)] (.sc (.bool (nameOk s))) [.un] := by
  refine Ret.run Tryz.func60 K60 (by simp) rfl rfl 500 ?_
  simp [A60, iniρ]
  refine T.rounds (μ := fun i : List UInt8 × List UInt8 => i.2.length)
    (fun i t => i.1 ++ i.2 = s.data.toList ∧ nameL i.2 i.1.length = nameL s.data.toList 0 ∧ t.ρ 0 = .sc (.string s) ∧ t.ρ 3 = .sc (.int .i64 i.1.length) ∧ t.h = h0 ∧ t.n = 35) ([], s.data.toList) (by simp [upd_app]) ?_
  rintro ⟨pre, rest⟩ ⟨ρ, hh, n⟩ ⟨hx, hE, k0, k3, rfl, rfl⟩
  simp only at hx hE k0 k3
  have hsz := str_len hx
  refine run_ok (n := 400) ?_
  cases rest with
  | nil =>
    simp at hsz
    simp [k0, k3, hsz]
    refine T.on 400 ?_
    simp [k0]
    refine callK.ro 0 rfl (by kernel_rfl) (by simp [roc_sc]) (R27 s.size 1 10) rfl rfl rfl ?_
    simp [nameOk, ← hE, nameL]
  | cons c rest =>
    have hg := str_get hx
    simp at hsz
    have hlt : (pre.length : Int) < s.size := by omega
    have hw : IntKind.i64.wrap ((pre.length : Int) + 1) = pre.length + 1 := wrap_i64 (by omega) (by omega)
    simp [k0, k3, hlt, hg]
    refine callK.ro 0 rfl (by kernel_rfl) (by simp [roc_sc]) (R95 c) rfl rfl rfl ?_
    have step : nameC pre.length c = true → ∀ (Q : Prop), (nameL rest (pre.length + 1) = nameL s.data.toList 0 → Q) → Q := fun h Q k => k (by rw [← hE]; simp [nameL, h])
    have stop : nameC pre.length c = false → nameOk s = false := fun h => by simp [nameOk, ← hE, nameL, h]
    cases h1 : smallI (c.toNat : Int)
    · by_cases hz : pre.length = 0
      · have := stop (by simp [nameC, h1, hz])
        simp [k0, k3, h1, hz, hlt, hg, this]
      · have hz' : pre ≠ [] := fun e => hz (by simp [e])
        simp [k0, k3, h1, hz, hz', hlt, hg]
        refine callK.ro 0 rfl (by kernel_rfl) (by simp [roc_sc]) (R96 c) rfl rfl rfl ?_
        cases h2 : figI (c.toNat : Int)
        · by_cases h3 : (c.toNat : Int) = 45
          · simp [k0, k3, h1, h2, hz, hz', hlt, hg, h3, hw]
            refine step (by simp [nameC, h1, h2, hz, hz', h3]) _ fun hE2 => ?_
            refine ⟨pre ++ [c], rest, by simp, _, Le.refl _, ?_⟩
            simp [hx, k0, hE2, upd_app]
          · have := stop (by simp [nameC, h1, h2, hz, hz', h3])
            simp [k0, k3, h1, h2, hz, hz', hlt, hg, h3, this]
        · simp [k0, k3, h1, h2, hz, hz', hlt, hg, hw]
          refine step (by simp [nameC, h1, h2, hz, hz']) _ fun hE2 => ?_
          refine ⟨pre ++ [c], rest, by simp, _, Le.refl _, ?_⟩
          simp [hx, k0, hE2, upd_app]
    · simp [k0, k3, h1, hlt, hg, hw]
      refine step (by simp [nameC, h1]) _ fun hE2 => ?_
      refine ⟨pre ++ [c], rest, by simp, _, Le.refl _, ?_⟩
      simp [hx, k0, hE2, upd_app]
def splitP (s : ByteArray) (b : Int) : Nat → Nat → List UInt8 → List ByteArray
  | f, i, [] => [s.extract f i]
  | f, i, c :: l => if (c.toNat : Int) = b then s.extract f i :: splitP s b (i + 1) (i + 1) l else splitP s b f (i + 1) l
def splitS (s : ByteArray) (b : Int) : List ByteArray := splitP s b 0 0 s.data.toList
structure Opt where
  v : Bool
def A148 : AC := (.seq (.ops [yq 4 (.mov (.c .em))])
  (.seq (.ops [yw 8 (.bsl 1 0 [] []), yq 5 (.mov (.t 8))])
  (.seq (.ops [yq 6 (.mov (yi 0))])
  (.seq (.seq (.ops [yq 7 (.mov (yi 0))])
  (.block 0 (.loop (.seq (.seq (.ops [yq 9 (.mov (.t 7)), yq 10 (.mov (.t 0)), yq 11 (.slen (.t 10)), yq 12 (.bin .leq (.t 9) (.t 11))])
  (.cond (.t 12) .skip
  (.exit 0)))
  (.seq (.block 1 (.seq (.ops [yq 15 (.mov (.t 7)), yq 16 (.mov (.t 0)), yq 17 (.slen (.t 16)), yq 18 (.bin .eql (.t 15) (.t 17)), yq 19 (.mov (.t 18)), yg 20 19 false (.mov (.t 0)), yg 21 19 false (.mov (.t 7)), yg 22 19 false (.idx (.t 20) (.t 21)), yg 23 19 false (.mov (.t 1)), yg 24 19 false (.bin .eql (.t 22) (.t 23)), yq 25 (.pick (.t 19) (.c (.sc (.bool true))) (.t 24))])
  (.cond (.t 25) (.seq (.ops [yq 26 (.mov (.t 5)), yq 27 (.mov (.t 0)), yq 28 (.mov (.t 6)), yq 29 (.mov (.t 7)), yq 30 (.subs (.t 27) (some (.t 28)) (some (.t 29))), yw 31 (.bsl 1 1 [(.sc (.string ⟨#[]⟩))] [(0, 1, (.t 30))]), yw 32 (.app 1 16 false (.t 26) (.t 31)), yq 5 (.mov (.t 32))])
  (.ops [yq 33 (.mov (.t 7)), yq 34 (.bin .add (.t 33) (yi 1)), yq 6 (.mov (.t 34))]))
  .skip)))
  (.ops [yq 13 (.mov (.t 7)), yq 14 (.bin .add (.t 13) (yi 1)), yq 7 (.mov (.t 14))]))))))
  (.seq (.ops [yq 35 (.mov (.t 5)), yq 4 (.mov (.t 35))])
  .ret)))))
theorem K148 : yK Tryz.prog Tryz.f148 A148 36 [.mov (.t 4)] := ⟨by kernel_rfl, by kernel_rfl, by kernel_rfl⟩
theorem R148 (s : ByteArray) (b : Int) (hs : s.size ≤ 1048576) : Ret Tryz.prog 148 [.sc (.string s), .sc (.int .u8 b)] (.own (rows Ty.str.oc (splitS s b)) (splitS s b).length 1) [.un, .un] := by
  refine Ret.run Tryz.func148 K148 (by simp) rfl rfl 900 ?_
  simp [A148, iniρ, over]
  -- ended: the last part is out
  refine T.rounds (μ := fun i : List UInt8 × List UInt8 × List ByteArray × Nat × Opt => i.2.1.length + (if i.2.2.2.2.v then 0 else 1))
    (fun i t => i.1 ++ i.2.1 = s.data.toList ∧ i.2.2.2.1 ≤ i.1.length ∧ i.2.2.1.length ≤ i.1.length + (if i.2.2.2.2.v then 1 else 0) ∧ (if i.2.2.2.2.v then i.2.1 = [] ∧ i.2.2.1 = splitS s b else i.2.2.1 ++ splitP s b i.2.2.2.1 i.1.length i.2.1 = splitS s b) ∧
      t.ρ 0 = .sc (.string s) ∧ t.ρ 1 = .sc (.int .u8 b) ∧ t.ρ 5 = .sl 8 0 i.2.2.1.length 1 false ∧ (i.2.2.2.2.v = false → t.ρ 6 = .sc (.int .i64 i.2.2.2.1)) ∧ t.ρ 7 = .sc (.int .i64 (i.1.length + (if i.2.2.2.2.v then 1 else 0))) ∧ t.h 8 = some (some (rows Ty.str.oc i.2.2.1)) ∧ t.h 31 = none ∧ t.h 32 = none ∧ t.n = 36) ([], s.data.toList, [], 0, ⟨false⟩) (by simp [upd_app, rows_nil, splitS]) ?_
  rintro ⟨pre, rest, out, f, ⟨e⟩⟩ ⟨ρ, hh, n⟩ ⟨hx, hf, ho, hE, k0, k1, k5, k6, k7, k8, f1, f2, rfl⟩
  simp only at hx hf ho hE k0 k1 k5 k6 k7 k8 f1 f2
  have hsz := str_len hx
  refine run_ok (n := 400) ?_
  cases e with
  | true =>
    simp at hE k7
    obtain ⟨rfl, hE⟩ := hE
    simp at hsz
    have h1 : ¬ ((pre.length : Int) + 1 ≤ s.size) := by omega
    simp [k0, k7, h1]
    refine T.on 400 ?_
    have hid : idfree.idfreeL (rows Ty.str.oc (splitS s b)) = true := Ty.str.frL _
    simp [k5, k8, ex1, hE, str_ocl, hid]
  | false =>
    simp at hE k6 k7 ho
    have hps : pre.length ≤ s.size := by rw [hsz]; simp
    have hw : IntKind.i64.wrap ((pre.length : Int) + 1) = pre.length + 1 := wrap_i64 (by omega) (by omega)
    have hcap : (out.length + 1) * 16 ≤ 140737488355328 := by omega
    have hap : ∀ (l : List ByteArray) (g : ByteArray), rows Ty.str.oc l ++ [.sc (.string g)] = rows Ty.str.oc (l ++ [g]) := fun l g => by rw [rows_append]; rfl
    cases rest with
    | nil =>
      simp at hsz
      simp [k0, k1, k5, k6, k7, k8, f1, f2, hsz, hw, over, str_ocl, hcap, hap, hf]
      refine ⟨pre, [], out ++ [s.extract f pre.length], f, ⟨true⟩, ⟨rfl, rfl⟩, _, Le.reseat [0, 1, 5, 7] [(32, 8)] (by simp) (by simp [upd_app, menB, idfree, k0, k1]) ?_, ?_⟩
      · intro b' hb cs hcs
        simp at hb
        subst hb
        simp [upd_app] at hcs
        subst hcs
        exact rows_all (fun x c hc => (Ty.str.ow x c hc).fr) _
      · have hE2 : out ++ [s.extract f pre.length] = splitS s b := hE
        simp [upd_app, k0, k1, hE2]
        refine ⟨by simpa using hx, hf, ?_⟩
        rw [← hE2]; simp; omega
    | cons c rest =>
      have hg := str_get hx
      simp at hsz
      have hlt : (pre.length : Int) < s.size := by omega
      have hlt2 : pre.length < s.size := by omega
      have hle : (pre.length : Int) ≤ s.size := by omega
      have hne : ¬ ((pre.length : Int) = s.size) := by omega
      have hne2 : ¬ (pre.length = s.size) := by omega
      rw [splitP] at hE
      by_cases hc : (c.toNat : Int) = b
      · rw [if_pos hc] at hE
        simp [k0, k1, k5, k6, k7, k8, f1, f2, hlt, hle, hne, hne2, hg, hc, hw, hps, over, str_ocl, hcap, hap, hf]
        refine ⟨pre ++ [c], rest, out ++ [s.extract f pre.length], pre.length + 1, ⟨false⟩, by simp, _, Le.reseat [0, 1, 5, 6, 7] [(32, 8)] (by simp) (by simp [upd_app, menB, idfree, k0, k1]) ?_, ?_⟩
        · intro b' hb cs hcs
          simp at hb
          subst hb
          simp [upd_app] at hcs
          subst hcs
          exact rows_all (fun x c hc => (Ty.str.ow x c hc).fr) _
        · simp [upd_app, k0, k1, hx, hE]
          omega
      · have hcb : ((c.toNat : Int) == b) = false := by simpa using hc
        rw [if_neg hc] at hE
        simp [k0, k1, k5, k6, k7, k8, f1, f2, hlt, hle, hne, hne2, hg, hc, hcb, hw, over, str_ocl, hap]
        refine ⟨pre ++ [c], rest, out, f, ⟨false⟩, by simp, _, Le.refl _, ?_⟩
        simp [upd_app, k0, k1, k5, k6, k8, f1, f2, hx, hE]
        omega
theorem splitP_size (s : ByteArray) (b : Int) : ∀ (l : List UInt8) (f i : Nat), ∀ x ∈ splitP s b f i l, x.size ≤ s.size
  | [], f, i, x, h => by
    simp [splitP] at h
    subst h
    rw [ByteArray.size_extract]; omega
  | c :: l, f, i, x, h => by
    rw [splitP] at h
    split at h
    · rcases List.mem_cons.1 h with rfl | h
      · rw [ByteArray.size_extract]; omega
      · exact splitP_size s b l _ _ x h
    · exact splitP_size s b l _ _ x h
theorem extract_toList (s : ByteArray) (i j : Nat) : (s.extract i j).data.toList = (s.data.toList.take j).drop i := by
  rw [ByteArray.data_extract, Array.toList_extract, List.extract_eq_take_drop, List.drop_take]
theorem ixB_cases (c : UInt8) : ∀ l : List UInt8, (Lib.indexByte l c = -1 ∧ c ∉ l) ∨ ∃ p q, l = p ++ c :: q ∧ c ∉ p ∧ Lib.indexByte l c = (p.length : Int)
  | [] => .inl ⟨rfl, by simp⟩
  | x :: l => by
    by_cases h : x = c
    · subst h
      exact .inr ⟨[], l, rfl, by simp, by simp [Lib.indexByte]⟩
    · have h2 : (x == c) = false := by simpa using h
      rcases ixB_cases c l with ⟨e, hn⟩ | ⟨p, q, e, hn, e2⟩
      · left
        refine ⟨by simp [Lib.indexByte, h2, e], fun hm => ?_⟩
        rcases List.mem_cons.1 hm with e2 | e2
        · exact h e2.symm
        · exact hn e2
      · right
        refine ⟨x :: p, q, by rw [e]; rfl, fun hm => ?_, ?_⟩
        · rcases List.mem_cons.1 hm with e3 | e3
          · exact h e3.symm
          · exact hn e3
        · have h3 : (Lib.indexByte l c == -1) = false := by rw [e2]; simp
          rw [Lib.indexByte, h2, h3, e2]
          simp
theorem u8_eq {x c : UInt8} : ((x.toNat : Int) = (c.toNat : Int)) ↔ x = c := ⟨fun h => UInt8.toNat_inj.1 (by omega), fun h => by rw [h]⟩
theorem splitP_miss (s : ByteArray) (c : UInt8) (f : Nat) : ∀ (l : List UInt8) (i : Nat), c ∉ l → splitP s (c.toNat : Int) f i l = [s.extract f (i + l.length)]
  | [], i, _ => rfl
  | x :: l, i, h => by
    have hx : ¬ ((x.toNat : Int) = (c.toNat : Int)) := fun e => h (by rw [u8_eq.1 e]; exact List.mem_cons_self ..)
    rw [splitP, if_neg hx, splitP_miss s c f l (i + 1) (fun hm => h (List.mem_cons_of_mem _ hm))]
    congr 2
    simp only [List.length_cons]; omega
theorem splitP_hit (s : ByteArray) (c : UInt8) (f : Nat) (q : List UInt8) : ∀ (p : List UInt8) (i : Nat), c ∉ p → splitP s (c.toNat : Int) f i (p ++ c :: q) = s.extract f (i + p.length) :: splitP s (c.toNat : Int) (i + p.length + 1) (i + p.length + 1) q
  | [], i, _ => by rw [List.nil_append, splitP, if_pos rfl]; rfl
  | x :: p, i, h => by
    have hx : ¬ ((x.toNat : Int) = (c.toNat : Int)) := fun e => h (by rw [u8_eq.1 e]; exact List.mem_cons_self ..)
    rw [List.cons_append, splitP, if_neg hx, splitP_hit s c f q p (i + 1) (fun hm => h (List.mem_cons_of_mem _ hm))]
    have e : i + 1 + p.length = i + (x :: p).length := by simp only [List.length_cons]; omega
    rw [e]
theorem splitP_cnt (s : ByteArray) (c : UInt8) : ∀ (l : List UInt8) (f i : Nat), (splitP s (c.toNat : Int) f i l).length = l.count c + 1
  | [], _, _ => rfl
  | x :: l, f, i => by
    rw [splitP]
    by_cases h : x = c
    · rw [if_pos (u8_eq.2 h), List.length_cons, splitP_cnt s c l, h, List.count_cons_self]
    · rw [if_neg (fun e => h (u8_eq.1 e)), splitP_cnt s c l, List.count_cons_of_ne (fun e => h (by simpa using e))]
theorem R159 (s : ByteArray) (c : UInt8) : Ret Tryz.prog 159 [.sc (.string s), .sc (.string ⟨#[c]⟩)] (.sc (.int .i64 (Lib.indexByte s.data.toList c))) [.un, .un] :=
  Ret.twoOf rfl rfl rfl fun w => Any.strings_Index_one Tryz.lays143 s c w
theorem R182 (s : ByteArray) (c : UInt8) : Ret Tryz.prog 182 [.sc (.string s), .sc (.string ⟨#[c]⟩)] (.sc (.int .i64 (Lib.indexByte s.data.toList c))) [.un, .un] :=
  Ret.twoOf rfl rfl rfl fun w => Any.stringslite_Index_one Tryz.lays219 s c w
theorem R158 (s : ByteArray) (c : UInt8) : Ret Tryz.prog 158 [.sc (.string s), .sc (.string ⟨#[c]⟩)] (.sc (.int .i64 (Lib.countByte s.data.toList c))) [.un, .un] :=
  Ret.twoOf rfl rfl rfl fun w => Any.strings_Count_one Tryz.lays138 s c w
def cutF (s : ByteArray) (c : UInt8) : ByteArray × ByteArray × Bool :=
  if 0 ≤ Lib.indexByte s.data.toList c then (s.extract 0 (Lib.indexByte s.data.toList c).toNat, s.extract ((Lib.indexByte s.data.toList c).toNat + 1) s.size, true) else (s, ⟨#[]⟩, false)
def cutRes (x : ByteArray × ByteArray × Bool) : AV := .tup [.sc (.string x.1), .sc (.string x.2.1), .sc (.bool x.2.2)]
def A186 : AC := (.seq (.ops [yq 4 (.mov (.c (.sc (.string ⟨#[]⟩)))), yq 5 (.mov (.c (.sc (.string ⟨#[]⟩)))), yq 6 (.mov (.c (.sc (.bool false))))])
  (.seq (.seq (.ops [yq 8 (.mov (.t 0)), yq 9 (.mov (.t 1)), yc 10 182 [.t 8, .t 9], yq 7 (.mov (.t 10))])
  (.seq (.ops [yq 11 (.mov (.t 7)), yq 12 (.bin .geq (.t 11) (yi 0))])
  (.cond (.t 12) (.seq (.any [(yq 13 (.mov (.t 0)), []), (yq 14 (.mov (.t 7)), []), (yq 15 (.subs (.t 13) none (some (.t 14))), [0, 1]), (yq 16 (.mov (.t 0)), []), (yq 17 (.mov (.t 7)), []), (yq 18 (.mov (.t 1)), []), (yq 19 (.slen (.t 18)), [5]), (yq 20 (.bin .add (.t 17) (.t 19)), [4, 6]), (yq 21 (.subs (.t 16) (some (.t 20)) none), [3, 7]), (yq 4 (.mov (.t 15)), [2, 0, 1, 2]), (yq 5 (.mov (.t 21)), [8, 9, 0, 1, 2, 3, 4, 5, 6, 7, 8, 9]), (yq 6 (.mov (.c (.sc (.bool true)))), [10, 0, 1, 2, 3, 4, 5, 6, 7, 8, 9, 10])])
  .ret)
  .skip)))
  (.seq (.ops [yq 22 (.mov (.t 0)), yq 4 (.mov (.t 22)), yq 5 (.mov (.c (.sc (.string ⟨#[]⟩)))), yq 6 (.mov (.c (.sc (.bool false))))])
  .ret)))
theorem K186 : yK Tryz.prog Tryz.f186 A186 23 [.mov (.t 4), .mov (.t 5), .mov (.t 6)] := ⟨by kernel_rfl, by kernel_rfl, by kernel_rfl⟩
theorem R186 (s : ByteArray) (c : UInt8) (hs : s.size ≤ 140737488351232) : Ret Tryz.prog 186 [.sc (.string s), .sc (.string ⟨#[c]⟩)] (cutRes (cutF s c)) [.un, .un] := by
  refine Ret.run Tryz.func186 K186 (by simp) rfl rfl 500 ?_
  simp [A186, iniρ]
  refine callK.ro 0 rfl (by kernel_rfl) (by simp [roc_sc]) (R182 s c) rfl rfl rfl ?_
  rcases ixB_cases c s.data.toList with ⟨e, hn⟩ | ⟨p, q, e, hn, e2⟩
  · simp [e, cutF, cutRes]
  · have hsz := str_len e.symm
    have hl : p.length + 1 ≤ s.size := by rw [hsz]; simp
    have h0 : (0 : Int) ≤ p.length := by omega
    have hw : IntKind.i64.wrap ((p.length : Int) + 1) = p.length + 1 := wrap_i64 (by omega) (by omega)
    have h1 : (0 : Int) ≤ (p.length : Int) + 1 := by omega
    have h2 : ((p.length : Int) + 1).toNat = p.length + 1 := by omega
    have h3 : p.length ≤ s.size := by omega
    have hc : (⟨#[c]⟩ : ByteArray).size = 1 := rfl
    simp [e2, h0]
    refine T.text 400 mixed (by kernel_rfl) (by kernel_rfl) ?_
    simp [e2, h0, h1, h2, h3, hw, hl, hc, cutF, cutRes]
def A167 : AC := (.seq (.ops [yq 4 (.mov (.c (.sc (.string ⟨#[]⟩)))), yq 5 (.mov (.c (.sc (.string ⟨#[]⟩)))), yq 6 (.mov (.c (.sc (.bool false))))])
  (.seq (.ops [yq 7 (.mov (.t 0)), yq 8 (.mov (.t 1)), yc 9 186 [.t 7, .t 8], yq 10 (.ext (.t 9) 0), yq 11 (.ext (.t 9) 1), yq 12 (.ext (.t 9) 2), yq 4 (.mov (.t 10)), yq 5 (.mov (.t 11)), yq 6 (.mov (.t 12))])
  .ret))
theorem K167 : yK Tryz.prog Tryz.f167 A167 13 [.mov (.t 4), .mov (.t 5), .mov (.t 6)] := ⟨by kernel_rfl, by kernel_rfl, by kernel_rfl⟩
theorem R167 (s : ByteArray) (c : UInt8) (hs : s.size ≤ 140737488351232) : Ret Tryz.prog 167 [.sc (.string s), .sc (.string ⟨#[c]⟩)] (cutRes (cutF s c)) [.un, .un] := by
  refine Ret.run Tryz.func167 K167 (by simp) rfl rfl 500 ?_
  simp [A167, iniρ]
  refine callK.ro 0 rfl (by kernel_rfl) (by simp [roc_sc]) (R186 s c hs) rfl (by simp [cutRes, inst, instL, shut]; exact ⟨rfl, rfl⟩) rfl ?_
  simp [cutRes]
theorem drop_str {s : ByteArray} {f : Nat} : (s.extract f s.size).data.toList = s.data.toList.drop f := by
  rw [extract_toList, show s.size = s.data.toList.length by rw [Array.length_toList]; rfl, List.take_length]
theorem extr0 {s : ByteArray} {f m : Nat} (h : f + m ≤ s.size) : (s.extract f s.size).extract 0 m = s.extract f (f + m) := by
  rw [ByteArray.extract_extract, Nat.add_zero, Nat.min_eq_left h]
theorem extr1 {s : ByteArray} {f m n : Nat} (h : s.size ≤ f + n) : (s.extract f s.size).extract m n = s.extract (f + m) s.size := by
  rw [ByteArray.extract_extract, Nat.min_eq_right h]
theorem rows_repl (n : Nat) (x : ByteArray) : rows Ty.str.oc (List.replicate n x) = List.replicate n (.sc (.string x)) := by
  induction n with
  | zero => rfl
  | succ n ih => rw [List.replicate_succ, List.replicate_succ, rows_cons, ih]; rfl
theorem over_str (l : List ByteArray) (n : Nat) (x : ByteArray) : over (rows Ty.str.oc (l ++ List.replicate (n + 1) ⟨#[]⟩)) l.length [.sc (.string x)] = rows Ty.str.oc ((l ++ [x]) ++ List.replicate n ⟨#[]⟩) := by
  rw [rows_append, rows_append, rows_append, rows_repl, rows_repl, List.replicate_succ]
  have e : (rows Ty.str.oc l).length = l.length := by rw [rows_length Ty.str.ocn]; exact Nat.mul_one _
  show (rows Ty.str.oc l ++ AV.sc (.string ⟨#[]⟩) :: List.replicate n (AV.sc (.string ⟨#[]⟩))).set l.length (.sc (.string x)) = _
  rw [← e, List.set_append_right _ _ (Nat.le_refl _), Nat.sub_self]
  show _ = (rows Ty.str.oc l ++ [AV.sc (.string x)]) ++ _
  simp
def A134 : AC := (.seq (.ops [yq 8 (.mov (.c .em))])
  (.seq (.seq (.ops [yq 12 (.mov (.t 3)), yq 13 (.bin .eql (.t 12) (yi 0))])
  (.cond (.t 13) (.seq (.ops [yq 8 (.mov (.c .em))])
  .ret)
  .skip))
  (.seq (.seq (.ops [yq 14 (.mov (.t 1)), yq 15 (.bin .eql (.t 14) (.c (.sc (.string ⟨#[]⟩))))])
  (.cond (.t 15) (.seq (.ops [yq 16 (.mov (.t 0)), yq 17 (.mov (.t 3)), yc 18 157 [.t 16, .t 17], yq 8 (.mov (.t 18))])
  .ret)
  .skip))
  (.seq (.seq (.ops [yq 19 (.mov (.t 3)), yq 20 (.bin .lss (.t 19) (yi 0))])
  (.cond (.t 20) (.ops [yq 21 (.mov (.t 0)), yq 22 (.mov (.t 1)), yc 23 158 [.t 21, .t 22], yq 24 (.bin .add (.t 23) (yi 1)), yq 3 (.mov (.t 24))])
  .skip))
  (.seq (.ops [yq 25 (.mov (.t 3)), yq 26 (.mov (.t 0)), yq 27 (.slen (.t 26)), yq 28 (.bin .add (.t 27) (yi 1)), yq 29 (.mm true (.t 25) (.t 28)), yq 3 (.mov (.t 29))])
  (.seq (.ops [yq 30 (.mov (.t 3)), yw 31 (.mk 1 16 [(.sc (.string ⟨#[]⟩))] (.t 30) (.t 30)), yq 9 (.mov (.t 31))])
  (.seq (.ops [yq 32 (.mov (.t 3)), yq 33 (.bin .sub (.t 32) (yi 1)), yq 3 (.mov (.t 33))])
  (.seq (.ops [yq 10 (.mov (yi 0))])
  (.seq (.block 0 (.loop (.seq (.seq (.ops [yq 34 (.mov (.t 10)), yq 35 (.mov (.t 3)), yq 36 (.bin .lss (.t 34) (.t 35))])
  (.cond (.t 36) .skip
  (.exit 0)))
  (.block 1 (.seq (.ops [yq 37 (.mov (.t 0)), yq 38 (.mov (.t 1)), yc 39 159 [.t 37, .t 38], yq 11 (.mov (.t 39))])
  (.seq (.seq (.ops [yq 40 (.mov (.t 11)), yq 41 (.bin .lss (.t 40) (yi 0))])
  (.cond (.t 41) (.exit 0)
  .skip))
  (.seq (.ops [yq 42 (.mov (.t 9)), yq 43 (.mov (.t 10)), yq 44 (.mov (.t 0)), yq 45 (.mov (.t 11)), yq 46 (.mov (.t 2)), yq 47 (.bin .add (.t 45) (.t 46)), yq 48 (.subs (.t 44) none (some (.t 47))), yq 49 (.iadr 1 (.t 42) (.t 43)), yn (.store 1 (.t 49) (.t 48))])
  (.seq (.ops [yq 50 (.mov (.t 0)), yq 51 (.mov (.t 11)), yq 52 (.mov (.t 1)), yq 53 (.slen (.t 52)), yq 54 (.bin .add (.t 51) (.t 53)), yq 55 (.subs (.t 50) (some (.t 54)) none), yq 0 (.mov (.t 55))])
  (.ops [yq 56 (.mov (.t 10)), yq 57 (.bin .add (.t 56) (yi 1)), yq 10 (.mov (.t 57))])))))))))
  (.seq (.ops [yq 58 (.mov (.t 9)), yq 59 (.mov (.t 10)), yq 60 (.mov (.t 0)), yq 61 (.iadr 1 (.t 58) (.t 59)), yn (.store 1 (.t 61) (.t 60))])
  (.seq (.ops [yq 62 (.mov (.t 9)), yq 63 (.mov (.t 10)), yq 64 (.bin .add (.t 63) (yi 1)), yq 65 (.subl 1 (.t 62) none (some (.t 64))), yq 8 (.mov (.t 65))])
  .ret)))))))))))
theorem K134 : yK Tryz.prog Tryz.f134 A134 66 [.mov (.t 8)] := ⟨by kernel_rfl, by kernel_rfl, by kernel_rfl⟩
set_option maxHeartbeats 1000000 in
theorem R134 (s : ByteArray) (c : UInt8) (hs : s.size ≤ 1048576) : Ret Tryz.prog 134 [.sc (.string s), .sc (.string ⟨#[c]⟩), .sc (.int .i64 0), .sc (.int .i64 (-1))] (.own (rows Ty.str.oc (splitS s c.toNat)) (splitS s c.toNat).length 1) [.un, .un, .un, .un] := by
  obtain ⟨N, hN⟩ : ∃ N, N = s.data.toList.count c := ⟨_, rfl⟩
  have hlen : (splitS s c.toNat).length = N + 1 := by rw [hN]; exact splitP_cnt s c s.data.toList 0 0
  have hNs : N ≤ s.size := by rw [hN, show s.size = s.data.toList.length by rw [Array.length_toList]; rfl]; exact List.count_le_length
  have hC := R158 s c
  rw [show Lib.countByte s.data.toList c = N from hN.symm] at hC
  have hcc : (⟨#[c]⟩ : ByteArray).size = 1 := rfl
  have hne : ¬ ((⟨#[c]⟩ : ByteArray).toList = []) := by rw [Lib.toList_data]; simp
  have w1 : IntKind.i64.wrap ((N : Int) + 1) = N + 1 := wrap_i64 (by omega) (by omega)
  have w2 : IntKind.i64.wrap ((s.size : Int) + 1) = s.size + 1 := wrap_i64 (by omega) (by omega)
  have w3 : IntKind.i64.wrap ((N : Int) + 1 - 1) = N := by rw [show (N : Int) + 1 - 1 = N by omega]; exact wrap_i64 (by omega) (by omega)
  have hmin : min ((N : Int) + 1) (s.size + 1) = N + 1 := by omega
  refine Ret.run Tryz.func134 K134 (by simp) rfl rfl 900 ?_
  simp [A134, iniρ, hne]
  refine callK.ro 0 rfl (by kernel_rfl) (by simp [roc_sc]) hC rfl rfl rfl ?_
  have n1 : ¬ (s.size < N) := by omega
  have n2 : (0 : Int) ≤ (N : Int) + 1 := by omega
  have n3 : ((N : Int) + 1) * 16 ≤ 281474976710656 := by omega
  have n4 : (N : Int) + 1 ≤ 9223372036854775807 := by omega
  have n5 : ((N : Int) + 1).toNat = N + 1 := by omega
  have w0 : IntKind.i64.wrap (N : Int) = N := wrap_i64 (by omega) (by omega)
  simp [w1, w2, w3, n1, n2, n3, n4, n5]
  refine T.rounds (μ := fun i : List ByteArray × Nat × List UInt8 => i.2.2.length)
    (fun i t => i.2.1 ≤ s.size ∧ i.2.2 = s.data.toList.drop i.2.1 ∧ i.1 ++ splitP s c.toNat i.2.1 i.2.1 i.2.2 = splitS s c.toNat ∧ t.ρ 0 = .sc (.string (s.extract i.2.1 s.size)) ∧ t.ρ 1 = .sc (.string ⟨#[c]⟩) ∧ t.ρ 2 = .sc (.int .i64 0) ∧ t.ρ 3 = .sc (.int .i64 N) ∧ t.ρ 9 = .sl 31 0 (N + 1) 1 false ∧ t.ρ 10 = .sc (.int .i64 i.1.length) ∧
      t.h 31 = some (some (rows Ty.str.oc (i.1 ++ List.replicate (N + 1 - i.1.length) ⟨#[]⟩))) ∧ t.n = 66) ([], 0, s.data.toList) (by simp [upd_app, splitS, rows_repl, w0]) ?_
  rintro ⟨done, f, l⟩ ⟨ρ, hh, n⟩ ⟨hf, hl, hE, k0, k1, k2, k3, k9, k10, k31, rfl⟩
  simp only at hf hl hE k0 k1 k2 k3 k9 k10 k31
  have hn2 := congrArg List.length hE
  rw [List.length_append, splitP_cnt, hlen] at hn2
  refine run_ok (n := 400) ?_
  have lt1 : (done.length : Int) ≤ N := by omega
  have hI := R159 (s.extract f s.size) c
  rw [drop_str, ← hl] at hI
  have fsz : (s.extract f s.size).size = s.size - f := by rw [ByteArray.size_extract]; omega
  have hlsz : l.length = s.size - f := by rw [hl, List.length_drop]; rfl
  by_cases hlt : done.length < N
  case neg =>
    obtain rfl : done.length = N := by omega
    have hcn : c ∉ l := fun hm => by have := List.count_pos_iff.2 hm; omega
    rw [splitP_miss s c f l f hcn] at hE
    have e2 : f + l.length = s.size := by omega
    rw [e2] at hE
    have hov := over_str done 0 (s.extract f s.size)
    rw [List.replicate_zero, List.append_nil, hE] at hov
    rw [show done.length + 1 - done.length = 0 + 1 by omega] at k31
    have hrl : (rows Ty.str.oc (done ++ List.replicate (0 + 1) (⟨#[]⟩ : ByteArray))).length = done.length + 1 := by rw [rows_length Ty.str.ocn]; simp; exact Nat.mul_one _
    have hrs : (rows Ty.str.oc (splitS s c.toNat)).length = done.length + 1 := by rw [rows_length Ty.str.ocn, hlen]; exact Nat.mul_one _
    have hid : idfree.idfreeL (rows Ty.str.oc (splitS s c.toNat)) = true := Ty.str.frL _
    obtain ⟨R, hR⟩ : ∃ R, R = rows Ty.str.oc (done ++ List.replicate (0 + 1) (⟨#[]⟩ : ByteArray)) := ⟨_, rfl⟩
    rw [← hR] at k31 hov hrl
    have lt3 : (done.length : Int) < done.length + 1 := by omega
    have w5 : IntKind.i64.wrap ((done.length : Int) + 1) = done.length + 1 := w1
    simp [k3, k10]
    refine T.on 400 ?_
    simp [k0, k9, k10, k31, lt3, hrl, hov, w5, n2, n5, ex1, hrs, hid, hlen]
  rcases ixB_cases c l with ⟨e, hn⟩ | ⟨p, q, e, hn, e2⟩
  · have : l.count c = 0 := List.count_eq_zero.2 hn
    omega
  have hsz2 : p.length + (q.length + 1) = s.size - f := by rw [← hlsz, e]; simp
  have lt2 : (done.length : Int) < N := by omega
  have hov := over_str done (N - done.length) (s.extract f (f + p.length))
  rw [show N - done.length + 1 = N + 1 - done.length by omega, show N - done.length = N + 1 - (done.length + 1) by omega] at hov
  have hrl : (rows Ty.str.oc (done ++ List.replicate (N + 1 - done.length) (⟨#[]⟩ : ByteArray))).length = N + 1 := by rw [rows_length Ty.str.ocn]; simp; show _ * 1 = _; omega
  obtain ⟨R, hR⟩ : ∃ R, R = rows Ty.str.oc (done ++ List.replicate (N + 1 - done.length) (⟨#[]⟩ : ByteArray)) := ⟨_, rfl⟩
  rw [← hR] at k31 hov hrl
  have x0 := extr0 (s := s) (f := f) (m := p.length) (by omega)
  have x1 := extr1 (s := s) (f := f) (m := p.length + 1) (n := s.size - f) (by omega)
  have wp : IntKind.i64.wrap (p.length : Int) = p.length := wrap_i64 (by omega) (by omega)
  have wp1 : IntKind.i64.wrap ((p.length : Int) + 1) = p.length + 1 := wrap_i64 (by omega) (by omega)
  have wd1 : IntKind.i64.wrap ((done.length : Int) + 1) = done.length + 1 := wrap_i64 (by omega) (by omega)
  have q0 : ¬ ((p.length : Int) < 0) := by omega
  have q1 : (0 : Int) ≤ (p.length : Int) + 1 := by omega
  have q2 : ((p.length : Int) + 1).toNat = p.length + 1 := by omega
  have q3 : p.length ≤ s.size - f := by omega
  have q4 : p.length + 1 ≤ s.size - f := by omega
  have q5 : (done.length : Int) < N + 1 := by omega
  have q6 : done.length + 1 ≤ N + 1 := by omega
  rw [e2] at hI
  simp [k0, k1, k3, k10, lt2]
  refine callK.ro 0 rfl (by kernel_rfl) (by simp [roc_sc]) hI rfl rfl rfl ?_
  simp [k0, k1, k2, k9, k10, k31, lt2, q0, q1, q2, q3, q4, q5, q6, wp, wp1, wd1, fsz, hcc, hrl, hov, x0, x1]
  have hq : q = s.data.toList.drop (f + p.length + 1) := by
    have h := congrArg (List.drop (p.length + 1)) (hl.symm.trans e)
    rw [List.drop_drop, show p.length + 1 = (p ++ [c]).length by simp, show p ++ c :: q = (p ++ [c]) ++ q by simp, List.drop_left] at h
    rw [← h]; simp; congr 1
  refine ⟨done ++ [s.extract f (f + p.length)], f + p.length + 1, q, by rw [e]; simp; omega, _, Le.refl _, by omega, hq, ?_, ?_⟩
  · rw [e, splitP_hit s c f q p f hn] at hE
    rw [← hE]; simp
  · simp [upd_app, k0, k1, k2, k3, k9, show f + (p.length + 1) = f + p.length + 1 by omega]
def A98 : AC := (.seq (.ops [yq 4 (.mov (.c .em))])
  (.seq (.ops [yq 5 (.mov (.t 0)), yq 6 (.mov (.t 1)), yc 7 134 [.t 5, .t 6, yi 0, (yi (-1))], yq 4 (.mov (.t 7))])
  .ret))
theorem K98 : yK Tryz.prog Tryz.f98 A98 8 [.mov (.t 4)] := ⟨by kernel_rfl, by kernel_rfl, by kernel_rfl⟩
theorem R98 (s : ByteArray) (c : UInt8) (hs : s.size ≤ 1048576) : Ret Tryz.prog 98 [.sc (.string s), .sc (.string ⟨#[c]⟩)] (.own (rows Ty.str.oc (splitS s c.toNat)) (splitS s c.toNat).length 1) [.un, .un] := by
  have hl : (rows Ty.str.oc (splitS s c.toNat)).length = (splitS s c.toNat).length := by rw [rows_length Ty.str.ocn]; exact Nat.mul_one _
  have hid : idfree.idfreeL (rows Ty.str.oc (splitS s c.toNat)) = true := Ty.str.frL _
  refine Ret.run Tryz.func98 K98 (by simp) rfl rfl 500 ?_
  simp [A98, iniρ]
  refine callK.own 7 rfl (by kernel_rfl) (by simp [roc_sc]) (R134 s c hs) (Ty.str.flo _) (by simp) rfl ?_
  simp [ex1, hl, hid]
theorem R133 (xs ys : List ByteArray) (hb : xs.length < 4611686018427387904) : Ret Tryz.prog 133 [.ro (rows Ty.str.cs xs) xs.length, .ro (rows Ty.str.cs ys) ys.length] (.sc (.bool (eqBy strEq xs ys))) [.un, .un] := Ret.sameStr mixed Tryz.func133 ⟨by kernel_rfl, by kernel_rfl, by kernel_rfl⟩ xs ys hb
theorem R87 (xs ys : List ByteArray) (hb : xs.length < 4611686018427387904) : Ret Tryz.prog 87 [.ro (rows Ty.str.cs xs) xs.length, .ro (rows Ty.str.cs ys) ys.length] (.sc (.bool (eqBy strEq xs ys))) [.un, .un] := Ret.equalStr mixed Tryz.func87 ⟨by kernel_rfl, by kernel_rfl, by kernel_rfl⟩ xs ys hb
structure FlP where
  v : Bool
end Go.Proofs.YtiejaibmcmicoaaGreatDoor.Am
namespace Go.Proofs.YtiejaibmcmicoaaGreatDoor.Am
open Go Go.Proofs
set_option linter.unusedSimpArgs false
set_option linter.unusedVariables false
attribute [local congr] T_congr callK_congr callWK_congr
attribute [local simp] run_nil run_op0 run_opg run_seq run_cond run_block run_ret run_skip run_skip_after run_skip_blk run_exit run_exit_after run_exit_blk run_loop run_any runS_nil runS_op0 runS_opg runW_nil runW_op0 runW_opg exec_q exec_w exec_c exec_n execW_q execW_w execW_c restW_app hideH_app merge_app wblk rest_app restS_app execS_q execS_c aval dOk upd_app ev_t ev_c setO_some setO_none put_mk pinsOf isIo hasIo sbin endR fin resL one outL out1 clo1 cloL coe coeL shut shut.shutL wantA weff cellsOf fillA deref natOf ρ0_app h0_app plain plain.plainL keep_app keepH_app andThen_normal andThen_ret andThen_exit pop_nil pop_after pop_after_ret pop_after_exit pop_blk pop_blk_ret pop_blk_exit nilA srcOf srcCells keepR_app keepHR_app renA rb toldρ toldH toldT toldB menQ_sc menQ_sl menQ_ref menQ_em menQ_un menQ_roT mens_cons mens_nil toldF merge_nil hideH_nil str_n rows_nil rowsS_len rowsC_len rowsC_fr rowsS_fr Rd_mk Rl_mk menB exQ_exit exQ_ret wrap_i64 bs_size bs_list bs_toList bs_get bs_extract mk_bs bs_eta List.getElem?_cons_zero List.getElem?_cons_succ List.length_cons oLt oNlt oLe oNle nLt nNlt nLe nNle iniρ andThen_normal over
set_option maxRecDepth 100000
theorem R207 (s p : List UInt8) : Ret Tryz.prog 207 [.sc (.string (bs s)), .sc (.string (bs p))] (.sc (.bool (Lib.hasPrefix s p))) [.un, .un] := by
  refine Ret.go Tryz.func207 ?_
  by_cases h : p.length ≤ s.length
  · have e : Lib.hasPrefix s p = (s.take p.length == p) := by
      unfold Lib.hasPrefix
      rw [Bool.eq_iff_iff, List.isPrefixOf_iff_prefix, List.prefix_iff_eq_take, beq_iff_eq, eq_comm]
    simp (disch := omega) [h, e]
  · have e : Lib.hasPrefix s p = false := by
      rw [Bool.eq_false_iff]
      intro h2
      exact h (List.isPrefixOf_iff_prefix.1 h2).length_le
    simp (disch := omega) [h, e]
theorem R189 (s p : List UInt8) : Ret Tryz.prog 189 [.sc (.string (bs s)), .sc (.string (bs p))] (.tup [.sc (.string (bs (Lib.trimPrefix s p))), .sc (.bool (Lib.hasPrefix s p))]) [.un, .un] := by
  refine Ret.go Tryz.func189 ?_
  simp
  refine cR (R207 s p) ?_
  cases h : Lib.hasPrefix s p
  · simp [Lib.trimPrefix, h]
  · have := (List.isPrefixOf_iff_prefix.1 h).length_le
    simp (disch := omega) [Lib.trimPrefix, h]
theorem R170 (s p : List UInt8) : Ret Tryz.prog 170 [.sc (.string (bs s)), .sc (.string (bs p))] (.tup [.sc (.string (bs (Lib.trimPrefix s p))), .sc (.bool (Lib.hasPrefix s p))]) [.un, .un] := by
  refine Ret.go Tryz.func170 ?_
  simp
  refine cR (R189 s p) ?_
  simp
set_option maxRecDepth 100000
set_option maxRecDepth 100000
theorem rowsC_drop (l : List ByteArray) (i : Nat) : (rows Ty.str.cs l).drop i = rows Ty.str.cs (l.drop i) := by
  induction l generalizing i with
  | nil => simp [rows]
  | cons x l ih =>
    cases i with
    | zero => rfl
    | succ i => rw [rows_cons]; exact ih i
theorem rowsC_cons (x : ByteArray) (l : List ByteArray) : rows Ty.str.cs (x :: l) = .sc (.string x) :: rows Ty.str.cs l := rfl
theorem drop_pre {α : Type} {pre rest : List α} : (pre ++ rest).drop pre.length = rest := List.drop_left
set_option maxRecDepth 100000
theorem Cur.leq (c d : Cur) : d.cs.length = c.cs.length := rfl
theorem Cur.frl (c : Cur) : idfree.idfreeL c.cs = true := rfl
section
variable {P : Program} {p : List Nat} {fx a l : AX} {ax : List AX} {dst : Option Nat} {st st3 : St} {K : St → Prop} {f : FuncId} {len sz : Nat} {c c' : Cur} {vs cs2 : List AV} {ret y : AV} {v : Value} {E A : List Nat}
theorem cB (d : Nat) {b : Nat} (hR : Ret P f (.bx c.cs :: vs) ret (.bx c'.cs :: vs.map fun _ => .un)) (hK : K (st3.setO dst y)) (ha : a.ev st.ρ = .ref b 0 := by simp <;> rfl) (hb : st.h b = some (some c.cs) := by simp) (has : ax.map (·.ev st.ρ) = vs := by simp)
    (hvs : ∀ v ∈ vs, shut v = true := by simp [shut]) (hi : inst 64 d ret (st.put b (some c'.cs)) = some (y, st3) := by rfl) (hf : fx.ev st.ρ = .clo f [] := by rfl) (hc : callB P f = true := by kernel_rfl) (hd : dOk p dst st3.n = true := by rfl) : callK P p fx (a :: ax) dst st K :=
  callK.bx d hf hc ha hb (Cur.frl c) has hvs hR (Cur.leq c c') hi hd hK
theorem cL (b2 : Nat) {b : Nat} (hR : Ret P f [.bx c.cs, .own cs2 len sz] (.sc v) [.bx c'.cs, .un]) (hK : K ((((st.put b none).put b2 none).put b (some c'.cs)).setO dst (.sc v))) (ha : a.ev st.ρ = .ref b 0 := by simp <;> rfl) (hb : st.h b = some (some c.cs) := by simp) (hl : l.ev st.ρ = .sl b2 0 len sz false := by simp <;> rfl)
    (hb2 : st.h b2 = some (some cs2) := by simp <;> rfl) (hl2 : cs2.length = len * sz := by rfl) (hid2 : idfree.idfreeL cs2 = true := by rfl) (hne : b2 ≠ b := by decide) (hf : fx.ev st.ρ = .clo f [] := by rfl) (hc : callB P f = true := by kernel_rfl) (hd : dOk p dst st.n = true := by rfl) : callK P p fx [a, l] dst st K :=
  callK.bm b b2 hf hc ha hb (Cur.frl c) hl hb2 hl2 hid2 hne hR (Cur.leq c c') hd hK
end
theorem Ty.dropO {α : Type} (t : Ty α) (l : List α) (i : Nat) : (rows t.oc l).drop (i * t.n) = rows t.oc (l.drop i) := by
  by_cases h : i ≤ l.length
  · have k := rows_drop t.ocn (l.take i) (l.drop i)
    rwa [List.take_append_drop, List.length_take, Nat.min_eq_left h] at k
  · rw [List.drop_eq_nil_of_le (by rw [rows_length t.ocn]; exact Nat.mul_le_mul_right _ (by omega)), show l.drop i = [] from List.drop_eq_nil_of_le (by omega)]; rfl
theorem Ty.takeO {α : Type} (t : Ty α) (l : List α) (i : Nat) : (rows t.oc l).take (i * t.n) = rows t.oc (l.take i) := by
  by_cases h : i ≤ l.length
  · conv => lhs; rw [← List.take_append_drop i l, rows_append]
    have : (rows t.oc (l.take i)).length = i * t.n := by rw [rows_length t.ocn, List.length_take, Nat.min_eq_left h]
    rw [← this, List.take_left]
  · rw [List.take_of_length_le (by rw [rows_length t.ocn]; exact Nat.mul_le_mul_right _ (by omega)), List.take_of_length_le (l := l) (by omega)]
def nQ (n : Nat) (ts : List (Nat × AV)) (bs : List (Nat × List AV)) : AE → St → Prop := fun e s => e = .normal ∧ Tl n ts bs s
theorem nQ_normal {n : Nat} {ts : List (Nat × AV)} {bs : List (Nat × List AV)} {s : St} : nQ n ts bs .normal s = Tl n ts bs s := by simp [nQ]
theorem T.cutN {P : Program} {p : List Nat} {x y : AC} {st : St} {Q : AE → St → Prop} {k : List KI} (ts : List (Nat × AV)) (bs : List (Nat × List AV))
    (h1 : T P p x st (pop P p [] (nQ st.n ts bs))) (h2 : Am.run P p 2000 y k Q ⟨toldρ ts, toldH bs, st.n⟩) : T P p x st (pop P p (.after y :: k) Q) := by
  refine T.mono h1 fun e s he => ?_
  rw [pop_nil] at he
  obtain ⟨rfl, he⟩ := he
  rw [pop_after]
  exact T.le he (run_at h2)
theorem Ty.plC {α : Type} (t : Ty α) (l : List α) : plain.plainL (rows t.cs l) = true := shutL_plain (rows_all t.sh l)
theorem rowsS_snoc (l : List ByteArray) (x : ByteArray) : rows Ty.str.oc (l ++ [x]) = rows Ty.str.oc l ++ [.sc (.string x)] := by rw [rows_append]; rfl
def kpR (r : List (Nat × Nat)) (cs0 cs : List AV) : Prop := cs0.map (renA r) = cs ∧ ∀ x ∈ cs0, menB (r.map (·.1)) x = true
def toldN (r : List (Nat × Nat)) (h : Hp) : List (Nat × List AV) → Prop
  | [] => True
  | (b, cs) :: l => (∃ p cs0, r.find? (fun q => q.2 == b) = some p ∧ h p.1 = some (some cs0) ∧ kpR r cs0 cs) ∧ toldN r h l
theorem renA_idf {r : List (Nat × Nat)} {x : AV} (h : idfree x = true) : renA r x = x ∧ menB (r.map (·.1)) x = true := by cases x <;> first | exact ⟨rfl, h⟩ | (simp [idfree] at h)
theorem kpR_idf {r : List (Nat × Nat)} {cs : List AV} (h : idfree.idfreeL cs = true) : kpR r cs cs = True := eq_true ⟨by
  have key : ∀ l : List AV, (∀ x ∈ l, idfree x = true) → l.map (renA r) = l := by
    intro l
    induction l with
    | nil => intro _; rfl
    | cons x l ih => intro h; rw [List.map_cons, (renA_idf (h x (by simp))).1, ih fun y hy => h y (by simp [hy])]
  exact key cs (idfreeL_mem h), fun x hx => (renA_idf (idfreeL_mem h x hx)).2⟩
theorem kpR_nil {r : List (Nat × Nat)} : kpR r [] [] = True := eq_true ⟨rfl, fun x hx => by cases hx⟩
theorem kpR_cons {r : List (Nat × Nat)} {x y : AV} {cs0 cs : List AV} : kpR r (x :: cs0) (y :: cs) = (renA r x = y ∧ menB (r.map (·.1)) x = true ∧ kpR r cs0 cs) := by
  refine propext ⟨fun ⟨h1, h2⟩ => ?_, fun ⟨h1, h2, h3, h4⟩ => ⟨by rw [List.map_cons, h1, h3], fun z hz => ?_⟩⟩
  · rw [List.map_cons, List.cons.injEq] at h1
    exact ⟨h1.1, h2 x (by simp), h1.2, fun z hz => h2 z (by simp [hz])⟩
  · rcases List.mem_cons.1 hz with rfl | hz
    · exact h2
    · exact h4 z hz
theorem kpR_app {r : List (Nat × Nat)} {a b c : List AV} (h : idfree.idfreeL a = true) : kpR r (a ++ b) (a ++ c) = kpR r b c := by
  have k := (kpR_idf (r := r) h).symm ▸ trivial
  obtain ⟨k1, k2⟩ : kpR r a a := k
  refine propext ⟨fun ⟨h1, h2⟩ => ⟨?_, fun x hx => h2 x (by simp [hx])⟩, fun ⟨h1, h2⟩ => ⟨by rw [List.map_append, k1, h1], fun x hx => (List.mem_append.1 hx).elim (k2 x) (h2 x)⟩⟩
  rw [List.map_append, k1] at h1
  exact List.append_cancel_left h1
attribute [simp] toldN kpR_nil kpR_cons kpR_idf kpR_app
theorem takeS (l : List ByteArray) : List.take l.length (rows Ty.str.oc l) = rows Ty.str.oc l := List.take_of_length_le (Nat.le_of_eq (rowsS_len l))
theorem plS (l : List ByteArray) : plain.plainL (rows Ty.str.oc l) = true := Ty.plC Ty.str l
attribute [simp] takeS plS
theorem Le.layS {st : St} (b j i sz : Nat) {cs : List AV} (hb : st.h b = some (some cs)) (hj : cs[j]? = some .em) (hi : st.h i = none) : Le st ⟨st.ρ, upd (upd st.h i (some (some []))) b (some (some (cs.set j (.sl i 0 0 sz false)))), st.n⟩ := by
  have hjl : j < cs.length := (List.getElem?_eq_some_iff.1 hj).1
  have hne : i ≠ b := fun e => by rw [e, hb] at hi; cases hi
  have h1 := Le.layC (st := st) b j sz hb hj
  have h2 := Le.open (st := ⟨st.ρ, upd (upd st.h b (some none)) b (some (some (cs.set j (.own [] 0 sz)))), st.n⟩) b j i (len := 0) (sz := sz) (cs' := []) (upd_same _ _ _) (List.getElem?_set_self hjl) (by simp only []; rw [upd_ne _ _ hne, upd_ne _ _ hne, hi]) rfl
  have h3 := Le.trans h1 h2
  have e : upd (upd (upd (upd (upd st.h b (some none)) b (some (some (cs.set j (.own [] 0 sz))))) b (some none)) i (some (some []))) b (some (some ((cs.set j (.own [] 0 sz)).set j (.sl i 0 0 sz false)))) = upd (upd st.h i (some (some []))) b (some (some (cs.set j (.sl i 0 0 sz false)))) := by
    funext c
    by_cases hcb : c = b
    · subst hcb; rw [upd_same, upd_same, List.set_set]
    · rw [upd_ne _ _ hcb, upd_ne _ _ hcb]
      by_cases hci : c = i
      · subst hci; rw [upd_same, upd_same]
      · rw [upd_ne _ _ hci, upd_ne _ _ hci, upd_ne _ _ hcb, upd_ne _ _ hcb, upd_ne _ _ hcb]
  simp only at h3
  rw [e] at h3
  exact h3
theorem roc_ag {h : Hp} {k : Nat} {cs : List AV} (hs : shut.shutL cs = false) : roc h (k + 1) (.agg cs) = (cs.mapM (roc h k)).map .agg := by
  show (if shut (.agg cs) = true then _ else _) = _
  rw [if_neg (by show ¬ shut.shutL cs = true; rw [hs]; decide)]
theorem rocS7 {h : Hp} {b : Nat} {xs : List ByteArray} {lim : Bool} (hb : h b = some (some (rows Ty.str.oc xs))) : roc h 7 (.sl b 0 xs.length 1 lim) = some (.ro (rows Ty.str.cs xs) xs.length) := Ty.str.roc7 (by decide) hb
theorem T.cutLT {P : Program} {p : List Nat} {x y : AC} {st : St} {Q : AE → St → Prop} {k : List KI} {i : Nat} (ts : List (Nat × AV)) (bs : List (Nat × List AV))
    (h1 : T P p (.loop x) st (exQ P p i st.n ts bs k Q)) (h2 : T P p y ⟨toldρ ts, toldH bs, st.n⟩ (pop P p k Q)) : T P p (.loop x) st (pop P p (.blk i :: .after y :: k) Q) := by
  refine T.mono h1 fun e s he => ?_
  cases e with
  | normal => exact he.elim
  | exit j =>
    rw [exQ_exit] at he
    rw [pop_blk_exit]
    split
    · rename_i e
      rw [if_pos e] at he
      rw [pop_after]
      exact T.le he h2
    · rename_i e
      rw [if_neg e] at he
      rw [pop_after_exit]
      exact he
  | ret =>
    rw [pop_blk_ret, pop_after_ret]
    exact he
theorem T.seq1 {P : Program} {p : List Nat} {x y : AC} {st : St} {Q : AE → St → Prop} {k : List KI} (h : T P p x st (pop P p (.after y :: k) Q)) : T P p (.seq x y) st (pop P p k Q) :=
  T.seq h
def iterN {β : Type} (f : Cur → β → β × Cur) : Nat → Cur → β → β × Cur
  | 0, c, l => (l, c)
  | n + 1, c, l => iterN f n (f c l).2 (f c l).1
theorem iterN_ok {β : Type} {f : Cur → β → β × Cur} (I : β → Prop) (hf : ∀ c l, c.ok → I l → (f c l).2.ok ∧ I (f c l).1) : ∀ (n : Nat) (c : Cur) (l : β), c.ok → I l → (iterN f n c l).2.ok ∧ I (iterN f n c l).1
  | 0, c, l, h1, h2 => ⟨h1, h2⟩
  | n + 1, c, l, h1, h2 => by
    obtain ⟨k1, k2⟩ := hf c l h1 h2
    exact iterN_ok I hf n _ _ k1 k2
def addN {α : Type} (f : Cur → α × Cur) (c : Cur) (l : List α) : List α × Cur := (l ++ [(f c).1], (f c).2)
theorem addN_len {α : Type} (f : Cur → α × Cur) : ∀ (n : Nat) (c : Cur) (l : List α), (iterN (addN f) n c l).1.length = l.length + n
  | 0, c, l => rfl
  | n + 1, c, l => by
    rw [iterN, addN_len f n]
    simp [addN]; omega
theorem pickS_in {l : List ByteArray} {n : Nat} (h : 0 < n) (hl : l.length = n) (hn : n ≤ 256) (c : Cur) : pickS l c n ∈ l := by
  obtain ⟨q1, q2⟩ := belowV_rng c (n := n) (by omega)
  unfold pickS
  rw [List.getElem?_eq_getElem (by omega)]
  exact List.getElem_mem _
def nat4 (c : Cur) (n : Int) : Nat := (belowV c n).toNat
theorem nat4_eq (c : Cur) {n : Int} (h : 0 < n) : belowV c n = nat4 c n ∧ (nat4 c n : Int) < n := by
  obtain ⟨q1, q2⟩ := belowV_rng c h
  unfold nat4
  omega
set_option maxRecDepth 100000
theorem nodup_flat {Fs : List (List Nat)} {i : Nat} {F : List Nat} (hi : Fs[i]? = some F) (h : Fs.flatten.Nodup) : (Fs.set i []).flatten.Nodup ∧ (∀ g ∈ (Fs.set i []).flatten, g ∈ Fs.flatten ∧ g ∉ F) ∧ ∀ g ∈ F, g ∈ Fs.flatten := by
  induction Fs generalizing i with
  | nil => simp at hi
  | cons G Fs ih =>
    rw [List.flatten_cons, List.nodup_append] at h
    obtain ⟨h1, h2, h3⟩ := h
    cases i with
    | zero =>
      simp at hi
      subst hi
      simp only [List.set_cons_zero, List.flatten_cons, List.nil_append]
      exact ⟨h2, fun g hg => ⟨by simp [hg], fun hF => h3 g hF g hg rfl⟩, fun g hg => by simp [hg]⟩
    | succ i =>
      obtain ⟨k1, k2, k3⟩ := ih (by simpa using hi) h2
      simp only [List.set_cons_succ, List.flatten_cons]
      refine ⟨List.nodup_append.2 ⟨h1, k1, fun a ha b hb => h3 a ha b (k2 b hb).1⟩, fun g hg => ?_, fun g hg => by simp [k3 g hg]⟩
      rcases List.mem_append.1 hg with hg | hg
      · exact ⟨by simp [hg], fun hF => h3 g hg g (k3 g hF) rfl⟩
      · exact ⟨by simp [(k2 g hg).1], (k2 g hg).2⟩
theorem Ret.thaw {P : Program} {f : FuncId} {args : List AV} {ret : AV} {outs cs : List AV} {n sz : Nat} (i : Nat) (hR : Ret P f (args.set i (.ro cs n)) ret outs) (hi : args[i]? = some (.own cs n sz) := by rfl) (hs : shut.shutL cs = true := by rfl) : Ret P f args ret outs := by
  intro M w vs Fs ⟨v1, v2, v3⟩ hnd hF hM hT
  have hil : i < args.length := (List.getElem?_eq_some_iff.1 hi).1
  obtain ⟨v, hv⟩ : ∃ v, vs[i]? = some v := ⟨vs[i], List.getElem?_eq_getElem (by omega)⟩
  obtain ⟨F, hFi⟩ : ∃ F, Fs[i]? = some F := ⟨Fs[i], List.getElem?_eq_getElem (by omega)⟩
  obtain ⟨f1, f2, f3⟩ := nodup_flat hFi hnd
  have hvi := v3 i _ v F hi hv hFi
  have key : V nof (fun g => M g ∨ g ∈ F) w (.ro cs n) v [] := by
    refine .imm _ _ ?_
    cases hvi with
    | imm _ _ h => cases h
    | own _ _ _ g o c C us Gs h1 h2 hb hl hsz hr hc ho h =>
      refine .ro cs n _ c us hl (fun _ => ⟨g, o, rfl⟩) h1 (fun j u hj => ⟨g, o, rfl, .inr (by simp), ?_⟩) ho fun j x u a b => ?_
      · rw [hb.cell]; exact hc j u hj
      · have hj : j < Gs.length := by
          have := (List.getElem?_eq_some_iff.1 a).1
          omega
        exact ((h j x u Gs[j] a b (List.getElem?_eq_getElem hj)).toW (shutL_mem hs x (List.mem_of_getElem? a))).mono (fun g h => .inl h) fun _ _ => rfl
    | ownnil _ A => exact .ro [] 0 A 0 [] (Nat.le_refl _) (fun h => by omega) rfl (fun j u hj => by simp at hj) (fun u hu => by simp at hu) fun j x u a => by simp at a
  refine (hR (fun g => M g ∨ g ∈ F) w vs (Fs.set i []) ⟨by simpa using v1, by simpa using v2, fun j x u G a b c => ?_⟩ f1 (fun g hg => ⟨fun h => h.elim (hF g (f2 g hg).1).1 (f2 g hg).2, (hF g (f2 g hg).1).2⟩) (fun g hg => hg.elim (hM g) fun h => (hF g (f3 g h)).2) (⟨fun x hx => ⟨.inl (hT.1 x hx).1, (hT.1 x hx).2⟩, fun x hx => ⟨.inl (hT.2 x hx).1, (hT.2 x hx).2⟩⟩)).mono ?_
  · by_cases e : i = j
    · subst e
      rw [List.getElem?_set_self hil] at a
      rw [List.getElem?_set_self (by omega)] at c
      cases a; cases c
      rw [hv] at b; cases b
      exact key
    · rw [List.getElem?_set_ne e] at a c
      exact (v3 j x u G a b c).mono (fun _ _ h => h) (fun g h => .inl h) fun _ _ => rfl
  · rintro e w' ⟨v, M', Fr, Gs, h1, h2, h3, h4, L⟩
    refine ⟨v, M', Fr, Gs, h1, h2, h3, h4, L.nodup, fun g hg => ?_, fun g hg => L.m g (.inl hg), fun g hg => ?_, L.low, L.os, L.tape, L.output, L.grown, fun g h hn => L.frame g h fun hg => hn (f2 g hg).1, L.keep⟩
    · obtain ⟨a, b, c⟩ := L.own g hg
      exact ⟨a, b, c.imp (fun h => (f2 g h).1) id⟩
    · rcases L.m' g hg with (h | h) | h | h
      · exact .inl h
      · exact .inr (.inl (f3 g h))
      · exact .inr (.inl (f2 g h).1)
      · exact .inr (.inr h)
section
variable {P : Program} {p : List Nat} {fx a l : AX} {ax : List AX} {dst : Option Nat} {st st3 : St} {K : St → Prop} {f : FuncId} {len sz : Nat} {c c' : Cur} {vs cs2 : List AV} {ret y : AV}
end
set_option maxRecDepth 100000
def noH : Hp := fun _ => none
def noS : St := ⟨fun _ => .un, noH, 0⟩
theorem noH_ok {φ : Nat → Option Loc} {M M' : Nat → Prop} {w : Go.World} (hM : ∀ g, M g → M' g) : ∀ (k : Nat) (x : AV) (v : Value) (F : List Nat) (y : AV), V φ M w x v F → roc noH k x = some y → (∀ g ∈ F, M' g) → W M' w y v := by
  have hsh : ∀ (x : AV) (v : Value) (F : List Nat), V φ M w x v F → shut x = true → W M' w x v := fun x v F h hs => (h.toW hs).mono hM fun _ _ => rfl
  intro k
  induction k with
  | zero =>
    intro x v F y h hy _
    simp only [roc] at hy
    split at hy <;> cases hy
    rename_i hs
    exact hsh _ _ _ h hs
  | succ k ih =>
    intro x v F y h hy hF
    simp only [roc] at hy
    split at hy
    · rename_i hs; cases hy; exact hsh _ _ _ h hs
    rename_i hns
    split at hy
    · simp [noH] at hy
    · simp [noH] at hy
    · obtain ⟨ys, hys, rfl⟩ := Option.map_eq_some_iff.1 hy
      obtain ⟨us, rfl, hc⟩ := vagg h
      have := hc.toWs (st := noS) hF hys ih
      exact .agg ys us this.1 this.2.1 this.2.2
    · rename_i f cs
      obtain ⟨ys, hys, rfl⟩ := Option.map_eq_some_iff.1 hy
      obtain ⟨e1, e2⟩ := mapM_get hys
      cases h with
      | imm _ _ h => exact absurd h.shut hns
      | clo _ _ us Fs h1 h2 h =>
        refine .clo f ys us (by omega) fun j y u hy hu => ?_
        obtain ⟨x, hx, hxy⟩ := e2 j y hy
        have hj : j < Fs.length := by rw [h2]; exact (List.getElem?_eq_some_iff.1 hx).1
        exact ih x u _ y (h j x u _ hx hu (List.getElem?_eq_getElem hj)) hxy fun g hg => hF g (mem_flatten_of (List.getElem?_eq_getElem hj) hg)
    · rename_i cs len sz
      obtain ⟨ys, hys, rfl⟩ := Option.map_eq_some_iff.1 hy
      cases h with
      | imm _ _ h => cases h
      | own _ _ _ g o c C us Fs h1 h2 hb hl hs hr hc ho h =>
        have := Cs.toWs (φ := φ) (M := M) (F := Fs.flatten) (st := noS) ⟨Fs, h1, h2, ho, rfl, h⟩ (fun g hg => hF g (List.mem_cons_of_mem _ hg)) hys ih
        refine .ro ys len _ c us hl (fun _ => ⟨_, _, rfl⟩) this.1 (fun j u hj => ⟨_, _, rfl, hF g (by simp), ?_⟩) this.2.1 this.2.2
        rw [hb.cell]; exact hc j u hj
      | ownnil _ A =>
        simp at hys; subst hys
        exact .ro [] 0 A 0 [] (Nat.le_refl _) (by omega) rfl (by simp) (by simp) (by simp)
    · cases hy
def coolT : AV → Option AV
  | .tup cs => (cs.mapM (roc noH 8)).map .tup
  | x => roc noH 8 x
theorem coolT_ok {φ : Nat → Option Loc} {M M' : Nat → Prop} {w : Go.World} (hM : ∀ g, M g → M' g) {x y : AV} {v : Value} {F : List Nat} (h : V φ M w x v F) (hy : coolT x = some y) (hF : ∀ g ∈ F, M' g) : W M' w y v := by
  unfold coolT at hy
  split at hy
  · rename_i cs
    obtain ⟨ys, hys, rfl⟩ := Option.map_eq_some_iff.1 hy
    obtain ⟨e1, e2⟩ := mapM_get hys
    cases h with
    | imm _ _ h =>
      cases h with
      | tup _ us h1 h =>
        refine .tup ys us (by omega) fun j y u hy hu => ?_
        obtain ⟨x, hx, hxy⟩ := e2 j y hy
        exact noH_ok (φ := φ) hM 8 x u [] y (.imm _ _ (h j x u hx hu)) hxy fun g hg => by cases hg
    | tup _ us Fs h1 h2 h =>
      refine .tup ys us (by omega) fun j y u hy hu => ?_
      obtain ⟨x, hx, hxy⟩ := e2 j y hy
      have hj : j < Fs.length := by rw [h2]; exact (List.getElem?_eq_some_iff.1 hx).1
      exact noH_ok hM 8 x u _ y (h j x u _ hx hu (List.getElem?_eq_getElem hj)) hxy fun g hg => hF g (mem_flatten_of (List.getElem?_eq_getElem hj) hg)
  · exact noH_ok hM 8 x v F y h hy hF
theorem Ret.cool {P : Program} {f : FuncId} {args : List AV} {ret ret' : AV} {outs : List AV} (hR : Ret P f args ret outs) (hc : coolT ret = some ret') : Ret P f args ret' outs := by
  intro M w vs Fs hV hnd hF hM hT
  refine (hR M w vs Fs hV hnd hF hM hT).mono ?_
  rintro e w' ⟨v, M', Fr, Gs, h1, h2, h3, h4, L⟩
  have hd : ∀ g ∈ Gs.flatten, g ∉ Fr := fun g hg hf => (List.nodup_append.1 L.nodup).2.2 g hf g hg rfl
  refine ⟨v, fun g => M' g ∨ g ∈ Fr, [], Gs, h1, .imm _ _ (coolT_ok (fun g h => .inl h) h2 hc fun g h => .inr h), ?_, h4, ?_⟩
  · exact ⟨h3.1, h3.2.1, fun j x u F a b c => (h3.2.2 j x u F a b c).mono (fun _ _ h => h) (fun g h => .inl h) fun _ _ => rfl⟩
  · refine ⟨(List.nodup_append.1 L.nodup).2.1, fun g hg => ?_, fun g hg => .inl (L.m g hg), fun g hg => ?_, fun g hg => ?_, L.os, L.tape, L.output, L.grown, L.frame, L.keep⟩
    · obtain ⟨a, b, c⟩ := L.own g (List.mem_append_right _ hg)
      exact ⟨fun h => h.elim a (hd g hg), b, c⟩
    · rcases hg with hg | hg
      · exact L.m' g hg
      · exact .inr (L.own g (List.mem_append_left _ hg)).2.2
    · rcases hg with hg | hg
      · exact L.low g hg
      · exact (L.own g (List.mem_append_left _ hg)).2.1
theorem cWX {P : Program} {fx : AX} {xs : List AX} {dst : Option Nat} {E A : List Nat} {st : St} {K : St → Prop} {f : FuncId} {caps ys : List AV} {ret y : AV} (d : Nat) (hR : Ret P f ys ret (ys.map fun _ => .un)) (hK : K (st.setO dst y)) (hf : fx.ev st.ρ = .clo f caps := by rfl) (hc : callB P f = true := by kernel_rfl)
    (hys : xs.map (·.ev st.ρ) ++ caps = ys := by simp [mk_bs]) (hsh : shut.shutL ys = true := by rfl) (hi : inst 64 d ret ⟨st.ρ, hideH A st.h, st.n⟩ = some (y, ⟨st.ρ, hideH A st.h, st.n⟩) := by rfl) (hE : (instB 64 d ret).all (fun b => E.elem b) = true := by rfl) : callWK P fx xs dst (E, A) st K := by
  have key : ∀ (s : St) (ys : List AV), shut.shutL ys = true → exL ((ys.map fun _ => Md.ro).zip ys) s = some (ys.map fun _ => (none, none), s) ∧ shutArgs s.h ((ys.map fun _ => Md.ro).zip ys) (ys.map fun _ => (none, none)) = some ys ∧
      backL (ys.map fun _ => (none, none)) (ys.map fun _ => .un) s = some s ∧ flatL ((ys.map fun _ => Md.ro).zip ys) = some ((ys.map fun _ => Md.ro).zip ys) ∧ asm (ys.map fun _ => Md.ro) ys = some ys ∧ outF (ys.map fun _ => Md.ro) (ys.map fun _ => .un) = some (ys.map fun _ => .un) ∧
      closedB ((ys.map fun _ => Md.ro).zip ys) (ys.map fun _ => (none, none)) = true ∧ exB ((ys.map fun _ => Md.ro).zip ys) = [] := by
    intro s ys
    induction ys with
    | nil => intro _; exact ⟨rfl, rfl, rfl, rfl, rfl, rfl, rfl, rfl⟩
    | cons x xs ih =>
      intro h
      simp only [shut.shutL, Bool.and_eq_true] at h
      obtain ⟨h1, h2, h3, h4, h5, h6, h7, h8⟩ := ih h.2
      refine ⟨by simp [exL, ex1, h1], by simp [shutArgs, roc_sh h.1, h2], by simp [backL, h3], by simp [flatL, flat1, h4], by simp [asm, h5], by simp [outF, h6], by simp [closedB, h.1, h7], by simp [exB, h8]⟩
  subst hys
  obtain ⟨h1, h2, h3, h4, h5, h6, h7, h8⟩ := key ⟨st.ρ, hideH A st.h, st.n⟩ _ hsh
  refine callWK.cut _ d hf hc (by simp) h4 h1 h7 h2 h5 hR h6 h3 hi (by rw [h8, List.nil_append]; exact hE) ?_
  rw [merge_hide]
  exact hK
theorem Ret.weakW {P : Program} {f : FuncId} {args : List AV} {ret r1 r2 : AV} {outs : List AV} (hR : Ret P f args ret outs) (hc : coolT ret = some r1) (hw : ∀ (M : Nat → Prop) (w : Go.World) (v : Value), W M w r1 v → W M w r2 v) : Ret P f args r2 outs := by
  intro M w vs Fs hV hnd hF hM hT
  refine (hR M w vs Fs hV hnd hF hM hT).mono ?_
  rintro e w' ⟨v, M', Fr, Gs, h1, h2, h3, h4, L⟩
  have hd : ∀ g ∈ Gs.flatten, g ∉ Fr := fun g hg hf => (List.nodup_append.1 L.nodup).2.2 g hf g hg rfl
  refine ⟨v, fun g => M' g ∨ g ∈ Fr, [], Gs, h1, .imm _ _ (hw _ _ _ (coolT_ok (fun g h => .inl h) h2 hc fun g h => .inr h)), ?_, h4, ?_⟩
  · exact ⟨h3.1, h3.2.1, fun j x u F a b c => (h3.2.2 j x u F a b c).mono (fun _ _ h => h) (fun g h => .inl h) fun _ _ => rfl⟩
  · refine ⟨(List.nodup_append.1 L.nodup).2.1, fun g hg => ?_, fun g hg => .inl (L.m g hg), fun g hg => ?_, fun g hg => ?_, L.os, L.tape, L.output, L.grown, L.frame, L.keep⟩
    · obtain ⟨a, b, c⟩ := L.own g (List.mem_append_right _ hg)
      exact ⟨fun h => h.elim a (hd g hg), b, c⟩
    · rcases hg with hg | hg
      · exact L.m' g hg
      · exact .inr (L.own g (List.mem_append_left _ hg)).2.2
    · rcases hg with hg | hg
      · exact L.low g hg
      · exact (L.own g (List.mem_append_left _ hg)).2.1
theorem W_em {M : Nat → Prop} {w : Go.World} {v : Value} (h : W M w .em v) : W M w (.ro [] 0) v := by
  cases h
  exact .ro [] 0 _ 0 [] (Nat.le_refl _) (by omega) rfl (by simp) (by simp) (by simp)
theorem W_sub1 {M : Nat → Prop} {w : Go.World} {v : Value} {x y : AV} (hs : sub1 x y) (h : W M w x v) : W M w y v := by
  rcases hs with rfl | ⟨rfl, rfl⟩
  · exact h
  · exact W_em h
theorem subC_get : ∀ {xs ys : List AV}, subC xs ys → xs.length = ys.length ∧ ∀ (j : Nat) (y : AV), ys[j]? = some y → ∃ x, xs[j]? = some x ∧ sub1 x y
  | [], [], _ => ⟨rfl, by simp⟩
  | x :: xs, y :: ys, h => by
    obtain ⟨h1, h2⟩ := subC_get h.2
    refine ⟨by simp [h1], fun j z hj => ?_⟩
    cases j with
    | zero => simp at hj; subst hj; exact ⟨x, rfl, h.1⟩
    | succ j => exact h2 j z hj
  | [], _ :: _, h => h.elim
  | _ :: _, [], h => h.elim
theorem W_roS {M : Nat → Prop} {w : Go.World} {v : Value} {xs ys : List AV} {len : Nat} (hs : subC xs ys) (h : W M w (.ro xs len) v) : W M w (.ro ys len) v := by
  obtain ⟨e1, e2⟩ := subC_get hs
  cases h with
  | ro _ _ A c us h1 h2 h3 h4 h5 h6 =>
    refine .ro ys len A c us h1 h2 (by omega) h4 h5 fun j y u hy hu => ?_
    obtain ⟨x, hx, hxy⟩ := e2 j y hy
    exact W_sub1 hxy (h6 j x u hx hu)
end Go.Proofs.YtiejaibmcmicoaaGreatDoor.Am
namespace Go.Proofs.YtiejaibmcmicoaaGreatDoor.Am
open Go Go.Proofs
set_option linter.unusedSimpArgs false
set_option linter.unusedVariables false
attribute [local congr] T_congr callK_congr callWK_congr
attribute [local simp] run_nil run_op0 run_opg run_seq run_cond run_block run_ret run_skip run_skip_after run_skip_blk run_exit run_exit_after run_exit_blk run_loop run_any runS_nil runS_op0 runS_opg runW_nil runW_op0 runW_opg exec_q exec_w exec_c exec_n execW_q execW_w execW_c restW_app hideH_app merge_app wblk rest_app restS_app execS_q execS_c aval dOk upd_app ev_t ev_c setO_some setO_none put_mk pinsOf isIo hasIo sbin endR fin resL one outL out1 clo1 cloL coe coeL shut shut.shutL wantA weff cellsOf fillA deref natOf ρ0_app h0_app plain plain.plainL keep_app keepH_app andThen_normal andThen_ret andThen_exit pop_nil pop_after pop_after_ret pop_after_exit pop_blk pop_blk_ret pop_blk_exit nilA srcOf srcCells keepR_app keepHR_app renA rb
def digC (n : Int) : ByteArray := strOfNums [IntKind.u8.wrap (48 + n)]
theorem digC_size (n : Int) : (digC n).size = 1 := rfl
def numF : Nat → Nat → ByteArray → ByteArray
  | 0, _, a => a
  | k + 1, n, a => if 9 < n then numF k (n / 10) (digC ((n : Int) / 10 % 10) ++ a) else a
def numT (n : Nat) : ByteArray := numF n n (digC ((n : Int) % 10))
theorem numF_size : ∀ (k n : Nat) (a : ByteArray), (numF k n a).size ≤ a.size + n
  | 0, n, a => Nat.le_add_right _ _
  | k + 1, n, a => by
    rw [numF]
    split
    · have h := numF_size k (n / 10) (digC ((n : Int) / 10 % 10) ++ a)
      rw [ByteArray.size_append, digC_size] at h
      omega
    · exact Nat.le_add_right _ _
theorem numT_size (n : Nat) : (numT n).size ≤ n + 1 := by
  have h := numF_size n n (digC ((n : Int) % 10))
  rw [digC_size] at h
  rw [numT]; omega
theorem digC_is (m : Nat) (h : m < 10) : digC (m : Int) = ⟨#[UInt8.ofNat (48 + m)]⟩ := by
  have : m = 0 ∨ m = 1 ∨ m = 2 ∨ m = 3 ∨ m = 4 ∨ m = 5 ∨ m = 6 ∨ m = 7 ∨ m = 8 ∨ m = 9 := by omega
  rcases this with rfl | rfl | rfl | rfl | rfl | rfl | rfl | rfl | rfl | rfl <;> rfl
theorem ba_app (a b : List UInt8) : (⟨a.toArray⟩ : ByteArray) ++ (⟨b.toArray⟩ : ByteArray) = ⟨(a ++ b).toArray⟩ := by
  apply ByteArray.ext
  simp [ByteArray.data_append]
theorem numF_dec : ∀ (k n : Nat) (b : ByteArray), n ≤ k → numF k n (digC ((n : Int) % 10) ++ b) = ⟨(Lib.decDigits n).toArray⟩ ++ b := by
  intro k
  induction k with
  | zero =>
    intro n b h
    obtain rfl : n = 0 := by omega
    rw [Lib.decDigits]; rfl
  | succ k ih =>
    intro n b h
    by_cases h9 : 9 < n
    · rw [numF, if_pos h9]
      have e1 : ((n : Int) / 10 % 10) = ((n / 10 : Nat) : Int) % 10 := by omega
      have hd : Lib.decDigits n = Lib.decDigits (n / 10) ++ [UInt8.ofNat (48 + n % 10)] := by rw [Lib.decDigits, dif_neg (by omega)]
      rw [e1, ih (n / 10) _ (by omega), hd]
      have e2 : ((n : Int) % 10) = ((n % 10 : Nat) : Int) := by omega
      rw [e2, digC_is _ (by omega), ← ba_app, ByteArray.append_assoc]
    · rw [numF, if_neg h9, Lib.decDigits, dif_pos (by omega)]
      have e2 : ((n : Int) % 10) = (n : Int) := by omega
      rw [e2, digC_is _ (by omega)]
theorem numT_dec (n : Nat) : (⟨(Lib.itoa n).toArray⟩ : ByteArray) = numT n := by
  have h := numF_dec n n ⟨#[]⟩ (Nat.le_refl _)
  have e : ∀ a : ByteArray, a ++ (⟨#[]⟩ : ByteArray) = a := fun a => by apply ByteArray.ext; simp [ByteArray.data_append]
  rw [e, e] at h
  rw [numT, h, Lib.itoa, if_neg (by omega)]
  rfl
theorem R203 (n : Int) (h0 : -9223372036854775808 ≤ n) (h1 : n ≤ 9223372036854775807) : Ret Tryz.prog 203 [.sc (.int .i64 n)] (.sc (.string ⟨(Lib.itoa n).toArray⟩)) [.un] :=
  Ret.itoaOf (fun n w h0 h1 ht => Any.strconv_Itoa Tryz.laysM171 n h0 h1 w ht) n h0 h1
def A187 : AC := (.seq (.ops [yq 2 (.mov (.c (.sc (.string ⟨#[]⟩))))])
  (.seq (.ops [yq 3 (.mov (.t 0)), yq 4 (.mm false (.t 3) (yi 0)), yc 5 203 [.t 4], yq 2 (.mov (.t 5))])
  .ret))
theorem K187 : yK Tryz.prog Tryz.f187 A187 6 [.mov (.t 2)] := ⟨by kernel_rfl, by kernel_rfl, by kernel_rfl⟩
theorem R187 (n : Nat) (hn : n < 4611686018427387904) : Ret Tryz.prog 187 [.sc (.int .i64 n)] (.sc (.string (numT n))) [.un] := by
  have h0 : ¬ ((n : Int) < 0) := by omega
  have r := R203 n (by omega) (by omega)
  rw [numT_dec] at r
  refine Ret.run Tryz.func187 K187 (by simp) rfl rfl 500 ?_
  simp [A187, iniρ, h0]
  refine callK.ro 0 rfl (by kernel_rfl) (by simp [roc_sc, upd_app]) r rfl rfl rfl ?_
  simp
theorem cutF_size (s : ByteArray) (c : UInt8) : (cutF s c).1.size ≤ s.size ∧ (cutF s c).2.1.size ≤ s.size := by
  unfold cutF
  split
  · exact ⟨by rw [ByteArray.size_extract]; omega, by rw [ByteArray.size_extract]; omega⟩
  · exact ⟨Nat.le_refl _, Nat.zero_le _⟩
def figL : List UInt8 → Bool
  | [] => true
  | c :: l => figI (c.toNat : Int) && figL l
def digS (a : Nat) (c : UInt8) : Nat := a * 10 + (c.toNat - 48)
theorem digS_eq (a : Nat) (c : UInt8) : digS a c = a * 10 + (c.toNat - 48) := rfl
def digF (a : Nat) (l : List UInt8) : Nat := l.foldl digS a
theorem digF_nil (a : Nat) : digF a [] = a := rfl
theorem digF_cons (a : Nat) (c : UInt8) (l : List UInt8) : digF a (c :: l) = digF (a * 10 + (c.toNat - 48)) l := by unfold digF; rw [List.foldl_cons, digS_eq]
def parseN (s : ByteArray) (most : Int) : Option Nat :=
  if (1 ≤ s.size ∧ s.size ≤ 7) ∧ figL s.data.toList = true ∧ ¬ (2 ≤ s.size ∧ s.data.toList.head? = some 48) ∧ (digF 0 s.data.toList : Int) ≤ most then some (digF 0 s.data.toList) else none
def numA : Option Nat → AV
  | some n => .tup [.sc (.int .i64 n), .sc (.bool true)]
  | none => .tup [.sc (.int .i64 0), .sc (.bool false)]
theorem figL_app : ∀ a b : List UInt8, figL (a ++ b) = (figL a && figL b)
  | [], b => rfl
  | x :: a, b => by rw [List.cons_append, figL, figL, figL_app a b, Bool.and_assoc]
theorem digF_app (a b : List UInt8) (n : Nat) : digF n (a ++ b) = digF (digF n a) b := by unfold digF; rw [List.foldl_append]
theorem fig_rng {c : UInt8} (h : figI (c.toNat : Int) = true) : 48 ≤ c.toNat ∧ c.toNat ≤ 57 := by
  simp only [figI, Bool.and_eq_true, decide_eq_true_eq] at h
  omega
theorem digF_lt : ∀ (l : List UInt8) (a : Nat), figL l = true → digF a l < (a + 1) * 10 ^ l.length
  | [], a, _ => by rw [digF_nil]; simp
  | c :: l, a, h => by
    rw [figL, Bool.and_eq_true] at h
    have hc := fig_rng h.1
    have ih := digF_lt l (a * 10 + (c.toNat - 48)) h.2
    rw [digF_cons, List.length_cons, Nat.pow_succ]
    refine Nat.lt_of_lt_of_le ih ?_
    rw [Nat.mul_comm (10 ^ l.length) 10, ← Nat.mul_assoc]
    exact Nat.mul_le_mul_right _ (by omega)
theorem digF_ge : ∀ (l : List UInt8) (a : Nat), a ≤ digF a l
  | [], a => Nat.le_refl _
  | c :: l, a => by
    rw [digF_cons]
    exact Nat.le_trans (by omega) (digF_ge l _)
theorem dec_small {n : Nat} (h : n < 10) : Lib.decDigits n = [UInt8.ofNat (48 + n)] := by rw [Lib.decDigits, dif_pos h]
theorem dec_big {n : Nat} (h : 10 ≤ n) : Lib.decDigits n = Lib.decDigits (n / 10) ++ [UInt8.ofNat (48 + n % 10)] := by rw [Lib.decDigits, dif_neg (by omega)]
theorem u8_back {c : UInt8} (h : 48 ≤ c.toNat) : UInt8.ofNat (48 + (c.toNat - 48)) = c := by
  have e : 48 + (c.toNat - 48) = c.toNat := by omega
  rw [e, UInt8.ofNat_toNat]
theorem dec_of : ∀ (k : Nat) (l : List UInt8), l.length = k + 1 → figL l = true → ¬ (2 ≤ l.length ∧ l.head? = some 48) → Lib.decDigits (digF 0 l) = l
  | 0, l, hk, hf, _ => by
    match l, hk with
    | [c], _ =>
      have hc := fig_rng (by simpa [figL] using hf : figI (c.toNat : Int) = true)
      rw [show digF 0 [c] = c.toNat - 48 by rw [digF_cons, digF_nil]; omega, dec_small (by omega), u8_back hc.1]
  | k + 1, l, hk, hf, hh => by
    obtain ⟨p, c, rfl⟩ : ∃ p c, l = p ++ [c] := ⟨l.dropLast, l.getLast (by intro h; rw [h] at hk; simp at hk), (List.dropLast_concat_getLast _).symm⟩
    rw [figL_app, Bool.and_eq_true] at hf
    have hc := fig_rng (by simpa [figL] using hf.2 : figI (c.toNat : Int) = true)
    have hpl : p.length = k + 1 := by simpa using hk
    obtain ⟨x, p2, rfl⟩ : ∃ x p2, p = x :: p2 := by
      cases p with
      | nil => simp at hpl
      | cons x p2 => exact ⟨x, p2, rfl⟩
    have hx : x ≠ 48 := fun e => hh ⟨by simp, by simp [e]⟩
    have ih := dec_of k (x :: p2) hpl hf.1 (fun h => hx (by simpa using h.2))
    have hxr := fig_rng (by have := hf.1; rw [figL, Bool.and_eq_true] at this; exact this.1 : figI (x.toNat : Int) = true)
    have hx2 : x.toNat ≠ 48 := fun e => hx (UInt8.toNat_inj.1 (by simpa using e))
    have hpos : 1 ≤ digF 0 (x :: p2) := by
      rw [digF_cons]
      exact Nat.le_trans (by omega) (digF_ge p2 _)
    have e : digF 0 (x :: p2 ++ [c]) = digF 0 (x :: p2) * 10 + (c.toNat - 48) := by rw [digF_app, digF_cons, digF_nil]
    rw [e, dec_big (by omega), show (digF 0 (x :: p2) * 10 + (c.toNat - 48)) / 10 = digF 0 (x :: p2) by omega, show (digF 0 (x :: p2) * 10 + (c.toNat - 48)) % 10 = c.toNat - 48 by omega, ih, u8_back hc.1]
theorem dec_head : ∀ (k n : Nat), n ≤ k → (Lib.decDigits n).head? = some 48 → n = 0
  | k, n, hk, h => by
    by_cases h9 : n < 10
    · rw [dec_small h9] at h
      simp only [List.head?_cons, Option.some.injEq] at h
      have := congrArg UInt8.toNat h
      rw [UInt8.toNat_ofNat'] at this
      have e : (48 : UInt8).toNat = 48 := rfl
      omega
    · rw [dec_big (by omega)] at h
      have hne : Lib.decDigits (n / 10) ≠ [] := by
        by_cases h9 : n / 10 < 10
        · rw [dec_small h9]; simp
        · rw [dec_big (by omega)]; simp
      cases hd : Lib.decDigits (n / 10) with
      | nil => exact absurd hd hne
      | cons x t =>
        rw [hd] at h
        have : n / 10 = 0 := by
          match k, hk with
          | 0, hk => omega
          | k + 1, hk => exact dec_head k (n / 10) (by omega) (by rw [hd]; simpa using h)
        omega
theorem numT_list (n : Nat) : (numT n).data.toList = Lib.decDigits n := by
  rw [← numT_dec, Lib.itoa, if_neg (by omega)]
  simp
theorem num_canon {s : ByteArray} (h1 : 1 ≤ s.size) (hf : figL s.data.toList = true) : (numT (digF 0 s.data.toList)).toList = s.toList ↔ ¬ (2 ≤ s.size ∧ s.data.toList.head? = some 48) := by
  have hsz : s.size = s.data.toList.length := str_len rfl
  rw [Lib.toList_data, Lib.toList_data, numT_list]
  constructor
  · rintro h ⟨h2, h3⟩
    have h0 := dec_head (digF 0 s.data.toList) _ (Nat.le_refl _) (by rw [h]; exact h3)
    rw [h0] at h
    have : s.data.toList.length = 1 := by rw [← h, dec_small (by omega)]; rfl
    omega
  · intro h
    exact dec_of (s.size - 1) _ (by omega) hf (by rw [← hsz]; exact h)
theorem wrapC {c : UInt8} (h : figI (c.toNat : Int) = true) : IntKind.u8.wrap ((c.toNat : Int) - 48) = ((c.toNat - 48 : Nat) : Int) := by
  have := fig_rng h
  simp [IntKind.wrap, IntKind.bits, IntKind.signed]
  omega
def A168 : AC := (.seq (.ops [yq 4 (.mov (yi 0)), yq 5 (.mov (.c (.sc (.bool false))))])
  (.seq (.seq (.ops [yq 8 (.mov (.t 0)), yq 9 (.slen (.t 8)), yc 10 27 [.t 9, yi 1, yi 7], yq 11 (.not (.t 10))])
  (.cond (.t 11) (.seq (.ops [yq 4 (.mov (yi 0)), yq 5 (.mov (.c (.sc (.bool false))))])
  .ret)
  .skip))
  (.seq (.ops [yq 6 (.mov (yi 0))])
  (.seq (.seq (.ops [yq 7 (.mov (yi 0))])
  (.block 0 (.loop (.seq (.seq (.ops [yq 12 (.mov (.t 7)), yq 13 (.mov (.t 0)), yq 14 (.slen (.t 13)), yq 15 (.bin .lss (.t 12) (.t 14))])
  (.cond (.t 15) .skip
  (.exit 0)))
  (.seq (.block 1 (.seq (.seq (.ops [yq 18 (.mov (.t 0)), yq 19 (.mov (.t 7)), yq 20 (.idx (.t 18) (.t 19)), yc 21 96 [.t 20], yq 22 (.not (.t 21))])
  (.cond (.t 22) (.seq (.ops [yq 4 (.mov (yi 0)), yq 5 (.mov (.c (.sc (.bool false))))])
  .ret)
  .skip))
  (.ops [yq 23 (.mov (.t 6)), yq 24 (.bin .mul (.t 23) (yi 10)), yq 25 (.mov (.t 0)), yq 26 (.mov (.t 7)), yq 27 (.idx (.t 25) (.t 26)), yq 28 (.bin .sub (.t 27) (.c (.sc (.int .u8 48)))), yq 29 (.cvi .i64 (.t 28)), yq 30 (.bin .add (.t 24) (.t 29)), yq 6 (.mov (.t 30))])))
  (.ops [yq 16 (.mov (.t 7)), yq 17 (.bin .add (.t 16) (yi 1)), yq 7 (.mov (.t 17))]))))))
  (.seq (.seq (.ops [yq 31 (.mov (.t 6)), yc 32 187 [.t 31], yq 33 (.mov (.t 0)), yq 34 (.bin .neq (.t 32) (.t 33)), yq 35 (.mov (.t 34)), yg 36 35 false (.mov (.t 6)), yg 37 35 false (.mov (.t 1)), yg 38 35 false (.bin .gtr (.t 36) (.t 37)), yq 39 (.pick (.t 35) (.c (.sc (.bool true))) (.t 38))])
  (.cond (.t 39) (.seq (.ops [yq 4 (.mov (yi 0)), yq 5 (.mov (.c (.sc (.bool false))))])
  .ret)
  .skip))
  (.seq (.ops [yq 40 (.mov (.t 6)), yq 4 (.mov (.t 40)), yq 5 (.mov (.c (.sc (.bool true))))])
  .ret))))))
theorem K168 : yK Tryz.prog Tryz.f168 A168 41 [.mov (.t 4), .mov (.t 5)] := ⟨by kernel_rfl, by kernel_rfl, by kernel_rfl⟩
set_option maxHeartbeats 1000000 in
theorem R168 (s : ByteArray) (most : Int) (hm : Ty.int.ok most) : Ret Tryz.prog 168 [.sc (.string s), .sc (.int .i64 most)] (numA (parseN s most)) [.un, .un] := by
  by_cases h7 : 1 ≤ s.size ∧ s.size ≤ 7
  case neg =>
    have e : inR s.size 1 7 = false := by
      have : inR s.size 1 7 = (decide ((1 : Int) ≤ s.size) && decide ((s.size : Int) ≤ 7)) := rfl
      rw [this]
      rcases Classical.em (1 ≤ s.size) with h | h
      · have : ¬ s.size ≤ 7 := fun h2 => h7 ⟨h, h2⟩
        have e1 : ¬ ((s.size : Int) ≤ 7) := by omega
        simp [e1]
      · have e1 : ¬ ((1 : Int) ≤ s.size) := by omega
        simp [e1]
    have en : parseN s most = none := if_neg fun h => h7 h.1
    refine Ret.run Tryz.func168 K168 (by simp) rfl rfl 500 ?_
    simp [A168, iniρ]
    refine callK.ro 0 rfl (by kernel_rfl) (by simp [roc_sc]) (R27 s.size 1 7) rfl rfl rfl ?_
    simp [e, en, numA]
  have e : inR s.size 1 7 = true := by
    have e1 : (1 : Int) ≤ s.size := by omega
    have e2 : (s.size : Int) ≤ 7 := by omega
    simp [inR, e1, e2]
  refine Ret.run Tryz.func168 K168 (by simp) rfl rfl 500 ?_
  simp [A168, iniρ]
  refine callK.ro 0 rfl (by kernel_rfl) (by simp [roc_sc]) (R27 s.size 1 7) rfl rfl rfl ?_
  simp [e]
  refine T.rounds (μ := fun i : List UInt8 × List UInt8 => i.2.length)
    (fun i t => i.1 ++ i.2 = s.data.toList ∧ figL i.1 = true ∧ t.ρ 0 = .sc (.string s) ∧ t.ρ 1 = .sc (.int .i64 most) ∧ t.ρ 6 = .sc (.int .i64 (digF 0 i.1)) ∧ t.ρ 7 = .sc (.int .i64 i.1.length) ∧ t.n = 41) ([], s.data.toList) (by simp [upd_app, figL, digF_nil]) ?_
  rintro ⟨pre, rest⟩ ⟨ρ, hh, n⟩ ⟨hx, hE, k0, k1, k6, k7, rfl⟩
  simp only at hx hE k0 k1 k6 k7
  have hsz := str_len hx
  have hv := digF_lt pre 0 hE
  have hpl : pre.length ≤ 7 := by have : s.size = pre.length + rest.length := by rw [hsz]; simp
                                  omega
  have hv2 : digF 0 pre < 10000000 := by
    refine Nat.lt_of_lt_of_le hv ?_
    rw [Nat.zero_add, Nat.one_mul]
    exact Nat.pow_le_pow_right (by omega) hpl
  refine run_ok (n := 400) ?_
  cases rest with
  | nil =>
    simp at hsz hx
    have hn := R187 (digF 0 pre) (by omega)
    have hpN : parseN s most = if ¬ (2 ≤ s.size ∧ s.data.toList.head? = some 48) ∧ (digF 0 pre : Int) ≤ most then some (digF 0 pre) else none := by
      unfold parseN
      rw [← hx]
      by_cases c : ¬ (2 ≤ s.size ∧ pre.head? = some 48) ∧ (digF 0 pre : Int) ≤ most
      · rw [if_pos c, if_pos ⟨h7, hE, c.1, c.2⟩]
      · rw [if_neg c, if_neg (fun h => c ⟨h.2.2.1, h.2.2.2⟩)]
    have hcan := num_canon (s := s) h7.1 (by rw [← hx]; exact hE)
    rw [← hx] at hcan hpN
    obtain ⟨v, hv3⟩ : ∃ v, v = digF 0 pre := ⟨_, rfl⟩
    rw [← hv3] at hn hpN hcan k6
    simp [k0, k7, hsz]
    refine T.on 400 ?_
    simp [k0, k1, k6]
    refine callK.ro 0 rfl (by kernel_rfl) (by simp [roc_sc]) hn rfl rfl rfl ?_
    by_cases c : ¬ (2 ≤ s.size ∧ pre.head? = some 48)
    case neg =>
      have c2 : ¬ ((numT v).toList = s.toList) := fun h => c (hcan.1 h)
      rw [hpN, if_neg (fun h => c h.1)]
      simp [k0, c2, numA]
    have c2 : (numT v).toList = s.toList := hcan.2 c
    by_cases d : (v : Int) ≤ most
    · have d2 : ¬ (most < v) := by omega
      rw [hpN, if_pos ⟨c, d⟩]
      simp [k0, k1, k6, c2, d2, numA]
    · have d2 : most < v := by omega
      rw [hpN, if_neg (fun h => d h.2)]
      simp [k0, k1, k6, c2, d2, numA]
  | cons c rest =>
    have hg := str_get hx
    simp at hsz
    have hlt : (pre.length : Int) < s.size := by omega
    have hw : IntKind.i64.wrap ((pre.length : Int) + 1) = pre.length + 1 := wrap_i64 (by omega) (by omega)
    simp [k0, k7, hlt, hg]
    refine callK.ro 0 rfl (by kernel_rfl) (by simp [roc_sc]) (R96 c) rfl rfl rfl ?_
    cases h1 : figI (c.toNat : Int)
    · have : parseN s most = none := by
        unfold parseN
        rw [if_neg fun h => ?_]
        have := h.2.1
        rw [← hx, figL_app, figL, h1] at this
        simp at this
      simp [this, numA]
    · have hc := fig_rng h1
      have wc := wrapC h1
      have w10 : IntKind.i64.wrap ((digF 0 pre : Int) * 10) = digF 0 pre * 10 := wrap_i64 (by omega) (by omega)
      have wd : IntKind.i64.wrap ((c.toNat - 48 : Nat) : Int) = (c.toNat - 48 : Nat) := wrap_i64 (by omega) (by omega)
      have wa : IntKind.i64.wrap ((digF 0 pre : Int) * 10 + (c.toNat - 48 : Nat)) = digF 0 pre * 10 + (c.toNat - 48 : Nat) := wrap_i64 (by omega) (by omega)
      have hdf : (digF 0 (pre ++ [c]) : Int) = digF 0 pre * 10 + (c.toNat - 48 : Nat) := by rw [digF_app, digF_cons, digF_nil]; omega
      simp [k0, k6, k7, hw, hg, hlt, wc, w10, wd, wa]
      refine ⟨pre ++ [c], rest, by simp, _, Le.refl _, ?_⟩
      simp [hx, k0, k1, upd_app, figL_app, figL, hE, h1, hdf]
def A193 : AC := (.seq (.ops [yq 4 (.mov (yi 0)), yq 5 (.mov (.c (.sc (.bool false))))])
  (.seq (.ops [yq 6 (.mov (yi 0))])
  (.seq (.seq (.ops [yq 7 (.mov (yi 0))])
  (.block 0 (.loop (.seq (.seq (.ops [yq 8 (.mov (.t 7)), yq 9 (.mov (.t 0)), yq 10 (.slen (.t 9)), yq 11 (.bin .lss (.t 8) (.t 10)), yq 12 (.mov (.t 11)), yg 13 12 true (.mov (.t 7)), yg 14 12 true (.bin .lss (.t 13) (yi 8)), yq 15 (.pick (.t 12) (.t 14) (.c (.sc (.bool false))))])
  (.cond (.t 15) .skip
  (.exit 0)))
  (.seq (.block 1 (.seq (.seq (.ops [yq 18 (.mov (.t 0)), yq 19 (.mov (.t 7)), yq 20 (.idx (.t 18) (.t 19)), yc 21 114 [.t 20], yq 22 (.not (.t 21))])
  (.cond (.t 22) (.seq (.ops [yq 4 (.mov (yi 0)), yq 5 (.mov (.c (.sc (.bool false))))])
  .ret)
  .skip))
  (.ops [yq 23 (.mov (.t 6)), yq 24 (.bin .mul (.t 23) (yi 10)), yq 25 (.mov (.t 0)), yq 26 (.mov (.t 7)), yq 27 (.idx (.t 25) (.t 26)), yq 28 (.bin .sub (.t 27) (.c (.sc (.int .u8 48)))), yq 29 (.cvi .i64 (.t 28)), yq 30 (.bin .add (.t 24) (.t 29)), yq 6 (.mov (.t 30))])))
  (.ops [yq 16 (.mov (.t 7)), yq 17 (.bin .add (.t 16) (yi 1)), yq 7 (.mov (.t 17))]))))))
  (.seq (.seq (.ops [yq 31 (.mov (.t 0)), yq 32 (.slen (.t 31)), yc 33 42 [.t 32, yi 1, yi 7], yq 34 (.not (.t 33)), yq 35 (.mov (.t 34)), yg 36 35 false (.mov (.t 0)), yg 37 35 false (.slen (.t 36)), yg 38 35 false (.bin .gtr (.t 37) (yi 1)), yg 39 35 false (.mov (.t 38)), yg 40 39 true (.mov (.t 0)), yg 41 39 true (.idx (.t 40) (yi 0)), yg 42 39 true (.bin .eql (.t 41) (.c (.sc (.int .u8 48)))), yg 43 35 false (.pick (.t 39) (.t 42) (.c (.sc (.bool false)))), yq 44 (.pick (.t 35) (.c (.sc (.bool true))) (.t 43)), yq 45 (.mov (.t 44)), yg 46 45 false (.mov (.t 6)), yg 47 45 false (.mov (.t 1)), yg 48 45 false (.bin .gtr (.t 46) (.t 47)), yq 49 (.pick (.t 45) (.c (.sc (.bool true))) (.t 48))])
  (.cond (.t 49) (.seq (.ops [yq 4 (.mov (yi 0)), yq 5 (.mov (.c (.sc (.bool false))))])
  .ret)
  .skip))
  (.seq (.ops [yq 50 (.mov (.t 6)), yq 4 (.mov (.t 50)), yq 5 (.mov (.c (.sc (.bool true))))])
  .ret)))))
theorem K193 : yK Tryz.prog Tryz.f193 A193 51 [.mov (.t 4), .mov (.t 5)] := ⟨by kernel_rfl, by kernel_rfl, by kernel_rfl⟩
set_option maxHeartbeats 2000000 in
theorem R193 (s : ByteArray) (most : Int) (hm : Ty.int.ok most) (hs : s.size ≤ 140737488351232) : Ret Tryz.prog 193 [.sc (.string s), .sc (.int .i64 most)] (numA (parseN s most)) [.un, .un] := by
  refine Ret.run Tryz.func193 K193 (by simp) rfl rfl 500 ?_
  simp [A193, iniρ]
  refine T.rounds (μ := fun i : List UInt8 × List UInt8 => i.2.length)
    (fun i t => i.1 ++ i.2 = s.data.toList ∧ figL i.1 = true ∧ i.1.length ≤ 8 ∧ t.ρ 0 = .sc (.string s) ∧ t.ρ 1 = .sc (.int .i64 most) ∧ t.ρ 6 = .sc (.int .i64 (digF 0 i.1)) ∧ t.ρ 7 = .sc (.int .i64 i.1.length) ∧ t.n = 51) ([], s.data.toList) (by simp [upd_app, figL, digF_nil]) ?_
  rintro ⟨pre, rest⟩ ⟨ρ, hh, n⟩ ⟨hx, hE, hpl, k0, k1, k6, k7, rfl⟩
  simp only at hx hE hpl k0 k1 k6 k7
  have hsz := str_len hx
  have hv := digF_lt pre 0 hE
  have hv2 : digF 0 pre < 100000000 := by
    refine Nat.lt_of_lt_of_le hv ?_
    rw [Nat.zero_add, Nat.one_mul]
    exact Nat.pow_le_pow_right (by omega) hpl
  refine run_ok (n := 400) ?_
  by_cases h8 : pre.length < 8
  case neg =>
    have h8' : ¬ ((pre.length : Int) < 8) := by omega
    have h9 : 8 ≤ s.size := by rw [hsz]; simp; omega
    have e : inR s.size 1 7 = false := by
      have : inR s.size 1 7 = (decide ((1 : Int) ≤ s.size) && decide ((s.size : Int) ≤ 7)) := rfl
      have e1 : ¬ ((s.size : Int) ≤ 7) := by omega
      rw [this]; simp [e1]
    have en : parseN s most = none := if_neg fun h => by omega
    by_cases hlt : (pre.length : Int) < s.size
    · simp [k0, k7, hlt, h8']
      refine T.on 400 ?_
      simp [k0]
      refine callK.ro 0 rfl (by kernel_rfl) (by simp [roc_sc]) (R42 s.size 1 7) rfl rfl rfl ?_
      simp [e, en, numA]
    · simp [k0, k7, hlt]
      refine T.on 400 ?_
      simp [k0]
      refine callK.ro 0 rfl (by kernel_rfl) (by simp [roc_sc]) (R42 s.size 1 7) rfl rfl rfl ?_
      simp [e, en, numA]
  have h8' : (pre.length : Int) < 8 := by omega
  cases rest with
  | nil =>
    simp at hsz hx
    have hlt : ¬ ((pre.length : Int) < s.size) := by omega
    have hpN : parseN s most = if (1 ≤ s.size ∧ s.size ≤ 7) ∧ ¬ (2 ≤ s.size ∧ s.data.toList.head? = some 48) ∧ (digF 0 pre : Int) ≤ most then some (digF 0 pre) else none := by
      unfold parseN
      rw [← hx]
      by_cases c : (1 ≤ s.size ∧ s.size ≤ 7) ∧ ¬ (2 ≤ s.size ∧ pre.head? = some 48) ∧ (digF 0 pre : Int) ≤ most
      · rw [if_pos c, if_pos ⟨c.1, hE, c.2.1, c.2.2⟩]
      · rw [if_neg c, if_neg (fun h => c ⟨h.1, h.2.2.1, h.2.2.2⟩)]
    obtain ⟨v, hv3⟩ : ∃ v, v = digF 0 pre := ⟨_, rfl⟩
    rw [← hv3] at hpN k6
    have hin : inR s.size 1 7 = decide (1 ≤ s.size ∧ s.size ≤ 7) := by
      have : inR s.size 1 7 = (decide ((1 : Int) ≤ s.size) && decide ((s.size : Int) ≤ 7)) := rfl
      rw [this, ← Bool.decide_and]
      congr 1
      apply propext
      constructor <;> intro h <;> constructor <;> omega
    by_cases h7 : 1 ≤ s.size ∧ s.size ≤ 7
    case neg =>
      have en : parseN s most = none := by rw [hpN, if_neg fun h => h7 h.1]
      have e : inR s.size 1 7 = false := by rw [hin]; exact decide_eq_false h7
      simp [k0, k7, hlt]
      refine T.on 400 ?_
      simp [k0]
      refine callK.ro 0 rfl (by kernel_rfl) (by simp [roc_sc]) (R42 s.size 1 7) rfl rfl rfl ?_
      simp [e, en, numA]
    have e : inR s.size 1 7 = true := by rw [hin]; exact decide_eq_true h7
    obtain ⟨x, p2, hp⟩ : ∃ x p2, pre = x :: p2 := by
      cases pre with
      | nil => have e0 : s.size = 0 := hsz; omega
      | cons x p2 => exact ⟨x, p2, rfl⟩
    have hg0 : s[0]? = some x := str_get (pre := []) (rest := p2) (by rw [List.nil_append, ← hp, hx])
    have hpos : (0 : Int) < s.size := by omega
    have x48 : ((x.toNat : Int) = 48) ↔ x = 48 := ⟨fun h => UInt8.toNat_inj.1 (by have e : (48 : UInt8).toNat = 48 := rfl; omega), fun h => by rw [h]; rfl⟩
    have hhd : s.data.toList.head? = some x := by rw [← hx, hp]; rfl
    rw [hhd] at hpN
    by_cases g1 : 1 < s.size
    · have g1' : (1 : Int) < s.size := by omega
      by_cases g2 : x = 48
      · have g2' : (x.toNat : Int) = 48 := x48.2 g2
        have en : parseN s most = none := by rw [hpN, if_neg fun h => h.2.1 ⟨by omega, by rw [g2]⟩]
        simp [k0, k7, hlt]
        refine T.on 400 ?_
        simp [k0]
        refine callK.ro 0 rfl (by kernel_rfl) (by simp [roc_sc]) (R42 s.size 1 7) rfl rfl rfl ?_
        simp [k0, e, en, g1', g2', hg0, hpos, numA]
      · have g2' : ¬ ((x.toNat : Int) = 48) := fun h => g2 (x48.1 h)
        by_cases d : (v : Int) ≤ most
        · have d2 : ¬ (most < v) := by omega
          have en : parseN s most = some v := by rw [hpN, if_pos ⟨h7, fun h => g2 (by simpa using h.2), d⟩]
          simp [k0, k7, hlt]
          refine T.on 400 ?_
          simp [k0]
          refine callK.ro 0 rfl (by kernel_rfl) (by simp [roc_sc]) (R42 s.size 1 7) rfl rfl rfl ?_
          simp [k0, k1, k6, e, en, g1', g2', d2, hg0, hpos, numA]
        · have d2 : most < v := by omega
          have en : parseN s most = none := by rw [hpN, if_neg fun h => d h.2.2]
          simp [k0, k7, hlt]
          refine T.on 400 ?_
          simp [k0]
          refine callK.ro 0 rfl (by kernel_rfl) (by simp [roc_sc]) (R42 s.size 1 7) rfl rfl rfl ?_
          simp [k0, k1, k6, e, en, g1', g2', d2, hg0, hpos, numA]
    · have g1' : ¬ (1 : Int) < s.size := by omega
      by_cases d : (v : Int) ≤ most
      · have d2 : ¬ (most < v) := by omega
        have en : parseN s most = some v := by rw [hpN, if_pos ⟨h7, fun h => by omega, d⟩]
        simp [k0, k7, hlt]
        refine T.on 400 ?_
        simp [k0]
        refine callK.ro 0 rfl (by kernel_rfl) (by simp [roc_sc]) (R42 s.size 1 7) rfl rfl rfl ?_
        simp [k0, k1, k6, e, en, g1', d2, numA]
      · have d2 : most < v := by omega
        have en : parseN s most = none := by rw [hpN, if_neg fun h => d h.2.2]
        simp [k0, k7, hlt]
        refine T.on 400 ?_
        simp [k0]
        refine callK.ro 0 rfl (by kernel_rfl) (by simp [roc_sc]) (R42 s.size 1 7) rfl rfl rfl ?_
        simp [k0, k1, k6, e, en, g1', d2, numA]
  | cons c rest =>
    have hg := str_get hx
    simp at hsz
    have hlt : (pre.length : Int) < s.size := by omega
    have hw : IntKind.i64.wrap ((pre.length : Int) + 1) = pre.length + 1 := wrap_i64 (by omega) (by omega)
    simp [k0, k7, hlt, h8', hg]
    refine callK.ro 0 rfl (by kernel_rfl) (by simp [roc_sc]) (R114 c) rfl rfl rfl ?_
    cases h1 : figI (c.toNat : Int)
    · have : parseN s most = none := by
        unfold parseN
        rw [if_neg fun h => ?_]
        have := h.2.1
        rw [← hx, figL_app, figL, h1] at this
        simp at this
      simp [this, numA]
    · have hc := fig_rng h1
      have wc := wrapC h1
      have w10 : IntKind.i64.wrap ((digF 0 pre : Int) * 10) = digF 0 pre * 10 := wrap_i64 (by omega) (by omega)
      have wd : IntKind.i64.wrap ((c.toNat - 48 : Nat) : Int) = (c.toNat - 48 : Nat) := wrap_i64 (by omega) (by omega)
      have wa : IntKind.i64.wrap ((digF 0 pre : Int) * 10 + (c.toNat - 48 : Nat)) = digF 0 pre * 10 + (c.toNat - 48 : Nat) := wrap_i64 (by omega) (by omega)
      have hdf : (digF 0 (pre ++ [c]) : Int) = digF 0 pre * 10 + (c.toNat - 48 : Nat) := by rw [digF_app, digF_cons, digF_nil]; omega
      simp [k0, k6, k7, hw, hg, hlt, wc, w10, wd, wa]
      refine ⟨pre ++ [c], rest, by simp, _, Le.refl _, ?_⟩
      simp [hx, k0, k1, upd_app, figL_app, figL, hE, h1, hdf]
      omega
end Go.Proofs.YtiejaibmcmicoaaGreatDoor.Am
namespace Go.Proofs.YtiejaibmcmicoaaGreatDoor.Am
open Go Go.Proofs
set_option linter.unusedSimpArgs false
set_option linter.unusedVariables false
attribute [local congr] T_congr callK_congr callWK_congr
attribute [local simp] run_nil run_op0 run_opg run_seq run_cond run_block run_ret run_skip run_skip_after run_skip_blk run_exit run_exit_after run_exit_blk run_loop run_any runS_nil runS_op0 runS_opg runW_nil runW_op0 runW_opg exec_q exec_w exec_c exec_n execW_q execW_w execW_c restW_app hideH_app merge_app wblk rest_app restS_app execS_q execS_c aval dOk upd_app ev_t ev_c setO_some setO_none put_mk pinsOf isIo hasIo sbin endR fin resL one outL out1 clo1 cloL coe coeL shut shut.shutL wantA weff cellsOf fillA deref natOf ρ0_app h0_app plain plain.plainL keep_app keepH_app andThen_normal andThen_ret andThen_exit pop_nil pop_after pop_after_ret pop_after_exit pop_blk pop_blk_ret pop_blk_exit nilA srcOf srcCells keepR_app keepHR_app renA rb toldρ toldH toldT toldB menQ_sc menQ_sl menQ_ref menQ_em menQ_un menQ_roT mens_cons mens_nil toldF merge_nil hideH_nil str_n rows_nil rowsS_len rowsC_len rowsC_fr rowsS_fr Rd_mk Rl_mk menB exQ_exit exQ_ret wrap_i64 bs_size bs_list bs_toList bs_get bs_extract mk_bs bs_eta List.getElem?_cons_zero List.getElem?_cons_succ List.length_cons oLt oNlt oLe oNle nLt nNlt nLe nNle iniρ andThen_normal over
set_option maxRecDepth 100000
def upI (n : Int) : Bool := decide (65 ≤ n) && decide (n ≤ 90)
def preC (c : UInt8) : Bool := smallI c.toNat || (upI c.toNat || (figI c.toNat || decide ((c.toNat : Int) = 45)))
def preB (l : List UInt8) : Bool := l.all preC && (inR l.length 1 8 && (!figL l || (decide (l.length = 1) || !(l.head? == some 48))))
def verB (v : Ver) : Bool := v.pre.all (fun s => preB s.data.toList) && (inR v.a 0 9999 && (inR v.b 0 9999 && (inR v.c 0 9999 && decide (v.pre.length ≤ 3))))
def verS (v : Ver) : ByteArray := numT v.a.toNat ++ bs [46] ++ numT v.b.toNat ++ bs [46] ++ numT v.c.toNat ++ (if v.pre = [] then bs [] else bs [45] ++ joinB v.pre (bs [46]))
def verT (v : Ver) : ByteArray := if verB v = true then verS v else bs []
theorem at_get {α : Type} {pre rest l : List α} {c : α} (hx : pre ++ c :: rest = l) (h : pre.length < l.length) : l[pre.length]'h = c := by
  subst hx
  simp
theorem app_nil (a : ByteArray) : a ++ bs [] = a := by
  apply ByteArray.ext
  rw [ByteArray.data_append]
  exact Array.append_empty
def AllP {α : Type} (p : α → Bool) (l : List α) : Prop := l.all p = true
theorem AllP.nil {α : Type} {p : α → Bool} : AllP p [] := rfl
theorem AllP.snoc {α : Type} {p : α → Bool} {l : List α} {x : α} (h : AllP p l) (hx : p x = true) : AllP p (l ++ [x]) := by
  unfold AllP at h ⊢
  rw [List.all_append, h]
  simp [hx]
theorem AllP.not {α : Type} {p : α → Bool} {pre rest l : List α} {x : α} (e : pre ++ x :: rest = l) (hx : p x = false) : l.all p = false := by
  rw [← e]
  simp [hx]
theorem joinB_le {n : Nat} (sep : ByteArray) : ∀ {xs : List ByteArray}, (∀ x ∈ xs, x.size ≤ n) → (joinB xs sep).size ≤ xs.length * (sep.size + n) := by
  have ht : ∀ k : List ByteArray, (∀ x ∈ k, x.size ≤ n) → (Lib.joinTail sep.data.toList (k.map (·.data.toList))).length ≤ k.length * (sep.size + n) := by
    intro k
    induction k with
    | nil => intro _; simp [Lib.joinTail]
    | cons x k ih =>
      intro hk
      have h1 := ih fun y hy => hk y (by simp [hy])
      have h2 : x.data.toList.length ≤ n := hk x (by simp)
      have hs : sep.data.toList.length = sep.size := rfl
      simp only [Lib.joinTail] at h1 ⊢
      rw [List.map_cons, List.map_cons, List.flatten_cons, List.length_append, List.length_append, List.length_cons, Nat.succ_mul, hs]
      omega
  intro xs h
  have e : (joinB xs sep).size = (Lib.join (xs.map (·.data.toList)) sep.data.toList).length := by
    show (List.toArray _).size = _
    rw [List.size_toArray]
  rw [e]
  cases xs with
  | nil => simp [Lib.join]
  | cons x l =>
    have h1 := ht l fun y hy => h y (by simp [hy])
    have h2 : x.data.toList.length ≤ n := h x (by simp)
    rw [List.map_cons, Lib.join_cons, List.length_append, List.length_cons, Nat.succ_mul]
    omega
theorem R188 (xs : List ByteArray) (sep : ByteArray) (hN : xs.length ≤ 140737488355328) (hlen : (joinB xs sep).size ≤ 140737488355328) : Ret Tryz.prog 188 [.ro (rows Ty.str.cs xs) xs.length, .sc (.string sep)] (.sc (.string (joinB xs sep))) [.un, .un] := Ret.joinOf Tryz.laysJoin Tryz.extraJoin rfl xs sep hN hlen
theorem R121 (l : List UInt8) (hl : l.length ≤ 140737488351232) : Ret Tryz.prog 121 [.sc (.string (bs l))] (.sc (.bool (figL l && !l.isEmpty))) [.un] := by
  refine Ret.go Tryz.func121 ?_
  simp (disch := omega) []
  refine T.forL l (fun pre _ => figL pre = true) (fun pre _ => [(0, .sc (.string (bs l))), (3, .sc (.int .i64 pre.length))]) (fun _ _ => []) (by simp [figL]) ?_ ?_
  · intro hJ
    simp (disch := omega) [hJ]
    refine T.on 400 ?_
    cases l <;> simp [bs_toList]
  · intro pre c rest hx hl2 hJ
    have hg := at_get hx
    have rF := R96 c
    have e : figL l = (figI c.toNat && figL rest) := by rw [← hx, figL_app, figL, hJ]; rfl
    cases h : figI c.toNat <;> rw [h] at rF e
    · simp (disch := omega) [hg]
      refine cR rF ?_
      simp (disch := omega) [e]
    · simp (disch := omega) [hg]
      refine cR rF ?_
      simp (disch := omega) [figL_app, figL, hJ, h]
set_option maxHeartbeats 1000000 in
theorem R97 (l : List UInt8) (hl : l.length ≤ 140737488351232) : Ret Tryz.prog 97 [.sc (.string (bs l))] (.sc (.bool (preB l))) [.un] := by
  refine Ret.go Tryz.func97 ?_
  simp (disch := omega) []
  refine T.forL l (fun pre _ => AllP preC pre) (fun pre _ => [(0, .sc (.string (bs l))), (3, .sc (.int .i64 pre.length))]) (fun _ _ => []) (by simp [AllP.nil]) ?_ ?_
  · intro hJ
    have rI := R27 l.length 1 8
    have rF := R121 l hl
    have e : preB l = (inR l.length 1 8 && (!figL l || (decide (l.length = 1) || !(l.head? == some 48)))) := by rw [preB, show l.all preC = true from hJ]; rfl
    rw [e]
    simp (disch := omega) []
    refine T.on 400 ?_
    simp (disch := omega) []
    refine cR rI ?_
    cases h1 : inR l.length 1 8
    · simp (disch := omega) [h1]
    · obtain ⟨x, t, rfl⟩ : ∃ x t, l = x :: t := by
        cases l with
        | nil => simp [inR] at h1
        | cons x t => exact ⟨x, t, rfl⟩
      simp (disch := omega) []
      refine cR rF ?_
      cases h2 : figL (x :: t)
      · simp (disch := omega) [h2]
      · by_cases h3 : x.toNat = 48
        · have h4 : x = 48 := UInt8.toNat_inj.1 h3
          subst h4
          cases t <;> simp (disch := omega) [h2, bs_toList]
        · have h4 : ¬ x = 48 := fun e => h3 (by rw [e]; rfl)
          have h5 : ((x.toNat : Int) != 48) = true := by simp; omega
          have h6 : (x == 48) = false := by simp [h4]
          simp (disch := omega) [h2, h5, h6, bs_toList]
  · intro pre c rest hx hl2 hJ
    have hg := at_get hx
    have rF := R96 c
    have rS := R95 c
    have e : preC c = false → preB l = false := fun h => by
      rw [preB, AllP.not hx h]; rfl
    have e2 : preC c = true → AllP preC (pre ++ [c]) := hJ.snoc
    unfold preC upI at e e2
    have k := c.toNat_lt
    cases h1 : smallI c.toNat <;> rw [h1] at rS e e2
    · by_cases h2 : (65 : Int) ≤ c.toNat ∧ (c.toNat : Int) ≤ 90
      · obtain ⟨h2, h3⟩ := h2
        simp (disch := omega) [hg]
        refine cR rS ?_
        simp (disch := omega) [h2, h3]
        exact e2 (by simp [h2, h3])
      · have h4 : (decide ((65 : Int) ≤ c.toNat) && decide ((c.toNat : Int) ≤ 90)) = false := by
          simp only [Bool.and_eq_false_imp, decide_eq_true_eq, decide_eq_false_iff_not]
          exact fun a b => h2 ⟨a, b⟩
        rw [h4] at e e2
        have h5 : ((65 : Int) ≤ c.toNat ∧ ¬ (c.toNat : Int) ≤ 90) ∨ ¬ (65 : Int) ≤ c.toNat := by omega
        simp (disch := omega) [hg]
        refine cR rS ?_
        rcases h5 with ⟨h6, h7⟩ | h6 <;> cases h8 : figI c.toNat <;> rw [h8] at rF e e2 <;> by_cases h9 : (c.toNat : Int) = 45
        all_goals
          first | (simp (disch := omega) [h6, h7]) | (simp (disch := omega) [h6])
          refine cR rF ?_
          simp (disch := omega) [h9]
          first | exact e2 (by simp [h9]) | exact e (by simp [h9])
    · simp (disch := omega) [hg]
      refine cR rS ?_
      simp (disch := omega) []
      exact e2 rfl
set_option maxHeartbeats 1000000 in
theorem R61 (v : Ver) (hp : v.pre.length ≤ 1048577) (hz : ∀ x ∈ v.pre, x.size ≤ 1048577) : Ret Tryz.prog 61 [.agg (Ver.ty.cs v)] (.sc (.bool (verB v))) [.un] := by
  rw [Ver.cse]
  unfold verB
  obtain ⟨a, b, c, ps⟩ := v
  simp only at hp hz ⊢
  refine Ret.go Tryz.func61 ?_
  simp (disch := omega) []
  refine T.forL ps (fun pre _ => AllP (fun s : ByteArray => preB s.data.toList) pre) (fun pre _ => [(1, .ref 1 0), (6, .ro (rows Ty.str.cs ps) ps.length), (7, .sc (.int .i64 ps.length)), (8, .sc (.int .i64 pre.length))]) (fun _ _ => [(1, [.sc (.int .i64 a), .sc (.int .i64 b), .sc (.int .i64 c), .ro (rows Ty.str.cs ps) ps.length])]) (by simp [AllP.nil]) ?_ ?_
  · intro hJ
    have hJ2 : ps.all (fun s : ByteArray => preB s.data.toList) = true := hJ
    have r1 := R27 a 0 9999
    have r2 := R27 b 0 9999
    have r3 := R27 c 0 9999
    rw [hJ2]
    generalize inR a 0 9999 = x at *
    generalize inR b 0 9999 = y at *
    generalize inR c 0 9999 = z at *
    simp (disch := omega) []
    refine T.on 400 ?_
    simp (disch := omega) []
    refine cR r1 ?_
    cases x
    · simp (disch := omega) []
    simp (disch := omega) []
    refine cR r2 ?_
    cases y
    · simp (disch := omega) []
    simp (disch := omega) []
    refine cR r3 ?_
    cases z
    · simp (disch := omega) []
    simp (disch := omega) []
    omega
  · intro q x rest hx hl2 hJ
    have hd : List.drop q.length (rows Ty.str.cs ps) = .sc (.string x) :: rows Ty.str.cs rest := by rw [rowsC_drop, ← hx, drop_pre, rowsC_cons]
    have rP := R97 x.data.toList (Nat.le_trans (hz x (by rw [← hx]; simp)) (by decide))
    rw [bs_eta] at rP
    cases h : preB x.data.toList <;> rw [h] at rP
    · have e : ps.all (fun s : ByteArray => preB s.data.toList) = false := AllP.not hx h
      simp (disch := omega) [hd]
      refine cR rP ?_
      simp (disch := omega) [e]
    · simp (disch := omega) [hd]
      refine cR rP ?_
      simp (disch := omega) []
      exact hJ.snoc h
theorem verB_of {v : Ver} (h : verB v = true) : (0 ≤ v.a ∧ v.a ≤ 9999) ∧ (0 ≤ v.b ∧ v.b ≤ 9999) ∧ (0 ≤ v.c ∧ v.c ≤ 9999) ∧ v.pre.length ≤ 3 ∧ ∀ x ∈ v.pre, preB x.data.toList = true := by
  simp only [verB, inR, Bool.and_eq_true, decide_eq_true_eq, List.all_eq_true] at h
  exact ⟨h.2.1, h.2.2.1, h.2.2.2.1, h.2.2.2.2, h.1⟩
theorem preB_size {x : ByteArray} (h : preB x.data.toList = true) : 1 ≤ x.size ∧ x.size ≤ 8 := by
  simp only [preB, inR, Bool.and_eq_true, decide_eq_true_eq] at h
  have e : x.data.toList.length = x.size := rfl
  omega
set_option maxHeartbeats 1000000 in
theorem R169 (v : Ver) (hp : v.pre.length ≤ 1048577) (hz : ∀ x ∈ v.pre, x.size ≤ 1048577) : Ret Tryz.prog 169 [.agg (Ver.ty.cs v)] (.sc (.string (verT v))) [.un] := by
  have rV := R61 v hp hz
  unfold verT
  rw [Ver.cse] at rV ⊢
  cases h : verB v <;> rw [h] at rV
  · obtain ⟨a, b, c, ps⟩ := v
    refine Ret.go Tryz.func169 ?_
    simp (disch := omega) []
    refine cR rV ?_
    simp (disch := omega) []
  · obtain ⟨⟨a1, a2⟩, ⟨b1, b2⟩, ⟨c1, c2⟩, p1, p2⟩ := verB_of h
    have hj := joinB_le (n := 8) (bs [46]) fun x hx => (preB_size (p2 x hx)).2
    have rJ := R188 v.pre (bs [46]) (by omega) (by
      have : (bs [46]).size = 1 := rfl
      have h2 := Nat.mul_le_mul_right ((bs [46]).size + 8) p1
      omega)
    unfold verS
    obtain ⟨a, b, c, ps⟩ := v
    simp only at *
    obtain ⟨a, rfl⟩ := Int.eq_ofNat_of_zero_le a1
    obtain ⟨b, rfl⟩ := Int.eq_ofNat_of_zero_le b1
    obtain ⟨c, rfl⟩ := Int.eq_ofNat_of_zero_le c1
    have n1 := R187 a (by omega)
    have n2 := R187 b (by omega)
    have n3 := R187 c (by omega)
    have s1 := numT_size a
    have s2 := numT_size b
    have s3 := numT_size c
    simp only [Int.toNat_natCast]
    generalize numT a = ta at *
    generalize numT b = tb at *
    generalize numT c = tc at *
    refine Ret.go Tryz.func169 ?_
    simp (disch := omega) []
    refine cR rV ?_
    simp (disch := omega) []
    refine T.text 400 mixed (by kernel_rfl) (by kernel_rfl) ?_
    simp (disch := omega) []
    refine callSK.by rfl (by kernel_rfl) (by simp [roc_sc]) n1 ?_
    simp (disch := omega) [ByteArray.size_append]
    refine callSK.by rfl (by kernel_rfl) (by simp [roc_sc]) n2 ?_
    simp (disch := omega) [ByteArray.size_append]
    refine callSK.by rfl (by kernel_rfl) (by simp [roc_sc]) n3 ?_
    cases ps with
    | nil =>
      simp (disch := omega) [ByteArray.size_append, app_nil]
    | cons x ps =>
      have h2 := Nat.mul_le_mul_right ((bs [46]).size + 8) p1
      have h3 : (bs [46]).size = 1 := rfl
      rw [h3] at h2 hj
      generalize joinB (x :: ps) (bs [46]) = jt at *
      simp (disch := omega) [ByteArray.size_append]
      refine cR rJ ?_
      simp (disch := omega) [ByteArray.size_append]
set_option maxRecDepth 100000
def ver0 : Ver := ⟨0, 0, 0, []⟩
def verOf (c : ByteArray × ByteArray × Bool) (a b d : Nat) : Ver := ⟨a, b, d, if c.2.2 = true then splitS c.2.1 46 else []⟩
def parseVerC (c : ByteArray × ByteArray × Bool) : Option Ver :=
  match splitS c.1 46 with
  | [x, y, z] => match parseN x 9999, parseN y 9999, parseN z 9999 with
    | some a, some b, some d => if verB (verOf c a b d) = true then some (verOf c a b d) else none
    | _, _, _ => none
  | _ => none
def parseVer (s : ByteArray) : Option Ver := parseVerC (cutF s 45)
def verA (o : Option Ver) : AV := .tup [.agg (Ver.ty.oc (o.getD ver0)), .sc (.bool o.isSome)]
theorem ba_ext {a b : ByteArray} (h : a.data.toList = b.data.toList) : a = b := ByteArray.ext (Array.toList_inj.1 h)
theorem app_list (a b : ByteArray) : (a ++ b).data.toList = a.data.toList ++ b.data.toList := by rw [ByteArray.data_append, Array.toList_append]
theorem joinB_list (x : ByteArray) (l : List ByteArray) (sep : ByteArray) : (joinB (x :: l) sep).data.toList = x.data.toList ++ (l.map fun y => sep.data.toList ++ y.data.toList).flatten := by
  show (Lib.join ((x :: l).map (·.data.toList)) sep.data.toList) = _
  rw [List.map_cons, Lib.join_cons, Lib.joinTail, List.map_map]
  rfl
theorem split_join (s : ByteArray) (c : UInt8) : joinB (splitS s c.toNat) (bs [c]) = s := by
  have key : ∀ (l : List UInt8) (f i : Nat), f ≤ i → s.data.toList.drop i = l → ∃ x r, splitP s c.toNat f i l = x :: r ∧ x.data.toList ++ (r.map fun y => (bs [c]).data.toList ++ y.data.toList).flatten = s.data.toList.drop f := by
    intro l
    induction l with
    | nil =>
      intro f i hf hl
      refine ⟨s.extract f i, [], rfl, ?_⟩
      have h1 : s.data.toList.length ≤ i := List.drop_eq_nil_iff.1 hl
      rw [extract_toList, List.take_of_length_le h1]
      simp
    | cons b l ih =>
      intro f i hf hl
      have hi : i < s.data.toList.length := Nat.lt_of_not_le fun h => by rw [List.drop_eq_nil_iff.2 h] at hl; cases hl
      have hl2 : s.data.toList.drop (i + 1) = l := by rw [← List.drop_drop, hl]; rfl
      have hbi : s.data.toList[i] = b := by
        have := List.drop_eq_getElem_cons hi
        rw [hl] at this
        exact (List.cons.inj this).1.symm
      rw [splitP]
      split
      · rename_i hb
        have hbc : b = c := u8_eq.1 hb
        obtain ⟨x, r, h1, h2⟩ := ih (i + 1) (i + 1) (Nat.le_refl _) hl2
        refine ⟨s.extract f i, x :: r, by rw [h1], ?_⟩
        have e : s.data.toList = s.data.toList.take i ++ c :: s.data.toList.drop (i + 1) := by
          conv => lhs; rw [← List.take_append_drop i s.data.toList, hl, hbc, ← hl2]
        have e2 : s.data.toList.drop f = (s.data.toList.take i).drop f ++ c :: s.data.toList.drop (i + 1) := by
          conv => lhs; rw [e]
          rw [List.drop_append_of_le_length (by rw [List.length_take]; omega)]
        rw [e2, List.map_cons, List.flatten_cons, extract_toList, bs_list, List.append_assoc]
        rw [bs_list] at h2
        rw [h2]
        rfl
      · obtain ⟨x, r, h1, h2⟩ := ih f (i + 1) (by omega) hl2
        exact ⟨x, r, h1, h2⟩
  obtain ⟨x, r, h1, h2⟩ := key s.data.toList 0 0 (Nat.le_refl _) rfl
  apply ba_ext
  rw [splitS, h1, joinB_list]
  exact h2
theorem cut_join (s : ByteArray) (c : UInt8) : s = if (cutF s c).2.2 = true then (cutF s c).1 ++ bs [c] ++ (cutF s c).2.1 else (cutF s c).1 := by
  unfold cutF
  rcases ixB_cases c s.data.toList with ⟨e, hn⟩ | ⟨p, q, e, hn, e2⟩
  · rw [e]; rfl
  · rw [e2]
    have h0 : (0 : Int) ≤ (p.length : Int) := by omega
    rw [if_pos h0]
    simp only [if_true, Int.toNat_natCast]
    apply ba_ext
    rw [app_list, app_list, extract_toList, drop_str, bs_list, e]
    simp [List.take_append, List.drop_append]
theorem numT_of {s : ByteArray} {n : Nat} {most : Int} (h : parseN s most = some n) : numT n = s ∧ (n : Int) ≤ most := by
  unfold parseN at h
  split at h
  · rename_i hh
    obtain ⟨h1, h2, h3, h4⟩ := hh
    have e := Option.some.inj h
    have := (num_canon h1.1 h2).2 h3
    rw [Lib.toList_data, Lib.toList_data, e] at this
    exact ⟨ba_ext this, by rw [← e]; exact h4⟩
  · cases h
theorem split_ne (s : ByteArray) (c : UInt8) : splitS s c.toNat ≠ [] := fun h => by
  have := splitP_cnt s c s.data.toList 0 0
  rw [show splitP s c.toNat 0 0 s.data.toList = splitS s c.toNat from rfl, h] at this
  simp at this
theorem verS_of {s x y z : ByteArray} {a b d : Nat} (hs : splitS (cutF s 45).1 46 = [x, y, z]) (hx : parseN x 9999 = some a) (hy : parseN y 9999 = some b) (hz : parseN z 9999 = some d) : verS (verOf (cutF s 45) a b d) = s := by
  have hc := cut_join s 45
  have hj := split_join (cutF s 45).1 46
  have e46 : ((46 : UInt8).toNat : Int) = 46 := rfl
  rw [e46, hs] at hj
  have hj2 : (cutF s 45).1 = x ++ bs [46] ++ y ++ bs [46] ++ z := by
    rw [← hj]
    apply ba_ext
    rw [joinB_list]
    simp [app_list, bs_list]
  have e1 := (numT_of hx).1
  have e2 := (numT_of hy).1
  have e3 := (numT_of hz).1
  unfold verS verOf
  simp only [Int.toNat_natCast, e1, e2, e3]
  rw [← hj2]
  cases h : (cutF s 45).2.2
  · rw [h] at hc
    simp only [Bool.false_eq_true, if_false] at hc ⊢
    rw [if_pos trivial, app_nil]
    exact hc.symm
  · rw [h] at hc
    simp only [if_true] at hc ⊢
    have hn := split_ne (cutF s 45).2.1 46
    rw [e46] at hn
    rw [if_neg hn]
    have hj3 := split_join (cutF s 45).2.1 46
    rw [e46] at hj3
    rw [hj3]
    conv => rhs; rw [hc]
    apply ba_ext
    simp [app_list]
theorem parseVerC_not {c : ByteArray × ByteArray × Bool} (h : (splitS c.1 46).length ≠ 3) : parseVerC c = none := by
  unfold parseVerC
  generalize splitS c.1 46 = l at *
  match l, h with
  | [], _ => rfl
  | [_], _ => rfl
  | [_, _], _ => rfl
  | [_, _, _], h => exact absurd rfl h
  | _ :: _ :: _ :: _ :: _, _ => rfl
structure PvI (s : ByteArray) (c : ByteArray × ByteArray × Bool) (x y z : ByteArray) (px py pz : Option Nat) (i : Nat) (t : St) : Prop where
  hi : i ≤ 3
  hx : 0 < i → px.isSome = true
  hy : 1 < i → py.isSome = true
  hz : 2 < i → pz.isSome = true
  k0 : t.ρ 0 = .sc (.string s)
  k2 : t.ρ 2 = .ref 2 0
  k5 : t.ρ 5 = .sc (.string c.2.1)
  k6 : t.ρ 6 = .sc (.bool c.2.2)
  k7 : t.ρ 7 = .sl 20 0 3 1 false
  k8 : t.ρ 8 = .ref 8 0
  k28 : t.ρ 28 = .agg [.ref 8 0, .ref 8 1, .ref 8 2]
  k29 : t.ρ 29 = .sc (.int .i64 i)
  m2 : t.h 2 = some (some [.sc (.int .i64 0), .sc (.int .i64 0), .sc (.int .i64 0), .em])
  m20 : t.h 20 = some (some [.sc (.string x), .sc (.string y), .sc (.string z)])
  m8 : t.h 8 = some (some [.sc (.int .i64 (if 0 < i then (px.getD 0 : Nat) else (0 : Nat))), .sc (.int .i64 (if 1 < i then (py.getD 0 : Nat) else (0 : Nat))), .sc (.int .i64 (if 2 < i then (pz.getD 0 : Nat) else (0 : Nat))), .em])
  f50 : t.h 50 = none
  f600 : t.h 600 = none
  n : t.n = 58
set_option maxHeartbeats 4000000 in
theorem R136 (s : ByteArray) (hs : s.size ≤ 1048576) : Ret Tryz.prog 136 [.sc (.string s)] (verA (parseVer s)) [.un] := by
  have rC := R167 s 45 (by omega)
  have hcs := cutF_size s 45
  have hsp := fun a b d x y z => verS_of (s := s) (x := x) (y := y) (z := z) (a := a) (b := b) (d := d)
  unfold parseVer
  rw [cutRes] at rC
  generalize hcc : cutF s 45 = c at *
  have rS := R98 c.1 46 (by omega)
  have rS2 := R98 c.2.1 46 (by omega)
  have e46 : ((46 : UInt8).toNat : Int) = 46 := rfl
  rw [e46] at rS rS2
  have hno := parseVerC_not (c := c)
  by_cases h3 : (splitS c.1 46).length = 3
  · clear hno
    unfold parseVerC
    generalize hl : splitS c.1 46 = l at *
    have hfl := Ty.str.flo l
    obtain ⟨x, y, z, rfl⟩ : ∃ x y z, l = [x, y, z] := by
      match l, h3 with
      | [x, y, z], _ => exact ⟨x, y, z, rfl⟩
    have h9 : Ty.int.ok 9999 := show (-9223372036854775808 : Int) ≤ 9999 ∧ (9999 : Int) ≤ 9223372036854775807 by omega
    have n1 := R168 x 9999 h9
    have n2 := R168 y 9999 h9
    have n3 := R168 z 9999 h9
    simp only
    generalize hpx : parseN x 9999 = px at *
    generalize hpy : parseN y 9999 = py at *
    generalize hpz : parseN z 9999 = pz at *
    have fail : ∀ (o : Option Nat) (u v : Option Nat), (o = none → (match o, u, v with | some a, some b, some d => if verB (verOf c a b d) = true then some (verOf c a b d) else none | _, _, _ => none) = none) := fun o u v h => by rw [h]
    refine Ret.go Tryz.func136 ?_
    simp (disch := omega) []
    refine cR rC ?_
    simp (disch := omega) []
    refine cO 20 rS ?_ hfl
    simp (disch := omega) []
    refine T.rounds (μ := fun i : Nat => 3 - i) (PvI s c x y z px py pz) 0 (by constructor <;> simp; rfl) ?_
    rintro i ⟨ρ, hh, n⟩ ⟨hi, hx1, hy1, hz2, k0, k2, k5, k6, k7, k8, k28, k29, m2, m20, m8, f50, f600, rfl⟩
    simp only at k0 k2 k5 k6 k7 k8 k28 k29 m2 m20 m8 f50 f600
    refine run_ok (n := 1000) ?_
    have hz0 : ∀ u v : Option Nat, verA none = .tup [.agg [.sc (.int .i64 0), .sc (.int .i64 0), .sc (.int .i64 0), .own [] 0 1], .sc (.bool false)] := fun _ _ => rfl
    have : i = 0 ∨ i = 1 ∨ i = 2 ∨ i = 3 := by omega
    rcases this with rfl | rfl | rfl | rfl
    · simp at m8
      cases px <;> rw [numA] at n1
      · simp (disch := omega) [k0, k2, k7, k8, k28, k29, m2, m20, m8]
        refine cR n1 ?_
        simp (disch := omega) [k0, k2, k7, k8, k28, k29, m2, m20, m8, verA, ver0, Ver.oce, rows_nil]
      · simp (disch := omega) [k0, k2, k7, k8, k28, k29, m2, m20, m8]
        refine cR n1 ?_
        simp (disch := omega) [k0, k2, k7, k8, k28, k29, m2, m20, m8]
        exact ⟨1, by omega, _, Le.refl _, by constructor <;> simp [k0, k2, k5, k6, k7, k8, k28, m2, m20, f50, f600]⟩
    · obtain ⟨a, rfl⟩ := Option.isSome_iff_exists.1 (hx1 (by omega))
      simp at m8
      cases py <;> rw [numA] at n2
      · simp (disch := omega) [k0, k2, k7, k8, k28, k29, m2, m20, m8]
        refine cR n2 ?_
        simp (disch := omega) [k0, k2, k7, k8, k28, k29, m2, m20, m8, verA, ver0, Ver.oce, rows_nil]
      · simp (disch := omega) [k0, k2, k7, k8, k28, k29, m2, m20, m8]
        refine cR n2 ?_
        simp (disch := omega) [k0, k2, k7, k8, k28, k29, m2, m20, m8]
        exact ⟨2, by omega, _, Le.refl _, by constructor <;> simp [k0, k2, k5, k6, k7, k8, k28, m2, m20, f50, f600]⟩
    · obtain ⟨a, rfl⟩ := Option.isSome_iff_exists.1 (hx1 (by omega))
      obtain ⟨b, rfl⟩ := Option.isSome_iff_exists.1 (hy1 (by omega))
      simp at m8
      cases pz <;> rw [numA] at n3
      · simp (disch := omega) [k0, k2, k7, k8, k28, k29, m2, m20, m8]
        refine cR n3 ?_
        simp (disch := omega) [k0, k2, k7, k8, k28, k29, m2, m20, m8, verA, ver0, Ver.oce, rows_nil]
      · simp (disch := omega) [k0, k2, k7, k8, k28, k29, m2, m20, m8]
        refine cR n3 ?_
        simp (disch := omega) [k0, k2, k7, k8, k28, k29, m2, m20, m8]
        exact ⟨3, by omega, _, Le.refl _, by constructor <;> simp [k0, k2, k5, k6, k7, k8, k28, m2, m20, f50, f600]⟩
    · obtain ⟨a, rfl⟩ := Option.isSome_iff_exists.1 (hx1 (by omega))
      obtain ⟨b, rfl⟩ := Option.isSome_iff_exists.1 (hy1 (by omega))
      obtain ⟨d, rfl⟩ := Option.isSome_iff_exists.1 (hz2 (by omega))
      simp at m8
      have hvs := hsp a b d x y z rfl hpx hpy hpz
      have hne : s.toList ≠ [] := fun e => by
        have h1 := congrArg ByteArray.size hvs
        rw [Lib.toList_data] at e
        have h2 : s.size = 0 := by show s.data.size = 0; rw [← Array.length_toList, e]; rfl
        rw [h2] at h1
        simp only [verS, ByteArray.size_append, bs_size, List.length_cons] at h1
        omega
      have hpl : (verOf c a b d).pre.length ≤ 1048577 ∧ ∀ q ∈ (verOf c a b d).pre, q.size ≤ 1048577 := by
        unfold verOf
        simp only
        split
        · have h1 := splitP_cnt c.2.1 46 c.2.1.data.toList 0 0
          rw [e46] at h1
          have h2 : c.2.1.data.toList.count 46 ≤ c.2.1.data.toList.length := List.count_le_length
          have h3 : c.2.1.data.toList.length = c.2.1.size := rfl
          have h4 := splitP_size c.2.1 46 c.2.1.data.toList 0 0
          exact ⟨by show (splitP c.2.1 46 0 0 c.2.1.data.toList).length ≤ _; omega, fun q hq => by have := h4 q hq; omega⟩
        · simp
      have rV := R169 (verOf c a b d) hpl.1 hpl.2
      have hVT : verT (verOf c a b d) = if verB (verOf c a b d) = true then s else bs [] := by rw [verT, hvs]
      rw [hVT, Ver.cse] at rV
      unfold verOf at rV ⊢
      simp only at rV ⊢
      cases hcb : c.2.2
      · rw [hcb] at rV k6
        simp only [Bool.false_eq_true, if_false] at rV ⊢
        generalize hvb : verB ⟨(a : Int), (b : Int), (d : Int), []⟩ = vb at *
        simp (disch := omega) [k29]
        refine T.on 400 ?_
        simp (disch := omega) [k0, k6, k8, m8]
        refine cR (Ret.sub (args' := [.agg [.sc (.int .i64 a), .sc (.int .i64 b), .sc (.int .i64 d), .em]]) rV ⟨⟨.inl rfl, .inl rfl, .inl rfl, .inr ⟨rfl, rfl⟩, trivial⟩, trivial⟩) ?_
        cases vb
        · simp (disch := omega) [k0, k2, k8, m2, m8, verA, ver0, Ver.oce, rows_nil, hne, bs_toList]
        · simp (disch := omega) [k0, k2, k8, m2, m8, verA, ver0, Ver.oce, rows_nil]
      · rw [hcb] at rV k6
        simp only [if_true] at rV ⊢
        have hfl2 := Ty.str.flo (splitS c.2.1 46)
        have hf2 := rowsS_fr (splitS c.2.1 46)
        have hl2 := rowsS_len (splitS c.2.1 46)
        generalize hvb : verB ⟨(a : Int), (b : Int), (d : Int), splitS c.2.1 46⟩ = vb at *
        generalize splitS c.2.1 46 = ps at *
        simp (disch := omega) [k29]
        refine T.on 400 ?_
        simp (disch := omega) [k5, k6]
        refine cO 50 rS2 ?_ hfl2 (hh := f50)
        simp (disch := omega) [k0, k8, m8]
        refine cR rV ?_ (hys := by simp [roc_ag, shut, shut.shutL, rocS7, roc_sc])
        cases vb
        · simp (disch := omega) [k0, k2, k8, m2, m8, verA, ver0, Ver.oce, rows_nil, hne, bs_toList]
        · simp (disch := omega) [k0, k2, k8, m2, m8, verA, Ver.oce, ex1, hf2, hl2]
  · rw [hno h3]
    have hfl := Ty.str.flo (splitS c.1 46)
    generalize splitS c.1 46 = l at *
    have hlI : ¬ (l.length : Int) = 3 := by omega
    refine Ret.go Tryz.func136 ?_
    simp (disch := omega) []
    refine cR rC ?_
    simp (disch := omega) []
    refine cO 20 rS ?_ hfl
    simp (disch := omega) [h3, hlI, verA, ver0, Ver.oce, rows_nil]
set_option maxRecDepth 100000
theorem R145 (l : List UInt8) (hl : l.length ≤ 140737488351232) : Ret Tryz.prog 145 [.sc (.string (bs l))] (.sc (.bool (figL l))) [.un] := by
  refine Ret.go Tryz.func145 ?_
  simp (disch := omega) []
  refine T.forL l (fun pre _ => figL pre = true) (fun pre _ => [(0, .sc (.string (bs l))), (3, .sc (.int .i64 pre.length))]) (fun _ _ => []) (by simp [figL]) ?_ ?_
  · intro hJ
    simp (disch := omega) [hJ]
    refine T.on 400 ?_
    simp (disch := omega) []
  · intro pre c rest hx hl2 hJ
    have hg := at_get hx
    have rF := R114 c
    have e : figL l = (figI c.toNat && figL rest) := by rw [← hx, figL_app, figL, hJ]; rfl
    cases h : figI c.toNat <;> rw [h] at rF e
    · simp (disch := omega) [hg]
      refine cR rF ?_
      simp (disch := omega) [e]
    · simp (disch := omega) [hg]
      refine cR rF ?_
      simp (disch := omega) [figL_app, figL, hJ, h]
set_option maxHeartbeats 1000000 in
theorem R115 (l : List UInt8) (hl : l.length ≤ 140737488351232) : Ret Tryz.prog 115 [.sc (.string (bs l))] (.sc (.bool (preB l))) [.un] := by
  refine Ret.go Tryz.func115 ?_
  simp (disch := omega) []
  refine T.forL l (fun pre _ => AllP preC pre) (fun pre _ => [(0, .sc (.string (bs l))), (3, .sc (.int .i64 pre.length))]) (fun _ _ => []) (by simp [AllP.nil]) ?_ ?_
  · intro hJ
    have rI := R42 l.length 1 8
    have rF := R145 l hl
    have e : preB l = (inR l.length 1 8 && (!figL l || (decide (l.length = 1) || !(l.head? == some 48)))) := by rw [preB, show l.all preC = true from hJ]; rfl
    rw [e]
    simp (disch := omega) []
    refine T.on 400 ?_
    simp (disch := omega) []
    refine cR rI ?_
    cases h1 : inR l.length 1 8
    · simp (disch := omega) [h1]
    · obtain ⟨x, t, rfl⟩ : ∃ x t, l = x :: t := by
        cases l with
        | nil => simp [inR] at h1
        | cons x t => exact ⟨x, t, rfl⟩
      simp (disch := omega) []
      refine cR rF ?_
      cases h2 : figL (x :: t)
      · simp (disch := omega) [h2]
      · by_cases h3 : x.toNat = 48
        · have h4 : x = 48 := UInt8.toNat_inj.1 h3
          subst h4
          cases t with
          | nil => simp (disch := omega) [h2]
          | cons y t =>
            have h5 : ¬ ((t.length : Int) + 1 + 1 = 1) := by omega
            simp (disch := omega) [h2, h5]
        · have h5 : ((x.toNat : Int) != 48) = true := by simp; omega
          have h6 : (x == 48) = false := by simp; exact fun e => h3 (by rw [e]; rfl)
          cases t with
          | nil => simp (disch := omega) [h2, h5, h6]
          | cons y t =>
            have h7 : ¬ ((t.length : Int) + 1 + 1 = 1) := by omega
            simp (disch := omega) [h2, h5, h6, h7]
  · intro pre c rest hx hl2 hJ
    have hg := at_get hx
    have rF := R114 c
    have rS := R113 c
    have rU := R42 c.toNat 65 90
    have e : preC c = false → preB l = false := fun h => by
      rw [preB, AllP.not hx h]; rfl
    have e2 : preC c = true → AllP preC (pre ++ [c]) := hJ.snoc
    unfold preC at e e2
    rw [show inR c.toNat 65 90 = upI c.toNat from rfl] at rU
    have k := c.toNat_lt
    cases h1 : figI c.toNat <;> rw [h1] at rF e e2
    · cases h2 : smallI c.toNat <;> rw [h2] at rS e e2
      · cases h3 : upI c.toNat <;> rw [h3] at rU e e2
        · by_cases h9 : (c.toNat : Int) = 45
          all_goals
            simp (disch := omega) [hg]
            refine cR rF ?_
            simp (disch := omega) [hg]
            refine cR rS ?_
            simp (disch := omega) [hg]
            refine cR rU ?_
            simp (disch := omega) [hg, h9]
            first | exact e2 (by simp [h9]) | exact e (by simp [h9])
        · simp (disch := omega) [hg]
          refine cR rF ?_
          simp (disch := omega) [hg]
          refine cR rS ?_
          simp (disch := omega) [hg]
          refine cR rU ?_
          simp (disch := omega) []
          exact e2 (by simp)
      · simp (disch := omega) [hg]
        refine cR rF ?_
        simp (disch := omega) [hg]
        refine cR rS ?_
        simp (disch := omega) []
        exact e2 (by simp)
    · simp (disch := omega) [hg]
      refine cR rF ?_
      simp (disch := omega) []
      exact e2 (by simp)
set_option maxHeartbeats 1000000 in
theorem R76 (v : Ver) (hp : v.pre.length ≤ 1048577) (hz : ∀ x ∈ v.pre, x.size ≤ 1048577) : Ret Tryz.prog 76 [.agg (Ver.ty.cs v)] (.sc (.bool (verB v))) [.un] := by
  rw [Ver.cse]
  unfold verB
  obtain ⟨a, b, c, ps⟩ := v
  simp only at hp hz ⊢
  refine Ret.go Tryz.func76 ?_
  simp (disch := omega) []
  refine T.forL ps (fun pre _ => AllP (fun s : ByteArray => preB s.data.toList) pre) (fun pre _ => [(1, .ref 1 0), (3, .sc (.int .i64 pre.length))]) (fun _ _ => [(1, [.sc (.int .i64 a), .sc (.int .i64 b), .sc (.int .i64 c), .ro (rows Ty.str.cs ps) ps.length])]) (by simp [AllP.nil]) ?_ ?_
  · intro hJ
    have hJ2 : ps.all (fun s : ByteArray => preB s.data.toList) = true := hJ
    have r1 := R42 a 0 9999
    have r2 := R42 b 0 9999
    have r3 := R42 c 0 9999
    rw [hJ2]
    generalize inR a 0 9999 = x at *
    generalize inR b 0 9999 = y at *
    generalize inR c 0 9999 = z at *
    simp (disch := omega) []
    refine T.on 400 ?_
    simp (disch := omega) []
    refine cR r1 ?_
    cases x
    · simp (disch := omega) []
    simp (disch := omega) []
    refine cR r2 ?_
    cases y
    · simp (disch := omega) []
    simp (disch := omega) []
    refine cR r3 ?_
    cases z
    · simp (disch := omega) []
    simp (disch := omega) []
    omega
  · intro q x rest hx hl2 hJ
    have hd : List.drop q.length (rows Ty.str.cs ps) = .sc (.string x) :: rows Ty.str.cs rest := by rw [rowsC_drop, ← hx, drop_pre, rowsC_cons]
    have rP := R115 x.data.toList (Nat.le_trans (hz x (by rw [← hx]; simp)) (by decide))
    rw [bs_eta] at rP
    cases h : preB x.data.toList <;> rw [h] at rP
    · have e : ps.all (fun s : ByteArray => preB s.data.toList) = false := AllP.not hx h
      simp (disch := omega) [hd]
      refine cR rP ?_
      simp (disch := omega) [e]
    · simp (disch := omega) [hd]
      refine cR rP ?_
      simp (disch := omega) []
      exact hJ.snoc h
set_option maxRecDepth 100000
theorem splitS_bounds (s : ByteArray) (c : UInt8) : (splitS s c.toNat).length ≤ s.size + 1 ∧ ∀ x ∈ splitS s c.toNat, x.size ≤ s.size := by
  have h1 := splitP_cnt s c s.data.toList 0 0
  have h2 : s.data.toList.count c ≤ s.data.toList.length := List.count_le_length
  have h3 : s.data.toList.length = s.size := rfl
  exact ⟨by show (splitP s c.toNat 0 0 s.data.toList).length ≤ _; omega, splitP_size s c.toNat s.data.toList 0 0⟩
theorem cut_bs (l : List UInt8) (c : UInt8) : ∃ p tl, l = p ++ tl ∧ c ∉ p ∧ ((tl = [] ∧ cutF (bs l) c = (bs p, bs [], false)) ∨ ∃ q, tl = c :: q ∧ cutF (bs l) c = (bs p, bs q, true)) := by
  unfold cutF
  rw [bs_list]
  rcases ixB_cases c l with ⟨e, hn⟩ | ⟨p, q, e, hn, e2⟩
  · exact ⟨l, [], by simp, hn, .inl ⟨rfl, by rw [e]; rfl⟩⟩
  · refine ⟨p, c :: q, e, hn, .inr ⟨q, rfl, ?_⟩⟩
    rw [e2, if_pos (by omega), bs_extract, bs_extract, bs_size, Int.toNat_natCast]
    have h1 : l.take p.length = p := by rw [e]; simp
    have h2 : (l.take l.length).drop (p.length + 1) = q := by rw [List.take_length, e, ← List.drop_drop]; simp
    rw [h1, h2]
    rfl
set_option maxHeartbeats 4000000 in
theorem R175 (s : ByteArray) (hs : s.size ≤ 1048576) : Ret Tryz.prog 175 [.sc (.string s)] (verA (parseVer s)) [.un] := by
  unfold parseVer
  obtain ⟨l, rfl⟩ : ∃ l, s = bs l := ⟨s.data.toList, rfl⟩
  rw [bs_size] at hs
  obtain ⟨p, tl, hl, hn, hc⟩ := cut_bs l 45
  have hpl : p.length ≤ l.length := by rw [hl]; simp
  have hll : l.length = p.length + tl.length := by rw [hl]; simp
  have htk : l.take p.length = p := by rw [hl]; simp
  generalize cutF (bs l) 45 = c at *
  refine Ret.go Tryz.func175 ?_
  simp (disch := omega) []
  refine T.cutLT [(0, .sc (.string (bs l))), (2, .ref 2 0), (4, .ref 4 0), (5, .sc (.int .i64 p.length))] [(2, [.sc (.int .i64 0), .sc (.int .i64 0), .sc (.int .i64 0), .em]), (4, [.sc (.int .i64 0), .sc (.int .i64 0), .sc (.int .i64 0), .em])] ?_ ?_
  · refine T.forR p (fun _ _ => True) (fun q _ => [(0, .sc (.string (bs l))), (2, .ref 2 0), (4, .ref 4 0), (5, .sc (.int .i64 q.length))]) (fun _ _ => [(2, [.sc (.int .i64 0), .sc (.int .i64 0), .sc (.int .i64 0), .em]), (4, [.sc (.int .i64 0), .sc (.int .i64 0), .sc (.int .i64 0), .em])]) ⟨trivial, Tl.same rfl (by simp) (by simp)⟩ ?_ ?_
    · intro _
      rcases hc with ⟨rfl, _⟩ | ⟨q, rfl, _⟩
      · simp only [List.length_nil, Nat.add_zero] at hll
        simp (disch := omega) [hll]
        exact Tl.same rfl (by simp) (by simp)
      · simp only [List.length_cons] at hll
        have hg := at_get hl.symm
        simp (disch := omega) [hg]
        exact Tl.same rfl (by simp) (by simp)
    · intro q b rest hx hl2 _
      have hb : ¬ b = 45 := fun e => hn (by rw [← hx, e]; simp)
      have hbi : ((b.toNat : Int) != 45) = true := by
        simp
        exact fun e => hb (UInt8.toNat_inj.1 (show b.toNat = 45 by omega))
      have hg : ∀ h : q.length < l.length, l[q.length]'h = b := at_get (rest := rest ++ tl) (by rw [hl, ← hx]; simp)
      simp (disch := omega) [hg, hbi]
      exact Tl.same rfl (by simp) (by simp)
  · obtain ⟨ps, hps⟩ : ∃ ps, ps = if c.2.2 = true then splitS c.2.1 46 else [] := ⟨_, rfl⟩
    have hc1 : c.1 = bs p := by rcases hc with ⟨_, rfl⟩ | ⟨q, _, rfl⟩ <;> rfl
    refine T.seq1 (T.cutN [(0, .sc (.string (bs l))), (2, .ref 2 0), (4, .ref 4 0), (5, .sc (.int .i64 p.length))] [(2, [.sc (.int .i64 0), .sc (.int .i64 0), .sc (.int .i64 0), .em]), (4, [.sc (.int .i64 0), .sc (.int .i64 0), .sc (.int .i64 0), .sl 34 0 ps.length 1 false]), (34, rows Ty.str.oc ps)] ?_ ?_)
    · refine run_at (n := 1000) ?_
      rcases hc with ⟨rfl, rfl⟩ | ⟨q, rfl, rfl⟩
      · simp only [List.length_nil, Nat.add_zero] at hll
        simp only [Bool.false_eq_true, if_false] at hps
        subst hps
        simp (disch := omega) [hll, nQ_normal]
        refine Tl.le (Le.layS 4 3 34 1 (by simp; rfl) rfl (by simp)) (Tl.same rfl (by simp) (by simp [rows_nil]))
      · simp only [List.length_cons] at hll
        simp only [if_true] at hps
        have rS := R148 (bs q) 46 (by rw [bs_size]; omega)
        rw [← hps] at rS
        have hdq : List.drop (p.length + 1) l = q := by rw [hl, ← List.drop_drop]; simp
        simp (disch := omega) [nQ_normal, hdq]
        refine cO 34 rS ?_ (Ty.str.flo _)
        simp (disch := omega) [nQ_normal]
        exact Tl.same rfl (by simp) (by simp [mens_idf (rowsS_fr _)])
    · have hp1 := rowsS_fr ps
      have hp2 := rowsS_len ps
      have hcz : c.2.1.size ≤ 1048576 := by
        rcases hc with ⟨_, rfl⟩ | ⟨q, rfl, rfl⟩
        · exact Nat.zero_le _
        · simp only [List.length_cons] at hll
          show (bs q).size ≤ _
          rw [bs_size]; omega
      have hpz : ps.length ≤ 1048577 ∧ ∀ x ∈ ps, x.size ≤ 1048577 := by
        rw [hps]
        split
        · have h1 := splitS_bounds c.2.1 46
          have e46 : ((46 : UInt8).toNat : Int) = 46 := rfl
          rw [e46] at h1
          exact ⟨by omega, fun x hx => by have := h1.2 x hx; omega⟩
        · simp
      have rS := R148 c.1 46 (by rw [hc1, bs_size]; omega)
      have hno := parseVerC_not (c := c)
      have hvo : ∀ a b d : Nat, verOf c a b d = ⟨a, b, d, ps⟩ := fun a b d => by rw [verOf, hps]
      by_cases h3 : (splitS c.1 46).length = 3
      · clear hno
        unfold parseVerC
        have hsz := splitP_size c.1 46 c.1.data.toList 0 0
        rw [show splitP c.1 46 0 0 c.1.data.toList = splitS c.1 46 from rfl] at hsz
        have hc1z : c.1.size ≤ 1048576 := by rw [hc1, bs_size]; omega
        generalize hl : splitS c.1 46 = k at *
        have hfl := Ty.str.flo k
        obtain ⟨x, y, z, rfl⟩ : ∃ x y z, k = [x, y, z] := by
          match k, h3 with
          | [x, y, z], _ => exact ⟨x, y, z, rfl⟩
        have h9 : Ty.int.ok 9999 := show (-9223372036854775808 : Int) ≤ 9999 ∧ (9999 : Int) ≤ 9223372036854775807 by omega
        have n1 := R193 x 9999 h9 (by have := hsz x (by simp); omega)
        have n2 := R193 y 9999 h9 (by have := hsz y (by simp); omega)
        have n3 := R193 z 9999 h9 (by have := hsz z (by simp); omega)
        have rw3 : rows Ty.str.oc [x, y, z] = [.sc (.string x), .sc (.string y), .sc (.string z)] := rfl
        rw [rw3] at rS hfl
        rw [hc1] at rS
        simp only [hvo]
        generalize parseN x 9999 = px at *
        generalize parseN y 9999 = py at *
        generalize parseN z 9999 = pz at *
        simp (disch := omega) [htk]
        refine cO 39 rS ?_ hfl
        cases px <;> cases py <;> cases pz <;> simp only [numA] at n1 n2 n3
        all_goals
          simp (disch := omega) []
          refine cR n1 ?_
          simp (disch := omega) []
          refine cR n2 ?_
          simp (disch := omega) []
          refine cR n3 ?_
        case some.some.some a b d =>
          have rV := R76 ⟨a, b, d, ps⟩ hpz.1 hpz.2
          rw [Ver.cse] at rV
          generalize verB ⟨a, b, d, ps⟩ = vb at *
          simp (disch := omega) []
          refine cR rV ?_ (hys := by simp [roc_ag, shut, shut.shutL, rocS7, roc_sc])
          cases vb
          · simp (disch := omega) [verA, ver0, Ver.oce, rows_nil]
          · simp (disch := omega) [verA, Ver.oce, ex1, hp1, hp2]
        all_goals
          simp (disch := omega) [verA, ver0, Ver.oce, rows_nil]
      · rw [hno h3]
        have hfl := Ty.str.flo (splitS c.1 46)
        rw [hc1] at rS
        rw [hc1] at h3 hfl
        generalize splitS (bs p) 46 = k at *
        have hlI : ¬ (k.length : Int) = 3 := by omega
        simp (disch := omega) [htk]
        refine cO 39 rS ?_ hfl
        simp (disch := omega) [h3, hlI, verA, ver0, Ver.oce, rows_nil]
set_option maxRecDepth 100000
theorem less_dec : ∀ (x y : List UInt8), Op.bytesLess x y = decide (x < y)
  | [], [] => by simp [Op.bytesLess]
  | _ :: _, [] => by simp [Op.bytesLess]
  | [], _ :: _ => by simp [Op.bytesLess]
  | a :: x, b :: y => by
    rw [Op.bytesLess, less_dec x y]
    simp only [List.cons_lt_cons_iff]
    by_cases h1 : a < b <;> by_cases h2 : a = b <;> by_cases h3 : x < y <;> simp [h1, h2, h3]
def bL (a b : ByteArray) : Bool := Op.bytesLess a.toList b.toList
theorem bL_lt {a b : ByteArray} : bL a b = true ↔ a.data.toList < b.data.toList := by
  unfold bL
  rw [less_dec, Lib.toList_data, Lib.toList_data]
  simp
theorem bL_irr (a : ByteArray) : bL a a = false := by
  cases h : bL a a
  · rfl
  · exact (List.lt_irrefl _ (bL_lt.1 h)).elim
theorem bL_asy {a b : ByteArray} (h : bL a b = true) : bL b a = false := by
  cases h2 : bL b a
  · rfl
  · exact (List.lt_irrefl _ (List.lt_trans (bL_lt.1 h) (bL_lt.1 h2))).elim
theorem bL_tot {a b : ByteArray} (h1 : bL a b = false) (h2 : bL b a = false) : a = b := by
  have k1 : ¬ a.data.toList < b.data.toList := fun h => by rw [bL_lt.2 h] at h1; cases h1
  have k2 : ¬ b.data.toList < a.data.toList := fun h => by rw [bL_lt.2 h] at h2; cases h2
  exact ba_ext (List.le_antisymm (List.not_lt.1 k2) (List.not_lt.1 k1))
def cmpI (x y : Int) : Int := if x < y then -1 else if y < x then 1 else 0
def cmpS (a b : ByteArray) : Int := if bL a b = true then -1 else if a.toList = b.toList then 0 else 1
def orV : List Int → Int
  | [] => 0
  | x :: l => if x = 0 then orV l else x
def oneW (a : ByteArray) : Bool := figL a.data.toList
def cmpW (a b : ByteArray) : Int := if oneW a = true ∧ oneW b = true then orV [cmpI a.size b.size, cmpS a b] else if oneW a = true then -1 else if oneW b = true then 1 else cmpS a b
def cmpP : List ByteArray → List ByteArray → Int
  | [], [] => 0
  | [], _ :: _ => -1
  | _ :: _, [] => 1
  | x :: xs, y :: ys => if cmpW x y = 0 then cmpP xs ys else cmpW x y
def cmpC (a b : Ver) : Int := orV [cmpI a.a b.a, cmpI a.b b.b, cmpI a.c b.c]
def cmpV (a b : Ver) : Int := if cmpC a b = 0 then (if (a.pre = [] ↔ b.pre = []) then cmpP a.pre b.pre else if a.pre = [] then 1 else -1) else cmpC a b
def lessV (a b : Ver) : Bool := decide (cmpV a b < 0)
def coreV (a b : Ver) : Bool := decide (a.a = b.a) && (decide (a.b = b.b) && decide (a.c = b.c))
def sameV (a b : Ver) : Bool := coreV a b && eqBy strEq a.pre b.pre
theorem R120 (x : Int) : Ret Tryz.prog 120 [.sc (.int .i64 x)] (.sc (.bool false)) [.un] := by
  refine Ret.go Tryz.func120 ?_
  simp (disch := omega) []
theorem R69 (x : ByteArray) : Ret Tryz.prog 69 [.sc (.string x)] (.sc (.bool false)) [.un] := by
  refine Ret.go Tryz.func69 ?_
  simp (disch := omega) []
theorem R84 (x y : Int) : Ret Tryz.prog 84 [.sc (.int .i64 x), .sc (.int .i64 y)] (.sc (.int .i64 (cmpI x y))) [.un, .un] := by
  unfold cmpI
  refine Ret.go Tryz.func84 ?_
  simp (disch := omega) []
  refine cR (R120 x) ?_
  simp (disch := omega) []
  refine cR (R120 y) ?_
  by_cases h1 : x < y
  · simp (disch := omega) [h1]
  · by_cases h2 : y < x <;> simp (disch := omega) [h1, h2]
theorem R31 (x y : ByteArray) : Ret Tryz.prog 31 [.sc (.string x), .sc (.string y)] (.sc (.int .i64 (cmpS x y))) [.un, .un] := by
  unfold cmpS bL
  refine Ret.go Tryz.func31 ?_
  simp (disch := omega) []
  refine cR (R69 x) ?_
  simp (disch := omega) []
  refine cR (R69 y) ?_
  cases h1 : Op.bytesLess x.toList y.toList
  · by_cases h2 : x.toList = y.toList
    · rw [h2] at h1
      simp (disch := omega) [h1, h2]
    · simp (disch := omega) [h1, h2]
  · simp (disch := omega) [h1]
theorem R83 (l : List Int) (hl : l.length ≤ 1048577) : Ret Tryz.prog 83 [.ro (rows Ty.int.cs l) l.length] (.sc (.int .i64 (orV l))) [.un] := by
  refine Ret.go Tryz.func83 ?_
  simp (disch := omega) []
  refine T.forL l (fun _ rest => orV rest = orV l) (fun pre _ => [(3, .sc (.int .i64 0)), (6, .ro (rows Ty.int.cs l) l.length), (7, .sc (.int .i64 l.length)), (8, .sc (.int .i64 pre.length))]) (fun _ _ => []) (by simp) ?_ ?_
  · intro hJ
    rw [← hJ]
    simp (disch := omega) [orV]
    refine T.on 400 ?_
    simp (disch := omega) []
  · intro pre x rest hx hl2 hJ
    have hd : List.drop pre.length (rows Ty.int.cs l) = .sc (.int .i64 x) :: rows Ty.int.cs rest := by
      have := rows_drop Ty.int.csn pre (x :: rest)
      rwa [hx, show pre.length * Ty.int.n = pre.length from Nat.mul_one _] at this
    rw [orV] at hJ
    by_cases h : x = 0
    · rw [if_pos h] at hJ
      simp (disch := omega) [hd, h, hJ]
      try exact fun _ => hJ
    · rw [if_neg h] at hJ
      rw [← hJ]
      simp (disch := omega) [hd, h]
set_option maxHeartbeats 1000000 in
theorem R86 (a b : ByteArray) (ha : a.size ≤ 1048577) (hb : b.size ≤ 1048577) : Ret Tryz.prog 86 [.sc (.string a), .sc (.string b)] (.sc (.int .i64 (cmpW a b))) [.un, .un] := by
  have key : ∀ (l : List UInt8), l.length ≤ 1048577 → (l = [] ∧ figL l = true) ∨ (∃ x t, l = x :: t ∧ Ret Tryz.prog 121 [.sc (.string (bs (x :: t)))] (.sc (.bool (figL (x :: t)))) [.un]) := fun l h => by
    cases l with
    | nil => exact .inl ⟨rfl, rfl⟩
    | cons x t =>
      have r := R121 (x :: t) (by omega)
      simp only [List.isEmpty_cons, Bool.not_false, Bool.and_true] at r
      exact .inr ⟨x, t, rfl, r⟩
  have rc := R84 a.size b.size
  have rs := R31 a b
  have ro := R83 [cmpI a.size b.size, cmpS a b] (by simp)
  rw [show rows Ty.int.cs [cmpI a.size b.size, cmpS a b] = [.sc (.int .i64 (cmpI a.size b.size)), .sc (.int .i64 (cmpS a b))] from rfl] at ro
  unfold cmpW oneW
  obtain ⟨l, rfl⟩ : ∃ l, a = bs l := ⟨a.data.toList, rfl⟩
  obtain ⟨m, rfl⟩ : ∃ m, b = bs m := ⟨b.data.toList, rfl⟩
  rw [bs_size] at ha hb rc ro
  rw [bs_size] at rc ro ⊢
  rw [bs_size, bs_list, bs_list]
  generalize orV [cmpI l.length m.length, cmpS (bs l) (bs m)] = o at *
  generalize cmpI l.length m.length = ci at *
  generalize cmpS (bs l) (bs m) = cs at *
  have e0 : figL [] = true := rfl
  rcases key l ha with ⟨rfl, h2⟩ | ⟨x, t, rfl, h2⟩ <;> rcases key m hb with ⟨rfl, k2⟩ | ⟨y, u, rfl, k2⟩
  · refine Ret.go Tryz.func86 ?_
    simp (disch := omega) [bs_toList, e0]
    refine cR rc ?_
    simp (disch := omega) []
    refine cR rs ?_
    simp (disch := omega) []
    refine cR ro ?_ (hys := by simp [roc, shut, shut.shutL])
    simp (disch := omega) []
  · cases hm : figL (y :: u) <;> rw [hm] at k2
    all_goals
      refine Ret.go Tryz.func86 ?_
      simp (disch := omega) [bs_toList, e0]
      refine cR k2 ?_
      simp (disch := omega) [bs_toList, e0]
    refine cR rc ?_
    simp (disch := omega) []
    refine cR rs ?_
    simp (disch := omega) []
    refine cR ro ?_ (hys := by simp [roc, shut, shut.shutL])
    simp (disch := omega) []
  · cases hm : figL (x :: t) <;> rw [hm] at h2
    all_goals
      refine Ret.go Tryz.func86 ?_
      simp (disch := omega) [bs_toList, e0]
      refine cR h2 ?_
      simp (disch := omega) [bs_toList, e0]
    refine cR rc ?_
    simp (disch := omega) []
    refine cR rs ?_
    simp (disch := omega) []
    refine cR ro ?_ (hys := by simp [roc, shut, shut.shutL])
    simp (disch := omega) []
  · cases hl : figL (x :: t) <;> cases hm : figL (y :: u) <;> rw [hl] at h2 <;> rw [hm] at k2
    all_goals
      refine Ret.go Tryz.func86 ?_
      simp (disch := omega) [bs_toList]
      refine cR h2 ?_
      simp (disch := omega) [bs_toList]
      refine cR k2 ?_
      simp (disch := omega) [bs_toList]
      try
        first
          | (refine cR rc ?_
             simp (disch := omega) []
             refine cR rs ?_
             simp (disch := omega) []
             refine cR ro ?_ (hys := by simp [roc, shut, shut.shutL])
             simp (disch := omega) [])
          | (refine cR rs ?_
             simp (disch := omega) [])
set_option maxRecDepth 100000
theorem R51 (xs : List ByteArray) (hb : xs.length ≤ 4398046511104) : Ret Tryz.prog 51 [.ro (rows Ty.str.cs xs) xs.length] (.own (rows Ty.str.oc xs) xs.length 1) [.un] := Ret.clone Ty.str rfl (bytes := 16) Tryz.func51 ⟨by kernel_rfl, by kernel_rfl, by kernel_rfl⟩ xs (by omega)
end Go.Proofs.YtiejaibmcmicoaaGreatDoor.Am
