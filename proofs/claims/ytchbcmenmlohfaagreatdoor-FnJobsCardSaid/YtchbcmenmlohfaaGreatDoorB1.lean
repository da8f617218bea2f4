/- The small machine and the contracts of the functions, part 1 (Base, Types, Draw, Words, Paths, Cut, Plumb, Job, Sames, Files, Tasks, Glob, GlobT, GlobM, DrawKit, Thaw, DrawRules); no condition. -/
import Derived.Test.YtchbcmenmlohfaaGreatDoorProg
import Derived.Test.YtchbcmenmlohfaaGreatDoorAmZ
import Derived.Test.YtchbcmenmlohfaaGreatDoorAmP
import Derived.KernelRfl
import Derived.Test.YtchbcmenmlohfaaGreatDoorAmM
import Derived.Test.YtchbcmenmlohfaaGreatDoorAmL
import Derived.Test.YtchbcmenmlohfaaGreatDoorAmH
namespace Go.Proofs.YtchbcmenmlohfaaGreatDoor.Am
open Go Go.Proofs
abbrev yq (d : Nat) (o : QOp) : AOp := ⟨some d, none, .q o⟩
abbrev yw (d : Nat) (o : WOp) : AOp := ⟨some d, none, .w o⟩
abbrev yn (o : WOp) : AOp := ⟨none, none, .w o⟩
abbrev yc (d f : Nat) (xs : List AX) : AOp := ⟨some d, none, .c (.c (.clo f [])) xs⟩
abbrev yg (d g : Nat) (b : Bool) (o : QOp) : AOp := ⟨some d, some (g, b), .q o⟩
abbrev yh (d g : Nat) (b : Bool) (f : Nat) (xs : List AX) : AOp := ⟨some d, some (g, b), .c (.c (.clo f [])) xs⟩
abbrev yi (n : Int) : AX := .c (.sc (.int .i64 n))
abbrev yK (P : Program) (fn : Func) (c : AC) (n : Nat) (rs : List QOp) : Prop := fn.body.bind (comp P) = some c ∧ fn.ntmps = n ∧ fn.results.toList.mapM (resB P) = some rs
set_option linter.unusedSimpArgs false
set_option linter.unusedVariables false
attribute [local congr] T_congr callK_congr callWK_congr
attribute [local simp] run_nil run_op0 run_opg run_seq run_cond run_block run_ret run_skip run_skip_after run_skip_blk run_exit run_exit_after run_exit_blk run_loop run_any runS_nil runS_op0 runS_opg runW_nil runW_op0 runW_opg exec_q exec_w exec_c exec_n execW_q execW_w execW_c restW_app hideH_app merge_app wblk rest_app restS_app execS_q execS_c aval dOk upd_app ev_t ev_c setO_some setO_none put_mk pinsOf isIo hasIo sbin endR fin resL one outL out1 clo1 cloL coe coeL shut shut.shutL wantA weff cellsOf fillA deref natOf ρ0_app h0_app plain plain.plainL keep_app keepH_app andThen_normal andThen_ret andThen_exit pop_nil pop_after pop_after_ret pop_after_exit pop_blk pop_blk_ret pop_blk_exit nilA srcOf srcCells keepR_app keepHR_app renA rb
structure File where
  path : ByteArray
  text : ByteArray
def File.ty : Ty File := Ty.struct (Ty.str.cons (Ty.str.cons Ty.nil)) (fun x => (x.path, x.text, ())) (fun p => ⟨p.1, p.2.1⟩) (fun _ => rfl) 32
theorem File.cse (x : File) : File.ty.cs x = [.sc (.string x.path), .sc (.string x.text)] := rfl
theorem File.oce (x : File) : File.ty.oc x = [.sc (.string x.path), .sc (.string x.text)] := rfl
theorem File.ocl (xs : List File) : (rows File.ty.oc xs).length = xs.length * 2 := rows_length File.ty.ocn xs
theorem File.frL (xs : List File) : idfree.idfreeL (rows File.ty.oc xs) = true := File.ty.frL xs
theorem File.roc8 {h : Hp} {b : Nat} {xs : List File} {lim : Bool} (hb : h b = some (some (rows File.ty.oc xs))) : roc h 8 (.sl b 0 xs.length 2 lim) = some (.ro (rows File.ty.cs xs) xs.length) := File.ty.roc8 (by decide) hb
theorem File.roc7 {h : Hp} {b : Nat} {xs : List File} {lim : Bool} (hb : h b = some (some (rows File.ty.oc xs))) : roc h 7 (.sl b 0 xs.length 2 lim) = some (.ro (rows File.ty.cs xs) xs.length) := File.ty.roc7 (by decide) hb
structure Need where
  name : ByteArray
  range : ByteArray
def Need.ty : Ty Need := Ty.struct (Ty.str.cons (Ty.str.cons Ty.nil)) (fun x => (x.name, x.range, ())) (fun p => ⟨p.1, p.2.1⟩) (fun _ => rfl) 32
theorem Need.cse (x : Need) : Need.ty.cs x = [.sc (.string x.name), .sc (.string x.range)] := rfl
theorem Need.oce (x : Need) : Need.ty.oc x = [.sc (.string x.name), .sc (.string x.range)] := rfl
theorem Need.ocl (xs : List Need) : (rows Need.ty.oc xs).length = xs.length * 2 := rows_length Need.ty.ocn xs
theorem Need.frL (xs : List Need) : idfree.idfreeL (rows Need.ty.oc xs) = true := Need.ty.frL xs
theorem Need.roc8 {h : Hp} {b : Nat} {xs : List Need} {lim : Bool} (hb : h b = some (some (rows Need.ty.oc xs))) : roc h 8 (.sl b 0 xs.length 2 lim) = some (.ro (rows Need.ty.cs xs) xs.length) := Need.ty.roc8 (by decide) hb
theorem Need.roc7 {h : Hp} {b : Nat} {xs : List Need} {lim : Bool} (hb : h b = some (some (rows Need.ty.oc xs))) : roc h 7 (.sl b 0 xs.length 2 lim) = some (.ro (rows Need.ty.cs xs) xs.length) := Need.ty.roc7 (by decide) hb
structure Cmd where
  task : ByteArray
  acts : List ByteArray
def Cmd.ty : Ty Cmd := Ty.struct (Ty.str.cons (Ty.str.slice.cons Ty.nil)) (fun x => (x.task, x.acts, ())) (fun p => ⟨p.1, p.2.1⟩) (fun _ => rfl) 40
theorem Cmd.cse (x : Cmd) : Cmd.ty.cs x = [.sc (.string x.task), .ro (rows Ty.str.cs x.acts) x.acts.length] := rfl
theorem Cmd.oce (x : Cmd) : Cmd.ty.oc x = [.sc (.string x.task), .own (rows Ty.str.oc x.acts) x.acts.length 1] := rfl
theorem Cmd.ocl (xs : List Cmd) : (rows Cmd.ty.oc xs).length = xs.length * 2 := rows_length Cmd.ty.ocn xs
theorem Cmd.frL (xs : List Cmd) : idfree.idfreeL (rows Cmd.ty.oc xs) = true := Cmd.ty.frL xs
theorem Cmd.roc8 {h : Hp} {b : Nat} {xs : List Cmd} {lim : Bool} (hb : h b = some (some (rows Cmd.ty.oc xs))) : roc h 8 (.sl b 0 xs.length 2 lim) = some (.ro (rows Cmd.ty.cs xs) xs.length) := Cmd.ty.roc8 (by decide) hb
theorem Cmd.roc7 {h : Hp} {b : Nat} {xs : List Cmd} {lim : Bool} (hb : h b = some (some (rows Cmd.ty.oc xs))) : roc h 7 (.sl b 0 xs.length 2 lim) = some (.ro (rows Cmd.ty.cs xs) xs.length) := Cmd.ty.roc7 (by decide) hb
structure Pack where
  name : ByteArray
  uses : List ByteArray
  needs : List Need
  cmds : List Cmd
def Pack.ty : Ty Pack := Ty.struct (Ty.str.cons (Ty.str.slice.cons (Need.ty.slice.cons (Cmd.ty.slice.cons Ty.nil)))) (fun x => (x.name, x.uses, x.needs, x.cmds, ())) (fun p => ⟨p.1, p.2.1, p.2.2.1, p.2.2.2.1⟩) (fun _ => rfl) 88
theorem Pack.cse (x : Pack) : Pack.ty.cs x = [.sc (.string x.name), .ro (rows Ty.str.cs x.uses) x.uses.length, .ro (rows Need.ty.cs x.needs) x.needs.length, .ro (rows Cmd.ty.cs x.cmds) x.cmds.length] := rfl
theorem Pack.oce (x : Pack) : Pack.ty.oc x = [.sc (.string x.name), .own (rows Ty.str.oc x.uses) x.uses.length 1, .own (rows Need.ty.oc x.needs) x.needs.length 2, .own (rows Cmd.ty.oc x.cmds) x.cmds.length 2] := rfl
theorem Pack.ocl (xs : List Pack) : (rows Pack.ty.oc xs).length = xs.length * 4 := rows_length Pack.ty.ocn xs
theorem Pack.frL (xs : List Pack) : idfree.idfreeL (rows Pack.ty.oc xs) = true := Pack.ty.frL xs
theorem Pack.roc8 {h : Hp} {b : Nat} {xs : List Pack} {lim : Bool} (hb : h b = some (some (rows Pack.ty.oc xs))) : roc h 8 (.sl b 0 xs.length 4 lim) = some (.ro (rows Pack.ty.cs xs) xs.length) := Pack.ty.roc8 (by decide) hb
theorem Pack.roc7 {h : Hp} {b : Nat} {xs : List Pack} {lim : Bool} (hb : h b = some (some (rows Pack.ty.oc xs))) : roc h 7 (.sl b 0 xs.length 4 lim) = some (.ro (rows Pack.ty.cs xs) xs.length) := Pack.ty.roc7 (by decide) hb
structure Env where
  name : ByteArray
  val : ByteArray
def Env.ty : Ty Env := Ty.struct (Ty.str.cons (Ty.str.cons Ty.nil)) (fun x => (x.name, x.val, ())) (fun p => ⟨p.1, p.2.1⟩) (fun _ => rfl) 32
theorem Env.cse (x : Env) : Env.ty.cs x = [.sc (.string x.name), .sc (.string x.val)] := rfl
theorem Env.oce (x : Env) : Env.ty.oc x = [.sc (.string x.name), .sc (.string x.val)] := rfl
theorem Env.ocl (xs : List Env) : (rows Env.ty.oc xs).length = xs.length * 2 := rows_length Env.ty.ocn xs
theorem Env.frL (xs : List Env) : idfree.idfreeL (rows Env.ty.oc xs) = true := Env.ty.frL xs
theorem Env.roc8 {h : Hp} {b : Nat} {xs : List Env} {lim : Bool} (hb : h b = some (some (rows Env.ty.oc xs))) : roc h 8 (.sl b 0 xs.length 2 lim) = some (.ro (rows Env.ty.cs xs) xs.length) := Env.ty.roc8 (by decide) hb
theorem Env.roc7 {h : Hp} {b : Nat} {xs : List Env} {lim : Bool} (hb : h b = some (some (rows Env.ty.oc xs))) : roc h 7 (.sl b 0 xs.length 2 lim) = some (.ro (rows Env.ty.cs xs) xs.length) := Env.ty.roc7 (by decide) hb
structure Rule where
  task : ByteArray
  on : List ByteArray
  ins : List ByteArray
  envs : List ByteArray
  keep : Bool
def Rule.ty : Ty Rule := Ty.struct (Ty.str.cons (Ty.str.slice.cons (Ty.str.slice.cons (Ty.str.slice.cons (Ty.bool.cons Ty.nil))))) (fun x => (x.task, x.on, x.ins, x.envs, x.keep, ())) (fun p => ⟨p.1, p.2.1, p.2.2.1, p.2.2.2.1, p.2.2.2.2.1⟩) (fun _ => rfl) 96
theorem Rule.cse (x : Rule) : Rule.ty.cs x = [.sc (.string x.task), .ro (rows Ty.str.cs x.on) x.on.length, .ro (rows Ty.str.cs x.ins) x.ins.length, .ro (rows Ty.str.cs x.envs) x.envs.length, .sc (.bool x.keep)] := rfl
theorem Rule.oce (x : Rule) : Rule.ty.oc x = [.sc (.string x.task), .own (rows Ty.str.oc x.on) x.on.length 1, .own (rows Ty.str.oc x.ins) x.ins.length 1, .own (rows Ty.str.oc x.envs) x.envs.length 1, .sc (.bool x.keep)] := rfl
theorem Rule.ocl (xs : List Rule) : (rows Rule.ty.oc xs).length = xs.length * 5 := rows_length Rule.ty.ocn xs
theorem Rule.frL (xs : List Rule) : idfree.idfreeL (rows Rule.ty.oc xs) = true := Rule.ty.frL xs
theorem Rule.roc8 {h : Hp} {b : Nat} {xs : List Rule} {lim : Bool} (hb : h b = some (some (rows Rule.ty.oc xs))) : roc h 8 (.sl b 0 xs.length 5 lim) = some (.ro (rows Rule.ty.cs xs) xs.length) := Rule.ty.roc8 (by decide) hb
theorem Rule.roc7 {h : Hp} {b : Nat} {xs : List Rule} {lim : Bool} (hb : h b = some (some (rows Rule.ty.oc xs))) : roc h 7 (.sl b 0 xs.length 5 lim) = some (.ro (rows Rule.ty.cs xs) xs.length) := Rule.ty.roc7 (by decide) hb
structure World where
  packs : List Pack
  rules : List Rule
  files : List File
  envs : List Env
def World.ty : Ty World := Ty.struct (Pack.ty.slice.cons (Rule.ty.slice.cons (File.ty.slice.cons (Env.ty.slice.cons Ty.nil)))) (fun x => (x.packs, x.rules, x.files, x.envs, ())) (fun p => ⟨p.1, p.2.1, p.2.2.1, p.2.2.2.1⟩) (fun _ => rfl) 96
theorem World.cse (x : World) : World.ty.cs x = [.ro (rows Pack.ty.cs x.packs) x.packs.length, .ro (rows Rule.ty.cs x.rules) x.rules.length, .ro (rows File.ty.cs x.files) x.files.length, .ro (rows Env.ty.cs x.envs) x.envs.length] := rfl
theorem World.oce (x : World) : World.ty.oc x = [.own (rows Pack.ty.oc x.packs) x.packs.length 4, .own (rows Rule.ty.oc x.rules) x.rules.length 5, .own (rows File.ty.oc x.files) x.files.length 2, .own (rows Env.ty.oc x.envs) x.envs.length 2] := rfl
theorem World.ocl (xs : List World) : (rows World.ty.oc xs).length = xs.length * 4 := rows_length World.ty.ocn xs
theorem World.frL (xs : List World) : idfree.idfreeL (rows World.ty.oc xs) = true := World.ty.frL xs
theorem World.roc8 {h : Hp} {b : Nat} {xs : List World} {lim : Bool} (hb : h b = some (some (rows World.ty.oc xs))) : roc h 8 (.sl b 0 xs.length 4 lim) = some (.ro (rows World.ty.cs xs) xs.length) := World.ty.roc8 (by decide) hb
theorem World.roc7 {h : Hp} {b : Nat} {xs : List World} {lim : Bool} (hb : h b = some (some (rows World.ty.oc xs))) : roc h 7 (.sl b 0 xs.length 4 lim) = some (.ro (rows World.ty.cs xs) xs.length) := World.ty.roc7 (by decide) hb
structure Plan where
  tasks : List ByteArray
  deps : List (List ByteArray)
def Plan.ty : Ty Plan := Ty.struct (Ty.str.slice.cons (Ty.str.slice.slice.cons Ty.nil)) (fun x => (x.tasks, x.deps, ())) (fun p => ⟨p.1, p.2.1⟩) (fun _ => rfl) 48
theorem Plan.cse (x : Plan) : Plan.ty.cs x = [.ro (rows Ty.str.cs x.tasks) x.tasks.length, .ro (rows Ty.str.slice.cs x.deps) x.deps.length] := rfl
theorem Plan.oce (x : Plan) : Plan.ty.oc x = [.own (rows Ty.str.oc x.tasks) x.tasks.length 1, .own (rows Ty.str.slice.oc x.deps) x.deps.length 1] := rfl
theorem Plan.ocl (xs : List Plan) : (rows Plan.ty.oc xs).length = xs.length * 2 := rows_length Plan.ty.ocn xs
theorem Plan.frL (xs : List Plan) : idfree.idfreeL (rows Plan.ty.oc xs) = true := Plan.ty.frL xs
theorem Plan.roc8 {h : Hp} {b : Nat} {xs : List Plan} {lim : Bool} (hb : h b = some (some (rows Plan.ty.oc xs))) : roc h 8 (.sl b 0 xs.length 2 lim) = some (.ro (rows Plan.ty.cs xs) xs.length) := Plan.ty.roc8 (by decide) hb
theorem Plan.roc7 {h : Hp} {b : Nat} {xs : List Plan} {lim : Bool} (hb : h b = some (some (rows Plan.ty.oc xs))) : roc h 7 (.sl b 0 xs.length 2 lim) = some (.ro (rows Plan.ty.cs xs) xs.length) := Plan.ty.roc7 (by decide) hb
structure Made where
  task : ByteArray
  outs : List File
  log : ByteArray
def Made.ty : Ty Made := Ty.struct (Ty.str.cons (File.ty.slice.cons (Ty.str.cons Ty.nil))) (fun x => (x.task, x.outs, x.log, ())) (fun p => ⟨p.1, p.2.1, p.2.2.1⟩) (fun _ => rfl) 56
theorem Made.cse (x : Made) : Made.ty.cs x = [.sc (.string x.task), .ro (rows File.ty.cs x.outs) x.outs.length, .sc (.string x.log)] := rfl
theorem Made.oce (x : Made) : Made.ty.oc x = [.sc (.string x.task), .own (rows File.ty.oc x.outs) x.outs.length 2, .sc (.string x.log)] := rfl
theorem Made.ocl (xs : List Made) : (rows Made.ty.oc xs).length = xs.length * 3 := rows_length Made.ty.ocn xs
theorem Made.frL (xs : List Made) : idfree.idfreeL (rows Made.ty.oc xs) = true := Made.ty.frL xs
theorem Made.roc8 {h : Hp} {b : Nat} {xs : List Made} {lim : Bool} (hb : h b = some (some (rows Made.ty.oc xs))) : roc h 8 (.sl b 0 xs.length 3 lim) = some (.ro (rows Made.ty.cs xs) xs.length) := Made.ty.roc8 (by decide) hb
theorem Made.roc7 {h : Hp} {b : Nat} {xs : List Made} {lim : Bool} (hb : h b = some (some (rows Made.ty.oc xs))) : roc h 7 (.sl b 0 xs.length 3 lim) = some (.ro (rows Made.ty.cs xs) xs.length) := Made.ty.roc7 (by decide) hb
structure Mark where
  task : ByteArray
  how : Int
def Mark.ty : Ty Mark := Ty.struct (Ty.str.cons (Ty.int.cons Ty.nil)) (fun x => (x.task, x.how, ())) (fun p => ⟨p.1, p.2.1⟩) (fun _ => rfl) 24
theorem Mark.cse (x : Mark) : Mark.ty.cs x = [.sc (.string x.task), .sc (.int .i64 x.how)] := rfl
theorem Mark.oce (x : Mark) : Mark.ty.oc x = [.sc (.string x.task), .sc (.int .i64 x.how)] := rfl
theorem Mark.ocl (xs : List Mark) : (rows Mark.ty.oc xs).length = xs.length * 2 := rows_length Mark.ty.ocn xs
theorem Mark.frL (xs : List Mark) : idfree.idfreeL (rows Mark.ty.oc xs) = true := Mark.ty.frL xs
theorem Mark.roc8 {h : Hp} {b : Nat} {xs : List Mark} {lim : Bool} (hb : h b = some (some (rows Mark.ty.oc xs))) : roc h 8 (.sl b 0 xs.length 2 lim) = some (.ro (rows Mark.ty.cs xs) xs.length) := Mark.ty.roc8 (by decide) hb
theorem Mark.roc7 {h : Hp} {b : Nat} {xs : List Mark} {lim : Bool} (hb : h b = some (some (rows Mark.ty.oc xs))) : roc h 7 (.sl b 0 xs.length 2 lim) = some (.ro (rows Mark.ty.cs xs) xs.length) := Mark.ty.roc7 (by decide) hb
structure Slot where
  key : List Int
  b : List Int
def Slot.ty : Ty Slot := Ty.struct (Ty.byte.slice.cons (Ty.byte.slice.cons Ty.nil)) (fun x => (x.key, x.b, ())) (fun p => ⟨p.1, p.2.1⟩) (fun _ => rfl) 48
theorem Slot.cse (x : Slot) : Slot.ty.cs x = [.ro (rows Ty.byte.cs x.key) x.key.length, .ro (rows Ty.byte.cs x.b) x.b.length] := rfl
theorem Slot.oce (x : Slot) : Slot.ty.oc x = [.own (rows Ty.byte.oc x.key) x.key.length 1, .own (rows Ty.byte.oc x.b) x.b.length 1] := rfl
theorem Slot.ocl (xs : List Slot) : (rows Slot.ty.oc xs).length = xs.length * 2 := rows_length Slot.ty.ocn xs
theorem Slot.frL (xs : List Slot) : idfree.idfreeL (rows Slot.ty.oc xs) = true := Slot.ty.frL xs
theorem Slot.roc8 {h : Hp} {b : Nat} {xs : List Slot} {lim : Bool} (hb : h b = some (some (rows Slot.ty.oc xs))) : roc h 8 (.sl b 0 xs.length 2 lim) = some (.ro (rows Slot.ty.cs xs) xs.length) := Slot.ty.roc8 (by decide) hb
theorem Slot.roc7 {h : Hp} {b : Nat} {xs : List Slot} {lim : Bool} (hb : h b = some (some (rows Slot.ty.oc xs))) : roc h 7 (.sl b 0 xs.length 2 lim) = some (.ro (rows Slot.ty.cs xs) xs.length) := Slot.ty.roc7 (by decide) hb
structure Run where
  w : World
  p : Plan
  slots : Int
  goOn : Bool
  made : List Made
  marks : List Mark
  going : List ByteArray
  cache : List Slot
def Run.ty : Ty Run := Ty.struct (World.ty.cons (Plan.ty.cons (Ty.int.cons (Ty.bool.cons (Made.ty.slice.cons (Mark.ty.slice.cons (Ty.str.slice.cons (Slot.ty.slice.cons Ty.nil)))))))) (fun x => (x.w, x.p, x.slots, x.goOn, x.made, x.marks, x.going, x.cache, ())) (fun p => ⟨p.1, p.2.1, p.2.2.1, p.2.2.2.1, p.2.2.2.2.1, p.2.2.2.2.2.1, p.2.2.2.2.2.2.1, p.2.2.2.2.2.2.2.1⟩) (fun _ => rfl) 256
theorem Run.cse (x : Run) : Run.ty.cs x = [.ro (rows Pack.ty.cs x.w.packs) x.w.packs.length, .ro (rows Rule.ty.cs x.w.rules) x.w.rules.length, .ro (rows File.ty.cs x.w.files) x.w.files.length, .ro (rows Env.ty.cs x.w.envs) x.w.envs.length, .ro (rows Ty.str.cs x.p.tasks) x.p.tasks.length, .ro (rows Ty.str.slice.cs x.p.deps) x.p.deps.length, .sc (.int .i64 x.slots), .sc (.bool x.goOn), .ro (rows Made.ty.cs x.made) x.made.length, .ro (rows Mark.ty.cs x.marks) x.marks.length, .ro (rows Ty.str.cs x.going) x.going.length, .ro (rows Slot.ty.cs x.cache) x.cache.length] := rfl
theorem Run.oce (x : Run) : Run.ty.oc x = [.own (rows Pack.ty.oc x.w.packs) x.w.packs.length 4, .own (rows Rule.ty.oc x.w.rules) x.w.rules.length 5, .own (rows File.ty.oc x.w.files) x.w.files.length 2, .own (rows Env.ty.oc x.w.envs) x.w.envs.length 2, .own (rows Ty.str.oc x.p.tasks) x.p.tasks.length 1, .own (rows Ty.str.slice.oc x.p.deps) x.p.deps.length 1, .sc (.int .i64 x.slots), .sc (.bool x.goOn), .own (rows Made.ty.oc x.made) x.made.length 3, .own (rows Mark.ty.oc x.marks) x.marks.length 2, .own (rows Ty.str.oc x.going) x.going.length 1, .own (rows Slot.ty.oc x.cache) x.cache.length 2] := rfl
theorem Run.ocl (xs : List Run) : (rows Run.ty.oc xs).length = xs.length * 12 := rows_length Run.ty.ocn xs
theorem Run.frL (xs : List Run) : idfree.idfreeL (rows Run.ty.oc xs) = true := Run.ty.frL xs
theorem Run.roc8 {h : Hp} {b : Nat} {xs : List Run} {lim : Bool} (hb : h b = some (some (rows Run.ty.oc xs))) : roc h 8 (.sl b 0 xs.length 12 lim) = some (.ro (rows Run.ty.cs xs) xs.length) := Run.ty.roc8 (by decide) hb
theorem Run.roc7 {h : Hp} {b : Nat} {xs : List Run} {lim : Bool} (hb : h b = some (some (rows Run.ty.oc xs))) : roc h 7 (.sl b 0 xs.length 12 lim) = some (.ro (rows Run.ty.cs xs) xs.length) := Run.ty.roc7 (by decide) hb
structure Job where
  name : ByteArray
  acts : List ByteArray
  ins : List File
  envs : List Env
  deps : List Made
def Job.ty : Ty Job := Ty.struct (Ty.str.cons (Ty.str.slice.cons (File.ty.slice.cons (Env.ty.slice.cons (Made.ty.slice.cons Ty.nil))))) (fun x => (x.name, x.acts, x.ins, x.envs, x.deps, ())) (fun p => ⟨p.1, p.2.1, p.2.2.1, p.2.2.2.1, p.2.2.2.2.1⟩) (fun _ => rfl) 112
theorem Job.cse (x : Job) : Job.ty.cs x = [.sc (.string x.name), .ro (rows Ty.str.cs x.acts) x.acts.length, .ro (rows File.ty.cs x.ins) x.ins.length, .ro (rows Env.ty.cs x.envs) x.envs.length, .ro (rows Made.ty.cs x.deps) x.deps.length] := rfl
theorem Job.oce (x : Job) : Job.ty.oc x = [.sc (.string x.name), .own (rows Ty.str.oc x.acts) x.acts.length 1, .own (rows File.ty.oc x.ins) x.ins.length 2, .own (rows Env.ty.oc x.envs) x.envs.length 2, .own (rows Made.ty.oc x.deps) x.deps.length 3] := rfl
theorem Job.ocl (xs : List Job) : (rows Job.ty.oc xs).length = xs.length * 5 := rows_length Job.ty.ocn xs
theorem Job.frL (xs : List Job) : idfree.idfreeL (rows Job.ty.oc xs) = true := Job.ty.frL xs
theorem Job.roc8 {h : Hp} {b : Nat} {xs : List Job} {lim : Bool} (hb : h b = some (some (rows Job.ty.oc xs))) : roc h 8 (.sl b 0 xs.length 5 lim) = some (.ro (rows Job.ty.cs xs) xs.length) := Job.ty.roc8 (by decide) hb
theorem Job.roc7 {h : Hp} {b : Nat} {xs : List Job} {lim : Bool} (hb : h b = some (some (rows Job.ty.oc xs))) : roc h 7 (.sl b 0 xs.length 5 lim) = some (.ro (rows Job.ty.cs xs) xs.length) := Job.ty.roc7 (by decide) hb
structure Doc where
  name : ByteArray
  text : ByteArray
def Doc.ty : Ty Doc := Ty.struct (Ty.str.cons (Ty.str.cons Ty.nil)) (fun x => (x.name, x.text, ())) (fun p => ⟨p.1, p.2.1⟩) (fun _ => rfl) 32
theorem Doc.cse (x : Doc) : Doc.ty.cs x = [.sc (.string x.name), .sc (.string x.text)] := rfl
theorem Doc.oce (x : Doc) : Doc.ty.oc x = [.sc (.string x.name), .sc (.string x.text)] := rfl
theorem Doc.ocl (xs : List Doc) : (rows Doc.ty.oc xs).length = xs.length * 2 := rows_length Doc.ty.ocn xs
theorem Doc.frL (xs : List Doc) : idfree.idfreeL (rows Doc.ty.oc xs) = true := Doc.ty.frL xs
theorem Doc.roc8 {h : Hp} {b : Nat} {xs : List Doc} {lim : Bool} (hb : h b = some (some (rows Doc.ty.oc xs))) : roc h 8 (.sl b 0 xs.length 2 lim) = some (.ro (rows Doc.ty.cs xs) xs.length) := Doc.ty.roc8 (by decide) hb
theorem Doc.roc7 {h : Hp} {b : Nat} {xs : List Doc} {lim : Bool} (hb : h b = some (some (rows Doc.ty.oc xs))) : roc h 7 (.sl b 0 xs.length 2 lim) = some (.ro (rows Doc.ty.cs xs) xs.length) := Doc.ty.roc7 (by decide) hb
structure Op where
  kind : Int
  a : ByteArray
  b : ByteArray
def Op.ty : Ty Op := Ty.struct (Ty.int.cons (Ty.str.cons (Ty.str.cons Ty.nil))) (fun x => (x.kind, x.a, x.b, ())) (fun p => ⟨p.1, p.2.1, p.2.2.1⟩) (fun _ => rfl) 40
theorem Op.cse (x : Op) : Op.ty.cs x = [.sc (.int .i64 x.kind), .sc (.string x.a), .sc (.string x.b)] := rfl
theorem Op.oce (x : Op) : Op.ty.oc x = [.sc (.int .i64 x.kind), .sc (.string x.a), .sc (.string x.b)] := rfl
theorem Op.ocl (xs : List Op) : (rows Op.ty.oc xs).length = xs.length * 3 := rows_length Op.ty.ocn xs
theorem Op.frL (xs : List Op) : idfree.idfreeL (rows Op.ty.oc xs) = true := Op.ty.frL xs
theorem Op.roc8 {h : Hp} {b : Nat} {xs : List Op} {lim : Bool} (hb : h b = some (some (rows Op.ty.oc xs))) : roc h 8 (.sl b 0 xs.length 3 lim) = some (.ro (rows Op.ty.cs xs) xs.length) := Op.ty.roc8 (by decide) hb
theorem Op.roc7 {h : Hp} {b : Nat} {xs : List Op} {lim : Bool} (hb : h b = some (some (rows Op.ty.oc xs))) : roc h 7 (.sl b 0 xs.length 3 lim) = some (.ro (rows Op.ty.cs xs) xs.length) := Op.ty.roc7 (by decide) hb
structure Disk where
  sure : List Doc
  pend : List Op
def Disk.ty : Ty Disk := Ty.struct (Doc.ty.slice.cons (Op.ty.slice.cons Ty.nil)) (fun x => (x.sure, x.pend, ())) (fun p => ⟨p.1, p.2.1⟩) (fun _ => rfl) 48
theorem Disk.cse (x : Disk) : Disk.ty.cs x = [.ro (rows Doc.ty.cs x.sure) x.sure.length, .ro (rows Op.ty.cs x.pend) x.pend.length] := rfl
theorem Disk.oce (x : Disk) : Disk.ty.oc x = [.own (rows Doc.ty.oc x.sure) x.sure.length 2, .own (rows Op.ty.oc x.pend) x.pend.length 3] := rfl
theorem Disk.ocl (xs : List Disk) : (rows Disk.ty.oc xs).length = xs.length * 2 := rows_length Disk.ty.ocn xs
theorem Disk.frL (xs : List Disk) : idfree.idfreeL (rows Disk.ty.oc xs) = true := Disk.ty.frL xs
theorem Disk.roc8 {h : Hp} {b : Nat} {xs : List Disk} {lim : Bool} (hb : h b = some (some (rows Disk.ty.oc xs))) : roc h 8 (.sl b 0 xs.length 2 lim) = some (.ro (rows Disk.ty.cs xs) xs.length) := Disk.ty.roc8 (by decide) hb
theorem Disk.roc7 {h : Hp} {b : Nat} {xs : List Disk} {lim : Bool} (hb : h b = some (some (rows Disk.ty.oc xs))) : roc h 7 (.sl b 0 xs.length 2 lim) = some (.ro (rows Disk.ty.cs xs) xs.length) := Disk.ty.roc7 (by decide) hb
structure Ver where
  a : Int
  b : Int
  c : Int
  pre : List ByteArray
def Ver.ty : Ty Ver := Ty.struct (Ty.int.cons (Ty.int.cons (Ty.int.cons (Ty.str.slice.cons Ty.nil)))) (fun x => (x.a, x.b, x.c, x.pre, ())) (fun p => ⟨p.1, p.2.1, p.2.2.1, p.2.2.2.1⟩) (fun _ => rfl) 48
theorem Ver.cse (x : Ver) : Ver.ty.cs x = [.sc (.int .i64 x.a), .sc (.int .i64 x.b), .sc (.int .i64 x.c), .ro (rows Ty.str.cs x.pre) x.pre.length] := rfl
theorem Ver.oce (x : Ver) : Ver.ty.oc x = [.sc (.int .i64 x.a), .sc (.int .i64 x.b), .sc (.int .i64 x.c), .own (rows Ty.str.oc x.pre) x.pre.length 1] := rfl
theorem Ver.ocl (xs : List Ver) : (rows Ver.ty.oc xs).length = xs.length * 4 := rows_length Ver.ty.ocn xs
theorem Ver.frL (xs : List Ver) : idfree.idfreeL (rows Ver.ty.oc xs) = true := Ver.ty.frL xs
theorem Ver.roc8 {h : Hp} {b : Nat} {xs : List Ver} {lim : Bool} (hb : h b = some (some (rows Ver.ty.oc xs))) : roc h 8 (.sl b 0 xs.length 4 lim) = some (.ro (rows Ver.ty.cs xs) xs.length) := Ver.ty.roc8 (by decide) hb
theorem Ver.roc7 {h : Hp} {b : Nat} {xs : List Ver} {lim : Bool} (hb : h b = some (some (rows Ver.ty.oc xs))) : roc h 7 (.sl b 0 xs.length 4 lim) = some (.ro (rows Ver.ty.cs xs) xs.length) := Ver.ty.roc7 (by decide) hb
structure Cmp where
  op : Int
  v : Ver
def Cmp.ty : Ty Cmp := Ty.struct (Ty.int.cons (Ver.ty.cons Ty.nil)) (fun x => (x.op, x.v, ())) (fun p => ⟨p.1, p.2.1⟩) (fun _ => rfl) 56
theorem Cmp.cse (x : Cmp) : Cmp.ty.cs x = [.sc (.int .i64 x.op), .sc (.int .i64 x.v.a), .sc (.int .i64 x.v.b), .sc (.int .i64 x.v.c), .ro (rows Ty.str.cs x.v.pre) x.v.pre.length] := rfl
theorem Cmp.oce (x : Cmp) : Cmp.ty.oc x = [.sc (.int .i64 x.op), .sc (.int .i64 x.v.a), .sc (.int .i64 x.v.b), .sc (.int .i64 x.v.c), .own (rows Ty.str.oc x.v.pre) x.v.pre.length 1] := rfl
theorem Cmp.ocl (xs : List Cmp) : (rows Cmp.ty.oc xs).length = xs.length * 5 := rows_length Cmp.ty.ocn xs
theorem Cmp.frL (xs : List Cmp) : idfree.idfreeL (rows Cmp.ty.oc xs) = true := Cmp.ty.frL xs
theorem Cmp.roc8 {h : Hp} {b : Nat} {xs : List Cmp} {lim : Bool} (hb : h b = some (some (rows Cmp.ty.oc xs))) : roc h 8 (.sl b 0 xs.length 5 lim) = some (.ro (rows Cmp.ty.cs xs) xs.length) := Cmp.ty.roc8 (by decide) hb
theorem Cmp.roc7 {h : Hp} {b : Nat} {xs : List Cmp} {lim : Bool} (hb : h b = some (some (rows Cmp.ty.oc xs))) : roc h 7 (.sl b 0 xs.length 5 lim) = some (.ro (rows Cmp.ty.cs xs) xs.length) := Cmp.ty.roc7 (by decide) hb
structure Entry where
  name : ByteArray
  v : Ver
  needs : List Need
def Entry.ty : Ty Entry := Ty.struct (Ty.str.cons (Ver.ty.cons (Need.ty.slice.cons Ty.nil))) (fun x => (x.name, x.v, x.needs, ())) (fun p => ⟨p.1, p.2.1, p.2.2.1⟩) (fun _ => rfl) 88
theorem Entry.cse (x : Entry) : Entry.ty.cs x = [.sc (.string x.name), .sc (.int .i64 x.v.a), .sc (.int .i64 x.v.b), .sc (.int .i64 x.v.c), .ro (rows Ty.str.cs x.v.pre) x.v.pre.length, .ro (rows Need.ty.cs x.needs) x.needs.length] := rfl
theorem Entry.oce (x : Entry) : Entry.ty.oc x = [.sc (.string x.name), .sc (.int .i64 x.v.a), .sc (.int .i64 x.v.b), .sc (.int .i64 x.v.c), .own (rows Ty.str.oc x.v.pre) x.v.pre.length 1, .own (rows Need.ty.oc x.needs) x.needs.length 2] := rfl
theorem Entry.ocl (xs : List Entry) : (rows Entry.ty.oc xs).length = xs.length * 6 := rows_length Entry.ty.ocn xs
theorem Entry.frL (xs : List Entry) : idfree.idfreeL (rows Entry.ty.oc xs) = true := Entry.ty.frL xs
theorem Entry.roc8 {h : Hp} {b : Nat} {xs : List Entry} {lim : Bool} (hb : h b = some (some (rows Entry.ty.oc xs))) : roc h 8 (.sl b 0 xs.length 6 lim) = some (.ro (rows Entry.ty.cs xs) xs.length) := Entry.ty.roc8 (by decide) hb
theorem Entry.roc7 {h : Hp} {b : Nat} {xs : List Entry} {lim : Bool} (hb : h b = some (some (rows Entry.ty.oc xs))) : roc h 7 (.sl b 0 xs.length 6 lim) = some (.ro (rows Entry.ty.cs xs) xs.length) := Entry.ty.roc7 (by decide) hb
structure Pick where
  name : ByteArray
  v : Ver
def Pick.ty : Ty Pick := Ty.struct (Ty.str.cons (Ver.ty.cons Ty.nil)) (fun x => (x.name, x.v, ())) (fun p => ⟨p.1, p.2.1⟩) (fun _ => rfl) 64
theorem Pick.cse (x : Pick) : Pick.ty.cs x = [.sc (.string x.name), .sc (.int .i64 x.v.a), .sc (.int .i64 x.v.b), .sc (.int .i64 x.v.c), .ro (rows Ty.str.cs x.v.pre) x.v.pre.length] := rfl
theorem Pick.oce (x : Pick) : Pick.ty.oc x = [.sc (.string x.name), .sc (.int .i64 x.v.a), .sc (.int .i64 x.v.b), .sc (.int .i64 x.v.c), .own (rows Ty.str.oc x.v.pre) x.v.pre.length 1] := rfl
theorem Pick.ocl (xs : List Pick) : (rows Pick.ty.oc xs).length = xs.length * 5 := rows_length Pick.ty.ocn xs
theorem Pick.frL (xs : List Pick) : idfree.idfreeL (rows Pick.ty.oc xs) = true := Pick.ty.frL xs
theorem Pick.roc8 {h : Hp} {b : Nat} {xs : List Pick} {lim : Bool} (hb : h b = some (some (rows Pick.ty.oc xs))) : roc h 8 (.sl b 0 xs.length 5 lim) = some (.ro (rows Pick.ty.cs xs) xs.length) := Pick.ty.roc8 (by decide) hb
theorem Pick.roc7 {h : Hp} {b : Nat} {xs : List Pick} {lim : Bool} (hb : h b = some (some (rows Pick.ty.oc xs))) : roc h 7 (.sl b 0 xs.length 5 lim) = some (.ro (rows Pick.ty.cs xs) xs.length) := Pick.ty.roc7 (by decide) hb
theorem strDrop (pre rest : List ByteArray) (x : ByteArray) : List.drop pre.length (rows Ty.str.cs (pre ++ x :: rest)) = .sc (.string x) :: rows Ty.str.cs rest := by
  have h := rows_drop Ty.str.csn pre (x :: rest)
  have h : List.drop (pre.length * 1) (rows Ty.str.cs (pre ++ x :: rest)) = rows Ty.str.cs (x :: rest) := h
  rw [Nat.mul_one] at h
  rw [h, rows_cons]; rfl
structure Cur where
  b : List Int
  i : Nat
  h : Int
def Cur.ok (c : Cur) : Prop := Ty.byte.slice.ok c.b ∧ c.i ≤ c.b.length
def Cur.cs (c : Cur) : List AV := [.ro (rows B c.b) c.b.length, .sc (.int .i64 c.i), .sc (.int .i64 c.h)]
def stepH (h : Int) : Int := IntKind.i64.wrap (IntKind.i64.wrap (h * 6364136223846793005) + 1442695040888963407)
def low8 (a : Int) : Int := IntKind.i64.wrap (((a % 2 ^ IntKind.i64.bits).toNat &&& 255 % 2 ^ IntKind.i64.bits : Nat) : Int)
def mixI (h : Int) : Int := IntKind.i64.wrap (((h.fdiv (2 ^ min 33 IntKind.i64.bits) % 2 ^ IntKind.i64.bits).toNat ^^^ (h.fdiv (2 ^ min 47 IntKind.i64.bits) % 2 ^ IntKind.i64.bits).toNat : Nat) : Int)
def byteV (c : Cur) : Int := if c.i < c.b.length then low8 (IntKind.i64.wrap (low8 (mixI (stepH c.h)) + IntKind.i64.wrap (c.b[c.i]?.getD 0))) else low8 (mixI (stepH c.h))
def byteC (c : Cur) : Cur := ⟨c.b, if c.i < c.b.length then c.i + 1 else c.i, stepH c.h⟩
theorem low8_rng (a : Int) : 0 ≤ low8 a ∧ low8 a ≤ 255 := by
  have h : (a % 2 ^ IntKind.i64.bits).toNat &&& 255 % 2 ^ IntKind.i64.bits ≤ 255 := Nat.le_trans Nat.and_le_right (Nat.mod_le _ _)
  unfold low8
  rw [wrap_i64 (by omega) (by omega)]
  omega
theorem byteV_rng (c : Cur) : 0 ≤ byteV c ∧ byteV c ≤ 255 := by
  unfold byteV
  split <;> exact low8_rng _
theorem byteC_ok {c : Cur} (h : c.ok) : (byteC c).ok := by
  refine ⟨h.1, ?_⟩
  have := h.2
  simp only [byteC]
  split <;> omega
theorem rowsB_get : ∀ (xs : List Int) (i : Nat), i < xs.length → ∃ br, List.drop i (rows B xs) = .sc (.int .u8 (xs[i]?.getD 0)) :: br
  | [], i, h => by simp at h
  | x :: xs, 0, h => ⟨rows B xs, by rw [rows_cons]; simp [B]⟩
  | x :: xs, i + 1, h => by
    obtain ⟨br, e⟩ := rowsB_get xs i (by simpa using h)
    exact ⟨br, by rw [rows_cons]; simpa [B] using e⟩
def A44 : AC := (.seq (.ops [yq 2 (.mov (yi 0))])
  (.seq (.ops [yq 4 (.mov (.t 0)), yq 5 (.mov (.t 0)), yq 6 (.nilc (.t 5)), yq 7 (.fadr 2 (.t 6)), yq 8 (.load false 1 (.t 7)), yq 9 (.bin .mul (.t 8) (yi 6364136223846793005)), yq 10 (.bin .add (.t 9) (yi 1442695040888963407)), yq 11 (.nilc (.t 4)), yq 12 (.fadr 2 (.t 11)), yn (.store 1 (.t 12) (.t 10))])
  (.seq (.any [(yq 13 (.mov (.t 0)), []), (yq 14 (.nilc (.t 13)), [0]), (yq 15 (.fadr 2 (.t 14)), [1]), (yq 16 (.load false 1 (.t 15)), [2]), (yq 17 (.bin .shr (.t 16) (.c (.sc (.int .u64 33)))), [3]), (yq 18 (.mov (.t 0)), []), (yq 19 (.nilc (.t 18)), [5]), (yq 20 (.fadr 2 (.t 19)), [6]), (yq 21 (.load false 1 (.t 20)), [7]), (yq 22 (.bin .shr (.t 21) (.c (.sc (.int .u64 47)))), [8]), (yq 23 (.bin .xor (.t 17) (.t 22)), [4, 9]), (yq 24 (.bin .and (.t 23) (yi 255)), [10]), (yq 3 (.mov (.t 24)), [11, 0, 1, 2, 3, 4, 5, 6, 7, 8, 9, 10, 11])])
  (.seq (.seq (.any [(yq 25 (.mov (.t 0)), []), (yq 26 (.nilc (.t 25)), [0]), (yq 27 (.fadr 1 (.t 26)), [1]), (yq 28 (.load false 1 (.t 27)), [2]), (yq 29 (.mov (.t 0)), []), (yq 30 (.nilc (.t 29)), [4]), (yq 31 (.fadr 0 (.t 30)), [5]), (yq 32 (.load false 1 (.t 31)), [6]), (yq 33 (.llen (.t 32)), [7]), (yq 34 (.bin .lss (.t 28) (.t 33)), [3, 8])])
  (.cond (.t 34) (.seq (.any [(yq 35 (.mov (.t 3)), []), (yq 36 (.mov (.t 0)), []), (yq 37 (.nilc (.t 36)), [1]), (yq 38 (.fadr 0 (.t 37)), [2]), (yq 39 (.load false 1 (.t 38)), [3]), (yq 40 (.mov (.t 0)), []), (yq 41 (.nilc (.t 40)), [5]), (yq 42 (.fadr 1 (.t 41)), [6]), (yq 43 (.load false 1 (.t 42)), [7]), (yq 44 (.iadr 1 (.t 39) (.t 43)), [4, 8]), (yq 45 (.load false 1 (.t 44)), [9]), (yq 46 (.cvi .i64 (.t 45)), [10]), (yq 47 (.bin .add (.t 35) (.t 46)), [0, 11]), (yq 48 (.bin .and (.t 47) (yi 255)), [12]), (yq 3 (.mov (.t 48)), [13, 0, 1, 2, 3, 4, 5, 6, 7, 8, 9, 10, 11, 12, 13])])
  (.ops [yq 49 (.mov (.t 0)), yq 50 (.mov (.t 0)), yq 51 (.nilc (.t 50)), yq 52 (.fadr 1 (.t 51)), yq 53 (.load false 1 (.t 52)), yq 54 (.bin .add (.t 53) (yi 1)), yq 55 (.nilc (.t 49)), yq 56 (.fadr 1 (.t 55)), yn (.store 1 (.t 56) (.t 54))]))
  .skip))
  (.seq (.ops [yq 57 (.mov (.t 3)), yq 2 (.mov (.t 57))])
  .ret)))))
theorem K44 : yK Tryz.prog Tryz.f44 A44 58 [.mov (.t 2)] := ⟨by kernel_rfl, by kernel_rfl, by kernel_rfl⟩
theorem R44 (c : Cur) (hc : c.ok) : Ret Tryz.prog 44 [.bx c.cs] (.sc (.int .i64 (byteV c))) [.bx (byteC c).cs] := by
  have hb : c.b.length * 1 ≤ 140737488351232 := hc.1.1
  refine Ret.run Tryz.func44 K44 (by simp) rfl rfl 900 ?_
  simp [A44, iniρ, Cur.cs, over]
  refine T.text 400 mixed (by kernel_rfl) (by kernel_rfl) ?_
  simp
  refine T.text 400 mixed (by kernel_rfl) (by kernel_rfl) ?_
  by_cases hlt : c.i < c.b.length
  case neg =>
    have hlt2 : ¬ ((c.i : Int) < c.b.length) := by omega
    simp [hlt2, ex1, byteV, byteC, low8, mixI, stepH, Cur.cs, hlt, idfree.idfreeL, idfree, ioPos1]
  have hlt2 : (c.i : Int) < c.b.length := by omega
  have hw : IntKind.i64.wrap ((c.i : Int) + 1) = c.i + 1 := wrap_i64 (by omega) (by omega)
  obtain ⟨br, hd⟩ := rowsB_get c.b c.i hlt
  simp [hlt2]
  refine T.textW 400 [([], []), ([], []), ([], []), ([], []), ([], []), ([], []), ([], []), ([], []), ([], []), ([], []), ([], []), ([], []), ([], []), ([], []), ([], [])] mixed (by kernel_rfl) (by kernel_rfl) ?_
  simp [hlt, hlt2, hd, hw, over, merge_nil, hideH_nil, ex1, byteV, byteC, low8, mixI, stepH, Cur.cs, idfree.idfreeL, idfree, ioPos1]
def belowV (c : Cur) (n : Int) : Int := if n ≤ 0 then 0 else if n ≤ 256 then (byteV c).tmod n else (byteV c * 65536 + byteV (byteC c) * 256 + byteV (byteC (byteC c))).tmod n
def belowC (c : Cur) (n : Int) : Cur := if n ≤ 0 then c else if n ≤ 256 then byteC c else byteC (byteC (byteC c))
theorem belowC_ok {c : Cur} (h : c.ok) (n : Int) : (belowC c n).ok := by
  unfold belowC
  split
  · exact h
  · split
    · exact byteC_ok h
    · exact byteC_ok (byteC_ok (byteC_ok h))
theorem belowV_rng (c : Cur) {n : Int} (h : 0 < n) : 0 ≤ belowV c n ∧ belowV c n < n := by
  have h1 := byteV_rng c
  have h2 := byteV_rng (byteC c)
  have h3 := byteV_rng (byteC (byteC c))
  unfold belowV
  rw [if_neg (by omega)]
  split
  · exact ⟨Int.tmod_nonneg _ (by omega), Int.tmod_lt_of_pos _ h⟩
  · exact ⟨Int.tmod_nonneg _ (by omega), Int.tmod_lt_of_pos _ h⟩
def A16 : AC := (.seq (.ops [yq 4 (.mov (yi 0))])
  (.seq (.seq (.ops [yq 8 (.mov (.t 1)), yq 9 (.bin .leq (.t 8) (yi 0))])
  (.cond (.t 9) (.seq (.ops [yq 4 (.mov (yi 0))])
  .ret)
  .skip))
  (.seq (.seq (.ops [yq 10 (.mov (.t 1)), yq 11 (.bin .leq (.t 10) (yi 256))])
  (.cond (.t 11) (.seq (.ops [yq 12 (.mov (.t 0)), yc 13 44 [.t 12], yq 14 (.mov (.t 1)), yq 15 (.bin .rem (.t 13) (.t 14)), yq 4 (.mov (.t 15))])
  .ret)
  .skip))
  (.seq (.ops [yq 16 (.mov (.t 0)), yc 17 44 [.t 16], yq 5 (.mov (.t 17))])
  (.seq (.ops [yq 18 (.mov (.t 0)), yc 19 44 [.t 18], yq 6 (.mov (.t 19))])
  (.seq (.ops [yq 20 (.mov (.t 0)), yc 21 44 [.t 20], yq 7 (.mov (.t 21))])
  (.seq (.ops [yq 22 (.mov (.t 5)), yq 23 (.bin .mul (.t 22) (yi 65536)), yq 24 (.mov (.t 6)), yq 25 (.bin .mul (.t 24) (yi 256)), yq 26 (.bin .add (.t 23) (.t 25)), yq 27 (.mov (.t 7)), yq 28 (.bin .add (.t 26) (.t 27)), yq 29 (.mov (.t 1)), yq 30 (.bin .rem (.t 28) (.t 29)), yq 4 (.mov (.t 30))])
  .ret)))))))
theorem K16 : yK Tryz.prog Tryz.f16 A16 31 [.mov (.t 4)] := ⟨by kernel_rfl, by kernel_rfl, by kernel_rfl⟩
theorem R16 (c : Cur) (hc : c.ok) (n : Int) : Ret Tryz.prog 16 [.bx c.cs, .sc (.int .i64 n)] (.sc (.int .i64 (belowV c n))) [.bx (belowC c n).cs, .un] := by
  refine Ret.run Tryz.func16 K16 (by simp) rfl rfl 900 ?_
  have fr : ∀ c : Cur, idfree.idfreeL c.cs = true := fun c => rfl
  by_cases h0 : n ≤ 0
  · simp [A16, iniρ, h0, belowV, belowC, ex1, fr, ioPos1]
  by_cases h1 : n ≤ 256
  · have hn : ¬ n = 0 := by omega
    simp [A16, iniρ, h0, h1]
    refine callK.bx (b := 100000) 0 rfl (by kernel_rfl) (by simp [upd_app]) (by simp [upd_app]) (fr c) rfl (by simp) (R44 c hc) rfl (by rfl) rfl ?_
    simp [h0, h1, hn, belowV, belowC, ex1, fr, ioPos1]
  simp [A16, iniρ, h0, h1]
  refine callK.bx (b := 100000) 0 rfl (by kernel_rfl) (by simp [upd_app]) (by simp [upd_app]) (fr c) rfl (by simp) (R44 c hc) rfl (by rfl) rfl ?_
  simp
  refine callK.bx (b := 100000) 0 rfl (by kernel_rfl) (by simp [upd_app]) (by simp [upd_app]) (fr _) rfl (by simp) (R44 _ (byteC_ok hc)) rfl (by rfl) rfl ?_
  simp
  refine callK.bx (b := 100000) 0 rfl (by kernel_rfl) (by simp [upd_app]) (by simp [upd_app]) (fr _) rfl (by simp) (R44 _ (byteC_ok (byteC_ok hc))) rfl (by rfl) rfl ?_
  have q1 := byteV_rng c
  have q2 := byteV_rng (byteC c)
  have q3 := byteV_rng (byteC (byteC c))
  have w1 : IntKind.i64.wrap (byteV c * 65536) = byteV c * 65536 := wrap_i64 (by omega) (by omega)
  have w2 : IntKind.i64.wrap (byteV (byteC c) * 256) = byteV (byteC c) * 256 := wrap_i64 (by omega) (by omega)
  have w3 : IntKind.i64.wrap (byteV c * 65536 + byteV (byteC c) * 256) = byteV c * 65536 + byteV (byteC c) * 256 := wrap_i64 (by omega) (by omega)
  have w4 : IntKind.i64.wrap (byteV c * 65536 + byteV (byteC c) * 256 + byteV (byteC (byteC c))) = byteV c * 65536 + byteV (byteC c) * 256 + byteV (byteC (byteC c)) := wrap_i64 (by omega) (by omega)
  have hn : ¬ n = 0 := by omega
  simp [h0, h1, hn, w1, w2, w3, w4, belowV, belowC, ex1, fr, ioPos1]
def A72 : AC := (.seq (.ops [yq 4 (.mov (.c (.sc (.bool false))))])
  (.seq (.ops [yq 5 (.mov (.t 0)), yq 6 (.mov (.t 1)), yc 7 16 [.t 5, .t 6], yq 8 (.bin .eql (.t 7) (yi 0)), yq 4 (.mov (.t 8))])
  .ret))
theorem K72 : yK Tryz.prog Tryz.f72 A72 9 [.mov (.t 4)] := ⟨by kernel_rfl, by kernel_rfl, by kernel_rfl⟩
theorem R72 (c : Cur) (hc : c.ok) (n : Int) : Ret Tryz.prog 72 [.bx c.cs, .sc (.int .i64 n)] (.sc (.bool (belowV c n == 0))) [.bx (belowC c n).cs, .un] := by
  have fr : ∀ c : Cur, idfree.idfreeL c.cs = true := fun c => rfl
  refine Ret.run Tryz.func72 K72 (by simp) rfl rfl 900 ?_
  simp [A72, iniρ]
  refine callK.bx (b := 100000) 0 rfl (by kernel_rfl) (by simp [upd_app]) (by simp [upd_app]) (fr c) (by simp [upd_app]) (by simp) (R16 c hc n) rfl (by rfl) rfl ?_
  simp [ex1, fr, ioPos1]
def A18 : AC := (.seq (.ops [yq 4 (.mov (.c (.sc (.string ⟨#[]⟩))))])
  (.seq (.ops [yq 5 (.mov (.t 1)), yq 6 (.mov (.t 0)), yq 7 (.mov (.t 1)), yq 8 (.llen (.t 7)), yc 9 16 [.t 6, .t 8], yq 10 (.iadr 1 (.t 5) (.t 9)), yq 11 (.load false 1 (.t 10)), yq 4 (.mov (.t 11))])
  .ret))
theorem K18 : yK Tryz.prog Tryz.f18 A18 12 [.mov (.t 4)] := ⟨by kernel_rfl, by kernel_rfl, by kernel_rfl⟩
theorem R18 (c : Cur) (hc : c.ok) (xs : List ByteArray) (hx : 0 < xs.length) : Ret Tryz.prog 18 [.bx c.cs, .own (rows Ty.str.oc xs) xs.length 1] (.sc (.string (xs[(belowV c xs.length).toNat]?.getD default))) [.bx (belowC c xs.length).cs, .un] := by
  have fr : ∀ c : Cur, idfree.idfreeL c.cs = true := fun c => rfl
  refine Ret.run Tryz.func18 K18 (by simp) rfl rfl 900 ?_
  simp [A18, iniρ]
  refine callK.bx (b := 100000) 0 rfl (by kernel_rfl) (by simp [upd_app]) (by simp [upd_app]) (fr c) (by simp [upd_app]) (by simp) (R16 c hc xs.length) rfl (by rfl) rfl ?_
  obtain ⟨r1, r2⟩ := belowV_rng c (n := xs.length) (by omega)
  obtain ⟨m, hm⟩ : ∃ m : Nat, belowV c xs.length = m := ⟨(belowV c xs.length).toNat, by omega⟩
  rw [hm] at r1 r2 ⊢
  have r3 : m < xs.length := by omega
  have hd : List.drop m (rows Ty.str.oc xs) = .sc (.string (xs[m]?.getD default)) :: rows Ty.str.oc (xs.drop (m + 1)) := by
    have h := rows_drop Ty.str.ocn (xs.take m) (xs.drop m)
    rw [List.take_append_drop, List.length_take, Nat.min_eq_left (by omega)] at h
    have h : List.drop m (rows Ty.str.oc xs) = rows Ty.str.oc (xs.drop m) := by
      have h2 := h
      rwa [show m * Ty.str.n = m from Nat.mul_one m] at h2
    rw [h, List.drop_eq_getElem_cons r3, rows_cons]
    simp [r3]
    rfl
  simp [r2, r3, hd, ex1, fr, ioPos1]
def low30 (a : Int) : Int := IntKind.i64.wrap (((a % 2 ^ IntKind.i64.bits).toNat &&& 1073741823 % 2 ^ IntKind.i64.bits : Nat) : Int)
def newS (h y : Int) : Int := low30 (IntKind.i64.wrap (IntKind.i64.wrap (IntKind.i64.wrap (h * 137) + IntKind.i64.wrap y) + 11))
def newH : Nat → List Int → Int → Int
  | 0, _, h => h
  | _ + 1, [], h => h
  | n + 1, y :: l, h => newH n l (newS h y)
def newC (b : List Int) : Cur := ⟨b, 0, newH 4000 b (778778 + b.length)⟩
theorem newC_ok {b : List Int} (h : Ty.byte.slice.ok b) : (newC b).ok := ⟨h, Nat.zero_le _⟩
def A14 : AC := (.seq (.ops [yq 2 (.mov (.c (.sc (.pointer none))))])
  (.seq (.ops [yq 5 (.mov (.t 0)), yq 6 (.llen (.t 5)), yq 7 (.bin .add (yi 778778) (.t 6)), yq 3 (.mov (.t 7))])
  (.seq (.seq (.ops [yq 4 (.mov (yi 0))])
  (.block 0 (.loop (.seq (.seq (.ops [yq 8 (.mov (.t 4)), yq 9 (.mov (.t 0)), yq 10 (.llen (.t 9)), yq 11 (.bin .lss (.t 8) (.t 10)), yq 12 (.mov (.t 11)), yg 13 12 true (.mov (.t 4)), yg 14 12 true (.bin .lss (.t 13) (yi 4000)), yq 15 (.pick (.t 12) (.t 14) (.c (.sc (.bool false))))])
  (.cond (.t 15) .skip
  (.exit 0)))
  (.seq (.block 1 (.ops [yq 18 (.mov (.t 3)), yq 19 (.bin .mul (.t 18) (yi 137)), yq 20 (.mov (.t 0)), yq 21 (.mov (.t 4)), yq 22 (.iadr 1 (.t 20) (.t 21)), yq 23 (.load false 1 (.t 22)), yq 24 (.cvi .i64 (.t 23)), yq 25 (.bin .add (.t 19) (.t 24)), yq 26 (.bin .add (.t 25) (yi 11)), yq 27 (.bin .and (.t 26) (yi 1073741823)), yq 3 (.mov (.t 27))]))
  (.ops [yq 16 (.mov (.t 4)), yq 17 (.bin .add (.t 16) (yi 1)), yq 4 (.mov (.t 17))]))))))
  (.seq (.ops [yq 28 (.mov (.t 0)), yq 29 (.mov (.t 3)), yw 30 (.build [.em, (.sc (.int .i64 0)), (.sc (.int .i64 0))] [(0, 1, (.t 28)), (2, 1, (.t 29))]), yw 31 (.box (.t 30)), yq 2 (.mov (.t 31))])
  .ret))))
theorem K14 : yK Tryz.prog Tryz.f14 A14 32 [.mov (.t 2)] := ⟨by kernel_rfl, by kernel_rfl, by kernel_rfl⟩
theorem R14 (b : List Int) (hx : Ty.byte.slice.ok b) : Ret Tryz.prog 14 [.ro (rows B b) b.length] (.bx (newC b).cs) [.un] := by
  have hb : b.length * 1 ≤ 140737488351232 := hx.1
  have hw0 : IntKind.i64.wrap (778778 + (b.length : Int)) = 778778 + b.length := wrap_i64 (by omega) (by omega)
  refine Ret.run Tryz.func14 K14 (by simp) rfl rfl 900 ?_
  simp [A14, iniρ, hw0]
  refine T.rounds (μ := fun i : List Int × List Int × Int => i.2.1.length)
    (fun i s => i.1 ++ i.2.1 = b ∧ i.1.length ≤ 4000 ∧ newH (4000 - i.1.length) i.2.1 i.2.2 = newH 4000 b (778778 + b.length) ∧ s.ρ 0 = .ro (rows B b) b.length ∧ s.ρ 3 = .sc (.int .i64 i.2.2) ∧ s.ρ 4 = .sc (.int .i64 i.1.length) ∧ s.h 31 = none ∧ s.n = 32) ([], b, 778778 + b.length) (by simp [upd_app]) ?_
  rintro ⟨pre, rest, h⟩ ⟨ρ, hh, n⟩ ⟨hx, hp, hE, h0', h3', h4', hf, rfl⟩
  simp only at hx hp hE h0' h3' h4' hf
  refine run_ok (n := 400) ?_
  cases rest with
  | nil =>
    have hl : pre.length = b.length := by rw [← hx]; simp
    have hE2 : h = newH 4000 b (778778 + b.length) := by rw [← hE]; cases 4000 - pre.length <;> rfl
    simp [h0', h4', hl]
    refine T.on 400 ?_
    simp [h0', h3', hf, over, ex1, Cur.cs, newC, ← hE2, idfree.idfreeL, idfree]
  | cons y rest =>
    have hle : pre.length + (rest.length + 1) = b.length := by rw [← hx]; simp
    have hlt : (pre.length : Int) < b.length := by omega
    by_cases h4k : pre.length = 4000
    · have hE2 : h = newH 4000 b (778778 + b.length) := by rw [← hE, h4k]; rfl
      have h4l : ¬ ((pre.length : Int) < 4000) := by omega
      simp [h0', h4', hlt, h4l]
      refine T.on 400 ?_
      simp [h0', h3', hf, over, ex1, Cur.cs, newC, ← hE2, idfree.idfreeL, idfree]
    have h4l : (pre.length : Int) < 4000 := by omega
    have hd := rows_drop B.len pre (y :: rest)
    rw [hx, rows_cons, Nat.mul_one] at hd
    have hw : IntKind.i64.wrap ((pre.length : Int) + 1) = pre.length + 1 := wrap_i64 (by omega) (by omega)
    have hs : 4000 - pre.length = (4000 - (pre.length + 1)) + 1 := by omega
    rw [hs] at hE
    simp [h0', h3', h4', hlt, h4l, hd, B, hw]
    refine ⟨pre ++ [y], rest, by simp, newS h y, _, Le.refl _, ?_⟩
    simp [hx, h0', hf, upd_app, ← hE, newH, newS, low30]
    omega
def pickS (l : List ByteArray) (c : Cur) (n : Int) : ByteArray := l[(belowV c n).toNat]?.getD default
theorem pick_size {l : List ByteArray} {n : Nat} (h : ∀ x ∈ l, x.size ≤ n) (c : Cur) (k : Int) : (pickS l c k).size ≤ n := by
  unfold pickS
  cases e : l[(belowV c k).toNat]? with
  | none => exact Nat.zero_le _
  | some y => exact h y (List.mem_of_getElem? e)
def inR (x a b : Int) : Bool := decide (a ≤ x) && decide (x ≤ b)
def smallI (n : Int) : Bool := decide (97 ≤ n) && decide (n ≤ 122)
def figI (n : Int) : Bool := decide (48 ≤ n) && decide (n ≤ 57)
def nameC (i : Nat) (c : UInt8) : Bool := smallI (c.toNat : Int) || (decide (i ≠ 0) && (figI (c.toNat : Int) || decide ((c.toNat : Int) = 45)))
def nameL : List UInt8 → Nat → Bool
  | [], _ => true
  | c :: l, i => nameC i c && nameL l (i + 1)
def nameOk (s : ByteArray) : Bool := nameL s.data.toList 0 && inR s.size 1 10
theorem str_get {s : ByteArray} {pre rest : List UInt8} {c : UInt8} (h : pre ++ c :: rest = s.data.toList) : s[pre.length]? = some c := by
  have h2 : s.data.toList[pre.length]? = some c := by rw [← h]; simp
  have hlt : pre.length < s.size := by
    have := (List.getElem?_eq_some_iff.1 h2).1
    simpa using this
  have h3 : s.data[pre.length]? = some c := by rw [← Array.getElem?_toList]; exact h2
  rw [Array.getElem?_eq_some_iff] at h3
  obtain ⟨h4, h5⟩ := h3
  have : s[pre.length]? = some s[pre.length] := getElem?_pos s pre.length hlt
  rw [this]
  congr 1
theorem str_len {s : ByteArray} {l : List UInt8} (h : l = s.data.toList) : s.size = l.length := by subst h; exact Array.length_toList.symm
theorem bl_tot (a b : List UInt8) : (Op.bytesLess a b || a == b) = !(Op.bytesLess b a) := by
  induction a generalizing b with
  | nil => cases b <;> simp [Op.bytesLess]
  | cons x a ih =>
    cases b with
    | nil => simp [Op.bytesLess]
    | cons y b =>
      simp only [Op.bytesLess]
      by_cases h1 : x < y
      · have h2 : ¬ y < x := fun h => by have := UInt8.lt_iff_toNat_lt.1 h; have := UInt8.lt_iff_toNat_lt.1 h1; omega
        have h3 : ¬ y = x := fun h => by subst h; exact h2 h1
        simp [h1, h2, h3]
      · by_cases h2 : y < x
        · have h3 : ¬ x = y := fun h => by subst h; exact h1 h2
          simp [h1, h2, h3]
        · have h3 : x = y := by
            apply UInt8.toNat_inj.1
            have := mt UInt8.lt_iff_toNat_lt.2 h1; have := mt UInt8.lt_iff_toNat_lt.2 h2; omega
          subst h3
          simp [h1, ih]
def A85 : AC := (.seq (.ops [yq 6 (.mov (.c (.sc (.bool false))))])
  (.seq (.ops [yq 7 (.mov (.t 0)), yq 8 (.mov (.t 1)), yq 9 (.bin .geq (.t 7) (.t 8)), yq 10 (.mov (.t 9)), yg 11 10 true (.mov (.t 0)), yg 12 10 true (.mov (.t 2)), yg 13 10 true (.bin .leq (.t 11) (.t 12)), yq 14 (.pick (.t 10) (.t 13) (.c (.sc (.bool false)))), yq 6 (.mov (.t 14))])
  .ret))
theorem K85 : yK Tryz.prog Tryz.f85 A85 15 [.mov (.t 6)] := ⟨by kernel_rfl, by kernel_rfl, by kernel_rfl⟩
theorem R85 (x a b : Int) : Ret Tryz.prog 85 [.sc (.int .i64 x), .sc (.int .i64 a), .sc (.int .i64 b)] (.sc (.bool (inR x a b))) [.un, .un, .un] := by
  refine Ret.run Tryz.func85 K85 (by simp) rfl rfl 500 ?_
  by_cases h : a ≤ x <;> simp [A85, iniρ, inR, h]
def A66 : AC := (.seq (.ops [yq 6 (.mov (.c (.sc (.bool false))))])
  (.seq (.ops [yq 7 (.mov (.t 0)), yq 8 (.mov (.t 1)), yq 9 (.bin .geq (.t 7) (.t 8)), yq 10 (.mov (.t 9)), yg 11 10 true (.mov (.t 0)), yg 12 10 true (.mov (.t 2)), yg 13 10 true (.bin .leq (.t 11) (.t 12)), yq 14 (.pick (.t 10) (.t 13) (.c (.sc (.bool false)))), yq 6 (.mov (.t 14))])
  .ret))
theorem K66 : yK Tryz.prog Tryz.f66 A66 15 [.mov (.t 6)] := ⟨by kernel_rfl, by kernel_rfl, by kernel_rfl⟩
theorem R66 (x a b : Int) : Ret Tryz.prog 66 [.sc (.int .i64 x), .sc (.int .i64 a), .sc (.int .i64 b)] (.sc (.bool (inR x a b))) [.un, .un, .un] := by
  refine Ret.run Tryz.func66 K66 (by simp) rfl rfl 500 ?_
  by_cases h : a ≤ x <;> simp [A66, iniρ, inR, h]
def A64 : AC := (.seq (.ops [yq 2 (.mov (.c (.sc (.bool false))))])
  (.seq (.ops [yq 3 (.mov (.t 0)), yq 4 (.bin .geq (.t 3) (.c (.sc (.int .u8 97)))), yq 5 (.mov (.t 4)), yg 6 5 true (.mov (.t 0)), yg 7 5 true (.bin .leq (.t 6) (.c (.sc (.int .u8 122)))), yq 8 (.pick (.t 5) (.t 7) (.c (.sc (.bool false)))), yq 2 (.mov (.t 8))])
  .ret))
theorem K64 : yK Tryz.prog Tryz.f64 A64 9 [.mov (.t 2)] := ⟨by kernel_rfl, by kernel_rfl, by kernel_rfl⟩
theorem R64 (c : UInt8) : Ret Tryz.prog 64 [.sc (.int .u8 c.toNat)] (.sc (.bool (smallI c.toNat))) [.un] := by
  refine Ret.run Tryz.func64 K64 (by simp) rfl rfl 500 ?_
  by_cases h : (97 : Int) ≤ c.toNat <;> simp [A64, iniρ, smallI, h]
def A65 : AC := (.seq (.ops [yq 2 (.mov (.c (.sc (.bool false))))])
  (.seq (.ops [yq 3 (.mov (.t 0)), yq 4 (.bin .geq (.t 3) (.c (.sc (.int .u8 48)))), yq 5 (.mov (.t 4)), yg 6 5 true (.mov (.t 0)), yg 7 5 true (.bin .leq (.t 6) (.c (.sc (.int .u8 57)))), yq 8 (.pick (.t 5) (.t 7) (.c (.sc (.bool false)))), yq 2 (.mov (.t 8))])
  .ret))
theorem K65 : yK Tryz.prog Tryz.f65 A65 9 [.mov (.t 2)] := ⟨by kernel_rfl, by kernel_rfl, by kernel_rfl⟩
theorem R65 (c : UInt8) : Ret Tryz.prog 65 [.sc (.int .u8 c.toNat)] (.sc (.bool (figI c.toNat))) [.un] := by
  refine Ret.run Tryz.func65 K65 (by simp) rfl rfl 500 ?_
  by_cases h : (48 : Int) ≤ c.toNat <;> simp [A65, iniρ, figI, h]
def A83 : AC := (.seq (.ops [yq 2 (.mov (.c (.sc (.bool false))))])
  (.seq (.ops [yq 3 (.mov (.t 0)), yq 4 (.cvi .i64 (.t 3)), yc 5 85 [.t 4, yi 97, yi 122], yq 2 (.mov (.t 5))])
  .ret))
theorem K83 : yK Tryz.prog Tryz.f83 A83 6 [.mov (.t 2)] := ⟨by kernel_rfl, by kernel_rfl, by kernel_rfl⟩
theorem R83 (c : UInt8) : Ret Tryz.prog 83 [.sc (.int .u8 c.toNat)] (.sc (.bool (smallI c.toNat))) [.un] := by
  have hw : IntKind.i64.wrap (c.toNat : Int) = c.toNat := wrap_i64 (by omega) (by have := c.toNat_lt; omega)
  refine Ret.run Tryz.func83 K83 (by simp) rfl rfl 500 ?_
  simp [A83, iniρ, hw]
  refine callK.ro 0 rfl (by kernel_rfl) (by simp [roc_sc]) (R85 c.toNat 97 122) rfl rfl rfl ?_
  simp [inR, smallI]
def A84 : AC := (.seq (.ops [yq 2 (.mov (.c (.sc (.bool false))))])
  (.seq (.ops [yq 3 (.mov (.t 0)), yq 4 (.cvi .i64 (.t 3)), yc 5 85 [.t 4, yi 48, yi 57], yq 2 (.mov (.t 5))])
  .ret))
theorem K84 : yK Tryz.prog Tryz.f84 A84 6 [.mov (.t 2)] := ⟨by kernel_rfl, by kernel_rfl, by kernel_rfl⟩
theorem R84 (c : UInt8) : Ret Tryz.prog 84 [.sc (.int .u8 c.toNat)] (.sc (.bool (figI c.toNat))) [.un] := by
  have hw : IntKind.i64.wrap (c.toNat : Int) = c.toNat := wrap_i64 (by omega) (by have := c.toNat_lt; omega)
  refine Ret.run Tryz.func84 K84 (by simp) rfl rfl 500 ?_
  simp [A84, iniρ, hw]
  refine callK.ro 0 rfl (by kernel_rfl) (by simp [roc_sc]) (R85 c.toNat 48 57) rfl rfl rfl ?_
  simp [inR, figI]
def A54 : AC := (.seq (.ops [yq 2 (.mov (.c (.sc (.bool false))))])
  (.seq (.seq (.ops [yq 3 (.mov (yi 0))])
  (.block 0 (.loop (.seq (.seq (.ops [yq 4 (.mov (.t 3)), yq 5 (.mov (.t 0)), yq 6 (.slen (.t 5)), yq 7 (.bin .lss (.t 4) (.t 6))])
  (.cond (.t 7) .skip
  (.exit 0)))
  (.seq (.block 1 (.seq (.ops [yq 10 (.mov (.t 0)), yq 11 (.mov (.t 3)), yq 12 (.idx (.t 10) (.t 11)), yc 13 83 [.t 12], yq 14 (.not (.t 13)), yq 15 (.mov (.t 14)), yg 16 15 true (.mov (.t 3)), yg 17 15 true (.bin .eql (.t 16) (yi 0)), yg 18 15 true (.mov (.t 17)), yg 19 18 false (.mov (.t 0)), yg 20 18 false (.mov (.t 3)), yg 21 18 false (.idx (.t 19) (.t 20)), yh 22 18 false 84 [.t 21], yg 23 18 false (.not (.t 22)), yg 24 18 false (.mov (.t 23)), yg 25 24 true (.mov (.t 0)), yg 26 24 true (.mov (.t 3)), yg 27 24 true (.idx (.t 25) (.t 26)), yg 28 24 true (.bin .neq (.t 27) (.c (.sc (.int .u8 45)))), yg 29 18 false (.pick (.t 24) (.t 28) (.c (.sc (.bool false)))), yg 30 15 true (.pick (.t 18) (.c (.sc (.bool true))) (.t 29)), yq 31 (.pick (.t 15) (.t 30) (.c (.sc (.bool false))))])
  (.cond (.t 31) (.seq (.ops [yq 2 (.mov (.c (.sc (.bool false))))])
  .ret)
  .skip)))
  (.ops [yq 8 (.mov (.t 3)), yq 9 (.bin .add (.t 8) (yi 1)), yq 3 (.mov (.t 9))]))))))
  (.seq (.ops [yq 32 (.mov (.t 0)), yq 33 (.slen (.t 32)), yc 34 85 [.t 33, yi 1, yi 10], yq 2 (.mov (.t 34))])
  .ret)))
theorem K54 : yK Tryz.prog Tryz.f54 A54 35 [.mov (.t 2)] := ⟨by kernel_rfl, by kernel_rfl, by kernel_rfl⟩
theorem R54 (s : ByteArray) (hs : s.size ≤ 140737488351232) : Ret Tryz.prog 54 [.sc (.string s)] (.sc (.bool (nameOk s))) [.un] := by
  refine Ret.run Tryz.func54 K54 (by simp) rfl rfl 500 ?_
  simp [A54, iniρ]
  refine T.rounds (μ := fun i : List UInt8 × List UInt8 => i.2.length)
    (fun i t => i.1 ++ i.2 = s.data.toList ∧ nameL i.2 i.1.length = nameL s.data.toList 0 ∧ t.ρ 0 = .sc (.string s) ∧ t.ρ 3 = .sc (.int .i64 i.1.length) ∧ t.h = h0 ∧ t.n = 35) ([], s.data.toList) (by simp [upd_app]) ?_
  rintro ⟨pre, rest⟩ ⟨ρ, hh, n⟩ ⟨hx, hE, k0, k3, rfl, rfl⟩
  simp only at hx hE k0 k3
  have hsz := str_len hx
  refine run_ok (n := 400) ?_
  cases rest with
  | nil =>
    simp at hsz
    simp [k0, k3, hsz]
    refine T.on 400 ?_
    simp [k0]
    refine callK.ro 0 rfl (by kernel_rfl) (by simp [roc_sc]) (R85 s.size 1 10) rfl rfl rfl ?_
    simp [nameOk, ← hE, nameL]
  | cons c rest =>
    have hg := str_get hx
    simp at hsz
    have hlt : (pre.length : Int) < s.size := by omega
    have hw : IntKind.i64.wrap ((pre.length : Int) + 1) = pre.length + 1 := wrap_i64 (by omega) (by omega)
    simp [k0, k3, hlt, hg]
    refine callK.ro 0 rfl (by kernel_rfl) (by simp [roc_sc]) (R83 c) rfl rfl rfl ?_
    have step : nameC pre.length c = true → ∀ (Q : Prop), (nameL rest (pre.length + 1) = nameL s.data.toList 0 → Q) → Q := fun h Q k => k (by rw [← hE]; simp [nameL, h])
    have stop : nameC pre.length c = false → nameOk s = false := fun h => by simp [nameOk, ← hE, nameL, h]
    cases h1 : smallI (c.toNat : Int)
    · by_cases hz : pre.length = 0
      · have := stop (by simp [nameC, h1, hz])
        simp [k0, k3, h1, hz, hlt, hg, this]
      · have hz' : pre ≠ [] := fun e => hz (by simp [e])
        simp [k0, k3, h1, hz, hz', hlt, hg]
        refine callK.ro 0 rfl (by kernel_rfl) (by simp [roc_sc]) (R84 c) rfl rfl rfl ?_
        cases h2 : figI (c.toNat : Int)
        · by_cases h3 : (c.toNat : Int) = 45
          · simp [k0, k3, h1, h2, hz, hz', hlt, hg, h3, hw]
            refine step (by simp [nameC, h1, h2, hz, hz', h3]) _ fun hE2 => ?_
            refine ⟨pre ++ [c], rest, by simp, _, Le.refl _, ?_⟩
            simp [hx, k0, hE2, upd_app]
          · have := stop (by simp [nameC, h1, h2, hz, hz', h3])
            simp [k0, k3, h1, h2, hz, hz', hlt, hg, h3, this]
        · simp [k0, k3, h1, h2, hz, hz', hlt, hg, hw]
          refine step (by simp [nameC, h1, h2, hz, hz']) _ fun hE2 => ?_
          refine ⟨pre ++ [c], rest, by simp, _, Le.refl _, ?_⟩
          simp [hx, k0, hE2, upd_app]
    · simp [k0, k3, h1, hlt, hg, hw]
      refine step (by simp [nameC, h1]) _ fun hE2 => ?_
      refine ⟨pre ++ [c], rest, by simp, _, Le.refl _, ?_⟩
      simp [hx, k0, hE2, upd_app]
def A38 : AC := (.seq (.ops [yq 2 (.mov (.c (.sc (.bool false))))])
  (.seq (.seq (.ops [yq 3 (.mov (yi 0))])
  (.block 0 (.loop (.seq (.seq (.ops [yq 4 (.mov (.t 3)), yq 5 (.mov (.t 0)), yq 6 (.slen (.t 5)), yq 7 (.bin .lss (.t 4) (.t 6))])
  (.cond (.t 7) .skip
  (.exit 0)))
  (.seq (.block 1 (.seq (.ops [yq 10 (.mov (.t 0)), yq 11 (.mov (.t 3)), yq 12 (.idx (.t 10) (.t 11)), yc 13 64 [.t 12], yq 14 (.not (.t 13)), yq 15 (.mov (.t 14)), yg 16 15 true (.mov (.t 3)), yg 17 15 true (.bin .eql (.t 16) (yi 0)), yg 18 15 true (.mov (.t 17)), yg 19 18 false (.mov (.t 0)), yg 20 18 false (.mov (.t 3)), yg 21 18 false (.idx (.t 19) (.t 20)), yh 22 18 false 65 [.t 21], yg 23 18 false (.not (.t 22)), yg 24 18 false (.mov (.t 23)), yg 25 24 true (.mov (.t 0)), yg 26 24 true (.mov (.t 3)), yg 27 24 true (.idx (.t 25) (.t 26)), yg 28 24 true (.bin .neq (.t 27) (.c (.sc (.int .u8 45)))), yg 29 18 false (.pick (.t 24) (.t 28) (.c (.sc (.bool false)))), yg 30 15 true (.pick (.t 18) (.c (.sc (.bool true))) (.t 29)), yq 31 (.pick (.t 15) (.t 30) (.c (.sc (.bool false))))])
  (.cond (.t 31) (.seq (.ops [yq 2 (.mov (.c (.sc (.bool false))))])
  .ret)
  .skip)))
  (.ops [yq 8 (.mov (.t 3)), yq 9 (.bin .add (.t 8) (yi 1)), yq 3 (.mov (.t 9))]))))))
  (.seq (.ops [yq 32 (.mov (.t 0)), yq 33 (.slen (.t 32)), yc 34 66 [.t 33, yi 1, yi 10], yq 2 (.mov (.t 34))])
  .ret)))
theorem K38 : yK Tryz.prog Tryz.f38 A38 35 [.mov (.t 2)] := ⟨by kernel_rfl, by kernel_rfl, by kernel_rfl⟩
theorem R38 (s : ByteArray) (hs : s.size ≤ 140737488351232) : Ret Tryz.prog 38 [.sc (.string s)] (.sc (.bool (nameOk s))) [.un] := by
  refine Ret.run Tryz.func38 K38 (by simp) rfl rfl 500 ?_
  simp [A38, iniρ]
  refine T.rounds (μ := fun i : List UInt8 × List UInt8 => i.2.length)
    (fun i t => i.1 ++ i.2 = s.data.toList ∧ nameL i.2 i.1.length = nameL s.data.toList 0 ∧ t.ρ 0 = .sc (.string s) ∧ t.ρ 3 = .sc (.int .i64 i.1.length) ∧ t.h = h0 ∧ t.n = 35) ([], s.data.toList) (by simp [upd_app]) ?_
  rintro ⟨pre, rest⟩ ⟨ρ, hh, n⟩ ⟨hx, hE, k0, k3, rfl, rfl⟩
  simp only at hx hE k0 k3
  have hsz := str_len hx
  refine run_ok (n := 400) ?_
  cases rest with
  | nil =>
    simp at hsz
    simp [k0, k3, hsz]
    refine T.on 400 ?_
    simp [k0]
    refine callK.ro 0 rfl (by kernel_rfl) (by simp [roc_sc]) (R66 s.size 1 10) rfl rfl rfl ?_
    simp [nameOk, ← hE, nameL]
  | cons c rest =>
    have hg := str_get hx
    simp at hsz
    have hlt : (pre.length : Int) < s.size := by omega
    have hw : IntKind.i64.wrap ((pre.length : Int) + 1) = pre.length + 1 := wrap_i64 (by omega) (by omega)
    simp [k0, k3, hlt, hg]
    refine callK.ro 0 rfl (by kernel_rfl) (by simp [roc_sc]) (R64 c) rfl rfl rfl ?_
    have step : nameC pre.length c = true → ∀ (Q : Prop), (nameL rest (pre.length + 1) = nameL s.data.toList 0 → Q) → Q := fun h Q k => k (by rw [← hE]; simp [nameL, h])
    have stop : nameC pre.length c = false → nameOk s = false := fun h => by simp [nameOk, ← hE, nameL, h]
    cases h1 : smallI (c.toNat : Int)
    · by_cases hz : pre.length = 0
      · have := stop (by simp [nameC, h1, hz])
        simp [k0, k3, h1, hz, hlt, hg, this]
      · have hz' : pre ≠ [] := fun e => hz (by simp [e])
        simp [k0, k3, h1, hz, hz', hlt, hg]
        refine callK.ro 0 rfl (by kernel_rfl) (by simp [roc_sc]) (R65 c) rfl rfl rfl ?_
        cases h2 : figI (c.toNat : Int)
        · by_cases h3 : (c.toNat : Int) = 45
          · simp [k0, k3, h1, h2, hz, hz', hlt, hg, h3, hw]
            refine step (by simp [nameC, h1, h2, hz, hz', h3]) _ fun hE2 => ?_
            refine ⟨pre ++ [c], rest, by simp, _, Le.refl _, ?_⟩
            simp [hx, k0, hE2, upd_app]
          · have := stop (by simp [nameC, h1, h2, hz, hz', h3])
            simp [k0, k3, h1, h2, hz, hz', hlt, hg, h3, this]
        · simp [k0, k3, h1, h2, hz, hz', hlt, hg, hw]
          refine step (by simp [nameC, h1, h2, hz, hz']) _ fun hE2 => ?_
          refine ⟨pre ++ [c], rest, by simp, _, Le.refl _, ?_⟩
          simp [hx, k0, hE2, upd_app]
    · simp [k0, k3, h1, hlt, hg, hw]
      refine step (by simp [nameC, h1]) _ fun hE2 => ?_
      refine ⟨pre ++ [c], rest, by simp, _, Le.refl _, ?_⟩
      simp [hx, k0, hE2, upd_app]
def lttI (n : Int) : Bool := smallI n || figI n || n == 46 || n == 45 || n == 95
def letL : List UInt8 → Bool
  | [] => true
  | c :: l => lttI (c.toNat : Int) && letL l
def partOk (s : ByteArray) : Bool := letL s.data.toList && (inR s.size 1 12 && !(s.toList == [46]) && !(s.toList == [46, 46]))
def A130 : AC := (.seq (.ops [yq 2 (.mov (.c (.sc (.bool false))))])
  (.seq (.ops [yq 3 (.mov (.t 0)), yc 4 83 [.t 3], yq 5 (.mov (.t 4)), yg 6 5 false (.mov (.t 0)), yh 7 5 false 84 [.t 6], yq 8 (.pick (.t 5) (.c (.sc (.bool true))) (.t 7)), yq 9 (.mov (.t 8)), yg 10 9 false (.mov (.t 0)), yg 11 9 false (.bin .eql (.t 10) (.c (.sc (.int .u8 46)))), yq 12 (.pick (.t 9) (.c (.sc (.bool true))) (.t 11)), yq 13 (.mov (.t 12)), yg 14 13 false (.mov (.t 0)), yg 15 13 false (.bin .eql (.t 14) (.c (.sc (.int .u8 45)))), yq 16 (.pick (.t 13) (.c (.sc (.bool true))) (.t 15)), yq 17 (.mov (.t 16)), yg 18 17 false (.mov (.t 0)), yg 19 17 false (.bin .eql (.t 18) (.c (.sc (.int .u8 95)))), yq 20 (.pick (.t 17) (.c (.sc (.bool true))) (.t 19)), yq 2 (.mov (.t 20))])
  .ret))
theorem K130 : yK Tryz.prog Tryz.f130 A130 21 [.mov (.t 2)] := ⟨by kernel_rfl, by kernel_rfl, by kernel_rfl⟩
theorem R130 (c : UInt8) : Ret Tryz.prog 130 [.sc (.int .u8 c.toNat)] (.sc (.bool (lttI c.toNat))) [.un] := by
  refine Ret.run Tryz.func130 K130 (by simp) rfl rfl 500 ?_
  simp [A130, iniρ]
  refine callK.ro 0 rfl (by kernel_rfl) (by simp [roc_sc]) (R83 c) rfl rfl rfl ?_
  cases h1 : smallI (c.toNat : Int)
  case true => simp [lttI, h1]
  simp
  refine callK.ro 0 rfl (by kernel_rfl) (by simp [roc_sc]) (R84 c) rfl rfl rfl ?_
  cases h2 : figI (c.toNat : Int)
  case true => simp [lttI, h1, h2]
  by_cases h3 : (c.toNat : Int) = 46
  · simp [lttI, h1, h2, h3]
  by_cases h4 : (c.toNat : Int) = 45
  · simp [lttI, h1, h2, h3, h4]
  simp [lttI, h1, h2, h3, h4]
def A103 : AC := (.seq (.ops [yq 2 (.mov (.c (.sc (.bool false))))])
  (.seq (.seq (.ops [yq 3 (.mov (yi 0))])
  (.block 0 (.loop (.seq (.seq (.ops [yq 4 (.mov (.t 3)), yq 5 (.mov (.t 0)), yq 6 (.slen (.t 5)), yq 7 (.bin .lss (.t 4) (.t 6))])
  (.cond (.t 7) .skip
  (.exit 0)))
  (.seq (.block 1 (.seq (.ops [yq 10 (.mov (.t 0)), yq 11 (.mov (.t 3)), yq 12 (.idx (.t 10) (.t 11)), yc 13 130 [.t 12], yq 14 (.not (.t 13))])
  (.cond (.t 14) (.seq (.ops [yq 2 (.mov (.c (.sc (.bool false))))])
  .ret)
  .skip)))
  (.ops [yq 8 (.mov (.t 3)), yq 9 (.bin .add (.t 8) (yi 1)), yq 3 (.mov (.t 9))]))))))
  (.seq (.ops [yq 15 (.mov (.t 0)), yq 16 (.slen (.t 15)), yc 17 85 [.t 16, yi 1, yi 12], yq 18 (.mov (.t 17)), yg 19 18 true (.mov (.t 0)), yg 20 18 true (.bin .neq (.t 19) (.c (.sc (.string ⟨#[46]⟩)))), yq 21 (.pick (.t 18) (.t 20) (.c (.sc (.bool false)))), yq 22 (.mov (.t 21)), yg 23 22 true (.mov (.t 0)), yg 24 22 true (.bin .neq (.t 23) (.c (.sc (.string ⟨#[46, 46]⟩)))), yq 25 (.pick (.t 22) (.t 24) (.c (.sc (.bool false)))), yq 2 (.mov (.t 25))])
  .ret)))
theorem K103 : yK Tryz.prog Tryz.f103 A103 26 [.mov (.t 2)] := ⟨by kernel_rfl, by kernel_rfl, by kernel_rfl⟩
theorem R103 (s : ByteArray) (hs : s.size ≤ 140737488351232) : Ret Tryz.prog 103 [.sc (.string s)] (.sc (.bool (partOk s))) [.un] := by
  refine Ret.run Tryz.func103 K103 (by simp) rfl rfl 500 ?_
  simp [A103, iniρ]
  refine T.rounds (μ := fun i : List UInt8 × List UInt8 => i.2.length)
    (fun i t => i.1 ++ i.2 = s.data.toList ∧ letL i.2 = letL s.data.toList ∧ t.ρ 0 = .sc (.string s) ∧ t.ρ 3 = .sc (.int .i64 i.1.length) ∧ t.h = h0 ∧ t.n = 26) ([], s.data.toList) (by simp [upd_app]) ?_
  rintro ⟨pre, rest⟩ ⟨ρ, hh, n⟩ ⟨hx, hE, k0, k3, rfl, rfl⟩
  simp only at hx hE k0 k3
  have hsz := str_len hx
  refine run_ok (n := 400) ?_
  cases rest with
  | nil =>
    simp at hsz
    simp [k0, k3, hsz]
    refine T.on 400 ?_
    simp [k0]
    refine callK.ro 0 rfl (by kernel_rfl) (by simp [roc_sc]) (R85 s.size 1 12) rfl rfl rfl ?_
    have hL : letL s.data.toList = true := by rw [← hE]; rfl
    cases h1 : inR s.size 1 12
    case false => simp [partOk, h1]
    by_cases h2 : s.toList = [46]
    case pos => simp [k0, partOk, h1, h2]
    have h2' : (s.toList == [46]) = false := by simpa using h2
    by_cases h3 : s.toList = [46, 46]
    · simp [k0, partOk, h1, h2, h2', h3, hL]
    · have h3' : (s.toList == [46, 46]) = false := by simpa using h3
      simp [k0, partOk, h1, h2, h2', h3, h3', hL]
  | cons c rest =>
    have hg := str_get hx
    simp at hsz
    have hlt : (pre.length : Int) < s.size := by omega
    have hw : IntKind.i64.wrap ((pre.length : Int) + 1) = pre.length + 1 := wrap_i64 (by omega) (by omega)
    simp [k0, k3, hlt, hg]
    refine callK.ro 0 rfl (by kernel_rfl) (by simp [roc_sc]) (R130 c) rfl rfl rfl ?_
    cases h1 : lttI (c.toNat : Int)
    · have : partOk s = false := by simp [partOk, ← hE, letL, h1]
      simp [this]
    · simp [k3, hw]
      refine ⟨pre ++ [c], rest, by simp, _, Le.refl _, ?_⟩
      simp [hx, k0, upd_app, ← hE, letL, h1]
def splitP (s : ByteArray) (b : Int) : Nat → Nat → List UInt8 → List ByteArray
  | f, i, [] => [s.extract f i]
  | f, i, c :: l => if (c.toNat : Int) = b then s.extract f i :: splitP s b (i + 1) (i + 1) l else splitP s b f (i + 1) l
def splitS (s : ByteArray) (b : Int) : List ByteArray := splitP s b 0 0 s.data.toList
structure Opt where
  v : Bool
def A53 : AC := (.seq (.ops [yq 4 (.mov (.c .em))])
  (.seq (.ops [yw 8 (.bsl 1 0 [] []), yq 5 (.mov (.t 8))])
  (.seq (.ops [yq 6 (.mov (yi 0))])
  (.seq (.seq (.ops [yq 7 (.mov (yi 0))])
  (.block 0 (.loop (.seq (.seq (.ops [yq 9 (.mov (.t 7)), yq 10 (.mov (.t 0)), yq 11 (.slen (.t 10)), yq 12 (.bin .leq (.t 9) (.t 11))])
  (.cond (.t 12) .skip
  (.exit 0)))
  (.seq (.block 1 (.seq (.ops [yq 15 (.mov (.t 7)), yq 16 (.mov (.t 0)), yq 17 (.slen (.t 16)), yq 18 (.bin .eql (.t 15) (.t 17)), yq 19 (.mov (.t 18)), yg 20 19 false (.mov (.t 0)), yg 21 19 false (.mov (.t 7)), yg 22 19 false (.idx (.t 20) (.t 21)), yg 23 19 false (.mov (.t 1)), yg 24 19 false (.bin .eql (.t 22) (.t 23)), yq 25 (.pick (.t 19) (.c (.sc (.bool true))) (.t 24))])
  (.cond (.t 25) (.seq (.ops [yq 26 (.mov (.t 5)), yq 27 (.mov (.t 0)), yq 28 (.mov (.t 6)), yq 29 (.mov (.t 7)), yq 30 (.subs (.t 27) (some (.t 28)) (some (.t 29))), yw 31 (.bsl 1 1 [(.sc (.string ⟨#[]⟩))] [(0, 1, (.t 30))]), yw 32 (.app 1 16 false (.t 26) (.t 31)), yq 5 (.mov (.t 32))])
  (.ops [yq 33 (.mov (.t 7)), yq 34 (.bin .add (.t 33) (yi 1)), yq 6 (.mov (.t 34))]))
  .skip)))
  (.ops [yq 13 (.mov (.t 7)), yq 14 (.bin .add (.t 13) (yi 1)), yq 7 (.mov (.t 14))]))))))
  (.seq (.ops [yq 35 (.mov (.t 5)), yq 4 (.mov (.t 35))])
  .ret)))))
theorem K53 : yK Tryz.prog Tryz.f53 A53 36 [.mov (.t 4)] := ⟨by kernel_rfl, by kernel_rfl, by kernel_rfl⟩
theorem R53 (s : ByteArray) (b : Int) (hs : s.size ≤ 1048576) : Ret Tryz.prog 53 [.sc (.string s), .sc (.int .u8 b)] (.own (rows Ty.str.oc (splitS s b)) (splitS s b).length 1) [.un, .un] := by
  refine Ret.run Tryz.func53 K53 (by simp) rfl rfl 900 ?_
  simp [A53, iniρ, over]
  -- ended: the last part is out
  refine T.rounds (μ := fun i : List UInt8 × List UInt8 × List ByteArray × Nat × Opt => i.2.1.length + (if i.2.2.2.2.v then 0 else 1))
    (fun i t => i.1 ++ i.2.1 = s.data.toList ∧ i.2.2.2.1 ≤ i.1.length ∧ i.2.2.1.length ≤ i.1.length + (if i.2.2.2.2.v then 1 else 0) ∧ (if i.2.2.2.2.v then i.2.1 = [] ∧ i.2.2.1 = splitS s b else i.2.2.1 ++ splitP s b i.2.2.2.1 i.1.length i.2.1 = splitS s b) ∧
      t.ρ 0 = .sc (.string s) ∧ t.ρ 1 = .sc (.int .u8 b) ∧ t.ρ 5 = .sl 8 0 i.2.2.1.length 1 false ∧ (i.2.2.2.2.v = false → t.ρ 6 = .sc (.int .i64 i.2.2.2.1)) ∧ t.ρ 7 = .sc (.int .i64 (i.1.length + (if i.2.2.2.2.v then 1 else 0))) ∧ t.h 8 = some (some (rows Ty.str.oc i.2.2.1)) ∧ t.h 31 = none ∧ t.h 32 = none ∧ t.n = 36) ([], s.data.toList, [], 0, ⟨false⟩) (by simp [upd_app, rows_nil, splitS]) ?_
  rintro ⟨pre, rest, out, f, ⟨e⟩⟩ ⟨ρ, hh, n⟩ ⟨hx, hf, ho, hE, k0, k1, k5, k6, k7, k8, f1, f2, rfl⟩
  simp only at hx hf ho hE k0 k1 k5 k6 k7 k8 f1 f2
  have hsz := str_len hx
  refine run_ok (n := 400) ?_
  cases e with
  | true =>
    simp at hE k7
    obtain ⟨rfl, hE⟩ := hE
    simp at hsz
    have h1 : ¬ ((pre.length : Int) + 1 ≤ s.size) := by omega
    simp [k0, k7, h1]
    refine T.on 400 ?_
    have hid : idfree.idfreeL (rows Ty.str.oc (splitS s b)) = true := Ty.str.frL _
    simp [k5, k8, ex1, hE, str_ocl, hid]
  | false =>
    simp at hE k6 k7 ho
    have hps : pre.length ≤ s.size := by rw [hsz]; simp
    have hw : IntKind.i64.wrap ((pre.length : Int) + 1) = pre.length + 1 := wrap_i64 (by omega) (by omega)
    have hcap : (out.length + 1) * 16 ≤ 140737488355328 := by omega
    have hap : ∀ (l : List ByteArray) (g : ByteArray), rows Ty.str.oc l ++ [.sc (.string g)] = rows Ty.str.oc (l ++ [g]) := fun l g => by rw [rows_append]; rfl
    cases rest with
    | nil =>
      simp at hsz
      simp [k0, k1, k5, k6, k7, k8, f1, f2, hsz, hw, over, str_ocl, hcap, hap, hf]
      refine ⟨pre, [], out ++ [s.extract f pre.length], f, ⟨true⟩, ⟨rfl, rfl⟩, _, Le.reseat [0, 1, 5, 7] [(32, 8)] (by simp) (by simp [upd_app, menB, idfree, k0, k1]) ?_, ?_⟩
      · intro b' hb cs hcs
        simp at hb
        subst hb
        simp [upd_app] at hcs
        subst hcs
        exact rows_all (fun x c hc => (Ty.str.ow x c hc).fr) _
      · have hE2 : out ++ [s.extract f pre.length] = splitS s b := hE
        simp [upd_app, k0, k1, hE2]
        refine ⟨by simpa using hx, hf, ?_⟩
        rw [← hE2]; simp; omega
    | cons c rest =>
      have hg := str_get hx
      simp at hsz
      have hlt : (pre.length : Int) < s.size := by omega
      have hlt2 : pre.length < s.size := by omega
      have hle : (pre.length : Int) ≤ s.size := by omega
      have hne : ¬ ((pre.length : Int) = s.size) := by omega
      have hne2 : ¬ (pre.length = s.size) := by omega
      rw [splitP] at hE
      by_cases hc : (c.toNat : Int) = b
      · rw [if_pos hc] at hE
        simp [k0, k1, k5, k6, k7, k8, f1, f2, hlt, hle, hne, hne2, hg, hc, hw, hps, over, str_ocl, hcap, hap, hf]
        refine ⟨pre ++ [c], rest, out ++ [s.extract f pre.length], pre.length + 1, ⟨false⟩, by simp, _, Le.reseat [0, 1, 5, 6, 7] [(32, 8)] (by simp) (by simp [upd_app, menB, idfree, k0, k1]) ?_, ?_⟩
        · intro b' hb cs hcs
          simp at hb
          subst hb
          simp [upd_app] at hcs
          subst hcs
          exact rows_all (fun x c hc => (Ty.str.ow x c hc).fr) _
        · simp [upd_app, k0, k1, hx, hE]
          omega
      · have hcb : ((c.toNat : Int) == b) = false := by simpa using hc
        rw [if_neg hc] at hE
        simp [k0, k1, k5, k6, k7, k8, f1, f2, hlt, hle, hne, hne2, hg, hc, hcb, hw, over, str_ocl, hap]
        refine ⟨pre ++ [c], rest, out, f, ⟨false⟩, by simp, _, Le.refl _, ?_⟩
        simp [upd_app, k0, k1, k5, k6, k8, f1, f2, hx, hE]
        omega
def allPart : List ByteArray → Bool
  | [] => true
  | x :: l => partOk x && allPart l
def pathOk (s : ByteArray) : Bool := allPart (splitS s 47) && decide ((splitS s 47).length ≤ 4)
theorem splitP_size (s : ByteArray) (b : Int) : ∀ (l : List UInt8) (f i : Nat), ∀ x ∈ splitP s b f i l, x.size ≤ s.size
  | [], f, i, x, h => by
    simp [splitP] at h
    subst h
    rw [ByteArray.size_extract]; omega
  | c :: l, f, i, x, h => by
    rw [splitP] at h
    split at h
    · rcases List.mem_cons.1 h with rfl | h
      · rw [ByteArray.size_extract]; omega
      · exact splitP_size s b l _ _ x h
    · exact splitP_size s b l _ _ x h
theorem splitP_len (s : ByteArray) (b : Int) : ∀ (l : List UInt8) (f i : Nat), (splitP s b f i l).length ≤ l.length + 1
  | [], f, i => by simp [splitP]
  | c :: l, f, i => by
    rw [splitP]
    split
    · have := splitP_len s b l (i + 1) (i + 1); simp; omega
    · have := splitP_len s b l f (i + 1); simp; omega
def A87 : AC := (.seq (.ops [yq 2 (.mov (.c (.sc (.bool false))))])
  (.seq (.ops [yq 5 (.mov (.t 0)), yc 6 53 [.t 5, (.c (.sc (.int .u8 47)))], yq 3 (.mov (.t 6))])
  (.seq (.seq (.ops [yq 4 (.mov (yi 0))])
  (.block 0 (.loop (.seq (.seq (.ops [yq 7 (.mov (.t 4)), yq 8 (.mov (.t 3)), yq 9 (.llen (.t 8)), yq 10 (.bin .lss (.t 7) (.t 9))])
  (.cond (.t 10) .skip
  (.exit 0)))
  (.seq (.block 1 (.seq (.ops [yq 13 (.mov (.t 3)), yq 14 (.mov (.t 4)), yq 15 (.iadr 1 (.t 13) (.t 14)), yq 16 (.load false 1 (.t 15)), yc 17 103 [.t 16], yq 18 (.not (.t 17))])
  (.cond (.t 18) (.seq (.ops [yq 2 (.mov (.c (.sc (.bool false))))])
  .ret)
  .skip)))
  (.ops [yq 11 (.mov (.t 4)), yq 12 (.bin .add (.t 11) (yi 1)), yq 4 (.mov (.t 12))]))))))
  (.seq (.ops [yq 19 (.mov (.t 3)), yq 20 (.llen (.t 19)), yq 21 (.bin .leq (.t 20) (yi 4)), yq 2 (.mov (.t 21))])
  .ret))))
theorem K87 : yK Tryz.prog Tryz.f87 A87 22 [.mov (.t 2)] := ⟨by kernel_rfl, by kernel_rfl, by kernel_rfl⟩
theorem R87 (s : ByteArray) (hs : s.size ≤ 1048576) : Ret Tryz.prog 87 [.sc (.string s)] (.sc (.bool (pathOk s))) [.un] := by
  have hz : ∀ x ∈ splitS s 47, x.size ≤ s.size := splitP_size s 47 _ 0 0
  have hl : (splitS s 47).length ≤ s.size + 1 := by
    have := splitP_len s 47 s.data.toList 0 0
    simpa [splitS] using this
  obtain ⟨ps, hps⟩ : ∃ ps, ps = splitS s 47 := ⟨_, rfl⟩
  have rs := R53 s 47 hs
  rw [← hps] at hz hl rs
  refine Ret.run Tryz.func87 K87 (by simp) rfl rfl 900 ?_
  simp [A87, iniρ]
  refine callK.own 6 rfl (by kernel_rfl) (by simp [roc_sc]) rs (Ty.str.flo ps) (by simp) rfl ?_
  simp
  refine T.rounds (μ := fun i : List ByteArray × List ByteArray => i.2.length)
    (fun i t => i.1 ++ i.2 = ps ∧ allPart i.2 = allPart ps ∧ t.ρ 3 = .sl 6 0 ps.length 1 false ∧ t.ρ 4 = .sc (.int .i64 i.1.length) ∧ t.h 6 = some (some (rows Ty.str.oc ps)) ∧ t.n = 22) ([], ps) (by simp [upd_app]) ?_
  rintro ⟨pre, rest⟩ ⟨ρ, hh, n⟩ ⟨hx, hE, k3, k4, k6, rfl⟩
  simp only at hx hE k3 k4 k6
  refine run_ok (n := 400) ?_
  cases rest with
  | nil =>
    have hxl : pre.length = ps.length := by rw [← hx]; simp
    have hA : allPart ps = true := by rw [← hE]; rfl
    simp [k3, k4, hxl]
    refine T.on 400 ?_
    simp [k3, pathOk, ← hps, hA]
    try omega
  | cons x rest =>
    have hle : pre.length + (rest.length + 1) = ps.length := by rw [← hx]; simp
    have hlt : (pre.length : Int) < ps.length := by omega
    have hlt2 : pre.length < ps.length := by omega
    have hw : IntKind.i64.wrap ((pre.length : Int) + 1) = pre.length + 1 := wrap_i64 (by omega) (by omega)
    have hd := rows_drop Ty.str.ocn pre (x :: rest)
    rw [hx, rows_cons] at hd
    have hd : List.drop pre.length (rows Ty.str.oc ps) = AV.sc (.string x) :: rows Ty.str.oc rest := by
      have h2 := hd
      rwa [show pre.length * Ty.str.n = pre.length from Nat.mul_one _] at h2
    simp [k3, k4, k6, hlt, hlt2, hd]
    have hxz := hz x (by rw [← hx]; simp)
    refine callK.ro 0 rfl (by kernel_rfl) (by simp [roc_sc]) (R103 x (by omega)) rfl rfl rfl ?_
    cases h1 : partOk x
    · have hA : allPart ps = false := by rw [← hE]; simp [allPart, h1]
      simp [pathOk, ← hps, hA]
    · simp [k4, hw]
      refine ⟨pre ++ [x], rest, by simp, _, Le.refl _, ?_⟩
      simp [hx, k3, k6, upd_app, ← hE, allPart, h1]
theorem extract_toList (s : ByteArray) (i j : Nat) : (s.extract i j).data.toList = (s.data.toList.take j).drop i := by
  rw [ByteArray.data_extract, Array.toList_extract, List.extract_eq_take_drop, List.drop_take]
theorem ixB_cases (c : UInt8) : ∀ l : List UInt8, (Lib.indexByte l c = -1 ∧ c ∉ l) ∨ ∃ p q, l = p ++ c :: q ∧ c ∉ p ∧ Lib.indexByte l c = (p.length : Int)
  | [] => .inl ⟨rfl, by simp⟩
  | x :: l => by
    by_cases h : x = c
    · subst h
      exact .inr ⟨[], l, rfl, by simp, by simp [Lib.indexByte]⟩
    · have h2 : (x == c) = false := by simpa using h
      rcases ixB_cases c l with ⟨e, hn⟩ | ⟨p, q, e, hn, e2⟩
      · left
        refine ⟨by simp [Lib.indexByte, h2, e], fun hm => ?_⟩
        rcases List.mem_cons.1 hm with e2 | e2
        · exact h e2.symm
        · exact hn e2
      · right
        refine ⟨x :: p, q, by rw [e]; rfl, fun hm => ?_, ?_⟩
        · rcases List.mem_cons.1 hm with e3 | e3
          · exact h e3.symm
          · exact hn e3
        · have h3 : (Lib.indexByte l c == -1) = false := by rw [e2]; simp
          rw [Lib.indexByte, h2, h3, e2]
          simp
theorem u8_eq {x c : UInt8} : ((x.toNat : Int) = (c.toNat : Int)) ↔ x = c := ⟨fun h => UInt8.toNat_inj.1 (by omega), fun h => by rw [h]⟩
theorem splitP_miss (s : ByteArray) (c : UInt8) (f : Nat) : ∀ (l : List UInt8) (i : Nat), c ∉ l → splitP s (c.toNat : Int) f i l = [s.extract f (i + l.length)]
  | [], i, _ => rfl
  | x :: l, i, h => by
    have hx : ¬ ((x.toNat : Int) = (c.toNat : Int)) := fun e => h (by rw [u8_eq.1 e]; exact List.mem_cons_self ..)
    rw [splitP, if_neg hx, splitP_miss s c f l (i + 1) (fun hm => h (List.mem_cons_of_mem _ hm))]
    congr 2
    simp only [List.length_cons]; omega
theorem splitP_hit (s : ByteArray) (c : UInt8) (f : Nat) (q : List UInt8) : ∀ (p : List UInt8) (i : Nat), c ∉ p → splitP s (c.toNat : Int) f i (p ++ c :: q) = s.extract f (i + p.length) :: splitP s (c.toNat : Int) (i + p.length + 1) (i + p.length + 1) q
  | [], i, _ => by rw [List.nil_append, splitP, if_pos rfl]; rfl
  | x :: p, i, h => by
    have hx : ¬ ((x.toNat : Int) = (c.toNat : Int)) := fun e => h (by rw [u8_eq.1 e]; exact List.mem_cons_self ..)
    rw [List.cons_append, splitP, if_neg hx, splitP_hit s c f q p (i + 1) (fun hm => h (List.mem_cons_of_mem _ hm))]
    have e : i + 1 + p.length = i + (x :: p).length := by simp only [List.length_cons]; omega
    rw [e]
theorem splitP_cnt (s : ByteArray) (c : UInt8) : ∀ (l : List UInt8) (f i : Nat), (splitP s (c.toNat : Int) f i l).length = l.count c + 1
  | [], _, _ => rfl
  | x :: l, f, i => by
    rw [splitP]
    by_cases h : x = c
    · rw [if_pos (u8_eq.2 h), List.length_cons, splitP_cnt s c l, h, List.count_cons_self]
    · rw [if_neg (fun e => h (u8_eq.1 e)), splitP_cnt s c l, List.count_cons_of_ne (fun e => h (by simpa using e))]
theorem R114 (s : ByteArray) (c : UInt8) : Ret Tryz.prog 114 [.sc (.string s), .sc (.string ⟨#[c]⟩)] (.sc (.int .i64 (Lib.indexByte s.data.toList c))) [.un, .un] :=
  Ret.twoOf rfl rfl rfl fun w => Any.strings_Index_one Tryz.lays143 s c w
theorem R91 (s : ByteArray) (c : UInt8) : Ret Tryz.prog 91 [.sc (.string s), .sc (.string ⟨#[c]⟩)] (.sc (.int .i64 (Lib.indexByte s.data.toList c))) [.un, .un] :=
  Ret.twoOf rfl rfl rfl fun w => Any.stringslite_Index_one Tryz.lays219 s c w
theorem R113 (s : ByteArray) (c : UInt8) : Ret Tryz.prog 113 [.sc (.string s), .sc (.string ⟨#[c]⟩)] (.sc (.int .i64 (Lib.countByte s.data.toList c))) [.un, .un] :=
  Ret.twoOf rfl rfl rfl fun w => Any.strings_Count_one Tryz.lays138 s c w
def cutF (s : ByteArray) (c : UInt8) : ByteArray × ByteArray × Bool :=
  if 0 ≤ Lib.indexByte s.data.toList c then (s.extract 0 (Lib.indexByte s.data.toList c).toNat, s.extract ((Lib.indexByte s.data.toList c).toNat + 1) s.size, true) else (s, ⟨#[]⟩, false)
def cutRes (x : ByteArray × ByteArray × Bool) : AV := .tup [.sc (.string x.1), .sc (.string x.2.1), .sc (.bool x.2.2)]
def A63 : AC := (.seq (.ops [yq 4 (.mov (.c (.sc (.string ⟨#[]⟩)))), yq 5 (.mov (.c (.sc (.string ⟨#[]⟩)))), yq 6 (.mov (.c (.sc (.bool false))))])
  (.seq (.seq (.ops [yq 8 (.mov (.t 0)), yq 9 (.mov (.t 1)), yc 10 91 [.t 8, .t 9], yq 7 (.mov (.t 10))])
  (.seq (.ops [yq 11 (.mov (.t 7)), yq 12 (.bin .geq (.t 11) (yi 0))])
  (.cond (.t 12) (.seq (.any [(yq 13 (.mov (.t 0)), []), (yq 14 (.mov (.t 7)), []), (yq 15 (.subs (.t 13) none (some (.t 14))), [0, 1]), (yq 16 (.mov (.t 0)), []), (yq 17 (.mov (.t 7)), []), (yq 18 (.mov (.t 1)), []), (yq 19 (.slen (.t 18)), [5]), (yq 20 (.bin .add (.t 17) (.t 19)), [4, 6]), (yq 21 (.subs (.t 16) (some (.t 20)) none), [3, 7]), (yq 4 (.mov (.t 15)), [2, 0, 1, 2]), (yq 5 (.mov (.t 21)), [8, 9, 0, 1, 2, 3, 4, 5, 6, 7, 8, 9]), (yq 6 (.mov (.c (.sc (.bool true)))), [10, 0, 1, 2, 3, 4, 5, 6, 7, 8, 9, 10])])
  .ret)
  .skip)))
  (.seq (.ops [yq 22 (.mov (.t 0)), yq 4 (.mov (.t 22)), yq 5 (.mov (.c (.sc (.string ⟨#[]⟩)))), yq 6 (.mov (.c (.sc (.bool false))))])
  .ret)))
theorem K63 : yK Tryz.prog Tryz.f63 A63 23 [.mov (.t 4), .mov (.t 5), .mov (.t 6)] := ⟨by kernel_rfl, by kernel_rfl, by kernel_rfl⟩
theorem R63 (s : ByteArray) (c : UInt8) (hs : s.size ≤ 140737488351232) : Ret Tryz.prog 63 [.sc (.string s), .sc (.string ⟨#[c]⟩)] (cutRes (cutF s c)) [.un, .un] := by
  refine Ret.run Tryz.func63 K63 (by simp) rfl rfl 500 ?_
  simp [A63, iniρ]
  refine callK.ro 0 rfl (by kernel_rfl) (by simp [roc_sc]) (R91 s c) rfl rfl rfl ?_
  rcases ixB_cases c s.data.toList with ⟨e, hn⟩ | ⟨p, q, e, hn, e2⟩
  · simp [e, cutF, cutRes]
  · have hsz := str_len e.symm
    have hl : p.length + 1 ≤ s.size := by rw [hsz]; simp
    have h0 : (0 : Int) ≤ p.length := by omega
    have hw : IntKind.i64.wrap ((p.length : Int) + 1) = p.length + 1 := wrap_i64 (by omega) (by omega)
    have h1 : (0 : Int) ≤ (p.length : Int) + 1 := by omega
    have h2 : ((p.length : Int) + 1).toNat = p.length + 1 := by omega
    have h3 : p.length ≤ s.size := by omega
    have hc : (⟨#[c]⟩ : ByteArray).size = 1 := rfl
    simp [e2, h0]
    refine T.text 400 mixed (by kernel_rfl) (by kernel_rfl) ?_
    simp [e2, h0, h1, h2, h3, hw, hl, hc, cutF, cutRes]
def A37 : AC := (.seq (.ops [yq 4 (.mov (.c (.sc (.string ⟨#[]⟩)))), yq 5 (.mov (.c (.sc (.string ⟨#[]⟩)))), yq 6 (.mov (.c (.sc (.bool false))))])
  (.seq (.ops [yq 7 (.mov (.t 0)), yq 8 (.mov (.t 1)), yc 9 63 [.t 7, .t 8], yq 10 (.ext (.t 9) 0), yq 11 (.ext (.t 9) 1), yq 12 (.ext (.t 9) 2), yq 4 (.mov (.t 10)), yq 5 (.mov (.t 11)), yq 6 (.mov (.t 12))])
  .ret))
theorem K37 : yK Tryz.prog Tryz.f37 A37 13 [.mov (.t 4), .mov (.t 5), .mov (.t 6)] := ⟨by kernel_rfl, by kernel_rfl, by kernel_rfl⟩
theorem R37 (s : ByteArray) (c : UInt8) (hs : s.size ≤ 140737488351232) : Ret Tryz.prog 37 [.sc (.string s), .sc (.string ⟨#[c]⟩)] (cutRes (cutF s c)) [.un, .un] := by
  refine Ret.run Tryz.func37 K37 (by simp) rfl rfl 500 ?_
  simp [A37, iniρ]
  refine callK.ro 0 rfl (by kernel_rfl) (by simp [roc_sc]) (R63 s c hs) rfl (by simp [cutRes, inst, instL, shut]; exact ⟨rfl, rfl⟩) rfl ?_
  simp [cutRes]
theorem drop_str {s : ByteArray} {f : Nat} : (s.extract f s.size).data.toList = s.data.toList.drop f := by
  rw [extract_toList, show s.size = s.data.toList.length by rw [Array.length_toList]; rfl, List.take_length]
theorem extr0 {s : ByteArray} {f m : Nat} (h : f + m ≤ s.size) : (s.extract f s.size).extract 0 m = s.extract f (f + m) := by
  rw [ByteArray.extract_extract, Nat.add_zero, Nat.min_eq_left h]
theorem extr1 {s : ByteArray} {f m n : Nat} (h : s.size ≤ f + n) : (s.extract f s.size).extract m n = s.extract (f + m) s.size := by
  rw [ByteArray.extract_extract, Nat.min_eq_right h]
theorem rows_repl (n : Nat) (x : ByteArray) : rows Ty.str.oc (List.replicate n x) = List.replicate n (.sc (.string x)) := by
  induction n with
  | zero => rfl
  | succ n ih => rw [List.replicate_succ, List.replicate_succ, rows_cons, ih]; rfl
theorem over_str (l : List ByteArray) (n : Nat) (x : ByteArray) : over (rows Ty.str.oc (l ++ List.replicate (n + 1) ⟨#[]⟩)) l.length [.sc (.string x)] = rows Ty.str.oc ((l ++ [x]) ++ List.replicate n ⟨#[]⟩) := by
  rw [rows_append, rows_append, rows_append, rows_repl, rows_repl, List.replicate_succ]
  have e : (rows Ty.str.oc l).length = l.length := by rw [rows_length Ty.str.ocn]; exact Nat.mul_one _
  show (rows Ty.str.oc l ++ AV.sc (.string ⟨#[]⟩) :: List.replicate n (AV.sc (.string ⟨#[]⟩))).set l.length (.sc (.string x)) = _
  rw [← e, List.set_append_right _ _ (Nat.le_refl _), Nat.sub_self]
  show _ = (rows Ty.str.oc l ++ [AV.sc (.string x)]) ++ _
  simp
def A95 : AC := (.seq (.ops [yq 8 (.mov (.c .em))])
  (.seq (.seq (.ops [yq 12 (.mov (.t 3)), yq 13 (.bin .eql (.t 12) (yi 0))])
  (.cond (.t 13) (.seq (.ops [yq 8 (.mov (.c .em))])
  .ret)
  .skip))
  (.seq (.seq (.ops [yq 14 (.mov (.t 1)), yq 15 (.bin .eql (.t 14) (.c (.sc (.string ⟨#[]⟩))))])
  (.cond (.t 15) (.seq (.ops [yq 16 (.mov (.t 0)), yq 17 (.mov (.t 3)), yc 18 112 [.t 16, .t 17], yq 8 (.mov (.t 18))])
  .ret)
  .skip))
  (.seq (.seq (.ops [yq 19 (.mov (.t 3)), yq 20 (.bin .lss (.t 19) (yi 0))])
  (.cond (.t 20) (.ops [yq 21 (.mov (.t 0)), yq 22 (.mov (.t 1)), yc 23 113 [.t 21, .t 22], yq 24 (.bin .add (.t 23) (yi 1)), yq 3 (.mov (.t 24))])
  .skip))
  (.seq (.ops [yq 25 (.mov (.t 3)), yq 26 (.mov (.t 0)), yq 27 (.slen (.t 26)), yq 28 (.bin .add (.t 27) (yi 1)), yq 29 (.mm true (.t 25) (.t 28)), yq 3 (.mov (.t 29))])
  (.seq (.ops [yq 30 (.mov (.t 3)), yw 31 (.mk 1 16 [(.sc (.string ⟨#[]⟩))] (.t 30) (.t 30)), yq 9 (.mov (.t 31))])
  (.seq (.ops [yq 32 (.mov (.t 3)), yq 33 (.bin .sub (.t 32) (yi 1)), yq 3 (.mov (.t 33))])
  (.seq (.ops [yq 10 (.mov (yi 0))])
  (.seq (.block 0 (.loop (.seq (.seq (.ops [yq 34 (.mov (.t 10)), yq 35 (.mov (.t 3)), yq 36 (.bin .lss (.t 34) (.t 35))])
  (.cond (.t 36) .skip
  (.exit 0)))
  (.block 1 (.seq (.ops [yq 37 (.mov (.t 0)), yq 38 (.mov (.t 1)), yc 39 114 [.t 37, .t 38], yq 11 (.mov (.t 39))])
  (.seq (.seq (.ops [yq 40 (.mov (.t 11)), yq 41 (.bin .lss (.t 40) (yi 0))])
  (.cond (.t 41) (.exit 0)
  .skip))
  (.seq (.ops [yq 42 (.mov (.t 9)), yq 43 (.mov (.t 10)), yq 44 (.mov (.t 0)), yq 45 (.mov (.t 11)), yq 46 (.mov (.t 2)), yq 47 (.bin .add (.t 45) (.t 46)), yq 48 (.subs (.t 44) none (some (.t 47))), yq 49 (.iadr 1 (.t 42) (.t 43)), yn (.store 1 (.t 49) (.t 48))])
  (.seq (.ops [yq 50 (.mov (.t 0)), yq 51 (.mov (.t 11)), yq 52 (.mov (.t 1)), yq 53 (.slen (.t 52)), yq 54 (.bin .add (.t 51) (.t 53)), yq 55 (.subs (.t 50) (some (.t 54)) none), yq 0 (.mov (.t 55))])
  (.ops [yq 56 (.mov (.t 10)), yq 57 (.bin .add (.t 56) (yi 1)), yq 10 (.mov (.t 57))])))))))))
  (.seq (.ops [yq 58 (.mov (.t 9)), yq 59 (.mov (.t 10)), yq 60 (.mov (.t 0)), yq 61 (.iadr 1 (.t 58) (.t 59)), yn (.store 1 (.t 61) (.t 60))])
  (.seq (.ops [yq 62 (.mov (.t 9)), yq 63 (.mov (.t 10)), yq 64 (.bin .add (.t 63) (yi 1)), yq 65 (.subl 1 (.t 62) none (some (.t 64))), yq 8 (.mov (.t 65))])
  .ret)))))))))))
theorem K95 : yK Tryz.prog Tryz.f95 A95 66 [.mov (.t 8)] := ⟨by kernel_rfl, by kernel_rfl, by kernel_rfl⟩
set_option maxHeartbeats 1000000 in
theorem R95 (s : ByteArray) (c : UInt8) (hs : s.size ≤ 1048576) : Ret Tryz.prog 95 [.sc (.string s), .sc (.string ⟨#[c]⟩), .sc (.int .i64 0), .sc (.int .i64 (-1))] (.own (rows Ty.str.oc (splitS s c.toNat)) (splitS s c.toNat).length 1) [.un, .un, .un, .un] := by
  obtain ⟨N, hN⟩ : ∃ N, N = s.data.toList.count c := ⟨_, rfl⟩
  have hlen : (splitS s c.toNat).length = N + 1 := by rw [hN]; exact splitP_cnt s c s.data.toList 0 0
  have hNs : N ≤ s.size := by rw [hN, show s.size = s.data.toList.length by rw [Array.length_toList]; rfl]; exact List.count_le_length
  have hC := R113 s c
  rw [show Lib.countByte s.data.toList c = N from hN.symm] at hC
  have hcc : (⟨#[c]⟩ : ByteArray).size = 1 := rfl
  have hne : ¬ ((⟨#[c]⟩ : ByteArray).toList = []) := by rw [Lib.toList_data]; simp
  have w1 : IntKind.i64.wrap ((N : Int) + 1) = N + 1 := wrap_i64 (by omega) (by omega)
  have w2 : IntKind.i64.wrap ((s.size : Int) + 1) = s.size + 1 := wrap_i64 (by omega) (by omega)
  have w3 : IntKind.i64.wrap ((N : Int) + 1 - 1) = N := by rw [show (N : Int) + 1 - 1 = N by omega]; exact wrap_i64 (by omega) (by omega)
  have hmin : min ((N : Int) + 1) (s.size + 1) = N + 1 := by omega
  refine Ret.run Tryz.func95 K95 (by simp) rfl rfl 900 ?_
  simp [A95, iniρ, hne]
  refine callK.ro 0 rfl (by kernel_rfl) (by simp [roc_sc]) hC rfl rfl rfl ?_
  have n1 : ¬ (s.size < N) := by omega
  have n2 : (0 : Int) ≤ (N : Int) + 1 := by omega
  have n3 : ((N : Int) + 1) * 16 ≤ 281474976710656 := by omega
  have n4 : (N : Int) + 1 ≤ 9223372036854775807 := by omega
  have n5 : ((N : Int) + 1).toNat = N + 1 := by omega
  have w0 : IntKind.i64.wrap (N : Int) = N := wrap_i64 (by omega) (by omega)
  simp [w1, w2, w3, n1, n2, n3, n4, n5]
  refine T.rounds (μ := fun i : List ByteArray × Nat × List UInt8 => i.2.2.length)
    (fun i t => i.2.1 ≤ s.size ∧ i.2.2 = s.data.toList.drop i.2.1 ∧ i.1 ++ splitP s c.toNat i.2.1 i.2.1 i.2.2 = splitS s c.toNat ∧ t.ρ 0 = .sc (.string (s.extract i.2.1 s.size)) ∧ t.ρ 1 = .sc (.string ⟨#[c]⟩) ∧ t.ρ 2 = .sc (.int .i64 0) ∧ t.ρ 3 = .sc (.int .i64 N) ∧ t.ρ 9 = .sl 31 0 (N + 1) 1 false ∧ t.ρ 10 = .sc (.int .i64 i.1.length) ∧
      t.h 31 = some (some (rows Ty.str.oc (i.1 ++ List.replicate (N + 1 - i.1.length) ⟨#[]⟩))) ∧ t.n = 66) ([], 0, s.data.toList) (by simp [upd_app, splitS, rows_repl, w0]) ?_
  rintro ⟨done, f, l⟩ ⟨ρ, hh, n⟩ ⟨hf, hl, hE, k0, k1, k2, k3, k9, k10, k31, rfl⟩
  simp only at hf hl hE k0 k1 k2 k3 k9 k10 k31
  have hn2 := congrArg List.length hE
  rw [List.length_append, splitP_cnt, hlen] at hn2
  refine run_ok (n := 400) ?_
  have lt1 : (done.length : Int) ≤ N := by omega
  have hI := R114 (s.extract f s.size) c
  rw [drop_str, ← hl] at hI
  have fsz : (s.extract f s.size).size = s.size - f := by rw [ByteArray.size_extract]; omega
  have hlsz : l.length = s.size - f := by rw [hl, List.length_drop]; rfl
  by_cases hlt : done.length < N
  case neg =>
    obtain rfl : done.length = N := by omega
    have hcn : c ∉ l := fun hm => by have := List.count_pos_iff.2 hm; omega
    rw [splitP_miss s c f l f hcn] at hE
    have e2 : f + l.length = s.size := by omega
    rw [e2] at hE
    have hov := over_str done 0 (s.extract f s.size)
    rw [List.replicate_zero, List.append_nil, hE] at hov
    rw [show done.length + 1 - done.length = 0 + 1 by omega] at k31
    have hrl : (rows Ty.str.oc (done ++ List.replicate (0 + 1) (⟨#[]⟩ : ByteArray))).length = done.length + 1 := by rw [rows_length Ty.str.ocn]; simp; exact Nat.mul_one _
    have hrs : (rows Ty.str.oc (splitS s c.toNat)).length = done.length + 1 := by rw [rows_length Ty.str.ocn, hlen]; exact Nat.mul_one _
    have hid : idfree.idfreeL (rows Ty.str.oc (splitS s c.toNat)) = true := Ty.str.frL _
    obtain ⟨R, hR⟩ : ∃ R, R = rows Ty.str.oc (done ++ List.replicate (0 + 1) (⟨#[]⟩ : ByteArray)) := ⟨_, rfl⟩
    rw [← hR] at k31 hov hrl
    have lt3 : (done.length : Int) < done.length + 1 := by omega
    have w5 : IntKind.i64.wrap ((done.length : Int) + 1) = done.length + 1 := w1
    simp [k3, k10]
    refine T.on 400 ?_
    simp [k0, k9, k10, k31, lt3, hrl, hov, w5, n2, n5, ex1, hrs, hid, hlen]
  rcases ixB_cases c l with ⟨e, hn⟩ | ⟨p, q, e, hn, e2⟩
  · have : l.count c = 0 := List.count_eq_zero.2 hn
    omega
  have hsz2 : p.length + (q.length + 1) = s.size - f := by rw [← hlsz, e]; simp
  have lt2 : (done.length : Int) < N := by omega
  have hov := over_str done (N - done.length) (s.extract f (f + p.length))
  rw [show N - done.length + 1 = N + 1 - done.length by omega, show N - done.length = N + 1 - (done.length + 1) by omega] at hov
  have hrl : (rows Ty.str.oc (done ++ List.replicate (N + 1 - done.length) (⟨#[]⟩ : ByteArray))).length = N + 1 := by rw [rows_length Ty.str.ocn]; simp; show _ * 1 = _; omega
  obtain ⟨R, hR⟩ : ∃ R, R = rows Ty.str.oc (done ++ List.replicate (N + 1 - done.length) (⟨#[]⟩ : ByteArray)) := ⟨_, rfl⟩
  rw [← hR] at k31 hov hrl
  have x0 := extr0 (s := s) (f := f) (m := p.length) (by omega)
  have x1 := extr1 (s := s) (f := f) (m := p.length + 1) (n := s.size - f) (by omega)
  have wp : IntKind.i64.wrap (p.length : Int) = p.length := wrap_i64 (by omega) (by omega)
  have wp1 : IntKind.i64.wrap ((p.length : Int) + 1) = p.length + 1 := wrap_i64 (by omega) (by omega)
  have wd1 : IntKind.i64.wrap ((done.length : Int) + 1) = done.length + 1 := wrap_i64 (by omega) (by omega)
  have q0 : ¬ ((p.length : Int) < 0) := by omega
  have q1 : (0 : Int) ≤ (p.length : Int) + 1 := by omega
  have q2 : ((p.length : Int) + 1).toNat = p.length + 1 := by omega
  have q3 : p.length ≤ s.size - f := by omega
  have q4 : p.length + 1 ≤ s.size - f := by omega
  have q5 : (done.length : Int) < N + 1 := by omega
  have q6 : done.length + 1 ≤ N + 1 := by omega
  rw [e2] at hI
  simp [k0, k1, k3, k10, lt2]
  refine callK.ro 0 rfl (by kernel_rfl) (by simp [roc_sc]) hI rfl rfl rfl ?_
  simp [k0, k1, k2, k9, k10, k31, lt2, q0, q1, q2, q3, q4, q5, q6, wp, wp1, wd1, fsz, hcc, hrl, hov, x0, x1]
  have hq : q = s.data.toList.drop (f + p.length + 1) := by
    have h := congrArg (List.drop (p.length + 1)) (hl.symm.trans e)
    rw [List.drop_drop, show p.length + 1 = (p ++ [c]).length by simp, show p ++ c :: q = (p ++ [c]) ++ q by simp, List.drop_left] at h
    rw [← h]; simp; congr 1
  refine ⟨done ++ [s.extract f (f + p.length)], f + p.length + 1, q, by rw [e]; simp; omega, _, Le.refl _, by omega, hq, ?_, ?_⟩
  · rw [e, splitP_hit s c f q p f hn] at hE
    rw [← hE]; simp
  · simp [upd_app, k0, k1, k2, k3, k9, show f + (p.length + 1) = f + p.length + 1 by omega]
def A70 : AC := (.seq (.ops [yq 4 (.mov (.c .em))])
  (.seq (.ops [yq 5 (.mov (.t 0)), yq 6 (.mov (.t 1)), yc 7 95 [.t 5, .t 6, yi 0, (yi (-1))], yq 4 (.mov (.t 7))])
  .ret))
theorem K70 : yK Tryz.prog Tryz.f70 A70 8 [.mov (.t 4)] := ⟨by kernel_rfl, by kernel_rfl, by kernel_rfl⟩
theorem R70 (s : ByteArray) (c : UInt8) (hs : s.size ≤ 1048576) : Ret Tryz.prog 70 [.sc (.string s), .sc (.string ⟨#[c]⟩)] (.own (rows Ty.str.oc (splitS s c.toNat)) (splitS s c.toNat).length 1) [.un, .un] := by
  have hl : (rows Ty.str.oc (splitS s c.toNat)).length = (splitS s c.toNat).length := by rw [rows_length Ty.str.ocn]; exact Nat.mul_one _
  have hid : idfree.idfreeL (rows Ty.str.oc (splitS s c.toNat)) = true := Ty.str.frL _
  refine Ret.run Tryz.func70 K70 (by simp) rfl rfl 500 ?_
  simp [A70, iniρ]
  refine callK.own 7 rfl (by kernel_rfl) (by simp [roc_sc]) (R95 s c hs) (Ty.str.flo _) (by simp) rfl ?_
  simp [ex1, hl, hid]
def fileEq (a b : File) : Bool := strEq a.path b.path && strEq a.text b.text
def envEq (a b : Env) : Bool := strEq a.name b.name && strEq a.val b.val
def madeEq (a b : Made) : Bool := strEq a.task b.task && (strEq a.log b.log && eqBy fileEq a.outs b.outs)
def jobEq (a b : Job) : Bool := strEq a.name b.name && eqBy strEq a.acts b.acts && eqBy fileEq a.ins b.ins && eqBy envEq a.envs b.envs && eqBy madeEq a.deps b.deps
theorem R33 (xs ys : List ByteArray) (hb : xs.length < 4611686018427387904) : Ret Tryz.prog 33 [.ro (rows Ty.str.cs xs) xs.length, .ro (rows Ty.str.cs ys) ys.length] (.sc (.bool (eqBy strEq xs ys))) [.un, .un] := Ret.equalStr mixed Tryz.func33 ⟨by kernel_rfl, by kernel_rfl, by kernel_rfl⟩ xs ys hb
theorem R34 (xs ys : List File) (hb : xs.length < 4611686018427387904) : Ret Tryz.prog 34 [.ro (rows File.ty.cs xs) xs.length, .ro (rows File.ty.cs ys) ys.length] (.sc (.bool (eqBy fileEq xs ys))) [.un, .un] := Ret.equal mixed File.ty (offs := [(0, 0), (1, 0)]) Tryz.func34 ⟨by kernel_rfl, by kernel_rfl, by kernel_rfl⟩ fileEq (fun x y => by simp [File.cse, eqOff, seq1, fileEq, strEq]) xs ys hb
theorem R35 (xs ys : List Env) (hb : xs.length < 4611686018427387904) : Ret Tryz.prog 35 [.ro (rows Env.ty.cs xs) xs.length, .ro (rows Env.ty.cs ys) ys.length] (.sc (.bool (eqBy envEq xs ys))) [.un, .un] := Ret.equal mixed Env.ty (offs := [(0, 0), (1, 0)]) Tryz.func35 ⟨by kernel_rfl, by kernel_rfl, by kernel_rfl⟩ envEq (fun x y => by simp [Env.cse, eqOff, seq1, envEq, strEq]) xs ys hb
def A62 : AC := (.seq (.ops [yw 2 (.box (.t 0)), yw 3 (.box (.t 1)), yq 4 (.mov (.c (.sc (.bool false))))])
  (.seq (.ops [yq 5 (.fadr 0 (.t 2)), yq 6 (.load false 1 (.t 5)), yq 7 (.fadr 0 (.t 3)), yq 8 (.load false 1 (.t 7)), yq 9 (.bin .eql (.t 6) (.t 8)), yq 10 (.mov (.t 9)), yg 11 10 true (.fadr 2 (.t 2)), yg 12 10 true (.load false 1 (.t 11)), yg 13 10 true (.fadr 2 (.t 3)), yg 14 10 true (.load false 1 (.t 13)), yg 15 10 true (.bin .eql (.t 12) (.t 14)), yq 16 (.pick (.t 10) (.t 15) (.c (.sc (.bool false)))), yq 17 (.mov (.t 16)), yg 18 17 true (.fadr 1 (.t 2)), yg 19 17 true (.load false 1 (.t 18)), yg 20 17 true (.fadr 1 (.t 3)), yg 21 17 true (.load false 1 (.t 20)), yh 22 17 true 34 [.t 19, .t 21], yq 23 (.pick (.t 17) (.t 22) (.c (.sc (.bool false)))), yq 4 (.mov (.t 23))])
  .ret))
theorem K62 : yK Tryz.prog Tryz.f62 A62 24 [.mov (.t 4)] := ⟨by kernel_rfl, by kernel_rfl, by kernel_rfl⟩
theorem R62 (a b : Made) (ha : Made.ty.ok a) : Ret Tryz.prog 62 [.agg (Made.ty.cs a), .agg (Made.ty.cs b)] (.sc (.bool (madeEq a b))) [.un, .un] := by
  have hb := File.ty.lenb (by decide) ha.2.1
  refine Ret.run Tryz.func62 K62 (by simp) rfl rfl 500 ?_
  simp [A62, iniρ, Made.cse]
  by_cases h1 : a.task.toList = b.task.toList
  case neg => simp [h1, madeEq, strEq]
  by_cases h2 : a.log.toList = b.log.toList
  case neg => simp [h1, h2, madeEq, strEq]
  simp [h1, h2]
  refine callK.ro 0 rfl (by kernel_rfl) (by simp [roc_ro]) (R34 a.outs b.outs hb) rfl rfl rfl ?_
  simp [madeEq, strEq, h1, h2]
theorem R61 (xs ys : List Made) (hx : Made.ty.slice.ok xs) : Ret Tryz.prog 61 [.ro (rows Made.ty.cs xs) xs.length, .ro (rows Made.ty.cs ys) ys.length, .clo 62 []] (.sc (.bool (eqBy madeEq xs ys))) [.un, .un, .un] := Ret.equalFunc Made.ty (z := Made.ty.z) Tryz.func61 ⟨by kernel_rfl, by kernel_rfl, by kernel_rfl⟩ rfl 62 madeEq (by kernel_rfl) xs ys (fun x h y _ => R62 x y (hx.2 x h)) (Made.ty.lenb (by decide) hx)
def A36 : AC := (.seq (.ops [yq 4 (.mov (.c (.sc (.bool false))))])
  (.seq (.ops [yq 5 (.mov (.t 0)), yq 6 (.mov (.t 1)), yc 7 61 [.t 5, .t 6, (.c (.clo 62 []))], yq 4 (.mov (.t 7))])
  .ret))
theorem K36 : yK Tryz.prog Tryz.f36 A36 8 [.mov (.t 4)] := ⟨by kernel_rfl, by kernel_rfl, by kernel_rfl⟩
theorem R36 (xs ys : List Made) (hx : Made.ty.slice.ok xs) : Ret Tryz.prog 36 [.ro (rows Made.ty.cs xs) xs.length, .ro (rows Made.ty.cs ys) ys.length] (.sc (.bool (eqBy madeEq xs ys))) [.un, .un] := by
  refine Ret.run Tryz.func36 K36 (by simp) rfl rfl 500 ?_
  simp [A36, iniρ]
  refine callK.ro 0 rfl (by kernel_rfl) (by simp [roc_ro, roc_clo (cs := []) rfl]) (R61 xs ys hx) rfl rfl rfl ?_
  simp
def A8 : AC := (.seq (.ops [yw 2 (.box (.t 0)), yw 3 (.box (.t 1)), yq 4 (.mov (.c (.sc (.bool false))))])
  (.seq (.seq (.ops [yq 5 (.fadr 0 (.t 2)), yq 6 (.load false 1 (.t 5)), yq 7 (.fadr 0 (.t 3)), yq 8 (.load false 1 (.t 7)), yq 9 (.bin .neq (.t 6) (.t 8)), yq 10 (.mov (.t 9)), yg 11 10 false (.fadr 1 (.t 2)), yg 12 10 false (.load false 1 (.t 11)), yg 13 10 false (.fadr 1 (.t 3)), yg 14 10 false (.load false 1 (.t 13)), yh 15 10 false 33 [.t 12, .t 14], yg 16 10 false (.not (.t 15)), yq 17 (.pick (.t 10) (.c (.sc (.bool true))) (.t 16)), yq 18 (.mov (.t 17)), yg 19 18 false (.fadr 2 (.t 2)), yg 20 18 false (.load false 1 (.t 19)), yg 21 18 false (.fadr 2 (.t 3)), yg 22 18 false (.load false 1 (.t 21)), yh 23 18 false 34 [.t 20, .t 22], yg 24 18 false (.not (.t 23)), yq 25 (.pick (.t 18) (.c (.sc (.bool true))) (.t 24)), yq 26 (.mov (.t 25)), yg 27 26 false (.fadr 3 (.t 2)), yg 28 26 false (.load false 1 (.t 27)), yg 29 26 false (.fadr 3 (.t 3)), yg 30 26 false (.load false 1 (.t 29)), yh 31 26 false 35 [.t 28, .t 30], yg 32 26 false (.not (.t 31)), yq 33 (.pick (.t 26) (.c (.sc (.bool true))) (.t 32))])
  (.cond (.t 33) (.seq (.ops [yq 4 (.mov (.c (.sc (.bool false))))])
  .ret)
  .skip))
  (.seq (.ops [yq 34 (.fadr 4 (.t 2)), yq 35 (.load false 1 (.t 34)), yq 36 (.fadr 4 (.t 3)), yq 37 (.load false 1 (.t 36)), yc 38 36 [.t 35, .t 37], yq 4 (.mov (.t 38))])
  .ret)))
theorem K8 : yK Tryz.prog Tryz.f8 A8 39 [.mov (.t 4)] := ⟨by kernel_rfl, by kernel_rfl, by kernel_rfl⟩
set_option maxHeartbeats 1000000 in
set_option maxRecDepth 100000 in
theorem R8 (a b : Job) (ha : Job.ty.ok a) : Ret Tryz.prog 8 [.agg (Job.ty.cs a), .agg (Job.ty.cs b)] (.sc (.bool (jobEq a b))) [.un, .un] := by
  obtain ⟨o0, o1, o2, o3, o4, _⟩ := ha
  have h1 := Ty.str.lenb (by decide) o1
  have h2 := File.ty.lenb (by decide) o2
  have h3 : a.envs.length < 4611686018427387904 := Env.ty.lenb (by decide) o3
  refine Ret.run Tryz.func8 K8 (by simp) rfl rfl 500 ?_
  by_cases k0 : a.name.toList = b.name.toList
  case neg =>
    have k0' : (a.name.toList == b.name.toList) = false := by simpa using k0
    simp [A8, iniρ, Job.cse, k0, k0', jobEq, strEq]
  simp [A8, iniρ, Job.cse, k0]
  refine callK.ro 0 rfl (by kernel_rfl) (by simp [roc_ro]) (R33 a.acts b.acts h1) rfl rfl rfl ?_
  cases k1 : eqBy strEq a.acts b.acts
  · simp [jobEq, k1]
  simp
  refine callK.ro 0 rfl (by kernel_rfl) (by simp [roc_ro]) (R34 a.ins b.ins h2) rfl rfl rfl ?_
  cases k2 : eqBy fileEq a.ins b.ins
  · simp [jobEq, k2]
  simp
  refine callK.ro 0 rfl (by kernel_rfl) (by simp [roc_ro]) (R35 a.envs b.envs h3) rfl rfl rfl ?_
  cases k3 : eqBy envEq a.envs b.envs
  · simp [jobEq, k3]
  simp
  refine callK.ro 0 rfl (by kernel_rfl) (by simp [roc_ro]) (R36 a.deps b.deps o4) rfl rfl rfl ?_
  simp [jobEq, strEq, k0, k1, k2, k3]
structure FlP where
  v : Bool
def gtrP (a b : ByteArray) : Bool := !Op.bytesLess a.toList b.toList && !(a.toList == b.toList)
def putF (f : File) : List File → Bool → List File
  | [], d => if d then [] else [f]
  | x :: xs, d => if x.path.toList = f.path.toList then putF f xs d else if (!d && gtrP x.path f.path) = true then f :: x :: putF f xs true else x :: putF f xs d
theorem fileSc (xs : List File) : plain.plainL (rows File.ty.oc xs) = true := plainL_of (rows_all (q := plain) (fun x c hc => by simp [File.oce] at hc; rcases hc with rfl | rfl <;> rfl) xs)
theorem fileId (xs : List File) : ∀ y ∈ rows File.ty.oc xs, idfree y = true := rows_all (fun x c hc => (File.ty.ow x c hc).fr) xs
def A75 : AC := (.seq (.ops [yw 3 (.box (.t 1)), yq 4 (.mov (.c .em))])
  (.seq (.ops [yw 8 (.bsl 2 0 [] []), yq 5 (.mov (.t 8))])
  (.seq (.ops [yq 6 (.mov (.c (.sc (.bool false))))])
  (.seq (.seq (.ops [yq 7 (.mov (yi 0))])
  (.block 0 (.loop (.seq (.seq (.ops [yq 9 (.mov (.t 7)), yq 10 (.mov (.t 0)), yq 11 (.llen (.t 10)), yq 12 (.bin .lss (.t 9) (.t 11))])
  (.cond (.t 12) .skip
  (.exit 0)))
  (.seq (.block 1 (.seq (.seq (.any [(yq 15 (.mov (.t 0)), []), (yq 16 (.mov (.t 7)), []), (yq 17 (.iadr 2 (.t 15) (.t 16)), [0, 1]), (yq 18 (.fadr 0 (.t 17)), [2]), (yq 19 (.load false 1 (.t 18)), [3]), (yq 20 (.fadr 0 (.t 3)), []), (yq 21 (.load false 1 (.t 20)), [5]), (yq 22 (.bin .eql (.t 19) (.t 21)), [4, 6])])
  (.cond (.t 22) (.exit 1)
  .skip))
  (.seq (.seq (.any [(yq 23 (.mov (.t 6)), []), (yq 24 (.not (.t 23)), [0]), (yq 25 (.mov (.t 24)), [1]), (yg 26 25 true (.mov (.t 0)), [2]), (yg 27 25 true (.mov (.t 7)), [2]), (yg 28 25 true (.iadr 2 (.t 26) (.t 27)), [3, 4, 2]), (yg 29 25 true (.fadr 0 (.t 28)), [5, 2]), (yg 30 25 true (.load false 1 (.t 29)), [6, 2]), (yg 31 25 true (.fadr 0 (.t 3)), [2]), (yg 32 25 true (.load false 1 (.t 31)), [8, 2]), (yg 33 25 true (.bin .gtr (.t 30) (.t 32)), [7, 9, 2]), (yq 34 (.pick (.t 25) (.t 33) (.c (.sc (.bool false)))), [2, 10])])
  (.cond (.t 34) (.seq (.ops [yq 35 (.mov (.t 5)), yq 36 (.load true 2 (.t 3)), yw 37 (.bsl 2 1 [(.sc (.string ⟨#[]⟩)), (.sc (.string ⟨#[]⟩))] [(0, 2, (.t 36))]), yw 38 (.app 2 32 false (.t 35) (.t 37)), yq 5 (.mov (.t 38))])
  (.ops [yq 6 (.mov (.c (.sc (.bool true))))]))
  .skip))
  (.ops [yq 39 (.mov (.t 5)), yq 40 (.mov (.t 0)), yq 41 (.mov (.t 7)), yq 42 (.iadr 2 (.t 40) (.t 41)), yq 43 (.load true 2 (.t 42)), yw 44 (.bsl 2 1 [(.sc (.string ⟨#[]⟩)), (.sc (.string ⟨#[]⟩))] [(0, 2, (.t 43))]), yw 45 (.app 2 32 false (.t 39) (.t 44)), yq 5 (.mov (.t 45))]))))
  (.ops [yq 13 (.mov (.t 7)), yq 14 (.bin .add (.t 13) (yi 1)), yq 7 (.mov (.t 14))]))))))
  (.seq (.seq (.ops [yq 46 (.mov (.t 6)), yq 47 (.not (.t 46))])
  (.cond (.t 47) (.ops [yq 48 (.mov (.t 5)), yq 49 (.load true 2 (.t 3)), yw 50 (.bsl 2 1 [(.sc (.string ⟨#[]⟩)), (.sc (.string ⟨#[]⟩))] [(0, 2, (.t 49))]), yw 51 (.app 2 32 false (.t 48) (.t 50)), yq 5 (.mov (.t 51))])
  .skip))
  (.seq (.ops [yq 52 (.mov (.t 5)), yq 4 (.mov (.t 52))])
  .ret))))))
theorem K75 : yK Tryz.prog Tryz.f75 A75 53 [.mov (.t 4)] := ⟨by kernel_rfl, by kernel_rfl, by kernel_rfl⟩
set_option maxHeartbeats 1000000 in
theorem R75 (xs : List File) (f : File) (hok : File.ty.slice.ok xs) : Ret Tryz.prog 75 [.ro (rows File.ty.cs xs) xs.length, .agg (File.ty.cs f)] (.own (rows File.ty.oc (putF f xs false)) (putF f xs false).length 2) [.un, .un] := by
  have hb : xs.length * 32 ≤ 140737488351232 := hok.1
  refine Ret.run Tryz.func75 K75 (by simp) rfl rfl 900 ?_
  simp [A75, iniρ, File.cse, over]
  refine T.rounds (μ := fun i : List File × List File × List File × FlP => i.2.1.length)
    (fun i s => i.1 ++ i.2.1 = xs ∧ i.2.2.1 ++ putF f i.2.1 i.2.2.2.v = putF f xs false ∧ i.2.2.1.length ≤ i.1.length + (if i.2.2.2.v then 1 else 0) ∧ s.ρ 0 = .ro (rows File.ty.cs xs) xs.length ∧ s.ρ 3 = .ref 3 0 ∧ s.ρ 5 = .sl 8 0 i.2.2.1.length 2 false ∧ s.ρ 6 = .sc (.bool i.2.2.2.v) ∧ s.ρ 7 = .sc (.int .i64 i.1.length) ∧
      s.h 3 = some (some [.sc (.string f.path), .sc (.string f.text)]) ∧ s.h 8 = some (some (rows File.ty.oc i.2.2.1)) ∧ s.h 37 = none ∧ s.h 38 = none ∧ s.h 44 = none ∧ s.h 45 = none ∧ s.h 50 = none ∧ s.h 51 = none ∧ s.n = 53) ([], xs, [], ⟨false⟩) (by simp [upd_app, rows_nil]) ?_
  rintro ⟨pre, rest, out, ⟨done⟩⟩ ⟨ρ, hh, n⟩ ⟨hx, hE, hle, h0', h3', h5', h6', h7', k3, k8, f1, f2, f3, f4, f5, f6, rfl⟩
  simp only at hx hE hle h0' h3' h5' h6' h7' k3 k8 f1 f2 f3 f4 f5 f6
  refine run_ok (n := 400) ?_
  have hpl : pre.length + rest.length = xs.length := by rw [← hx]; simp
  have hol : out.length ≤ pre.length + 1 := by split at hle <;> omega
  have hc1 : (out.length + 1) * 32 ≤ 140737488355328 := by omega
  cases rest with
  | nil =>
    simp at hx
    obtain ⟨xs0, hx0⟩ : ∃ xs0, xs0 = xs := ⟨_, rfl⟩
    rw [← hx0] at hE ⊢
    rw [hx0]
    have hpx : pre.length = xs.length := by rw [hx]
    simp [h0', h7', hpx]
    refine T.on 400 ?_
    rw [← hx0] at *
    cases done
    · have hfin : rows File.ty.oc out ++ [.sc (.string f.path), .sc (.string f.text)] = rows File.ty.oc (putF f xs0 false) := by rw [← hE, rows_append, putF]; simp [rows_cons, rows_nil, File.oce]
      have hlen : (putF f xs0 false).length = out.length + 1 := by rw [← hE, putF]; simp
      have hid : idfree.idfreeL (rows File.ty.oc (putF f xs0 false)) = true := File.frL _
      simp [h3', h5', h6', k3, k8, f5, f6, over, File.ocl, hc1, ex1, hfin, hlen, hid]
    · have hE2 : out = putF f xs0 false := by rw [← hE, putF]; simp
      simp [h5', h6', k8, ex1, File.ocl, File.frL, hE2]
  | cons x rest =>
    have hlt : (pre.length : Int) < xs.length := by simp only [List.length_cons] at hpl; omega
    have hlt2 : pre.length < xs.length := by omega
    have hd := rows_drop File.ty.csn pre (x :: rest)
    rw [hx, rows_cons] at hd
    have hd : List.drop (pre.length * 2) (rows File.ty.cs xs) = AV.sc (.string x.path) :: AV.sc (.string x.text) :: rows File.ty.cs rest := hd
    have hw : IntKind.i64.wrap ((pre.length : Int) + 1) = pre.length + 1 := wrap_i64 (by omega) (by omega)
    have hap : ∀ (l : List File) (g : File), rows File.ty.oc l ++ [.sc (.string g.path), .sc (.string g.text)] = rows File.ty.oc (l ++ [g]) := fun l g => by rw [rows_append]; simp [rows_cons, rows_nil, File.oce]
    simp [h0', h7', hlt]
    refine T.text 400 mixed (by kernel_rfl) (by kernel_rfl) ?_
    by_cases hk : x.path.toList = f.path.toList
    case pos =>
      simp [h0', h3', h7', k3, hlt, hlt2, hd, hk, hw]
      refine ⟨pre ++ [x], rest, by simp, out, ⟨done⟩, _, Le.refl _, ?_⟩
      simp [hx, h0', h3', h5', h6', k3, k8, f1, f2, f3, f4, f5, f6, upd_app]
      rw [putF, if_pos hk] at hE
      exact ⟨hE, by omega⟩
    rw [putF, if_neg hk] at hE
    have hk2 : (x.path.toList == f.path.toList) = false := by simpa using hk
    simp only [List.length_cons] at hpl
    simp [h0', h3', h7', k3, hlt, hlt2, hd, hk, hw]
    refine T.text 400 mixed (by kernel_rfl) (by kernel_rfl) ?_
    cases done
    case true =>
      simp at hE hle
      have hc2 : (out.length + 1) * 32 ≤ 140737488355328 := by omega
      simp [h0', h3', h5', h6', h7', k3, k8, f3, f4, hlt, hlt2, hd, hw, over, File.ocl, hc2, hap]
      refine ⟨pre ++ [x], rest, by simp, out ++ [x], ⟨true⟩, _, Le.reseat [0, 3, 5, 6, 7] [(45, 8), (3, 3)] (by simp) (by simp [upd_app, menB, idfree, h0', h3', h6']) ?_, ?_⟩
      · intro b hb cs hcs
        simp at hb
        rcases hb with rfl | rfl
        · simp [upd_app] at hcs
          subst hcs
          exact fileId _
        · simp [upd_app, k3] at hcs
          subst hcs
          simp [idfree]
      · simp [hx, h0', h3', h6', k3, upd_app, hE]
        omega
    simp at hle
    cases hg : Op.bytesLess x.path.toList f.path.toList
    case false =>
      have hgt : gtrP x.path f.path = true := by simp [gtrP, hg, hk2]
      simp [hgt] at hE
      have hc2 : (out.length + 1) * 32 ≤ 140737488355328 := by omega
      have hc4 : out.length + 1 + 1 ≤ xs.length + 1 := by omega
      have hc3 : (out.length + 1 + 1) * 32 ≤ 140737488355328 := Nat.le_trans (Nat.mul_le_mul_right 32 hc4) (Nat.le_trans (Nat.le_of_eq (Nat.succ_mul xs.length 32)) (Nat.le_trans (Nat.add_le_add_right hb 32) (by decide)))
      simp [h0', h3', h5', h6', h7', k3, k8, f1, f2, f3, f4, hlt, hlt2, hd, hw, hk, hk2, hg, over, File.ocl, hc2, hc3, hap]
      refine ⟨pre ++ [x], rest, by simp, out ++ [f, x], ⟨true⟩, _, Le.reseat [0, 3, 5, 6, 7] [(45, 8), (3, 3)] (by simp) (by simp [upd_app, menB, idfree, h0', h3', h6']) ?_, ?_⟩
      · intro b hb cs hcs
        simp at hb
        rcases hb with rfl | rfl
        · simp [upd_app] at hcs
          subst hcs
          exact fileId _
        · simp [upd_app, k3] at hcs
          subst hcs
          simp [idfree]
      · simp [hx, h0', h3', h6', k3, upd_app, hE]
        omega
    case true =>
      have hgt : gtrP x.path f.path = false := by simp [gtrP, hg, hk2]
      simp [hgt] at hE
      have hc2 : (out.length + 1) * 32 ≤ 140737488355328 := hc1
      simp [h0', h3', h5', h6', h7', k3, k8, f1, f2, f3, f4, hlt, hlt2, hd, hw, hk, hk2, hg, over, File.ocl, hc2, hap]
      refine ⟨pre ++ [x], rest, by simp, out ++ [x], ⟨false⟩, _, Le.reseat [0, 3, 5, 6, 7] [(45, 8), (3, 3)] (by simp) (by simp [upd_app, menB, idfree, h0', h3', h6']) ?_, ?_⟩
      · intro b hb cs hcs
        simp at hb
        rcases hb with rfl | rfl
        · simp [upd_app] at hcs
          subst hcs
          exact fileId _
        · simp [upd_app, k3] at hcs
          subst hcs
          simp [idfree]
      · simp [hx, h0', h3', h6', k3, upd_app, hE]
        omega
def above (p : Option ByteArray) (x : ByteArray) : Bool := match p with | none => true | some q => Op.bytesLess q.toList x.toList
def filesL : Option ByteArray → List File → Bool
  | _, [] => true
  | p, x :: l => pathOk x.path && (decide (x.text.size ≤ 60) && (above p x.path && filesL (some x.path) l))
def lastP : List File → Option ByteArray
  | [] => none
  | x :: l => match lastP l with | some p => some p | none => some x.path
theorem lastP_snoc : ∀ (l : List File) (x : File), lastP (l ++ [x]) = some x.path
  | [], x => rfl
  | y :: l, x => by simp only [List.cons_append, lastP, lastP_snoc l x]
def filesOk (xs : List File) : Bool := filesL none xs && decide (xs.length ≤ 30)
def A76 : AC := (.seq (.ops [yq 2 (.mov (.c (.sc (.bool false))))])
  (.seq (.seq (.ops [yq 3 (.mov (yi 0))])
  (.block 0 (.loop (.seq (.seq (.ops [yq 4 (.mov (.t 3)), yq 5 (.mov (.t 0)), yq 6 (.llen (.t 5)), yq 7 (.bin .lss (.t 4) (.t 6))])
  (.cond (.t 7) .skip
  (.exit 0)))
  (.seq (.block 1 (.seq (.any [(yq 10 (.mov (.t 0)), []), (yq 11 (.mov (.t 3)), []), (yq 12 (.iadr 2 (.t 10) (.t 11)), [0, 1]), (yq 13 (.fadr 0 (.t 12)), [2]), (yq 14 (.load false 1 (.t 13)), [3]), (yc 15 87 [.t 14], [4]), (yq 16 (.not (.t 15)), [5]), (yq 17 (.mov (.t 16)), [6, 5]), (yg 18 17 false (.mov (.t 0)), [7]), (yg 19 17 false (.mov (.t 3)), [7]), (yg 20 17 false (.iadr 2 (.t 18) (.t 19)), [8, 9, 7]), (yg 21 17 false (.fadr 1 (.t 20)), [10, 7]), (yg 22 17 false (.load false 1 (.t 21)), [11, 7]), (yg 23 17 false (.slen (.t 22)), [12, 7]), (yg 24 17 false (.bin .gtr (.t 23) (yi 60)), [13, 7]), (yq 25 (.pick (.t 17) (.c (.sc (.bool true))) (.t 24)), [7, 14]), (yq 26 (.mov (.t 25)), [15, 7]), (yg 27 26 false (.mov (.t 3)), [16]), (yg 28 26 false (.bin .gtr (.t 27) (yi 0)), [17, 16]), (yg 29 26 false (.mov (.t 28)), [18, 16, 16]), (yg 30 29 true (.mov (.t 0)), [19]), (yg 31 29 true (.mov (.t 3)), [19]), (yg 32 29 true (.bin .sub (.t 31) (yi 1)), [21, 19]), (yg 33 29 true (.iadr 2 (.t 30) (.t 32)), [20, 22, 19]), (yg 34 29 true (.fadr 0 (.t 33)), [23, 19]), (yg 35 29 true (.load false 1 (.t 34)), [24, 19]), (yg 36 29 true (.mov (.t 0)), [19]), (yg 37 29 true (.mov (.t 3)), [19]), (yg 38 29 true (.iadr 2 (.t 36) (.t 37)), [26, 27, 19]), (yg 39 29 true (.fadr 0 (.t 38)), [28, 19]), (yg 40 29 true (.load false 1 (.t 39)), [29, 19]), (yg 41 29 true (.bin .geq (.t 35) (.t 40)), [25, 30, 19]), (yg 42 26 false (.pick (.t 29) (.t 41) (.c (.sc (.bool false)))), [19, 31, 16]), (yq 43 (.pick (.t 26) (.c (.sc (.bool true))) (.t 42)), [16, 32])])
  (.cond (.t 43) (.seq (.ops [yq 2 (.mov (.c (.sc (.bool false))))])
  .ret)
  .skip)))
  (.ops [yq 8 (.mov (.t 3)), yq 9 (.bin .add (.t 8) (yi 1)), yq 3 (.mov (.t 9))]))))))
  (.seq (.ops [yq 44 (.mov (.t 0)), yq 45 (.llen (.t 44)), yq 46 (.bin .leq (.t 45) (yi 30)), yq 2 (.mov (.t 46))])
  .ret)))
theorem K76 : yK Tryz.prog Tryz.f76 A76 47 [.mov (.t 2)] := ⟨by kernel_rfl, by kernel_rfl, by kernel_rfl⟩
set_option maxHeartbeats 2000000 in
set_option maxRecDepth 100000 in
theorem R76 (xs : List File) (hb : xs.length < 4611686018427387904) (hp : ∀ x ∈ xs, x.path.size ≤ 1048576) : Ret Tryz.prog 76 [.ro (rows File.ty.cs xs) xs.length] (.sc (.bool (filesOk xs))) [.un] := by
  refine Ret.run Tryz.func76 K76 (by simp) rfl rfl 900 ?_
  simp [A76, iniρ]
  refine T.rounds (μ := fun i : List File × List File => i.2.length)
    (fun i s => i.1 ++ i.2 = xs ∧ filesL (lastP i.1) i.2 = filesL none xs ∧ s.ρ 0 = .ro (rows File.ty.cs xs) xs.length ∧ s.ρ 3 = .sc (.int .i64 i.1.length) ∧ s.h = h0 ∧ s.n = 47) ([], xs) (by simp [upd_app, lastP]) ?_
  rintro ⟨pre, rest⟩ ⟨ρ, hh, n⟩ ⟨hx, hE, k0, k3, rfl, rfl⟩
  simp only at hx hE k0 k3
  refine run_ok (n := 400) ?_
  cases rest with
  | nil =>
    have hxl : pre.length = xs.length := by rw [← hx]; simp
    have hA : filesL none xs = true := by rw [← hE]; cases lastP pre <;> rfl
    simp [k0, k3, hxl]
    refine T.on 400 ?_
    simp [k0, filesOk, hA]
    try omega
  | cons x rest =>
    have hle : pre.length + (rest.length + 1) = xs.length := by rw [← hx]; simp
    have hlt : (pre.length : Int) < xs.length := by omega
    have hlt2 : pre.length < xs.length := by omega
    have hw : IntKind.i64.wrap ((pre.length : Int) + 1) = pre.length + 1 := wrap_i64 (by omega) (by omega)
    have hd := rows_drop File.ty.csn pre (x :: rest)
    rw [hx, rows_cons] at hd
    have hd : List.drop (pre.length * 2) (rows File.ty.cs xs) = AV.sc (.string x.path) :: AV.sc (.string x.text) :: rows File.ty.cs rest := hd
    have hd1 : List.drop (pre.length * 2 + 1) (rows File.ty.cs xs) = AV.sc (.string x.text) :: rows File.ty.cs rest := by rw [← List.drop_drop, hd]; rfl
    have hxp := hp x (by rw [← hx]; simp)
    have stop : ∀ c, (pathOk x.path && (decide (x.text.size ≤ 60) && above (lastP pre) x.path)) = c → c = false → filesOk xs = false := fun c h1 h2 => by
      subst h2
      have : filesL none xs = false := by
        rw [← hE, filesL]
        cases h5 : pathOk x.path <;> cases h6 : decide (x.text.size ≤ 60) <;> cases h7 : above (lastP pre) x.path <;> simp_all
      simp [filesOk, this]
    simp [k0, k3, hlt]
    refine T.text 400 mixed (by kernel_rfl) (by kernel_rfl) ?_
    simp [k0, k3, hlt, hlt2, hd]
    refine callSK.by rfl (by kernel_rfl) rfl (R87 x.path hxp) ?_
    cases h1 : pathOk x.path
    · have := stop _ rfl (by simp [h1])
      simp [this]
    by_cases h2 : x.text.size ≤ 60
    case neg =>
      have := stop _ rfl (by simp [h2])
      have h2' : (60 : Int) < x.text.size := by omega
      simp [k0, k3, hlt, hlt2, hd1, h2', this]
    have h2' : ¬ ((60 : Int) < x.text.size) := by omega
    have fin : above (lastP pre) x.path = true → filesL (some x.path) rest = filesL none xs := fun h => by
      rw [← hE, filesL, h1, h]; simp [h2]
    rcases List.eq_nil_or_concat pre with rfl | ⟨p0, q, ep⟩
    · simp at hlt hlt2 hd1 hw
      simp [k0, k3, hlt, hlt2, hd1, h2']
      refine ⟨[x], rest, by simp, _, Le.refl _, ?_⟩
      have hF := fin rfl
      simp at hx
      simp [hx, k0, upd_app, lastP, hF, hw]
    rw [List.concat_eq_append] at ep
    subst ep
    have hq : List.drop (p0.length * 2) (rows File.ty.cs xs) = AV.sc (.string q.path) :: AV.sc (.string q.text) :: rows File.ty.cs (x :: rest) := by
      have h := rows_drop File.ty.csn p0 (q :: x :: rest)
      have e : p0 ++ q :: x :: rest = xs := by rw [← hx]; simp
      rw [e, rows_cons] at h
      exact h
    have hw0 : IntKind.i64.wrap (p0.length : Int) = p0.length := wrap_i64 (by omega) (by simp only [List.length_append] at hle; omega)
    have hl0 : p0.length < xs.length := by simp only [List.length_append] at hle; omega
    rw [lastP_snoc] at fin stop
    simp only [List.length_append, List.length_cons, List.length_nil, Nat.zero_add] at hlt hlt2 hd hd1 hw k3
    have hpos : (0 : Int) < (p0.length : Int) + 1 := by omega
    have hpos2 : (0 : Int) ≤ (p0.length : Int) + 1 := by omega
    have hlt3 : (p0.length : Int) + 1 < xs.length := by omega
    cases h3 : Op.bytesLess q.path.toList x.path.toList
    · have := stop _ rfl (by simp [above, h3])
      simp [k0, k3, hlt, hlt2, hd, hd1, h2', hpos, hpos2, hlt3, hw0, hl0, hq, h3, this]
    · have hF := fin (by simp [above, h3])
      simp [k0, k3, hlt, hlt2, hd, hd1, h2', hpos, hpos2, hlt3, hw0, hl0, hq, h3]
      refine ⟨p0 ++ [q] ++ [x], rest, by simp, _, Le.refl _, ?_⟩
      rw [lastP_snoc]
      simp at hw hx
      simp [hx, k0, upd_app, hF, hw]
      omega
theorem putF_len (f : File) : ∀ (xs : List File) (d : Bool), (putF f xs d).length ≤ xs.length + 1
  | [], d => by cases d <;> simp [putF]
  | x :: xs, d => by
    have h1 := putF_len f xs d
    rw [putF]
    split
    · simp; omega
    · split
      · have h3 : ∀ (xs : List File), (putF f xs true).length ≤ xs.length := by
          intro xs
          induction xs with
          | nil => simp [putF]
          | cons y ys ih =>
            rw [putF]
            split
            · simp; omega
            · simp; omega
        have := h3 xs
        simp; omega
      · simp; omega
theorem putF_mem (f : File) : ∀ (xs : List File) (d : Bool), ∀ x ∈ putF f xs d, x = f ∨ x ∈ xs
  | [], d, x, h => by cases d <;> simp [putF] at h; exact .inl h
  | y :: ys, d, x, h => by
    rw [putF] at h
    split at h
    · exact (putF_mem f ys d x h).imp id (List.mem_cons_of_mem _)
    · split at h
      · rcases List.mem_cons.1 h with rfl | h
        · exact .inl rfl
        · rcases List.mem_cons.1 h with rfl | h
          · exact .inr (List.mem_cons_self ..)
          · exact (putF_mem f ys true x h).imp id (List.mem_cons_of_mem _)
      · rcases List.mem_cons.1 h with rfl | h
        · exact .inr (List.mem_cons_self ..)
        · exact (putF_mem f ys d x h).imp id (List.mem_cons_of_mem _)
def putFile (xs : List File) (f : File) : List File × Bool := if filesOk (putF f xs false) = true then (putF f xs false, true) else (xs, false)
def A45 : AC := (.seq (.ops [yw 3 (.box (.t 1)), yq 4 (.mov (.c .em)), yq 5 (.mov (.c (.sc (.bool false))))])
  (.seq (.ops [yq 7 (.mov (.t 0)), yq 8 (.load true 2 (.t 3)), yc 9 75 [.t 7, .t 8], yq 6 (.mov (.t 9))])
  (.seq (.seq (.ops [yq 10 (.mov (.t 6)), yc 11 76 [.t 10], yq 12 (.not (.t 11))])
  (.cond (.t 12) (.seq (.ops [yw 13 (.bsl 2 0 [] []), yq 14 (.mov (.t 0)), yw 15 (.app 2 32 false (.t 13) (.t 14)), yq 4 (.mov (.t 15)), yq 5 (.mov (.c (.sc (.bool false))))])
  .ret)
  .skip))
  (.seq (.ops [yq 16 (.mov (.t 6)), yq 4 (.mov (.t 16)), yq 5 (.mov (.c (.sc (.bool true))))])
  .ret))))
theorem K45 : yK Tryz.prog Tryz.f45 A45 17 [.mov (.t 4), .mov (.t 5)] := ⟨by kernel_rfl, by kernel_rfl, by kernel_rfl⟩
theorem R45 (xs : List File) (f : File) (hok : File.ty.slice.ok xs) (hp : ∀ x ∈ xs, x.path.size ≤ 1048576) (hf : f.path.size ≤ 1048576) : Ret Tryz.prog 45 [.ro (rows File.ty.cs xs) xs.length, .agg (File.ty.cs f)] (.tup [.own (rows File.ty.oc (putFile xs f).1) (putFile xs f).1.length 2, .sc (.bool (putFile xs f).2)]) [.un, .un] := by
  have hb : xs.length * 32 ≤ 140737488351232 := hok.1
  obtain ⟨ys, hys⟩ : ∃ ys, ys = putF f xs false := ⟨_, rfl⟩
  have rp := R75 xs f hok
  have hl := putF_len f xs false
  have hm := putF_mem f xs false
  rw [← hys] at rp hl hm
  have rf := R76 ys (by omega) (fun x hx => (hm x hx).elim (fun e => e ▸ hf) (hp x))
  refine Ret.run Tryz.func45 K45 (by simp) rfl rfl 900 ?_
  simp [A45, iniρ, File.cse, over]
  refine callK.own 9 rfl (by kernel_rfl) (by simp [roc_ro, roc_agg]; rfl) rp (File.ty.flo ys) (by simp [upd_app]) rfl ?_
  simp
  refine callK.ro 0 rfl (by kernel_rfl) (by simp [File.roc8]) rf rfl rfl rfl ?_
  have hcap : xs.length * 32 ≤ 140737488355328 := by omega
  have hsc := fileSc xs
  have hfe : rows File.ty.cs xs = rows File.ty.oc xs := rfl
  cases h : filesOk ys
  · simp [putFile, ← hys, h, over, hcap, hfe, hsc, File.ocl, ex1, File.frL]
  · simp [putFile, ← hys, h, ex1, File.ocl, File.frL]
def A110 : AC := (.seq (.ops [yq 2 (.mov (.c (.sc (.bool false))))])
  (.seq (.ops [yq 3 (.mov (.t 0)), yc 4 64 [.t 3], yq 5 (.mov (.t 4)), yg 6 5 false (.mov (.t 0)), yh 7 5 false 65 [.t 6], yq 8 (.pick (.t 5) (.c (.sc (.bool true))) (.t 7)), yq 9 (.mov (.t 8)), yg 10 9 false (.mov (.t 0)), yg 11 9 false (.bin .eql (.t 10) (.c (.sc (.int .u8 46)))), yq 12 (.pick (.t 9) (.c (.sc (.bool true))) (.t 11)), yq 13 (.mov (.t 12)), yg 14 13 false (.mov (.t 0)), yg 15 13 false (.bin .eql (.t 14) (.c (.sc (.int .u8 45)))), yq 16 (.pick (.t 13) (.c (.sc (.bool true))) (.t 15)), yq 17 (.mov (.t 16)), yg 18 17 false (.mov (.t 0)), yg 19 17 false (.bin .eql (.t 18) (.c (.sc (.int .u8 95)))), yq 20 (.pick (.t 17) (.c (.sc (.bool true))) (.t 19)), yq 2 (.mov (.t 20))])
  .ret))
theorem K110 : yK Tryz.prog Tryz.f110 A110 21 [.mov (.t 2)] := ⟨by kernel_rfl, by kernel_rfl, by kernel_rfl⟩
theorem R110 (c : UInt8) : Ret Tryz.prog 110 [.sc (.int .u8 c.toNat)] (.sc (.bool (lttI c.toNat))) [.un] := by
  refine Ret.run Tryz.func110 K110 (by simp) rfl rfl 500 ?_
  simp [A110, iniρ]
  refine callK.ro 0 rfl (by kernel_rfl) (by simp [roc_sc]) (R64 c) rfl rfl rfl ?_
  cases h1 : smallI (c.toNat : Int)
  case true => simp [lttI, h1]
  simp
  refine callK.ro 0 rfl (by kernel_rfl) (by simp [roc_sc]) (R65 c) rfl rfl rfl ?_
  cases h2 : figI (c.toNat : Int)
  case true => simp [lttI, h1, h2]
  by_cases h3 : (c.toNat : Int) = 46
  · simp [lttI, h1, h2, h3]
  by_cases h4 : (c.toNat : Int) = 45
  · simp [lttI, h1, h2, h3, h4]
  simp [lttI, h1, h2, h3, h4]
def A93 : AC := (.seq (.ops [yq 2 (.mov (.c (.sc (.bool false))))])
  (.seq (.seq (.ops [yq 3 (.mov (yi 0))])
  (.block 0 (.loop (.seq (.seq (.ops [yq 4 (.mov (.t 3)), yq 5 (.mov (.t 0)), yq 6 (.slen (.t 5)), yq 7 (.bin .lss (.t 4) (.t 6))])
  (.cond (.t 7) .skip
  (.exit 0)))
  (.seq (.block 1 (.seq (.ops [yq 10 (.mov (.t 0)), yq 11 (.mov (.t 3)), yq 12 (.idx (.t 10) (.t 11)), yc 13 110 [.t 12], yq 14 (.not (.t 13))])
  (.cond (.t 14) (.seq (.ops [yq 2 (.mov (.c (.sc (.bool false))))])
  .ret)
  .skip)))
  (.ops [yq 8 (.mov (.t 3)), yq 9 (.bin .add (.t 8) (yi 1)), yq 3 (.mov (.t 9))]))))))
  (.seq (.ops [yq 15 (.mov (.t 0)), yq 16 (.slen (.t 15)), yc 17 66 [.t 16, yi 1, yi 12], yq 18 (.mov (.t 17)), yg 19 18 true (.mov (.t 0)), yg 20 18 true (.bin .neq (.t 19) (.c (.sc (.string ⟨#[46]⟩)))), yq 21 (.pick (.t 18) (.t 20) (.c (.sc (.bool false)))), yq 22 (.mov (.t 21)), yg 23 22 true (.mov (.t 0)), yg 24 22 true (.bin .neq (.t 23) (.c (.sc (.string ⟨#[46, 46]⟩)))), yq 25 (.pick (.t 22) (.t 24) (.c (.sc (.bool false)))), yq 2 (.mov (.t 25))])
  .ret)))
theorem K93 : yK Tryz.prog Tryz.f93 A93 26 [.mov (.t 2)] := ⟨by kernel_rfl, by kernel_rfl, by kernel_rfl⟩
theorem R93 (s : ByteArray) (hs : s.size ≤ 140737488351232) : Ret Tryz.prog 93 [.sc (.string s)] (.sc (.bool (partOk s))) [.un] := by
  refine Ret.run Tryz.func93 K93 (by simp) rfl rfl 500 ?_
  simp [A93, iniρ]
  refine T.rounds (μ := fun i : List UInt8 × List UInt8 => i.2.length)
    (fun i t => i.1 ++ i.2 = s.data.toList ∧ letL i.2 = letL s.data.toList ∧ t.ρ 0 = .sc (.string s) ∧ t.ρ 3 = .sc (.int .i64 i.1.length) ∧ t.h = h0 ∧ t.n = 26) ([], s.data.toList) (by simp [upd_app]) ?_
  rintro ⟨pre, rest⟩ ⟨ρ, hh, n⟩ ⟨hx, hE, k0, k3, rfl, rfl⟩
  simp only at hx hE k0 k3
  have hsz := str_len hx
  refine run_ok (n := 400) ?_
  cases rest with
  | nil =>
    simp at hsz
    simp [k0, k3, hsz]
    refine T.on 400 ?_
    simp [k0]
    refine callK.ro 0 rfl (by kernel_rfl) (by simp [roc_sc]) (R66 s.size 1 12) rfl rfl rfl ?_
    have hL : letL s.data.toList = true := by rw [← hE]; rfl
    cases h1 : inR s.size 1 12
    case false => simp [partOk, h1]
    by_cases h2 : s.toList = [46]
    case pos => simp [k0, partOk, h1, h2]
    have h2' : (s.toList == [46]) = false := by simpa using h2
    by_cases h3 : s.toList = [46, 46]
    · simp [k0, partOk, h1, h2, h2', h3, hL]
    · have h3' : (s.toList == [46, 46]) = false := by simpa using h3
      simp [k0, partOk, h1, h2, h2', h3, h3', hL]
  | cons c rest =>
    have hg := str_get hx
    simp at hsz
    have hlt : (pre.length : Int) < s.size := by omega
    have hw : IntKind.i64.wrap ((pre.length : Int) + 1) = pre.length + 1 := wrap_i64 (by omega) (by omega)
    simp [k0, k3, hlt, hg]
    refine callK.ro 0 rfl (by kernel_rfl) (by simp [roc_sc]) (R110 c) rfl rfl rfl ?_
    cases h1 : lttI (c.toNat : Int)
    · have : partOk s = false := by simp [partOk, ← hE, letL, h1]
      simp [this]
    · simp [k3, hw]
      refine ⟨pre ++ [c], rest, by simp, _, Le.refl _, ?_⟩
      simp [hx, k0, upd_app, ← hE, letL, h1]
def A68 : AC := (.seq (.ops [yq 2 (.mov (.c (.sc (.bool false))))])
  (.seq (.ops [yq 6 (.mov (.t 0)), yc 7 70 [.t 6, (.c (.sc (.string ⟨#[47]⟩)))], yq 3 (.mov (.t 7))])
  (.seq (.seq (.ops [yq 8 (.mov (.t 3)), yq 9 (.llen (.t 8)), yq 10 (.mov (yi 0))])
  (.block 0 (.loop (.seq (.ops [yq 11 (.bin .lss (.t 10) (.t 9))])
  (.seq (.cond (.t 11) .skip
  (.exit 0))
  (.seq (.block 1 (.seq (.ops [yq 12 (.iadr 1 (.t 8) (.t 10)), yq 13 (.load false 1 (.t 12)), yq 5 (.mov (.t 13))])
  (.seq (.ops [yq 14 (.mov (.t 5)), yc 15 93 [.t 14], yq 16 (.not (.t 15))])
  (.cond (.t 16) (.seq (.ops [yq 2 (.mov (.c (.sc (.bool false))))])
  .ret)
  .skip))))
  (.ops [yq 17 (.bin .add (.t 10) (yi 1)), yq 10 (.mov (.t 17))])))))))
  (.seq (.ops [yq 18 (.mov (.t 3)), yq 19 (.llen (.t 18)), yq 20 (.bin .leq (.t 19) (yi 4)), yq 2 (.mov (.t 20))])
  .ret))))
theorem K68 : yK Tryz.prog Tryz.f68 A68 21 [.mov (.t 2)] := ⟨by kernel_rfl, by kernel_rfl, by kernel_rfl⟩
theorem R68 (s : ByteArray) (hs : s.size ≤ 1048576) : Ret Tryz.prog 68 [.sc (.string s)] (.sc (.bool (pathOk s))) [.un] := by
  have hz : ∀ x ∈ splitS s 47, x.size ≤ s.size := splitP_size s 47 _ 0 0
  have hl : (splitS s 47).length ≤ s.size + 1 := by
    have := splitP_len s 47 s.data.toList 0 0
    simpa [splitS] using this
  obtain ⟨ps, hps⟩ : ∃ ps, ps = splitS s 47 := ⟨_, rfl⟩
  have rs := R70 s 47 hs
  rw [show (((47 : UInt8).toNat : Nat) : Int) = 47 from rfl] at rs
  rw [← hps] at hz hl rs
  refine Ret.run Tryz.func68 K68 (by simp) rfl rfl 900 ?_
  simp [A68, iniρ]
  refine callK.own 6 rfl (by kernel_rfl) (by simp [roc_sc]) rs (Ty.str.flo ps) (by simp) rfl ?_
  simp
  refine T.rounds (μ := fun i : List ByteArray × List ByteArray => i.2.length)
    (fun i t => i.1 ++ i.2 = ps ∧ allPart i.2 = allPart ps ∧ t.ρ 3 = .sl 6 0 ps.length 1 false ∧ t.ρ 8 = .sl 6 0 ps.length 1 false ∧ t.ρ 9 = .sc (.int .i64 ps.length) ∧ t.ρ 10 = .sc (.int .i64 i.1.length) ∧ t.h 6 = some (some (rows Ty.str.oc ps)) ∧ t.n = 21) ([], ps) (by simp [upd_app]) ?_
  rintro ⟨pre, rest⟩ ⟨ρ, hh, n⟩ ⟨hx, hE, k3, k8, k9, k10, k6, rfl⟩
  simp only at hx hE k3 k8 k9 k10 k6
  refine run_ok (n := 400) ?_
  cases rest with
  | nil =>
    have hxl : pre.length = ps.length := by rw [← hx]; simp
    have hA : allPart ps = true := by rw [← hE]; rfl
    simp [k9, k10, hxl]
    refine T.on 400 ?_
    simp [k3, pathOk, ← hps, hA]
    all_goals omega
  | cons x rest =>
    have hle : pre.length + (rest.length + 1) = ps.length := by rw [← hx]; simp
    have hlt : (pre.length : Int) < ps.length := by omega
    have hw : IntKind.i64.wrap ((pre.length : Int) + 1) = pre.length + 1 := wrap_i64 (by omega) (by omega)
    have hd := strDrop pre rest x
    rw [hx] at hd
    have hd : List.drop pre.length (rows Ty.str.oc ps) = .sc (.string x) :: rows Ty.str.oc rest := hd
    have hxs := hz x (by rw [← hx]; simp)
    simp [k8, k9, k10, k6, hlt, hd]
    refine callK.ro 0 rfl (by kernel_rfl) (by simp [roc_sc, upd_app]) (R93 x (by omega)) rfl rfl rfl ?_
    cases h1 : partOk x
    · have : pathOk s = false := by
        have h2 : allPart ps = false := by rw [← hE, allPart, h1]; rfl
        simp [pathOk, ← hps, h2]
      simp [this]
    · simp [k10, hw]
      refine ⟨pre ++ [x], rest, by simp, _, Le.refl _, ?_⟩
      simp [hx, upd_app, k3, k8, k9, k6, ← hE, allPart, h1]
end Go.Proofs.YtchbcmenmlohfaaGreatDoor.Am
namespace Go.Proofs.YtchbcmenmlohfaaGreatDoor.Am
open Go Go.Proofs
set_option linter.unusedSimpArgs false
set_option linter.unusedVariables false
attribute [local congr] T_congr callK_congr callWK_congr
attribute [local simp] run_nil run_op0 run_opg run_seq run_cond run_block run_ret run_skip run_skip_after run_skip_blk run_exit run_exit_after run_exit_blk run_loop run_any runS_nil runS_op0 runS_opg runW_nil runW_op0 runW_opg exec_q exec_w exec_c exec_n execW_q execW_w execW_c restW_app hideH_app merge_app wblk rest_app restS_app execS_q execS_c aval dOk upd_app ev_t ev_c setO_some setO_none put_mk pinsOf isIo hasIo sbin endR fin resL one outL out1 clo1 cloL coe coeL shut shut.shutL wantA weff cellsOf fillA deref natOf ρ0_app h0_app plain plain.plainL keep_app keepH_app andThen_normal andThen_ret andThen_exit pop_nil pop_after pop_after_ret pop_after_exit pop_blk pop_blk_ret pop_blk_exit nilA srcOf srcCells keepR_app keepHR_app renA rb toldρ toldH toldT toldB menQ_sc menQ_sl menQ_ref menQ_em menQ_un menQ_roT mens_cons mens_nil toldF merge_nil hideH_nil str_n rows_nil rowsS_len rowsC_len rowsC_fr rowsS_fr Rd_mk Rl_mk menB exQ_exit exQ_ret wrap_i64 bs_size bs_list bs_toList bs_get bs_extract mk_bs bs_eta List.getElem?_cons_zero List.getElem?_cons_succ List.length_cons oLt oNlt oLe oNle nLt nNlt nLe nNle iniρ andThen_normal
set_option maxRecDepth 100000
def sfB (c : UInt8) : Bool := smallI c.toNat || figI c.toNat
def clsK (t : List UInt8) : Nat := if t.head? = some 33 then 1 else 0
def runN (t : List UInt8) : Nat := (t.takeWhile sfB).length
def clsN (t : List UInt8) : Nat := if inR (runN (t.drop (clsK t))) 1 5 = true ∧ (t.drop (clsK t))[runN (t.drop (clsK t))]? = some 93 then runN (t.drop (clsK t)) + clsK t + 2 else 0
def oneU (c : UInt8) : Bool := lttI c.toNat || (c.toNat : Int) == 63 || (c.toNat : Int) == 42
def unitN : List UInt8 → Nat
  | [] => 0
  | c :: t => if oneU c then 1 else if (c.toNat : Int) = 91 then clsN t else 0
theorem runN_le (t : List UInt8) : runN t ≤ t.length := (List.takeWhile_sublist _).length_le
theorem runN_cons (y : UInt8) (t : List UInt8) : runN (y :: t) = if sfB y = true then runN t + 1 else 0 := by
  unfold runN
  split
  · rename_i h; rw [List.takeWhile_cons_of_pos h]; rfl
  · rename_i h; rw [List.takeWhile_cons_of_neg h]; rfl
theorem hp33 (t : List UInt8) : Lib.hasPrefix t [33] = decide (t.head? = some 33) := by
  cases t with
  | nil => rfl
  | cons c t =>
    by_cases h : c = 33
    · subst h; simp [Lib.hasPrefix, List.isPrefixOf]
    · have h2 : (33 == c) = false := by simpa using fun e => h e.symm
      simp [Lib.hasPrefix, List.isPrefixOf, h, h2]
theorem R117 (s p : List UInt8) : Ret Tryz.prog 117 [.sc (.string (bs s)), .sc (.string (bs p))] (.sc (.bool (Lib.hasPrefix s p))) [.un, .un] := by
  refine Ret.go Tryz.func117 ?_
  by_cases h : p.length ≤ s.length
  · have e : Lib.hasPrefix s p = (s.take p.length == p) := by
      unfold Lib.hasPrefix
      rw [Bool.eq_iff_iff, List.isPrefixOf_iff_prefix, List.prefix_iff_eq_take, beq_iff_eq, eq_comm]
    simp (disch := omega) [h, e]
  · have e : Lib.hasPrefix s p = false := by
      rw [Bool.eq_false_iff]
      intro h2
      exact h (List.isPrefixOf_iff_prefix.1 h2).length_le
    simp (disch := omega) [h, e]
theorem R134 (s p : List UInt8) : Ret Tryz.prog 134 [.sc (.string (bs s)), .sc (.string (bs p))] (.sc (.bool (Lib.hasPrefix s p))) [.un, .un] := by
  refine Ret.go Tryz.func134 ?_
  simp
  refine cR (R117 s p) ?_
  simp
theorem R99 (s p : List UInt8) : Ret Tryz.prog 99 [.sc (.string (bs s)), .sc (.string (bs p))] (.tup [.sc (.string (bs (Lib.trimPrefix s p))), .sc (.bool (Lib.hasPrefix s p))]) [.un, .un] := by
  refine Ret.go Tryz.func99 ?_
  simp
  refine cR (R117 s p) ?_
  cases h : Lib.hasPrefix s p
  · simp [Lib.trimPrefix, h]
  · have := (List.isPrefixOf_iff_prefix.1 h).length_le
    simp (disch := omega) [Lib.trimPrefix, h]
theorem R79 (s p : List UInt8) : Ret Tryz.prog 79 [.sc (.string (bs s)), .sc (.string (bs p))] (.tup [.sc (.string (bs (Lib.trimPrefix s p))), .sc (.bool (Lib.hasPrefix s p))]) [.un, .un] := by
  refine Ret.go Tryz.func79 ?_
  simp
  refine cR (R99 s p) ?_
  simp
set_option maxHeartbeats 1000000 in
theorem R109 (c : UInt8) (t : List UInt8) (hl : t.length ≤ 140737488351232) : Ret Tryz.prog 109 [.sc (.string (bs (c :: t)))] (.sc (.int .i64 (unitN (c :: t)))) [.un] := by
  refine Ret.go Tryz.func109 ?_
  simp
  refine cR (R110 c) ?_
  cases h1 : lttI (c.toNat : Int)
  case true => simp [unitN, oneU, h1]
  by_cases h2 : (c.toNat : Int) = 63
  · simp [unitN, oneU, h1, h2]
  by_cases h3 : (c.toNat : Int) = 42
  · simp [unitN, oneU, h1, h2, h3]
  by_cases h4 : (c.toNat : Int) = 91
  case neg => simp [unitN, oneU, h1, h2, h3, h4]
  have hu : unitN (c :: t) = clsN t := by show (if oneU c = true then 1 else _) = _; rw [if_neg (by simp [oneU, h1, h2, h3]), if_pos h4]
  rw [hu]
  clear hu
  simp (disch := omega) [h2, h3, h4]
  refine cR (R134 t [33]) ?_
  rw [hp33]
  obtain ⟨k, hk⟩ : ∃ k, k = clsK t := ⟨_, rfl⟩
  have hkl : k ≤ t.length := by rw [hk, clsK]; cases t <;> simp; split <;> omega
  obtain ⟨N, hN⟩ : ∃ N, N = k + 1 + runN ((c :: t).drop (k + 1)) := ⟨_, rfl⟩
  have hC : clsN t = if inR ((N : Int) - (k + 1 : Nat)) 1 5 = true ∧ (c :: t)[N]? = some 93 then N + 1 else 0 := by
    have e1 : (N : Int) - (k + 1 : Nat) = runN (t.drop k) := by rw [hN, List.drop_succ_cons]; omega
    have e2 : (c :: t)[N]? = (t.drop k)[runN (t.drop k)]? := by
      rw [List.getElem?_drop, hN, List.drop_succ_cons, show k + 1 + runN (t.drop k) = k + runN (t.drop k) + 1 by omega]; rfl
    rw [clsN, ← hk, e1, e2]
    have e3 : N + 1 = runN (t.drop k) + k + 2 := by rw [hN, List.drop_succ_cons]; omega
    rw [e3]
  rw [hC]
  have hNl : N ≤ (c :: t).length := by rw [hN]; have := runN_le ((c :: t).drop (k + 1)); simp at this ⊢; omega
  obtain ⟨l, hl'⟩ : ∃ l, l = c :: t := ⟨_, rfl⟩
  have hll : l.length = t.length + 1 := by rw [hl']; rfl
  have hk2 : clsK t = k := hk.symm
  unfold clsK at hk2
  rw [← hl'] at hN hNl hC ⊢
  obtain ⟨m, hm⟩ : ∃ m, m = k + 1 := ⟨_, rfl⟩
  rw [← hm] at hN hC ⊢
  by_cases h5 : t.head? = some 33 <;> simp [h5] at hk2 <;> subst hk2 <;> simp (disch := omega) [h5]
  all_goals
    refine T.cutL [(0, .sc (.string (bs l))), (3, .sc (.int .i64 N)), (4, .sc (.int .i64 m))] [] (T.forI (fun n => l.length - n) (fun n => n ≤ l.length ∧ n + runN (l.drop n) = N) (fun n => [(0, .sc (.string (bs l))), (3, .sc (.int .i64 n)), (4, .sc (.int .i64 m))]) (fun _ => []) m ⟨⟨by omega, hN.symm⟩, Tl.same rfl (by simp [hm]) (by simp)⟩ ?_) ?_
    · rintro n ⟨h6, h7⟩
      by_cases h8 : n < l.length
      · obtain ⟨y, hy⟩ : ∃ y, l[n]? = some y := ⟨_, List.getElem?_eq_getElem h8⟩
        have hy2 : ∀ h, l[n]'h = y := fun h => Option.some.inj ((List.getElem?_eq_getElem h).symm.trans hy)
        have hd : l.drop n = y :: l.drop (n + 1) := by rw [List.drop_eq_getElem_cons h8, hy2]
        rw [hd] at h7
        have nx : sfB y = true → n + 1 + runN (l.drop (n + 1)) = N := fun h => by rw [← h7, runN_cons, if_pos h]; omega
        have no : sfB y = false → n = N := fun h => by rw [← h7, runN_cons, if_neg (by simp [h])]; rfl
        simp (disch := omega) [hy, hy2]
        refine cR (R64 y) ?_
        cases g1 : smallI (y.toNat : Int)
        · simp (disch := omega) [hy, hy2]
          refine cR (R65 y) ?_
          cases g2 : figI (y.toNat : Int)
          · have := no (by simp [sfB, g1, g2])
            simp (disch := omega) [this]
            exact Tl.same rfl (by simp [this]) (by simp)
          · simp (disch := omega) []
            exact Ri_mk (n + 1) (by omega) ⟨by omega, nx (by simp [sfB, g2])⟩ (Tl.same rfl (by simp (disch := omega) []) (by simp))
        · simp (disch := omega) []
          exact Ri_mk (n + 1) (by omega) ⟨by omega, nx (by simp [sfB, g1])⟩ (Tl.same rfl (by simp (disch := omega) []) (by simp))
      · have : n = N := by rw [← h7, List.drop_of_length_le (by omega)]; simp [runN]
        simp (disch := omega) []
        exact Tl.same rfl (by simp [this]) (by simp)
    · simp (disch := omega) []
      refine cR (R66 (N - m) 1 5) ?_
      cases g1 : inR ((N : Int) - m) 1 5
      · simp
      · by_cases g2 : N < l.length
        · obtain ⟨y, hy⟩ : ∃ y, l[N]? = some y := ⟨_, List.getElem?_eq_getElem g2⟩
          have hy2 : ∀ h, l[N]'h = y := fun h => Option.some.inj ((List.getElem?_eq_getElem h).symm.trans hy)
          have g3 : ¬ (N : Int) = l.length := by omega
          by_cases g4 : (y.toNat : Int) = 93
          · have e : y = 93 := u8_eq.1 g4
            simp (disch := omega) [hy, hy2, g3, g4, e]
          · have e : ¬ y = 93 := fun h => g4 (by rw [h]; rfl)
            simp (disch := omega) [hy, hy2, g3, g4, e]
        · have g3 : (N : Int) = l.length := by omega
          have g4 : l[N]? = none := List.getElem?_eq_none (by omega)
          simp [g3, g4]
def unitsF : Nat → List UInt8 → Option Nat
  | _, [] => some 0
  | 0, _ => none
  | f + 1, c :: t => if unitN (c :: t) = 0 then none else (unitsF f ((c :: t).drop (unitN (c :: t)))).map (· + 1)
def pieceB (l : List UInt8) : Bool := match unitsF l.length l with | some n => inR n 1 12 | none => false
theorem clsN_le (t : List UInt8) : clsN t ≤ t.length + 1 := by
  unfold clsN
  split
  · rename_i h
    have := (List.getElem?_eq_some_iff.1 h.2).1
    rw [List.length_drop] at this
    omega
  · omega
theorem unitN_le (l : List UInt8) : unitN l ≤ l.length := by
  cases l with
  | nil => exact Nat.le_refl _
  | cons c t =>
    have := clsN_le t
    show (if oneU c = true then 1 else if (c.toNat : Int) = 91 then clsN t else 0) ≤ t.length + 1
    split
    · omega
    · split <;> omega
theorem unitsF_fuel : ∀ (f : Nat) (l : List UInt8), l.length ≤ f → ∀ g, l.length ≤ g → unitsF f l = unitsF g l
  | f, [], _, g, _ => by cases f <;> cases g <;> rfl
  | 0, c :: t, h, g, _ => by simp at h
  | f + 1, c :: t, h, 0, h' => by simp at h'
  | f + 1, c :: t, h, g + 1, h' => by
    rw [unitsF, unitsF]
    split
    · rfl
    · rename_i h0
      rw [unitsF_fuel f _ (by rw [List.length_drop]; omega) g (by rw [List.length_drop]; omega)]
theorem R92 (l : List UInt8) (hl : l.length ≤ 140737488351232) : Ret Tryz.prog 92 [.sc (.string (bs l))] (.sc (.bool (pieceB l))) [.un] := by
  refine Ret.go Tryz.func92 ?_
  simp (disch := omega) []
  refine T.forI (fun i : Nat × List UInt8 => i.2.length) (fun i => i.2.length ≤ l.length ∧ i.1 + i.2.length ≤ l.length ∧ (unitsF l.length l = (unitsF i.2.length i.2).map (· + i.1))) (fun i => [(3, .sc (.int .i64 i.1)), (4, .sc (.string (bs i.2)))]) (fun _ => []) (0, l) ⟨by simp, Tl.same rfl (by simp) (by simp)⟩ ?_
  rintro ⟨n, r⟩ ⟨h1, h2, h3⟩
  simp only at h1 h2 h3
  cases r with
  | nil =>
    simp (disch := omega) []
    refine T.on 400 ?_
    simp
    refine cR (R66 n 1 12) ?_
    have e : pieceB l = inR n 1 12 := by rw [pieceB, h3]; simp [unitsF]
    simp [e]
  | cons c t =>
    simp at h1 h2
    simp (disch := omega) []
    refine cR (R109 c t (by omega)) ?_
    have hu := unitN_le (c :: t)
    by_cases h0 : unitN (c :: t) = 0
    · have e : pieceB l = false := by rw [pieceB, h3]; simp [unitsF, h0]
      simp [h0, e]
    · have h0' : ¬ (unitN (c :: t) : Int) = 0 := by omega
      simp at hu
      have ht : List.take (t.length + 1) (c :: t) = c :: t := List.take_of_length_le (by simp)
      simp (disch := omega) [h0, h0', ht]
      refine Ri_mk (n + 1, (c :: t).drop (unitN (c :: t))) (by simp; omega) ⟨by simp; omega, by simp; omega, ?_⟩ (Tl.same rfl (by simp (disch := omega) []) (by simp))
      rw [h3, List.length_cons, unitsF, if_neg h0, unitsF_fuel t.length _ (by rw [List.length_drop]; simp; omega) _ (Nat.le_refl _)]
      cases unitsF ((c :: t).drop (unitN (c :: t))).length ((c :: t).drop (unitN (c :: t))) <;> simp
      omega
set_option maxRecDepth 100000
def inU (u : List UInt8) : List UInt8 := (u.take (u.length - 1)).tail
def takesU (u : List UInt8) (c : UInt8) : Bool := if u = [63] then true else if u.length = 1 then u == [c] else decide (0 ≤ Lib.indexByte (Lib.trimPrefix (inU u) [33]) c) != Lib.hasPrefix (inU u) [33]
def stepM (f : List UInt8 → Bool) (u : List UInt8) : List UInt8 → Bool
  | [] => false
  | c :: s => takesU u c && f s
def nameM : Nat → List UInt8 → List UInt8 → Bool
  | 0, _, s => s == []
  | k + 1, p, s => if p.head? = some 42 then (List.range (s.length + 1)).any fun i => nameM k (p.drop 1) (s.drop i) else stepM (nameM k (p.drop (unitN p))) (p.take (unitN p)) s
theorem R135 (s : List UInt8) (c : UInt8) : Ret Tryz.prog 135 [.sc (.string (bs s)), .sc (.int .u8 c.toNat)] (.sc (.int .i64 (Lib.indexByte s c))) [.un, .un] :=
  Ret.twoOf rfl rfl rfl fun w => by
    have := Any.strings_IndexByte Tryz.lays137 (bs s) c.toNat w
    rw [show ((c.toNat : Int)).toNat.toUInt8 = c by simp] at this
    exact this
theorem R111 (u : List UInt8) (c : UInt8) (h1 : 1 ≤ u.length) (hl : u.length ≤ 140737488351232) : Ret Tryz.prog 111 [.sc (.string (bs u)), .sc (.int .u8 c.toNat)] (.sc (.bool (takesU u c))) [.un, .un] := by
  refine Ret.go Tryz.func111 ?_
  by_cases h2 : u = [63]
  · subst h2
    simp [takesU]
  by_cases h3 : u.length = 1
  · obtain ⟨x, rfl⟩ := List.length_eq_one_iff.1 h3
    have e : takesU [x] c = (x == c) := by
      rw [takesU, if_neg h2, if_pos h3]
      by_cases h : x = c <;> simp [h]
    have e2 : ((x.toNat : Int) == c.toNat) = (x == c) := by
      by_cases h : x = c
      · simp [h]
      · have : ¬ (x.toNat : Int) = c.toNat := fun e => h (u8_eq.1 e)
        rw [beq_eq_false_iff_ne.2 this, beq_eq_false_iff_ne.2 h]
    have h2x : ¬ x = 63 := fun e => h2 (by rw [e])
    simp (disch := omega) [h2x, e, e2]
  have h3' : ¬ (u.length : Int) = 1 := by omega
  have ht : ((u.length : Int) - 1).toNat = u.length - 1 := by omega
  simp (disch := omega) [h2, h3', ht]
  rw [show (u.take (u.length - 1)).tail = inU u from rfl]
  refine cR (R79 (inU u) [33]) ?_
  simp
  refine cR (R135 (Lib.trimPrefix (inU u) [33]) c) ?_
  simp [takesU, h2, h3]
  cases Lib.hasPrefix (inU u) [33] <;> simp
set_option maxHeartbeats 1000000 in
theorem R94 : ∀ (k f : Nat) (p s : List UInt8), unitsF f p = some k → p.length ≤ 1048577 → s.length ≤ 1048577 → Ret Tryz.prog 94 [.sc (.string (bs p)), .sc (.string (bs s))] (.sc (.bool (nameM k p s))) [.un, .un]
  | k, f, [], s, hk, hp, hs => by
    obtain rfl : k = 0 := by cases f <;> (unfold unitsF at hk; cases hk; rfl)
    refine Ret.go Tryz.func94 ?_
    simp [nameM]
  | k, 0, c :: t, s, hk, hp, hs => by cases hk
  | k, f + 1, c :: t, s, hk, hp, hs => by
    unfold unitsF at hk
    split at hk
    · cases hk
    rename_i h0
    obtain ⟨k, hk2, rfl⟩ := Option.map_eq_some_iff.1 hk
    clear hk
    have hR := R109 c t (by simp at hp; omega)
    have hu := unitN_le (c :: t)
    obtain ⟨n, hn⟩ : ∃ n, n = unitN (c :: t) := ⟨_, rfl⟩
    have hnm : nameM (k + 1) (c :: t) s = if c = 42 then (List.range (s.length + 1)).any fun i => nameM k t (s.drop i) else stepM (nameM k ((c :: t).drop n)) ((c :: t).take n) s := by rw [nameM, ← hn]; simp
    have hlt : (t.length : Int) + 1 ≤ 1048577 := by simp at hp; omega
    have IH := fun (s : List UInt8) (h : s.length ≤ 1048577) => R94 k f ((c :: t).drop n) s (by rw [hn]; exact hk2) (by rw [List.length_drop]; omega) h
    rw [hnm]
    rw [← hn] at hR h0 hu
    have hn1 : n ≤ t.length + 1 := hu
    obtain ⟨p, hpe⟩ : ∃ p, p = c :: t := ⟨_, rfl⟩
    have hpl : p.length = t.length + 1 := by rw [hpe]; rfl
    have hpn : ¬ p = [] := by rw [hpe]; simp
    rw [← hpe] at hR IH ⊢
    have hq : p.take p.length = p := List.take_length
    refine Ret.go Tryz.func94 ?_
    simp [hpn]
    refine cR hR ?_
    simp
    refine T.text 400 mixed (by kernel_rfl) (by kernel_rfl) ?_
    by_cases h1 : c = 42
    · have hn2 : n = 1 := by rw [hn, h1]; rfl
      subst hn2
      have e1 : p.take 1 = [42] := by rw [hpe, h1]; rfl
      have e2 : p.drop 1 = t := by rw [hpe]; rfl
      rw [e2] at IH
      rw [if_pos h1]
      simp (disch := omega) [hq, e1, e2]
      refine T.forL (List.range (s.length + 1)) (fun pre _ => pre.any (fun i => nameM k t (s.drop i)) = false) (fun pre _ => [(1, .sc (.string (bs s))), (7, .sc (.string (bs t))), (25, .sc (.int .i64 (s.length + 1 : Nat))), (26, .sc (.int .i64 pre.length))]) (fun _ _ => []) (by simp) ?_ ?_
      · intro hJ
        rw [hJ]
        simp
        refine T.on 400 ?_
        simp
      · intro pre y rest hx hl hJ
        obtain ⟨rfl, hlt⟩ := range_at hx
        simp at hJ
        have hq2 : s.take s.length = s := List.take_length
        simp (disch := omega) [hq2]
        refine cR (IH (s.drop pre.length) (by rw [List.length_drop]; omega)) ?_
        cases hb : nameM k t (s.drop pre.length)
        · simp (disch := omega) [hb]
          exact hJ
        · have : (List.range (s.length + 1)).any (fun i => nameM k t (s.drop i)) = true := by
            rw [← hx]; simp [hb]
          simp [this]
    · rw [if_neg h1]
      have e1 : ¬ p.take n = [42] := by
        rw [hpe]
        cases n with
        | zero => simp
        | succ n => simp [h1]
      cases s with
      | nil => simp (disch := omega) [hq, e1, stepM]
      | cons d s =>
        simp (disch := omega) [hq, e1, stepM]
        refine cR (R111 (p.take n) d (by rw [List.length_take]; omega) (by rw [List.length_take]; omega)) ?_
        have hq2 : (d :: s).take (s.length + 1) = d :: s := List.take_of_length_le (by simp)
        cases hb : takesU (p.take n) d
        · simp (disch := omega) []
        · simp (disch := omega) [hq2]
          refine cR (IH s (by simp at hs; omega)) ?_
          simp
set_option maxRecDepth 100000
def kU (p : ByteArray) : Nat := (unitsF p.data.toList.length p.data.toList).getD 0
def stepG (f : List ByteArray → Bool) (p : ByteArray) : List ByteArray → Bool
  | [] => false
  | n :: l => nameM (kU p) p.data.toList n.data.toList && f l
def globM : List ByteArray → List ByteArray → Bool
  | [], l => l == []
  | p :: ps, l => if p.data.toList = [42, 42] then (List.range (l.length + 1)).any fun i => globM ps (l.drop i) else stepG (globM ps) p l
def piecesB (ps : List ByteArray) : Bool := ps.all fun p => pieceB p.data.toList
def globB (s : ByteArray) : Bool := piecesB (splitS s 47) && decide ((splitS s 47).length ≤ 4)
def matchB (g p : ByteArray) : Bool := globB g && (pathOk p && globM (splitS g 47) (splitS p 47))
def pickB (gs : List ByteArray) (f : File) : Bool := gs.any fun g => matchB g f.path
theorem units_of {p : ByteArray} (h : pieceB p.data.toList = true) : unitsF p.data.toList.length p.data.toList = some (kU p) := by
  unfold pieceB at h
  unfold kU
  split at h
  · rename_i n e; rw [e]; rfl
  · cases h
theorem rowsC_drop (l : List ByteArray) (i : Nat) : (rows Ty.str.cs l).drop i = rows Ty.str.cs (l.drop i) := by
  induction l generalizing i with
  | nil => simp [rows]
  | cons x l ih =>
    cases i with
    | zero => rfl
    | succ i => rw [rows_cons]; exact ih i
theorem rowsO_drop (l : List ByteArray) (i : Nat) : (rows Ty.str.oc l).drop i = rows Ty.str.oc (l.drop i) := rowsC_drop l i
theorem rowsC_take (l : List ByteArray) : (rows Ty.str.cs l).take l.length = rows Ty.str.cs l := List.take_of_length_le (by rw [rows_length Ty.str.csn]; exact Nat.le_of_eq (Nat.mul_one _))
theorem rowsC_cons (x : ByteArray) (l : List ByteArray) : rows Ty.str.cs (x :: l) = .sc (.string x) :: rows Ty.str.cs l := rfl
theorem rowsO_cons (x : ByteArray) (l : List ByteArray) : rows Ty.str.oc (x :: l) = .sc (.string x) :: rows Ty.str.oc l := rfl
theorem drop_pre {α : Type} {pre rest : List α} : (pre ++ rest).drop pre.length = rest := List.drop_left
theorem R67 (s : ByteArray) (hs : s.size ≤ 1048576) : Ret Tryz.prog 67 [.sc (.string s)] (.sc (.bool (globB s))) [.un] := by
  have rs := R70 s 47 hs
  rw [show (((47 : UInt8).toNat : Nat) : Int) = 47 from rfl] at rs
  have hz : ∀ x ∈ splitS s 47, x.size ≤ s.size := splitP_size s 47 _ 0 0
  have hl : (splitS s 47).length ≤ s.size + 1 := splitP_len s 47 s.data.toList 0 0
  have hE : globB s = (piecesB (splitS s 47) && decide ((splitS s 47).length ≤ 4)) := rfl
  rw [hE]
  generalize splitS s 47 = ps at rs hz hl hE ⊢
  have hfr : idfree.idfreeL (rows Ty.str.oc ps) = true := Ty.str.frL _
  refine Ret.go Tryz.func67 ?_
  simp
  refine cO 7 rs ?_ (Ty.str.flo _)
  simp
  refine T.forL ps (fun pre _ => piecesB pre = true) (fun pre _ => [(3, .sl 7 0 ps.length 1 false), (8, .sl 7 0 ps.length 1 false), (9, .sc (.int .i64 ps.length)), (10, .sc (.int .i64 pre.length))]) (fun _ _ => [(7, rows Ty.str.oc ps)]) (by simp [piecesB, mens_idf, hfr]) ?_ ?_
  · intro hJ
    simp [hJ]
    refine T.on 400 ?_
    simp
    omega
  · intro pre x rest hx hl2 hJ
    have hxz := hz x (by rw [← hx]; simp)
    have hd : List.drop pre.length (rows Ty.str.oc ps) = .sc (.string x) :: rows Ty.str.oc rest := by rw [rowsO_drop, ← hx, drop_pre, rowsO_cons]
    simp (disch := omega) [hd]
    refine cR (R92 x.data.toList (by rw [show x.data.toList.length = x.size from rfl]; omega)) ?_
    cases hb : pieceB x.data.toList
    · have : piecesB ps = false := by rw [← hx]; simp [piecesB, hb]
      simp [this]
    · simp (disch := omega) [mens_idf, hfr]
      simpa [piecesB, hb] using hJ
set_option maxHeartbeats 2000000 in
theorem R69 : ∀ (ps l : List ByteArray), piecesB ps = true → ps.length ≤ 1048577 → l.length ≤ 1048577 → (∀ x ∈ ps, x.size ≤ 1048577) → (∀ x ∈ l, x.size ≤ 1048577) → Ret Tryz.prog 69 [.ro (rows Ty.str.cs ps) ps.length, .ro (rows Ty.str.cs l) l.length] (.sc (.bool (globM ps l))) [.un, .un]
  | [], l, hk, hp, hl, zp, zl => by
    have e : ((l.length : Int) == 0) = (l == []) := by cases l <;> simp; omega
    refine Ret.go Tryz.func69 ?_
    simp [globM, e]
  | p :: ps, l, hk, hp, hl, zp, zl => by
    simp [piecesB] at hk hp
    obtain ⟨hk1, hk2⟩ := hk
    have IH := fun (i : Nat) => R69 ps (l.drop i) (by simpa [piecesB] using hk2) (by omega) (by rw [List.length_drop]; omega) (fun x h => zp x (List.mem_cons_of_mem _ h)) (fun x h => zl x (List.mem_of_mem_drop h))
    have hne : ¬ (ps.length : Int) + 1 = 0 := by omega
    have hpt := zp p (List.mem_cons_self ..)
    have c1 := rowsC_take ps
    have e1 : p.toList = p.data.toList := Lib.toList_data p
    have hR := R94 (kU p) p.data.toList.length p.data.toList
    have hg : globM (p :: ps) l = if p.data.toList = [42, 42] then (List.range (l.length + 1)).any fun i => globM ps (l.drop i) else stepG (globM ps) p l := rfl
    rw [hg]
    refine Ret.go Tryz.func69 ?_
    by_cases h1 : p.data.toList = [42, 42]
    · rw [if_pos h1]
      simp (disch := omega) [hne, rowsC_cons, e1, h1]
      refine T.forL (List.range (l.length + 1)) (fun pre _ => pre.any (fun i => globM ps (l.drop i)) = false) (fun pre _ => [(0, .ro (.sc (.string p) :: rows Ty.str.cs ps) (ps.length + 1)), (1, .ro (rows Ty.str.cs l) l.length), (18, .sc (.int .i64 (l.length + 1 : Nat))), (19, .sc (.int .i64 pre.length))]) (fun _ _ => []) (by simp [idfree]) ?_ ?_
      · intro hJ
        rw [hJ]
        simp
        refine T.on 400 ?_
        simp
      · intro pre y rest hx hl hJ
        obtain ⟨rfl, hlt⟩ := range_at hx
        simp at hJ
        simp (disch := omega) []
        refine T.text 400 mixed (by kernel_rfl) (by kernel_rfl) ?_
        have e2 := rowsC_take (l.drop pre.length)
        rw [List.length_drop] at e2
        have IH := IH pre.length
        rw [List.length_drop] at IH
        simp (disch := omega) [c1, rowsC_drop, e2]
        refine callSK.by rfl (by kernel_rfl) (by simp [roc_sc, roc_ro]) IH ?_
        cases hb : globM ps (l.drop pre.length)
        · simp (disch := omega) [hb, idfree]
          exact hJ
        · have : (List.range (l.length + 1)).any (fun i => globM ps (l.drop i)) = true := by
            rw [← hx]; simp [hb]
          simp [this]
    · rw [if_neg h1]
      simp (disch := omega) [hne, rowsC_cons, e1, h1]
      refine T.text 400 mixed (by kernel_rfl) (by kernel_rfl) ?_
      cases l with
      | nil => simp (disch := omega) [stepG]
      | cons n l =>
        have hln : 0 < (l.length : Int) + 1 := by omega
        have IH := IH 1
        simp at IH hl
        have c2 := rowsC_take l
        simp (disch := omega) [rowsC_cons, hln, stepG]
        refine callSK.by rfl (by kernel_rfl) (by simp [roc_sc, roc_ro]) (hR n.data.toList (units_of hk1) hpt (zl n (List.mem_cons_self ..))) ?_
        cases hb : nameM (kU p) p.data.toList n.data.toList
        · simp (disch := omega) [rowsC_cons, hln, stepG, hb]
        · simp (disch := omega) [rowsC_cons, hln, stepG, hb, c1, c2]
          refine callSK.by rfl (by kernel_rfl) (by simp [roc_sc, roc_ro]) IH ?_
          simp
end Go.Proofs.YtchbcmenmlohfaaGreatDoor.Am
namespace Go.Proofs.YtchbcmenmlohfaaGreatDoor.Am
open Go Go.Proofs
set_option linter.unusedSimpArgs false
set_option linter.unusedVariables false
attribute [local congr] T_congr callK_congr callWK_congr
attribute [local simp] run_nil run_op0 run_opg run_seq run_cond run_block run_ret run_skip run_skip_after run_skip_blk run_exit run_exit_after run_exit_blk run_loop run_any runS_nil runS_op0 runS_opg runW_nil runW_op0 runW_opg exec_q exec_w exec_c exec_n execW_q execW_w execW_c restW_app hideH_app merge_app wblk rest_app restS_app execS_q execS_c aval dOk upd_app ev_t ev_c setO_some setO_none put_mk pinsOf isIo hasIo sbin endR fin resL one outL out1 clo1 cloL coe coeL shut shut.shutL wantA weff cellsOf fillA deref natOf ρ0_app h0_app plain plain.plainL keep_app keepH_app andThen_normal andThen_ret andThen_exit pop_nil pop_after pop_after_ret pop_after_exit pop_blk pop_blk_ret pop_blk_exit nilA srcOf srcCells keepR_app keepHR_app renA rb toldρ toldH toldT toldB menQ_sc menQ_sl menQ_ref menQ_em menQ_un menQ_roT mens_cons mens_nil toldF merge_nil hideH_nil str_n rows_nil rowsS_len rowsC_len rowsC_fr rowsS_fr Rd_mk Rl_mk menB exQ_exit exQ_ret wrap_i64 bs_size bs_list bs_toList bs_get bs_extract mk_bs bs_eta List.getElem?_cons_zero List.getElem?_cons_succ List.length_cons oLt oNlt oLe oNle nLt nNlt nLe nNle iniρ andThen_normal over
set_option maxRecDepth 100000
theorem Cur.leq (c d : Cur) : d.cs.length = c.cs.length := rfl
theorem Cur.frl (c : Cur) : idfree.idfreeL c.cs = true := rfl
section
variable {P : Program} {p : List Nat} {fx a l : AX} {ax : List AX} {dst : Option Nat} {st st3 : St} {K : St → Prop} {f : FuncId} {len sz : Nat} {c c' : Cur} {vs cs2 : List AV} {ret y : AV} {v : Value} {E A : List Nat}
theorem cB (d : Nat) {b : Nat} (hR : Ret P f (.bx c.cs :: vs) ret (.bx c'.cs :: vs.map fun _ => .un)) (hK : K (st3.setO dst y)) (ha : a.ev st.ρ = .ref b 0 := by simp <;> rfl) (hb : st.h b = some (some c.cs) := by simp) (has : ax.map (·.ev st.ρ) = vs := by simp)
    (hvs : ∀ v ∈ vs, shut v = true := by simp [shut]) (hi : inst 64 d ret (st.put b (some c'.cs)) = some (y, st3) := by rfl) (hf : fx.ev st.ρ = .clo f [] := by rfl) (hc : callB P f = true := by kernel_rfl) (hd : dOk p dst st3.n = true := by rfl) : callK P p fx (a :: ax) dst st K :=
  callK.bx d hf hc ha hb (Cur.frl c) has hvs hR (Cur.leq c c') hi hd hK
theorem cL (b2 : Nat) {b : Nat} (hR : Ret P f [.bx c.cs, .own cs2 len sz] (.sc v) [.bx c'.cs, .un]) (hK : K ((((st.put b none).put b2 none).put b (some c'.cs)).setO dst (.sc v))) (ha : a.ev st.ρ = .ref b 0 := by simp <;> rfl) (hb : st.h b = some (some c.cs) := by simp) (hl : l.ev st.ρ = .sl b2 0 len sz false := by simp <;> rfl)
    (hb2 : st.h b2 = some (some cs2) := by simp <;> rfl) (hl2 : cs2.length = len * sz := by rfl) (hid2 : idfree.idfreeL cs2 = true := by rfl) (hne : b2 ≠ b := by decide) (hf : fx.ev st.ρ = .clo f [] := by rfl) (hc : callB P f = true := by kernel_rfl) (hd : dOk p dst st.n = true := by rfl) : callK P p fx [a, l] dst st K :=
  callK.bm b b2 hf hc ha hb (Cur.frl c) hl hb2 hl2 hid2 hne hR (Cur.leq c c') hd hK
theorem cBW (d : Nat) {b : Nat} (hR : Ret P f (.bx c.cs :: vs) ret (.bx c'.cs :: vs.map fun _ => .un)) (hK : K ((⟨st.ρ, merge A st.h st3.h, st.n⟩ : St).setO dst y)) (ha : a.ev st.ρ = .ref b 0 := by simp <;> rfl) (hb : hideH A st.h b = some (some c.cs) := by simp) (has : ax.map (·.ev st.ρ) = vs := by simp)
    (hvs : ∀ v ∈ vs, shut v = true := by simp [shut]) (hi : inst 64 d ret ((⟨st.ρ, hideH A st.h, st.n⟩ : St).put b (some c'.cs)) = some (y, st3) := by rfl) (hf : fx.ev st.ρ = .clo f [] := by rfl) (hc : callB P f = true := by kernel_rfl) (hE : (b :: instB 64 d ret).all (fun b => E.elem b) = true := by rfl) : callWK P fx (a :: ax) dst (E, A) st K :=
  callWK.bx d hf hc ha hb (Cur.frl c) has hvs hR (Cur.leq c c') hi hE hK
end
def pk1 (h : Hp) : AV → AV → Prop
  | .sl i off len sz lim, .own cs len' sz' => h i = some (some cs) ∧ off = 0 ∧ lim = false ∧ len' = len ∧ sz' = sz ∧ cs.length = len * sz ∧ idfree.idfreeL cs = true
  | .em, .own cs len _ => cs = [] ∧ len = 0
  | x, y => x = y
def pkL (h : Hp) : List AV → List AV → Prop
  | x :: xs, y :: ys => pk1 h x y ∧ pkL h xs ys
  | [], [] => True
  | _, _ => False
def usL : List AV → List AV → List Nat
  | .sl i .. :: xs, .own .. :: ys => i :: usL xs ys
  | _ :: xs, _ :: ys => usL xs ys
  | _, _ => []
theorem pkL_of {h h' : Hp} : ∀ {xs ys : List AV}, pkL h xs ys → (∀ c ∈ usL xs ys, h' c = h c) → pkL h' xs ys
  | [], [], _, _ => trivial
  | [], _ :: _, hp, _ => hp.elim
  | _ :: _, [], hp, _ => hp.elim
  | x :: xs, y :: ys, ⟨hp1, hp2⟩, hq => by
    by_cases hs : ∃ i off len sz lim cs len' sz', x = .sl i off len sz lim ∧ y = .own cs len' sz'
    · obtain ⟨i, off, len, sz, lim, cs, len', sz', rfl, rfl⟩ := hs
      exact ⟨⟨(hq i (by simp [usL])).trans hp1.1, hp1.2⟩, pkL_of hp2 fun c hc => hq c (by simp [usL, hc])⟩
    · have e : usL (x :: xs) (y :: ys) = usL xs ys := by
        cases x <;> cases y <;> first | rfl | (exfalso; exact hs ⟨_, _, _, _, _, _, _, _, rfl, rfl⟩)
      rw [e] at hq
      refine ⟨?_, pkL_of hp2 hq⟩
      cases x <;> cases y <;> first | exact hp1 | (exfalso; exact hs ⟨_, _, _, _, _, _, _, _, rfl, rfl⟩)
theorem Le.pk (d : Nat) : ∀ (xs ys : List AV) (pre : List AV) (h : Hp), h d = some (some (pre ++ xs)) → pkL h xs ys → (usL xs ys).Nodup → d ∉ usL xs ys →
    ∃ h', (∀ ρ n, Le ⟨ρ, h, n⟩ ⟨ρ, h', n⟩) ∧ h' d = some (some (pre ++ ys)) ∧ ∀ c, c ≠ d → c ∉ usL xs ys → h' c = h c
  | [], [], pre, h, hb, _, _, _ => ⟨h, fun _ _ => Le.refl _, hb, fun _ _ _ => rfl⟩
  | [], _ :: _, _, _, _, hp, _, _ => hp.elim
  | _ :: _, [], _, _, _, hp, _, _ => hp.elim
  | x :: xs, y :: ys, pre, h, hb, ⟨hp1, hp2⟩, hnd, hd => by
    have hj : (pre ++ x :: xs)[pre.length]? = some x := by rw [List.getElem?_append_right (Nat.le_refl _)]; simp
    have hset : ∀ z, (pre ++ x :: xs).set pre.length z = (pre ++ [z]) ++ xs := fun z => by rw [List.set_append_right _ _ (Nat.le_refl _)]; simp
    by_cases hs : ∃ i off len sz lim cs len' sz', x = .sl i off len sz lim ∧ y = .own cs len' sz'
    · obtain ⟨i, off, len, sz, lim, cs, len', sz', rfl, rfl⟩ := hs
      obtain ⟨h1, rfl, rfl, rfl, rfl, h2, h3⟩ := hp1
      simp only [usL, List.nodup_cons, List.mem_cons, not_or] at hnd hd
      have hp := fun (ρ : Nat → AV) (n : Nat) => Le.pack (st := ⟨ρ, h, n⟩) d pre.length hb hj h1 (fun e => hd.1 e.symm) h2 h3
      rw [hset] at hp
      obtain ⟨h', k1, k2, k3⟩ := Le.pk d xs ys (pre ++ [.own cs len' sz']) (upd (upd (upd h i (some none)) d (some none)) d (some (some ((pre ++ [.own cs len' sz']) ++ xs)))) (upd_same _ _ _) (pkL_of hp2 fun c hc => by
        have a1 : c ≠ d := fun e => hd.2 (e ▸ hc)
        have a2 : c ≠ i := fun e => hnd.1 (e ▸ hc)
        rw [upd_ne _ _ a1, upd_ne _ _ a1, upd_ne _ _ a2]) hnd.2 hd.2
      refine ⟨h', fun ρ n => Le.trans (hp ρ n) (k1 ρ n), by rw [k2]; simp, fun c hc hcd => ?_⟩
      simp only [usL, List.mem_cons, not_or] at hcd
      rw [k3 c hc hcd.2, upd_ne _ _ hc, upd_ne _ _ hc, upd_ne _ _ hcd.1]
    have e : usL (x :: xs) (y :: ys) = usL xs ys := by
      cases x <;> cases y <;> first | rfl | (exfalso; exact hs ⟨_, _, _, _, _, _, _, _, rfl, rfl⟩)
    rw [e] at hnd hd ⊢
    by_cases hm : x = .em ∧ ∃ sz, y = .own [] 0 sz
    · obtain ⟨rfl, sz, rfl⟩ := hm
      have hp := fun (ρ : Nat → AV) (n : Nat) => Le.layC (st := ⟨ρ, h, n⟩) d pre.length sz hb hj
      rw [hset] at hp
      obtain ⟨h', k1, k2, k3⟩ := Le.pk d xs ys (pre ++ [.own [] 0 sz]) (upd (upd h d (some none)) d (some (some ((pre ++ [.own [] 0 sz]) ++ xs)))) (upd_same _ _ _) (pkL_of hp2 fun c hc => by
        have a1 : c ≠ d := fun e => hd (e ▸ hc)
        rw [upd_ne _ _ a1, upd_ne _ _ a1]) hnd hd
      refine ⟨h', fun ρ n => Le.trans (hp ρ n) (k1 ρ n), by rw [k2]; simp, fun c hc hcd => ?_⟩
      rw [k3 c hc hcd, upd_ne _ _ hc, upd_ne _ _ hc]
    · have hxy : x = y := by
        cases x <;> cases y <;> first | exact hp1 | (exfalso; exact hs ⟨_, _, _, _, _, _, _, _, rfl, rfl⟩) | (exfalso; exact hm ⟨rfl, _, by obtain ⟨rfl, rfl⟩ := hp1; rfl⟩)
      subst hxy
      obtain ⟨h', k1, k2, k3⟩ := Le.pk d xs ys (pre ++ [x]) h (by rw [hb]; simp) hp2 hnd hd
      exact ⟨h', k1, by rw [k2]; simp, k3⟩
theorem Tl.pk {n m : Nat} {ts : List (Nat × AV)} {bs : List (Nat × List AV)} {ρ : Nat → AV} {h : Hp} (d : Nat) (us : List Nat) (pre xs ys : List AV) (hb : h d = some (some (pre ++ xs))) (hp : pkL h xs ys)
    (hk : ∀ h' : Hp, h' d = some (some (pre ++ ys)) → (∀ c, c ≠ d → us.elem c = false → h' c = h c) → Tl n ts bs ⟨ρ, h', m⟩) (hu : usL xs ys = us := by rfl) (hnd : us.Nodup ∧ d ∉ us := by decide) : Tl n ts bs ⟨ρ, h, m⟩ := by
  subst hu
  obtain ⟨h', k1, k2, k3⟩ := Le.pk d xs ys pre h hb hp hnd.1 hnd.2
  exact Tl.le (k1 ρ m) (hk h' k2 fun c h1 h2 => k3 c h1 fun e => by rw [List.elem_eq_mem] at h2; simp [e] at h2)
theorem rowsS_one (x : ByteArray) : rows Ty.str.oc [x] = [.sc (.string x)] := rfl
theorem Ty.dropO {α : Type} (t : Ty α) (l : List α) (i : Nat) : (rows t.oc l).drop (i * t.n) = rows t.oc (l.drop i) := by
  by_cases h : i ≤ l.length
  · have k := rows_drop t.ocn (l.take i) (l.drop i)
    rwa [List.take_append_drop, List.length_take, Nat.min_eq_left h] at k
  · rw [List.drop_eq_nil_of_le (by rw [rows_length t.ocn]; exact Nat.mul_le_mul_right _ (by omega)), show l.drop i = [] from List.drop_eq_nil_of_le (by omega)]; rfl
theorem Ty.takeO {α : Type} (t : Ty α) (l : List α) (i : Nat) : (rows t.oc l).take (i * t.n) = rows t.oc (l.take i) := by
  by_cases h : i ≤ l.length
  · conv => lhs; rw [← List.take_append_drop i l, rows_append]
    have : (rows t.oc (l.take i)).length = i * t.n := by rw [rows_length t.ocn, List.length_take, Nat.min_eq_left h]
    rw [← this, List.take_left]
  · rw [List.take_of_length_le (by rw [rows_length t.ocn]; exact Nat.mul_le_mul_right _ (by omega)), List.take_of_length_le (l := l) (by omega)]
def nQ (n : Nat) (ts : List (Nat × AV)) (bs : List (Nat × List AV)) : AE → St → Prop := fun e s => e = .normal ∧ Tl n ts bs s
theorem nQ_normal {n : Nat} {ts : List (Nat × AV)} {bs : List (Nat × List AV)} {s : St} : nQ n ts bs .normal s = Tl n ts bs s := by simp [nQ]
theorem T.cutN {P : Program} {p : List Nat} {x y : AC} {st : St} {Q : AE → St → Prop} {k : List KI} (ts : List (Nat × AV)) (bs : List (Nat × List AV))
    (h1 : T P p x st (pop P p [] (nQ st.n ts bs))) (h2 : Am.run P p 2000 y k Q ⟨toldρ ts, toldH bs, st.n⟩) : T P p x st (pop P p (.after y :: k) Q) := by
  refine T.mono h1 fun e s he => ?_
  rw [pop_nil] at he
  obtain ⟨rfl, he⟩ := he
  rw [pop_after]
  exact T.le he (run_at h2)
theorem Ty.plC {α : Type} (t : Ty α) (l : List α) : plain.plainL (rows t.cs l) = true := shutL_plain (rows_all t.sh l)
theorem Ty.frX {α : Type} (t : Ty α) (x : α) : idfree.idfreeL (t.oc x) = true := by
  have := t.frL [x]
  rwa [rows_one] at this
theorem T.forT {ι : Type} {P : Program} {p : List Nat} {x : AC} {st : St} {Q : AE → St → Prop} (μ : ι → Nat) (J : ι → Prop) (ts : ι → List (Nat × AV)) (bs : ι → List (Nat × List AV)) (i : ι) (h0 : J i ∧ Tl st.n (ts i) (bs i) st)
    (hS : ∀ i, J i → T P p x ⟨toldρ (ts i), toldH (bs i), st.n⟩ (andThen (Ri μ J ts bs i st.n) Q)) : T P p (.loop x) st Q := by
  refine T.le h0.2 (T.rounds μ (fun i s => J i ∧ s = ⟨toldρ (ts i), toldH (bs i), st.n⟩) i ⟨h0.1, rfl⟩ ?_)
  rintro i s ⟨hj, rfl⟩
  refine T.mono (hS i hj) fun e s' he => ?_
  cases e with
  | normal =>
    obtain ⟨j, h1, h2, h3⟩ := he
    exact ⟨j, _, h1, h3, h2, rfl⟩
  | exit => exact he
  | ret => exact he
theorem rowsS_snoc (l : List ByteArray) (x : ByteArray) : rows Ty.str.oc (l ++ [x]) = rows Ty.str.oc l ++ [.sc (.string x)] := by rw [rows_append]; rfl
theorem Le.rename {st : St} (ks : List Nat) (r : List (Nat × Nat)) (hr : (r.map (·.1)).Nodup ∧ (r.map (·.2)).Nodup) (h1 : ∀ t, t ∈ ks → menB (r.map (·.1)) (st.ρ t) = true) (h2 : ∀ b, b ∈ r.map (·.1) → ∀ cs, st.h b = some (some cs) → ∀ x ∈ cs, menB (r.map (·.1)) x = true) :
    Le st ⟨keepR ks r st.ρ, fun c => (keepHR r st.h c).map (Option.map (List.map (renA r))), st.n⟩ := by
  rintro E tm w ⟨φ, M, L, I⟩
  obtain ⟨n1, n2⟩ := hr
  let φ' : Nat → Option Loc := fun c => match r.find? (fun p => p.2 == c) with | some p => φ p.1 | none => none
  let L' : Nat → List Nat := fun c => match r.find? (fun p => p.2 == c) with | some p => L p.1 | none => []
  have hφ : ∀ p ∈ r, φ' p.2 = φ p.1 := fun p hp => by simp only [φ', find2 n2 hp]
  have hL : ∀ p ∈ r, L' p.2 = L p.1 := fun p hp => by simp only [L', find2 n2 hp]
  have hrb : ∀ p ∈ r, rb r p.1 = p.2 := fun p hp => by unfold rb; rw [find1 n1 hp]
  have hlive : ∀ c x, (keepHR r st.h c).map (Option.map (List.map (renA r))) = some x → ∃ p ∈ r, p.2 = c ∧ ∃ y, st.h p.1 = some y ∧ x = y.map (List.map (renA r)) := fun c x h => by
    unfold keepHR at h
    split at h
    · rename_i p hp
      cases hy : st.h p.1 with
      | none => rw [hy] at h; cases h
      | some y =>
        rw [hy] at h
        exact ⟨p, List.mem_of_find?_eq_some hp, by simpa using List.find?_some hp, y, hy, (Option.some.inj h).symm⟩
    · cases h
  have hmen : ∀ (x : AV) (v : Value) (F : List Nat), menB (r.map (·.1)) x = true → V φ M w x v F → V φ' M w (renA r x) v F := fun x v F hm h => by
    cases x
    case sl b off len sz lim =>
      obtain ⟨p, hp, rfl⟩ := List.mem_map.1 (show b ∈ r.map (·.1) by simpa [menB] using hm)
      simp only [renA, hrb p hp]
      cases h with
      | imm _ _ h => cases h
      | sl _ _ _ _ _ l c h h1 h2 h3 => exact .sl _ _ _ _ _ l c ((hφ p hp).trans h) h1 h2 h3
      | slz => exact .slz _ _ _ _ _
    case ref b off =>
      obtain ⟨p, hp, rfl⟩ := List.mem_map.1 (show b ∈ r.map (·.1) by simpa [menB] using hm)
      simp only [renA, hrb p hp]
      cases h with
      | imm _ _ h => cases h
      | ref _ _ l h => exact .ref _ _ l ((hφ p hp).trans h)
    all_goals exact h.free hm
  refine ⟨φ', M, L', I.size, fun t => ?_, fun c cs h => ?_, fun c h => ?_, fun c cs h => ?_, fun c c' cs cs' hne h h' => ?_, fun c cs h => ?_,
    fun c cs h => ?_, I.bound, I.m0, I.m1, fun c cs h => ?_, I.os, I.tape, I.output, I.grown, I.frame, I.keep⟩
  · show V φ' M w (keepR ks r st.ρ t) _ []
    unfold keepR
    split
    · rename_i ht
      exact hmen _ _ _ (h1 t (by simpa using ht)) (I.env t)
    · exact V.un _
  · obtain ⟨p, hp, rfl, y, hl, he⟩ := hlive c _ h
    rw [hL p hp]
    cases y with
    | none => cases he
    | some y =>
      cases he
      rcases I.root p.1 y hl with ⟨e1, e2, e3⟩ | ⟨l, C, us, F, e1, e2, e3, ⟨Fs, k1, k2, k3, k4, k5⟩, e6, e7⟩
      · exact .inl ⟨by rw [e1]; rfl, (hφ p hp).trans e2, e3⟩
      · refine .inr ⟨l, C, us, F, (hφ p hp).trans e1, e2, e3, ⟨Fs, by simpa using k1, by simpa using k2, k3, k4, fun j x u F a c d => ?_⟩, e6, e7⟩
        rw [List.getElem?_map] at a
        cases hx : y[j]? with
        | none => rw [hx] at a; cases a
        | some x0 =>
          rw [hx] at a
          cases a
          exact hmen x0 u F (h2 p.1 (List.mem_map.2 ⟨p, hp, rfl⟩) y hl x0 (List.mem_of_getElem? hx)) (k5 j x0 u F hx c d)
  · show φ' c = none
    have h' : (keepHR r st.h c).map (Option.map (List.map (renA r))) = none := h
    unfold keepHR at h'
    simp only [φ']
    split
    · rename_i p hp
      rw [hp] at h'
      exact I.fresh p.1 (by simpa using h')
    · rfl
  all_goals
    obtain ⟨p, hp, rfl, y, hl, he⟩ := hlive c _ h
    cases y with
    | none => cases he
    | some y => ?_
  · rw [hL p hp]; exact I.nodup p.1 y hl
  · obtain ⟨p', hp', rfl, y', hl', he'⟩ := hlive c' _ h'
    cases y' with
    | none => cases he'
    | some y' =>
      rw [hL p hp, hL p' hp']
      exact I.disj p.1 p'.1 y y' (fun e => hne (by rw [← hrb p hp, ← hrb p' hp', e])) hl hl'
  · rw [hL p hp]; exact I.notM p.1 y hl
  · rw [hL p hp]; exact I.low p.1 y hl
  · rw [hL p hp]; exact I.own p.1 y hl
def kpR (r : List (Nat × Nat)) (cs0 cs : List AV) : Prop := cs0.map (renA r) = cs ∧ ∀ x ∈ cs0, menB (r.map (·.1)) x = true
def toldN (r : List (Nat × Nat)) (h : Hp) : List (Nat × List AV) → Prop
  | [] => True
  | (b, cs) :: l => (∃ p cs0, r.find? (fun q => q.2 == b) = some p ∧ h p.1 = some (some cs0) ∧ kpR r cs0 cs) ∧ toldN r h l
theorem renA_idf {r : List (Nat × Nat)} {x : AV} (h : idfree x = true) : renA r x = x ∧ menB (r.map (·.1)) x = true := by cases x <;> first | exact ⟨rfl, h⟩ | (simp [idfree] at h)
theorem kpR_idf {r : List (Nat × Nat)} {cs : List AV} (h : idfree.idfreeL cs = true) : kpR r cs cs = True := eq_true ⟨by
  have key : ∀ l : List AV, (∀ x ∈ l, idfree x = true) → l.map (renA r) = l := by
    intro l
    induction l with
    | nil => intro _; rfl
    | cons x l ih => intro h; rw [List.map_cons, (renA_idf (h x (by simp))).1, ih fun y hy => h y (by simp [hy])]
  exact key cs (idfreeL_mem h), fun x hx => (renA_idf (idfreeL_mem h x hx)).2⟩
theorem kpR_nil {r : List (Nat × Nat)} : kpR r [] [] = True := eq_true ⟨rfl, fun x hx => by cases hx⟩
theorem kpR_cons {r : List (Nat × Nat)} {x y : AV} {cs0 cs : List AV} : kpR r (x :: cs0) (y :: cs) = (renA r x = y ∧ menB (r.map (·.1)) x = true ∧ kpR r cs0 cs) := by
  refine propext ⟨fun ⟨h1, h2⟩ => ?_, fun ⟨h1, h2, h3, h4⟩ => ⟨by rw [List.map_cons, h1, h3], fun z hz => ?_⟩⟩
  · rw [List.map_cons, List.cons.injEq] at h1
    exact ⟨h1.1, h2 x (by simp), h1.2, fun z hz => h2 z (by simp [hz])⟩
  · rcases List.mem_cons.1 hz with rfl | hz
    · exact h2
    · exact h4 z hz
theorem kpR_app {r : List (Nat × Nat)} {a b c : List AV} (h : idfree.idfreeL a = true) : kpR r (a ++ b) (a ++ c) = kpR r b c := by
  have k := (kpR_idf (r := r) h).symm ▸ trivial
  obtain ⟨k1, k2⟩ : kpR r a a := k
  refine propext ⟨fun ⟨h1, h2⟩ => ⟨?_, fun x hx => h2 x (by simp [hx])⟩, fun ⟨h1, h2⟩ => ⟨by rw [List.map_append, k1, h1], fun x hx => (List.mem_append.1 hx).elim (k2 x) (h2 x)⟩⟩
  rw [List.map_append, k1] at h1
  exact List.append_cancel_left h1
theorem toldN_mem {r : List (Nat × Nat)} {h : Hp} : ∀ {bs : List (Nat × List AV)}, toldN r h bs → ∀ b ∈ bs.map (·.1), ∃ p cs0, r.find? (fun q => q.2 == b) = some p ∧ h p.1 = some (some cs0) ∧ ∀ x ∈ cs0, menB (r.map (·.1)) x = true
  | [], _, b, hb => by cases hb
  | (c, cs) :: l, ⟨⟨p, cs0, e1, e2, e3⟩, k⟩, b, hb => by
    rcases List.mem_cons.1 hb with rfl | hb
    · exact ⟨p, cs0, e1, e2, e3.2⟩
    · exact toldN_mem k b hb
attribute [simp] toldN kpR_nil kpR_cons kpR_idf kpR_app
theorem Tl.rn (r : List (Nat × Nat)) {n : Nat} {ts : List (Nat × AV)} {bs : List (Nat × List AV)} {s : St} (hn : s.n = n)
    (h : (r.map (·.1)).Nodup ∧ (r.map (·.2)).Nodup ∧ (∀ b, b ∈ r.map (·.2) → b ∈ bs.map (·.1)) ∧ (∀ t, t ∈ ts.map (·.1) → menB (r.map (·.1)) (s.ρ t) = true) ∧ toldT (keepR (ts.map (·.1)) r s.ρ) (bs.map (·.1)) ts ∧ toldN r s.h bs) : Tl n ts bs s := by
  subst hn
  obtain ⟨n1, n2, hs, h0, h1, h2⟩ := h
  have hrb : ∀ p ∈ r, rb r p.1 = p.2 := fun p hp => by unfold rb; rw [find1 n1 hp]
  refine Le.trans (Le.rename (ts.map (·.1)) r ⟨n1, n2⟩ h0 fun b hb cs hc x hx => ?_) (Le.told ts bs h1 ?_)
  · obtain ⟨p, hp, rfl⟩ := List.mem_map.1 hb
    obtain ⟨q, cs0, e1, e2, e3⟩ := toldN_mem h2 p.2 (hs _ (List.mem_map.2 ⟨p, hp, rfl⟩))
    rw [find2 n2 hp] at e1
    cases e1
    rw [hc] at e2
    cases e2
    exact e3 x hx
  · have key : ∀ l : List (Nat × List AV), toldN r s.h l → toldB (fun c => (keepHR r s.h c).map (Option.map (List.map (renA r)))) (bs.map (·.1)) l := by
      intro l
      induction l with
      | nil => intro _; trivial
      | cons a l ih =>
        obtain ⟨b, cs⟩ := a
        rintro ⟨⟨p, cs0, e1, e2, e3, e4⟩, k⟩
        refine ⟨?_, ?_, ih k⟩
        · simp only [keepHR_app, e1, e2, Option.map_some, e3]
        · subst e3
          refine List.all_eq_true.2 fun y hy => ?_
          obtain ⟨x, hx, rfl⟩ := List.mem_map.1 hy
          have hm := e4 x hx
          cases x
          case sl b off len sz lim =>
            obtain ⟨p, hp, rfl⟩ := List.mem_map.1 (show b ∈ r.map (·.1) by simpa [menB] using hm)
            simp only [renA, hrb p hp, menQ_sl]
            simpa using hs _ (List.mem_map.2 ⟨p, hp, rfl⟩)
          case ref b off =>
            obtain ⟨p, hp, rfl⟩ := List.mem_map.1 (show b ∈ r.map (·.1) by simpa [menB] using hm)
            simp only [renA, hrb p hp, menQ_ref]
            simpa using hs _ (List.mem_map.2 ⟨p, hp, rfl⟩)
          all_goals exact menQ_of hm
    exact key bs h2
theorem takeS (l : List ByteArray) : List.take l.length (rows Ty.str.oc l) = rows Ty.str.oc l := List.take_of_length_le (Nat.le_of_eq (rowsS_len l))
theorem plS (l : List ByteArray) : plain.plainL (rows Ty.str.oc l) = true := Ty.plC Ty.str l
attribute [simp] takeS plS
theorem Le.layS {st : St} (b j i sz : Nat) {cs : List AV} (hb : st.h b = some (some cs)) (hj : cs[j]? = some .em) (hi : st.h i = none) : Le st ⟨st.ρ, upd (upd st.h i (some (some []))) b (some (some (cs.set j (.sl i 0 0 sz false)))), st.n⟩ := by
  have hjl : j < cs.length := (List.getElem?_eq_some_iff.1 hj).1
  have hne : i ≠ b := fun e => by rw [e, hb] at hi; cases hi
  have h1 := Le.layC (st := st) b j sz hb hj
  have h2 := Le.open (st := ⟨st.ρ, upd (upd st.h b (some none)) b (some (some (cs.set j (.own [] 0 sz)))), st.n⟩) b j i (len := 0) (sz := sz) (cs' := []) (upd_same _ _ _) (List.getElem?_set_self hjl) (by simp only []; rw [upd_ne _ _ hne, upd_ne _ _ hne, hi]) rfl
  have h3 := Le.trans h1 h2
  have e : upd (upd (upd (upd (upd st.h b (some none)) b (some (some (cs.set j (.own [] 0 sz))))) b (some none)) i (some (some []))) b (some (some ((cs.set j (.own [] 0 sz)).set j (.sl i 0 0 sz false)))) = upd (upd st.h i (some (some []))) b (some (some (cs.set j (.sl i 0 0 sz false)))) := by
    funext c
    by_cases hcb : c = b
    · subst hcb; rw [upd_same, upd_same, List.set_set]
    · rw [upd_ne _ _ hcb, upd_ne _ _ hcb]
      by_cases hci : c = i
      · subst hci; rw [upd_same, upd_same]
      · rw [upd_ne _ _ hci, upd_ne _ _ hci, upd_ne _ _ hcb, upd_ne _ _ hcb, upd_ne _ _ hcb]
  simp only at h3
  rw [e] at h3
  exact h3
theorem roc_ag {h : Hp} {k : Nat} {cs : List AV} (hs : shut.shutL cs = false) : roc h (k + 1) (.agg cs) = (cs.mapM (roc h k)).map .agg := by
  show (if shut (.agg cs) = true then _ else _) = _
  rw [if_neg (by show ¬ shut.shutL cs = true; rw [hs]; decide)]
theorem rocS7 {h : Hp} {b : Nat} {xs : List ByteArray} {lim : Bool} (hb : h b = some (some (rows Ty.str.oc xs))) : roc h 7 (.sl b 0 xs.length 1 lim) = some (.ro (rows Ty.str.cs xs) xs.length) := Ty.str.roc7 (by decide) hb
def iterN {β : Type} (f : Cur → β → β × Cur) : Nat → Cur → β → β × Cur
  | 0, c, l => (l, c)
  | n + 1, c, l => iterN f n (f c l).2 (f c l).1
theorem iterN_ok {β : Type} {f : Cur → β → β × Cur} (I : β → Prop) (hf : ∀ c l, c.ok → I l → (f c l).2.ok ∧ I (f c l).1) : ∀ (n : Nat) (c : Cur) (l : β), c.ok → I l → (iterN f n c l).2.ok ∧ I (iterN f n c l).1
  | 0, c, l, h1, h2 => ⟨h1, h2⟩
  | n + 1, c, l, h1, h2 => by
    obtain ⟨k1, k2⟩ := hf c l h1 h2
    exact iterN_ok I hf n _ _ k1 k2
def addN {α : Type} (f : Cur → α × Cur) (c : Cur) (l : List α) : List α × Cur := (l ++ [(f c).1], (f c).2)
theorem addN_len {α : Type} (f : Cur → α × Cur) : ∀ (n : Nat) (c : Cur) (l : List α), (iterN (addN f) n c l).1.length = l.length + n
  | 0, c, l => rfl
  | n + 1, c, l => by
    rw [iterN, addN_len f n]
    simp [addN]; omega
theorem pickS_in {l : List ByteArray} {n : Nat} (h : 0 < n) (hl : l.length = n) (hn : n ≤ 256) (c : Cur) : pickS l c n ∈ l := by
  obtain ⟨q1, q2⟩ := belowV_rng c (n := n) (by omega)
  unfold pickS
  rw [List.getElem?_eq_getElem (by omega)]
  exact List.getElem_mem _
def nat4 (c : Cur) (n : Int) : Nat := (belowV c n).toNat
theorem nat4_eq (c : Cur) {n : Int} (h : 0 < n) : belowV c n = nat4 c n ∧ (nat4 c n : Int) < n := by
  obtain ⟨q1, q2⟩ := belowV_rng c h
  unfold nat4
  omega
theorem R18R (c : Cur) (hc : c.ok) (xs : List ByteArray) (hx : 0 < xs.length) : Ret Tryz.prog 18 [.bx c.cs, .ro (rows Ty.str.cs xs) xs.length] (.sc (.string (pickS xs c xs.length))) [.bx (belowC c xs.length).cs, .un] := by
  obtain ⟨r1, r2⟩ := nat4_eq c (n := xs.length) (by omega)
  have r2 : nat4 c xs.length < xs.length := by omega
  have hd : List.drop (nat4 c xs.length) (rows Ty.str.cs xs) = .sc (.string (pickS xs c xs.length)) :: rows Ty.str.cs (xs.drop (nat4 c xs.length + 1)) := by
    rw [rowsC_drop, List.drop_eq_getElem_cons r2, rowsC_cons]
    have : pickS xs c xs.length = xs[nat4 c xs.length] := by
      unfold pickS
      rw [show (belowV c xs.length).toNat = nat4 c xs.length from rfl, List.getElem?_eq_getElem r2]; rfl
    rw [this]
  refine Ret.go Tryz.func18 ?_
  simp (disch := omega) []
  refine cB 0 (R16 c hc xs.length) ?_
  simp (disch := omega) [r1, r2, hd, ex1, Cur.frl, ioPos1]
set_option maxRecDepth 100000
theorem nodup_flat {Fs : List (List Nat)} {i : Nat} {F : List Nat} (hi : Fs[i]? = some F) (h : Fs.flatten.Nodup) : (Fs.set i []).flatten.Nodup ∧ (∀ g ∈ (Fs.set i []).flatten, g ∈ Fs.flatten ∧ g ∉ F) ∧ ∀ g ∈ F, g ∈ Fs.flatten := by
  induction Fs generalizing i with
  | nil => simp at hi
  | cons G Fs ih =>
    rw [List.flatten_cons, List.nodup_append] at h
    obtain ⟨h1, h2, h3⟩ := h
    cases i with
    | zero =>
      simp at hi
      subst hi
      simp only [List.set_cons_zero, List.flatten_cons, List.nil_append]
      exact ⟨h2, fun g hg => ⟨by simp [hg], fun hF => h3 g hF g hg rfl⟩, fun g hg => by simp [hg]⟩
    | succ i =>
      obtain ⟨k1, k2, k3⟩ := ih (by simpa using hi) h2
      simp only [List.set_cons_succ, List.flatten_cons]
      refine ⟨List.nodup_append.2 ⟨h1, k1, fun a ha b hb => h3 a ha b (k2 b hb).1⟩, fun g hg => ?_, fun g hg => by simp [k3 g hg]⟩
      rcases List.mem_append.1 hg with hg | hg
      · exact ⟨by simp [hg], fun hF => h3 g hg g (k3 g hF) rfl⟩
      · exact ⟨by simp [(k2 g hg).1], (k2 g hg).2⟩
theorem Ret.thaw {P : Program} {f : FuncId} {args : List AV} {ret : AV} {outs cs : List AV} {n sz : Nat} (i : Nat) (hR : Ret P f (args.set i (.ro cs n)) ret outs) (hi : args[i]? = some (.own cs n sz) := by rfl) (hs : shut.shutL cs = true := by rfl) : Ret P f args ret outs := by
  intro M w vs Fs ⟨v1, v2, v3⟩ hnd hF hM hT
  have hil : i < args.length := (List.getElem?_eq_some_iff.1 hi).1
  obtain ⟨v, hv⟩ : ∃ v, vs[i]? = some v := ⟨vs[i], List.getElem?_eq_getElem (by omega)⟩
  obtain ⟨F, hFi⟩ : ∃ F, Fs[i]? = some F := ⟨Fs[i], List.getElem?_eq_getElem (by omega)⟩
  obtain ⟨f1, f2, f3⟩ := nodup_flat hFi hnd
  have hvi := v3 i _ v F hi hv hFi
  have key : V nof (fun g => M g ∨ g ∈ F) w (.ro cs n) v [] := by
    refine .imm _ _ ?_
    cases hvi with
    | imm _ _ h => cases h
    | own _ _ _ g o c C us Gs h1 h2 hb hl hsz hr hc ho h =>
      refine .ro cs n _ c us hl (fun _ => ⟨g, o, rfl⟩) h1 (fun j u hj => ⟨g, o, rfl, .inr (by simp), ?_⟩) ho fun j x u a b => ?_
      · rw [hb.cell]; exact hc j u hj
      · have hj : j < Gs.length := by
          have := (List.getElem?_eq_some_iff.1 a).1
          omega
        exact ((h j x u Gs[j] a b (List.getElem?_eq_getElem hj)).toW (shutL_mem hs x (List.mem_of_getElem? a))).mono (fun g h => .inl h) fun _ _ => rfl
    | ownnil _ A => exact .ro [] 0 A 0 [] (Nat.le_refl _) (fun h => by omega) rfl (fun j u hj => by simp at hj) (fun u hu => by simp at hu) fun j x u a => by simp at a
  refine (hR (fun g => M g ∨ g ∈ F) w vs (Fs.set i []) ⟨by simpa using v1, by simpa using v2, fun j x u G a b c => ?_⟩ f1 (fun g hg => ⟨fun h => h.elim (hF g (f2 g hg).1).1 (f2 g hg).2, (hF g (f2 g hg).1).2⟩) (fun g hg => hg.elim (hM g) fun h => (hF g (f3 g h)).2) (fun x hx => ⟨.inl (hT x hx).1, (hT x hx).2⟩)).mono ?_
  · by_cases e : i = j
    · subst e
      rw [List.getElem?_set_self hil] at a
      rw [List.getElem?_set_self (by omega)] at c
      cases a; cases c
      rw [hv] at b; cases b
      exact key
    · rw [List.getElem?_set_ne e] at a c
      exact (v3 j x u G a b c).mono (fun _ _ h => h) (fun g h => .inl h) fun _ _ => rfl
  · rintro e w' ⟨v, M', Fr, Gs, h1, h2, h3, h4, L⟩
    refine ⟨v, M', Fr, Gs, h1, h2, h3, h4, L.nodup, fun g hg => ?_, fun g hg => L.m g (.inl hg), fun g hg => ?_, L.low, L.os, L.tape, L.output, L.grown, fun g h hn => L.frame g h fun hg => hn (f2 g hg).1, L.keep⟩
    · obtain ⟨a, b, c⟩ := L.own g hg
      exact ⟨a, b, c.imp (fun h => (f2 g h).1) id⟩
    · rcases L.m' g hg with (h | h) | h | h
      · exact .inl h
      · exact .inr (.inl (f3 g h))
      · exact .inr (.inl (f2 g h).1)
      · exact .inr (.inr h)
section
variable {P : Program} {p : List Nat} {fx a l : AX} {ax : List AX} {dst : Option Nat} {st st3 : St} {K : St → Prop} {f : FuncId} {len sz : Nat} {c c' : Cur} {vs cs2 : List AV} {ret y : AV}
theorem cM (d b2 : Nat) {b : Nat} (hR : Ret P f (.bx c.cs :: .own cs2 len sz :: vs) ret (.bx c'.cs :: .un :: vs.map fun _ => .un)) (hK : K (st3.setO dst y)) (ha : a.ev st.ρ = .ref b 0 := by simp <;> rfl) (hb : st.h b = some (some c.cs) := by simp) (hl : l.ev st.ρ = .sl b2 0 len sz false := by simp <;> rfl)
    (hb2 : st.h b2 = some (some cs2) := by simp <;> rfl) (hl2 : cs2.length = len * sz := by rfl) (hid2 : idfree.idfreeL cs2 = true := by rfl) (has : ax.map (·.ev st.ρ) = vs := by simp) (hvs : ∀ v ∈ vs, shut v = true := by simp [shut]) (hne : b2 ≠ b := by decide)
    (hi : inst 64 d ret (((st.put b none).put b2 none).put b (some c'.cs)) = some (y, st3) := by rfl) (hf : fx.ev st.ρ = .clo f [] := by rfl) (hc : callB P f = true := by kernel_rfl) (hd : dOk p dst st3.n = true := by rfl) : callK P p fx (a :: l :: ax) dst st K := by
  obtain ⟨h1, h2, h3, h4, h5, h6, h7, _⟩ := ros vs hvs
  have hlen : vs.length = ax.length := by rw [← has]; simp
  refine callK.cut (.io :: .mv sz :: vs.map fun _ => Md.ro) d (fl := (.io, .ref b 0) :: (.mv sz, .sl b2 0 len sz false) :: (vs.map fun _ => Md.ro).zip vs) (r := (some (.bx c.cs), some b) :: (some (.own cs2 len sz), none) :: vs.map fun _ => (none, none)) (st1 := (st.put b none).put b2 none) (yl := .bx c.cs :: .own cs2 len sz :: vs) (ys := .bx c.cs :: .own cs2 len sz :: vs) (ol := .bx c'.cs :: .un :: vs.map fun _ => .un) (st2 := ((st.put b none).put b2 none).put b (some c'.cs)) hf hc (by simp [hlen]) ?_ ?_ ?_ ?_ ?_ hR ?_ ?_ hi hd hK
  · simp only [List.append_nil, List.map_cons, List.zip_cons_cons, has, ha, hl, flatL, flat1, h1]; rfl
  · have e2 : (st.put b none).h b2 = some (some cs2) := by simp only [St.put]; rw [upd_ne _ _ hne]; exact hb2
    simp only [exL, ex1, hb, Cur.frl, if_true, e2, hl2, hid2, and_self, h2, Option.map_some]
  · simp only [closedB, h3]; rfl
  · simp only [shutArgs, h4, Option.map_some]
  · simp only [asm, h5, Option.map_some]
  · simp only [outF, h6, Option.map_some]
  · have ig : isGone (((st.put b none).put b2 none).h b) = true := by simp only [St.put]; rw [upd_ne _ _ hne.symm, upd_same]; rfl
    simp only [backL, Cur.leq c c', ig, and_self, if_true, h7]
end
def someF (xs : List ByteArray) (n : Nat) (c : Cur) : List ByteArray × Cur := iterN (addN fun c => (pickS xs c xs.length, belowC c xs.length)) (nat4 c (n + 1)) (belowC c (n + 1)) []
theorem someF_ok {xs : List ByteArray} {n : Nat} {c : Cur} (h : c.ok) : (someF xs n c).2.ok := (iterN_ok (f := addN fun c => (pickS xs c xs.length, belowC c xs.length)) (fun _ => True) (fun c l h _ => ⟨belowC_ok h _, trivial⟩) _ _ _ (belowC_ok h _) trivial).1
theorem someF_mem {xs : List ByteArray} (hx : 0 < xs.length) (hx2 : xs.length ≤ 256) {n : Nat} {c : Cur} (h : c.ok) : ∀ x ∈ (someF xs n c).1, x ∈ xs :=
  (iterN_ok (f := addN fun c => (pickS xs c xs.length, belowC c xs.length)) (fun l => ∀ x ∈ l, x ∈ xs) (fun c l h i => ⟨belowC_ok h _, fun x hm => by
    rcases List.mem_append.1 hm with hm | hm
    · exact i x hm
    · rw [List.mem_singleton.1 hm]; exact pickS_in hx rfl hx2 c⟩) _ _ _ (belowC_ok h _) (fun x hm => by simp at hm)).2
theorem someF_len {xs : List ByteArray} {n : Nat} {c : Cur} : (someF xs n c).1.length ≤ n := by
  have := (nat4_eq c (n := n + 1) (by omega)).2
  rw [someF, addN_len]
  simp; omega
set_option maxHeartbeats 1000000 in
theorem R98R (c : Cur) (hc : c.ok) (xs : List ByteArray) (hx : 0 < xs.length) (n : Nat) (hn : n ≤ 1000) : Ret Tryz.prog 98 [.bx c.cs, .ro (rows Ty.str.cs xs) xs.length, .sc (.int .i64 n)] (.own (rows Ty.str.oc (someF xs n c).1) (someF xs n c).1.length 1) [.bx (someF xs n c).2.cs, .un, .un] := by
  unfold someF
  obtain ⟨r1, r2⟩ := nat4_eq c (n := n + 1) (by omega)
  have rB := R16 c hc (n + 1)
  have hc1 := belowC_ok hc (n + 1)
  generalize belowC c (n + 1) = c1 at *
  generalize nat4 c (n + 1) = m at *
  generalize hF : (addN fun c : Cur => (pickS xs c xs.length, belowC c xs.length)) = F
  have hFe : ∀ c l, F c l = (l ++ [pickS xs c xs.length], belowC c xs.length) := fun c l => by rw [← hF]; rfl
  have hlen : (iterN F m c1 []).1.length = m := by rw [← hF, addN_len]; simp
  generalize hT : iterN F m c1 [] = tg at *
  refine Ret.go Tryz.func98 ?_
  simp (disch := omega) []
  refine cB 0 rB ?_
  simp (disch := omega) [r1]
  refine T.forI (fun i : Nat × Cur × List ByteArray => i.1) (fun i => i.2.1.ok ∧ i.2.2.length + i.1 = m ∧ iterN F i.1 i.2.1 i.2.2 = tg) (fun i => [(0, .ref 100000 0), (1, .ro (rows Ty.str.cs xs) xs.length), (7, .sl 9 0 i.2.2.length 1 false), (8, .sc (.int .i64 i.1))]) (fun i => [(100000, i.2.1.cs), (9, rows Ty.str.oc i.2.2)]) (m, c1, []) ⟨⟨hc1, by simp, hT⟩, Tl.same rfl (by simp) (by simp [mens_idf (Cur.frl _)])⟩ ?_
  rintro ⟨j, d, out⟩ ⟨hd, hl, hE⟩
  simp only at hd hl hE ⊢
  have hso := rowsS_fr out
  have hrl := rowsS_len out
  cases j with
  | zero =>
    have e1 : tg = (out, d) := hE.symm
    subst e1
    simp only at hlen
    simp (disch := omega) []
    refine T.on 400 ?_
    simp (disch := omega) [ex1, Cur.frl, ioPos1, hrl, hso, hlen]
  | succ j =>
    have hE2 : iterN F j (belowC d xs.length) (out ++ [pickS xs d xs.length]) = tg := by rw [← hE, iterN, hFe]
    have rS := R18R d hd xs hx
    have hd2 := belowC_ok hd xs.length
    generalize belowC d xs.length = d2 at *
    generalize pickS xs d xs.length = y at *
    have hs2 := rowsS_fr (out ++ [y])
    rw [rowsS_snoc] at hs2
    simp (disch := omega) []
    refine cB 0 rS ?_
    simp (disch := omega) [hrl]
    refine Ri_mk (j, d2, out ++ [y]) (by simp) ⟨hd2, by simp; omega, hE2⟩ (Tl.ren [(100000, 100000), (23, 9)] rfl ?_)
    simp [hs2, rowsS_snoc, Cur.frl, idfree, idfree.idfreeL]
set_option maxRecDepth 100000
def kindL : List ByteArray := [(bs [98, 117, 105, 108, 100]), (bs [108, 105, 110, 116]), (bs [116, 101, 115, 116])]
def kindB (i : Nat) : ByteArray := kindL[i]?.getD default
theorem kind_drop {i : Nat} (h : i < 3) : List.drop i [AV.sc (.string (bs [98, 117, 105, 108, 100])), .sc (.string (bs [108, 105, 110, 116])), .sc (.string (bs [116, 101, 115, 116]))] = .sc (.string (kindB i)) :: List.drop (i + 1) [AV.sc (.string (bs [98, 117, 105, 108, 100])), .sc (.string (bs [108, 105, 110, 116])), .sc (.string (bs [116, 101, 115, 116]))] := by
  have : i = 0 ∨ i = 1 ∨ i = 2 := by omega
  rcases this with rfl | rfl | rfl <;> rfl
def ruleOnL (t : ByteArray) : List ByteArray := if t.toList = [98, 117, 105, 108, 100] then [(bs [94, 98, 117, 105, 108, 100]), (bs [94, 98, 117, 105, 108, 100]), (bs [94, 108, 105, 110, 116])] else [(bs [94, 98, 117, 105, 108, 100]), (bs [94, 98, 117, 105, 108, 100]), (bs [98, 117, 105, 108, 100]), (bs [97, 35, 98, 117, 105, 108, 100]), (bs [98, 35, 116, 101, 115, 116])]
def ruleInL : List ByteArray := [(bs [42, 42]), (bs [97, 47, 42, 42]), (bs [98, 47, 42, 42]), (bs [42, 47, 120]), (bs [42, 42, 47, 42, 46, 109, 100])]
def ruleEnvL : List ByteArray := [(bs [109, 111, 100, 101]), (bs [104, 111, 109, 101])]
def ruleF (t : ByteArray) (c : Cur) : Rule × Cur :=
  let a := someF (ruleOnL t) 2 c
  let b := someF ruleInL 2 a.2
  let e := someF ruleEnvL 1 b.2
  (⟨t, a.1, b.1, e.1, !(belowV e.2 4 == 0)⟩, belowC e.2 4)
theorem ruleF_ok {t : ByteArray} {c : Cur} (h : c.ok) : (ruleF t c).2.ok := belowC_ok (someF_ok (someF_ok (someF_ok h))) 4
set_option maxHeartbeats 1000000 in
theorem R73 (c : Cur) (hc : c.ok) (t : ByteArray) : Ret Tryz.prog 73 [.bx c.cs, .sc (.string t)] (.agg (Rule.ty.oc (ruleF t c).1)) [.bx (ruleF t c).2.cs, .un] := by
  have hL : 0 < (ruleOnL t).length := by unfold ruleOnL; split <;> decide
  have r1 := R98R c hc (ruleOnL t) hL 2 (by omega)
  have h1 := someF_ok (xs := ruleOnL t) (n := 2) hc
  simp only [ruleF]
  generalize someF (ruleOnL t) 2 c = a at *
  have r2 := R98R a.2 h1 ruleInL (by decide) 2 (by omega)
  have h2 := someF_ok (xs := ruleInL) (n := 2) h1
  generalize someF ruleInL 2 a.2 = b at *
  have r3 := R98R b.2 h2 ruleEnvL (by decide) 1 (by omega)
  have h3 := someF_ok (xs := ruleEnvL) (n := 1) h2
  generalize someF ruleEnvL 1 b.2 = e at *
  have r4 := R72 e.2 h3 4
  replace r2 : Ret Tryz.prog 98 [.bx a.2.cs, .own (rows Ty.str.oc ruleInL) 5 1, .sc (.int .i64 2)] (.own (rows Ty.str.oc b.1) b.1.length 1) [.bx b.2.cs, .un, .un] := Ret.thaw 1 r2
  replace r3 : Ret Tryz.prog 98 [.bx b.2.cs, .own (rows Ty.str.oc ruleEnvL) 2 1, .sc (.int .i64 1)] (.own (rows Ty.str.oc e.1) e.1.length 1) [.bx e.2.cs, .un, .un] := Ret.thaw 1 r3
  have f1 := Ty.str.frL a.1
  have f2 := Ty.str.frL b.1
  have f3 := Ty.str.frL e.1
  have l1 := rowsS_len a.1
  have l2 := rowsS_len b.1
  have l3 := rowsS_len e.1
  by_cases ht : t.toList = [98, 117, 105, 108, 100]
  · rw [ruleOnL, if_pos ht] at r1
    replace r1 : Ret Tryz.prog 98 [.bx c.cs, .own (rows Ty.str.oc [(bs [94, 98, 117, 105, 108, 100]), (bs [94, 98, 117, 105, 108, 100]), (bs [94, 108, 105, 110, 116])]) 3 1, .sc (.int .i64 2)] (.own (rows Ty.str.oc a.1) a.1.length 1) [.bx a.2.cs, .un, .un] := Ret.thaw 1 r1
    have ht2 : t.data.toList = [98, 117, 105, 108, 100] := by rw [← ht, Lib.toList_data]
    refine Ret.go Tryz.func73 ?_
    simp (disch := omega) [ht, ht2]
    refine cM 13 9 r1 ?_
    simp (disch := omega) []
    refine cM 16 15 r2 ?_
    simp (disch := omega) []
    refine cM 19 18 r3 ?_
    simp (disch := omega) []
    refine cB 0 r4 ?_
    simp (disch := omega) [ex1, Cur.frl, ioPos1, Rule.oce, f1, f2, f3, l1, l2, l3]
  · rw [ruleOnL, if_neg ht] at r1
    replace r1 : Ret Tryz.prog 98 [.bx c.cs, .own (rows Ty.str.oc [(bs [94, 98, 117, 105, 108, 100]), (bs [94, 98, 117, 105, 108, 100]), (bs [98, 117, 105, 108, 100]), (bs [97, 35, 98, 117, 105, 108, 100]), (bs [98, 35, 116, 101, 115, 116])]) 5 1, .sc (.int .i64 2)] (.own (rows Ty.str.oc a.1) a.1.length 1) [.bx a.2.cs, .un, .un] := Ret.thaw 1 r1
    refine Ret.go Tryz.func73 ?_
    simp (disch := omega) [ht]
    refine cM 13 6 r1 ?_
    simp (disch := omega) []
    refine cM 16 15 r2 ?_
    simp (disch := omega) []
    refine cM 19 18 r3 ?_
    simp (disch := omega) []
    refine cB 0 r4 ?_
    simp (disch := omega) [ex1, Cur.frl, ioPos1, Rule.oce, f1, f2, f3, l1, l2, l3]
def ruleS (i : Nat) (c : Cur) (l : List Rule) : List Rule × Cur :=
  if belowV c 4 = 0 then (l, belowC c 4) else (l ++ [(ruleF (kindB i) (belowC c 4)).1], (ruleF (kindB i) (belowC c 4)).2)
def rulesN : Nat → Nat → Cur → List Rule → List Rule × Cur
  | 0, _, c, l => (l, c)
  | n + 1, i, c, l => rulesN n (i + 1) (ruleS i c l).2 (ruleS i c l).1
def rulesF (c : Cur) : List Rule × Cur := rulesN 3 0 c []
theorem ruleS_ok {i : Nat} {c : Cur} {l : List Rule} (h : c.ok) : (ruleS i c l).2.ok := by
  unfold ruleS
  split
  · exact belowC_ok h 4
  · exact ruleF_ok (belowC_ok h 4)
theorem rulesN_ok : ∀ {n i : Nat} {c : Cur} {l : List Rule}, c.ok → (rulesN n i c l).2.ok
  | 0, _, _, _, h => h
  | n + 1, _, _, _, h => rulesN_ok (n := n) (ruleS_ok h)
theorem rulesF_ok {c : Cur} (h : c.ok) : (rulesF c).2.ok := by
  unfold rulesF
  exact rulesN_ok h
set_option maxHeartbeats 2000000 in
theorem R42 (c : Cur) (hc : c.ok) : Ret Tryz.prog 42 [.bx c.cs] (.own (rows Rule.ty.oc (rulesF c).1) (rulesF c).1.length 5) [.bx (rulesF c).2.cs] := by
  unfold rulesF
  generalize hT : rulesN 3 0 c [] = tg
  refine Ret.go Tryz.func42 ?_
  simp (disch := omega) []
  refine T.forI (fun i : Nat × Cur × List Rule => 3 - i.1) (fun i => i.2.1.ok ∧ i.1 ≤ 3 ∧ i.2.2.length ≤ i.1 ∧ rulesN (3 - i.1) i.1 i.2.1 i.2.2 = tg) (fun i => [(0, .ref 100000 0), (3, .sl 5 0 i.2.2.length 5 false), (4, .sc (.int .i64 i.1))]) (fun i => [(100000, i.2.1.cs), (5, rows Rule.ty.oc i.2.2)]) (0, c, []) ⟨⟨hc, by simp, by simp, hT⟩, Tl.same rfl (by simp) (by simp [mens_idf (Cur.frl _)])⟩ ?_
  rintro ⟨i, d, out⟩ ⟨hd, hi, hl, hE⟩
  simp only at hd hi hl hE ⊢
  have hso := Rule.frL out
  have hrl := Rule.ocl out
  by_cases h3 : i = 3
  · subst h3
    have e1 : tg = (out, d) := hE.symm
    subst e1
    simp (disch := omega) []
    refine T.on 400 ?_
    simp (disch := omega) [ex1, Cur.frl, ioPos1, hrl, hso]
  · obtain ⟨j, hj⟩ : ∃ j, 3 - i = j + 1 := ⟨2 - i, by omega⟩
    have hj2 : 3 - (i + 1) = j := by omega
    rw [hj] at hE
    have hE2 : rulesN j (i + 1) (ruleS i d out).2 (ruleS i d out).1 = tg := hE
    have rO := R72 d hd 4
    have hd2 := belowC_ok hd 4
    have hdi := kind_drop (show i < 3 by omega)
    unfold ruleS at hE2
    simp (disch := omega) []
    refine cB 0 rO ?_
    by_cases hz : belowV d 4 = 0
    · rw [if_pos hz] at hE2
      have hz2 : (belowV d 4 == 0) = true := by simp [hz]
      simp (disch := omega) [hz2]
      exact Ri_mk (i + 1, belowC d 4, out) (by simp; omega) ⟨hd2, by simp; omega, by simp; omega, by rw [hj2]; exact hE2⟩ (Tl.same rfl (by simp) (by simp [mens_idf (Cur.frl _), mens_idf hso]))
    · rw [if_neg hz] at hE2
      have hz2 : (belowV d 4 == 0) = false := by simp [hz]
      have rR := R73 _ hd2 (kindB i)
      have hd3 := ruleF_ok (t := kindB i) hd2
      generalize (ruleF (kindB i) (belowC d 4)).2 = d3 at *
      generalize (ruleF (kindB i) (belowC d 4)).1 = x at *
      rw [Rule.oce] at rR
      have f1 := Ty.str.frL x.on
      have f2 := Ty.str.frL x.ins
      have f3 := Ty.str.frL x.envs
      have l1 := rowsS_len x.on
      have l2 := rowsS_len x.ins
      have l3 := rowsS_len x.envs
      have hf2 := Rule.frL (out ++ [x])
      rw [rows_append, rows_one, Rule.oce] at hf2
      simp (disch := omega) [hz2, hdi]
      refine cB 0 rR ?_
      simp (disch := omega) [hrl]
      refine Ri_mk (i + 1, d3, out ++ [x]) (by simp; omega) ⟨hd3, by simp; omega, by simp; omega, by rw [hj2]; exact hE2⟩ (Tl.pk 21 [1001, 1002, 1003] (rows Rule.ty.oc out) [.sc (.string x.task), .sl 1001 0 x.on.length 1 false, .sl 1002 0 x.ins.length 1 false, .sl 1003 0 x.envs.length 1 false, .sc (.bool x.keep)] (Rule.ty.oc x) (by simp) (by simp [pkL, pk1, Rule.oce, f1, f2, f3, l1, l2, l3]) fun h' e1 e2 => ?_)
      refine Tl.ren [(100000, 100000), (21, 5)] rfl ?_
      simp [e1, e2, rows_append, rows_one, Rule.oce, hf2, Cur.frl, idfree, idfree.idfreeL]
end Go.Proofs.YtchbcmenmlohfaaGreatDoor.Am
