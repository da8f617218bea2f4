/- The small machine and the contracts of the functions, part 1 (Base, Types, Plumb, Job, Sames, Words, Paths, Files, Cut, Tasks, Run, Ready, Files2, PutFile, Acts); no condition. -/
import Derived.Test.YtopofpihpnjmbaaGreatDoorProg
import Derived.Test.YtopofpihpnjmbaaGreatDoorAmZ
import Derived.Test.YtopofpihpnjmbaaGreatDoorAmP
import Derived.KernelRfl
import Derived.Test.YtopofpihpnjmbaaGreatDoorAmL
import Derived.Test.YtopofpihpnjmbaaGreatDoorAmF
namespace Go.Proofs.YtopofpihpnjmbaaGreatDoor.Am
open Go Go.Proofs
abbrev qO (d : Nat) (o : QOp) : AOp := ⟨some d, none, .q o⟩
abbrev wO (d : Nat) (o : WOp) : AOp := ⟨some d, none, .w o⟩
abbrev nO (o : WOp) : AOp := ⟨none, none, .w o⟩
abbrev cO (d f : Nat) (xs : List AX) : AOp := ⟨some d, none, .c (.c (.clo f [])) xs⟩
abbrev qG (d g : Nat) (b : Bool) (o : QOp) : AOp := ⟨some d, some (g, b), .q o⟩
abbrev cG (d g : Nat) (b : Bool) (f : Nat) (xs : List AX) : AOp := ⟨some d, some (g, b), .c (.c (.clo f [])) xs⟩
abbrev iC (n : Int) : AX := .c (.sc (.int .i64 n))
abbrev Kf (P : Program) (fn : Func) (c : AC) (n : Nat) (rs : List QOp) : Prop := fn.body.bind (comp P) = some c ∧ fn.ntmps = n ∧ fn.results.toList.mapM (resB P) = some rs
set_option linter.unusedSimpArgs false
set_option linter.unusedVariables false
attribute [local congr] yP yt zq
attribute [local simp] yM ZM zM yL zC Zy YL ZB zk Zo YB Zk Yo yB YM YC yC ZC zJ YI yI y1 Z1 Z2 Y1 ZW zW yW ZD Za Ya wblk zD yy YO zP aval dOk za ev_t ev_c zw zy yZ yA isIo hasIo sbin endR fin resL one outL out1 clo1 cloL coe coeL shut shut.shutL wantA weff cellsOf fillA deref natOf ρ0_app Y0 plain plain.plainL Zf Ye Yk Yt Zq yH Zw Zn yk ZN zt Zp nilA srcOf Zr Yp yn renA rb
structure File where
  path : ByteArray
  text : ByteArray
def File.ty : Ty File := Ty.struct (Ty.str.cons (Ty.str.cons Ty.nil)) (fun x => (x.path, x.text, ())) (fun p => ⟨p.1, p.2.1⟩) (fun _ => rfl) 32
theorem File.cse (x : File) : File.ty.cs x = [.sc (.string x.path), .sc (.string x.text)] := rfl
theorem File.oce (x : File) : File.ty.oc x = [.sc (.string x.path), .sc (.string x.text)] := rfl
theorem File.wte (x : File) : File.ty.wt x = x.path.size + (x.text.size + 0) := rfl
theorem File.ocl (xs : List File) : (rows File.ty.oc xs).length = xs.length * 2 := Yb File.ty.ocn xs
theorem File.csl (xs : List File) : (rows File.ty.cs xs).length = xs.length * 2 := Yb File.ty.csn xs
theorem File.frL (xs : List File) : zb.idfreeL (rows File.ty.oc xs) = true := File.ty.frL xs
theorem File.roc8 {h : Hp} {b : Nat} {xs : List File} {lim : Bool} (hb : h b = some (some (rows File.ty.oc xs))) : roc h 8 (.sl b 0 xs.length 2 lim) = some (.ro (rows File.ty.cs xs) xs.length) := File.ty.roc8 (by decide) hb
theorem File.roc7 {h : Hp} {b : Nat} {xs : List File} {lim : Bool} (hb : h b = some (some (rows File.ty.oc xs))) : roc h 7 (.sl b 0 xs.length 2 lim) = some (.ro (rows File.ty.cs xs) xs.length) := File.ty.roc7 (by decide) hb
structure Need where
  name : ByteArray
  range : ByteArray
def Need.ty : Ty Need := Ty.struct (Ty.str.cons (Ty.str.cons Ty.nil)) (fun x => (x.name, x.range, ())) (fun p => ⟨p.1, p.2.1⟩) (fun _ => rfl) 32
theorem Need.cse (x : Need) : Need.ty.cs x = [.sc (.string x.name), .sc (.string x.range)] := rfl
theorem Need.oce (x : Need) : Need.ty.oc x = [.sc (.string x.name), .sc (.string x.range)] := rfl
theorem Need.wte (x : Need) : Need.ty.wt x = x.name.size + (x.range.size + 0) := rfl
theorem Need.ocl (xs : List Need) : (rows Need.ty.oc xs).length = xs.length * 2 := Yb Need.ty.ocn xs
theorem Need.csl (xs : List Need) : (rows Need.ty.cs xs).length = xs.length * 2 := Yb Need.ty.csn xs
theorem Need.frL (xs : List Need) : zb.idfreeL (rows Need.ty.oc xs) = true := Need.ty.frL xs
theorem Need.roc8 {h : Hp} {b : Nat} {xs : List Need} {lim : Bool} (hb : h b = some (some (rows Need.ty.oc xs))) : roc h 8 (.sl b 0 xs.length 2 lim) = some (.ro (rows Need.ty.cs xs) xs.length) := Need.ty.roc8 (by decide) hb
theorem Need.roc7 {h : Hp} {b : Nat} {xs : List Need} {lim : Bool} (hb : h b = some (some (rows Need.ty.oc xs))) : roc h 7 (.sl b 0 xs.length 2 lim) = some (.ro (rows Need.ty.cs xs) xs.length) := Need.ty.roc7 (by decide) hb
structure Cmd where
  task : ByteArray
  acts : List ByteArray
def Cmd.ty : Ty Cmd := Ty.struct (Ty.str.cons (Ty.str.slice.cons Ty.nil)) (fun x => (x.task, x.acts, ())) (fun p => ⟨p.1, p.2.1⟩) (fun _ => rfl) 40
theorem Cmd.cse (x : Cmd) : Cmd.ty.cs x = [.sc (.string x.task), .ro (rows Ty.str.cs x.acts) x.acts.length] := rfl
theorem Cmd.oce (x : Cmd) : Cmd.ty.oc x = [.sc (.string x.task), .own (rows Ty.str.oc x.acts) x.acts.length 1] := rfl
theorem Cmd.wte (x : Cmd) : Cmd.ty.wt x = x.task.size + ((x.acts.length + wtL Ty.str.wt x.acts) + 0) := rfl
theorem Cmd.ocl (xs : List Cmd) : (rows Cmd.ty.oc xs).length = xs.length * 2 := Yb Cmd.ty.ocn xs
theorem Cmd.csl (xs : List Cmd) : (rows Cmd.ty.cs xs).length = xs.length * 2 := Yb Cmd.ty.csn xs
theorem Cmd.frL (xs : List Cmd) : zb.idfreeL (rows Cmd.ty.oc xs) = true := Cmd.ty.frL xs
theorem Cmd.roc8 {h : Hp} {b : Nat} {xs : List Cmd} {lim : Bool} (hb : h b = some (some (rows Cmd.ty.oc xs))) : roc h 8 (.sl b 0 xs.length 2 lim) = some (.ro (rows Cmd.ty.cs xs) xs.length) := Cmd.ty.roc8 (by decide) hb
theorem Cmd.roc7 {h : Hp} {b : Nat} {xs : List Cmd} {lim : Bool} (hb : h b = some (some (rows Cmd.ty.oc xs))) : roc h 7 (.sl b 0 xs.length 2 lim) = some (.ro (rows Cmd.ty.cs xs) xs.length) := Cmd.ty.roc7 (by decide) hb
structure Pack where
  name : ByteArray
  uses : List ByteArray
  needs : List Need
  cmds : List Cmd
def Pack.ty : Ty Pack := Ty.struct (Ty.str.cons (Ty.str.slice.cons (Need.ty.slice.cons (Cmd.ty.slice.cons Ty.nil)))) (fun x => (x.name, x.uses, x.needs, x.cmds, ())) (fun p => ⟨p.1, p.2.1, p.2.2.1, p.2.2.2.1⟩) (fun _ => rfl) 88
theorem Pack.cse (x : Pack) : Pack.ty.cs x = [.sc (.string x.name), .ro (rows Ty.str.cs x.uses) x.uses.length, .ro (rows Need.ty.cs x.needs) x.needs.length, .ro (rows Cmd.ty.cs x.cmds) x.cmds.length] := rfl
theorem Pack.oce (x : Pack) : Pack.ty.oc x = [.sc (.string x.name), .own (rows Ty.str.oc x.uses) x.uses.length 1, .own (rows Need.ty.oc x.needs) x.needs.length 2, .own (rows Cmd.ty.oc x.cmds) x.cmds.length 2] := rfl
theorem Pack.wte (x : Pack) : Pack.ty.wt x = x.name.size + ((x.uses.length + wtL Ty.str.wt x.uses) + ((x.needs.length + wtL Need.ty.wt x.needs) + ((x.cmds.length + wtL Cmd.ty.wt x.cmds) + 0))) := rfl
theorem Pack.ocl (xs : List Pack) : (rows Pack.ty.oc xs).length = xs.length * 4 := Yb Pack.ty.ocn xs
theorem Pack.csl (xs : List Pack) : (rows Pack.ty.cs xs).length = xs.length * 4 := Yb Pack.ty.csn xs
theorem Pack.frL (xs : List Pack) : zb.idfreeL (rows Pack.ty.oc xs) = true := Pack.ty.frL xs
theorem Pack.roc8 {h : Hp} {b : Nat} {xs : List Pack} {lim : Bool} (hb : h b = some (some (rows Pack.ty.oc xs))) : roc h 8 (.sl b 0 xs.length 4 lim) = some (.ro (rows Pack.ty.cs xs) xs.length) := Pack.ty.roc8 (by decide) hb
theorem Pack.roc7 {h : Hp} {b : Nat} {xs : List Pack} {lim : Bool} (hb : h b = some (some (rows Pack.ty.oc xs))) : roc h 7 (.sl b 0 xs.length 4 lim) = some (.ro (rows Pack.ty.cs xs) xs.length) := Pack.ty.roc7 (by decide) hb
structure Env where
  name : ByteArray
  val : ByteArray
def Env.ty : Ty Env := Ty.struct (Ty.str.cons (Ty.str.cons Ty.nil)) (fun x => (x.name, x.val, ())) (fun p => ⟨p.1, p.2.1⟩) (fun _ => rfl) 32
theorem Env.cse (x : Env) : Env.ty.cs x = [.sc (.string x.name), .sc (.string x.val)] := rfl
theorem Env.oce (x : Env) : Env.ty.oc x = [.sc (.string x.name), .sc (.string x.val)] := rfl
theorem Env.wte (x : Env) : Env.ty.wt x = x.name.size + (x.val.size + 0) := rfl
theorem Env.ocl (xs : List Env) : (rows Env.ty.oc xs).length = xs.length * 2 := Yb Env.ty.ocn xs
theorem Env.csl (xs : List Env) : (rows Env.ty.cs xs).length = xs.length * 2 := Yb Env.ty.csn xs
theorem Env.frL (xs : List Env) : zb.idfreeL (rows Env.ty.oc xs) = true := Env.ty.frL xs
theorem Env.roc8 {h : Hp} {b : Nat} {xs : List Env} {lim : Bool} (hb : h b = some (some (rows Env.ty.oc xs))) : roc h 8 (.sl b 0 xs.length 2 lim) = some (.ro (rows Env.ty.cs xs) xs.length) := Env.ty.roc8 (by decide) hb
theorem Env.roc7 {h : Hp} {b : Nat} {xs : List Env} {lim : Bool} (hb : h b = some (some (rows Env.ty.oc xs))) : roc h 7 (.sl b 0 xs.length 2 lim) = some (.ro (rows Env.ty.cs xs) xs.length) := Env.ty.roc7 (by decide) hb
structure Rule where
  task : ByteArray
  on : List ByteArray
  ins : List ByteArray
  envs : List ByteArray
  keep : Bool
def Rule.ty : Ty Rule := Ty.struct (Ty.str.cons (Ty.str.slice.cons (Ty.str.slice.cons (Ty.str.slice.cons (Ty.bool.cons Ty.nil))))) (fun x => (x.task, x.on, x.ins, x.envs, x.keep, ())) (fun p => ⟨p.1, p.2.1, p.2.2.1, p.2.2.2.1, p.2.2.2.2.1⟩) (fun _ => rfl) 96
theorem Rule.cse (x : Rule) : Rule.ty.cs x = [.sc (.string x.task), .ro (rows Ty.str.cs x.on) x.on.length, .ro (rows Ty.str.cs x.ins) x.ins.length, .ro (rows Ty.str.cs x.envs) x.envs.length, .sc (.bool x.keep)] := rfl
theorem Rule.oce (x : Rule) : Rule.ty.oc x = [.sc (.string x.task), .own (rows Ty.str.oc x.on) x.on.length 1, .own (rows Ty.str.oc x.ins) x.ins.length 1, .own (rows Ty.str.oc x.envs) x.envs.length 1, .sc (.bool x.keep)] := rfl
theorem Rule.wte (x : Rule) : Rule.ty.wt x = x.task.size + ((x.on.length + wtL Ty.str.wt x.on) + ((x.ins.length + wtL Ty.str.wt x.ins) + ((x.envs.length + wtL Ty.str.wt x.envs) + (0 + 0)))) := rfl
theorem Rule.ocl (xs : List Rule) : (rows Rule.ty.oc xs).length = xs.length * 5 := Yb Rule.ty.ocn xs
theorem Rule.csl (xs : List Rule) : (rows Rule.ty.cs xs).length = xs.length * 5 := Yb Rule.ty.csn xs
theorem Rule.frL (xs : List Rule) : zb.idfreeL (rows Rule.ty.oc xs) = true := Rule.ty.frL xs
theorem Rule.roc8 {h : Hp} {b : Nat} {xs : List Rule} {lim : Bool} (hb : h b = some (some (rows Rule.ty.oc xs))) : roc h 8 (.sl b 0 xs.length 5 lim) = some (.ro (rows Rule.ty.cs xs) xs.length) := Rule.ty.roc8 (by decide) hb
theorem Rule.roc7 {h : Hp} {b : Nat} {xs : List Rule} {lim : Bool} (hb : h b = some (some (rows Rule.ty.oc xs))) : roc h 7 (.sl b 0 xs.length 5 lim) = some (.ro (rows Rule.ty.cs xs) xs.length) := Rule.ty.roc7 (by decide) hb
structure World where
  packs : List Pack
  rules : List Rule
  files : List File
  envs : List Env
def World.ty : Ty World := Ty.struct (Pack.ty.slice.cons (Rule.ty.slice.cons (File.ty.slice.cons (Env.ty.slice.cons Ty.nil)))) (fun x => (x.packs, x.rules, x.files, x.envs, ())) (fun p => ⟨p.1, p.2.1, p.2.2.1, p.2.2.2.1⟩) (fun _ => rfl) 96
theorem World.cse (x : World) : World.ty.cs x = [.ro (rows Pack.ty.cs x.packs) x.packs.length, .ro (rows Rule.ty.cs x.rules) x.rules.length, .ro (rows File.ty.cs x.files) x.files.length, .ro (rows Env.ty.cs x.envs) x.envs.length] := rfl
theorem World.oce (x : World) : World.ty.oc x = [.own (rows Pack.ty.oc x.packs) x.packs.length 4, .own (rows Rule.ty.oc x.rules) x.rules.length 5, .own (rows File.ty.oc x.files) x.files.length 2, .own (rows Env.ty.oc x.envs) x.envs.length 2] := rfl
theorem World.wte (x : World) : World.ty.wt x = (x.packs.length + wtL Pack.ty.wt x.packs) + ((x.rules.length + wtL Rule.ty.wt x.rules) + ((x.files.length + wtL File.ty.wt x.files) + ((x.envs.length + wtL Env.ty.wt x.envs) + 0))) := rfl
theorem World.ocl (xs : List World) : (rows World.ty.oc xs).length = xs.length * 4 := Yb World.ty.ocn xs
theorem World.csl (xs : List World) : (rows World.ty.cs xs).length = xs.length * 4 := Yb World.ty.csn xs
theorem World.frL (xs : List World) : zb.idfreeL (rows World.ty.oc xs) = true := World.ty.frL xs
theorem World.roc8 {h : Hp} {b : Nat} {xs : List World} {lim : Bool} (hb : h b = some (some (rows World.ty.oc xs))) : roc h 8 (.sl b 0 xs.length 4 lim) = some (.ro (rows World.ty.cs xs) xs.length) := World.ty.roc8 (by decide) hb
theorem World.roc7 {h : Hp} {b : Nat} {xs : List World} {lim : Bool} (hb : h b = some (some (rows World.ty.oc xs))) : roc h 7 (.sl b 0 xs.length 4 lim) = some (.ro (rows World.ty.cs xs) xs.length) := World.ty.roc7 (by decide) hb
structure Plan where
  tasks : List ByteArray
  deps : List (List ByteArray)
def Plan.ty : Ty Plan := Ty.struct (Ty.str.slice.cons (Ty.str.slice.slice.cons Ty.nil)) (fun x => (x.tasks, x.deps, ())) (fun p => ⟨p.1, p.2.1⟩) (fun _ => rfl) 48
theorem Plan.cse (x : Plan) : Plan.ty.cs x = [.ro (rows Ty.str.cs x.tasks) x.tasks.length, .ro (rows Ty.str.slice.cs x.deps) x.deps.length] := rfl
theorem Plan.oce (x : Plan) : Plan.ty.oc x = [.own (rows Ty.str.oc x.tasks) x.tasks.length 1, .own (rows Ty.str.slice.oc x.deps) x.deps.length 1] := rfl
theorem Plan.wte (x : Plan) : Plan.ty.wt x = (x.tasks.length + wtL Ty.str.wt x.tasks) + ((x.deps.length + wtL Ty.str.slice.wt x.deps) + 0) := rfl
theorem Plan.ocl (xs : List Plan) : (rows Plan.ty.oc xs).length = xs.length * 2 := Yb Plan.ty.ocn xs
theorem Plan.csl (xs : List Plan) : (rows Plan.ty.cs xs).length = xs.length * 2 := Yb Plan.ty.csn xs
theorem Plan.frL (xs : List Plan) : zb.idfreeL (rows Plan.ty.oc xs) = true := Plan.ty.frL xs
theorem Plan.roc8 {h : Hp} {b : Nat} {xs : List Plan} {lim : Bool} (hb : h b = some (some (rows Plan.ty.oc xs))) : roc h 8 (.sl b 0 xs.length 2 lim) = some (.ro (rows Plan.ty.cs xs) xs.length) := Plan.ty.roc8 (by decide) hb
theorem Plan.roc7 {h : Hp} {b : Nat} {xs : List Plan} {lim : Bool} (hb : h b = some (some (rows Plan.ty.oc xs))) : roc h 7 (.sl b 0 xs.length 2 lim) = some (.ro (rows Plan.ty.cs xs) xs.length) := Plan.ty.roc7 (by decide) hb
structure Made where
  task : ByteArray
  outs : List File
  log : ByteArray
def Made.ty : Ty Made := Ty.struct (Ty.str.cons (File.ty.slice.cons (Ty.str.cons Ty.nil))) (fun x => (x.task, x.outs, x.log, ())) (fun p => ⟨p.1, p.2.1, p.2.2.1⟩) (fun _ => rfl) 56
theorem Made.cse (x : Made) : Made.ty.cs x = [.sc (.string x.task), .ro (rows File.ty.cs x.outs) x.outs.length, .sc (.string x.log)] := rfl
theorem Made.oce (x : Made) : Made.ty.oc x = [.sc (.string x.task), .own (rows File.ty.oc x.outs) x.outs.length 2, .sc (.string x.log)] := rfl
theorem Made.wte (x : Made) : Made.ty.wt x = x.task.size + ((x.outs.length + wtL File.ty.wt x.outs) + (x.log.size + 0)) := rfl
theorem Made.ocl (xs : List Made) : (rows Made.ty.oc xs).length = xs.length * 3 := Yb Made.ty.ocn xs
theorem Made.csl (xs : List Made) : (rows Made.ty.cs xs).length = xs.length * 3 := Yb Made.ty.csn xs
theorem Made.frL (xs : List Made) : zb.idfreeL (rows Made.ty.oc xs) = true := Made.ty.frL xs
theorem Made.roc8 {h : Hp} {b : Nat} {xs : List Made} {lim : Bool} (hb : h b = some (some (rows Made.ty.oc xs))) : roc h 8 (.sl b 0 xs.length 3 lim) = some (.ro (rows Made.ty.cs xs) xs.length) := Made.ty.roc8 (by decide) hb
theorem Made.roc7 {h : Hp} {b : Nat} {xs : List Made} {lim : Bool} (hb : h b = some (some (rows Made.ty.oc xs))) : roc h 7 (.sl b 0 xs.length 3 lim) = some (.ro (rows Made.ty.cs xs) xs.length) := Made.ty.roc7 (by decide) hb
structure Mark where
  task : ByteArray
  how : Int
def Mark.ty : Ty Mark := Ty.struct (Ty.str.cons (Ty.int.cons Ty.nil)) (fun x => (x.task, x.how, ())) (fun p => ⟨p.1, p.2.1⟩) (fun _ => rfl) 24
theorem Mark.cse (x : Mark) : Mark.ty.cs x = [.sc (.string x.task), .sc (.int .i64 x.how)] := rfl
theorem Mark.oce (x : Mark) : Mark.ty.oc x = [.sc (.string x.task), .sc (.int .i64 x.how)] := rfl
theorem Mark.wte (x : Mark) : Mark.ty.wt x = x.task.size + (0 + 0) := rfl
theorem Mark.ocl (xs : List Mark) : (rows Mark.ty.oc xs).length = xs.length * 2 := Yb Mark.ty.ocn xs
theorem Mark.csl (xs : List Mark) : (rows Mark.ty.cs xs).length = xs.length * 2 := Yb Mark.ty.csn xs
theorem Mark.frL (xs : List Mark) : zb.idfreeL (rows Mark.ty.oc xs) = true := Mark.ty.frL xs
theorem Mark.roc8 {h : Hp} {b : Nat} {xs : List Mark} {lim : Bool} (hb : h b = some (some (rows Mark.ty.oc xs))) : roc h 8 (.sl b 0 xs.length 2 lim) = some (.ro (rows Mark.ty.cs xs) xs.length) := Mark.ty.roc8 (by decide) hb
theorem Mark.roc7 {h : Hp} {b : Nat} {xs : List Mark} {lim : Bool} (hb : h b = some (some (rows Mark.ty.oc xs))) : roc h 7 (.sl b 0 xs.length 2 lim) = some (.ro (rows Mark.ty.cs xs) xs.length) := Mark.ty.roc7 (by decide) hb
structure Slot where
  key : List Int
  b : List Int
def Slot.ty : Ty Slot := Ty.struct (Ty.byte.slice.cons (Ty.byte.slice.cons Ty.nil)) (fun x => (x.key, x.b, ())) (fun p => ⟨p.1, p.2.1⟩) (fun _ => rfl) 48
theorem Slot.cse (x : Slot) : Slot.ty.cs x = [.ro (rows Ty.byte.cs x.key) x.key.length, .ro (rows Ty.byte.cs x.b) x.b.length] := rfl
theorem Slot.oce (x : Slot) : Slot.ty.oc x = [.own (rows Ty.byte.oc x.key) x.key.length 1, .own (rows Ty.byte.oc x.b) x.b.length 1] := rfl
theorem Slot.wte (x : Slot) : Slot.ty.wt x = (x.key.length + wtL Ty.byte.wt x.key) + ((x.b.length + wtL Ty.byte.wt x.b) + 0) := rfl
theorem Slot.ocl (xs : List Slot) : (rows Slot.ty.oc xs).length = xs.length * 2 := Yb Slot.ty.ocn xs
theorem Slot.csl (xs : List Slot) : (rows Slot.ty.cs xs).length = xs.length * 2 := Yb Slot.ty.csn xs
theorem Slot.frL (xs : List Slot) : zb.idfreeL (rows Slot.ty.oc xs) = true := Slot.ty.frL xs
theorem Slot.roc8 {h : Hp} {b : Nat} {xs : List Slot} {lim : Bool} (hb : h b = some (some (rows Slot.ty.oc xs))) : roc h 8 (.sl b 0 xs.length 2 lim) = some (.ro (rows Slot.ty.cs xs) xs.length) := Slot.ty.roc8 (by decide) hb
theorem Slot.roc7 {h : Hp} {b : Nat} {xs : List Slot} {lim : Bool} (hb : h b = some (some (rows Slot.ty.oc xs))) : roc h 7 (.sl b 0 xs.length 2 lim) = some (.ro (rows Slot.ty.cs xs) xs.length) := Slot.ty.roc7 (by decide) hb
structure Run where
  w : World
  p : Plan
  slots : Int
  goOn : Bool
  made : List Made
  marks : List Mark
  going : List ByteArray
  cache : List Slot
def Run.ty : Ty Run := Ty.struct (World.ty.cons (Plan.ty.cons (Ty.int.cons (Ty.bool.cons (Made.ty.slice.cons (Mark.ty.slice.cons (Ty.str.slice.cons (Slot.ty.slice.cons Ty.nil)))))))) (fun x => (x.w, x.p, x.slots, x.goOn, x.made, x.marks, x.going, x.cache, ())) (fun p => ⟨p.1, p.2.1, p.2.2.1, p.2.2.2.1, p.2.2.2.2.1, p.2.2.2.2.2.1, p.2.2.2.2.2.2.1, p.2.2.2.2.2.2.2.1⟩) (fun _ => rfl) 256
theorem Run.cse (x : Run) : Run.ty.cs x = [.ro (rows Pack.ty.cs x.w.packs) x.w.packs.length, .ro (rows Rule.ty.cs x.w.rules) x.w.rules.length, .ro (rows File.ty.cs x.w.files) x.w.files.length, .ro (rows Env.ty.cs x.w.envs) x.w.envs.length, .ro (rows Ty.str.cs x.p.tasks) x.p.tasks.length, .ro (rows Ty.str.slice.cs x.p.deps) x.p.deps.length, .sc (.int .i64 x.slots), .sc (.bool x.goOn), .ro (rows Made.ty.cs x.made) x.made.length, .ro (rows Mark.ty.cs x.marks) x.marks.length, .ro (rows Ty.str.cs x.going) x.going.length, .ro (rows Slot.ty.cs x.cache) x.cache.length] := rfl
theorem Run.oce (x : Run) : Run.ty.oc x = [.own (rows Pack.ty.oc x.w.packs) x.w.packs.length 4, .own (rows Rule.ty.oc x.w.rules) x.w.rules.length 5, .own (rows File.ty.oc x.w.files) x.w.files.length 2, .own (rows Env.ty.oc x.w.envs) x.w.envs.length 2, .own (rows Ty.str.oc x.p.tasks) x.p.tasks.length 1, .own (rows Ty.str.slice.oc x.p.deps) x.p.deps.length 1, .sc (.int .i64 x.slots), .sc (.bool x.goOn), .own (rows Made.ty.oc x.made) x.made.length 3, .own (rows Mark.ty.oc x.marks) x.marks.length 2, .own (rows Ty.str.oc x.going) x.going.length 1, .own (rows Slot.ty.oc x.cache) x.cache.length 2] := rfl
theorem Run.wte (x : Run) : Run.ty.wt x = World.ty.wt x.w + (Plan.ty.wt x.p + (0 + (0 + ((x.made.length + wtL Made.ty.wt x.made) + ((x.marks.length + wtL Mark.ty.wt x.marks) + ((x.going.length + wtL Ty.str.wt x.going) + ((x.cache.length + wtL Slot.ty.wt x.cache) + 0))))))) := rfl
theorem Run.ocl (xs : List Run) : (rows Run.ty.oc xs).length = xs.length * 12 := Yb Run.ty.ocn xs
theorem Run.csl (xs : List Run) : (rows Run.ty.cs xs).length = xs.length * 12 := Yb Run.ty.csn xs
theorem Run.frL (xs : List Run) : zb.idfreeL (rows Run.ty.oc xs) = true := Run.ty.frL xs
theorem Run.roc8 {h : Hp} {b : Nat} {xs : List Run} {lim : Bool} (hb : h b = some (some (rows Run.ty.oc xs))) : roc h 8 (.sl b 0 xs.length 12 lim) = some (.ro (rows Run.ty.cs xs) xs.length) := Run.ty.roc8 (by decide) hb
theorem Run.roc7 {h : Hp} {b : Nat} {xs : List Run} {lim : Bool} (hb : h b = some (some (rows Run.ty.oc xs))) : roc h 7 (.sl b 0 xs.length 12 lim) = some (.ro (rows Run.ty.cs xs) xs.length) := Run.ty.roc7 (by decide) hb
structure Job where
  name : ByteArray
  acts : List ByteArray
  ins : List File
  envs : List Env
  deps : List Made
def Job.ty : Ty Job := Ty.struct (Ty.str.cons (Ty.str.slice.cons (File.ty.slice.cons (Env.ty.slice.cons (Made.ty.slice.cons Ty.nil))))) (fun x => (x.name, x.acts, x.ins, x.envs, x.deps, ())) (fun p => ⟨p.1, p.2.1, p.2.2.1, p.2.2.2.1, p.2.2.2.2.1⟩) (fun _ => rfl) 112
theorem Job.cse (x : Job) : Job.ty.cs x = [.sc (.string x.name), .ro (rows Ty.str.cs x.acts) x.acts.length, .ro (rows File.ty.cs x.ins) x.ins.length, .ro (rows Env.ty.cs x.envs) x.envs.length, .ro (rows Made.ty.cs x.deps) x.deps.length] := rfl
theorem Job.oce (x : Job) : Job.ty.oc x = [.sc (.string x.name), .own (rows Ty.str.oc x.acts) x.acts.length 1, .own (rows File.ty.oc x.ins) x.ins.length 2, .own (rows Env.ty.oc x.envs) x.envs.length 2, .own (rows Made.ty.oc x.deps) x.deps.length 3] := rfl
theorem Job.wte (x : Job) : Job.ty.wt x = x.name.size + ((x.acts.length + wtL Ty.str.wt x.acts) + ((x.ins.length + wtL File.ty.wt x.ins) + ((x.envs.length + wtL Env.ty.wt x.envs) + ((x.deps.length + wtL Made.ty.wt x.deps) + 0)))) := rfl
theorem Job.ocl (xs : List Job) : (rows Job.ty.oc xs).length = xs.length * 5 := Yb Job.ty.ocn xs
theorem Job.csl (xs : List Job) : (rows Job.ty.cs xs).length = xs.length * 5 := Yb Job.ty.csn xs
theorem Job.frL (xs : List Job) : zb.idfreeL (rows Job.ty.oc xs) = true := Job.ty.frL xs
theorem Job.roc8 {h : Hp} {b : Nat} {xs : List Job} {lim : Bool} (hb : h b = some (some (rows Job.ty.oc xs))) : roc h 8 (.sl b 0 xs.length 5 lim) = some (.ro (rows Job.ty.cs xs) xs.length) := Job.ty.roc8 (by decide) hb
theorem Job.roc7 {h : Hp} {b : Nat} {xs : List Job} {lim : Bool} (hb : h b = some (some (rows Job.ty.oc xs))) : roc h 7 (.sl b 0 xs.length 5 lim) = some (.ro (rows Job.ty.cs xs) xs.length) := Job.ty.roc7 (by decide) hb
structure Doc where
  name : ByteArray
  text : ByteArray
def Doc.ty : Ty Doc := Ty.struct (Ty.str.cons (Ty.str.cons Ty.nil)) (fun x => (x.name, x.text, ())) (fun p => ⟨p.1, p.2.1⟩) (fun _ => rfl) 32
theorem Doc.cse (x : Doc) : Doc.ty.cs x = [.sc (.string x.name), .sc (.string x.text)] := rfl
theorem Doc.oce (x : Doc) : Doc.ty.oc x = [.sc (.string x.name), .sc (.string x.text)] := rfl
theorem Doc.wte (x : Doc) : Doc.ty.wt x = x.name.size + (x.text.size + 0) := rfl
theorem Doc.ocl (xs : List Doc) : (rows Doc.ty.oc xs).length = xs.length * 2 := Yb Doc.ty.ocn xs
theorem Doc.csl (xs : List Doc) : (rows Doc.ty.cs xs).length = xs.length * 2 := Yb Doc.ty.csn xs
theorem Doc.frL (xs : List Doc) : zb.idfreeL (rows Doc.ty.oc xs) = true := Doc.ty.frL xs
theorem Doc.roc8 {h : Hp} {b : Nat} {xs : List Doc} {lim : Bool} (hb : h b = some (some (rows Doc.ty.oc xs))) : roc h 8 (.sl b 0 xs.length 2 lim) = some (.ro (rows Doc.ty.cs xs) xs.length) := Doc.ty.roc8 (by decide) hb
theorem Doc.roc7 {h : Hp} {b : Nat} {xs : List Doc} {lim : Bool} (hb : h b = some (some (rows Doc.ty.oc xs))) : roc h 7 (.sl b 0 xs.length 2 lim) = some (.ro (rows Doc.ty.cs xs) xs.length) := Doc.ty.roc7 (by decide) hb
structure Op where
  kind : Int
  a : ByteArray
  b : ByteArray
def Op.ty : Ty Op := Ty.struct (Ty.int.cons (Ty.str.cons (Ty.str.cons Ty.nil))) (fun x => (x.kind, x.a, x.b, ())) (fun p => ⟨p.1, p.2.1, p.2.2.1⟩) (fun _ => rfl) 40
theorem Op.cse (x : Op) : Op.ty.cs x = [.sc (.int .i64 x.kind), .sc (.string x.a), .sc (.string x.b)] := rfl
theorem Op.oce (x : Op) : Op.ty.oc x = [.sc (.int .i64 x.kind), .sc (.string x.a), .sc (.string x.b)] := rfl
theorem Op.wte (x : Op) : Op.ty.wt x = 0 + (x.a.size + (x.b.size + 0)) := rfl
theorem Op.ocl (xs : List Op) : (rows Op.ty.oc xs).length = xs.length * 3 := Yb Op.ty.ocn xs
theorem Op.csl (xs : List Op) : (rows Op.ty.cs xs).length = xs.length * 3 := Yb Op.ty.csn xs
theorem Op.frL (xs : List Op) : zb.idfreeL (rows Op.ty.oc xs) = true := Op.ty.frL xs
theorem Op.roc8 {h : Hp} {b : Nat} {xs : List Op} {lim : Bool} (hb : h b = some (some (rows Op.ty.oc xs))) : roc h 8 (.sl b 0 xs.length 3 lim) = some (.ro (rows Op.ty.cs xs) xs.length) := Op.ty.roc8 (by decide) hb
theorem Op.roc7 {h : Hp} {b : Nat} {xs : List Op} {lim : Bool} (hb : h b = some (some (rows Op.ty.oc xs))) : roc h 7 (.sl b 0 xs.length 3 lim) = some (.ro (rows Op.ty.cs xs) xs.length) := Op.ty.roc7 (by decide) hb
structure Disk where
  sure : List Doc
  pend : List Op
def Disk.ty : Ty Disk := Ty.struct (Doc.ty.slice.cons (Op.ty.slice.cons Ty.nil)) (fun x => (x.sure, x.pend, ())) (fun p => ⟨p.1, p.2.1⟩) (fun _ => rfl) 48
theorem Disk.cse (x : Disk) : Disk.ty.cs x = [.ro (rows Doc.ty.cs x.sure) x.sure.length, .ro (rows Op.ty.cs x.pend) x.pend.length] := rfl
theorem Disk.oce (x : Disk) : Disk.ty.oc x = [.own (rows Doc.ty.oc x.sure) x.sure.length 2, .own (rows Op.ty.oc x.pend) x.pend.length 3] := rfl
theorem Disk.wte (x : Disk) : Disk.ty.wt x = (x.sure.length + wtL Doc.ty.wt x.sure) + ((x.pend.length + wtL Op.ty.wt x.pend) + 0) := rfl
theorem Disk.ocl (xs : List Disk) : (rows Disk.ty.oc xs).length = xs.length * 2 := Yb Disk.ty.ocn xs
theorem Disk.csl (xs : List Disk) : (rows Disk.ty.cs xs).length = xs.length * 2 := Yb Disk.ty.csn xs
theorem Disk.frL (xs : List Disk) : zb.idfreeL (rows Disk.ty.oc xs) = true := Disk.ty.frL xs
theorem Disk.roc8 {h : Hp} {b : Nat} {xs : List Disk} {lim : Bool} (hb : h b = some (some (rows Disk.ty.oc xs))) : roc h 8 (.sl b 0 xs.length 2 lim) = some (.ro (rows Disk.ty.cs xs) xs.length) := Disk.ty.roc8 (by decide) hb
theorem Disk.roc7 {h : Hp} {b : Nat} {xs : List Disk} {lim : Bool} (hb : h b = some (some (rows Disk.ty.oc xs))) : roc h 7 (.sl b 0 xs.length 2 lim) = some (.ro (rows Disk.ty.cs xs) xs.length) := Disk.ty.roc7 (by decide) hb
structure Ver where
  a : Int
  b : Int
  c : Int
  pre : List ByteArray
def Ver.ty : Ty Ver := Ty.struct (Ty.int.cons (Ty.int.cons (Ty.int.cons (Ty.str.slice.cons Ty.nil)))) (fun x => (x.a, x.b, x.c, x.pre, ())) (fun p => ⟨p.1, p.2.1, p.2.2.1, p.2.2.2.1⟩) (fun _ => rfl) 48
theorem Ver.cse (x : Ver) : Ver.ty.cs x = [.sc (.int .i64 x.a), .sc (.int .i64 x.b), .sc (.int .i64 x.c), .ro (rows Ty.str.cs x.pre) x.pre.length] := rfl
theorem Ver.oce (x : Ver) : Ver.ty.oc x = [.sc (.int .i64 x.a), .sc (.int .i64 x.b), .sc (.int .i64 x.c), .own (rows Ty.str.oc x.pre) x.pre.length 1] := rfl
theorem Ver.wte (x : Ver) : Ver.ty.wt x = 0 + (0 + (0 + ((x.pre.length + wtL Ty.str.wt x.pre) + 0))) := rfl
theorem Ver.ocl (xs : List Ver) : (rows Ver.ty.oc xs).length = xs.length * 4 := Yb Ver.ty.ocn xs
theorem Ver.csl (xs : List Ver) : (rows Ver.ty.cs xs).length = xs.length * 4 := Yb Ver.ty.csn xs
theorem Ver.frL (xs : List Ver) : zb.idfreeL (rows Ver.ty.oc xs) = true := Ver.ty.frL xs
theorem Ver.roc8 {h : Hp} {b : Nat} {xs : List Ver} {lim : Bool} (hb : h b = some (some (rows Ver.ty.oc xs))) : roc h 8 (.sl b 0 xs.length 4 lim) = some (.ro (rows Ver.ty.cs xs) xs.length) := Ver.ty.roc8 (by decide) hb
theorem Ver.roc7 {h : Hp} {b : Nat} {xs : List Ver} {lim : Bool} (hb : h b = some (some (rows Ver.ty.oc xs))) : roc h 7 (.sl b 0 xs.length 4 lim) = some (.ro (rows Ver.ty.cs xs) xs.length) := Ver.ty.roc7 (by decide) hb
structure Cmp where
  op : Int
  v : Ver
def Cmp.ty : Ty Cmp := Ty.struct (Ty.int.cons (Ver.ty.cons Ty.nil)) (fun x => (x.op, x.v, ())) (fun p => ⟨p.1, p.2.1⟩) (fun _ => rfl) 56
theorem Cmp.cse (x : Cmp) : Cmp.ty.cs x = [.sc (.int .i64 x.op), .sc (.int .i64 x.v.a), .sc (.int .i64 x.v.b), .sc (.int .i64 x.v.c), .ro (rows Ty.str.cs x.v.pre) x.v.pre.length] := rfl
theorem Cmp.oce (x : Cmp) : Cmp.ty.oc x = [.sc (.int .i64 x.op), .sc (.int .i64 x.v.a), .sc (.int .i64 x.v.b), .sc (.int .i64 x.v.c), .own (rows Ty.str.oc x.v.pre) x.v.pre.length 1] := rfl
theorem Cmp.wte (x : Cmp) : Cmp.ty.wt x = 0 + (Ver.ty.wt x.v + 0) := rfl
theorem Cmp.ocl (xs : List Cmp) : (rows Cmp.ty.oc xs).length = xs.length * 5 := Yb Cmp.ty.ocn xs
theorem Cmp.csl (xs : List Cmp) : (rows Cmp.ty.cs xs).length = xs.length * 5 := Yb Cmp.ty.csn xs
theorem Cmp.frL (xs : List Cmp) : zb.idfreeL (rows Cmp.ty.oc xs) = true := Cmp.ty.frL xs
theorem Cmp.roc8 {h : Hp} {b : Nat} {xs : List Cmp} {lim : Bool} (hb : h b = some (some (rows Cmp.ty.oc xs))) : roc h 8 (.sl b 0 xs.length 5 lim) = some (.ro (rows Cmp.ty.cs xs) xs.length) := Cmp.ty.roc8 (by decide) hb
theorem Cmp.roc7 {h : Hp} {b : Nat} {xs : List Cmp} {lim : Bool} (hb : h b = some (some (rows Cmp.ty.oc xs))) : roc h 7 (.sl b 0 xs.length 5 lim) = some (.ro (rows Cmp.ty.cs xs) xs.length) := Cmp.ty.roc7 (by decide) hb
structure Entry where
  name : ByteArray
  v : Ver
  needs : List Need
def Entry.ty : Ty Entry := Ty.struct (Ty.str.cons (Ver.ty.cons (Need.ty.slice.cons Ty.nil))) (fun x => (x.name, x.v, x.needs, ())) (fun p => ⟨p.1, p.2.1, p.2.2.1⟩) (fun _ => rfl) 88
theorem Entry.cse (x : Entry) : Entry.ty.cs x = [.sc (.string x.name), .sc (.int .i64 x.v.a), .sc (.int .i64 x.v.b), .sc (.int .i64 x.v.c), .ro (rows Ty.str.cs x.v.pre) x.v.pre.length, .ro (rows Need.ty.cs x.needs) x.needs.length] := rfl
theorem Entry.oce (x : Entry) : Entry.ty.oc x = [.sc (.string x.name), .sc (.int .i64 x.v.a), .sc (.int .i64 x.v.b), .sc (.int .i64 x.v.c), .own (rows Ty.str.oc x.v.pre) x.v.pre.length 1, .own (rows Need.ty.oc x.needs) x.needs.length 2] := rfl
theorem Entry.wte (x : Entry) : Entry.ty.wt x = x.name.size + (Ver.ty.wt x.v + ((x.needs.length + wtL Need.ty.wt x.needs) + 0)) := rfl
theorem Entry.ocl (xs : List Entry) : (rows Entry.ty.oc xs).length = xs.length * 6 := Yb Entry.ty.ocn xs
theorem Entry.csl (xs : List Entry) : (rows Entry.ty.cs xs).length = xs.length * 6 := Yb Entry.ty.csn xs
theorem Entry.frL (xs : List Entry) : zb.idfreeL (rows Entry.ty.oc xs) = true := Entry.ty.frL xs
theorem Entry.roc8 {h : Hp} {b : Nat} {xs : List Entry} {lim : Bool} (hb : h b = some (some (rows Entry.ty.oc xs))) : roc h 8 (.sl b 0 xs.length 6 lim) = some (.ro (rows Entry.ty.cs xs) xs.length) := Entry.ty.roc8 (by decide) hb
theorem Entry.roc7 {h : Hp} {b : Nat} {xs : List Entry} {lim : Bool} (hb : h b = some (some (rows Entry.ty.oc xs))) : roc h 7 (.sl b 0 xs.length 6 lim) = some (.ro (rows Entry.ty.cs xs) xs.length) := Entry.ty.roc7 (by decide) hb
structure Pick where
  name : ByteArray
  v : Ver
def Pick.ty : Ty Pick := Ty.struct (Ty.str.cons (Ver.ty.cons Ty.nil)) (fun x => (x.name, x.v, ())) (fun p => ⟨p.1, p.2.1⟩) (fun _ => rfl) 64
theorem Pick.cse (x : Pick) : Pick.ty.cs x = [.sc (.string x.name), .sc (.int .i64 x.v.a), .sc (.int .i64 x.v.b), .sc (.int .i64 x.v.c), .ro (rows Ty.str.cs x.v.pre) x.v.pre.length] := rfl
theorem Pick.oce (x : Pick) : Pick.ty.oc x = [.sc (.string x.name), .sc (.int .i64 x.v.a), .sc (.int .i64 x.v.b), .sc (.int .i64 x.v.c), .own (rows Ty.str.oc x.v.pre) x.v.pre.length 1] := rfl
theorem Pick.wte (x : Pick) : Pick.ty.wt x = x.name.size + (Ver.ty.wt x.v + 0) := rfl
theorem Pick.ocl (xs : List Pick) : (rows Pick.ty.oc xs).length = xs.length * 5 := Yb Pick.ty.ocn xs
theorem Pick.csl (xs : List Pick) : (rows Pick.ty.cs xs).length = xs.length * 5 := Yb Pick.ty.csn xs
theorem Pick.frL (xs : List Pick) : zb.idfreeL (rows Pick.ty.oc xs) = true := Pick.ty.frL xs
theorem Pick.roc8 {h : Hp} {b : Nat} {xs : List Pick} {lim : Bool} (hb : h b = some (some (rows Pick.ty.oc xs))) : roc h 8 (.sl b 0 xs.length 5 lim) = some (.ro (rows Pick.ty.cs xs) xs.length) := Pick.ty.roc8 (by decide) hb
theorem Pick.roc7 {h : Hp} {b : Nat} {xs : List Pick} {lim : Bool} (hb : h b = some (some (rows Pick.ty.oc xs))) : roc h 7 (.sl b 0 xs.length 5 lim) = some (.ro (rows Pick.ty.cs xs) xs.length) := Pick.ty.roc7 (by decide) hb
theorem zeH (pre rest : List ByteArray) (x : ByteArray) : List.drop pre.length (rows Ty.str.cs (pre ++ x :: rest)) = .sc (.string x) :: rows Ty.str.cs rest := by
  have h := ye Ty.str.csn pre (x :: rest)
  have h : List.drop (pre.length * 1) (rows Ty.str.cs (pre ++ x :: rest)) = rows Ty.str.cs (x :: rest) := h
  rw [Nat.mul_one] at h
  rw [h, yc]; rfl
def zbN (a b : File) : Bool := strEq a.path b.path && strEq a.text b.text
def zbJ (a b : Made) : Bool := strEq a.task b.task && (strEq a.log b.log && eqBy zbN a.outs b.outs)
theorem R77 (xs ys : List File) (hb : xs.length < 4611686018427387904) : Ret Tryz.prog 77 [.ro (rows File.ty.cs xs) xs.length, .ro (rows File.ty.cs ys) ys.length] (.sc (.bool (eqBy zbN xs ys))) [.un, .un] := Ret.same mixed File.ty (offs := [(0, 0), (1, 0)]) Tryz.func77 ⟨by kernel_rfl, by kernel_rfl, by kernel_rfl⟩ zbN (fun x y => by simp [File.cse, eqOff, seq1, zbN, strEq]) xs ys hb
def A20 : AC := (.seq (.ops [wO 2 (.box (.t 0)), wO 3 (.box (.t 1)), qO 4 (.mov (.c (.sc (.bool false))))])
  (.seq (.ops [qO 5 (.fadr 0 (.t 2)), qO 6 (.load false 1 (.t 5)), qO 7 (.fadr 0 (.t 3)), qO 8 (.load false 1 (.t 7)), qO 9 (.bin .eql (.t 6) (.t 8)), qO 10 (.mov (.t 9)), qG 11 10 true (.fadr 2 (.t 2)), qG 12 10 true (.load false 1 (.t 11)), qG 13 10 true (.fadr 2 (.t 3)), qG 14 10 true (.load false 1 (.t 13)), qG 15 10 true (.bin .eql (.t 12) (.t 14)), qO 16 (.pick (.t 10) (.t 15) (.c (.sc (.bool false)))), qO 17 (.mov (.t 16)), qG 18 17 true (.fadr 1 (.t 2)), qG 19 17 true (.load false 1 (.t 18)), qG 20 17 true (.fadr 1 (.t 3)), qG 21 17 true (.load false 1 (.t 20)), cG 22 17 true 77 [.t 19, .t 21], qO 23 (.pick (.t 17) (.t 22) (.c (.sc (.bool false)))), qO 4 (.mov (.t 23))])
  .ret))
theorem K20 : Kf Tryz.prog Tryz.f20 A20 24 [.mov (.t 4)] := ⟨by kernel_rfl, by kernel_rfl, by kernel_rfl⟩
theorem R20 (a b : Made) (ha : Made.ty.ok a) : Ret Tryz.prog 20 [.agg (Made.ty.cs a), .agg (Made.ty.cs b)] (.sc (.bool (zbJ a b))) [.un, .un] := by
  have hb := File.ty.lenb (by decide) ha.2.1
  refine Ret.run Tryz.func20 K20 (by simp) rfl rfl 500 ?_
  by_cases h1 : a.task.toList = b.task.toList
  case neg =>
    have h1' : (a.task.toList == b.task.toList) = false := by simpa using h1
    simp [A20, iniρ, Made.cse, h1, h1', zbJ, strEq]
  by_cases h2 : a.log.toList = b.log.toList
  case neg =>
    have h2' : (a.log.toList == b.log.toList) = false := by simpa using h2
    simp [A20, iniρ, Made.cse, h1, h2, h2', zbJ, strEq]
  simp [A20, iniρ, Made.cse, h1, h2]
  refine callK.ro 0 rfl (by kernel_rfl) (by simp [ze]) (R77 a.outs b.outs hb) rfl rfl rfl ?_
  simp [zbJ, strEq, h1, h2]
def inR (x a b : Int) : Bool := decide (a ≤ x) && decide (x ≤ b)
def ZY (n : Int) : Bool := decide (97 ≤ n) && decide (n ≤ 122)
def figI (n : Int) : Bool := decide (48 ≤ n) && decide (n ≤ 57)
def nameC (i : Nat) (c : UInt8) : Bool := ZY (c.toNat : Int) || (decide (i ≠ 0) && (figI (c.toNat : Int) || decide ((c.toNat : Int) = 45)))
def nameL : List UInt8 → Nat → Bool
  | [], _ => true
  | c :: l, i => nameC i c && nameL l (i + 1)
def Zz (s : ByteArray) : Bool := nameL s.data.toList 0 && inR s.size 1 10
theorem zY {s : ByteArray} {pre rest : List UInt8} {c : UInt8} (h : pre ++ c :: rest = s.data.toList) : s[pre.length]? = some c := by
  have h2 : s.data.toList[pre.length]? = some c := by rw [← h]; simp
  have hlt : pre.length < s.size := by
    have := (List.getElem?_eq_some_iff.1 h2).1
    simpa using this
  have h3 : s.data[pre.length]? = some c := by rw [← Array.getElem?_toList]; exact h2
  rw [Array.getElem?_eq_some_iff] at h3
  obtain ⟨h4, h5⟩ := h3
  have : s[pre.length]? = some s[pre.length] := getElem?_pos s pre.length hlt
  rw [this]
  congr 1
theorem zL {s : ByteArray} {l : List UInt8} (h : l = s.data.toList) : s.size = l.length := by subst h; exact Array.length_toList.symm
theorem zgz (a b : List UInt8) : (Op.bytesLess a b || a == b) = !(Op.bytesLess b a) := by
  induction a generalizing b with
  | nil => cases b <;> simp [Op.bytesLess]
  | cons x a ih =>
    cases b with
    | nil => simp [Op.bytesLess]
    | cons y b =>
      simp only [Op.bytesLess]
      by_cases h1 : x < y
      · have h2 : ¬ y < x := fun h => by have := UInt8.lt_iff_toNat_lt.1 h; have := UInt8.lt_iff_toNat_lt.1 h1; omega
        have h3 : ¬ y = x := fun h => by subst h; exact h2 h1
        simp [h1, h2, h3]
      · by_cases h2 : y < x
        · have h3 : ¬ x = y := fun h => by subst h; exact h1 h2
          simp [h1, h2, h3]
        · have h3 : x = y := by
            apply UInt8.toNat_inj.1
            have := mt UInt8.lt_iff_toNat_lt.2 h1; have := mt UInt8.lt_iff_toNat_lt.2 h2; omega
          subst h3
          simp [h1, ih]
def A143 : AC := (.seq (.ops [qO 6 (.mov (.c (.sc (.bool false))))])
  (.seq (.ops [qO 7 (.mov (.t 0)), qO 8 (.mov (.t 1)), qO 9 (.bin .geq (.t 7) (.t 8)), qO 10 (.mov (.t 9)), qG 11 10 true (.mov (.t 0)), qG 12 10 true (.mov (.t 2)), qG 13 10 true (.bin .leq (.t 11) (.t 12)), qO 14 (.pick (.t 10) (.t 13) (.c (.sc (.bool false)))), qO 6 (.mov (.t 14))])
  .ret))
theorem K143 : Kf Tryz.prog Tryz.f143 A143 15 [.mov (.t 6)] := ⟨by kernel_rfl, by kernel_rfl, by kernel_rfl⟩
theorem R143 (x a b : Int) : Ret Tryz.prog 143 [.sc (.int .i64 x), .sc (.int .i64 a), .sc (.int .i64 b)] (.sc (.bool (inR x a b))) [.un, .un, .un] := by
  refine Ret.run Tryz.func143 K143 (by simp) rfl rfl 500 ?_
  by_cases h : a ≤ x <;> simp [A143, iniρ, inR, h]
def A126 : AC := (.seq (.ops [qO 6 (.mov (.c (.sc (.bool false))))])
  (.seq (.ops [qO 7 (.mov (.t 0)), qO 8 (.mov (.t 1)), qO 9 (.bin .geq (.t 7) (.t 8)), qO 10 (.mov (.t 9)), qG 11 10 true (.mov (.t 0)), qG 12 10 true (.mov (.t 2)), qG 13 10 true (.bin .leq (.t 11) (.t 12)), qO 14 (.pick (.t 10) (.t 13) (.c (.sc (.bool false)))), qO 6 (.mov (.t 14))])
  .ret))
theorem K126 : Kf Tryz.prog Tryz.f126 A126 15 [.mov (.t 6)] := ⟨by kernel_rfl, by kernel_rfl, by kernel_rfl⟩
theorem R126 (x a b : Int) : Ret Tryz.prog 126 [.sc (.int .i64 x), .sc (.int .i64 a), .sc (.int .i64 b)] (.sc (.bool (inR x a b))) [.un, .un, .un] := by
  refine Ret.run Tryz.func126 K126 (by simp) rfl rfl 500 ?_
  by_cases h : a ≤ x <;> simp [A126, iniρ, inR, h]
def A124 : AC := (.seq (.ops [qO 2 (.mov (.c (.sc (.bool false))))])
  (.seq (.ops [qO 3 (.mov (.t 0)), qO 4 (.bin .geq (.t 3) (.c (.sc (.int .u8 97)))), qO 5 (.mov (.t 4)), qG 6 5 true (.mov (.t 0)), qG 7 5 true (.bin .leq (.t 6) (.c (.sc (.int .u8 122)))), qO 8 (.pick (.t 5) (.t 7) (.c (.sc (.bool false)))), qO 2 (.mov (.t 8))])
  .ret))
theorem K124 : Kf Tryz.prog Tryz.f124 A124 9 [.mov (.t 2)] := ⟨by kernel_rfl, by kernel_rfl, by kernel_rfl⟩
theorem R124 (c : UInt8) : Ret Tryz.prog 124 [.sc (.int .u8 c.toNat)] (.sc (.bool (ZY c.toNat))) [.un] := by
  refine Ret.run Tryz.func124 K124 (by simp) rfl rfl 500 ?_
  by_cases h : (97 : Int) ≤ c.toNat <;> simp [A124, iniρ, ZY, h]
def A125 : AC := (.seq (.ops [qO 2 (.mov (.c (.sc (.bool false))))])
  (.seq (.ops [qO 3 (.mov (.t 0)), qO 4 (.bin .geq (.t 3) (.c (.sc (.int .u8 48)))), qO 5 (.mov (.t 4)), qG 6 5 true (.mov (.t 0)), qG 7 5 true (.bin .leq (.t 6) (.c (.sc (.int .u8 57)))), qO 8 (.pick (.t 5) (.t 7) (.c (.sc (.bool false)))), qO 2 (.mov (.t 8))])
  .ret))
theorem K125 : Kf Tryz.prog Tryz.f125 A125 9 [.mov (.t 2)] := ⟨by kernel_rfl, by kernel_rfl, by kernel_rfl⟩
theorem R125 (c : UInt8) : Ret Tryz.prog 125 [.sc (.int .u8 c.toNat)] (.sc (.bool (figI c.toNat))) [.un] := by
  refine Ret.run Tryz.func125 K125 (by simp) rfl rfl 500 ?_
  by_cases h : (48 : Int) ≤ c.toNat <;> simp [A125, iniρ, figI, h]
def A186 : AC := (.seq (.ops [qO 2 (.mov (.c (.sc (.bool false))))])
  (.seq (.ops [qO 3 (.mov (.t 0)), qO 4 (.cvi .i64 (.t 3)), cO 5 143 [.t 4, iC 97, iC 122], qO 2 (.mov (.t 5))])
  .ret))
theorem K186 : Kf Tryz.prog Tryz.f186 A186 6 [.mov (.t 2)] := ⟨by kernel_rfl, by kernel_rfl, by kernel_rfl⟩
theorem R186 (c : UInt8) : Ret Tryz.prog 186 [.sc (.int .u8 c.toNat)] (.sc (.bool (ZY c.toNat))) [.un] := by
  have hw : IntKind.i64.wrap (c.toNat : Int) = c.toNat := zc (by omega) (by have := c.toNat_lt; omega)
  refine Ret.run Tryz.func186 K186 (by simp) rfl rfl 500 ?_
  simp [A186, iniρ, hw]
  refine callK.ro 0 rfl (by kernel_rfl) (by simp [Yc]) (R143 c.toNat 97 122) rfl rfl rfl ?_
  simp [inR, ZY]
def A187 : AC := (.seq (.ops [qO 2 (.mov (.c (.sc (.bool false))))])
  (.seq (.ops [qO 3 (.mov (.t 0)), qO 4 (.cvi .i64 (.t 3)), cO 5 143 [.t 4, iC 48, iC 57], qO 2 (.mov (.t 5))])
  .ret))
theorem K187 : Kf Tryz.prog Tryz.f187 A187 6 [.mov (.t 2)] := ⟨by kernel_rfl, by kernel_rfl, by kernel_rfl⟩
theorem R187 (c : UInt8) : Ret Tryz.prog 187 [.sc (.int .u8 c.toNat)] (.sc (.bool (figI c.toNat))) [.un] := by
  have hw : IntKind.i64.wrap (c.toNat : Int) = c.toNat := zc (by omega) (by have := c.toNat_lt; omega)
  refine Ret.run Tryz.func187 K187 (by simp) rfl rfl 500 ?_
  simp [A187, iniρ, hw]
  refine callK.ro 0 rfl (by kernel_rfl) (by simp [Yc]) (R143 c.toNat 48 57) rfl rfl rfl ?_
  simp [inR, figI]
def A114 : AC := (.seq (.ops [qO 2 (.mov (.c (.sc (.bool false))))])
  (.seq (.seq (.ops [qO 3 (.mov (iC 0))])
  (.block 0 (.loop (.seq (.seq (.ops [qO 4 (.mov (.t 3)), qO 5 (.mov (.t 0)), qO 6 (.slen (.t 5)), qO 7 (.bin .lss (.t 4) (.t 6))])
  (.cond (.t 7) .skip
  (.exit 0)))
  (.seq (.block 1 (.seq (.ops [qO 10 (.mov (.t 0)), qO 11 (.mov (.t 3)), qO 12 (.idx (.t 10) (.t 11)), cO 13 186 [.t 12], qO 14 (.not (.t 13)), qO 15 (.mov (.t 14)), qG 16 15 true (.mov (.t 3)), qG 17 15 true (.bin .eql (.t 16) (iC 0)), qG 18 15 true (.mov (.t 17)), qG 19 18 false (.mov (.t 0)), qG 20 18 false (.mov (.t 3)), qG 21 18 false (.idx (.t 19) (.t 20)), cG 22 18 false 187 [.t 21], qG 23 18 false (.not (.t 22)), qG 24 18 false (.mov (.t 23)), qG 25 24 true (.mov (.t 0)), qG 26 24 true (.mov (.t 3)), qG 27 24 true (.idx (.t 25) (.t 26)), qG 28 24 true (.bin .neq (.t 27) (.c (.sc (.int .u8 45)))), qG 29 18 false (.pick (.t 24) (.t 28) (.c (.sc (.bool false)))), qG 30 15 true (.pick (.t 18) (.c (.sc (.bool true))) (.t 29)), qO 31 (.pick (.t 15) (.t 30) (.c (.sc (.bool false))))])
  (.cond (.t 31) (.seq (.ops [qO 2 (.mov (.c (.sc (.bool false))))])
  .ret)
  .skip)))
  (.ops [qO 8 (.mov (.t 3)), qO 9 (.bin .add (.t 8) (iC 1)), qO 3 (.mov (.t 9))]))))))
  (.seq (.ops [qO 32 (.mov (.t 0)), qO 33 (.slen (.t 32)), cO 34 143 [.t 33, iC 1, iC 10], qO 2 (.mov (.t 34))])
  .ret)))
theorem K114 : Kf Tryz.prog Tryz.f114 A114 35 [.mov (.t 2)] := ⟨by kernel_rfl, by kernel_rfl, by kernel_rfl⟩
theorem R114 (s : ByteArray) (hs : s.size ≤ 140737488351232) : Ret Tryz.prog 114 [.sc (.string s)] (.sc (.bool (Zz s))) [.un] := by
  refine Ret.run Tryz.func114 K114 (by simp) rfl rfl 500 ?_
  simp [A114, iniρ]
  refine T.rounds (μ := fun i : List UInt8 × List UInt8 => i.2.length)
    (fun i t => i.1 ++ i.2 = s.data.toList ∧ nameL i.2 i.1.length = nameL s.data.toList 0 ∧ t.ρ 0 = .sc (.string s) ∧ t.ρ 3 = .sc (.int .i64 i.1.length) ∧ t.h = h0 ∧ t.n = 35) ([], s.data.toList) (by simp [za]) ?_
  rintro ⟨pre, rest⟩ ⟨ρ, hh, n⟩ ⟨hx, hE, k0, k3, rfl, rfl⟩
  simp only at hx hE k0 k3
  have hsz := zL hx
  refine yg (n := 400) ?_
  cases rest with
  | nil =>
    simp at hsz
    simp [k0, k3, hsz]
    refine T.on 400 ?_
    simp [k0]
    refine callK.ro 0 rfl (by kernel_rfl) (by simp [Yc]) (R143 s.size 1 10) rfl rfl rfl ?_
    simp [Zz, ← hE, nameL]
  | cons c rest =>
    have hg := zY hx
    simp at hsz
    have hlt : (pre.length : Int) < s.size := by omega
    have hw : IntKind.i64.wrap ((pre.length : Int) + 1) = pre.length + 1 := zc (by omega) (by omega)
    simp [k0, k3, hlt, hg]
    refine callK.ro 0 rfl (by kernel_rfl) (by simp [Yc]) (R186 c) rfl rfl rfl ?_
    have step : nameC pre.length c = true → ∀ (Q : Prop), (nameL rest (pre.length + 1) = nameL s.data.toList 0 → Q) → Q := fun h Q k => k (by rw [← hE]; simp [nameL, h])
    have stop : nameC pre.length c = false → Zz s = false := fun h => by simp [Zz, ← hE, nameL, h]
    cases h1 : ZY (c.toNat : Int)
    · by_cases hz : pre.length = 0
      · have := stop (by simp [nameC, h1, hz])
        simp [k0, k3, h1, hz, hlt, hg, this]
      · have hz' : pre ≠ [] := fun e => hz (by simp [e])
        simp [k0, k3, h1, hz, hz', hlt, hg]
        refine callK.ro 0 rfl (by kernel_rfl) (by simp [Yc]) (R187 c) rfl rfl rfl ?_
        cases h2 : figI (c.toNat : Int)
        · by_cases h3 : (c.toNat : Int) = 45
          · simp [k0, k3, h1, h2, hz, hz', hlt, hg, h3, hw]
            refine step (by simp [nameC, h1, h2, hz, hz', h3]) _ fun hE2 => ?_
            refine ⟨pre ++ [c], rest, by simp, _, Le.refl _, ?_⟩
            simp [hx, k0, hE2, za]
          · have := stop (by simp [nameC, h1, h2, hz, hz', h3])
            simp [k0, k3, h1, h2, hz, hz', hlt, hg, h3, this]
        · simp [k0, k3, h1, h2, hz, hz', hlt, hg, hw]
          refine step (by simp [nameC, h1, h2, hz, hz']) _ fun hE2 => ?_
          refine ⟨pre ++ [c], rest, by simp, _, Le.refl _, ?_⟩
          simp [hx, k0, hE2, za]
    · simp [k0, k3, h1, hlt, hg, hw]
      refine step (by simp [nameC, h1]) _ fun hE2 => ?_
      refine ⟨pre ++ [c], rest, by simp, _, Le.refl _, ?_⟩
      simp [hx, k0, hE2, za]
def A61 : AC := (.seq (.ops [qO 2 (.mov (.c (.sc (.bool false))))])
  (.seq (.seq (.ops [qO 3 (.mov (iC 0))])
  (.block 0 (.loop (.seq (.seq (.ops [qO 4 (.mov (.t 3)), qO 5 (.mov (.t 0)), qO 6 (.slen (.t 5)), qO 7 (.bin .lss (.t 4) (.t 6))])
  (.cond (.t 7) .skip
  (.exit 0)))
  (.seq (.block 1 (.seq (.ops [qO 10 (.mov (.t 0)), qO 11 (.mov (.t 3)), qO 12 (.idx (.t 10) (.t 11)), cO 13 124 [.t 12], qO 14 (.not (.t 13)), qO 15 (.mov (.t 14)), qG 16 15 true (.mov (.t 3)), qG 17 15 true (.bin .eql (.t 16) (iC 0)), qG 18 15 true (.mov (.t 17)), qG 19 18 false (.mov (.t 0)), qG 20 18 false (.mov (.t 3)), qG 21 18 false (.idx (.t 19) (.t 20)), cG 22 18 false 125 [.t 21], qG 23 18 false (.not (.t 22)), qG 24 18 false (.mov (.t 23)), qG 25 24 true (.mov (.t 0)), qG 26 24 true (.mov (.t 3)), qG 27 24 true (.idx (.t 25) (.t 26)), qG 28 24 true (.bin .neq (.t 27) (.c (.sc (.int .u8 45)))), qG 29 18 false (.pick (.t 24) (.t 28) (.c (.sc (.bool false)))), qG 30 15 true (.pick (.t 18) (.c (.sc (.bool true))) (.t 29)), qO 31 (.pick (.t 15) (.t 30) (.c (.sc (.bool false))))])
  (.cond (.t 31) (.seq (.ops [qO 2 (.mov (.c (.sc (.bool false))))])
  .ret)
  .skip)))
  (.ops [qO 8 (.mov (.t 3)), qO 9 (.bin .add (.t 8) (iC 1)), qO 3 (.mov (.t 9))]))))))
  (.seq (.ops [qO 32 (.mov (.t 0)), qO 33 (.slen (.t 32)), cO 34 126 [.t 33, iC 1, iC 10], qO 2 (.mov (.t 34))])
  .ret)))
theorem K61 : Kf Tryz.prog Tryz.f61 A61 35 [.mov (.t 2)] := ⟨by kernel_rfl, by kernel_rfl, by kernel_rfl⟩
theorem R61 (s : ByteArray) (hs : s.size ≤ 140737488351232) : Ret Tryz.prog 61 [.sc (.string s)] (.sc (.bool (Zz s))) [.un] := by
  refine Ret.run Tryz.func61 K61 (by simp) rfl rfl 500 ?_
  simp [A61, iniρ]
  refine T.rounds (μ := fun i : List UInt8 × List UInt8 => i.2.length)
    (fun i t => i.1 ++ i.2 = s.data.toList ∧ nameL i.2 i.1.length = nameL s.data.toList 0 ∧ t.ρ 0 = .sc (.string s) ∧ t.ρ 3 = .sc (.int .i64 i.1.length) ∧ t.h = h0 ∧ t.n = 35) ([], s.data.toList) (by simp [za]) ?_
  rintro ⟨pre, rest⟩ ⟨ρ, hh, n⟩ ⟨hx, hE, k0, k3, rfl, rfl⟩
  simp only at hx hE k0 k3
  have hsz := zL hx
  refine yg (n := 400) ?_
  cases rest with
  | nil =>
    simp at hsz
    simp [k0, k3, hsz]
    refine T.on 400 ?_
    simp [k0]
    refine callK.ro 0 rfl (by kernel_rfl) (by simp [Yc]) (R126 s.size 1 10) rfl rfl rfl ?_
    simp [Zz, ← hE, nameL]
  | cons c rest =>
    have hg := zY hx
    simp at hsz
    have hlt : (pre.length : Int) < s.size := by omega
    have hw : IntKind.i64.wrap ((pre.length : Int) + 1) = pre.length + 1 := zc (by omega) (by omega)
    simp [k0, k3, hlt, hg]
    refine callK.ro 0 rfl (by kernel_rfl) (by simp [Yc]) (R124 c) rfl rfl rfl ?_
    have step : nameC pre.length c = true → ∀ (Q : Prop), (nameL rest (pre.length + 1) = nameL s.data.toList 0 → Q) → Q := fun h Q k => k (by rw [← hE]; simp [nameL, h])
    have stop : nameC pre.length c = false → Zz s = false := fun h => by simp [Zz, ← hE, nameL, h]
    cases h1 : ZY (c.toNat : Int)
    · by_cases hz : pre.length = 0
      · have := stop (by simp [nameC, h1, hz])
        simp [k0, k3, h1, hz, hlt, hg, this]
      · have hz' : pre ≠ [] := fun e => hz (by simp [e])
        simp [k0, k3, h1, hz, hz', hlt, hg]
        refine callK.ro 0 rfl (by kernel_rfl) (by simp [Yc]) (R125 c) rfl rfl rfl ?_
        cases h2 : figI (c.toNat : Int)
        · by_cases h3 : (c.toNat : Int) = 45
          · simp [k0, k3, h1, h2, hz, hz', hlt, hg, h3, hw]
            refine step (by simp [nameC, h1, h2, hz, hz', h3]) _ fun hE2 => ?_
            refine ⟨pre ++ [c], rest, by simp, _, Le.refl _, ?_⟩
            simp [hx, k0, hE2, za]
          · have := stop (by simp [nameC, h1, h2, hz, hz', h3])
            simp [k0, k3, h1, h2, hz, hz', hlt, hg, h3, this]
        · simp [k0, k3, h1, h2, hz, hz', hlt, hg, hw]
          refine step (by simp [nameC, h1, h2, hz, hz']) _ fun hE2 => ?_
          refine ⟨pre ++ [c], rest, by simp, _, Le.refl _, ?_⟩
          simp [hx, k0, hE2, za]
    · simp [k0, k3, h1, hlt, hg, hw]
      refine step (by simp [nameC, h1]) _ fun hE2 => ?_
      refine ⟨pre ++ [c], rest, by simp, _, Le.refl _, ?_⟩
      simp [hx, k0, hE2, za]
def lttI (n : Int) : Bool := ZY n || figI n || n == 46 || n == 45 || n == 95
def letL : List UInt8 → Bool
  | [] => true
  | c :: l => lttI (c.toNat : Int) && letL l
def Zl (s : ByteArray) : Bool := letL s.data.toList && (inR s.size 1 12 && !(s.toList == [46]) && !(s.toList == [46, 46]))
def A247 : AC := (.seq (.ops [qO 2 (.mov (.c (.sc (.bool false))))])
  (.seq (.ops [qO 3 (.mov (.t 0)), cO 4 186 [.t 3], qO 5 (.mov (.t 4)), qG 6 5 false (.mov (.t 0)), cG 7 5 false 187 [.t 6], qO 8 (.pick (.t 5) (.c (.sc (.bool true))) (.t 7)), qO 9 (.mov (.t 8)), qG 10 9 false (.mov (.t 0)), qG 11 9 false (.bin .eql (.t 10) (.c (.sc (.int .u8 46)))), qO 12 (.pick (.t 9) (.c (.sc (.bool true))) (.t 11)), qO 13 (.mov (.t 12)), qG 14 13 false (.mov (.t 0)), qG 15 13 false (.bin .eql (.t 14) (.c (.sc (.int .u8 45)))), qO 16 (.pick (.t 13) (.c (.sc (.bool true))) (.t 15)), qO 17 (.mov (.t 16)), qG 18 17 false (.mov (.t 0)), qG 19 17 false (.bin .eql (.t 18) (.c (.sc (.int .u8 95)))), qO 20 (.pick (.t 17) (.c (.sc (.bool true))) (.t 19)), qO 2 (.mov (.t 20))])
  .ret))
theorem K247 : Kf Tryz.prog Tryz.f247 A247 21 [.mov (.t 2)] := ⟨by kernel_rfl, by kernel_rfl, by kernel_rfl⟩
theorem R247 (c : UInt8) : Ret Tryz.prog 247 [.sc (.int .u8 c.toNat)] (.sc (.bool (lttI c.toNat))) [.un] := by
  refine Ret.run Tryz.func247 K247 (by simp) rfl rfl 500 ?_
  simp [A247, iniρ]
  refine callK.ro 0 rfl (by kernel_rfl) (by simp [Yc]) (R186 c) rfl rfl rfl ?_
  cases h1 : ZY (c.toNat : Int)
  case true => simp [lttI, h1]
  simp
  refine callK.ro 0 rfl (by kernel_rfl) (by simp [Yc]) (R187 c) rfl rfl rfl ?_
  cases h2 : figI (c.toNat : Int)
  case true => simp [lttI, h1, h2]
  by_cases h3 : (c.toNat : Int) = 46
  · simp [lttI, h1, h2, h3]
  by_cases h4 : (c.toNat : Int) = 45
  · simp [lttI, h1, h2, h3, h4]
  simp [lttI, h1, h2, h3, h4]
def A203 : AC := (.seq (.ops [qO 2 (.mov (.c (.sc (.bool false))))])
  (.seq (.seq (.ops [qO 3 (.mov (iC 0))])
  (.block 0 (.loop (.seq (.seq (.ops [qO 4 (.mov (.t 3)), qO 5 (.mov (.t 0)), qO 6 (.slen (.t 5)), qO 7 (.bin .lss (.t 4) (.t 6))])
  (.cond (.t 7) .skip
  (.exit 0)))
  (.seq (.block 1 (.seq (.ops [qO 10 (.mov (.t 0)), qO 11 (.mov (.t 3)), qO 12 (.idx (.t 10) (.t 11)), cO 13 247 [.t 12], qO 14 (.not (.t 13))])
  (.cond (.t 14) (.seq (.ops [qO 2 (.mov (.c (.sc (.bool false))))])
  .ret)
  .skip)))
  (.ops [qO 8 (.mov (.t 3)), qO 9 (.bin .add (.t 8) (iC 1)), qO 3 (.mov (.t 9))]))))))
  (.seq (.ops [qO 15 (.mov (.t 0)), qO 16 (.slen (.t 15)), cO 17 143 [.t 16, iC 1, iC 12], qO 18 (.mov (.t 17)), qG 19 18 true (.mov (.t 0)), qG 20 18 true (.bin .neq (.t 19) (.c (.sc (.string ⟨#[46]⟩)))), qO 21 (.pick (.t 18) (.t 20) (.c (.sc (.bool false)))), qO 22 (.mov (.t 21)), qG 23 22 true (.mov (.t 0)), qG 24 22 true (.bin .neq (.t 23) (.c (.sc (.string ⟨#[46, 46]⟩)))), qO 25 (.pick (.t 22) (.t 24) (.c (.sc (.bool false)))), qO 2 (.mov (.t 25))])
  .ret)))
theorem K203 : Kf Tryz.prog Tryz.f203 A203 26 [.mov (.t 2)] := ⟨by kernel_rfl, by kernel_rfl, by kernel_rfl⟩
theorem R203 (s : ByteArray) (hs : s.size ≤ 140737488351232) : Ret Tryz.prog 203 [.sc (.string s)] (.sc (.bool (Zl s))) [.un] := by
  refine Ret.run Tryz.func203 K203 (by simp) rfl rfl 500 ?_
  simp [A203, iniρ]
  refine T.rounds (μ := fun i : List UInt8 × List UInt8 => i.2.length)
    (fun i t => i.1 ++ i.2 = s.data.toList ∧ letL i.2 = letL s.data.toList ∧ t.ρ 0 = .sc (.string s) ∧ t.ρ 3 = .sc (.int .i64 i.1.length) ∧ t.h = h0 ∧ t.n = 26) ([], s.data.toList) (by simp [za]) ?_
  rintro ⟨pre, rest⟩ ⟨ρ, hh, n⟩ ⟨hx, hE, k0, k3, rfl, rfl⟩
  simp only at hx hE k0 k3
  have hsz := zL hx
  refine yg (n := 400) ?_
  cases rest with
  | nil =>
    simp at hsz
    simp [k0, k3, hsz]
    refine T.on 400 ?_
    simp [k0]
    refine callK.ro 0 rfl (by kernel_rfl) (by simp [Yc]) (R143 s.size 1 12) rfl rfl rfl ?_
    have hL : letL s.data.toList = true := by rw [← hE]; rfl
    cases h1 : inR s.size 1 12
    case false => simp [Zl, h1]
    by_cases h2 : s.toList = [46]
    case pos => simp [k0, Zl, h1, h2]
    have h2' : (s.toList == [46]) = false := by simpa using h2
    by_cases h3 : s.toList = [46, 46]
    · simp [k0, Zl, h1, h2, h2', h3, hL]
    · have h3' : (s.toList == [46, 46]) = false := by simpa using h3
      simp [k0, Zl, h1, h2, h2', h3, h3', hL]
  | cons c rest =>
    have hg := zY hx
    simp at hsz
    have hlt : (pre.length : Int) < s.size := by omega
    have hw : IntKind.i64.wrap ((pre.length : Int) + 1) = pre.length + 1 := zc (by omega) (by omega)
    simp [k0, k3, hlt, hg]
    refine callK.ro 0 rfl (by kernel_rfl) (by simp [Yc]) (R247 c) rfl rfl rfl ?_
    cases h1 : lttI (c.toNat : Int)
    · have : Zl s = false := by simp [Zl, ← hE, letL, h1]
      simp [this]
    · simp [k3, hw]
      refine ⟨pre ++ [c], rest, by simp, _, Le.refl _, ?_⟩
      simp [hx, k0, za, ← hE, letL, h1]
def Zx (s : ByteArray) (b : Int) : Nat → Nat → List UInt8 → List ByteArray
  | f, i, [] => [s.extract f i]
  | f, i, c :: l => if (c.toNat : Int) = b then s.extract f i :: Zx s b (i + 1) (i + 1) l else Zx s b f (i + 1) l
def Yq (s : ByteArray) (b : Int) : List ByteArray := Zx s b 0 0 s.data.toList
structure Opt where
  v : Bool
def A113 : AC := (.seq (.ops [qO 4 (.mov (.c .em))])
  (.seq (.ops [wO 8 (.bsl 1 0 [] []), qO 5 (.mov (.t 8))])
  (.seq (.ops [qO 6 (.mov (iC 0))])
  (.seq (.seq (.ops [qO 7 (.mov (iC 0))])
  (.block 0 (.loop (.seq (.seq (.ops [qO 9 (.mov (.t 7)), qO 10 (.mov (.t 0)), qO 11 (.slen (.t 10)), qO 12 (.bin .leq (.t 9) (.t 11))])
  (.cond (.t 12) .skip
  (.exit 0)))
  (.seq (.block 1 (.seq (.ops [qO 15 (.mov (.t 7)), qO 16 (.mov (.t 0)), qO 17 (.slen (.t 16)), qO 18 (.bin .eql (.t 15) (.t 17)), qO 19 (.mov (.t 18)), qG 20 19 false (.mov (.t 0)), qG 21 19 false (.mov (.t 7)), qG 22 19 false (.idx (.t 20) (.t 21)), qG 23 19 false (.mov (.t 1)), qG 24 19 false (.bin .eql (.t 22) (.t 23)), qO 25 (.pick (.t 19) (.c (.sc (.bool true))) (.t 24))])
  (.cond (.t 25) (.seq (.ops [qO 26 (.mov (.t 5)), qO 27 (.mov (.t 0)), qO 28 (.mov (.t 6)), qO 29 (.mov (.t 7)), qO 30 (.subs (.t 27) (some (.t 28)) (some (.t 29))), wO 31 (.bsl 1 1 [(.sc (.string ⟨#[]⟩))] [(0, 1, (.t 30))]), wO 32 (.app 1 16 false (.t 26) (.t 31)), qO 5 (.mov (.t 32))])
  (.ops [qO 33 (.mov (.t 7)), qO 34 (.bin .add (.t 33) (iC 1)), qO 6 (.mov (.t 34))]))
  .skip)))
  (.ops [qO 13 (.mov (.t 7)), qO 14 (.bin .add (.t 13) (iC 1)), qO 7 (.mov (.t 14))]))))))
  (.seq (.ops [qO 35 (.mov (.t 5)), qO 4 (.mov (.t 35))])
  .ret)))))
theorem K113 : Kf Tryz.prog Tryz.f113 A113 36 [.mov (.t 4)] := ⟨by kernel_rfl, by kernel_rfl, by kernel_rfl⟩
theorem R113 (s : ByteArray) (b : Int) (hs : s.size ≤ 1048576) : Ret Tryz.prog 113 [.sc (.string s), .sc (.int .u8 b)] (.own (rows Ty.str.oc (Yq s b)) (Yq s b).length 1) [.un, .un] := by
  refine Ret.run Tryz.func113 K113 (by simp) rfl rfl 900 ?_
  simp [A113, iniρ, over]
  -- ended: the last part is out
  refine T.rounds (μ := fun i : List UInt8 × List UInt8 × List ByteArray × Nat × Opt => i.2.1.length + (if i.2.2.2.2.v then 0 else 1))
    (fun i t => i.1 ++ i.2.1 = s.data.toList ∧ i.2.2.2.1 ≤ i.1.length ∧ i.2.2.1.length ≤ i.1.length + (if i.2.2.2.2.v then 1 else 0) ∧ (if i.2.2.2.2.v then i.2.1 = [] ∧ i.2.2.1 = Yq s b else i.2.2.1 ++ Zx s b i.2.2.2.1 i.1.length i.2.1 = Yq s b) ∧
      t.ρ 0 = .sc (.string s) ∧ t.ρ 1 = .sc (.int .u8 b) ∧ t.ρ 5 = .sl 8 0 i.2.2.1.length 1 false ∧ (i.2.2.2.2.v = false → t.ρ 6 = .sc (.int .i64 i.2.2.2.1)) ∧ t.ρ 7 = .sc (.int .i64 (i.1.length + (if i.2.2.2.2.v then 1 else 0))) ∧ t.h 8 = some (some (rows Ty.str.oc i.2.2.1)) ∧ t.h 31 = none ∧ t.h 32 = none ∧ t.n = 36) ([], s.data.toList, [], 0, ⟨false⟩) (by simp [za, Yf, Yq]) ?_
  rintro ⟨pre, rest, out, f, ⟨e⟩⟩ ⟨ρ, hh, n⟩ ⟨hx, hf, ho, hE, k0, k1, k5, k6, k7, k8, f1, f2, rfl⟩
  simp only at hx hf ho hE k0 k1 k5 k6 k7 k8 f1 f2
  have hsz := zL hx
  refine yg (n := 400) ?_
  cases e with
  | true =>
    simp at hE k7
    obtain ⟨rfl, hE⟩ := hE
    simp at hsz
    have h1 : ¬ ((pre.length : Int) + 1 ≤ s.size) := by omega
    simp [k0, k7, h1]
    refine T.on 400 ?_
    have hid : zb.idfreeL (rows Ty.str.oc (Yq s b)) = true := Ty.str.frL _
    simp [k5, k8, ex1, hE, zbW, hid]
  | false =>
    simp at hE k6 k7 ho
    have hps : pre.length ≤ s.size := by rw [hsz]; simp
    have hw : IntKind.i64.wrap ((pre.length : Int) + 1) = pre.length + 1 := zc (by omega) (by omega)
    have hcap : (out.length + 1) * 16 ≤ 140737488355328 := by omega
    have hap : ∀ (l : List ByteArray) (g : ByteArray), rows Ty.str.oc l ++ [.sc (.string g)] = rows Ty.str.oc (l ++ [g]) := fun l g => by rw [Yd]; rfl
    cases rest with
    | nil =>
      simp at hsz
      simp [k0, k1, k5, k6, k7, k8, f1, f2, hsz, hw, over, zbW, hcap, hap, hf]
      refine ⟨pre, [], out ++ [s.extract f pre.length], f, ⟨true⟩, ⟨rfl, rfl⟩, _, Le.reseat [0, 1, 5, 7] [(32, 8)] (by simp) (by simp [za, menB, zb, k0, k1]) ?_, ?_⟩
      · intro b' hb cs hcs
        simp at hb
        subst hb
        simp [za] at hcs
        subst hcs
        exact Ym (fun x c hc => (Ty.str.ow x c hc).fr) _
      · have hE2 : out ++ [s.extract f pre.length] = Yq s b := hE
        simp [za, k0, k1, hE2]
        refine ⟨by simpa using hx, hf, ?_⟩
        rw [← hE2]; simp; omega
    | cons c rest =>
      have hg := zY hx
      simp at hsz
      have hlt : (pre.length : Int) < s.size := by omega
      have hlt2 : pre.length < s.size := by omega
      have hle : (pre.length : Int) ≤ s.size := by omega
      have hne : ¬ ((pre.length : Int) = s.size) := by omega
      have hne2 : ¬ (pre.length = s.size) := by omega
      rw [Zx] at hE
      by_cases hc : (c.toNat : Int) = b
      · rw [if_pos hc] at hE
        simp [k0, k1, k5, k6, k7, k8, f1, f2, hlt, hle, hne, hne2, hg, hc, hw, hps, over, zbW, hcap, hap, hf]
        refine ⟨pre ++ [c], rest, out ++ [s.extract f pre.length], pre.length + 1, ⟨false⟩, by simp, _, Le.reseat [0, 1, 5, 6, 7] [(32, 8)] (by simp) (by simp [za, menB, zb, k0, k1]) ?_, ?_⟩
        · intro b' hb cs hcs
          simp at hb
          subst hb
          simp [za] at hcs
          subst hcs
          exact Ym (fun x c hc => (Ty.str.ow x c hc).fr) _
        · simp [za, k0, k1, hx, hE]
          omega
      · have hcb : ((c.toNat : Int) == b) = false := by simpa using hc
        rw [if_neg hc] at hE
        simp [k0, k1, k5, k6, k7, k8, f1, f2, hlt, hle, hne, hne2, hg, hc, hcb, hw, over, zbW, hap]
        refine ⟨pre ++ [c], rest, out, f, ⟨false⟩, by simp, _, Le.refl _, ?_⟩
        simp [za, k0, k1, k5, k6, k8, f1, f2, hx, hE]
        omega
def yF : List ByteArray → Bool
  | [] => true
  | x :: l => Zl x && yF l
def yN (s : ByteArray) : Bool := yF (Yq s 47) && decide ((Yq s 47).length ≤ 4)
theorem ZL (s : ByteArray) (b : Int) : ∀ (l : List UInt8) (f i : Nat), ∀ x ∈ Zx s b f i l, x.size ≤ s.size
  | [], f, i, x, h => by
    simp [Zx] at h
    subst h
    rw [ByteArray.size_extract]; omega
  | c :: l, f, i, x, h => by
    rw [Zx] at h
    split at h
    · rcases List.mem_cons.1 h with rfl | h
      · rw [ByteArray.size_extract]; omega
      · exact ZL s b l _ _ x h
    · exact ZL s b l _ _ x h
theorem Y3 (s : ByteArray) (b : Int) : ∀ (l : List UInt8) (f i : Nat), (Zx s b f i l).length ≤ l.length + 1
  | [], f, i => by simp [Zx]
  | c :: l, f, i => by
    rw [Zx]
    split
    · have := Y3 s b l (i + 1) (i + 1); simp; omega
    · have := Y3 s b l f (i + 1); simp; omega
def A189 : AC := (.seq (.ops [qO 2 (.mov (.c (.sc (.bool false))))])
  (.seq (.ops [qO 5 (.mov (.t 0)), cO 6 113 [.t 5, (.c (.sc (.int .u8 47)))], qO 3 (.mov (.t 6))])
  (.seq (.seq (.ops [qO 4 (.mov (iC 0))])
  (.block 0 (.loop (.seq (.seq (.ops [qO 7 (.mov (.t 4)), qO 8 (.mov (.t 3)), qO 9 (.llen (.t 8)), qO 10 (.bin .lss (.t 7) (.t 9))])
  (.cond (.t 10) .skip
  (.exit 0)))
  (.seq (.block 1 (.seq (.ops [qO 13 (.mov (.t 3)), qO 14 (.mov (.t 4)), qO 15 (.iadr 1 (.t 13) (.t 14)), qO 16 (.load false 1 (.t 15)), cO 17 203 [.t 16], qO 18 (.not (.t 17))])
  (.cond (.t 18) (.seq (.ops [qO 2 (.mov (.c (.sc (.bool false))))])
  .ret)
  .skip)))
  (.ops [qO 11 (.mov (.t 4)), qO 12 (.bin .add (.t 11) (iC 1)), qO 4 (.mov (.t 12))]))))))
  (.seq (.ops [qO 19 (.mov (.t 3)), qO 20 (.llen (.t 19)), qO 21 (.bin .leq (.t 20) (iC 4)), qO 2 (.mov (.t 21))])
  .ret))))
theorem K189 : Kf Tryz.prog Tryz.f189 A189 22 [.mov (.t 2)] := ⟨by kernel_rfl, by kernel_rfl, by kernel_rfl⟩
theorem R189 (s : ByteArray) (hs : s.size ≤ 1048576) : Ret Tryz.prog 189 [.sc (.string s)] (.sc (.bool (yN s))) [.un] := by
  have hz : ∀ x ∈ Yq s 47, x.size ≤ s.size := ZL s 47 _ 0 0
  have hl : (Yq s 47).length ≤ s.size + 1 := by
    have := Y3 s 47 s.data.toList 0 0
    simpa [Yq] using this
  obtain ⟨ps, hps⟩ : ∃ ps, ps = Yq s 47 := ⟨_, rfl⟩
  have rs := R113 s 47 hs
  rw [← hps] at hz hl rs
  refine Ret.run Tryz.func189 K189 (by simp) rfl rfl 900 ?_
  simp [A189, iniρ]
  refine callK.own 6 rfl (by kernel_rfl) (by simp [Yc]) rs (Ty.str.flo ps) (by simp) rfl ?_
  simp
  refine T.rounds (μ := fun i : List ByteArray × List ByteArray => i.2.length)
    (fun i t => i.1 ++ i.2 = ps ∧ yF i.2 = yF ps ∧ t.ρ 3 = .sl 6 0 ps.length 1 false ∧ t.ρ 4 = .sc (.int .i64 i.1.length) ∧ t.h 6 = some (some (rows Ty.str.oc ps)) ∧ t.n = 22) ([], ps) (by simp [za]) ?_
  rintro ⟨pre, rest⟩ ⟨ρ, hh, n⟩ ⟨hx, hE, k3, k4, k6, rfl⟩
  simp only at hx hE k3 k4 k6
  refine yg (n := 400) ?_
  cases rest with
  | nil =>
    have hxl : pre.length = ps.length := by rw [← hx]; simp
    have hA : yF ps = true := by rw [← hE]; rfl
    simp [k3, k4, hxl]
    refine T.on 400 ?_
    simp [k3, yN, ← hps, hA]
    try omega
  | cons x rest =>
    have hle : pre.length + (rest.length + 1) = ps.length := by rw [← hx]; simp
    have hlt : (pre.length : Int) < ps.length := by omega
    have hlt2 : pre.length < ps.length := by omega
    have hw : IntKind.i64.wrap ((pre.length : Int) + 1) = pre.length + 1 := zc (by omega) (by omega)
    have hd := ye Ty.str.ocn pre (x :: rest)
    rw [hx, yc] at hd
    have hd : List.drop pre.length (rows Ty.str.oc ps) = AV.sc (.string x) :: rows Ty.str.oc rest := by
      have h2 := hd
      rwa [show pre.length * Ty.str.n = pre.length from Nat.mul_one _] at h2
    simp [k3, k4, k6, hlt, hlt2, hd]
    have hxz := hz x (by rw [← hx]; simp)
    refine callK.ro 0 rfl (by kernel_rfl) (by simp [Yc]) (R203 x (by omega)) rfl rfl rfl ?_
    cases h1 : Zl x
    · have hA : yF ps = false := by rw [← hE]; simp [yF, h1]
      simp [yN, ← hps, hA]
    · simp [k4, hw]
      refine ⟨pre ++ [x], rest, by simp, _, Le.refl _, ?_⟩
      simp [hx, k3, k6, za, ← hE, yF, h1]
structure FlP where
  v : Bool
def gtrP (a b : ByteArray) : Bool := !Op.bytesLess a.toList b.toList && !(a.toList == b.toList)
def putF (f : File) : List File → Bool → List File
  | [], d => if d then [] else [f]
  | x :: xs, d => if x.path.toList = f.path.toList then putF f xs d else if (!d && gtrP x.path f.path) = true then f :: x :: putF f xs true else x :: putF f xs d
theorem zgt (xs : List File) : plain.plainL (rows File.ty.oc xs) = true := zcy (Ym (q := plain) (fun x c hc => by simp [File.oce] at hc; rcases hc with rfl | rfl <;> rfl) xs)
theorem zfq (xs : List File) : ∀ y ∈ rows File.ty.oc xs, zb y = true := Ym (fun x c hc => (File.ty.ow x c hc).fr) xs
def A178 : AC := (.seq (.ops [wO 3 (.box (.t 1)), qO 4 (.mov (.c .em))])
  (.seq (.ops [wO 8 (.bsl 2 0 [] []), qO 5 (.mov (.t 8))])
  (.seq (.ops [qO 6 (.mov (.c (.sc (.bool false))))])
  (.seq (.seq (.ops [qO 7 (.mov (iC 0))])
  (.block 0 (.loop (.seq (.seq (.ops [qO 9 (.mov (.t 7)), qO 10 (.mov (.t 0)), qO 11 (.llen (.t 10)), qO 12 (.bin .lss (.t 9) (.t 11))])
  (.cond (.t 12) .skip
  (.exit 0)))
  (.seq (.block 1 (.seq (.seq (.any [(qO 15 (.mov (.t 0)), []), (qO 16 (.mov (.t 7)), []), (qO 17 (.iadr 2 (.t 15) (.t 16)), [0, 1]), (qO 18 (.fadr 0 (.t 17)), [2]), (qO 19 (.load false 1 (.t 18)), [3]), (qO 20 (.fadr 0 (.t 3)), []), (qO 21 (.load false 1 (.t 20)), [5]), (qO 22 (.bin .eql (.t 19) (.t 21)), [4, 6])])
  (.cond (.t 22) (.exit 1)
  .skip))
  (.seq (.seq (.any [(qO 23 (.mov (.t 6)), []), (qO 24 (.not (.t 23)), [0]), (qO 25 (.mov (.t 24)), [1]), (qG 26 25 true (.mov (.t 0)), [2]), (qG 27 25 true (.mov (.t 7)), [2]), (qG 28 25 true (.iadr 2 (.t 26) (.t 27)), [3, 4, 2]), (qG 29 25 true (.fadr 0 (.t 28)), [5, 2]), (qG 30 25 true (.load false 1 (.t 29)), [6, 2]), (qG 31 25 true (.fadr 0 (.t 3)), [2]), (qG 32 25 true (.load false 1 (.t 31)), [8, 2]), (qG 33 25 true (.bin .gtr (.t 30) (.t 32)), [7, 9, 2]), (qO 34 (.pick (.t 25) (.t 33) (.c (.sc (.bool false)))), [2, 10])])
  (.cond (.t 34) (.seq (.ops [qO 35 (.mov (.t 5)), qO 36 (.load true 2 (.t 3)), wO 37 (.bsl 2 1 [(.sc (.string ⟨#[]⟩)), (.sc (.string ⟨#[]⟩))] [(0, 2, (.t 36))]), wO 38 (.app 2 32 false (.t 35) (.t 37)), qO 5 (.mov (.t 38))])
  (.ops [qO 6 (.mov (.c (.sc (.bool true))))]))
  .skip))
  (.ops [qO 39 (.mov (.t 5)), qO 40 (.mov (.t 0)), qO 41 (.mov (.t 7)), qO 42 (.iadr 2 (.t 40) (.t 41)), qO 43 (.load true 2 (.t 42)), wO 44 (.bsl 2 1 [(.sc (.string ⟨#[]⟩)), (.sc (.string ⟨#[]⟩))] [(0, 2, (.t 43))]), wO 45 (.app 2 32 false (.t 39) (.t 44)), qO 5 (.mov (.t 45))]))))
  (.ops [qO 13 (.mov (.t 7)), qO 14 (.bin .add (.t 13) (iC 1)), qO 7 (.mov (.t 14))]))))))
  (.seq (.seq (.ops [qO 46 (.mov (.t 6)), qO 47 (.not (.t 46))])
  (.cond (.t 47) (.ops [qO 48 (.mov (.t 5)), qO 49 (.load true 2 (.t 3)), wO 50 (.bsl 2 1 [(.sc (.string ⟨#[]⟩)), (.sc (.string ⟨#[]⟩))] [(0, 2, (.t 49))]), wO 51 (.app 2 32 false (.t 48) (.t 50)), qO 5 (.mov (.t 51))])
  .skip))
  (.seq (.ops [qO 52 (.mov (.t 5)), qO 4 (.mov (.t 52))])
  .ret))))))
theorem K178 : Kf Tryz.prog Tryz.f178 A178 53 [.mov (.t 4)] := ⟨by kernel_rfl, by kernel_rfl, by kernel_rfl⟩
set_option maxHeartbeats 1000000 in
theorem R178 (xs : List File) (f : File) (hok : File.ty.slice.ok xs) : Ret Tryz.prog 178 [.ro (rows File.ty.cs xs) xs.length, .agg (File.ty.cs f)] (.own (rows File.ty.oc (putF f xs false)) (putF f xs false).length 2) [.un, .un] := by
  have hb : xs.length * 32 ≤ 140737488351232 := hok.1
  refine Ret.run Tryz.func178 K178 (by simp) rfl rfl 900 ?_
  simp [A178, iniρ, File.cse, over]
  refine T.rounds (μ := fun i : List File × List File × List File × FlP => i.2.1.length)
    (fun i s => i.1 ++ i.2.1 = xs ∧ i.2.2.1 ++ putF f i.2.1 i.2.2.2.v = putF f xs false ∧ i.2.2.1.length ≤ i.1.length + (if i.2.2.2.v then 1 else 0) ∧ s.ρ 0 = .ro (rows File.ty.cs xs) xs.length ∧ s.ρ 3 = .ref 3 0 ∧ s.ρ 5 = .sl 8 0 i.2.2.1.length 2 false ∧ s.ρ 6 = .sc (.bool i.2.2.2.v) ∧ s.ρ 7 = .sc (.int .i64 i.1.length) ∧
      s.h 3 = some (some [.sc (.string f.path), .sc (.string f.text)]) ∧ s.h 8 = some (some (rows File.ty.oc i.2.2.1)) ∧ s.h 37 = none ∧ s.h 38 = none ∧ s.h 44 = none ∧ s.h 45 = none ∧ s.h 50 = none ∧ s.h 51 = none ∧ s.n = 53) ([], xs, [], ⟨false⟩) (by simp [za, Yf]) ?_
  rintro ⟨pre, rest, out, ⟨done⟩⟩ ⟨ρ, hh, n⟩ ⟨hx, hE, hle, h0', h3', h5', h6', h7', k3, k8, f1, f2, f3, f4, f5, f6, rfl⟩
  simp only at hx hE hle h0' h3' h5' h6' h7' k3 k8 f1 f2 f3 f4 f5 f6
  refine yg (n := 400) ?_
  have hpl : pre.length + rest.length = xs.length := by rw [← hx]; simp
  have hol : out.length ≤ pre.length + 1 := by split at hle <;> omega
  have hc1 : (out.length + 1) * 32 ≤ 140737488355328 := by omega
  cases rest with
  | nil =>
    simp at hx
    obtain ⟨xs0, hx0⟩ : ∃ xs0, xs0 = xs := ⟨_, rfl⟩
    rw [← hx0] at hE ⊢
    rw [hx0]
    have hpx : pre.length = xs.length := by rw [hx]
    simp [h0', h7', hpx]
    refine T.on 400 ?_
    rw [← hx0] at *
    cases done
    · have hfin : rows File.ty.oc out ++ [.sc (.string f.path), .sc (.string f.text)] = rows File.ty.oc (putF f xs0 false) := by rw [← hE, Yd, putF]; simp [yc, Yf, File.oce]
      have hlen : (putF f xs0 false).length = out.length + 1 := by rw [← hE, putF]; simp
      have hid : zb.idfreeL (rows File.ty.oc (putF f xs0 false)) = true := File.frL _
      simp [h3', h5', h6', k3, k8, f5, f6, over, File.ocl, hc1, ex1, hfin, hlen, hid]
    · have hE2 : out = putF f xs0 false := by rw [← hE, putF]; simp
      simp [h5', h6', k8, ex1, File.ocl, File.frL, hE2]
  | cons x rest =>
    have hlt : (pre.length : Int) < xs.length := by simp only [List.length_cons] at hpl; omega
    have hlt2 : pre.length < xs.length := by omega
    have hd := ye File.ty.csn pre (x :: rest)
    rw [hx, yc] at hd
    have hd : List.drop (pre.length * 2) (rows File.ty.cs xs) = AV.sc (.string x.path) :: AV.sc (.string x.text) :: rows File.ty.cs rest := hd
    have hw : IntKind.i64.wrap ((pre.length : Int) + 1) = pre.length + 1 := zc (by omega) (by omega)
    have hap : ∀ (l : List File) (g : File), rows File.ty.oc l ++ [.sc (.string g.path), .sc (.string g.text)] = rows File.ty.oc (l ++ [g]) := fun l g => by rw [Yd]; simp [yc, Yf, File.oce]
    simp [h0', h7', hlt]
    refine T.text 400 mixed (by kernel_rfl) (by kernel_rfl) ?_
    by_cases hk : x.path.toList = f.path.toList
    case pos =>
      simp [h0', h3', h7', k3, hlt, hlt2, hd, hk, hw]
      refine ⟨pre ++ [x], rest, by simp, out, ⟨done⟩, _, Le.refl _, ?_⟩
      simp [hx, h0', h3', h5', h6', k3, k8, f1, f2, f3, f4, f5, f6, za]
      rw [putF, if_pos hk] at hE
      exact ⟨hE, by omega⟩
    rw [putF, if_neg hk] at hE
    have hk2 : (x.path.toList == f.path.toList) = false := by simpa using hk
    simp only [List.length_cons] at hpl
    simp [h0', h3', h7', k3, hlt, hlt2, hd, hk, hw]
    refine T.text 400 mixed (by kernel_rfl) (by kernel_rfl) ?_
    cases done
    case true =>
      simp at hE hle
      have hc2 : (out.length + 1) * 32 ≤ 140737488355328 := by omega
      simp [h0', h3', h5', h6', h7', k3, k8, f3, f4, hlt, hlt2, hd, hw, over, File.ocl, hc2, hap]
      refine ⟨pre ++ [x], rest, by simp, out ++ [x], ⟨true⟩, _, Le.reseat [0, 3, 5, 6, 7] [(45, 8), (3, 3)] (by simp) (by simp [za, menB, zb, h0', h3', h6']) ?_, ?_⟩
      · intro b hb cs hcs
        simp at hb
        rcases hb with rfl | rfl
        · simp [za] at hcs
          subst hcs
          exact zfq _
        · simp [za, k3] at hcs
          subst hcs
          simp [zb]
      · simp [hx, h0', h3', h6', k3, za, hE]
        omega
    simp at hle
    cases hg : Op.bytesLess x.path.toList f.path.toList
    case false =>
      have hgt : gtrP x.path f.path = true := by simp [gtrP, hg, hk2]
      simp [hgt] at hE
      have hc2 : (out.length + 1) * 32 ≤ 140737488355328 := by omega
      have hc4 : out.length + 1 + 1 ≤ xs.length + 1 := by omega
      have hc3 : (out.length + 1 + 1) * 32 ≤ 140737488355328 := Nat.le_trans (Nat.mul_le_mul_right 32 hc4) (Nat.le_trans (Nat.le_of_eq (Nat.succ_mul xs.length 32)) (Nat.le_trans (Nat.add_le_add_right hb 32) (by decide)))
      simp [h0', h3', h5', h6', h7', k3, k8, f1, f2, f3, f4, hlt, hlt2, hd, hw, hk, hk2, hg, over, File.ocl, hc2, hc3, hap]
      refine ⟨pre ++ [x], rest, by simp, out ++ [f, x], ⟨true⟩, _, Le.reseat [0, 3, 5, 6, 7] [(45, 8), (3, 3)] (by simp) (by simp [za, menB, zb, h0', h3', h6']) ?_, ?_⟩
      · intro b hb cs hcs
        simp at hb
        rcases hb with rfl | rfl
        · simp [za] at hcs
          subst hcs
          exact zfq _
        · simp [za, k3] at hcs
          subst hcs
          simp [zb]
      · simp [hx, h0', h3', h6', k3, za, hE]
        omega
    case true =>
      have hgt : gtrP x.path f.path = false := by simp [gtrP, hg, hk2]
      simp [hgt] at hE
      have hc2 : (out.length + 1) * 32 ≤ 140737488355328 := hc1
      simp [h0', h3', h5', h6', h7', k3, k8, f1, f2, f3, f4, hlt, hlt2, hd, hw, hk, hk2, hg, over, File.ocl, hc2, hap]
      refine ⟨pre ++ [x], rest, by simp, out ++ [x], ⟨false⟩, _, Le.reseat [0, 3, 5, 6, 7] [(45, 8), (3, 3)] (by simp) (by simp [za, menB, zb, h0', h3', h6']) ?_, ?_⟩
      · intro b hb cs hcs
        simp at hb
        rcases hb with rfl | rfl
        · simp [za] at hcs
          subst hcs
          exact zfq _
        · simp [za, k3] at hcs
          subst hcs
          simp [zb]
      · simp [hx, h0', h3', h6', k3, za, hE]
        omega
def above (p : Option ByteArray) (x : ByteArray) : Bool := match p with | none => true | some q => Op.bytesLess q.toList x.toList
def YA : Option ByteArray → List File → Bool
  | _, [] => true
  | p, x :: l => yN x.path && (decide (x.text.size ≤ 60) && (above p x.path && YA (some x.path) l))
def lastP : List File → Option ByteArray
  | [] => none
  | x :: l => match lastP l with | some p => some p | none => some x.path
theorem zT : ∀ (l : List File) (x : File), lastP (l ++ [x]) = some x.path
  | [], x => rfl
  | y :: l, x => by simp only [List.cons_append, lastP, zT l x]
def Yw (xs : List File) : Bool := YA none xs && decide (xs.length ≤ 30)
def A179 : AC := (.seq (.ops [qO 2 (.mov (.c (.sc (.bool false))))])
  (.seq (.seq (.ops [qO 3 (.mov (iC 0))])
  (.block 0 (.loop (.seq (.seq (.ops [qO 4 (.mov (.t 3)), qO 5 (.mov (.t 0)), qO 6 (.llen (.t 5)), qO 7 (.bin .lss (.t 4) (.t 6))])
  (.cond (.t 7) .skip
  (.exit 0)))
  (.seq (.block 1 (.seq (.any [(qO 10 (.mov (.t 0)), []), (qO 11 (.mov (.t 3)), []), (qO 12 (.iadr 2 (.t 10) (.t 11)), [0, 1]), (qO 13 (.fadr 0 (.t 12)), [2]), (qO 14 (.load false 1 (.t 13)), [3]), (cO 15 189 [.t 14], [4]), (qO 16 (.not (.t 15)), [5]), (qO 17 (.mov (.t 16)), [6, 5]), (qG 18 17 false (.mov (.t 0)), [7]), (qG 19 17 false (.mov (.t 3)), [7]), (qG 20 17 false (.iadr 2 (.t 18) (.t 19)), [8, 9, 7]), (qG 21 17 false (.fadr 1 (.t 20)), [10, 7]), (qG 22 17 false (.load false 1 (.t 21)), [11, 7]), (qG 23 17 false (.slen (.t 22)), [12, 7]), (qG 24 17 false (.bin .gtr (.t 23) (iC 60)), [13, 7]), (qO 25 (.pick (.t 17) (.c (.sc (.bool true))) (.t 24)), [7, 14]), (qO 26 (.mov (.t 25)), [15, 7]), (qG 27 26 false (.mov (.t 3)), [16]), (qG 28 26 false (.bin .gtr (.t 27) (iC 0)), [17, 16]), (qG 29 26 false (.mov (.t 28)), [18, 16, 16]), (qG 30 29 true (.mov (.t 0)), [19]), (qG 31 29 true (.mov (.t 3)), [19]), (qG 32 29 true (.bin .sub (.t 31) (iC 1)), [21, 19]), (qG 33 29 true (.iadr 2 (.t 30) (.t 32)), [20, 22, 19]), (qG 34 29 true (.fadr 0 (.t 33)), [23, 19]), (qG 35 29 true (.load false 1 (.t 34)), [24, 19]), (qG 36 29 true (.mov (.t 0)), [19]), (qG 37 29 true (.mov (.t 3)), [19]), (qG 38 29 true (.iadr 2 (.t 36) (.t 37)), [26, 27, 19]), (qG 39 29 true (.fadr 0 (.t 38)), [28, 19]), (qG 40 29 true (.load false 1 (.t 39)), [29, 19]), (qG 41 29 true (.bin .geq (.t 35) (.t 40)), [25, 30, 19]), (qG 42 26 false (.pick (.t 29) (.t 41) (.c (.sc (.bool false)))), [19, 31, 16]), (qO 43 (.pick (.t 26) (.c (.sc (.bool true))) (.t 42)), [16, 32])])
  (.cond (.t 43) (.seq (.ops [qO 2 (.mov (.c (.sc (.bool false))))])
  .ret)
  .skip)))
  (.ops [qO 8 (.mov (.t 3)), qO 9 (.bin .add (.t 8) (iC 1)), qO 3 (.mov (.t 9))]))))))
  (.seq (.ops [qO 44 (.mov (.t 0)), qO 45 (.llen (.t 44)), qO 46 (.bin .leq (.t 45) (iC 30)), qO 2 (.mov (.t 46))])
  .ret)))
theorem K179 : Kf Tryz.prog Tryz.f179 A179 47 [.mov (.t 2)] := ⟨by kernel_rfl, by kernel_rfl, by kernel_rfl⟩
set_option maxHeartbeats 2000000 in
set_option maxRecDepth 100000 in
theorem R179 (xs : List File) (hb : xs.length < 4611686018427387904) (hp : ∀ x ∈ xs, x.path.size ≤ 1048576) : Ret Tryz.prog 179 [.ro (rows File.ty.cs xs) xs.length] (.sc (.bool (Yw xs))) [.un] := by
  refine Ret.run Tryz.func179 K179 (by simp) rfl rfl 900 ?_
  simp [A179, iniρ]
  refine T.rounds (μ := fun i : List File × List File => i.2.length)
    (fun i s => i.1 ++ i.2 = xs ∧ YA (lastP i.1) i.2 = YA none xs ∧ s.ρ 0 = .ro (rows File.ty.cs xs) xs.length ∧ s.ρ 3 = .sc (.int .i64 i.1.length) ∧ s.h = h0 ∧ s.n = 47) ([], xs) (by simp [za, lastP]) ?_
  rintro ⟨pre, rest⟩ ⟨ρ, hh, n⟩ ⟨hx, hE, k0, k3, rfl, rfl⟩
  simp only at hx hE k0 k3
  refine yg (n := 400) ?_
  cases rest with
  | nil =>
    have hxl : pre.length = xs.length := by rw [← hx]; simp
    have hA : YA none xs = true := by rw [← hE]; cases lastP pre <;> rfl
    simp [k0, k3, hxl]
    refine T.on 400 ?_
    simp [k0, Yw, hA]
    try omega
  | cons x rest =>
    have hle : pre.length + (rest.length + 1) = xs.length := by rw [← hx]; simp
    have hlt : (pre.length : Int) < xs.length := by omega
    have hlt2 : pre.length < xs.length := by omega
    have hw : IntKind.i64.wrap ((pre.length : Int) + 1) = pre.length + 1 := zc (by omega) (by omega)
    have hd := ye File.ty.csn pre (x :: rest)
    rw [hx, yc] at hd
    have hd : List.drop (pre.length * 2) (rows File.ty.cs xs) = AV.sc (.string x.path) :: AV.sc (.string x.text) :: rows File.ty.cs rest := hd
    have hd1 : List.drop (pre.length * 2 + 1) (rows File.ty.cs xs) = AV.sc (.string x.text) :: rows File.ty.cs rest := by rw [← List.drop_drop, hd]; rfl
    have hxp := hp x (by rw [← hx]; simp)
    have stop : ∀ c, (yN x.path && (decide (x.text.size ≤ 60) && above (lastP pre) x.path)) = c → c = false → Yw xs = false := fun c h1 h2 => by
      subst h2
      have : YA none xs = false := by
        rw [← hE, YA]
        cases h5 : yN x.path <;> cases h6 : decide (x.text.size ≤ 60) <;> cases h7 : above (lastP pre) x.path <;> simp_all
      simp [Yw, this]
    simp [k0, k3, hlt]
    refine T.text 400 mixed (by kernel_rfl) (by kernel_rfl) ?_
    simp [k0, k3, hlt, hlt2, hd]
    refine zbQ.by rfl (by kernel_rfl) rfl (R189 x.path hxp) ?_
    cases h1 : yN x.path
    · have := stop _ rfl (by simp [h1])
      simp [this]
    by_cases h2 : x.text.size ≤ 60
    case neg =>
      have := stop _ rfl (by simp [h2])
      have h2' : (60 : Int) < x.text.size := by omega
      simp [k0, k3, hlt, hlt2, hd1, h2', this]
    have h2' : ¬ ((60 : Int) < x.text.size) := by omega
    have fin : above (lastP pre) x.path = true → YA (some x.path) rest = YA none xs := fun h => by
      rw [← hE, YA, h1, h]; simp [h2]
    rcases List.eq_nil_or_concat pre with rfl | ⟨p0, q, ep⟩
    · simp at hlt hlt2 hd1 hw
      simp [k0, k3, hlt, hlt2, hd1, h2']
      refine ⟨[x], rest, by simp, _, Le.refl _, ?_⟩
      have hF := fin rfl
      simp at hx
      simp [hx, k0, za, lastP, hF, hw]
    rw [List.concat_eq_append] at ep
    subst ep
    have hq : List.drop (p0.length * 2) (rows File.ty.cs xs) = AV.sc (.string q.path) :: AV.sc (.string q.text) :: rows File.ty.cs (x :: rest) := by
      have h := ye File.ty.csn p0 (q :: x :: rest)
      have e : p0 ++ q :: x :: rest = xs := by rw [← hx]; simp
      rw [e, yc] at h
      exact h
    have hw0 : IntKind.i64.wrap (p0.length : Int) = p0.length := zc (by omega) (by simp only [List.length_append] at hle; omega)
    have hl0 : p0.length < xs.length := by simp only [List.length_append] at hle; omega
    rw [zT] at fin stop
    simp only [List.length_append, List.length_cons, List.length_nil, Nat.zero_add] at hlt hlt2 hd hd1 hw k3
    have hpos : (0 : Int) < (p0.length : Int) + 1 := by omega
    have hpos2 : (0 : Int) ≤ (p0.length : Int) + 1 := by omega
    have hlt3 : (p0.length : Int) + 1 < xs.length := by omega
    cases h3 : Op.bytesLess q.path.toList x.path.toList
    · have := stop _ rfl (by simp [above, h3])
      simp [k0, k3, hlt, hlt2, hd, hd1, h2', hpos, hpos2, hlt3, hw0, hl0, hq, h3, this]
    · have hF := fin (by simp [above, h3])
      simp [k0, k3, hlt, hlt2, hd, hd1, h2', hpos, hpos2, hlt3, hw0, hl0, hq, h3]
      refine ⟨p0 ++ [q] ++ [x], rest, by simp, _, Le.refl _, ?_⟩
      rw [zT]
      simp at hw hx
      simp [hx, k0, za, hF, hw]
      omega
theorem zb4 (f : File) : ∀ (xs : List File) (d : Bool), (putF f xs d).length ≤ xs.length + 1
  | [], d => by cases d <;> simp [putF]
  | x :: xs, d => by
    have h1 := zb4 f xs d
    rw [putF]
    split
    · simp; omega
    · split
      · have h3 : ∀ (xs : List File), (putF f xs true).length ≤ xs.length := by
          intro xs
          induction xs with
          | nil => simp [putF]
          | cons y ys ih =>
            rw [putF]
            split
            · simp; omega
            · simp; omega
        have := h3 xs
        simp; omega
      · simp; omega
theorem zak (f : File) : ∀ (xs : List File) (d : Bool), ∀ x ∈ putF f xs d, x = f ∨ x ∈ xs
  | [], d, x, h => by cases d <;> simp [putF] at h; exact .inl h
  | y :: ys, d, x, h => by
    rw [putF] at h
    split at h
    · exact (zak f ys d x h).imp id (List.mem_cons_of_mem _)
    · split at h
      · rcases List.mem_cons.1 h with rfl | h
        · exact .inl rfl
        · rcases List.mem_cons.1 h with rfl | h
          · exact .inr (List.mem_cons_self ..)
          · exact (zak f ys true x h).imp id (List.mem_cons_of_mem _)
      · rcases List.mem_cons.1 h with rfl | h
        · exact .inr (List.mem_cons_self ..)
        · exact (zak f ys d x h).imp id (List.mem_cons_of_mem _)
def yh (xs : List File) (f : File) : List File × Bool := if Yw (putF f xs false) = true then (putF f xs false, true) else (xs, false)
def A105 : AC := (.seq (.ops [wO 3 (.box (.t 1)), qO 4 (.mov (.c .em)), qO 5 (.mov (.c (.sc (.bool false))))])
  (.seq (.ops [qO 7 (.mov (.t 0)), qO 8 (.load true 2 (.t 3)), cO 9 178 [.t 7, .t 8], qO 6 (.mov (.t 9))])
  (.seq (.seq (.ops [qO 10 (.mov (.t 6)), cO 11 179 [.t 10], qO 12 (.not (.t 11))])
  (.cond (.t 12) (.seq (.ops [wO 13 (.bsl 2 0 [] []), qO 14 (.mov (.t 0)), wO 15 (.app 2 32 false (.t 13) (.t 14)), qO 4 (.mov (.t 15)), qO 5 (.mov (.c (.sc (.bool false))))])
  .ret)
  .skip))
  (.seq (.ops [qO 16 (.mov (.t 6)), qO 4 (.mov (.t 16)), qO 5 (.mov (.c (.sc (.bool true))))])
  .ret))))
theorem K105 : Kf Tryz.prog Tryz.f105 A105 17 [.mov (.t 4), .mov (.t 5)] := ⟨by kernel_rfl, by kernel_rfl, by kernel_rfl⟩
theorem R105 (xs : List File) (f : File) (hok : File.ty.slice.ok xs) (hp : ∀ x ∈ xs, x.path.size ≤ 1048576) (hf : f.path.size ≤ 1048576) : Ret Tryz.prog 105 [.ro (rows File.ty.cs xs) xs.length, .agg (File.ty.cs f)] (.tup [.own (rows File.ty.oc (yh xs f).1) (yh xs f).1.length 2, .sc (.bool (yh xs f).2)]) [.un, .un] := by
  have hb : xs.length * 32 ≤ 140737488351232 := hok.1
  obtain ⟨ys, hys⟩ : ∃ ys, ys = putF f xs false := ⟨_, rfl⟩
  have rp := R178 xs f hok
  have hl := zb4 f xs false
  have hm := zak f xs false
  rw [← hys] at rp hl hm
  have rf := R179 ys (by omega) (fun x hx => (hm x hx).elim (fun e => e ▸ hf) (hp x))
  refine Ret.run Tryz.func105 K105 (by simp) rfl rfl 900 ?_
  simp [A105, iniρ, File.cse, over]
  refine callK.own 9 rfl (by kernel_rfl) (by simp [ze, Zg]; rfl) rp (File.ty.flo ys) (by simp [za]) rfl ?_
  simp
  refine callK.ro 0 rfl (by kernel_rfl) (by simp [File.roc8]) rf rfl rfl rfl ?_
  have hcap : xs.length * 32 ≤ 140737488355328 := by omega
  have hsc := zgt xs
  have hfe : rows File.ty.cs xs = rows File.ty.oc xs := rfl
  cases h : Yw ys
  · simp [yh, ← hys, h, over, hcap, hfe, hsc, File.ocl, ex1, File.frL]
  · simp [yh, ← hys, h, ex1, File.ocl, File.frL]
theorem zbu (s : ByteArray) (i j : Nat) : (s.extract i j).data.toList = (s.data.toList.take j).drop i := by
  rw [ByteArray.data_extract, Array.toList_extract, List.extract_eq_take_drop, List.drop_take]
theorem Z0 (c : UInt8) : ∀ l : List UInt8, (Lib.indexByte l c = -1 ∧ c ∉ l) ∨ ∃ p q, l = p ++ c :: q ∧ c ∉ p ∧ Lib.indexByte l c = (p.length : Int)
  | [] => .inl ⟨rfl, by simp⟩
  | x :: l => by
    by_cases h : x = c
    · subst h
      exact .inr ⟨[], l, rfl, by simp, by simp [Lib.indexByte]⟩
    · have h2 : (x == c) = false := by simpa using h
      rcases Z0 c l with ⟨e, hn⟩ | ⟨p, q, e, hn, e2⟩
      · left
        refine ⟨by simp [Lib.indexByte, h2, e], fun hm => ?_⟩
        rcases List.mem_cons.1 hm with e2 | e2
        · exact h e2.symm
        · exact hn e2
      · right
        refine ⟨x :: p, q, by rw [e]; rfl, fun hm => ?_, ?_⟩
        · rcases List.mem_cons.1 hm with e3 | e3
          · exact h e3.symm
          · exact hn e3
        · have h3 : (Lib.indexByte l c == -1) = false := by rw [e2]; simp
          rw [Lib.indexByte, h2, h3, e2]
          simp
theorem u8_eq {x c : UInt8} : ((x.toNat : Int) = (c.toNat : Int)) ↔ x = c := ⟨fun h => UInt8.toNat_inj.1 (by omega), fun h => by rw [h]⟩
theorem ZU (s : ByteArray) (c : UInt8) (f : Nat) : ∀ (l : List UInt8) (i : Nat), c ∉ l → Zx s (c.toNat : Int) f i l = [s.extract f (i + l.length)]
  | [], i, _ => rfl
  | x :: l, i, h => by
    have hx : ¬ ((x.toNat : Int) = (c.toNat : Int)) := fun e => h (by rw [u8_eq.1 e]; exact List.mem_cons_self ..)
    rw [Zx, if_neg hx, ZU s c f l (i + 1) (fun hm => h (List.mem_cons_of_mem _ hm))]
    congr 2
    simp only [List.length_cons]; omega
theorem Z4 (s : ByteArray) (c : UInt8) (f : Nat) (q : List UInt8) : ∀ (p : List UInt8) (i : Nat), c ∉ p → Zx s (c.toNat : Int) f i (p ++ c :: q) = s.extract f (i + p.length) :: Zx s (c.toNat : Int) (i + p.length + 1) (i + p.length + 1) q
  | [], i, _ => by rw [List.nil_append, Zx, if_pos rfl]; rfl
  | x :: p, i, h => by
    have hx : ¬ ((x.toNat : Int) = (c.toNat : Int)) := fun e => h (by rw [u8_eq.1 e]; exact List.mem_cons_self ..)
    rw [List.cons_append, Zx, if_neg hx, Z4 s c f q p (i + 1) (fun hm => h (List.mem_cons_of_mem _ hm))]
    have e : i + 1 + p.length = i + (x :: p).length := by simp only [List.length_cons]; omega
    rw [e]
theorem yK (s : ByteArray) (c : UInt8) : ∀ (l : List UInt8) (f i : Nat), (Zx s (c.toNat : Int) f i l).length = l.count c + 1
  | [], _, _ => rfl
  | x :: l, f, i => by
    rw [Zx]
    by_cases h : x = c
    · rw [if_pos (u8_eq.2 h), List.length_cons, yK s c l, h, List.count_cons_self]
    · rw [if_neg (fun e => h (u8_eq.1 e)), yK s c l, List.count_cons_of_ne (fun e => h (by simpa using e))]
theorem R242 (s : ByteArray) (c : UInt8) : Ret Tryz.prog 242 [.sc (.string s), .sc (.string ⟨#[c]⟩)] (.sc (.int .i64 (Lib.indexByte s.data.toList c))) [.un, .un] :=
  Ret.twoOf rfl rfl rfl fun w => Any.strings_Index_one Tryz.lays143 s c w
theorem R193 (s : ByteArray) (c : UInt8) : Ret Tryz.prog 193 [.sc (.string s), .sc (.string ⟨#[c]⟩)] (.sc (.int .i64 (Lib.indexByte s.data.toList c))) [.un, .un] :=
  Ret.twoOf rfl rfl rfl fun w => Any.stringslite_Index_one Tryz.lays219 s c w
theorem R241 (s : ByteArray) (c : UInt8) : Ret Tryz.prog 241 [.sc (.string s), .sc (.string ⟨#[c]⟩)] (.sc (.int .i64 (Lib.countByte s.data.toList c))) [.un, .un] :=
  Ret.twoOf rfl rfl rfl fun w => Any.strings_Count_one Tryz.lays138 s c w
def cutF (s : ByteArray) (c : UInt8) : ByteArray × ByteArray × Bool :=
  if 0 ≤ Lib.indexByte s.data.toList c then (s.extract 0 (Lib.indexByte s.data.toList c).toNat, s.extract ((Lib.indexByte s.data.toList c).toNat + 1) s.size, true) else (s, ⟨#[]⟩, false)
def zbn (x : ByteArray × ByteArray × Bool) : AV := .tup [.sc (.string x.1), .sc (.string x.2.1), .sc (.bool x.2.2)]
def A123 : AC := (.seq (.ops [qO 4 (.mov (.c (.sc (.string ⟨#[]⟩)))), qO 5 (.mov (.c (.sc (.string ⟨#[]⟩)))), qO 6 (.mov (.c (.sc (.bool false))))])
  (.seq (.seq (.ops [qO 8 (.mov (.t 0)), qO 9 (.mov (.t 1)), cO 10 193 [.t 8, .t 9], qO 7 (.mov (.t 10))])
  (.seq (.ops [qO 11 (.mov (.t 7)), qO 12 (.bin .geq (.t 11) (iC 0))])
  (.cond (.t 12) (.seq (.any [(qO 13 (.mov (.t 0)), []), (qO 14 (.mov (.t 7)), []), (qO 15 (.subs (.t 13) none (some (.t 14))), [0, 1]), (qO 16 (.mov (.t 0)), []), (qO 17 (.mov (.t 7)), []), (qO 18 (.mov (.t 1)), []), (qO 19 (.slen (.t 18)), [5]), (qO 20 (.bin .add (.t 17) (.t 19)), [4, 6]), (qO 21 (.subs (.t 16) (some (.t 20)) none), [3, 7]), (qO 4 (.mov (.t 15)), [2, 0, 1, 2]), (qO 5 (.mov (.t 21)), [8, 9, 0, 1, 2, 3, 4, 5, 6, 7, 8, 9]), (qO 6 (.mov (.c (.sc (.bool true)))), [10, 0, 1, 2, 3, 4, 5, 6, 7, 8, 9, 10])])
  .ret)
  .skip)))
  (.seq (.ops [qO 22 (.mov (.t 0)), qO 4 (.mov (.t 22)), qO 5 (.mov (.c (.sc (.string ⟨#[]⟩)))), qO 6 (.mov (.c (.sc (.bool false))))])
  .ret)))
theorem K123 : Kf Tryz.prog Tryz.f123 A123 23 [.mov (.t 4), .mov (.t 5), .mov (.t 6)] := ⟨by kernel_rfl, by kernel_rfl, by kernel_rfl⟩
theorem R123 (s : ByteArray) (c : UInt8) (hs : s.size ≤ 140737488351232) : Ret Tryz.prog 123 [.sc (.string s), .sc (.string ⟨#[c]⟩)] (zbn (cutF s c)) [.un, .un] := by
  refine Ret.run Tryz.func123 K123 (by simp) rfl rfl 500 ?_
  simp [A123, iniρ]
  refine callK.ro 0 rfl (by kernel_rfl) (by simp [Yc]) (R193 s c) rfl rfl rfl ?_
  rcases Z0 c s.data.toList with ⟨e, hn⟩ | ⟨p, q, e, hn, e2⟩
  · simp [e, cutF, zbn]
  · have hsz := zL e.symm
    have hl : p.length + 1 ≤ s.size := by rw [hsz]; simp
    have h0 : (0 : Int) ≤ p.length := by omega
    have hw : IntKind.i64.wrap ((p.length : Int) + 1) = p.length + 1 := zc (by omega) (by omega)
    have h1 : (0 : Int) ≤ (p.length : Int) + 1 := by omega
    have h2 : ((p.length : Int) + 1).toNat = p.length + 1 := by omega
    have h3 : p.length ≤ s.size := by omega
    have hc : (⟨#[c]⟩ : ByteArray).size = 1 := rfl
    simp [e2, h0]
    refine T.text 400 mixed (by kernel_rfl) (by kernel_rfl) ?_
    simp [e2, h0, h1, h2, h3, hw, hl, hc, cutF, zbn]
def A60 : AC := (.seq (.ops [qO 4 (.mov (.c (.sc (.string ⟨#[]⟩)))), qO 5 (.mov (.c (.sc (.string ⟨#[]⟩)))), qO 6 (.mov (.c (.sc (.bool false))))])
  (.seq (.ops [qO 7 (.mov (.t 0)), qO 8 (.mov (.t 1)), cO 9 123 [.t 7, .t 8], qO 10 (.ext (.t 9) 0), qO 11 (.ext (.t 9) 1), qO 12 (.ext (.t 9) 2), qO 4 (.mov (.t 10)), qO 5 (.mov (.t 11)), qO 6 (.mov (.t 12))])
  .ret))
theorem K60 : Kf Tryz.prog Tryz.f60 A60 13 [.mov (.t 4), .mov (.t 5), .mov (.t 6)] := ⟨by kernel_rfl, by kernel_rfl, by kernel_rfl⟩
theorem R60 (s : ByteArray) (c : UInt8) (hs : s.size ≤ 140737488351232) : Ret Tryz.prog 60 [.sc (.string s), .sc (.string ⟨#[c]⟩)] (zbn (cutF s c)) [.un, .un] := by
  refine Ret.run Tryz.func60 K60 (by simp) rfl rfl 500 ?_
  simp [A60, iniρ]
  refine callK.ro 0 rfl (by kernel_rfl) (by simp [Yc]) (R123 s c hs) rfl (by simp [zbn, inst, instL, shut]; exact ⟨rfl, rfl⟩) rfl ?_
  simp [zbn]
theorem zd2 {s : ByteArray} {f : Nat} : (s.extract f s.size).data.toList = s.data.toList.drop f := by
  rw [zbu, show s.size = s.data.toList.length by rw [Array.length_toList]; rfl, List.take_length]
theorem extr0 {s : ByteArray} {f m : Nat} (h : f + m ≤ s.size) : (s.extract f s.size).extract 0 m = s.extract f (f + m) := by
  rw [ByteArray.extract_extract, Nat.add_zero, Nat.min_eq_left h]
theorem extr1 {s : ByteArray} {f m n : Nat} (h : s.size ≤ f + n) : (s.extract f s.size).extract m n = s.extract (f + m) s.size := by
  rw [ByteArray.extract_extract, Nat.min_eq_right h]
theorem za2 (n : Nat) (x : ByteArray) : rows Ty.str.oc (List.replicate n x) = List.replicate n (.sc (.string x)) := by
  induction n with
  | zero => rfl
  | succ n ih => rw [List.replicate_succ, List.replicate_succ, yc, ih]; rfl
theorem zdF (l : List ByteArray) (n : Nat) (x : ByteArray) : over (rows Ty.str.oc (l ++ List.replicate (n + 1) ⟨#[]⟩)) l.length [.sc (.string x)] = rows Ty.str.oc ((l ++ [x]) ++ List.replicate n ⟨#[]⟩) := by
  rw [Yd, Yd, Yd, za2, za2, List.replicate_succ]
  have e : (rows Ty.str.oc l).length = l.length := by rw [Yb Ty.str.ocn]; exact Nat.mul_one _
  show (rows Ty.str.oc l ++ AV.sc (.string ⟨#[]⟩) :: List.replicate n (AV.sc (.string ⟨#[]⟩))).set l.length (.sc (.string x)) = _
  rw [← e, List.set_append_right _ _ (Nat.le_refl _), Nat.sub_self]
  show _ = (rows Ty.str.oc l ++ [AV.sc (.string x)]) ++ _
  simp
def A197 : AC := (.seq (.ops [qO 8 (.mov (.c .em))])
  (.seq (.seq (.ops [qO 12 (.mov (.t 3)), qO 13 (.bin .eql (.t 12) (iC 0))])
  (.cond (.t 13) (.seq (.ops [qO 8 (.mov (.c .em))])
  .ret)
  .skip))
  (.seq (.seq (.ops [qO 14 (.mov (.t 1)), qO 15 (.bin .eql (.t 14) (.c (.sc (.string ⟨#[]⟩))))])
  (.cond (.t 15) (.seq (.ops [qO 16 (.mov (.t 0)), qO 17 (.mov (.t 3)), cO 18 240 [.t 16, .t 17], qO 8 (.mov (.t 18))])
  .ret)
  .skip))
  (.seq (.seq (.ops [qO 19 (.mov (.t 3)), qO 20 (.bin .lss (.t 19) (iC 0))])
  (.cond (.t 20) (.ops [qO 21 (.mov (.t 0)), qO 22 (.mov (.t 1)), cO 23 241 [.t 21, .t 22], qO 24 (.bin .add (.t 23) (iC 1)), qO 3 (.mov (.t 24))])
  .skip))
  (.seq (.ops [qO 25 (.mov (.t 3)), qO 26 (.mov (.t 0)), qO 27 (.slen (.t 26)), qO 28 (.bin .add (.t 27) (iC 1)), qO 29 (.mm true (.t 25) (.t 28)), qO 3 (.mov (.t 29))])
  (.seq (.ops [qO 30 (.mov (.t 3)), wO 31 (.mk 1 16 [(.sc (.string ⟨#[]⟩))] (.t 30) (.t 30)), qO 9 (.mov (.t 31))])
  (.seq (.ops [qO 32 (.mov (.t 3)), qO 33 (.bin .sub (.t 32) (iC 1)), qO 3 (.mov (.t 33))])
  (.seq (.ops [qO 10 (.mov (iC 0))])
  (.seq (.block 0 (.loop (.seq (.seq (.ops [qO 34 (.mov (.t 10)), qO 35 (.mov (.t 3)), qO 36 (.bin .lss (.t 34) (.t 35))])
  (.cond (.t 36) .skip
  (.exit 0)))
  (.block 1 (.seq (.ops [qO 37 (.mov (.t 0)), qO 38 (.mov (.t 1)), cO 39 242 [.t 37, .t 38], qO 11 (.mov (.t 39))])
  (.seq (.seq (.ops [qO 40 (.mov (.t 11)), qO 41 (.bin .lss (.t 40) (iC 0))])
  (.cond (.t 41) (.exit 0)
  .skip))
  (.seq (.ops [qO 42 (.mov (.t 9)), qO 43 (.mov (.t 10)), qO 44 (.mov (.t 0)), qO 45 (.mov (.t 11)), qO 46 (.mov (.t 2)), qO 47 (.bin .add (.t 45) (.t 46)), qO 48 (.subs (.t 44) none (some (.t 47))), qO 49 (.iadr 1 (.t 42) (.t 43)), nO (.store 1 (.t 49) (.t 48))])
  (.seq (.ops [qO 50 (.mov (.t 0)), qO 51 (.mov (.t 11)), qO 52 (.mov (.t 1)), qO 53 (.slen (.t 52)), qO 54 (.bin .add (.t 51) (.t 53)), qO 55 (.subs (.t 50) (some (.t 54)) none), qO 0 (.mov (.t 55))])
  (.ops [qO 56 (.mov (.t 10)), qO 57 (.bin .add (.t 56) (iC 1)), qO 10 (.mov (.t 57))])))))))))
  (.seq (.ops [qO 58 (.mov (.t 9)), qO 59 (.mov (.t 10)), qO 60 (.mov (.t 0)), qO 61 (.iadr 1 (.t 58) (.t 59)), nO (.store 1 (.t 61) (.t 60))])
  (.seq (.ops [qO 62 (.mov (.t 9)), qO 63 (.mov (.t 10)), qO 64 (.bin .add (.t 63) (iC 1)), qO 65 (.subl 1 (.t 62) none (some (.t 64))), qO 8 (.mov (.t 65))])
  .ret)))))))))))
theorem K197 : Kf Tryz.prog Tryz.f197 A197 66 [.mov (.t 8)] := ⟨by kernel_rfl, by kernel_rfl, by kernel_rfl⟩
set_option maxHeartbeats 1000000 in
theorem R197 (s : ByteArray) (c : UInt8) (hs : s.size ≤ 1048576) : Ret Tryz.prog 197 [.sc (.string s), .sc (.string ⟨#[c]⟩), .sc (.int .i64 0), .sc (.int .i64 (-1))] (.own (rows Ty.str.oc (Yq s c.toNat)) (Yq s c.toNat).length 1) [.un, .un, .un, .un] := by
  obtain ⟨N, hN⟩ : ∃ N, N = s.data.toList.count c := ⟨_, rfl⟩
  have hlen : (Yq s c.toNat).length = N + 1 := by rw [hN]; exact yK s c s.data.toList 0 0
  have hNs : N ≤ s.size := by rw [hN, show s.size = s.data.toList.length by rw [Array.length_toList]; rfl]; exact List.count_le_length
  have hC := R241 s c
  rw [show Lib.countByte s.data.toList c = N from hN.symm] at hC
  have hcc : (⟨#[c]⟩ : ByteArray).size = 1 := rfl
  have hne : ¬ ((⟨#[c]⟩ : ByteArray).toList = []) := by rw [Lib.toList_data]; simp
  have w1 : IntKind.i64.wrap ((N : Int) + 1) = N + 1 := zc (by omega) (by omega)
  have w2 : IntKind.i64.wrap ((s.size : Int) + 1) = s.size + 1 := zc (by omega) (by omega)
  have w3 : IntKind.i64.wrap ((N : Int) + 1 - 1) = N := by rw [show (N : Int) + 1 - 1 = N by omega]; exact zc (by omega) (by omega)
  have hmin : min ((N : Int) + 1) (s.size + 1) = N + 1 := by omega
  refine Ret.run Tryz.func197 K197 (by simp) rfl rfl 900 ?_
  simp [A197, iniρ, hne]
  refine callK.ro 0 rfl (by kernel_rfl) (by simp [Yc]) hC rfl rfl rfl ?_
  have n1 : ¬ (s.size < N) := by omega
  have n2 : (0 : Int) ≤ (N : Int) + 1 := by omega
  have n3 : ((N : Int) + 1) * 16 ≤ 281474976710656 := by omega
  have n4 : (N : Int) + 1 ≤ 9223372036854775807 := by omega
  have n5 : ((N : Int) + 1).toNat = N + 1 := by omega
  have w0 : IntKind.i64.wrap (N : Int) = N := zc (by omega) (by omega)
  simp [w1, w2, w3, n1, n2, n3, n4, n5]
  refine T.rounds (μ := fun i : List ByteArray × Nat × List UInt8 => i.2.2.length)
    (fun i t => i.2.1 ≤ s.size ∧ i.2.2 = s.data.toList.drop i.2.1 ∧ i.1 ++ Zx s c.toNat i.2.1 i.2.1 i.2.2 = Yq s c.toNat ∧ t.ρ 0 = .sc (.string (s.extract i.2.1 s.size)) ∧ t.ρ 1 = .sc (.string ⟨#[c]⟩) ∧ t.ρ 2 = .sc (.int .i64 0) ∧ t.ρ 3 = .sc (.int .i64 N) ∧ t.ρ 9 = .sl 31 0 (N + 1) 1 false ∧ t.ρ 10 = .sc (.int .i64 i.1.length) ∧
      t.h 31 = some (some (rows Ty.str.oc (i.1 ++ List.replicate (N + 1 - i.1.length) ⟨#[]⟩))) ∧ t.n = 66) ([], 0, s.data.toList) (by simp [za, Yq, za2, w0]) ?_
  rintro ⟨done, f, l⟩ ⟨ρ, hh, n⟩ ⟨hf, hl, hE, k0, k1, k2, k3, k9, k10, k31, rfl⟩
  simp only at hf hl hE k0 k1 k2 k3 k9 k10 k31
  have hn2 := congrArg List.length hE
  rw [List.length_append, yK, hlen] at hn2
  refine yg (n := 400) ?_
  have lt1 : (done.length : Int) ≤ N := by omega
  have hI := R242 (s.extract f s.size) c
  rw [zd2, ← hl] at hI
  have fsz : (s.extract f s.size).size = s.size - f := by rw [ByteArray.size_extract]; omega
  have hlsz : l.length = s.size - f := by rw [hl, List.length_drop]; rfl
  by_cases hlt : done.length < N
  case neg =>
    obtain rfl : done.length = N := by omega
    have hcn : c ∉ l := fun hm => by have := List.count_pos_iff.2 hm; omega
    rw [ZU s c f l f hcn] at hE
    have e2 : f + l.length = s.size := by omega
    rw [e2] at hE
    have hov := zdF done 0 (s.extract f s.size)
    rw [List.replicate_zero, List.append_nil, hE] at hov
    rw [show done.length + 1 - done.length = 0 + 1 by omega] at k31
    have hrl : (rows Ty.str.oc (done ++ List.replicate (0 + 1) (⟨#[]⟩ : ByteArray))).length = done.length + 1 := by rw [Yb Ty.str.ocn]; simp; exact Nat.mul_one _
    have hrs : (rows Ty.str.oc (Yq s c.toNat)).length = done.length + 1 := by rw [Yb Ty.str.ocn, hlen]; exact Nat.mul_one _
    have hid : zb.idfreeL (rows Ty.str.oc (Yq s c.toNat)) = true := Ty.str.frL _
    obtain ⟨R, hR⟩ : ∃ R, R = rows Ty.str.oc (done ++ List.replicate (0 + 1) (⟨#[]⟩ : ByteArray)) := ⟨_, rfl⟩
    rw [← hR] at k31 hov hrl
    have lt3 : (done.length : Int) < done.length + 1 := by omega
    have w5 : IntKind.i64.wrap ((done.length : Int) + 1) = done.length + 1 := w1
    simp [k3, k10]
    refine T.on 400 ?_
    simp [k0, k9, k10, k31, lt3, hrl, hov, w5, n2, n5, ex1, hrs, hid, hlen]
  rcases Z0 c l with ⟨e, hn⟩ | ⟨p, q, e, hn, e2⟩
  · have : l.count c = 0 := List.count_eq_zero.2 hn
    omega
  have hsz2 : p.length + (q.length + 1) = s.size - f := by rw [← hlsz, e]; simp
  have lt2 : (done.length : Int) < N := by omega
  have hov := zdF done (N - done.length) (s.extract f (f + p.length))
  rw [show N - done.length + 1 = N + 1 - done.length by omega, show N - done.length = N + 1 - (done.length + 1) by omega] at hov
  have hrl : (rows Ty.str.oc (done ++ List.replicate (N + 1 - done.length) (⟨#[]⟩ : ByteArray))).length = N + 1 := by rw [Yb Ty.str.ocn]; simp; show _ * 1 = _; omega
  obtain ⟨R, hR⟩ : ∃ R, R = rows Ty.str.oc (done ++ List.replicate (N + 1 - done.length) (⟨#[]⟩ : ByteArray)) := ⟨_, rfl⟩
  rw [← hR] at k31 hov hrl
  have x0 := extr0 (s := s) (f := f) (m := p.length) (by omega)
  have x1 := extr1 (s := s) (f := f) (m := p.length + 1) (n := s.size - f) (by omega)
  have wp : IntKind.i64.wrap (p.length : Int) = p.length := zc (by omega) (by omega)
  have wp1 : IntKind.i64.wrap ((p.length : Int) + 1) = p.length + 1 := zc (by omega) (by omega)
  have wd1 : IntKind.i64.wrap ((done.length : Int) + 1) = done.length + 1 := zc (by omega) (by omega)
  have q0 : ¬ ((p.length : Int) < 0) := by omega
  have q1 : (0 : Int) ≤ (p.length : Int) + 1 := by omega
  have q2 : ((p.length : Int) + 1).toNat = p.length + 1 := by omega
  have q3 : p.length ≤ s.size - f := by omega
  have q4 : p.length + 1 ≤ s.size - f := by omega
  have q5 : (done.length : Int) < N + 1 := by omega
  have q6 : done.length + 1 ≤ N + 1 := by omega
  rw [e2] at hI
  simp [k0, k1, k3, k10, lt2]
  refine callK.ro 0 rfl (by kernel_rfl) (by simp [Yc]) hI rfl rfl rfl ?_
  simp [k0, k1, k2, k9, k10, k31, lt2, q0, q1, q2, q3, q4, q5, q6, wp, wp1, wd1, fsz, hcc, hrl, hov, x0, x1]
  have hq : q = s.data.toList.drop (f + p.length + 1) := by
    have h := congrArg (List.drop (p.length + 1)) (hl.symm.trans e)
    rw [List.drop_drop, show p.length + 1 = (p ++ [c]).length by simp, show p ++ c :: q = (p ++ [c]) ++ q by simp, List.drop_left] at h
    rw [← h]; simp; congr 1
  refine ⟨done ++ [s.extract f (f + p.length)], f + p.length + 1, q, by rw [e]; simp; omega, _, Le.refl _, by omega, hq, ?_, ?_⟩
  · rw [e, Z4 s c f q p f hn] at hE
    rw [← hE]; simp
  · simp [za, k0, k1, k2, k3, k9, show f + (p.length + 1) = f + p.length + 1 by omega]
def A130 : AC := (.seq (.ops [qO 4 (.mov (.c .em))])
  (.seq (.ops [qO 5 (.mov (.t 0)), qO 6 (.mov (.t 1)), cO 7 197 [.t 5, .t 6, iC 0, (iC (-1))], qO 4 (.mov (.t 7))])
  .ret))
theorem K130 : Kf Tryz.prog Tryz.f130 A130 8 [.mov (.t 4)] := ⟨by kernel_rfl, by kernel_rfl, by kernel_rfl⟩
theorem R130 (s : ByteArray) (c : UInt8) (hs : s.size ≤ 1048576) : Ret Tryz.prog 130 [.sc (.string s), .sc (.string ⟨#[c]⟩)] (.own (rows Ty.str.oc (Yq s c.toNat)) (Yq s c.toNat).length 1) [.un, .un] := by
  have hl : (rows Ty.str.oc (Yq s c.toNat)).length = (Yq s c.toNat).length := by rw [Yb Ty.str.ocn]; exact Nat.mul_one _
  have hid : zb.idfreeL (rows Ty.str.oc (Yq s c.toNat)) = true := Ty.str.frL _
  refine Ret.run Tryz.func130 K130 (by simp) rfl rfl 500 ?_
  simp [A130, iniρ]
  refine callK.own 7 rfl (by kernel_rfl) (by simp [Yc]) (R197 s c hs) (Ty.str.flo _) (by simp) rfl ?_
  simp [ex1, hl, hid]
def A238 : AC := (.seq (.ops [qO 2 (.mov (.c (.sc (.bool false))))])
  (.seq (.ops [qO 3 (.mov (.t 0)), cO 4 124 [.t 3], qO 5 (.mov (.t 4)), qG 6 5 false (.mov (.t 0)), cG 7 5 false 125 [.t 6], qO 8 (.pick (.t 5) (.c (.sc (.bool true))) (.t 7)), qO 9 (.mov (.t 8)), qG 10 9 false (.mov (.t 0)), qG 11 9 false (.bin .eql (.t 10) (.c (.sc (.int .u8 46)))), qO 12 (.pick (.t 9) (.c (.sc (.bool true))) (.t 11)), qO 13 (.mov (.t 12)), qG 14 13 false (.mov (.t 0)), qG 15 13 false (.bin .eql (.t 14) (.c (.sc (.int .u8 45)))), qO 16 (.pick (.t 13) (.c (.sc (.bool true))) (.t 15)), qO 17 (.mov (.t 16)), qG 18 17 false (.mov (.t 0)), qG 19 17 false (.bin .eql (.t 18) (.c (.sc (.int .u8 95)))), qO 20 (.pick (.t 17) (.c (.sc (.bool true))) (.t 19)), qO 2 (.mov (.t 20))])
  .ret))
theorem K238 : Kf Tryz.prog Tryz.f238 A238 21 [.mov (.t 2)] := ⟨by kernel_rfl, by kernel_rfl, by kernel_rfl⟩
theorem R238 (c : UInt8) : Ret Tryz.prog 238 [.sc (.int .u8 c.toNat)] (.sc (.bool (lttI c.toNat))) [.un] := by
  refine Ret.run Tryz.func238 K238 (by simp) rfl rfl 500 ?_
  simp [A238, iniρ]
  refine callK.ro 0 rfl (by kernel_rfl) (by simp [Yc]) (R124 c) rfl rfl rfl ?_
  cases h1 : ZY (c.toNat : Int)
  case true => simp [lttI, h1]
  simp
  refine callK.ro 0 rfl (by kernel_rfl) (by simp [Yc]) (R125 c) rfl rfl rfl ?_
  cases h2 : figI (c.toNat : Int)
  case true => simp [lttI, h1, h2]
  by_cases h3 : (c.toNat : Int) = 46
  · simp [lttI, h1, h2, h3]
  by_cases h4 : (c.toNat : Int) = 45
  · simp [lttI, h1, h2, h3, h4]
  simp [lttI, h1, h2, h3, h4]
def A195 : AC := (.seq (.ops [qO 2 (.mov (.c (.sc (.bool false))))])
  (.seq (.seq (.ops [qO 3 (.mov (iC 0))])
  (.block 0 (.loop (.seq (.seq (.ops [qO 4 (.mov (.t 3)), qO 5 (.mov (.t 0)), qO 6 (.slen (.t 5)), qO 7 (.bin .lss (.t 4) (.t 6))])
  (.cond (.t 7) .skip
  (.exit 0)))
  (.seq (.block 1 (.seq (.ops [qO 10 (.mov (.t 0)), qO 11 (.mov (.t 3)), qO 12 (.idx (.t 10) (.t 11)), cO 13 238 [.t 12], qO 14 (.not (.t 13))])
  (.cond (.t 14) (.seq (.ops [qO 2 (.mov (.c (.sc (.bool false))))])
  .ret)
  .skip)))
  (.ops [qO 8 (.mov (.t 3)), qO 9 (.bin .add (.t 8) (iC 1)), qO 3 (.mov (.t 9))]))))))
  (.seq (.ops [qO 15 (.mov (.t 0)), qO 16 (.slen (.t 15)), cO 17 126 [.t 16, iC 1, iC 12], qO 18 (.mov (.t 17)), qG 19 18 true (.mov (.t 0)), qG 20 18 true (.bin .neq (.t 19) (.c (.sc (.string ⟨#[46]⟩)))), qO 21 (.pick (.t 18) (.t 20) (.c (.sc (.bool false)))), qO 22 (.mov (.t 21)), qG 23 22 true (.mov (.t 0)), qG 24 22 true (.bin .neq (.t 23) (.c (.sc (.string ⟨#[46, 46]⟩)))), qO 25 (.pick (.t 22) (.t 24) (.c (.sc (.bool false)))), qO 2 (.mov (.t 25))])
  .ret)))
theorem K195 : Kf Tryz.prog Tryz.f195 A195 26 [.mov (.t 2)] := ⟨by kernel_rfl, by kernel_rfl, by kernel_rfl⟩
theorem R195 (s : ByteArray) (hs : s.size ≤ 140737488351232) : Ret Tryz.prog 195 [.sc (.string s)] (.sc (.bool (Zl s))) [.un] := by
  refine Ret.run Tryz.func195 K195 (by simp) rfl rfl 500 ?_
  simp [A195, iniρ]
  refine T.rounds (μ := fun i : List UInt8 × List UInt8 => i.2.length)
    (fun i t => i.1 ++ i.2 = s.data.toList ∧ letL i.2 = letL s.data.toList ∧ t.ρ 0 = .sc (.string s) ∧ t.ρ 3 = .sc (.int .i64 i.1.length) ∧ t.h = h0 ∧ t.n = 26) ([], s.data.toList) (by simp [za]) ?_
  rintro ⟨pre, rest⟩ ⟨ρ, hh, n⟩ ⟨hx, hE, k0, k3, rfl, rfl⟩
  simp only at hx hE k0 k3
  have hsz := zL hx
  refine yg (n := 400) ?_
  cases rest with
  | nil =>
    simp at hsz
    simp [k0, k3, hsz]
    refine T.on 400 ?_
    simp [k0]
    refine callK.ro 0 rfl (by kernel_rfl) (by simp [Yc]) (R126 s.size 1 12) rfl rfl rfl ?_
    have hL : letL s.data.toList = true := by rw [← hE]; rfl
    cases h1 : inR s.size 1 12
    case false => simp [Zl, h1]
    by_cases h2 : s.toList = [46]
    case pos => simp [k0, Zl, h1, h2]
    have h2' : (s.toList == [46]) = false := by simpa using h2
    by_cases h3 : s.toList = [46, 46]
    · simp [k0, Zl, h1, h2, h2', h3, hL]
    · have h3' : (s.toList == [46, 46]) = false := by simpa using h3
      simp [k0, Zl, h1, h2, h2', h3, h3', hL]
  | cons c rest =>
    have hg := zY hx
    simp at hsz
    have hlt : (pre.length : Int) < s.size := by omega
    have hw : IntKind.i64.wrap ((pre.length : Int) + 1) = pre.length + 1 := zc (by omega) (by omega)
    simp [k0, k3, hlt, hg]
    refine callK.ro 0 rfl (by kernel_rfl) (by simp [Yc]) (R238 c) rfl rfl rfl ?_
    cases h1 : lttI (c.toNat : Int)
    · have : Zl s = false := by simp [Zl, ← hE, letL, h1]
      simp [this]
    · simp [k3, hw]
      refine ⟨pre ++ [c], rest, by simp, _, Le.refl _, ?_⟩
      simp [hx, k0, za, ← hE, letL, h1]
def A128 : AC := (.seq (.ops [qO 2 (.mov (.c (.sc (.bool false))))])
  (.seq (.ops [qO 6 (.mov (.t 0)), cO 7 130 [.t 6, (.c (.sc (.string ⟨#[47]⟩)))], qO 3 (.mov (.t 7))])
  (.seq (.seq (.ops [qO 8 (.mov (.t 3)), qO 9 (.llen (.t 8)), qO 10 (.mov (iC 0))])
  (.block 0 (.loop (.seq (.ops [qO 11 (.bin .lss (.t 10) (.t 9))])
  (.seq (.cond (.t 11) .skip
  (.exit 0))
  (.seq (.block 1 (.seq (.ops [qO 12 (.iadr 1 (.t 8) (.t 10)), qO 13 (.load false 1 (.t 12)), qO 5 (.mov (.t 13))])
  (.seq (.ops [qO 14 (.mov (.t 5)), cO 15 195 [.t 14], qO 16 (.not (.t 15))])
  (.cond (.t 16) (.seq (.ops [qO 2 (.mov (.c (.sc (.bool false))))])
  .ret)
  .skip))))
  (.ops [qO 17 (.bin .add (.t 10) (iC 1)), qO 10 (.mov (.t 17))])))))))
  (.seq (.ops [qO 18 (.mov (.t 3)), qO 19 (.llen (.t 18)), qO 20 (.bin .leq (.t 19) (iC 4)), qO 2 (.mov (.t 20))])
  .ret))))
theorem K128 : Kf Tryz.prog Tryz.f128 A128 21 [.mov (.t 2)] := ⟨by kernel_rfl, by kernel_rfl, by kernel_rfl⟩
theorem R128 (s : ByteArray) (hs : s.size ≤ 1048576) : Ret Tryz.prog 128 [.sc (.string s)] (.sc (.bool (yN s))) [.un] := by
  have hz : ∀ x ∈ Yq s 47, x.size ≤ s.size := ZL s 47 _ 0 0
  have hl : (Yq s 47).length ≤ s.size + 1 := by
    have := Y3 s 47 s.data.toList 0 0
    simpa [Yq] using this
  obtain ⟨ps, hps⟩ : ∃ ps, ps = Yq s 47 := ⟨_, rfl⟩
  have rs := R130 s 47 hs
  rw [show (((47 : UInt8).toNat : Nat) : Int) = 47 from rfl] at rs
  rw [← hps] at hz hl rs
  refine Ret.run Tryz.func128 K128 (by simp) rfl rfl 900 ?_
  simp [A128, iniρ]
  refine callK.own 6 rfl (by kernel_rfl) (by simp [Yc]) rs (Ty.str.flo ps) (by simp) rfl ?_
  simp
  refine T.rounds (μ := fun i : List ByteArray × List ByteArray => i.2.length)
    (fun i t => i.1 ++ i.2 = ps ∧ yF i.2 = yF ps ∧ t.ρ 3 = .sl 6 0 ps.length 1 false ∧ t.ρ 8 = .sl 6 0 ps.length 1 false ∧ t.ρ 9 = .sc (.int .i64 ps.length) ∧ t.ρ 10 = .sc (.int .i64 i.1.length) ∧ t.h 6 = some (some (rows Ty.str.oc ps)) ∧ t.n = 21) ([], ps) (by simp [za]) ?_
  rintro ⟨pre, rest⟩ ⟨ρ, hh, n⟩ ⟨hx, hE, k3, k8, k9, k10, k6, rfl⟩
  simp only at hx hE k3 k8 k9 k10 k6
  refine yg (n := 400) ?_
  cases rest with
  | nil =>
    have hxl : pre.length = ps.length := by rw [← hx]; simp
    have hA : yF ps = true := by rw [← hE]; rfl
    simp [k9, k10, hxl]
    refine T.on 400 ?_
    simp [k3, yN, ← hps, hA]
    all_goals omega
  | cons x rest =>
    have hle : pre.length + (rest.length + 1) = ps.length := by rw [← hx]; simp
    have hlt : (pre.length : Int) < ps.length := by omega
    have hw : IntKind.i64.wrap ((pre.length : Int) + 1) = pre.length + 1 := zc (by omega) (by omega)
    have hd := zeH pre rest x
    rw [hx] at hd
    have hd : List.drop pre.length (rows Ty.str.oc ps) = .sc (.string x) :: rows Ty.str.oc rest := hd
    have hxs := hz x (by rw [← hx]; simp)
    simp [k8, k9, k10, k6, hlt, hd]
    refine callK.ro 0 rfl (by kernel_rfl) (by simp [Yc, za]) (R195 x (by omega)) rfl rfl rfl ?_
    cases h1 : Zl x
    · have : yN s = false := by
        have h2 : yF ps = false := by rw [← hE, yF, h1]; rfl
        simp [yN, ← hps, h2]
      simp [this]
    · simp [k10, hw]
      refine ⟨pre ++ [x], rest, by simp, _, Le.refl _, ?_⟩
      simp [hx, za, k3, k8, k9, k6, ← hE, yF, h1]
def A224 : AC := (.seq (.ops [qO 2 (.mov (.c (.sc (.bool false))))])
  (.seq (.seq (.ops [qO 5 (.mov (.t 0)), qO 6 (.llen (.t 5)), qO 7 (.mov (iC 0))])
  (.block 0 (.loop (.seq (.ops [qO 8 (.bin .lss (.t 7) (.t 6))])
  (.seq (.cond (.t 8) .skip
  (.exit 0))
  (.seq (.block 1 (.seq (.ops [qO 9 (.mov (.t 7)), qO 10 (.iadr 2 (.t 5) (.t 7)), qO 11 (.load true 2 (.t 10)), wO 4 (.alloc [(.sc (.string ⟨#[]⟩)), (.sc (.string ⟨#[]⟩))]), qO 3 (.mov (.t 9)), nO (.store 2 (.t 4) (.t 11))])
  (.seq (.any [(qO 12 (.fadr 0 (.t 4)), []), (qO 13 (.load false 1 (.t 12)), [0]), (cO 14 128 [.t 13], [1]), (qO 15 (.not (.t 14)), [2]), (qO 16 (.mov (.t 15)), [3, 2]), (qG 17 16 false (.fadr 1 (.t 4)), [4]), (qG 18 16 false (.load false 1 (.t 17)), [5, 4]), (qG 19 16 false (.slen (.t 18)), [6, 4]), (qG 20 16 false (.bin .gtr (.t 19) (iC 60)), [7, 4]), (qO 21 (.pick (.t 16) (.c (.sc (.bool true))) (.t 20)), [4, 8]), (qO 22 (.mov (.t 21)), [9, 4]), (qG 23 22 false (.mov (.t 3)), [10]), (qG 24 22 false (.bin .gtr (.t 23) (iC 0)), [11, 10]), (qG 25 22 false (.mov (.t 24)), [12, 10, 10]), (qG 26 25 true (.fadr 0 (.t 4)), [13]), (qG 27 25 true (.load false 1 (.t 26)), [14, 13]), (qG 28 25 true (.mov (.t 0)), [13]), (qG 29 25 true (.mov (.t 3)), [13]), (qG 30 25 true (.bin .sub (.t 29) (iC 1)), [17, 13]), (qG 31 25 true (.iadr 2 (.t 28) (.t 30)), [16, 18, 13]), (qG 32 25 true (.fadr 0 (.t 31)), [19, 13]), (qG 33 25 true (.load false 1 (.t 32)), [20, 13]), (qG 34 25 true (.bin .leq (.t 27) (.t 33)), [15, 21, 13]), (qG 35 22 false (.pick (.t 25) (.t 34) (.c (.sc (.bool false)))), [13, 22, 10]), (qO 36 (.pick (.t 22) (.c (.sc (.bool true))) (.t 35)), [10, 23])])
  (.cond (.t 36) (.seq (.ops [qO 2 (.mov (.c (.sc (.bool false))))])
  .ret)
  .skip))))
  (.ops [qO 37 (.bin .add (.t 7) (iC 1)), qO 7 (.mov (.t 37))])))))))
  (.seq (.ops [qO 38 (.mov (.t 0)), qO 39 (.llen (.t 38)), qO 40 (.bin .leq (.t 39) (iC 30)), qO 2 (.mov (.t 40))])
  .ret)))
theorem K224 : Kf Tryz.prog Tryz.f224 A224 41 [.mov (.t 2)] := ⟨by kernel_rfl, by kernel_rfl, by kernel_rfl⟩
set_option maxHeartbeats 2000000 in
set_option maxRecDepth 100000 in
theorem R224 (xs : List File) (hb : xs.length < 4611686018427387904) (hp : ∀ x ∈ xs, x.path.size ≤ 1048576) : Ret Tryz.prog 224 [.ro (rows File.ty.cs xs) xs.length] (.sc (.bool (Yw xs))) [.un] := by
  refine Ret.run Tryz.func224 K224 (by simp) rfl rfl 900 ?_
  simp [A224, iniρ]
  refine T.rounds (μ := fun i : List File × List File => i.2.length)
    (fun i s => i.1 ++ i.2 = xs ∧ YA (lastP i.1) i.2 = YA none xs ∧ s.ρ 0 = .ro (rows File.ty.cs xs) xs.length ∧ s.ρ 5 = .ro (rows File.ty.cs xs) xs.length ∧ s.ρ 6 = .sc (.int .i64 xs.length) ∧ s.ρ 7 = .sc (.int .i64 i.1.length) ∧ s.h 4 = none ∧ s.n = 41) ([], xs) (by simp [za, lastP]) ?_
  rintro ⟨pre, rest⟩ ⟨ρ, hh, n⟩ ⟨hx, hE, k0, k5, k6, k7, f4, rfl⟩
  simp only at hx hE k0 k5 k6 k7 f4
  refine yg (n := 400) ?_
  cases rest with
  | nil =>
    have hxl : pre.length = xs.length := by rw [← hx]; simp
    have hA : YA none xs = true := by rw [← hE]; cases lastP pre <;> rfl
    simp [k6, k7, hxl]
    refine T.on 400 ?_
    simp [k0, Yw, hA]
    all_goals omega
  | cons x rest =>
    have hle : pre.length + (rest.length + 1) = xs.length := by rw [← hx]; simp
    have hlt : (pre.length : Int) < xs.length := by omega
    have hlt2 : pre.length < xs.length := by omega
    have hw : IntKind.i64.wrap ((pre.length : Int) + 1) = pre.length + 1 := zc (by omega) (by omega)
    have hd := ye File.ty.csn pre (x :: rest)
    rw [hx, yc] at hd
    have hd : List.drop (pre.length * 2) (rows File.ty.cs xs) = AV.sc (.string x.path) :: AV.sc (.string x.text) :: rows File.ty.cs rest := hd
    have hxp := hp x (by rw [← hx]; simp)
    have stop : ∀ c, (yN x.path && (decide (x.text.size ≤ 60) && above (lastP pre) x.path)) = c → c = false → Yw xs = false := fun c h1 h2 => by
      subst h2
      have : YA none xs = false := by
        rw [← hE, YA]
        cases h5 : yN x.path <;> cases h6 : decide (x.text.size ≤ 60) <;> cases h7 : above (lastP pre) x.path <;> simp_all
      simp [Yw, this]
    have fin : yN x.path = true → x.text.size ≤ 60 → above (lastP pre) x.path = true → YA (some x.path) rest = YA none xs := fun h1 h2 h => by
      rw [← hE, YA, h1, h]; simp [h2]
    simp [k0, k5, k6, k7, hlt, hlt2, hd, f4, over]
    refine T.text 400 mixed (by kernel_rfl) (by kernel_rfl) ?_
    simp
    refine zbQ.by rfl (by kernel_rfl) (by simp [Yc]) (R128 x.path hxp) ?_
    cases h1 : yN x.path
    · have := stop _ rfl (by simp [h1])
      simp [this]
    by_cases h2 : x.text.size ≤ 60
    case neg =>
      have := stop _ rfl (by simp [h2])
      have h2' : (60 : Int) < x.text.size := by omega
      simp [h2', this]
    have h2' : ¬ ((60 : Int) < x.text.size) := by omega
    rcases List.eq_nil_or_concat pre with rfl | ⟨p0, q, ep⟩
    · simp at hlt hlt2 hw k7
      simp [k7, h2']
      refine ⟨[x], rest, by simp, _, Le.reset [0, 5, 6, 7] [] (by simp [za, menB, zb, k0, k5, k6]) (by simp), ?_⟩
      have hF := fin h1 h2 rfl
      simp at hx
      simp [hx, k0, k5, k6, za, lastP, hF, hw]
    rw [List.concat_eq_append] at ep
    subst ep
    have hq : List.drop (p0.length * 2) (rows File.ty.cs xs) = AV.sc (.string q.path) :: AV.sc (.string q.text) :: rows File.ty.cs (x :: rest) := by
      have h := ye File.ty.csn p0 (q :: x :: rest)
      have e : p0 ++ q :: x :: rest = xs := by rw [← hx]; simp
      rw [e, yc] at h
      exact h
    have hw0 : IntKind.i64.wrap (p0.length : Int) = p0.length := zc (by omega) (by simp only [List.length_append] at hle; omega)
    have hl0 : p0.length < xs.length := by simp only [List.length_append] at hle; omega
    rw [zT] at fin stop
    simp only [List.length_append, List.length_cons, List.length_nil, Nat.zero_add] at hlt hlt2 hd hw k7
    have hpos : (0 : Int) < (p0.length : Int) + 1 := by omega
    have hl0' : (p0.length : Int) < xs.length := by omega
    cases h3 : Op.bytesLess q.path.toList x.path.toList
    · have := stop _ rfl (by simp [above, h3])
      have h4 := zgz x.path.toList q.path.toList
      rw [h3] at h4
      simp [k0, k7, h2', hpos, hw0, hl0, hl0', hq, h3, h4, this]
    · have hF := fin h1 h2 (by simp [above, h3])
      have h4 := zgz x.path.toList q.path.toList
      rw [h3] at h4
      simp [k0, k7, h2', hpos, hw0, hl0, hl0', hq, h3, h4]
      refine ⟨p0 ++ [q] ++ [x], rest, by simp, _, Le.reset [0, 5, 6, 7] [] (by simp [za, menB, zb, k0, k5, k6]) (by simp), ?_⟩
      rw [zT]
      simp at hw hx
      simp [hx, k0, k5, k6, za, hF, hw]
      omega
def zH : List File → Bool
  | [] => true
  | x :: l => Zl x.path && zH l
def zS (xs : List File) : Bool := zH xs && (decide (xs.length ≤ 6) && Yw xs)
def A210 : AC := (.seq (.ops [qO 2 (.mov (.c (.sc (.bool false))))])
  (.seq (.seq (.ops [qO 5 (.mov (.t 0)), qO 6 (.llen (.t 5)), qO 7 (.mov (iC 0))])
  (.block 0 (.loop (.seq (.ops [qO 8 (.bin .lss (.t 7) (.t 6))])
  (.seq (.cond (.t 8) .skip
  (.exit 0))
  (.seq (.block 1 (.seq (.ops [qO 9 (.iadr 2 (.t 5) (.t 7)), qO 10 (.load true 2 (.t 9)), wO 4 (.alloc [(.sc (.string ⟨#[]⟩)), (.sc (.string ⟨#[]⟩))]), nO (.store 2 (.t 4) (.t 10))])
  (.seq (.ops [qO 11 (.fadr 0 (.t 4)), qO 12 (.load false 1 (.t 11)), cO 13 195 [.t 12], qO 14 (.not (.t 13))])
  (.cond (.t 14) (.seq (.ops [qO 2 (.mov (.c (.sc (.bool false))))])
  .ret)
  .skip))))
  (.ops [qO 15 (.bin .add (.t 7) (iC 1)), qO 7 (.mov (.t 15))])))))))
  (.seq (.ops [qO 16 (.mov (.t 0)), qO 17 (.llen (.t 16)), qO 18 (.bin .leq (.t 17) (iC 6)), qO 19 (.mov (.t 18)), qG 20 19 true (.mov (.t 0)), cG 21 19 true 224 [.t 20], qO 22 (.pick (.t 19) (.t 21) (.c (.sc (.bool false)))), qO 2 (.mov (.t 22))])
  .ret)))
theorem K210 : Kf Tryz.prog Tryz.f210 A210 23 [.mov (.t 2)] := ⟨by kernel_rfl, by kernel_rfl, by kernel_rfl⟩
theorem R210 (xs : List File) (hb : xs.length < 4611686018427387904) (hp : ∀ x ∈ xs, x.path.size ≤ 1048576) : Ret Tryz.prog 210 [.ro (rows File.ty.cs xs) xs.length] (.sc (.bool (zS xs))) [.un] := by
  refine Ret.run Tryz.func210 K210 (by simp) rfl rfl 900 ?_
  simp [A210, iniρ]
  refine T.rounds (μ := fun i : List File × List File => i.2.length)
    (fun i s => i.1 ++ i.2 = xs ∧ zH i.2 = zH xs ∧ s.ρ 0 = .ro (rows File.ty.cs xs) xs.length ∧ s.ρ 5 = .ro (rows File.ty.cs xs) xs.length ∧ s.ρ 6 = .sc (.int .i64 xs.length) ∧ s.ρ 7 = .sc (.int .i64 i.1.length) ∧ s.h 4 = none ∧ s.n = 23) ([], xs) (by simp [za]) ?_
  rintro ⟨pre, rest⟩ ⟨ρ, hh, n⟩ ⟨hx, hE, k0, k5, k6, k7, f4, rfl⟩
  simp only at hx hE k0 k5 k6 k7 f4
  refine yg (n := 400) ?_
  cases rest with
  | nil =>
    have hxl : pre.length = xs.length := by rw [← hx]; simp
    have hA : zH xs = true := by rw [← hE]; rfl
    simp [k6, k7, hxl]
    refine T.on 400 ?_
    by_cases h6 : xs.length ≤ 6
    · have h6' : (xs.length : Int) ≤ 6 := by omega
      simp [k0, h6']
      refine callK.ro 0 rfl (by kernel_rfl) (by simp [ze]) (R224 xs hb hp) rfl rfl rfl ?_
      simp [zS, hA, h6]
    · have h6' : ¬ (xs.length : Int) ≤ 6 := by omega
      simp [k0, h6', zS, h6]
  | cons x rest =>
    have hle : pre.length + (rest.length + 1) = xs.length := by rw [← hx]; simp
    have hlt : (pre.length : Int) < xs.length := by omega
    have hw : IntKind.i64.wrap ((pre.length : Int) + 1) = pre.length + 1 := zc (by omega) (by omega)
    have hd := ye File.ty.csn pre (x :: rest)
    rw [hx, yc] at hd
    have hd : List.drop (pre.length * 2) (rows File.ty.cs xs) = AV.sc (.string x.path) :: AV.sc (.string x.text) :: rows File.ty.cs rest := hd
    have hxp := hp x (by rw [← hx]; simp)
    simp [k0, k5, k6, k7, hlt, hd, f4, over]
    refine callK.ro 0 rfl (by kernel_rfl) (by simp [Yc, za]) (R195 x.path (by omega)) rfl rfl rfl ?_
    cases h1 : Zl x.path
    · have h2 : zH xs = false := by rw [← hE, zH, h1]; rfl
      simp [zS, h2]
    · simp [k7, hw]
      refine ⟨pre ++ [x], rest, by simp, _, Le.reset [0, 5, 6, 7] [] (by simp [za, menB, zb, k0, k5, k6]) (by simp), ?_⟩
      simp [hx, za, k0, k5, k6, ← hE, zH, h1]
def sameT (t x : ByteArray) : Bool := x.toList == t.toList
def tIx (t : ByteArray) (l : List ByteArray) : Int := idx (sameT t) l 0
def hasT (t : ByteArray) (l : List ByteArray) : Bool := l.any (sameT t)
theorem zgT (t : ByteArray) (l : List ByteArray) : decide (0 ≤ tIx t l) = hasT t l := by
  rcases zE (sameT t) l 0 with ⟨pre, x, rest, e, h2, h1, e2⟩ | ⟨h1, e2⟩
  · have e2 : tIx t l = (pre.length : Int) := by unfold tIx; rw [e2]; omega
    rw [e2, hasT, e]
    simp [h2]
  · have e2 : tIx t l = -1 := e2
    have e3 : hasT t l = false := by
      unfold hasT
      rw [List.any_eq_false]
      exact fun x hx => by simp [h1 x hx]
    rw [e2, e3]; rfl
def A251 : AC := (.seq (.ops [qO 4 (.mov (iC 0))])
  (.seq (.seq (.ops [qO 6 (.mov (.t 0)), qO 7 (.llen (.t 6)), qO 8 (.mov (iC 0))])
  (.block 0 (.loop (.seq (.ops [qO 9 (.bin .lss (.t 8) (.t 7))])
  (.seq (.cond (.t 9) .skip
  (.exit 0))
  (.seq (.block 1 (.seq (.ops [qO 10 (.mov (.t 8)), qO 5 (.mov (.t 10))])
  (.seq (.ops [qO 11 (.mov (.t 1)), qO 12 (.mov (.t 0)), qO 13 (.mov (.t 5)), qO 14 (.iadr 1 (.t 12) (.t 13)), qO 15 (.load false 1 (.t 14)), qO 16 (.bin .eql (.t 11) (.t 15))])
  (.cond (.t 16) (.seq (.ops [qO 17 (.mov (.t 5)), qO 4 (.mov (.t 17))])
  .ret)
  .skip))))
  (.ops [qO 18 (.bin .add (.t 8) (iC 1)), qO 8 (.mov (.t 18))])))))))
  (.seq (.ops [qO 4 (.mov (iC (-1)))])
  .ret)))
theorem K251 : Kf Tryz.prog Tryz.f251 A251 19 [.mov (.t 4)] := ⟨by kernel_rfl, by kernel_rfl, by kernel_rfl⟩
theorem R251 (xs : List ByteArray) (t : ByteArray) (hb : xs.length < 4611686018427387904) : Ret Tryz.prog 251 [.ro (rows Ty.str.cs xs) xs.length, .sc (.string t)] (.sc (.int .i64 (tIx t xs))) [.un, .un] := by
  refine Ret.run Tryz.func251 K251 (by simp) rfl rfl 500 ?_
  simp [A251, iniρ]
  refine T.rounds (μ := fun i : List ByteArray × List ByteArray => i.2.length)
    (fun i s => i.1 ++ i.2 = xs ∧ idx (sameT t) i.2 i.1.length = tIx t xs ∧ s.ρ 0 = .ro (rows Ty.str.cs xs) xs.length ∧ s.ρ 1 = .sc (.string t) ∧ s.ρ 7 = .sc (.int .i64 xs.length) ∧ s.ρ 8 = .sc (.int .i64 i.1.length) ∧ s.n = 19) ([], xs) (by simp [za, tIx]) ?_
  rintro ⟨pre, rest⟩ ⟨ρ, hh, n⟩ ⟨hx, hE, k0, k1, k7, k8, rfl⟩
  simp only at hx hE k0 k1 k7 k8
  refine yg (n := 400) ?_
  cases rest with
  | nil =>
    simp at hx
    subst hx
    simp [k7, k8]
    refine T.on 400 ?_
    simp [← hE, idx]
  | cons x rest =>
    have hlt : (pre.length : Int) < xs.length := by rw [← hx]; simp only [List.length_append, List.length_cons]; omega
    have hd := zeH pre rest x
    rw [hx] at hd
    have hw : IntKind.i64.wrap ((pre.length : Int) + 1) = pre.length + 1 := zc (by omega) (by omega)
    by_cases hk : x.toList = t.toList
    · have hs : sameT t x = true := by simp [sameT, hk]
      simp [k0, k1, k7, k8, hlt, hd, hk, ← hE, idx, hs]
    · have hk' : ¬ t.toList = x.toList := fun e => hk e.symm
      have hs : sameT t x = false := by simp [sameT, hk]
      simp [k0, k1, k7, k8, hlt, hd, hk', hw]
      refine ⟨pre ++ [x], rest, by simp, _, Le.refl _, ?_⟩
      simp [hx, k0, k1, k7, za, ← hE, idx, hs]
def A215 : AC := (.seq (.ops [qO 4 (.mov (.c (.sc (.bool false))))])
  (.seq (.ops [qO 5 (.mov (.t 0)), qO 6 (.mov (.t 1)), cO 7 251 [.t 5, .t 6], qO 8 (.bin .geq (.t 7) (iC 0)), qO 4 (.mov (.t 8))])
  .ret))
theorem K215 : Kf Tryz.prog Tryz.f215 A215 9 [.mov (.t 4)] := ⟨by kernel_rfl, by kernel_rfl, by kernel_rfl⟩
theorem R215 (xs : List ByteArray) (t : ByteArray) (hb : xs.length < 4611686018427387904) : Ret Tryz.prog 215 [.ro (rows Ty.str.cs xs) xs.length, .sc (.string t)] (.sc (.bool (hasT t xs))) [.un, .un] := by
  refine Ret.run Tryz.func215 K215 (by simp) rfl rfl 500 ?_
  simp [A215, iniρ]
  refine callK.ro 0 rfl (by kernel_rfl) (by simp [ze, Yc, za]) (R251 xs t hb) rfl rfl rfl ?_
  simp [zgT]
def sameF (n : ByteArray) (x : File) : Bool := x.path.toList == n.toList
def sameM (t : ByteArray) (m : Made) : Bool := m.task.toList == t.toList
def sameE (t : ByteArray) (m : Env) : Bool := m.name.toList == t.toList
def lessF (n : ByteArray) (x : File) : Bool := Op.bytesLess x.path.toList n.toList
def fIx (n : ByteArray) (l : List File) : Int := idx (sameF n) l 0
def mIx (n : ByteArray) (l : List Made) : Int := idx (sameM n) l 0
def getF (l : List File) (n : ByteArray) : ByteArray × Bool := match l.find? (sameF n) with | some x => (x.text, true) | none => (⟨#[]⟩, false)
def getE (l : List Env) (n : ByteArray) : ByteArray × Bool := match l.find? (sameE n) with | some x => (x.val, true) | none => (⟨#[]⟩, false)
def getM (l : List Made) (t n : ByteArray) : ByteArray × Bool := match l.find? (sameM t) with | some m => getF m.outs n | none => (⟨#[]⟩, false)
theorem zax {α : Type} {f : α → Bool} {pre rest : List α} {x : α} (h1 : ∀ y ∈ pre, f y = false) (h2 : f x = true) : (pre ++ x :: rest).find? f = some x := by
  induction pre with
  | nil => simp [h2]
  | cons y pre ih => rw [List.cons_append, List.find?_cons_of_neg (by simp [h1 y List.mem_cons_self]), ih fun z hz => h1 z (List.mem_cons_of_mem _ hz)]
theorem ZT {α : Type} {f : α → Bool} {l : List α} (h1 : ∀ y ∈ l, f y = false) : l.find? f = none := List.find?_eq_none.2 fun y hy => by simp [h1 y hy]
def noF (n : ByteArray) (l : List File) : List File := l.filter fun y => !sameF n y
def insF (x : File) (o : List File) : List File := o.take (o.takeWhile (lessF x.path)).length ++ x :: o.drop (o.takeWhile (lessF x.path)).length
theorem zgN (n : ByteArray) (l : List File) : (noF n l).length ≤ l.length := List.length_filter_le _ _
theorem zdS (x : File) (o : List File) : (insF x o).length = o.length + 1 := by
  have h : (o.takeWhile (lessF x.path)).length ≤ o.length := (List.takeWhile_prefix _).length_le
  simp [insF]; omega
theorem zfg (x y : File) (o : List File) : insF x (y :: o) = if lessF x.path y = true then y :: insF x o else x :: y :: o := by
  unfold insF
  by_cases h : lessF x.path y = true
  · rw [if_pos h, List.takeWhile_cons_of_pos h]
    simp
  · rw [if_neg h, List.takeWhile_cons_of_neg h]
    simp
theorem za6 (f : File) : ∀ l : List File, putF f l true = noF f.path l
  | [] => rfl
  | x :: l => by
    unfold noF
    by_cases h : x.path.toList = f.path.toList
    · rw [putF, if_pos h, za6 f l, List.filter_cons_of_neg (by simp [sameF, h])]; rfl
    · rw [putF, if_neg h, if_neg (by simp), za6 f l, List.filter_cons_of_pos (by simp [sameF, h])]; rfl
theorem ZQ (f : File) : ∀ l : List File, putF f l false = insF f (noF f.path l)
  | [] => rfl
  | x :: l => by
    unfold noF
    by_cases h : x.path.toList = f.path.toList
    · rw [putF, if_pos h, ZQ f l, List.filter_cons_of_neg (by simp [sameF, h])]; rfl
    · rw [putF, if_neg h, List.filter_cons_of_pos (by simp [sameF, h]), zfg]
      cases hl : Op.bytesLess x.path.toList f.path.toList with
      | true =>
        rw [if_neg (by simp [gtrP, hl]), if_pos (by simp [lessF, hl]), ZQ f l]; rfl
      | false =>
        rw [if_pos (by simp [gtrP, hl, h]), if_neg (by simp [lessF, hl]), za6 f l]; rfl
def A285 : AC := (.seq (.ops [wO 2 (.box (.t 0)), qO 3 (.mov (.c (.sc (.bool false))))])
  (.seq (.ops [qO 4 (.fadr 0 (.t 2)), qO 5 (.load false 1 (.t 4)), qO 6 (.load false 1 (.t 1)), qO 7 (.bin .eql (.t 5) (.t 6)), qO 3 (.mov (.t 7))])
  .ret))
theorem K285 : Kf Tryz.prog Tryz.f285 A285 8 [.mov (.t 3)] := ⟨by kernel_rfl, by kernel_rfl, by kernel_rfl⟩
theorem R285 (n : ByteArray) (x : File) : Ret Tryz.prog 285 [.agg (File.ty.cs x), .rp [.sc (.string n)] 0] (.sc (.bool (sameF n x))) [.un, .un] := by
  refine Ret.run Tryz.func285 K285 (by simp) rfl rfl 500 ?_
  simp [A285, iniρ, File.cse, sameF]
def A222 : AC := (.seq (.ops [wO 2 (.box (.t 0)), qO 3 (.mov (.c (.sc (.bool false))))])
  (.seq (.ops [qO 4 (.fadr 0 (.t 2)), qO 5 (.load false 1 (.t 4)), qO 6 (.fadr 0 (.t 1)), qO 7 (.load false 1 (.t 6)), qO 8 (.bin .eql (.t 5) (.t 7)), qO 3 (.mov (.t 8))])
  .ret))
theorem K222 : Kf Tryz.prog Tryz.f222 A222 9 [.mov (.t 3)] := ⟨by kernel_rfl, by kernel_rfl, by kernel_rfl⟩
theorem R222 (f : File) (x : File) : Ret Tryz.prog 222 [.agg (File.ty.cs x), .rp (File.ty.cs f) 0] (.sc (.bool (sameF f.path x))) [.un, .un] := by
  refine Ret.run Tryz.func222 K222 (by simp) rfl rfl 500 ?_
  simp [A222, iniρ, File.cse, sameF]
def A111 : AC := (.seq (.ops [wO 2 (.box (.t 0)), qO 3 (.mov (.c (.sc (.bool false))))])
  (.seq (.ops [qO 4 (.fadr 0 (.t 2)), qO 5 (.load false 1 (.t 4)), qO 6 (.load false 1 (.t 1)), qO 7 (.bin .eql (.t 5) (.t 6)), qO 3 (.mov (.t 7))])
  .ret))
theorem K111 : Kf Tryz.prog Tryz.f111 A111 8 [.mov (.t 3)] := ⟨by kernel_rfl, by kernel_rfl, by kernel_rfl⟩
theorem R111 (n : ByteArray) (x : Made) : Ret Tryz.prog 111 [.agg (Made.ty.cs x), .rp [.sc (.string n)] 0] (.sc (.bool (sameM n x))) [.un, .un] := by
  refine Ret.run Tryz.func111 K111 (by simp) rfl rfl 500 ?_
  simp [A111, iniρ, Made.cse, sameM]
theorem R255 (g : FuncId) (caps : List AV) (f : File → Bool) (hg : callB Tryz.prog g = true) (hsh : shut.shutL caps = true) (xs : List File) (hR : ∀ x ∈ xs, Ret Tryz.prog g (el true (File.ty.cs x) :: caps) (.sc (.bool (f x))) (.un :: caps.map fun _ => .un)) (hb : xs.length < 4611686018427387904) :
    Ret Tryz.prog 255 [.ro (rows File.ty.cs xs) xs.length, .clo g caps] (.sc (.int .i64 (idx f xs 0))) [.un, .un] :=
  Ret.indexFunc File.ty (agg := true) Tryz.func255 ⟨by kernel_rfl, by kernel_rfl, by kernel_rfl⟩ (fun h => by cases h) g caps f hg hsh xs hR hb
theorem R110 (g : FuncId) (caps : List AV) (f : Made → Bool) (hg : callB Tryz.prog g = true) (hsh : shut.shutL caps = true) (xs : List Made) (hR : ∀ x ∈ xs, Ret Tryz.prog g (el true (Made.ty.cs x) :: caps) (.sc (.bool (f x))) (.un :: caps.map fun _ => .un)) (hb : xs.length < 4611686018427387904) :
    Ret Tryz.prog 110 [.ro (rows Made.ty.cs xs) xs.length, .clo g caps] (.sc (.int .i64 (idx f xs 0))) [.un, .un] :=
  Ret.indexFunc Made.ty (agg := true) Tryz.func110 ⟨by kernel_rfl, by kernel_rfl, by kernel_rfl⟩ (fun h => by cases h) g caps f hg hsh xs hR hb
def A254 : AC := (.seq (.ops [wO 3 (.box (.t 1)), qO 4 (.mov (iC 0))])
  (.seq (.ops [qO 5 (.mov (.t 0)), qO 6 (.mkf 285 [.t 3]), cO 7 255 [.t 5, .t 6], qO 4 (.mov (.t 7))])
  .ret))
theorem K254 : Kf Tryz.prog Tryz.f254 A254 8 [.mov (.t 4)] := ⟨by kernel_rfl, by kernel_rfl, by kernel_rfl⟩
theorem R254 (xs : List File) (n : ByteArray) (hb : xs.length < 4611686018427387904) : Ret Tryz.prog 254 [.ro (rows File.ty.cs xs) xs.length, .sc (.string n)] (.sc (.int .i64 (fIx n xs))) [.un, .un] := by
  refine Ret.run Tryz.func254 K254 (by simp) rfl rfl 500 ?_
  simp [A254, iniρ]
  refine callK.ro 0 rfl (by kernel_rfl) (ys := [.ro (rows File.ty.cs xs) xs.length, .clo 285 [.rp [.sc (.string n)] 0]]) (by simp [ze, za, roc]) (R255 285 [.rp [.sc (.string n)] 0] (sameF n) (by kernel_rfl) rfl xs (fun x _ => R285 n x) hb) rfl rfl rfl ?_
  simp [fIx]
def A47 : AC := (.seq (.ops [wO 3 (.box (.t 1)), qO 4 (.mov (iC 0))])
  (.seq (.ops [qO 5 (.mov (.t 0)), qO 6 (.mkf 111 [.t 3]), cO 7 110 [.t 5, .t 6], qO 4 (.mov (.t 7))])
  .ret))
theorem K47 : Kf Tryz.prog Tryz.f47 A47 8 [.mov (.t 4)] := ⟨by kernel_rfl, by kernel_rfl, by kernel_rfl⟩
theorem R47 (xs : List Made) (n : ByteArray) (hb : xs.length < 4611686018427387904) : Ret Tryz.prog 47 [.ro (rows Made.ty.cs xs) xs.length, .sc (.string n)] (.sc (.int .i64 (mIx n xs))) [.un, .un] := by
  refine Ret.run Tryz.func47 K47 (by simp) rfl rfl 500 ?_
  simp [A47, iniρ]
  refine callK.ro 0 rfl (by kernel_rfl) (ys := [.ro (rows Made.ty.cs xs) xs.length, .clo 111 [.rp [.sc (.string n)] 0]]) (by simp [ze, za, roc]) (R110 111 [.rp [.sc (.string n)] 0] (sameM n) (by kernel_rfl) rfl xs (fun x _ => R111 n x) hb) rfl rfl rfl ?_
  simp [mIx]
def A220 : AC := (.seq (.ops [qO 4 (.mov (.c (.sc (.string ⟨#[]⟩)))), qO 5 (.mov (.c (.sc (.bool false))))])
  (.seq (.ops [qO 7 (.mov (.t 0)), qO 8 (.mov (.t 1)), cO 9 254 [.t 7, .t 8], qO 6 (.mov (.t 9))])
  (.seq (.seq (.ops [qO 10 (.mov (.t 6)), qO 11 (.bin .lss (.t 10) (iC 0))])
  (.cond (.t 11) (.seq (.ops [qO 4 (.mov (.c (.sc (.string ⟨#[]⟩)))), qO 5 (.mov (.c (.sc (.bool false))))])
  .ret)
  .skip))
  (.seq (.ops [qO 12 (.mov (.t 0)), qO 13 (.mov (.t 6)), qO 14 (.iadr 2 (.t 12) (.t 13)), qO 15 (.fadr 1 (.t 14)), qO 16 (.load false 1 (.t 15)), qO 4 (.mov (.t 16)), qO 5 (.mov (.c (.sc (.bool true))))])
  .ret))))
theorem K220 : Kf Tryz.prog Tryz.f220 A220 17 [.mov (.t 4), .mov (.t 5)] := ⟨by kernel_rfl, by kernel_rfl, by kernel_rfl⟩
theorem R220 (xs : List File) (n : ByteArray) (hb : xs.length < 4611686018427387904) : Ret Tryz.prog 220 [.ro (rows File.ty.cs xs) xs.length, .sc (.string n)] (.tup [.sc (.string (getF xs n).1), .sc (.bool (getF xs n).2)]) [.un, .un] := by
  refine Ret.run Tryz.func220 K220 (by simp) rfl rfl 500 ?_
  simp [A220, iniρ]
  refine callK.ro 0 rfl (by kernel_rfl) (by simp [ze, Yc]) (R254 xs n hb) rfl rfl rfl ?_
  rcases zE (sameF n) xs 0 with ⟨pre, x, rest, e1, h2, h1, e2⟩ | ⟨h1, e2⟩
  · have e3 : fIx n xs = (pre.length : Int) := by unfold fIx; rw [e2]; omega
    have hG : getF xs n = (x.text, true) := by unfold getF; rw [e1, zax h1 h2]
    have hlt : (pre.length : Int) < xs.length := by rw [e1]; simp only [List.length_append, List.length_cons]; omega
    have hdr := ye File.ty.csn pre (x :: rest)
    rw [← e1, yc, File.cse] at hdr
    have hdr : List.drop (pre.length * 2) (rows File.ty.cs xs) = [.sc (.string x.path), .sc (.string x.text)] ++ rows File.ty.cs rest := hdr
    have hd1 : List.drop (pre.length * 2 + 1) (rows File.ty.cs xs) = [.sc (.string x.text)] ++ rows File.ty.cs rest := by rw [← List.drop_drop, hdr]; rfl
    have hp0 : ¬ ((pre.length : Int) < 0) := by omega
    rw [e3, hG]
    simp [hlt, hd1, hp0]
  · have e3 : fIx n xs = -1 := e2
    have hG : getF xs n = (⟨#[]⟩, false) := by unfold getF; rw [ZT h1]
    rw [e3, hG]
    simp
def A219 : AC := (.seq (.ops [qO 6 (.mov (.c (.sc (.string ⟨#[]⟩)))), qO 7 (.mov (.c (.sc (.bool false))))])
  (.seq (.ops [qO 9 (.mov (.t 0)), qO 10 (.mov (.t 1)), cO 11 47 [.t 9, .t 10], qO 8 (.mov (.t 11))])
  (.seq (.seq (.ops [qO 12 (.mov (.t 8)), qO 13 (.bin .lss (.t 12) (iC 0))])
  (.cond (.t 13) (.seq (.ops [qO 6 (.mov (.c (.sc (.string ⟨#[]⟩)))), qO 7 (.mov (.c (.sc (.bool false))))])
  .ret)
  .skip))
  (.seq (.ops [qO 14 (.mov (.t 0)), qO 15 (.mov (.t 8)), qO 16 (.iadr 3 (.t 14) (.t 15)), qO 17 (.fadr 1 (.t 16)), qO 18 (.load false 1 (.t 17)), qO 19 (.mov (.t 2)), cO 20 220 [.t 18, .t 19], qO 21 (.ext (.t 20) 0), qO 22 (.ext (.t 20) 1), qO 6 (.mov (.t 21)), qO 7 (.mov (.t 22))])
  .ret))))
theorem K219 : Kf Tryz.prog Tryz.f219 A219 23 [.mov (.t 6), .mov (.t 7)] := ⟨by kernel_rfl, by kernel_rfl, by kernel_rfl⟩
theorem R219 (xs : List Made) (t n : ByteArray) (hb : xs.length < 4611686018427387904) (ho : ∀ m ∈ xs, m.outs.length < 4611686018427387904) : Ret Tryz.prog 219 [.ro (rows Made.ty.cs xs) xs.length, .sc (.string t), .sc (.string n)] (.tup [.sc (.string (getM xs t n).1), .sc (.bool (getM xs t n).2)]) [.un, .un, .un] := by
  refine Ret.run Tryz.func219 K219 (by simp) rfl rfl 500 ?_
  simp [A219, iniρ]
  refine callK.ro 0 rfl (by kernel_rfl) (by simp [ze, Yc]) (R47 xs t hb) rfl rfl rfl ?_
  rcases zE (sameM t) xs 0 with ⟨pre, x, rest, e1, h2, h1, e2⟩ | ⟨h1, e2⟩
  · have e3 : mIx t xs = (pre.length : Int) := by unfold mIx; rw [e2]; omega
    have hG : getM xs t n = getF x.outs n := by unfold getM; rw [e1, zax h1 h2]
    have hlt : (pre.length : Int) < xs.length := by rw [e1]; simp only [List.length_append, List.length_cons]; omega
    have hdr := ye Made.ty.csn pre (x :: rest)
    rw [← e1, yc, Made.cse] at hdr
    have hdr : List.drop (pre.length * 3) (rows Made.ty.cs xs) = [.sc (.string x.task), .ro (rows File.ty.cs x.outs) x.outs.length, .sc (.string x.log)] ++ rows Made.ty.cs rest := hdr
    have hd1 : List.drop (pre.length * 3 + 1) (rows Made.ty.cs xs) = [.ro (rows File.ty.cs x.outs) x.outs.length, .sc (.string x.log)] ++ rows Made.ty.cs rest := by rw [← List.drop_drop, hdr]; rfl
    have hp0 : ¬ ((pre.length : Int) < 0) := by omega
    rw [e3, hG]
    simp [hlt, hd1, hp0]
    refine callK.ro 0 rfl (by kernel_rfl) (by simp [ze, Yc]) (R220 x.outs n (ho x (by rw [e1]; simp))) rfl rfl rfl ?_
    simp
  · have e3 : mIx t xs = -1 := e2
    have hG : getM xs t n = (⟨#[]⟩, false) := by unfold getM; rw [ZT h1]
    rw [e3, hG]
    simp
def A45 : AC := (.seq (.ops [qO 4 (.mov (.c (.sc (.string ⟨#[]⟩)))), qO 5 (.mov (.c (.sc (.bool false))))])
  (.seq (.seq (.ops [qO 8 (.mov (.t 0)), qO 9 (.llen (.t 8)), qO 10 (.mov (iC 0))])
  (.block 0 (.loop (.seq (.ops [qO 11 (.bin .lss (.t 10) (.t 9))])
  (.seq (.cond (.t 11) .skip
  (.exit 0))
  (.seq (.block 1 (.seq (.ops [qO 12 (.iadr 2 (.t 8) (.t 10)), qO 13 (.load true 2 (.t 12)), wO 7 (.alloc [(.sc (.string ⟨#[]⟩)), (.sc (.string ⟨#[]⟩))]), nO (.store 2 (.t 7) (.t 13))])
  (.seq (.ops [qO 14 (.fadr 0 (.t 7)), qO 15 (.load false 1 (.t 14)), qO 16 (.mov (.t 1)), qO 17 (.bin .eql (.t 15) (.t 16))])
  (.cond (.t 17) (.seq (.ops [qO 18 (.fadr 1 (.t 7)), qO 19 (.load false 1 (.t 18)), qO 4 (.mov (.t 19)), qO 5 (.mov (.c (.sc (.bool true))))])
  .ret)
  .skip))))
  (.ops [qO 20 (.bin .add (.t 10) (iC 1)), qO 10 (.mov (.t 20))])))))))
  (.seq (.ops [qO 4 (.mov (.c (.sc (.string ⟨#[]⟩)))), qO 5 (.mov (.c (.sc (.bool false))))])
  .ret)))
theorem K45 : Kf Tryz.prog Tryz.f45 A45 21 [.mov (.t 4), .mov (.t 5)] := ⟨by kernel_rfl, by kernel_rfl, by kernel_rfl⟩
theorem R45 (xs : List Env) (n : ByteArray) (hb : xs.length < 4611686018427387904) : Ret Tryz.prog 45 [.ro (rows Env.ty.cs xs) xs.length, .sc (.string n)] (.tup [.sc (.string (getE xs n).1), .sc (.bool (getE xs n).2)]) [.un, .un] := by
  refine Ret.run Tryz.func45 K45 (by simp) rfl rfl 500 ?_
  simp [A45, iniρ]
  refine T.rounds (μ := fun i : List Env × List Env => i.2.length)
    (fun i s => i.1 ++ i.2 = xs ∧ (∀ y ∈ i.1, sameE n y = false) ∧ s.ρ 1 = .sc (.string n) ∧ s.ρ 8 = .ro (rows Env.ty.cs xs) xs.length ∧ s.ρ 9 = .sc (.int .i64 xs.length) ∧ s.ρ 10 = .sc (.int .i64 i.1.length) ∧ s.h 7 = none ∧ s.n = 21) ([], xs) (by simp [za]) ?_
  rintro ⟨pre, rest⟩ ⟨ρ, hh, m⟩ ⟨hx, hpre, k1, k8, k9, k10, f7, rfl⟩
  simp only at hx hpre k1 k8 k9 k10 f7
  refine yg (n := 400) ?_
  cases rest with
  | nil =>
    rw [List.append_nil] at hx
    subst hx
    have hG : getE pre n = (⟨#[]⟩, false) := by unfold getE; rw [ZT hpre]
    simp [k9, k10, hG]
    refine T.on 400 ?_
    simp
  | cons x rest =>
    have hlt : (pre.length : Int) < xs.length := by rw [← hx]; simp only [List.length_append, List.length_cons]; omega
    have hle : pre.length + (rest.length + 1) = xs.length := by rw [← hx]; simp
    have hwr : IntKind.i64.wrap ((pre.length : Int) + 1) = pre.length + 1 := zc (by omega) (by omega)
    have hd := ye Env.ty.csn pre (x :: rest)
    rw [hx, yc] at hd
    have hd : List.drop (pre.length * 2) (rows Env.ty.cs xs) = AV.sc (.string x.name) :: AV.sc (.string x.val) :: rows Env.ty.cs rest := hd
    simp [k1, k8, k9, k10, hlt, hd, f7, over]
    by_cases hs : x.name.toList = n.toList
    · have hG : getE xs n = (x.val, true) := by unfold getE; rw [← hx, zax hpre (by simp [sameE, hs])]
      simp [hs, hG]
    · simp [hs, k10, hwr]
      refine ⟨pre ++ [x], rest, by simp, _, Le.reset [1, 8, 9, 10] [] (by simp [za, menB, zb, k1, k8, k9]) (by simp), ?_⟩
      simp [hx, za, k1, k8, k9, Zf, Ye]
      intro y hy
      rcases hy with hy | rfl
      · exact hpre y hy
      · simp [sameE, hs]
theorem R112 (xs : List File) (hb : xs.length * 32 ≤ 140737488355328) : Ret Tryz.prog 112 [.ro (rows File.ty.cs xs) xs.length] (.own (rows File.ty.oc xs) xs.length 2) [.un] := Ret.clone File.ty rfl (bytes := 32) Tryz.func112 ⟨by kernel_rfl, by kernel_rfl, by kernel_rfl⟩ xs hb
def A48 : AC := (.seq (.ops [wO 1 (.box (.t 0)), wO 2 (.alloc [(.sc (.string ⟨#[]⟩)), .em, (.sc (.string ⟨#[]⟩))])])
  (.seq (.ops [qO 3 (.fadr 1 (.t 1)), qO 4 (.load false 1 (.t 3)), cO 5 112 [.t 4], qO 6 (.fadr 1 (.t 1)), nO (.store 1 (.t 6) (.t 5))])
  (.seq (.ops [qO 7 (.load true 3 (.t 1)), nO (.store 3 (.t 2) (.t 7))])
  .ret)))
theorem K48 : Kf Tryz.prog Tryz.f48 A48 8 [.load true 3 (.t 2)] := ⟨by kernel_rfl, by kernel_rfl, by kernel_rfl⟩
theorem R48 (m : Made) (hb : m.outs.length * 32 ≤ 140737488355328) : Ret Tryz.prog 48 [.agg (Made.ty.cs m)] (.agg (Made.ty.oc m)) [.un] := by
  refine Ret.run Tryz.func48 K48 (by simp) rfl rfl 500 ?_
  simp [A48, iniρ, Made.cse, over]
  refine callK.own 5 rfl (by kernel_rfl) (by simp [ze]) (R112 m.outs hb) (File.ty.flo m.outs) (by simp) rfl ?_
  simp [over, ex1, File.ocl, File.frL, Made.oce]
theorem R221 (g : FuncId) (caps : List AV) (f : File → Bool) (hg : callB Tryz.prog g = true) (hsh : shut.shutL caps = true) (xs : List File) (hR : ∀ x ∈ xs, Ret Tryz.prog g (.agg (File.ty.cs x) :: caps) (.sc (.bool (f x))) (.un :: caps.map fun _ => .un)) (hb : xs.length < 4611686018427387904) :
    Ret Tryz.prog 221 [.own (rows File.ty.oc xs) xs.length 2, .clo g caps] (.own (rows File.ty.oc (xs.filter fun x => !f x)) (xs.filter fun x => !f x).length 2) [.un, .un] :=
  Ret.deleteFunc File.ty rfl (ix := 255) Tryz.func221 ⟨by kernel_rfl, by kernel_rfl, by kernel_rfl⟩ g caps f hg (by kernel_rfl) hsh xs hR (R255 g caps f hg hsh xs hR hb) hb
theorem R223 (xs : List File) (i : Nat) (x : File) (hi : i ≤ xs.length) (hb : (xs.length + 1) * 32 ≤ 140737488355328) : Ret Tryz.prog 223 [.own (rows File.ty.oc xs) xs.length 2, .sc (.int .i64 i), .own (File.ty.oc x) 1 2] (.own (rows File.ty.oc (xs.take i ++ x :: xs.drop i)) (xs.length + 1) 2) [.un, .un, .un] :=
  Ret.insert mixed File.ty rfl (ov := 256) (rr := 257) (bytes := 32) Tryz.func223 ⟨by kernel_rfl, by kernel_rfl, by kernel_rfl⟩ (OvF.of Tryz.func256 (by kernel_rfl) (by kernel_rfl) (by kernel_rfl) (by kernel_rfl) (by kernel_rfl)) xs i x hi hb (by omega)
def A281 : AC := (.seq (.ops [qO 4 (.mov (iC 0))])
  (.seq (.seq (.ops [qO 5 (.mov (iC 0))])
  (.block 0 (.loop (.seq (.seq (.ops [qO 6 (.mov (.t 5)), qO 7 (.mov (.t 0)), qO 8 (.llen (.t 7)), qO 9 (.bin .lss (.t 6) (.t 8))])
  (.cond (.t 9) .skip
  (.exit 0)))
  (.seq (.block 1 (.seq (.ops [qO 12 (.mov (.t 0)), qO 13 (.mov (.t 5)), qO 14 (.iadr 2 (.t 12) (.t 13)), qO 15 (.fadr 0 (.t 14)), qO 16 (.load false 1 (.t 15)), qO 17 (.mov (.t 1)), qO 18 (.bin .eql (.t 16) (.t 17))])
  (.cond (.t 18) (.seq (.ops [qO 19 (.mov (.t 5)), qO 4 (.mov (.t 19))])
  .ret)
  .skip)))
  (.ops [qO 10 (.mov (.t 5)), qO 11 (.bin .add (.t 10) (iC 1)), qO 5 (.mov (.t 11))]))))))
  (.seq (.ops [qO 4 (.mov (iC (-1)))])
  .ret)))
theorem K281 : Kf Tryz.prog Tryz.f281 A281 20 [.mov (.t 4)] := ⟨by kernel_rfl, by kernel_rfl, by kernel_rfl⟩
theorem R281 (xs : List File) (n : ByteArray) (hb : xs.length < 4611686018427387904) : Ret Tryz.prog 281 [.ro (rows File.ty.cs xs) xs.length, .sc (.string n)] (.sc (.int .i64 (fIx n xs))) [.un, .un] := by
  refine Ret.run Tryz.func281 K281 (by simp) rfl rfl 500 ?_
  simp [A281, iniρ]
  refine T.rounds (μ := fun i : List File × List File => i.2.length)
    (fun i s => i.1 ++ i.2 = xs ∧ idx (sameF n) i.2 i.1.length = fIx n xs ∧ s.ρ 0 = .ro (rows File.ty.cs xs) xs.length ∧ s.ρ 1 = .sc (.string n) ∧ s.ρ 5 = .sc (.int .i64 i.1.length) ∧ s.h = h0 ∧ s.n = 20) ([], xs) (by simp [za, fIx]) ?_
  rintro ⟨pre, rest⟩ ⟨ρ, hh, m⟩ ⟨hx, hE, k0, k1, k5, rfl, rfl⟩
  simp only at hx hE k0 k1 k5
  refine yg (n := 400) ?_
  cases rest with
  | nil =>
    simp at hx
    subst hx
    simp [k0, k5]
    refine T.on 400 ?_
    simp [← hE, idx]
  | cons x rest =>
    have hlt : (pre.length : Int) < xs.length := by rw [← hx]; simp only [List.length_append, List.length_cons]; omega
    have hd := ye File.ty.csn pre (x :: rest)
    rw [hx, yc] at hd
    have hd : List.drop (pre.length * 2) (rows File.ty.cs xs) = .sc (.string x.path) :: .sc (.string x.text) :: rows File.ty.cs rest := hd
    have hw : IntKind.i64.wrap ((pre.length : Int) + 1) = pre.length + 1 := zc (by omega) (by omega)
    simp [k0, k1, k5, hlt, hd]
    by_cases hk : x.path.toList = n.toList
    · simp [hk, k5, ← hE, idx, sameF]
    · simp [hk, k5, hw]
      refine ⟨pre ++ [x], rest, by simp, _, Le.refl _, ?_⟩
      simp [hx, k0, k1, ← hE, idx, sameF, hk, za]
def A245 : AC := (.seq (.ops [qO 4 (.mov (.c (.sc (.string ⟨#[]⟩)))), qO 5 (.mov (.c (.sc (.bool false))))])
  (.seq (.ops [qO 7 (.mov (.t 0)), qO 8 (.mov (.t 1)), cO 9 281 [.t 7, .t 8], qO 6 (.mov (.t 9))])
  (.seq (.seq (.ops [qO 10 (.mov (.t 6)), qO 11 (.bin .lss (.t 10) (iC 0))])
  (.cond (.t 11) (.seq (.ops [qO 4 (.mov (.c (.sc (.string ⟨#[]⟩)))), qO 5 (.mov (.c (.sc (.bool false))))])
  .ret)
  .skip))
  (.seq (.ops [qO 12 (.mov (.t 0)), qO 13 (.mov (.t 6)), qO 14 (.iadr 2 (.t 12) (.t 13)), qO 15 (.fadr 1 (.t 14)), qO 16 (.load false 1 (.t 15)), qO 4 (.mov (.t 16)), qO 5 (.mov (.c (.sc (.bool true))))])
  .ret))))
theorem K245 : Kf Tryz.prog Tryz.f245 A245 17 [.mov (.t 4), .mov (.t 5)] := ⟨by kernel_rfl, by kernel_rfl, by kernel_rfl⟩
theorem R245 (xs : List File) (n : ByteArray) (hb : xs.length < 4611686018427387904) : Ret Tryz.prog 245 [.ro (rows File.ty.cs xs) xs.length, .sc (.string n)] (.tup [.sc (.string (getF xs n).1), .sc (.bool (getF xs n).2)]) [.un, .un] := by
  refine Ret.run Tryz.func245 K245 (by simp) rfl rfl 500 ?_
  simp [A245, iniρ]
  refine callK.ro 0 rfl (by kernel_rfl) (by simp [ze, Yc]) (R281 xs n hb) rfl rfl rfl ?_
  rcases zE (sameF n) xs 0 with ⟨pre, x, rest, e1, h2, h1, e2⟩ | ⟨h1, e2⟩
  · have e3 : fIx n xs = (pre.length : Int) := by unfold fIx; rw [e2]; omega
    have hG : getF xs n = (x.text, true) := by unfold getF; rw [e1, zax h1 h2]
    have hlt : (pre.length : Int) < xs.length := by rw [e1]; simp only [List.length_append, List.length_cons]; omega
    have hdr := ye File.ty.csn pre (x :: rest)
    rw [← e1, yc, File.cse] at hdr
    have hdr : List.drop (pre.length * 2) (rows File.ty.cs xs) = [.sc (.string x.path), .sc (.string x.text)] ++ rows File.ty.cs rest := hdr
    have hd1 : List.drop (pre.length * 2 + 1) (rows File.ty.cs xs) = [.sc (.string x.text)] ++ rows File.ty.cs rest := by rw [← List.drop_drop, hdr]; rfl
    have hp0 : ¬ ((pre.length : Int) < 0) := by omega
    rw [e3, hG]
    simp [hlt, hd1, hp0]
  · have e3 : fIx n xs = -1 := e2
    have hG : getF xs n = (⟨#[]⟩, false) := by unfold getF; rw [ZT h1]
    rw [e3, hG]
    simp
theorem zdR (f : File) (o : List File) : ∀ x ∈ insF f o, x = f ∨ x ∈ o := fun x hx => by
  unfold insF at hx
  rcases List.mem_append.1 hx with h | h
  · exact .inr (List.mem_of_mem_take h)
  · rcases List.mem_cons.1 h with h | h
    · exact .inl h
    · exact .inr (List.mem_of_mem_drop h)
def A162 : AC := (.seq (.ops [wO 3 (.box (.t 1)), qO 4 (.mov (.c .em)), qO 5 (.mov (.c (.sc (.bool false))))])
  (.seq (.ops [qO 8 (.mov (.t 0)), cO 9 112 [.t 8], qO 10 (.mkf 222 [.t 3]), cO 11 221 [.t 9, .t 10], qO 6 (.mov (.t 11))])
  (.seq (.ops [qO 7 (.mov (iC 0))])
  (.seq (.block 0 (.loop (.seq (.seq (.any [(qO 12 (.mov (.t 7)), []), (qO 13 (.mov (.t 6)), []), (qO 14 (.llen (.t 13)), [1]), (qO 15 (.bin .lss (.t 12) (.t 14)), [0, 2]), (qO 16 (.mov (.t 15)), [3]), (qG 17 16 true (.mov (.t 6)), [4]), (qG 18 16 true (.mov (.t 7)), [4]), (qG 19 16 true (.iadr 2 (.t 17) (.t 18)), [5, 6, 4]), (qG 20 16 true (.fadr 0 (.t 19)), [7, 4]), (qG 21 16 true (.load false 1 (.t 20)), [8, 4]), (qG 22 16 true (.fadr 0 (.t 3)), [4]), (qG 23 16 true (.load false 1 (.t 22)), [10, 4]), (qG 24 16 true (.bin .lss (.t 21) (.t 23)), [9, 11, 4]), (qO 25 (.pick (.t 16) (.t 24) (.c (.sc (.bool false)))), [4, 12])])
  (.cond (.t 25) .skip
  (.exit 0)))
  (.block 1 (.ops [qO 26 (.mov (.t 7)), qO 27 (.bin .add (.t 26) (iC 1)), qO 7 (.mov (.t 27))])))))
  (.seq (.ops [qO 28 (.mov (.t 6)), qO 29 (.mov (.t 7)), qO 30 (.load true 2 (.t 3)), wO 31 (.bsl 2 1 [(.sc (.string ⟨#[]⟩)), (.sc (.string ⟨#[]⟩))] [(0, 2, (.t 30))]), cO 32 223 [.t 28, .t 29, .t 31], qO 6 (.mov (.t 32))])
  (.seq (.seq (.ops [qO 33 (.mov (.t 6)), cO 34 224 [.t 33], qO 35 (.not (.t 34))])
  (.cond (.t 35) (.seq (.ops [qO 36 (.mov (.t 0)), cO 37 112 [.t 36], qO 4 (.mov (.t 37)), qO 5 (.mov (.c (.sc (.bool false))))])
  .ret)
  .skip))
  (.seq (.ops [qO 38 (.mov (.t 6)), qO 4 (.mov (.t 38)), qO 5 (.mov (.c (.sc (.bool true))))])
  .ret)))))))
theorem K162 : Kf Tryz.prog Tryz.f162 A162 39 [.mov (.t 4), .mov (.t 5)] := ⟨by kernel_rfl, by kernel_rfl, by kernel_rfl⟩
set_option maxHeartbeats 4000000 in
theorem R162 (xs : List File) (f : File) (hok : File.ty.slice.ok xs) (hp : ∀ x ∈ xs, x.path.size ≤ 1048576) (hf : f.path.size ≤ 1048576) : Ret Tryz.prog 162 [.ro (rows File.ty.cs xs) xs.length, .agg (File.ty.cs f)] (.tup [.own (rows File.ty.oc (yh xs f).1) (yh xs f).1.length 2, .sc (.bool (yh xs f).2)]) [.un, .un] := by
  have hb : xs.length * 32 ≤ 140737488351232 := hok.1
  obtain ⟨o, ho⟩ : ∃ o, o = noF f.path xs := ⟨_, rfl⟩
  have hlo : o.length ≤ xs.length := by rw [ho]; exact zgN _ xs
  have hpo : ∀ x ∈ insF f o, x.path.size ≤ 1048576 := fun x hx => (zdR f o x hx).elim (fun e => e ▸ hf) fun h => hp x (by rw [ho] at h; exact (List.mem_filter.1 h).1)
  have rD := R221 222 [.rp (File.ty.cs f) 0] (sameF f.path) (by kernel_rfl) rfl xs (fun x _ => R222 f x) (by omega)
  have e : (xs.filter fun x => !sameF f.path x) = o := by rw [ho]; rfl
  rw [e] at rD
  refine Ret.run Tryz.func162 K162 (by simp) rfl rfl 900 ?_
  simp [A162, iniρ]
  refine callK.own 9 rfl (by kernel_rfl) (by simp [ze]) (R112 xs (by omega)) (File.ty.flo xs) (by simp [za]) rfl ?_
  simp
  refine callK.mv1 11 9 rfl (by kernel_rfl) (by simp [za]) (by simp [za]) (File.ocl xs) (File.frL xs) (vs := [.clo 222 [.rp (File.ty.cs f) 0]]) (by simp [roc, za, File.cse]) rD (File.ty.flo _) (by simp [inst, za]; exact ⟨rfl, rfl⟩) rfl ?_
  simp
  refine T.rounds (μ := fun i : List File × List File => i.2.length)
    (fun i s => i.1 ++ i.2 = o ∧ (∀ y ∈ i.1, lessF f.path y = true) ∧ s.ρ 0 = .ro (rows File.ty.cs xs) xs.length ∧ s.ρ 3 = .ref 3 0 ∧ s.ρ 6 = .sl 11 0 o.length 2 false ∧ s.ρ 7 = .sc (.int .i64 i.1.length) ∧ s.h 3 = some (some (File.ty.cs f)) ∧ s.h 11 = some (some (rows File.ty.oc o)) ∧ s.h 31 = none ∧ s.h 32 = none ∧ s.h 37 = none ∧ s.n = 39) ([], o) (by simp [za, File.cse]) ?_
  rintro ⟨pre, rest⟩ ⟨ρ, hh, m⟩ ⟨hx, hpre, k0, k3, k6, k7, g3, g11, f31, f32, f37, rfl⟩
  simp only at hx hpre k0 k3 k6 k7 g3 g11 f31 f32 f37
  refine yg (n := 400) ?_
  have hpl : pre.length ≤ o.length := by rw [← hx]; simp
  have hins : ∀ z : List File, rest = z → (∀ y, z.head? = some y → lessF f.path y = false) → o.take pre.length ++ f :: o.drop pre.length = insF f o := by
    intro z hz hh
    have e : (o.takeWhile (lessF f.path)) = pre := by
      rw [← hx, hz, List.takeWhile_append_of_pos hpre]
      cases z with
      | nil => simp
      | cons y z => rw [List.takeWhile_cons_of_neg (by simp [hh y rfl]), List.append_nil]
    unfold insF
    rw [e]
  refine T.text 400 mixed (by kernel_rfl) (by kernel_rfl) ?_
  cases rest with
  | nil =>
    have hxl : pre.length = o.length := by rw [← hx]; simp
    have hI := hins [] rfl (by simp)
    have hil := zdS f o
    have hRI := R223 o pre.length f hpl (by omega)
    rw [hI] at hRI
    have hfI : flt (.own (rows File.ty.oc (insF f o)) (o.length + 1) 2) = true := by have := File.ty.flo (insF f o); rwa [hil] at this
    simp [k6, k7, hxl]
    refine T.on 400 ?_
    simp [k0, k3, k6, k7, g3, f31, over, File.cse]
    refine callK.mv2 32 11 31 rfl (by kernel_rfl) (by simp [za, k6]) (by simp [za, g11]) (File.ocl _) (File.frL _) (v := .int .i64 pre.length) (by simp [za]) (by simp [za]) (cs2 := File.ty.oc f) (by simp [za, File.oce]) rfl (by rfl) (by decide) hRI (hfI) (by simp [inst, za, f32]; exact ⟨rfl, rfl⟩) rfl ?_
    have hrc : ∀ h : Hp, h 32 = some (some (rows File.ty.oc (insF f o))) → roc h 8 (.sl 32 0 (o.length + 1) 2 false) = some (.ro (rows File.ty.cs (insF f o)) (insF f o).length) := fun h e => by rw [← hil]; exact File.roc8 e
    simp
    refine callK.ro 0 rfl (by kernel_rfl) (by simp [za, hrc]) (R224 (insF f o) (by omega) hpo) rfl rfl rfl ?_
    by_cases hfo : Yw (insF f o) = true
    · have hP : yh xs f = (insF f o, true) := by unfold yh; rw [ZQ, ← ho, if_pos hfo]
      rw [hP]
      simp [hfo, ex1, File.ocl, File.frL, hil]
    have hP : yh xs f = (xs, false) := by unfold yh; rw [ZQ, ← ho, if_neg hfo]
    rw [hP]
    have f37' := f37
    simp [hfo, k0]
    refine callK.own 37 rfl (by kernel_rfl) (by simp [ze, za, k0]) (R112 xs (by omega)) (File.ty.flo xs) (by simp [za, f37]) rfl ?_
    simp [ex1, File.ocl, File.frL]
  | cons x rest =>
    have hlt : (pre.length : Int) < o.length := by rw [← hx]; simp only [List.length_append, List.length_cons]; omega
    have hd := ye File.ty.ocn pre (x :: rest)
    rw [hx, yc, File.oce] at hd
    have hd : List.drop (pre.length * 2) (rows File.ty.oc o) = [.sc (.string x.path), .sc (.string x.text)] ++ rows File.ty.oc rest := hd
    have hw : IntKind.i64.wrap ((pre.length : Int) + 1) = pre.length + 1 := zc (by omega) (by omega)
    cases hles : lessF f.path x with
    | true =>
      have hles' : Op.bytesLess x.path.toList f.path.toList = true := hles
      simp [k0, k3, k6, k7, hlt, g3, g11, hd, hles', hw, File.cse]
      refine ⟨pre ++ [x], rest, by simp, _, Le.refl _, ?_⟩
      simp [za, hx, k0, k3, k6, g3, g11, f31, f32, f37, File.cse]
      intro y hy
      rcases hy with hy | rfl
      · exact hpre y hy
      · exact hles
    | false =>
      have hles' : Op.bytesLess x.path.toList f.path.toList = false := hles
      have hI := hins (x :: rest) rfl (by simp [hles])
      have hil := zdS f o
      have hRI := R223 o pre.length f hpl (by omega)
      rw [hI] at hRI
      have hfI : flt (.own (rows File.ty.oc (insF f o)) (o.length + 1) 2) = true := by have := File.ty.flo (insF f o); rwa [hil] at this
      simp [k0, k3, k6, k7, hlt, g3, g11, hd, hles', File.cse]
      refine T.on 400 ?_
      simp [k0, k3, k6, k7, g3, f31, over, File.cse]
      refine callK.mv2 32 11 31 rfl (by kernel_rfl) (by simp [za, k6]) (by simp [za, g11]) (File.ocl _) (File.frL _) (v := .int .i64 pre.length) (by simp [za]) (by simp [za]) (cs2 := File.ty.oc f) (by simp [za, File.oce]) rfl (by rfl) (by decide) hRI (hfI) (by simp [inst, za, f32]; exact ⟨rfl, rfl⟩) rfl ?_
      have hrc : ∀ h : Hp, h 32 = some (some (rows File.ty.oc (insF f o))) → roc h 8 (.sl 32 0 (o.length + 1) 2 false) = some (.ro (rows File.ty.cs (insF f o)) (insF f o).length) := fun h e => by rw [← hil]; exact File.roc8 e
      simp
      refine callK.ro 0 rfl (by kernel_rfl) (by simp [za, hrc]) (R224 (insF f o) (by omega) hpo) rfl rfl rfl ?_
      by_cases hfo : Yw (insF f o) = true
      · have hP : yh xs f = (insF f o, true) := by unfold yh; rw [ZQ, ← ho, if_pos hfo]
        rw [hP]
        simp [hfo, ex1, File.ocl, File.frL, hil]
      have hP : yh xs f = (xs, false) := by unfold yh; rw [ZQ, ← ho, if_neg hfo]
      rw [hP]
      have f37' := f37
      simp [hfo, k0]
      refine callK.own 37 rfl (by kernel_rfl) (by simp [ze, za, k0]) (R112 xs (by omega)) (File.ty.flo xs) (by simp [za, f37]) rfl ?_
      simp [ex1, File.ocl, File.frL]
def yi (s : ByteArray) : List ByteArray := Yq s 32
def isW (x : ByteArray) (l : List UInt8) : Bool := x.toList == l
def atB (l : List ByteArray) (i : Nat) : ByteArray := l[i]?.getD ⟨#[]⟩
def yx (l : List ByteArray) : Bool := decide (2 ≤ l.length) && isW (atB l (l.length - 2)) [62]
def l15W (s : ByteArray) : List ByteArray × ByteArray := if yx (yi s) then ((yi s).take ((yi s).length - 2), atB (yi s) ((yi s).length - 1)) else (yi s, ⟨#[]⟩)
def fullB (l : List ByteArray) : Bool := l.all fun x => !isW x []
def kindS (w : ByteArray) (n : Nat) (out : ByteArray) (into : Bool) : Bool :=
  if isW w [112, 117, 116] then decide (2 ≤ n) && Zl out
  else if isW w [99, 97, 116] then inR n 2 4 && Zl out
  else if isW w [101, 110, 118] then n == 2 && Zl out
  else if isW w [117, 115, 101] then n == 3 && Zl out
  else if isW w [108, 111, 103] then decide (2 ≤ n) && (isW out [] && !into)
  else if isW w [102, 97, 105, 108] then n == 1 && (isW out [] && !into)
  else false
def yQ (s : ByteArray) : Bool := fullB (l15W s).1 && (!((l15W s).1.length == 0) && kindS (atB (l15W s).1 0) (l15W s).1.length (l15W s).2 (yx (yi s)))
theorem zU (l : List ByteArray) : (rows Ty.str.oc l).length = l.length := by rw [Yb Ty.str.ocn]; exact Nat.mul_one _
theorem zcV (xs : List ByteArray) (i : Nat) (h : i < xs.length) : List.drop i (rows Ty.str.oc xs) = .sc (.string (atB xs i)) :: rows Ty.str.oc (xs.drop (i + 1)) := by
  have h2 := ye Ty.str.ocn (xs.take i) (xs.drop i)
  rw [List.take_append_drop, List.length_take, Nat.min_eq_left (by omega), show i * Ty.str.n = i from Nat.mul_one i] at h2
  rw [h2, List.drop_eq_getElem_cons h, yc]
  have e : atB xs i = xs[i] := by unfold atB; rw [List.getElem?_eq_getElem h]; rfl
  rw [e]
  rfl
theorem ZF (xs : List ByteArray) (i : Nat) (h : i < xs.length) : List.drop i (rows Ty.str.cs xs) = .sc (.string (atB xs i)) :: rows Ty.str.cs (xs.drop (i + 1)) := zcV xs i h
theorem zeG (xs : List ByteArray) (k : Nat) (h : k ≤ xs.length) : List.take k (rows Ty.str.oc xs) = rows Ty.str.oc (xs.take k) := by
  have h2 : rows Ty.str.oc xs = rows Ty.str.oc (xs.take k) ++ rows Ty.str.oc (xs.drop k) := by rw [← Yd, List.take_append_drop]
  rw [h2, List.take_left' (by rw [zU, List.length_take, Nat.min_eq_left h])]
theorem zR (s : ByteArray) : 1 ≤ (yi s).length ∧ (yi s).length ≤ s.size + 1 := by
  have h : (yi s).length = s.data.toList.count 32 + 1 := yK s 32 _ _ _
  have h2 : s.data.toList.count 32 ≤ s.data.toList.length := List.count_le_length
  have h3 : s.data.toList.length = s.size := rfl
  omega
theorem zaZ (s : ByteArray) (b : Int) : ∀ (l : List UInt8) (f i : Nat), ∀ x ∈ Zx s b f i l, x.size ≤ s.size
  | [], f, i, x, h => by
    rw [Zx, List.mem_singleton] at h
    subst h
    rw [ByteArray.size_extract]; omega
  | c :: l, f, i, x, h => by
    rw [Zx] at h
    split at h
    · rcases List.mem_cons.1 h with rfl | h
      · rw [ByteArray.size_extract]; omega
      · exact zaZ s b l _ _ x h
    · exact zaZ s b l _ _ x h
theorem zau (s : ByteArray) : ∀ x ∈ yi s, x.size ≤ s.size := zaZ s 32 _ _ _
theorem zd7 {l : List ByteArray} {n : Nat} (h : ∀ x ∈ l, x.size ≤ n) (i : Nat) : (atB l i).size ≤ n := by
  unfold atB
  cases e : l[i]? with
  | none => exact Nat.zero_le _
  | some y => exact h y (List.mem_of_getElem? e)
theorem zan (s : ByteArray) {n : Nat} (hs : s.size ≤ n) : (l15W s).2.size ≤ n := by
  unfold l15W
  split
  · exact Nat.le_trans (zd7 (zau s) _) hs
  · exact Nat.zero_le _
def A243 : AC := (.seq (.ops [qO 2 (.mov (.c (.sc (.bool false))))])
  (.seq (.seq (.ops [qO 3 (.mov (iC 0))])
  (.block 0 (.loop (.seq (.seq (.ops [qO 4 (.mov (.t 3)), qO 5 (.mov (.t 0)), qO 6 (.llen (.t 5)), qO 7 (.bin .lss (.t 4) (.t 6))])
  (.cond (.t 7) .skip
  (.exit 0)))
  (.seq (.block 1 (.seq (.ops [qO 10 (.mov (.t 0)), qO 11 (.mov (.t 3)), qO 12 (.iadr 1 (.t 10) (.t 11)), qO 13 (.load false 1 (.t 12)), qO 14 (.bin .eql (.t 13) (.c (.sc (.string ⟨#[]⟩))))])
  (.cond (.t 14) (.seq (.ops [qO 2 (.mov (.c (.sc (.bool false))))])
  .ret)
  .skip)))
  (.ops [qO 8 (.mov (.t 3)), qO 9 (.bin .add (.t 8) (iC 1)), qO 3 (.mov (.t 9))]))))))
  (.seq (.ops [qO 2 (.mov (.c (.sc (.bool true))))])
  .ret)))
theorem K243 : Kf Tryz.prog Tryz.f243 A243 15 [.mov (.t 2)] := ⟨by kernel_rfl, by kernel_rfl, by kernel_rfl⟩
theorem R243 (xs : List ByteArray) (hb : xs.length < 4611686018427387904) : Ret Tryz.prog 243 [.ro (rows Ty.str.cs xs) xs.length] (.sc (.bool (fullB xs))) [.un] := by
  refine Ret.run Tryz.func243 K243 (by simp) rfl rfl 500 ?_
  simp [A243, iniρ]
  refine T.rounds (μ := fun i : List ByteArray × List ByteArray => i.2.length)
    (fun i s => i.1 ++ i.2 = xs ∧ fullB i.2 = fullB xs ∧ s.ρ 0 = .ro (rows Ty.str.cs xs) xs.length ∧ s.ρ 3 = .sc (.int .i64 i.1.length) ∧ s.h = h0 ∧ s.n = 15) ([], xs) (by simp [za]) ?_
  rintro ⟨pre, rest⟩ ⟨ρ, hh, m⟩ ⟨hx, hE, k0, k3, rfl, rfl⟩
  simp only at hx hE k0 k3
  refine yg (n := 400) ?_
  cases rest with
  | nil =>
    simp at hx
    subst hx
    have hf : fullB pre = true := hE.symm
    simp [k0, k3]
    refine T.on 400 ?_
    simp [hf]
  | cons x rest =>
    have hlt : (pre.length : Int) < xs.length := by rw [← hx]; simp only [List.length_append, List.length_cons]; omega
    have hlt2 : pre.length < xs.length := by omega
    have hd := ZF xs pre.length hlt2
    have hat : atB xs pre.length = x := by unfold atB; rw [← hx, List.getElem?_append_right (Nat.le_refl _)]; simp
    rw [hat] at hd
    have hw : IntKind.i64.wrap ((pre.length : Int) + 1) = pre.length + 1 := zc (by omega) (by omega)
    simp [k0, k3, hlt, hlt2, hd]
    by_cases hk : x.toList = []
    · have hf : fullB xs = false := by rw [← hE]; simp [fullB, isW, hk]
      simp [hk, hf]
    · have hf : fullB rest = fullB xs := by rw [← hE]; simp [fullB, isW, hk]
      simp [hk, k3, hw]
      refine ⟨pre ++ [x], rest, by simp, _, Le.refl _, ?_⟩
      simp [hx, k0, hf, za]
def A244 : AC := (.seq (.ops [qO 2 (.mov (.c (.sc (.bool false))))])
  (.seq (.ops [qO 4 (.mov (.t 0)), cO 5 113 [.t 4, (.c (.sc (.int .u8 32)))], qO 3 (.mov (.t 5))])
  (.seq (.ops [qO 6 (.mov (.t 3)), qO 7 (.llen (.t 6)), qO 8 (.bin .geq (.t 7) (iC 2)), qO 9 (.mov (.t 8)), qG 10 9 true (.mov (.t 3)), qG 11 9 true (.mov (.t 3)), qG 12 9 true (.llen (.t 11)), qG 13 9 true (.bin .sub (.t 12) (iC 2)), qG 14 9 true (.iadr 1 (.t 10) (.t 13)), qG 15 9 true (.load false 1 (.t 14)), qG 16 9 true (.bin .eql (.t 15) (.c (.sc (.string ⟨#[62]⟩)))), qO 17 (.pick (.t 9) (.t 16) (.c (.sc (.bool false)))), qO 2 (.mov (.t 17))])
  .ret)))
theorem K244 : Kf Tryz.prog Tryz.f244 A244 18 [.mov (.t 2)] := ⟨by kernel_rfl, by kernel_rfl, by kernel_rfl⟩
theorem R244 (s : ByteArray) (hs : s.size ≤ 1048576) : Ret Tryz.prog 244 [.sc (.string s)] (.sc (.bool (yx (yi s)))) [.un] := by
  have rS : Ret Tryz.prog 113 [.sc (.string s), .sc (.int .u8 32)] (.own (rows Ty.str.oc (yi s)) (yi s).length 1) [.un, .un] := R113 s 32 hs
  obtain ⟨h1, h2⟩ := zR s
  obtain ⟨l, hl⟩ : ∃ l, l = yi s := ⟨_, rfl⟩
  rw [← hl] at rS h1 h2 ⊢
  refine Ret.run Tryz.func244 K244 (by simp) rfl rfl 500 ?_
  simp [A244, iniρ]
  refine callK.own 5 rfl (by kernel_rfl) (by simp [Yc]) rS (Ty.str.flo _) (by simp) rfl ?_
  by_cases hg : 2 ≤ l.length
  case neg =>
    have hg2 : ¬ (2 : Int) ≤ l.length := by omega
    simp [yx, hg, hg2]
  have hg2 : (2 : Int) ≤ l.length := by omega
  have hlt : l.length - 2 < l.length := by omega
  have e : (l.length : Int) - 2 = ((l.length - 2 : Nat) : Int) := by omega
  have hw : IntKind.i64.wrap ((l.length - 2 : Nat) : Int) = ((l.length - 2 : Nat) : Int) := zc (by omega) (by omega)
  have hd := zcV l (l.length - 2) hlt
  have hlt3 : ((l.length - 2 : Nat) : Int) < l.length := by omega
  simp [yx, isW, hg, hg2, e, hw, hd, hlt, hlt3]
def A198 : AC := (.seq (.ops [qO 2 (.mov (.c .em)), qO 3 (.mov (.c (.sc (.string ⟨#[]⟩))))])
  (.seq (.ops [qO 6 (.mov (.t 0)), cO 7 113 [.t 6, (.c (.sc (.int .u8 32)))], qO 4 (.mov (.t 7))])
  (.seq (.ops [qO 8 (.mov (.t 4)), qO 9 (.llen (.t 8)), qO 5 (.mov (.t 9))])
  (.seq (.seq (.ops [qO 10 (.mov (.t 5)), qO 11 (.bin .geq (.t 10) (iC 2)), qO 12 (.mov (.t 11)), qG 13 12 true (.mov (.t 4)), qG 14 12 true (.mov (.t 5)), qG 15 12 true (.bin .sub (.t 14) (iC 2)), qG 16 12 true (.iadr 1 (.t 13) (.t 15)), qG 17 12 true (.load false 1 (.t 16)), qG 18 12 true (.bin .eql (.t 17) (.c (.sc (.string ⟨#[62]⟩)))), qO 19 (.pick (.t 12) (.t 18) (.c (.sc (.bool false))))])
  (.cond (.t 19) (.seq (.any [(qO 20 (.mov (.t 4)), []), (qO 21 (.mov (.t 5)), []), (qO 22 (.bin .sub (.t 21) (iC 2)), [1]), (qO 23 (.subl 1 (.t 20) none (some (.t 22))), [0, 2]), (qO 24 (.mov (.t 4)), []), (qO 25 (.mov (.t 5)), []), (qO 26 (.bin .sub (.t 25) (iC 1)), [5]), (qO 27 (.iadr 1 (.t 24) (.t 26)), [4, 6]), (qO 28 (.load false 1 (.t 27)), [7]), (qO 2 (.mov (.t 23)), [3, 0, 1, 2, 3]), (qO 3 (.mov (.t 28)), [8, 9, 0, 1, 2, 3, 4, 5, 6, 7, 8, 9])])
  .ret)
  .skip))
  (.seq (.ops [qO 29 (.mov (.t 4)), qO 2 (.mov (.t 29)), qO 3 (.mov (.c (.sc (.string ⟨#[]⟩))))])
  .ret)))))
theorem K198 : Kf Tryz.prog Tryz.f198 A198 30 [.mov (.t 2), .mov (.t 3)] := ⟨by kernel_rfl, by kernel_rfl, by kernel_rfl⟩
theorem R198 (s : ByteArray) (hs : s.size ≤ 1048576) : Ret Tryz.prog 198 [.sc (.string s)] (.tup [.own (rows Ty.str.oc (l15W s).1) (l15W s).1.length 1, .sc (.string (l15W s).2)]) [.un] := by
  have rS : Ret Tryz.prog 113 [.sc (.string s), .sc (.int .u8 32)] (.own (rows Ty.str.oc (yi s)) (yi s).length 1) [.un, .un] := R113 s 32 hs
  obtain ⟨h1, h2⟩ := zR s
  have hL : l15W s = if yx (yi s) then ((yi s).take ((yi s).length - 2), atB (yi s) ((yi s).length - 1)) else (yi s, ⟨#[]⟩) := rfl
  obtain ⟨l, hl⟩ : ∃ l, l = yi s := ⟨_, rfl⟩
  rw [← hl] at rS h1 h2 hL
  have hid := Ty.str.frL l
  have hln := zU l
  refine Ret.runT Tryz.func198 K198 (by simp) rfl rfl ?_
  refine yg (n := 500) ?_
  simp [A198, iniρ, Zj]
  refine callK.own 7 rfl (by kernel_rfl) (by simp [Yc]) rS (Ty.str.flo _) (by simp) rfl ?_
  by_cases hg : 2 ≤ l.length
  case neg =>
    have hg2 : ¬ (2 : Int) ≤ l.length := by omega
    have hI : yx l = false := by simp [yx, hg]
    rw [hL, hI]
    simp [hg2]
    rw [Zj]
    refine ⟨_, Le.refl _, ?_⟩
    simp [ex1, hid, hln]
  have hg2 : (2 : Int) ≤ l.length := by omega
  have hlt : l.length - 2 < l.length := by omega
  have hlt1 : l.length - 1 < l.length := by omega
  have e : (l.length : Int) - 2 = ((l.length - 2 : Nat) : Int) := by omega
  have e1 : (l.length : Int) - 1 = ((l.length - 1 : Nat) : Int) := by omega
  have hw : IntKind.i64.wrap ((l.length - 2 : Nat) : Int) = ((l.length - 2 : Nat) : Int) := zc (by omega) (by omega)
  have hw1 : IntKind.i64.wrap ((l.length - 1 : Nat) : Int) = ((l.length - 1 : Nat) : Int) := zc (by omega) (by omega)
  have hd := zcV l (l.length - 2) hlt
  have hd1 := zcV l (l.length - 1) hlt1
  have hlt3 : ((l.length - 2 : Nat) : Int) < l.length := by omega
  have hlt4 : ((l.length - 1 : Nat) : Int) < l.length := by omega
  by_cases hk : (atB l (l.length - 2)).toList = [62]
  case neg =>
    have hI : yx l = false := by simp [yx, isW, hk]
    rw [hL, hI]
    simp [hg2, e, hw, hd, hlt, hlt3, hk]
    rw [Zj]
    refine ⟨_, Le.refl _, ?_⟩
    simp [ex1, hid, hln]
  have hI : yx l = true := by simp [yx, isW, hg, hk]
  rw [hL, hI]
  simp [hg2, e, hw, hd, hlt, hlt3, hk]
  refine T.text 400 mixed (by kernel_rfl) (by kernel_rfl) ?_
  simp [hg2, e, e1, hw, hw1, hd1, hlt1, hlt4]
  rw [Zj]
  refine ⟨_, Le.trim 7 (l.length - 2) (cs := rows Ty.str.oc l) (by simp [za]), ?_⟩
  have ht := zeG l (l.length - 2) (by omega)
  have hid2 := Ty.str.frL (l.take (l.length - 2))
  have hln2 := zU (l.take (l.length - 2))
  have hmin : (l.take (l.length - 2)).length = l.length - 2 := by rw [List.length_take, Nat.min_eq_left (by omega)]
  rw [hmin] at hln2
  simp [ex1, za, ht, hid2, hln2, hmin]
def A199 : AC := (.seq (.ops [qO 2 (.mov (.c (.sc (.bool false))))])
  (.seq (.ops [qO 8 (.mov (.t 0)), cO 9 198 [.t 8], qO 7 (.mov (.t 9)), qO 10 (.ext (.t 7) 0), qO 11 (.ext (.t 7) 1), qO 3 (.mov (.t 10)), qO 4 (.mov (.t 11))])
  (.seq (.ops [qO 12 (.mov (.t 3)), qO 13 (.llen (.t 12)), qO 5 (.mov (.t 13))])
  (.seq (.seq (.ops [qO 14 (.mov (.t 3)), cO 15 243 [.t 14], qO 16 (.not (.t 15)), qO 17 (.mov (.t 16)), qG 18 17 false (.mov (.t 5)), qG 19 17 false (.bin .eql (.t 18) (iC 0)), qO 20 (.pick (.t 17) (.c (.sc (.bool true))) (.t 19))])
  (.cond (.t 20) (.seq (.ops [qO 2 (.mov (.c (.sc (.bool false))))])
  .ret)
  .skip))
  (.seq (.ops [qO 21 (.mov (.t 4)), cO 22 203 [.t 21], qO 6 (.mov (.t 22))])
  (.seq (.seq (.ops [qO 23 (.mov (.t 3)), qO 24 (.iadr 1 (.t 23) (iC 0)), qO 25 (.load false 1 (.t 24))])
  (.block 0 (.seq (.ops [qO 27 (.bin .eql (.t 25) (.c (.sc (.string ⟨#[112, 117, 116]⟩)))), qO 26 (.mov (.t 27))])
  (.cond (.t 26) (.seq (.ops [qO 28 (.mov (.t 5)), qO 29 (.bin .geq (.t 28) (iC 2)), qO 30 (.mov (.t 29)), qG 31 30 true (.mov (.t 6)), qO 32 (.pick (.t 30) (.t 31) (.c (.sc (.bool false)))), qO 2 (.mov (.t 32))])
  .ret)
  (.seq (.ops [qO 34 (.bin .eql (.t 25) (.c (.sc (.string ⟨#[99, 97, 116]⟩)))), qO 33 (.mov (.t 34))])
  (.cond (.t 33) (.seq (.ops [qO 35 (.mov (.t 5)), cO 36 143 [.t 35, iC 2, iC 4], qO 37 (.mov (.t 36)), qG 38 37 true (.mov (.t 6)), qO 39 (.pick (.t 37) (.t 38) (.c (.sc (.bool false)))), qO 2 (.mov (.t 39))])
  .ret)
  (.seq (.ops [qO 41 (.bin .eql (.t 25) (.c (.sc (.string ⟨#[101, 110, 118]⟩)))), qO 40 (.mov (.t 41))])
  (.cond (.t 40) (.seq (.ops [qO 42 (.mov (.t 5)), qO 43 (.bin .eql (.t 42) (iC 2)), qO 44 (.mov (.t 43)), qG 45 44 true (.mov (.t 6)), qO 46 (.pick (.t 44) (.t 45) (.c (.sc (.bool false)))), qO 2 (.mov (.t 46))])
  .ret)
  (.seq (.ops [qO 48 (.bin .eql (.t 25) (.c (.sc (.string ⟨#[117, 115, 101]⟩)))), qO 47 (.mov (.t 48))])
  (.cond (.t 47) (.seq (.ops [qO 49 (.mov (.t 5)), qO 50 (.bin .eql (.t 49) (iC 3)), qO 51 (.mov (.t 50)), qG 52 51 true (.mov (.t 6)), qO 53 (.pick (.t 51) (.t 52) (.c (.sc (.bool false)))), qO 2 (.mov (.t 53))])
  .ret)
  (.seq (.ops [qO 55 (.bin .eql (.t 25) (.c (.sc (.string ⟨#[108, 111, 103]⟩)))), qO 54 (.mov (.t 55))])
  (.cond (.t 54) (.seq (.ops [qO 56 (.mov (.t 5)), qO 57 (.bin .geq (.t 56) (iC 2)), qO 58 (.mov (.t 57)), qG 59 58 true (.mov (.t 4)), qG 60 58 true (.bin .eql (.t 59) (.c (.sc (.string ⟨#[]⟩)))), qO 61 (.pick (.t 58) (.t 60) (.c (.sc (.bool false)))), qO 62 (.mov (.t 61)), qG 63 62 true (.mov (.t 0)), cG 64 62 true 244 [.t 63], qG 65 62 true (.not (.t 64)), qO 66 (.pick (.t 62) (.t 65) (.c (.sc (.bool false)))), qO 2 (.mov (.t 66))])
  .ret)
  (.seq (.ops [qO 68 (.bin .eql (.t 25) (.c (.sc (.string ⟨#[102, 97, 105, 108]⟩)))), qO 67 (.mov (.t 68))])
  (.cond (.t 67) (.seq (.ops [qO 69 (.mov (.t 5)), qO 70 (.bin .eql (.t 69) (iC 1)), qO 71 (.mov (.t 70)), qG 72 71 true (.mov (.t 4)), qG 73 71 true (.bin .eql (.t 72) (.c (.sc (.string ⟨#[]⟩)))), qO 74 (.pick (.t 71) (.t 73) (.c (.sc (.bool false)))), qO 75 (.mov (.t 74)), qG 76 75 true (.mov (.t 0)), cG 77 75 true 244 [.t 76], qG 78 75 true (.not (.t 77)), qO 79 (.pick (.t 75) (.t 78) (.c (.sc (.bool false)))), qO 2 (.mov (.t 79))])
  .ret)
  .skip))))))))))))))
  (.seq (.ops [qO 2 (.mov (.c (.sc (.bool false))))])
  .ret)))))))
theorem K199 : Kf Tryz.prog Tryz.f199 A199 80 [.mov (.t 2)] := ⟨by kernel_rfl, by kernel_rfl, by kernel_rfl⟩
set_option maxHeartbeats 4000000 in
theorem R199 (s : ByteArray) (hs : s.size ≤ 1048576) : Ret Tryz.prog 199 [.sc (.string s)] (.sc (.bool (yQ s))) [.un] := by
  have rW := R198 s hs
  have rI := R244 s hs
  have hA : yQ s = (fullB (l15W s).1 && (!((l15W s).1.length == 0) && kindS (atB (l15W s).1 0) (l15W s).1.length (l15W s).2 (yx (yi s)))) := rfl
  obtain ⟨h1, h2⟩ := zR s
  have hll : (l15W s).1.length ≤ (yi s).length := by
    unfold l15W
    split
    · show (List.take _ _).length ≤ _
      rw [List.length_take]; omega
    · exact Nat.le_refl _
  have hp2 : (l15W s).2.size ≤ 1048576 := zan s hs
  obtain ⟨l, hl⟩ : ∃ l, l = (l15W s).1 := ⟨_, rfl⟩
  obtain ⟨o, ho⟩ : ∃ l, l = (l15W s).2 := ⟨_, rfl⟩
  obtain ⟨b, hb⟩ : ∃ b, b = yx (yi s) := ⟨_, rfl⟩
  rw [← hl, ← ho] at rW hA
  rw [← hl] at hll
  rw [← ho] at hp2
  rw [← hb] at rI hA
  have hrw : ∀ (h : Hp) (k : Nat), h k = some (some (rows Ty.str.oc l)) → roc h 8 (.sl k 0 l.length 1 false) = some (.ro (rows Ty.str.cs l) l.length) := fun h k e => zbV e
  have hfl : flt (.tup [.own (rows Ty.str.oc l) l.length 1, .sc (.string o)]) = true := by
    have h1 := Ty.str.flo l
    simp only [flt, flt.fltL, Bool.and_eq_true] at h1 ⊢
    exact ⟨h1, trivial, trivial⟩
  refine Ret.run Tryz.func199 K199 (by simp) rfl rfl 900 ?_
  simp [A199, iniρ]
  refine callK.ro 9 rfl (by kernel_rfl) (by simp [Yc]) rW hfl (by simp [inst, instL, shut, za]; exact ⟨rfl, rfl⟩) rfl ?_
  simp
  refine callK.ro 0 rfl (by kernel_rfl) (by simp [hrw, za]) (R243 l (by omega)) rfl rfl rfl ?_
  rw [hA]
  by_cases hf : fullB l = true
  case neg =>
    have hf : fullB l = false := by simpa using hf
    simp [hf]
  by_cases h0 : l.length = 0
  · simp [hf, h0]
  have h0' : ¬ ((l.length : Int) = 0) := by omega
  have hpos : 0 < l.length := by omega
  have hne : ¬ l = [] := fun e => h0 (by rw [e]; rfl)
  have hd := zcV l 0 hpos
  rw [List.drop_zero] at hd
  simp [hf, h0, h0']
  refine callK.ro 0 rfl (by kernel_rfl) (by simp [Yc]) (R203 o (by omega)) rfl rfl rfl ?_
  simp [hd, hpos]
  obtain ⟨w, hw⟩ : ∃ w, w = atB l 0 := ⟨_, rfl⟩
  rw [← hw]
  by_cases k1 : w.toList = [112, 117, 116]
  · by_cases c1 : 2 ≤ l.length
    · have c2 : (2 : Int) ≤ l.length := by omega
      simp [kindS, isW, hne, k1, c1, c2]
    · have c2 : ¬ (2 : Int) ≤ l.length := by omega
      simp [kindS, isW, hne, k1, c1, c2]
  by_cases k2 : w.toList = [99, 97, 116]
  · simp [k1, k2]
    refine callK.ro 0 rfl (by kernel_rfl) (by simp [Yc]) (R143 l.length 2 4) rfl rfl rfl ?_
    cases c1 : inR l.length 2 4 with
    | true => simp [kindS, isW, hne, k1, k2, c1]
    | false => simp [kindS, isW, hne, k1, k2, c1]
  by_cases k3 : w.toList = [101, 110, 118]
  · by_cases c1 : l.length = 2
    · have c2 : (l.length : Int) = 2 := by omega
      simp [kindS, isW, hne, k1, k2, k3, c1, c2]
    · have c2 : ¬ (l.length : Int) = 2 := by omega
      simp [kindS, isW, hne, k1, k2, k3, c1, c2]
  by_cases k4 : w.toList = [117, 115, 101]
  · by_cases c1 : l.length = 3
    · have c2 : (l.length : Int) = 3 := by omega
      simp [kindS, isW, hne, k1, k2, k3, k4, c1, c2]
    · have c2 : ¬ (l.length : Int) = 3 := by omega
      simp [kindS, isW, hne, k1, k2, k3, k4, c1, c2]
  by_cases k5 : w.toList = [108, 111, 103]
  · by_cases c1 : 2 ≤ l.length
    case neg =>
      have c2 : (l.length : Int) < 2 := by omega
      have c4 : ¬ (2 : Int) ≤ l.length := by omega
      simp [kindS, isW, hne, k1, k2, k3, k4, k5, c1, c2, c4]
    have c2 : (2 : Int) ≤ l.length := by omega
    by_cases c3 : o.toList = []
    case neg => simp [kindS, isW, hne, k1, k2, k3, k4, k5, c1, c2, c3]
    simp [k1, k2, k3, k4, k5, c2, c3]
    refine callK.ro 0 rfl (by kernel_rfl) (by simp [Yc]) rI rfl rfl rfl ?_
    simp [kindS, isW, hne, k1, k2, k3, k4, k5, c1, c2, c3]
  by_cases k6 : w.toList = [102, 97, 105, 108]
  · by_cases c1 : l.length = 1
    case neg =>
      have c2 : ¬ (l.length : Int) = 1 := by omega
      simp [kindS, isW, hne, k1, k2, k3, k4, k5, k6, c1, c2]
    have c2 : (l.length : Int) = 1 := by omega
    by_cases c3 : o.toList = []
    case neg => simp [kindS, isW, hne, k1, k2, k3, k4, k5, k6, c1, c2, c3]
    simp [k1, k2, k3, k4, k5, k6, c2, c3]
    refine callK.ro 0 rfl (by kernel_rfl) (by simp [Yc]) rI rfl rfl rfl ?_
    simp [kindS, isW, hne, k1, k2, k3, k4, k5, k6, c1, c2, c3]
  simp [kindS, isW, hne, k1, k2, k3, k4, k5, k6]
end Go.Proofs.YtopofpihpnjmbaaGreatDoor.Am
