/- A call by the callee's contract; every operation; regions; no condition. -/
import Derived.Test.YtiejaibmcmicoaaGreatDoorAm7
namespace Go.Proofs.YtiejaibmcmicoaaGreatDoor.Am
open Go
def callB (P : Program) (f : FuncId) : Bool :=
  match P.funcs[f]? with
  | some fn => fn.name != "runtime.NumGoroutine" && fn.body.isSome
  | none => false
theorem run_callFunc {P : Program} {f : FuncId} (h : callB P f = true) (args : Array Value) (w : World) : (callFunc f args).run P w = .ok (.enter f args) w := by
  unfold callB at h
  cases hf : P.funcs[f]? with
  | none => rw [hf] at h; cases h
  | some fn =>
    rw [hf] at h
    simp only [Bool.and_eq_true, bne_iff_ne, ne_eq] at h
    obtain ⟨b, hb⟩ := Option.isSome_iff_exists.1 h.2
    simp [callFunc, hf, h.1, hb]
def St.setO (st : St) (d : Option Nat) (x : AV) : St := match d with | some d => st.set d x | none => st
theorem Inv.setO {E : Ent} {φ : Nat → Option Loc} {M : Nat → Prop} {L : Nat → List Nat} {st : St} {a : Act} {w : World} (h : Inv E φ M L st a.tmps w) (d : Option Nat) (hd : ∀ k, d = some k → k < st.n) (x : AV) (v : Value) (hx : V φ M w x v []) :
    Inv E φ M L (st.setO d x) (a.put d v).tmps w := by
  cases d with
  | none => exact h
  | some d => exact h.set d (hd d rfl) x v hx
theorem put_defers (a : Act) (d : Option Nat) (v : Value) : (a.put d v).defers = a.defers := by cases d <;> rfl
def noLive (st : St) : Prop := ∀ b cs, st.h b ≠ some (some cs)
theorem ArgsOk.lens {φ : Nat → Option Loc} {M : Nat → Prop} {w : World} {L : Nat → List Nat} {l : List (Md × AV)} {vs : List Value} {r : List (Option AV × Option Nat)} {Fs Ts : List (List Nat)} (h : ArgsOk φ M w L l vs r Fs Ts) : Ts.length = Fs.length := by
  induction h with
  | nil => rfl
  | cons _ _ _ ih => simp [ih]
def OpT (P : Program) (o : Oper) (st st' : St) : Prop :=
  ∀ (E : Ent) (a : Act) (w : World) (K : Act → World → Prop) (Q : Exit → Act → World → Prop), SR E st a.tmps w → (∀ v w', SR E st' (a.put o.dst v).tmps w' → K (a.put o.dst v) w') → o.wp P a w K Q
section
variable {P : Program} {o : Oper} {st st1 st2 st3 : St}
theorem OpT.quiet {q : QOp} (hq : qop P o = some q) {y : AV} (hy : aval q st.ρ st.h = some y) (hd : ∀ k, o.dst = some k → k < st.n) : OpT P o st (st.setO o.dst y) := by
  intro E a w K Q ⟨φ, M, L, I⟩ hK
  obtain ⟨v, h1, h2⟩ := aval_ok hq I hy
  unfold Oper.wp
  rw [h1, Oper.upon_value]
  exact hK _ _ ⟨φ, M, L, I.setO o.dst hd y v h2⟩
theorem OpT.make {wo : WOp} (hw : wop P o = some wo) {d : Nat} {y : AV} (hy : weff wo d st = some (y, st1)) (hd : ∀ k, o.dst = some k → k < st1.n) : OpT P o st (st1.setO o.dst y) := by
  intro E a w K Q ⟨φ, M, L, I⟩ hK
  obtain ⟨v, w', φ', M', L', h1, I', h2⟩ := weff_ok hw I hy
  unfold Oper.wp
  rcases h1 with h1 | ⟨h1, rfl⟩
  · rw [h1, Oper.upon_value]
    exact hK _ _ ⟨φ', M', L', I'.setO o.dst hd y v h2⟩
  · rw [h1, Oper.upon_skip]
    exact hK _ _ ⟨φ', M', L', I'.setO o.dst hd y undef h2⟩
def cop (o : Oper) : Option (AX × List AX) :=
  match o.op with
  | .call { callee := .value f, args, .. } => (cx f).bind fun f => (args.toList.mapM cx).map fun as => (f, as)
  | _ => none
theorem OpT.call {fx : AX} {as : List AX} (hc : cop o = some (fx, as)) {f : FuncId} {caps : List AV} (hf : fx.ev st.ρ = .clo f caps) (hcall : callB P f = true) {ms : List Md} (hms : ms.length = as.length + caps.length)
    {fl : List (Md × AV)} (hfla : flatL (ms.zip (as.map (·.ev st.ρ) ++ caps)) = some fl) {r : List (Option AV × Option Nat)} (hex : exL fl st = some (r, st1)) {yl ys : List AV} (hys : shutArgs st1.h fl r = some yl) (hasm : asm ms yl = some ys)
    {ret : AV} {outs ol : List AV} (hR : Ret P f ys ret outs) (hout : outF ms outs = some ol) (hfl : (flt ret = true ∧ flt.fltL ol = true) ∨ noLive st1 ∨ closedB fl r = true) (hb : backL r ol st1 = some st2) {d : Nat} {y : AV} (hi : inst 64 d ret st2 = some (y, st3)) (hd : ∀ k, o.dst = some k → k < st3.n) :
    OpT P o st (st3.setO o.dst y) := by
  intro E a w K Q ⟨φ, M, L, I⟩ hK
  -- the operation
  unfold cop at hc
  split at hc <;> (try cases hc)
  rename_i fo args ts ho
  simp only [Option.bind_eq_some_iff, Option.map_eq_some_iff, Prod.mk.injEq] at hc
  obtain ⟨fx', hfx, as', has, rfl, rfl⟩ := hc
  have hvf := I.ev hfx
  rw [hf] at hvf
  obtain ⟨cvs, hfv, hcl, hcv⟩ := vclo hvf rfl
  obtain ⟨hal, hav⟩ := mapM_cx has I
  have hexec : (execOp a.eval o).run P w = .ok (.enter f (args.toList.map a.eval ++ cvs).toArray) w := by
    have : (args.map a.eval ++ cvs.toArray : Array Value) = (args.toList.map a.eval ++ cvs).toArray := by
      apply Array.ext'; simp
    simp only [execOp, ho, resolve, hfv, Deferred.ofValue, Sem.run_bind, Sem.run_pure, Result.andThen_ok, invoke, Array.empty_append, run_callFunc hcall, this]
  -- the arguments
  generalize hxs : as'.map (·.ev st.ρ) ++ caps = xs at *
  have hxl : xs.length = (args.toList.map a.eval ++ cvs).length := by rw [← hxs, List.length_append, List.length_append, ← hal, hcl]
  have hxv : ∀ (j : Nat) (x : AV) (u : Value), xs[j]? = some x → (args.toList.map a.eval ++ cvs)[j]? = some u → V φ M w x u [] := by
    intro j x u hx hu
    subst hxs
    by_cases hj : j < (as'.map (·.ev st.ρ)).length
    · rw [List.getElem?_append_left hj] at hx
      rw [List.getElem?_append_left (by omega)] at hu
      exact hav j x u hx hu
    · rw [List.getElem?_append_right (by omega)] at hx
      rw [List.getElem?_append_right (by omega), hal] at hu
      exact hcv _ x u hx hu
  generalize args.toList.map a.eval ++ cvs = vs at *
  have hml : ms.length = xs.length := by rw [hms, ← hxs]; simp
  obtain ⟨vl, hlk, hvl, hvlv⟩ := flat_ok ms xs vs fl hml hxl.symm hxv hfla
  obtain ⟨I1, Fs, Ts, hargs, hTn, hTf, hTm⟩ := exL_ok fl st st1 r vl I hvl (fun j m x v hz hv => hvlv j (m, x) v hz hv) hex
  have hFT := hargs.sub.subset
  let M1 : Nat → Prop := fun g => M g ∨ (closedB fl r = false ∧ ∃ b cs, st1.h b = some (some cs) ∧ g ∈ L b)
  have hyv : Vs nof M1 w yl vl Fs := by
    cases hcl : closedB fl r with
    | false => exact hargs.args (M' := M1) I1 (fun g h => .inl h) (fun b cs hb g hg => .inr ⟨hcl, b, cs, hb, hg⟩) hys
    | true =>
      obtain ⟨k1, k2, k3⟩ := hargs.argsShut hcl hys
      exact ⟨k1, k2, fun j y v G a b c => (k3 j y v G a b c).mono (fun _ _ h => h) (fun g h => .inl h) (fun _ _ => rfl)⟩
  have hM1low : ∀ g, M1 g → g < w.heap.size := fun g h => by
    rcases h with h | ⟨_, b, cs, hb, hg⟩
    · exact I1.bound g h
    · exact I1.low b cs hb g hg
  have hFM1 : ∀ g ∈ Fs.flatten, ¬ M1 g ∧ g < w.heap.size := fun g hg => by
    have h1 := hTf g (hFT hg)
    refine ⟨fun h => ?_, h1.2.1⟩
    rcases h with h | ⟨_, b, cs, hb, hg'⟩
    · exact h1.1.2.1 h
    · exact h1.1.1 b cs hb hg'
  obtain ⟨Fa, hya, hFa⟩ := asm_ok hlk yl ys Fs hyv hasm
  have hcalls := hR M1 w vs Fa hya (by rw [hFa]; exact hTn.sublist hargs.sub) (by rw [hFa]; exact hFM1) hM1low ⟨fun x hx => ⟨.inl (I1.laidIn.1 x hx).1, (I1.laidIn.1 x hx).2⟩, fun g hg => ⟨.inl (I1.laidIn.2 g hg).1, (I1.laidIn.2 g hg).2⟩⟩
  unfold Oper.wp
  rw [hexec, Oper.upon_enter]
  refine hcalls.mono ?_
  rintro e w' ⟨v, M', Fr, Ga, rfl, hret, hoa, hposa, hl⟩
  rw [hFa] at hl
  obtain ⟨Gs, ⟨ho1, ho2, ho3⟩, hGa, hpos⟩ := outF_ok hlk outs ol Ga hoa hposa hout
  rw [← hGa] at hl
  -- the world behind the call
  let M2 : Nat → Prop := fun g => M' g ∧ ¬ ∃ b cs, st1.h b = some (some cs) ∧ g ∈ L b
  have hM2 : ∀ g, M g → M2 g := fun g h => ⟨hl.m g (.inl h), fun ⟨b, cs, hb, hg⟩ => I1.notM b cs hb g hg h⟩
  have hFree1 : ∀ g, g ∈ Fs.flatten → Free E M L st1 g := fun g hg => (hTf g (hFT hg)).1
  have hM2' : ∀ g, M2 g → M g ∨ Free E M L st1 g ∨ w.heap.size ≤ g := fun g h => by
    rcases hl.m' g h.1 with (h1 | h1) | h1 | h1
    · exact .inl h1
    · exact absurd h1.2 h.2
    · exact .inr (.inl (hFree1 g h1))
    · exact .inr (.inr h1)
  have hkeepF : ∀ g, g < w.heap.size → ¬ Free E M L st1 g → w'.heap[g]? = w.heap[g]? := fun g hg hn => hl.frame g hg fun h => hn (hFree1 g h)
  have I2 := I1.step (M' := M2) hM2 hM2' (fun g h => hl.low g h.1) hl.grown hl.os hl.tape hl.output hl.keep hkeepF
  have hlift : ∀ x v F, (flt x = true ∨ noLive st1 ∨ closedB fl r = true) → V nof M' w' x v F → V nof M2 w' x v F := fun x v F h hv => by
    rcases h with h | h | h
    · exact hv.flat h
    · exact hv.mono (fun _ _ h => h) (fun g hg => ⟨hg, fun ⟨b, cs, hb, _⟩ => h b cs hb⟩) (fun _ _ => rfl)
    · refine hv.mono (fun _ _ h => h) (fun g hg => ⟨hg, fun ⟨b, cs, hb, hgL⟩ => ?_⟩) (fun _ _ => rfl)
      rcases hl.m' g hg with h1 | h1 | h1
      · rcases h1 with h1 | ⟨h1, _⟩
        · exact I1.notM b cs hb g hgL h1
        · rw [h] at h1; cases h1
      · exact (hFree1 g h1).1 b cs hb hgL
      · have := I1.low b cs hb g hgL; omega
  have hfreeG : ∀ g ∈ Fr ++ Gs.flatten, Free E M2 L st1 g ∧ g < w'.heap.size := fun g hg => by
    obtain ⟨h1, h2, h3⟩ := hl.own g hg
    refine ⟨⟨fun b cs hb hgL => ?_, fun h => h1 h.1, ?_⟩, h2⟩
    · rcases h3 with h3 | h3
      · exact (hFree1 g h3).1 b cs hb hgL
      · have := I1.low b cs hb g hgL; omega
    · rcases h3 with h3 | h3
      · exact (hFree1 g h3).2.2
      · exact .inr (by have := I1.grown; omega)
  have hapart := hargs.apart hTn
  obtain ⟨hn1, hn2, hn3⟩ := List.nodup_append.1 hl.nodup
  have hlenF : Fs.length = ol.length := by rw [hyv.2.1, ← hyv.1, ho1]
  have hlenT : Ts.length = Fs.length := hargs.lens
  have hTM2 : ∀ g ∈ Ts.flatten, g ∉ Fs.flatten → Free E M2 L st1 g ∧ g < w'.heap.size := fun g hg hn => by
    obtain ⟨h1, h2, h3⟩ := hTf g hg
    refine ⟨⟨h1.1, fun h => ?_, h1.2.2⟩, by have := hl.grown; omega⟩
    rcases hM2' g h with h4 | h4 | h4
    · exact h1.2.1 h4
    · rcases hl.m' g h.1 with h5 | h5 | h5
      · rcases h5 with h5 | ⟨_, b, cs, hb, hg'⟩
        · exact h1.2.1 h5
        · exact h1.1 b cs hb hg'
      · exact hn h5
      · omega
    · omega
  obtain ⟨hU1, hU2⟩ := useL_nodup (Q := fun g => g ∈ Fs.flatten ∨ w.heap.size ≤ g) Fs Ts Gs hlenT (by rw [ho2, hlenF]) hTn hn2 (fun g hg => (hl.own g (List.mem_append.2 (.inr hg))).2.2) (fun j T hF hT g hg h => by
    rcases h with h | h
    · exact hapart j T hF hT g hg h
    · have := (hTf g (mem_flatten_of hT hg)).2.1; omega)
  have hUf : ∀ g ∈ (useL Fs Ts Gs).flatten, Free E M2 L st1 g ∧ g < w'.heap.size := fun g hg => by
    rcases hU2 g hg with h | ⟨h, h'⟩
    · exact hfreeG g (List.mem_append.2 (.inr h))
    · exact hTM2 g h fun hF => h' (.inl hF)
  obtain ⟨φ3, L3, T3⟩ := backL_ok hargs st1 st2 φ L ol Gs I2 (fun _ _ h => h) (fun _ _ => rfl) hl.keep hM2 (fun g hg => hl.frame g (I1.bound g hg) fun hF => (hFree1 g hF).2.1 hg) (by rw [ho2])
    (fun j y v G h1 h2 h3 => hlift y v G (hfl.imp (fun h => fltL_mem h.2 y (List.mem_of_getElem? h1)) id) (ho3 j y v G h1 h2 h3)) hpos hU1 hUf
    (fun j T hF hT g hg => hl.frame g (hTf g (mem_flatten_of hT hg)).2.1 (hapart j T hF hT g hg)) hb
  have hFrU : ∀ g ∈ Fr, g ∉ (useL Fs Ts Gs).flatten := fun g hg hU => by
    rcases hU2 g hU with h | ⟨h, h'⟩
    · exact hn3 g hg g h rfl
    · exact h' ((hl.own g (List.mem_append.2 (.inl hg))).2.2)
  obtain ⟨φ4, L4, T4, hy⟩ := inst_ok 64 d ret st2 st3 φ3 L3 v Fr y T3.inv (hlift ret v Fr (hfl.imp (·.1) id) hret) hn1 (fun g hg => ⟨T3.free g (hfreeG g (List.mem_append.2 (.inl hg))).1 (hFrU g hg), (hfreeG g (List.mem_append.2 (.inl hg))).2⟩) hi
  exact hK _ _ ⟨φ4, M2, L4, T4.inv.setO o.dst hd y v hy⟩
end
end Go.Proofs.YtiejaibmcmicoaaGreatDoor.Am
