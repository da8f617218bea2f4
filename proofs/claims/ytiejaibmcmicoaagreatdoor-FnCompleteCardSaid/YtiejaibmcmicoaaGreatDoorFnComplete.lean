/- FnComplete: the row. -/
import Derived.Test.YtiejaibmcmicoaaGreatDoorRows
import Derived.WalkKit
import Derived.ProofKit
import Derived.OpenShut
import Derived.ShutString
import Derived.ChangeOld
import Derived.Below
import Derived.SizedLaws
import Derived.LaidMore
import Derived.Handed
import Derived.Lay
import Derived.Stop.Joined
import Derived.Stop.LaidErr
import Derived.MakeChecks
import Derived.Lib.LaidTab
import Derived.SevenTiedAt
import Derived.Test.YtiejaibmcmicoaaGreatDoorTie
import Derived.Test.YtiejaibmcmicoaaGreatDoorCards
import Derived.Test.YtiejaibmcmicoaaGreatDoorBX
namespace Go.Proofs.YtiejaibmcmicoaaGreatDoor.fnComplete
open Go.ChangeShapes Go.WideShapes Go.ChangeAt Go.RowKit
open Go.Proofs.YtiejaibmcmicoaaGreatDoor.Am (Ty Sh Is shB open_arg Ret.law rows argAV R5)
set_option linter.unusedVariables false
theorem own : ownKnob Tryz.prog.godebug = none := by kernel_rfl
theorem laidOut : laidOutB Tryz.prog = true := by kernel_rfl
theorem door_met (os : Os) (args : Array Value) : laidMetH Tryz.prog Rows.fnCompleteRow.laid ((World.laidAll Tryz.prog os Rows.fnCompleteRow.laid).forCall (fun _ _ => 0) ⟨#[], args, []⟩).memory := by
  rw [MakeChecks.laidMetH_plain _ _ _ (by kernel_rfl)]
  exact laidMet_laidAll _ (by kernel_rfl) (by kernel_rfl)
/-- A variable of the kind of int holds some int. -/
theorem int_of_shape {P : Program} {w : World} {g : Nat} {t : TypeId} {zero : Array Value} (h : w.ShapedOpen P) (hg : g < P.globals.size) (h0 : ((begin P (fun _ _ => 0) default).world.heap[g]?).bind Obj.row? = some (zero, t)) (hz : zero.size = 1)
    (hb : P.buildable t = true) (hc : P.cellTypes P.depth t = some [t]) (hu : P.underlying t = some (.int .i64)) : g < w.heap.size ∧ ∃ v a b, w.heap[g]? = some (.cells #[.int .i64 v] a b) := by
  obtain ⟨cs, hh, hs, hr⟩ := h.1 g zero t hg h0
  obtain ⟨ts, hts, _, hall⟩ := hr hb
  rw [hc] at hts
  cases hts
  have h1 : 0 < cs.size := by omega
  obtain ⟨u, hu', hok⟩ := hall 0 cs[0] (by simp [h1])
  have e : u = t := by simpa using hu'.symm
  subst e
  have hcs : cs = #[cs[0]] := by
    apply Array.ext
    · simp; omega
    · intro i i1 i2
      have : i = 0 := by simp at i2; omega
      subst this; rfl
  unfold Cell.ok at hok
  rw [hu] at hok
  refine ⟨(Array.getElem?_eq_some_iff.1 hh).1, ?_⟩
  cases hv : cs[0] <;> rw [hv] at hok hcs <;> first | (obtain ⟨rfl, _⟩ := hok; exact ⟨_, _, _, by rw [hh, hcs]⟩) | simp at hok
theorem tabs_met {W : World} (hsh : W.ShapedOpen Tryz.prog) (h : laidMetH Tryz.prog Rows.fnCompleteRow.laid W) : Am.Laid (· < W.heap.size) W := by
  rw [MakeChecks.laidMetH_plain _ _ _ (by kernel_rfl)] at h
  have h3 : laidMet Tryz.prog (("internal/strconv.uint64pow10", Lib.tabData .u64 Lib.pow10Tab) :: Rows.fnCompleteRow.laid.drop 3) W := h.tail.tail
  have hg : Tryz.prog.globalNamed "internal/strconv.uint64pow10" = some 3 := by kernel_rfl
  have ht := Lib.tabIs_of_head (t := 233) (e := 133) (n := 20) hg (by kernel_rfl) (by kernel_rfl) (by kernel_rfl) (by kernel_rfl) (by kernel_rfl) h3
  unfold Lib.TabIs World.var? at ht
  rw [hg] at ht
  simp only [Option.bind_some] at ht
  refine ⟨fun x hx => ?_, fun g hg => by
    unfold Am.ints at hg
    obtain rfl := List.mem_singleton.1 hg
    exact int_of_shape (t := 3) (zero := #[.int .i64 0]) hsh (of_decide_eq_true (by kernel_rfl)) (by kernel_rfl) rfl (by kernel_rfl) (by kernel_rfl) (by kernel_rfl)⟩
  unfold Am.tabs at hx
  obtain rfl := List.mem_singleton.1 hx
  split at ht
  · rename_i cs a b hc
    cases ht
    exact ⟨(Array.getElem?_eq_some_iff.1 hc).1, a, b, hc⟩
  · cases ht
set_option maxRecDepth 100000 in
theorem lifted (os : Os) (started : os.Started) (H : Type) (enc : TypeId × Value → H) :
    ReturnsInHanded {} Tryz.checked os 5 .any (fun w args => (Rows.fnCompleteSpec.pre enc Tryz.prog Tryz.f5 Rows.fnCompleteRow.domain false w args ∧ laidMetH Tryz.prog Rows.fnCompleteRow.laid w) ∧ sizedMet enc Tryz.prog Tryz.f5 (OpenSpec.ofChange Rows.fnCompleteSpec) false w args) (Rows.fnCompleteSpec.post enc Tryz.prog Tryz.f5 false true false false) := by
  have key : ∀ (W : World) (base : Nat) (args : Array Value) (ds gs : List (DataW H)) (before : List MemPlace), W.ShapedOpen Tryz.prog → (∀ (j : Nat) t v, Tryz.f5.params[j]? = some t → args[j]? = some v → Value.okWide Tryz.prog W .any base t v) →
      DataW.Whole enc Tryz.prog Tryz.f5.params.toList Rows.fnCompleteSpec.vars false W args.toList ds gs before → (DataW.weightsEach Tryz.prog (Tryz.f5.params.toList ++ Rows.fnCompleteSpec.plain.varTypes Tryz.prog) (ds ++ gs)).all (· ≤ reachBytes) = true → laidMetH Tryz.prog Rows.fnCompleteRow.laid W →
      Calls Tryz.prog 5 args W fun e W' => ∃ v, e = .returned v ∧ Rows.fnCompleteSpec.post enc Tryz.prog Tryz.f5 false true false false W args v W' := by
    intro W base args ds gs before hsh hval0 hW hsz0 hL
    have hsz : (DataW.weightsEach Tryz.prog (Tryz.f5.params.toList ++ Rows.fnCompleteSpec.plain.varTypes Tryz.prog) (ds ++ gs)).all (· ≤ reachBytes) = true := hsz0
    have hval : ∀ (j : Nat) t v, Tryz.f5.params[j]? = some t → args[j]? = some v → Value.okWide Tryz.prog W .any base t v := hval0
    have hW' := hW
    obtain ⟨p, q, hA0, hV, rfl, hfz, hnd⟩ := hW
    have hA : DataW.TrodAll enc Tryz.prog W 0 (fun _ => true) true Tryz.f5.params.toList args.toList ds p := hA0
    rw [Tryz.params5] at hA hval hsz
    obtain ⟨v0, vs0, d0, ds0, p0, q0, hargs, rfl, rfl, h0, r0⟩ := trodAll_cons hA
    obtain ⟨rfl, rfl, rfl⟩ := trodAll_nil r0
    obtain rfl : args = #[v0] := by cases args; simp_all
    obtain ⟨rfl, rfl⟩ := trodVars_none hV
    have lt0 : ∀ x ∈ p0, x.block < W.heap.size := by obtain ⟨m, hm⟩ := h0; exact DataW.trod_lt m _ _ _ hm
    have b0 : ∀ n ∈ d0.weights Tryz.prog 22, n ≤ reachBytes := fun n hn => by simpa using List.all_eq_true.1 hsz n (DataW.weights_mem_each (j := 0) rfl rfl n hn)
    obtain ⟨l0, i0, w0⟩ := open_arg (s := Am.Ty.byte.slice.shape) (by kernel_rfl) (hval 0 22 v0 rfl rfl) h0 b0
    obtain ⟨x0, rfl, o0⟩ := Am.Ty.byte.slice.is _ i0
    clear hA0 hval0 hsz0 hsz
    refine (Ret.law (vs := [v0]) (R5 x0 o0) rfl (fun j x v hj hv => ?_) (tabs_met hsh hL)).mono fun e W' ⟨he, bel⟩ => ?_
    · match j with
      | 0 => cases hj; cases hv; exact w0
      | j + 1 => simp at hj
    subst he
    exact ⟨_, rfl, _, _, _, [], _, [], hW', trodAll_mk1 (shut_bool Tryz.underlying4 _), (trodAll_cons_mk (Below.trod laidOut (by kernel_rfl) (of_decide_eq_true (by kernel_rfl)) h0 bel lt0) trodAll_mk0), rfl, bel.frame _, fun h => by cases h⟩
  refine returnsInHanded_of_calls (C := Tryz.checked) own started (by kernel_rfl)
    (ChangeSpec.witness_shaped (enc := enc) (C := Tryz.checked) (os := os) (X := fun w _ => laidMetH Tryz.prog Rows.fnCompleteRow.laid w) false (World.laidAll Tryz.prog os Rows.fnCompleteRow.laid) #[.slice none 0 0] 20 (World.laidAll_os _ _ _) (World.shaped_of_ZipB (by kernel_rfl) (by kernel_rfl)) (by kernel_rfl) (by kernel_rfl) (by kernel_rfl) (door_met os _)) ?_
  intro w tape i _ hsh _ hok hpre _
  obtain ⟨_, _, _, fn', hfn', _, _, _, _, hval⟩ := hok
  obtain rfl : fn' = Tryz.f5 := Option.some.inj (hfn'.symm.trans Tryz.func5)
  obtain ⟨⟨⟨ds, gs, before, hw, hc⟩, hx⟩, hz⟩ := hpre
  refine (key (w.forCall tape i) w.heap.size i.args ds gs before hsh hval (DataW.Whole.of_heap (w' := w.forCall tape i) (by rfl) hw) (hz.weights hw) (hx.of_heap (w' := w.forCall tape i) (by rfl))).mono fun e W' ⟨v, he, hp⟩ => ?_
  subst he
  exact ChangeSpec.post_blind hp
theorem over : Rows.fnCompleteRow.holds Tryz.pinned (OpenSpec.ofChange Rows.fnCompleteSpec) :=
  OpenClaim.holds_of_wide 5 Tryz.f5 rfl rfl rfl rfl rfl rfl rfl ⟨rfl, rfl, rfl, rfl, rfl⟩ rfl rfl rfl rfl rfl (by kernel_rfl) Tryz.func5 (by kernel_rfl)
    (of_decide_eq_true (by kernel_rfl)) (by unfold Func.isWrapper; first | (rw [if_pos (by decide +kernel)]; kernel_rfl) | (rw [if_neg (by decide +kernel)]; exact ⟨rfl, rfl⟩))
    (fun os started H enc _ => lifted os started H enc)
set_option maxRecDepth 100000 in
theorem proved : Rows.FnCompleteCardSaid :=
  Claim7.holds_tied_plain_at .later [] [.data, .data, .data, .data, .pinned] true (true, "affc97d387ed6cea19be095d33782c5f47b312072af68736e833836b375dea08") false
    over (fun _ h => by cases h) (by kernel_rfl) (fun _ h => by cases h) fnComplete_row_tie rfl ⟨rfl, rfl⟩ (by kernel_rfl) rfl
    (fun f fn hf hfn => by
      obtain rfl : f = 5 := Option.some.inj ((show Tryz.prog.funcNamed "loop.example/g00464/laws.FnComplete" = some 5 by kernel_rfl).symm.trans hf) |>.symm
      obtain rfl : fn = Tryz.f5 := (Option.some.inj (Tryz.func5.symm.trans hfn)).symm
      exact ⟨by kernel_rfl, fun j t ht => by
        rw [Tryz.params5] at ht
        have hm : t ∈ [22] := by simpa using Array.mem_of_getElem? ht
        have hall : ([22].all fun u => !Tryz.prog.wantsStandIn u) = true := by kernel_rfl
        exact (show Tryz.prog.wantsStandIn t = false by simpa using List.all_eq_true.1 hall t hm)⟩)
    (by kernel_rfl)
#print axioms proved
end Go.Proofs.YtiejaibmcmicoaaGreatDoor.fnComplete
namespace Go.Proofs.YtiejaibmcmicoaaGreatDoor
/-- The card, under a short name, for the claim. -/
theorem fnComplete_holds : Rows.FnCompleteCardSaid := fnComplete.proved
end Go.Proofs.YtiejaibmcmicoaaGreatDoor
