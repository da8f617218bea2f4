/- FnExactCacheOk: the row. -/
import Derived.Test.YtlajojcobadieaaRows
import Derived.Test.YtlajojcobadieaaCacheOk
import Derived.Test.YtlajojcobadieaaAmT
import Derived.WalkKit
import Derived.ProofKit
import Derived.OpenShut
import Derived.ShutString
import Derived.ChangeOld
import Derived.Below
import Derived.SizedLaws
namespace Go.Proofs.Ytlajojcobadieaa.fnExactCacheOk
open Go.ChangeShapes Go.WideShapes Go.ChangeAt Go.RowKit
open Go.Proofs.Ytlajojcobadieaa.Am (Sh Is shB open_arg Ret.law rows R5)
set_option linter.unusedVariables false
theorem own : ownKnob Try.prog.godebug = none := by kernel_rfl
theorem laidOut : laidOutB Try.prog = true := by kernel_rfl
abbrev bytesSh : Sh := .slice 1 1 (.int .u8)
abbrev slotSh : Sh := .slice 48 2 (.struct (.cons bytesSh (.cons bytesSh .nil)))
theorem bytes {l : List Am.AV} (h : Is bytesSh l) : ∃ ns : List Int, l = [.ro (rows Am.B ns) ns.length] ∧ ns.length ≤ 140737488351232 := by
  obtain ⟨rs, rfl, hb, h⟩ := h
  have key : ∀ rs : List (List Am.AV), (∀ r ∈ rs, Is (.int .u8) r) → ∃ ns : List Int, rs = ns.map Am.B := fun rs => by
    induction rs with
    | nil => intro _; exact ⟨[], rfl⟩
    | cons r rs ih =>
      intro h
      obtain ⟨ns, rfl⟩ := ih fun r hr => h r (by simp [hr])
      obtain ⟨n, hn, rfl⟩ := h r (by simp)
      exact ⟨n :: ns, rfl⟩
  obtain ⟨ns, rfl⟩ := key rs h
  refine ⟨ns, by simp [rows], ?_⟩
  have : reachBytes = 140737488351232 := rfl
  rw [this] at hb
  simp only [List.length_map] at hb
  omega
theorem slots {l : List Am.AV} (h : Is slotSh l) : ∃ xs : List Am.Slot, l = [.ro (rows Am.Slot.cs xs) xs.length] ∧ xs.length < 4398046511104 ∧ ∀ s ∈ xs, s.ok := by
  obtain ⟨rs, rfl, hb, h⟩ := h
  have key : ∀ rs : List (List Am.AV), (∀ r ∈ rs, Is (.struct (.cons bytesSh (.cons bytesSh .nil))) r) → ∃ xs : List Am.Slot, rs = xs.map Am.Slot.cs ∧ ∀ s ∈ xs, s.ok := fun rs => by
    induction rs with
    | nil => intro _; exact ⟨[], rfl, by simp⟩
    | cons r rs ih =>
      intro h
      obtain ⟨xs, rfl, hxs⟩ := ih fun r hr => h r (by simp [hr])
      obtain ⟨l1, l2, rfl, h1, l3, l4, rfl, h3, rfl⟩ := h r (by simp)
      obtain ⟨k, rfl, hk⟩ := bytes h1
      obtain ⟨b, rfl, hb⟩ := bytes h3
      exact ⟨⟨k, b⟩ :: xs, rfl, fun s hs => (List.mem_cons.1 hs).elim (fun e => e ▸ ⟨hk, hb⟩) (hxs s)⟩
  obtain ⟨xs, rfl, hxs⟩ := key rs h
  refine ⟨xs, by simp [rows], ?_, hxs⟩
  have : reachBytes = 140737488351232 := rfl
  rw [this] at hb
  simp only [List.length_map] at hb
  omega
set_option maxRecDepth 100000 in
theorem lifted (os : Os) (started : os.Started) (H : Type) (enc : TypeId × Value → H) :
    ReturnsInHanded {} Try.checked os 5 .any (Rows.fnExactCacheOkSpec.pre6 enc Try.prog Try.f5 Rows.fnExactCacheOkRow.domain false) (Rows.fnExactCacheOkSpec.post enc Try.prog Try.f5 false true false false) := by
  refine returnsInHanded_of_change_sized (C := Try.checked) own started (by kernel_rfl) Try.func5
    (ChangeSpec.witness6 (enc := enc) (C := Try.checked) false ⟨#[], #[.slice none 0 0], []⟩ 8 (by kernel_rfl) (by kernel_rfl) (by kernel_rfl) (by kernel_rfl)) ?_
  intro W base args ds gs before hval0 hW hcnd hsz0 _
  have hsz : (DataW.weightsEach Try.prog (Try.f5.params.toList ++ Rows.fnExactCacheOkSpec.plain.varTypes Try.prog) (ds ++ gs)).all (· ≤ reachBytes) = true := hsz0
  have hval : ∀ (j : Nat) t v, Try.f5.params[j]? = some t → args[j]? = some v → Value.okWide Try.prog W .any base t v := hval0
  have hW' := hW
  obtain ⟨p, q, hA0, hV, rfl, hfz, hnd⟩ := hW
  have hA : DataW.TrodAll enc Try.prog W 0 (fun _ => true) true Try.f5.params.toList args.toList ds p := hA0
  rw [Try.params5] at hA hval hsz
  obtain ⟨v0, vs0, d0, ds0, p0, q0, hargs, rfl, rfl, h0, r0⟩ := trodAll_cons hA
  obtain ⟨rfl, rfl, rfl⟩ := trodAll_nil r0
  obtain rfl : args = #[v0] := by cases args; simp_all
  obtain ⟨rfl, rfl⟩ := trodVars_none hV
  have lt0 : ∀ x ∈ p0, x.block < W.heap.size := by obtain ⟨m, hm⟩ := h0; exact DataW.trod_lt m _ _ _ hm
  have b0 : ∀ n ∈ d0.weights Try.prog 30, n ≤ reachBytes := fun n hn => by simpa using List.all_eq_true.1 hsz n (DataW.weights_mem_each (j := 0) rfl rfl n hn)
  obtain ⟨l0, i0, w0⟩ := open_arg (s := slotSh) (by kernel_rfl) (hval 0 30 v0 rfl rfl) h0 b0
  obtain ⟨xs, rfl, hx, hs⟩ := slots i0
  clear hA0 hval0 hsz0 hsz
  refine (Ret.law (vs := [v0]) (R5 xs hx hs) rfl (fun j x v hj hv => ?_)).mono fun e W' ⟨he, bel⟩ => ?_
  · match j with
    | 0 => cases hj; cases hv; exact w0
    | j + 1 => simp at hj
  subst he
  exact ⟨_, rfl, _, _, _, [], _, [], hW', trodAll_mk1 (shut_bool Try.underlying4 _), (trodAll_cons_mk (Below.trod laidOut (by kernel_rfl) (of_decide_eq_true (by kernel_rfl)) h0 bel lt0) trodAll_mk0), rfl, bel.frame _, fun h => by cases h⟩
theorem over : Rows.fnExactCacheOkRow.holds Try.pinned (OpenSpec.ofChange Rows.fnExactCacheOkSpec) :=
  OpenClaim.holds_of_wide 5 Try.f5 rfl rfl rfl rfl rfl rfl rfl ⟨rfl, rfl, rfl, rfl, rfl⟩ rfl rfl rfl rfl rfl (by kernel_rfl) Try.func5 (by kernel_rfl)
    (of_decide_eq_true (by kernel_rfl)) (by unfold Func.isWrapper; first | (rw [if_pos (by decide +kernel)]; kernel_rfl) | (rw [if_neg (by decide +kernel)]; exact ⟨rfl, rfl⟩))
    (fun os started H enc _ => lifted os started H enc)
theorem proved : Rows.FnExactCacheOkSaid := over
#print axioms proved
end Go.Proofs.Ytlajojcobadieaa.fnExactCacheOk
namespace Go.Proofs.Ytlajojcobadieaa
/-- The row, under a short name, for the claim. -/
theorem fnExactCacheOk_holds : Rows.FnExactCacheOkSaid := fnExactCacheOk.proved
end Go.Proofs.Ytlajojcobadieaa
