/- FnExactSameMades: the row. -/
import Derived.Test.YtlajojcobadieaaRows
import Derived.Test.YtlajojcobadieaaSameMades
import Derived.Test.YtlajojcobadieaaAmT
import Derived.WalkKit
import Derived.ProofKit
import Derived.OpenShut
import Derived.ShutString
import Derived.ChangeOld
import Derived.Below
import Derived.SizedLaws
namespace Go.Proofs.Ytlajojcobadieaa.fnExactSameMades
open Go.ChangeShapes Go.WideShapes Go.ChangeAt Go.RowKit
open Go.Proofs.Ytlajojcobadieaa.Am (Sh Is shB open_arg Ret.law rows R7)
set_option linter.unusedVariables false
theorem own : ownKnob Try.prog.godebug = none := by kernel_rfl
theorem laidOut : laidOutB Try.prog = true := by kernel_rfl
abbrev fileSh : Sh := .slice 32 2 (.struct (.cons .str (.cons .str .nil)))
abbrev madeSh : Sh := .slice 56 3 (.struct (.cons .str (.cons fileSh (.cons .str .nil))))
theorem files {l : List Am.AV} (h : Is fileSh l) : ∃ xs : List Am.File, l = [.ro (rows Am.File.cs xs) xs.length] ∧ xs.length < 4398046511104 := by
  obtain ⟨rs, rfl, hb, h⟩ := h
  have key : ∀ rs : List (List Am.AV), (∀ r ∈ rs, Is (.struct (.cons .str (.cons .str .nil))) r) → ∃ xs : List Am.File, rs = xs.map Am.File.cs := fun rs => by
    induction rs with
    | nil => intro _; exact ⟨[], rfl⟩
    | cons r rs ih =>
      intro h
      obtain ⟨xs, rfl⟩ := ih fun r hr => h r (by simp [hr])
      obtain ⟨l1, l2, rfl, ⟨s, hs, rfl⟩, l3, l4, rfl, ⟨n, hn, rfl⟩, rfl⟩ := h r (by simp)
      exact ⟨⟨s, n⟩ :: xs, rfl⟩
  obtain ⟨xs, rfl⟩ := key rs h
  refine ⟨xs, by simp [rows], ?_⟩
  have : reachBytes = 140737488351232 := rfl
  rw [this] at hb
  simp only [List.length_map] at hb
  omega
theorem mades {l : List Am.AV} (h : Is madeSh l) : ∃ xs : List Am.Made, l = [.ro (rows Am.Made.cs xs) xs.length] ∧ xs.length < 4398046511104 ∧ ∀ s ∈ xs, s.ok := by
  obtain ⟨rs, rfl, hb, h⟩ := h
  have key : ∀ rs : List (List Am.AV), (∀ r ∈ rs, Is (.struct (.cons .str (.cons fileSh (.cons .str .nil)))) r) → ∃ xs : List Am.Made, rs = xs.map Am.Made.cs ∧ ∀ s ∈ xs, s.ok := fun rs => by
    induction rs with
    | nil => intro _; exact ⟨[], rfl, by simp⟩
    | cons r rs ih =>
      intro h
      obtain ⟨xs, rfl, hxs⟩ := ih fun r hr => h r (by simp [hr])
      obtain ⟨l1, l2, rfl, ⟨o, ho, rfl⟩, l3, l4, rfl, h3, l5, l6, rfl, ⟨e, he, rfl⟩, rfl⟩ := h r (by simp)
      obtain ⟨fs, rfl, hf⟩ := files h3
      exact ⟨⟨o, fs, e⟩ :: xs, rfl, fun s hs => (List.mem_cons.1 hs).elim (fun e => e ▸ hf) (hxs s)⟩
  obtain ⟨xs, rfl, hxs⟩ := key rs h
  refine ⟨xs, by simp [rows], ?_, hxs⟩
  have : reachBytes = 140737488351232 := rfl
  rw [this] at hb
  simp only [List.length_map] at hb
  omega
set_option maxRecDepth 100000 in
theorem lifted (os : Os) (started : os.Started) (H : Type) (enc : TypeId × Value → H) :
    ReturnsInHanded {} Try.checked os 7 .any (Rows.fnExactSameMadesSpec.pre6 enc Try.prog Try.f7 Rows.fnExactSameMadesRow.domain false) (Rows.fnExactSameMadesSpec.post enc Try.prog Try.f7 false true false false) := by
  refine returnsInHanded_of_change_sized (C := Try.checked) own started (by kernel_rfl) Try.func7
    (ChangeSpec.witness6 (enc := enc) (C := Try.checked) false ⟨#[], #[.slice none 0 0, .slice none 0 0], []⟩ 8 (by kernel_rfl) (by kernel_rfl) (by kernel_rfl) (by kernel_rfl)) ?_
  intro W base args ds gs before hval0 hW hcnd hsz0 _
  have hsz : (DataW.weightsEach Try.prog (Try.f7.params.toList ++ Rows.fnExactSameMadesSpec.plain.varTypes Try.prog) (ds ++ gs)).all (· ≤ reachBytes) = true := hsz0
  have hval : ∀ (j : Nat) t v, Try.f7.params[j]? = some t → args[j]? = some v → Value.okWide Try.prog W .any base t v := hval0
  have hW' := hW
  obtain ⟨p, q, hA0, hV, rfl, hfz, hnd⟩ := hW
  have hA : DataW.TrodAll enc Try.prog W 0 (fun _ => true) true Try.f7.params.toList args.toList ds p := hA0
  rw [Try.params7] at hA hval hsz
  obtain ⟨v0, vs0, d0, ds0, p0, q0, hargs, rfl, rfl, h0, r0⟩ := trodAll_cons hA
  obtain ⟨v1, vs1, d1, ds1, p1, q1, rfl, rfl, rfl, h1, r1⟩ := trodAll_cons r0
  obtain ⟨rfl, rfl, rfl⟩ := trodAll_nil r1
  obtain rfl : args = #[v0, v1] := by cases args; simp_all
  obtain ⟨rfl, rfl⟩ := trodVars_none hV
  have lt0 : ∀ x ∈ p0, x.block < W.heap.size := by obtain ⟨m, hm⟩ := h0; exact DataW.trod_lt m _ _ _ hm
  have b0 : ∀ n ∈ d0.weights Try.prog 40, n ≤ reachBytes := fun n hn => by simpa using List.all_eq_true.1 hsz n (DataW.weights_mem_each (j := 0) rfl rfl n hn)
  obtain ⟨l0, i0, w0⟩ := open_arg (s := madeSh) (by kernel_rfl) (hval 0 40 v0 rfl rfl) h0 b0
  obtain ⟨xs, rfl, hx, hs⟩ := mades i0
  have lt1 : ∀ x ∈ p1, x.block < W.heap.size := by obtain ⟨m, hm⟩ := h1; exact DataW.trod_lt m _ _ _ hm
  have b1 : ∀ n ∈ d1.weights Try.prog 40, n ≤ reachBytes := fun n hn => by simpa using List.all_eq_true.1 hsz n (DataW.weights_mem_each (j := 1) rfl rfl n hn)
  obtain ⟨l1, i1, w1⟩ := open_arg (s := madeSh) (by kernel_rfl) (hval 1 40 v1 rfl rfl) h1 b1
  obtain ⟨ys, rfl, hy, ht⟩ := mades i1
  clear hA0 hval0 hsz0 hsz
  refine (Ret.law (vs := [v0, v1]) (R7 xs ys hx hy hs ht) rfl (fun j x v hj hv => ?_)).mono fun e W' ⟨he, bel⟩ => ?_
  · match j with
    | 0 => cases hj; cases hv; exact w0
    | 1 => cases hj; cases hv; exact w1
    | j + 2 => simp at hj
  subst he
  exact ⟨_, rfl, _, _, _, [], _, [], hW', trodAll_mk1 (shut_bool Try.underlying4 _), (trodAll_cons_mk (Below.trod laidOut (by kernel_rfl) (of_decide_eq_true (by kernel_rfl)) h0 bel lt0) (trodAll_cons_mk (Below.trod laidOut (by kernel_rfl) (of_decide_eq_true (by kernel_rfl)) h1 bel lt1) trodAll_mk0)), rfl, bel.frame _, fun h => by cases h⟩
theorem over : Rows.fnExactSameMadesRow.holds Try.pinned (OpenSpec.ofChange Rows.fnExactSameMadesSpec) :=
  OpenClaim.holds_of_wide 7 Try.f7 rfl rfl rfl rfl rfl rfl rfl ⟨rfl, rfl, rfl, rfl, rfl⟩ rfl rfl rfl rfl rfl (by kernel_rfl) Try.func7 (by kernel_rfl)
    (of_decide_eq_true (by kernel_rfl)) (by unfold Func.isWrapper; first | (rw [if_pos (by decide +kernel)]; kernel_rfl) | (rw [if_neg (by decide +kernel)]; exact ⟨rfl, rfl⟩))
    (fun os started H enc _ => lifted os started H enc)
theorem proved : Rows.FnExactSameMadesSaid := over
#print axioms proved
end Go.Proofs.Ytlajojcobadieaa.fnExactSameMades
namespace Go.Proofs.Ytlajojcobadieaa
/-- The row, under a short name, for the claim. -/
theorem fnExactSameMades_holds : Rows.FnExactSameMadesSaid := fnExactSameMades.proved
end Go.Proofs.Ytlajojcobadieaa
