/- Functions alike from type to type: sizes, equality, search, copies; no condition. -/
import Derived.Test.YtiejaibmcmicoaaGreatDoorAmY
namespace Go.Proofs.YtiejaibmcmicoaaGreatDoor.Am
open Go
set_option linter.unusedSimpArgs false
set_option linter.unusedVariables false
attribute [local congr] T_congr callK_congr callWK_congr
attribute [local simp] run_nil run_op0 run_opg run_seq run_cond run_block run_ret run_skip run_skip_after run_skip_blk run_exit run_exit_after run_exit_blk run_loop run_any runS_nil runS_op0 runS_opg exec_q exec_w exec_c exec_n rest_app restS_app execS_q execS_c aval dOk upd_app ev_t ev_c setO_some setO_none put_mk pinsOf isIo hasIo sbin endR fin resL one outL out1 clo1 cloL coe coeL shut shut.shutL wantA weff cellsOf fillA deref natOf ρ0_app h0_app plain plain.plainL keep_app keepH_app andThen_normal andThen_ret andThen_exit pop_nil pop_after pop_after_ret pop_after_exit pop_blk pop_blk_ret pop_blk_exit nilA
def el (agg : Bool) (cs : List AV) : AV := if agg then .agg cs else cs.headD .un
theorem el_true (cs : List AV) : el true cs = .agg cs := rfl
theorem Ty.one {α : Type} (t : Ty α) (h : t.n = 1) (x : α) : ∃ v, t.cs x = [v] ∧ shut v = true ∧ plain v = true ∧ el false (t.cs x) = v := by
  have h1 := t.csn x
  rw [h] at h1
  have hs := t.sh x
  cases hc : t.cs x with
  | nil => rw [hc] at h1; simp at h1
  | cons y l =>
    rw [hc] at h1 hs
    cases l with
    | nil => exact ⟨y, rfl, hs y (by simp), shut_plain (hs y (by simp)), rfl⟩
    | cons => simp at h1
def Sz (P : Program) (F : FuncId) (a : AV) (w : Nat) : Prop := ∀ l : Int, 0 ≤ l → l ≤ 1048576 → ∃ n : Int, (n < 0 ∨ n = l - w) ∧ Ret P F [a, .sc (.int .i64 l)] (.sc (.int .i64 n)) [.un, .un]
def szSC (sz : Nat) (g : FuncId) (agg : Bool) : AC := .seq (.ops [⟨(some 4), none, .q (.mov (.c (.sc (.int .i64 0))))⟩])
  (.seq (.ops [⟨(some 6), none, .q (.mov (.t 1))⟩, ⟨(some 7), none, .q (.mov (.t 0))⟩, ⟨(some 8), none, .q (.llen (.t 7))⟩, ⟨(some 9), none, .q (.bin .sub (.t 6) (.t 8))⟩, ⟨(some 1), none, .q (.mov (.t 9))⟩])
  (.seq (.seq (.ops [⟨(some 10), none, .q (.mov (.t 1))⟩, ⟨(some 11), none, .q (.bin .lss (.t 10) (.c (.sc (.int .i64 0))))⟩])
  (.cond (.t 11) (.seq (.ops [⟨(some 4), none, .q (.mov (.c (.sc (.int .i64 (-1)))))⟩])
  .ret)
  .skip))
  (.seq (.seq (.ops [⟨(some 5), none, .q (.mov (.c (.sc (.int .i64 0))))⟩])
  (.block 0 (.loop (.seq (.seq (.ops [⟨(some 12), none, .q (.mov (.t 5))⟩, ⟨(some 13), none, .q (.mov (.t 0))⟩, ⟨(some 14), none, .q (.llen (.t 13))⟩, ⟨(some 15), none, .q (.bin .lss (.t 12) (.t 14))⟩])
  (.cond (.t 15) .skip
  (.exit 0)))
  (.seq (.block 1 (.seq (.ops [⟨(some 18), none, .q (.mov (.t 0))⟩, ⟨(some 19), none, .q (.mov (.t 5))⟩, ⟨(some 20), none, .q (.iadr sz (.t 18) (.t 19))⟩, ⟨(some 21), none, .q (.load agg sz (.t 20))⟩, ⟨(some 22), none, .q (.mov (.t 1))⟩, ⟨(some 23), none, .c (.c (.clo g [])) [(.t 21), (.t 22)]⟩, ⟨(some 1), none, .q (.mov (.t 23))⟩])
  (.seq (.ops [⟨(some 24), none, .q (.mov (.t 1))⟩, ⟨(some 25), none, .q (.bin .lss (.t 24) (.c (.sc (.int .i64 0))))⟩])
  (.cond (.t 25) (.seq (.ops [⟨(some 4), none, .q (.mov (.c (.sc (.int .i64 (-1)))))⟩])
  .ret)
  .skip))))
  (.ops [⟨(some 16), none, .q (.mov (.t 5))⟩, ⟨(some 17), none, .q (.bin .add (.t 16) (.c (.sc (.int .i64 1))))⟩, ⟨(some 5), none, .q (.mov (.t 17))⟩]))))))
  (.seq (.ops [⟨(some 26), none, .q (.mov (.t 1))⟩, ⟨(some 4), none, .q (.mov (.t 26))⟩])
  .ret))))
section
variable {P : Program} {α : Type}
theorem szL_spec {f : α → Int → Int} {wt : α → Nat} : ∀ (xs : List α), (∀ x ∈ xs, ∀ l, 0 ≤ l → l ≤ 1048576 → f x l < 0 ∨ f x l = l - wt x) → ∀ l : Int, 0 ≤ l → l ≤ 1048576 → szL f xs l < 0 ∨ szL f xs l = l - wtL wt xs
  | [], _, l, _, _ => by right; simp [szL, wtL]
  | x :: xs, h, l, h0, h1 => by
    simp only [szL, wtL]
    split
    · left; omega
    · rename_i hn
      rcases h x (by simp) l h0 h1 with h2 | h2
      · exact absurd h2 hn
      · rw [h2] at hn ⊢
        rcases szL_spec xs (fun y hy => h y (by simp [hy])) (l - wt x) (by omega) (by omega) with h3 | h3
        · exact .inl h3
        · right; rw [h3]; omega
theorem Sz.slice (t : Ty α) {F g : FuncId} {agg : Bool} {fn : Func} (hf : P.funcs[F]? = some fn) (hk : fn.body.bind (comp P) = some (szSC t.n g agg) ∧ fn.ntmps = 27 ∧ fn.results.toList.mapM (resB P) = some [.mov (.t 4)])
    (hgc : callB P g = true) (ha : agg = false → t.n = 1) (xs : List α) (hg : ∀ x ∈ xs, Sz P g (el agg (t.cs x)) (t.wt x)) (hb : xs.length < 4611686018427387904) : Sz P F (.ro (rows t.cs xs) xs.length) (xs.length + wtL t.wt xs) := by
  intro left hl0 hl1
  classical
  let f : α → Int → Int := fun x l => if h : x ∈ xs ∧ 0 ≤ l ∧ l ≤ 1048576 then Classical.choose (hg x h.1 l h.2.1 h.2.2) else 0
  have hfx : ∀ x ∈ xs, ∀ l, 0 ≤ l → l ≤ 1048576 → (f x l < 0 ∨ f x l = l - t.wt x) ∧ Ret P g [el agg (t.cs x), .sc (.int .i64 l)] (.sc (.int .i64 (f x l))) [.un, .un] := fun x hx l h0 h1 => by
    have := Classical.choose_spec (hg x hx l h0 h1)
    simp only [f, dif_pos (And.intro hx (And.intro h0 h1))]
    exact this
  have hwl : IntKind.i64.wrap (left - xs.length) = left - xs.length := wrap_i64 (by omega) (by omega)
  refine ⟨if left - xs.length < 0 then -1 else szL f xs (left - xs.length), ?_, ?_⟩
  · split
    · left; omega
    · rcases szL_spec (wt := t.wt) xs (fun x hx l h0 h1 => (hfx x hx l h0 h1).1) (left - xs.length) (by omega) (by omega) with h | h
      · exact .inl h
      · right; rw [h]; omega
  refine Ret.run hf hk (by simp) rfl rfl 500 ?_
  by_cases hneg : left - (xs.length : Int) < 0
  · have hneg' : left < (xs.length : Int) := by omega
    simp [szSC, iniρ, hwl, hneg, hneg']; try omega
  have hneg' : ¬ left < (xs.length : Int) := by omega
  simp [szSC, iniρ, hwl, hneg, hneg']
  have hl0' : 0 ≤ left - (xs.length : Int) := by omega
  have hl1' : left - (xs.length : Int) ≤ 1048576 := by omega
  generalize hlg : left - (xs.length : Int) = l0 at *
  clear hlg hwl hneg
  refine T.rounds (μ := fun i : List α × List α × Int => i.2.1.length)
    (fun i s => i.1 ++ i.2.1 = xs ∧ 0 ≤ i.2.2 ∧ i.2.2 ≤ 1048576 ∧ szL f i.2.1 i.2.2 = szL f xs l0 ∧ s.ρ 0 = .ro (rows t.cs xs) xs.length ∧ s.ρ 1 = .sc (.int .i64 i.2.2) ∧ s.ρ 5 = .sc (.int .i64 i.1.length) ∧ s.h = h0 ∧ s.n = 27) ([], xs, l0) (by simp [upd_app, hl0', hl1']) ?_
  rintro ⟨pre, rest, l⟩ ⟨ρ, hh, n⟩ ⟨hx, hp0, hp1, hL, h0', h1', h5', rfl, rfl⟩
  simp only at hx hp0 hp1 hL h0' h1' h5'
  refine run_ok (n := 400) ?_
  cases rest with
  | nil =>
    simp at hx
    subst hx
    simp [h0', h1', h5']
    refine T.on 400 ?_
    simp [h1', ← hL, szL]
  | cons x rest =>
    have hlt : (pre.length : Int) < xs.length := by rw [← hx]; simp only [List.length_append, List.length_cons]; omega
    have hd := rows_drop t.csn pre (x :: rest)
    rw [hx, rows_cons] at hd
    have hw : IntKind.i64.wrap ((pre.length : Int) + 1) = pre.length + 1 := wrap_i64 (by omega) (by omega)
    have hxm : x ∈ xs := by rw [← hx]; simp
    obtain ⟨hfs, hR⟩ := hfx x hxm l hp0 hp1
    cases agg
    case' false =>
      obtain ⟨v, hv, hv1, hv2, hv3⟩ := t.one (ha rfl) x
      rw [hv3] at hR
      have hel := hv1
      simp [h0', h1', h5', hlt, hd, hv, hv2]
    case' true =>
      have hel : shut (AV.agg (t.cs x)) = true := t.shL x
      rw [el_true] at hR
      simp [h0', h1', h5', hlt, hd, t.csn, t.tk, t.plL]
    all_goals
      refine callK.ro 23 rfl hgc (by simp [roc_sc, roc_sh, hel, roc_agg, t.shL]) hR rfl rfl rfl ?_
      simp [h5', hw]
      split
      · rename_i hz; simp [← hL, szL, hz]
      · rename_i hz
        have h2 : f x l = l - t.wt x := hfs.resolve_left hz
        have b1 : 0 ≤ f x l := by omega
        have b2 : f x l ≤ 1048576 := by omega
        refine ⟨pre ++ [x], rest, by simp, f x l, _, Le.refl _, ?_⟩
        simp [hx, h0', ← hL, szL, hz, b1, b2, upd_app]
end
def equalC (sz : Nat) (agg : Bool) (o : QOp) : AC := .seq (.ops [⟨(some 4), none, .q (.mov (.c (.sc (.bool false))))⟩])
  (.seq (.seq (.ops [⟨(some 6), none, .q (.mov (.t 0))⟩, ⟨(some 7), none, .q (.llen (.t 6))⟩, ⟨(some 8), none, .q (.mov (.t 1))⟩, ⟨(some 9), none, .q (.llen (.t 8))⟩, ⟨(some 10), none, .q (.bin .neq (.t 7) (.t 9))⟩])
  (.cond (.t 10) (.seq (.ops [⟨(some 4), none, .q (.mov (.c (.sc (.bool false))))⟩])
  .ret)
  .skip))
  (.seq (.seq (.ops [⟨(some 11), none, .q (.mov (.t 0))⟩, ⟨(some 12), none, .q (.llen (.t 11))⟩, ⟨(some 13), none, .q (.mov (.c (.sc (.int .i64 0))))⟩])
  (.block 0 (.loop (.seq (.ops [⟨(some 14), none, .q (.bin .lss (.t 13) (.t 12))⟩])
  (.seq (.cond (.t 14) .skip
  (.exit 0))
  (.seq (.block 1 (.seq (.ops [⟨(some 15), none, .q (.mov (.t 13))⟩, ⟨(some 5), none, .q (.mov (.t 15))⟩])
  (.seq (.any [(⟨(some 16), none, .q (.mov (.t 0))⟩, []), (⟨(some 17), none, .q (.mov (.t 5))⟩, []), (⟨(some 18), none, .q (.iadr sz (.t 16) (.t 17))⟩, [0, 1]), (⟨(some 19), none, .q (.load agg sz (.t 18))⟩, [2]), (⟨(some 20), none, .q (.mov (.t 1))⟩, []), (⟨(some 21), none, .q (.mov (.t 5))⟩, []), (⟨(some 22), none, .q (.iadr sz (.t 20) (.t 21))⟩, [4, 5]), (⟨(some 23), none, .q (.load agg sz (.t 22))⟩, [6]), (⟨(some 24), none, .q o⟩, [3, 7])])
  (.cond (.t 24) (.seq (.ops [⟨(some 4), none, .q (.mov (.c (.sc (.bool false))))⟩])
  .ret)
  .skip))))
  (.ops [⟨(some 25), none, .q (.bin .add (.t 13) (.c (.sc (.int .i64 1))))⟩, ⟨(some 13), none, .q (.mov (.t 25))⟩])))))))
  (.seq (.ops [⟨(some 4), none, .q (.mov (.c (.sc (.bool true))))⟩])
  .ret)))
def sameC (sz : Nat) (agg : Bool) (o : QOp) : AC := .seq (.ops [⟨(some 4), none, .q (.mov (.c (.sc (.bool false))))⟩])
  (.seq (.seq (.ops [⟨(some 6), none, .q (.mov (.t 0))⟩, ⟨(some 7), none, .q (.llen (.t 6))⟩, ⟨(some 8), none, .q (.mov (.t 1))⟩, ⟨(some 9), none, .q (.llen (.t 8))⟩, ⟨(some 10), none, .q (.bin .neq (.t 7) (.t 9))⟩])
  (.cond (.t 10) (.seq (.ops [⟨(some 4), none, .q (.mov (.c (.sc (.bool false))))⟩])
  .ret)
  .skip))
  (.seq (.seq (.ops [⟨(some 5), none, .q (.mov (.c (.sc (.int .i64 0))))⟩])
  (.block 0 (.loop (.seq (.seq (.ops [⟨(some 11), none, .q (.mov (.t 5))⟩, ⟨(some 12), none, .q (.mov (.t 0))⟩, ⟨(some 13), none, .q (.llen (.t 12))⟩, ⟨(some 14), none, .q (.bin .lss (.t 11) (.t 13))⟩])
  (.cond (.t 14) .skip
  (.exit 0)))
  (.seq (.block 1 (.seq (.any [(⟨(some 17), none, .q (.mov (.t 0))⟩, []), (⟨(some 18), none, .q (.mov (.t 5))⟩, []), (⟨(some 19), none, .q (.iadr sz (.t 17) (.t 18))⟩, [0, 1]), (⟨(some 20), none, .q (.load agg sz (.t 19))⟩, [2]), (⟨(some 21), none, .q (.mov (.t 1))⟩, []), (⟨(some 22), none, .q (.mov (.t 5))⟩, []), (⟨(some 23), none, .q (.iadr sz (.t 21) (.t 22))⟩, [4, 5]), (⟨(some 24), none, .q (.load agg sz (.t 23))⟩, [6]), (⟨(some 25), none, .q o⟩, [3, 7])])
  (.cond (.t 25) (.seq (.ops [⟨(some 4), none, .q (.mov (.c (.sc (.bool false))))⟩])
  .ret)
  .skip)))
  (.ops [⟨(some 15), none, .q (.mov (.t 5))⟩, ⟨(some 16), none, .q (.bin .add (.t 15) (.c (.sc (.int .i64 1))))⟩, ⟨(some 5), none, .q (.mov (.t 16))⟩]))))))
  (.seq (.ops [⟨(some 4), none, .q (.mov (.c (.sc (.bool true))))⟩])
  .ret)))
def indexFuncC (sz : Nat) (agg : Bool) : AC := .seq (.ops [⟨(some 4), none, .q (.mov (.c (.sc (.int .i64 0))))⟩])
  (.seq (.seq (.ops [⟨(some 6), none, .q (.mov (.t 0))⟩, ⟨(some 7), none, .q (.llen (.t 6))⟩, ⟨(some 8), none, .q (.mov (.c (.sc (.int .i64 0))))⟩])
  (.block 0 (.loop (.seq (.ops [⟨(some 9), none, .q (.bin .lss (.t 8) (.t 7))⟩])
  (.seq (.cond (.t 9) .skip
  (.exit 0))
  (.seq (.block 1 (.seq (.ops [⟨(some 10), none, .q (.mov (.t 8))⟩, ⟨(some 5), none, .q (.mov (.t 10))⟩])
  (.seq (.ops [⟨(some 11), none, .q (.mov (.t 1))⟩, ⟨(some 12), none, .q (.mov (.t 0))⟩, ⟨(some 13), none, .q (.mov (.t 5))⟩, ⟨(some 14), none, .q (.iadr sz (.t 12) (.t 13))⟩, ⟨(some 15), none, .q (.load agg sz (.t 14))⟩, ⟨(some 16), none, .c (.t 11) [(.t 15)]⟩])
  (.cond (.t 16) (.seq (.ops [⟨(some 17), none, .q (.mov (.t 5))⟩, ⟨(some 4), none, .q (.mov (.t 17))⟩])
  .ret)
  .skip))))
  (.ops [⟨(some 18), none, .q (.bin .add (.t 8) (.c (.sc (.int .i64 1))))⟩, ⟨(some 8), none, .q (.mov (.t 18))⟩])))))))
  (.seq (.ops [⟨(some 4), none, .q (.mov (.c (.sc (.int .i64 (-1)))))⟩])
  .ret))
def cloneC (sz bytes : Nat) : AC := .seq (.ops [⟨(some 2), none, .q (.mov (.c .em))⟩])
  (.seq (.seq (.ops [⟨(some 3), none, .q (.mov (.t 0))⟩, ⟨(some 4), none, .n false (.t 3)⟩])
  (.cond (.t 4) (.seq (.ops [⟨(some 2), none, .q (.mov (.c .em))⟩])
  .ret)
  .skip))
  (.seq (.ops [⟨(some 5), none, .w (.bsl sz 0 [] [])⟩, ⟨(some 6), none, .q (.mov (.t 0))⟩, ⟨(some 7), none, .w (.app sz bytes false (.t 5) (.t 6))⟩, ⟨(some 2), none, .q (.mov (.t 7))⟩])
  .ret))
def strEq (a b : ByteArray) : Bool := a.toList == b.toList
section
variable {P : Program} {α : Type}
theorem Ret.equal (hm : P.follows .mixedOrders = true) (t : Ty α) {F : FuncId} {offs : List (Nat × Nat)} {fn : Func} (hf : P.funcs[F]? = some fn) (hk : fn.body.bind (comp P) = some (equalC t.n true (.aeq true offs (.t 19) (.t 23))) ∧ fn.ntmps = 26 ∧ fn.results.toList.mapM (resB P) = some [.mov (.t 4)])
    (f : α → α → Bool) (hq : ∀ x y : α, eqOff offs (t.cs x) (t.cs y) = some (f x y)) (xs ys : List α) (hb : xs.length < 4611686018427387904) :
    Ret P F [.ro (rows t.cs xs) xs.length, .ro (rows t.cs ys) ys.length] (.sc (.bool (eqBy f xs ys))) [.un, .un] := by
  refine Ret.run hf hk (by simp) rfl rfl 500 ?_
  by_cases hl : xs.length = ys.length
  case neg =>
    have : ¬ ((xs.length : Int) = ys.length) := by omega
    simp [equalC, iniρ, this, eqBy_len hl]
  simp [equalC, iniρ, ← hl]
  refine T.rounds (μ := fun i : List α × List α × List α × List α => i.2.1.length)
    (fun i s => i.1 ++ i.2.1 = xs ∧ i.2.2.1 ++ i.2.2.2 = ys ∧ i.1.length = i.2.2.1.length ∧ eqBy f i.2.1 i.2.2.2 = eqBy f xs ys ∧ s.ρ 0 = .ro (rows t.cs xs) xs.length ∧ s.ρ 1 = .ro (rows t.cs ys) xs.length ∧ s.ρ 12 = .sc (.int .i64 xs.length) ∧ s.ρ 13 = .sc (.int .i64 i.1.length) ∧ s.h = h0 ∧ s.n = 26) ([], xs, [], ys) (by simp [upd_app]) ?_
  rintro ⟨pre, rest, pre', rest'⟩ ⟨ρ, hh, n⟩ ⟨hx, hy, hp, hE, h0', h1', h12', h5', rfl, rfl⟩
  simp only at hx hy hp hE h0' h1' h12' h5'
  refine run_ok (n := 400) ?_
  have hlr : rest.length = rest'.length := by have := congrArg List.length hx; have := congrArg List.length hy; simp only [List.length_append] at *; omega
  cases rest with
  | nil =>
    cases rest' with
    | cons y r => simp at hlr
    | nil =>
    simp at hx
    subst hx
    simp [h0', h5', h12']
    refine T.on 400 ?_
    simp [← hE, eqBy]
  | cons x rest =>
    cases rest' with
    | nil => simp at hlr
    | cons y rest' =>
    have hlt : (pre.length : Int) < xs.length := by rw [← hx]; simp only [List.length_append, List.length_cons]; omega
    have hd := rows_drop t.csn pre (x :: rest)
    rw [hx, rows_cons] at hd
    have hd' := rows_drop t.csn pre' (y :: rest')
    rw [hy, rows_cons, ← hp] at hd'
    have hw : IntKind.i64.wrap ((pre.length : Int) + 1) = pre.length + 1 := wrap_i64 (by omega) (by omega)
    simp [h0', h1', h12', h5', hlt]
    refine T.text 400 hm rfl rfl ?_
    simp [h0', h1', h5', hlt, hd, hd', t.csn, t.tk, t.plL, hq]
    cases hE1 : f x y
    · simp [h5', hw, ← hE, eqBy, hE1]
    · simp [h5', hw]
      refine ⟨pre ++ [x], rest, by simp, pre' ++ [y], rest', _, Le.refl _, ?_⟩
      simp [hx, hy, hp, h0', h1', h12', ← hE, eqBy, hE1, upd_app]
theorem Ret.same (hm : P.follows .mixedOrders = true) (t : Ty α) {F : FuncId} {offs : List (Nat × Nat)} {fn : Func} (hf : P.funcs[F]? = some fn) (hk : fn.body.bind (comp P) = some (sameC t.n true (.aeq true offs (.t 20) (.t 24))) ∧ fn.ntmps = 26 ∧ fn.results.toList.mapM (resB P) = some [.mov (.t 4)])
    (f : α → α → Bool) (hq : ∀ x y : α, eqOff offs (t.cs x) (t.cs y) = some (f x y)) (xs ys : List α) (hb : xs.length < 4611686018427387904) :
    Ret P F [.ro (rows t.cs xs) xs.length, .ro (rows t.cs ys) ys.length] (.sc (.bool (eqBy f xs ys))) [.un, .un] := by
  refine Ret.run hf hk (by simp) rfl rfl 500 ?_
  by_cases hl : xs.length = ys.length
  case neg =>
    have : ¬ ((xs.length : Int) = ys.length) := by omega
    simp [sameC, iniρ, this, eqBy_len hl]
  simp [sameC, iniρ, ← hl]
  refine T.rounds (μ := fun i : List α × List α × List α × List α => i.2.1.length)
    (fun i s => i.1 ++ i.2.1 = xs ∧ i.2.2.1 ++ i.2.2.2 = ys ∧ i.1.length = i.2.2.1.length ∧ eqBy f i.2.1 i.2.2.2 = eqBy f xs ys ∧ s.ρ 0 = .ro (rows t.cs xs) xs.length ∧ s.ρ 1 = .ro (rows t.cs ys) xs.length ∧ s.ρ 5 = .sc (.int .i64 i.1.length) ∧ s.h = h0 ∧ s.n = 26) ([], xs, [], ys) (by simp [upd_app]) ?_
  rintro ⟨pre, rest, pre', rest'⟩ ⟨ρ, hh, n⟩ ⟨hx, hy, hp, hE, h0', h1', h5', rfl, rfl⟩
  simp only at hx hy hp hE h0' h1' h5'
  refine run_ok (n := 400) ?_
  have hlr : rest.length = rest'.length := by have := congrArg List.length hx; have := congrArg List.length hy; simp only [List.length_append] at *; omega
  cases rest with
  | nil =>
    cases rest' with
    | cons y r => simp at hlr
    | nil =>
    simp at hx
    subst hx
    simp [h0', h5']
    refine T.on 400 ?_
    simp [← hE, eqBy]
  | cons x rest =>
    cases rest' with
    | nil => simp at hlr
    | cons y rest' =>
    have hlt : (pre.length : Int) < xs.length := by rw [← hx]; simp only [List.length_append, List.length_cons]; omega
    have hd := rows_drop t.csn pre (x :: rest)
    rw [hx, rows_cons] at hd
    have hd' := rows_drop t.csn pre' (y :: rest')
    rw [hy, rows_cons, ← hp] at hd'
    have hw : IntKind.i64.wrap ((pre.length : Int) + 1) = pre.length + 1 := wrap_i64 (by omega) (by omega)
    simp [h0', h1', h5', hlt]
    refine T.text 400 hm rfl rfl ?_
    simp [h0', h1', h5', hlt, hd, hd', t.csn, t.tk, t.plL, hq]
    cases hE1 : f x y
    · simp [h5', hw, ← hE, eqBy, hE1]
    · simp [h5', hw]
      refine ⟨pre ++ [x], rest, by simp, pre' ++ [y], rest', _, Le.refl _, ?_⟩
      simp [hx, hy, hp, h0', h1', ← hE, eqBy, hE1, upd_app]
theorem Ret.equalStr (hm : P.follows .mixedOrders = true) {F : FuncId} {fn : Func} (hf : P.funcs[F]? = some fn) (hk : fn.body.bind (comp P) = some (equalC 1 false (.bin .neq (.t 19) (.t 23))) ∧ fn.ntmps = 26 ∧ fn.results.toList.mapM (resB P) = some [.mov (.t 4)])
    (xs ys : List ByteArray) (hb : xs.length < 4611686018427387904) :
    Ret P F [.ro (rows Ty.str.cs xs) xs.length, .ro (rows Ty.str.cs ys) ys.length] (.sc (.bool (eqBy strEq xs ys))) [.un, .un] := by
  refine Ret.run hf hk (by simp) rfl rfl 500 ?_
  by_cases hl : xs.length = ys.length
  case neg =>
    have : ¬ ((xs.length : Int) = ys.length) := by omega
    simp [equalC, iniρ, this, eqBy_len hl]
  simp [equalC, iniρ, ← hl]
  refine T.rounds (μ := fun i : List ByteArray × List ByteArray × List ByteArray × List ByteArray => i.2.1.length)
    (fun i s => i.1 ++ i.2.1 = xs ∧ i.2.2.1 ++ i.2.2.2 = ys ∧ i.1.length = i.2.2.1.length ∧ eqBy strEq i.2.1 i.2.2.2 = eqBy strEq xs ys ∧ s.ρ 0 = .ro (rows Ty.str.cs xs) xs.length ∧ s.ρ 1 = .ro (rows Ty.str.cs ys) xs.length ∧ s.ρ 12 = .sc (.int .i64 xs.length) ∧ s.ρ 13 = .sc (.int .i64 i.1.length) ∧ s.h = h0 ∧ s.n = 26) ([], xs, [], ys) (by simp [upd_app]) ?_
  rintro ⟨pre, rest, pre', rest'⟩ ⟨ρ, hh, n⟩ ⟨hx, hy, hp, hE, h0', h1', h12', h5', rfl, rfl⟩
  simp only at hx hy hp hE h0' h1' h12' h5'
  refine run_ok (n := 400) ?_
  have hlr : rest.length = rest'.length := by have := congrArg List.length hx; have := congrArg List.length hy; simp only [List.length_append] at *; omega
  cases rest with
  | nil =>
    cases rest' with
    | cons y r => simp at hlr
    | nil =>
    simp at hx
    subst hx
    simp [h0', h5', h12']
    refine T.on 400 ?_
    simp [← hE, eqBy]
  | cons x rest =>
    cases rest' with
    | nil => simp at hlr
    | cons y rest' =>
    have hlt : (pre.length : Int) < xs.length := by rw [← hx]; simp only [List.length_append, List.length_cons]; omega
    have hd := rows_drop Ty.str.csn pre (x :: rest)
    rw [hx, rows_cons] at hd
    have hd : List.drop pre.length (rows Ty.str.cs xs) = AV.sc (.string x) :: rows Ty.str.cs rest := by rw [← Nat.mul_one pre.length]; exact hd
    have hd' := rows_drop Ty.str.csn pre' (y :: rest')
    rw [hy, rows_cons, ← hp] at hd'
    have hd' : List.drop pre.length (rows Ty.str.cs ys) = AV.sc (.string y) :: rows Ty.str.cs rest' := by rw [← Nat.mul_one pre.length]; exact hd'
    have hw : IntKind.i64.wrap ((pre.length : Int) + 1) = pre.length + 1 := wrap_i64 (by omega) (by omega)
    simp [h0', h1', h12', h5', hlt]
    refine T.text 400 hm rfl rfl ?_
    simp [h0', h1', h5', hlt, hd, hd']
    by_cases hE1 : x.toList = y.toList
    case neg => simp [h5', hw, ← hE, eqBy, strEq, hE1]
    case pos =>
      simp [h5', hw, hE1]
      refine ⟨pre ++ [x], rest, by simp, pre' ++ [y], rest', _, Le.refl _, ?_⟩
      simp [hx, hy, hp, h0', h1', h12', ← hE, eqBy, strEq, hE1, upd_app]
theorem Ret.sameStr (hm : P.follows .mixedOrders = true) {F : FuncId} {fn : Func} (hf : P.funcs[F]? = some fn) (hk : fn.body.bind (comp P) = some (sameC 1 false (.bin .neq (.t 20) (.t 24))) ∧ fn.ntmps = 26 ∧ fn.results.toList.mapM (resB P) = some [.mov (.t 4)])
    (xs ys : List ByteArray) (hb : xs.length < 4611686018427387904) :
    Ret P F [.ro (rows Ty.str.cs xs) xs.length, .ro (rows Ty.str.cs ys) ys.length] (.sc (.bool (eqBy strEq xs ys))) [.un, .un] := by
  refine Ret.run hf hk (by simp) rfl rfl 500 ?_
  by_cases hl : xs.length = ys.length
  case neg =>
    have : ¬ ((xs.length : Int) = ys.length) := by omega
    simp [sameC, iniρ, this, eqBy_len hl]
  simp [sameC, iniρ, ← hl]
  refine T.rounds (μ := fun i : List ByteArray × List ByteArray × List ByteArray × List ByteArray => i.2.1.length)
    (fun i s => i.1 ++ i.2.1 = xs ∧ i.2.2.1 ++ i.2.2.2 = ys ∧ i.1.length = i.2.2.1.length ∧ eqBy strEq i.2.1 i.2.2.2 = eqBy strEq xs ys ∧ s.ρ 0 = .ro (rows Ty.str.cs xs) xs.length ∧ s.ρ 1 = .ro (rows Ty.str.cs ys) xs.length ∧ s.ρ 5 = .sc (.int .i64 i.1.length) ∧ s.h = h0 ∧ s.n = 26) ([], xs, [], ys) (by simp [upd_app]) ?_
  rintro ⟨pre, rest, pre', rest'⟩ ⟨ρ, hh, n⟩ ⟨hx, hy, hp, hE, h0', h1', h5', rfl, rfl⟩
  simp only at hx hy hp hE h0' h1' h5'
  refine run_ok (n := 400) ?_
  have hlr : rest.length = rest'.length := by have := congrArg List.length hx; have := congrArg List.length hy; simp only [List.length_append] at *; omega
  cases rest with
  | nil =>
    cases rest' with
    | cons y r => simp at hlr
    | nil =>
    simp at hx
    subst hx
    simp [h0', h5']
    refine T.on 400 ?_
    simp [← hE, eqBy]
  | cons x rest =>
    cases rest' with
    | nil => simp at hlr
    | cons y rest' =>
    have hlt : (pre.length : Int) < xs.length := by rw [← hx]; simp only [List.length_append, List.length_cons]; omega
    have hd := rows_drop Ty.str.csn pre (x :: rest)
    rw [hx, rows_cons] at hd
    have hd : List.drop pre.length (rows Ty.str.cs xs) = AV.sc (.string x) :: rows Ty.str.cs rest := by rw [← Nat.mul_one pre.length]; exact hd
    have hd' := rows_drop Ty.str.csn pre' (y :: rest')
    rw [hy, rows_cons, ← hp] at hd'
    have hd' : List.drop pre.length (rows Ty.str.cs ys) = AV.sc (.string y) :: rows Ty.str.cs rest' := by rw [← Nat.mul_one pre.length]; exact hd'
    have hw : IntKind.i64.wrap ((pre.length : Int) + 1) = pre.length + 1 := wrap_i64 (by omega) (by omega)
    simp [h0', h1', h5', hlt]
    refine T.text 400 hm rfl rfl ?_
    simp [h0', h1', h5', hlt, hd, hd']
    by_cases hE1 : x.toList = y.toList
    case neg => simp [h5', hw, ← hE, eqBy, strEq, hE1]
    case pos =>
      simp [h5', hw, hE1]
      refine ⟨pre ++ [x], rest, by simp, pre' ++ [y], rest', _, Le.refl _, ?_⟩
      simp [hx, hy, hp, h0', h1', ← hE, eqBy, strEq, hE1, upd_app]
theorem Ret.indexFunc (t : Ty α) {F : FuncId} {agg : Bool} {fn : Func} (hf : P.funcs[F]? = some fn) (hk : fn.body.bind (comp P) = some (indexFuncC t.n agg) ∧ fn.ntmps = 19 ∧ fn.results.toList.mapM (resB P) = some [.mov (.t 4)]) (ha : agg = false → t.n = 1)
    (g : FuncId) (caps : List AV) (f : α → Bool) (hg : callB P g = true) (hsh : shut.shutL caps = true) (xs : List α) (hR : ∀ x ∈ xs, Ret P g (el agg (t.cs x) :: caps) (.sc (.bool (f x))) (.un :: caps.map fun _ => .un)) (hb : xs.length < 4611686018427387904) :
    Ret P F [.ro (rows t.cs xs) xs.length, .clo g caps] (.sc (.int .i64 (idx f xs 0))) [.un, .un] := by
  refine Ret.run (ys := [.ro (rows t.cs xs) xs.length, .clo g caps]) (ρ1 := fun _ => .un) (h1 := h0) (m := 19) hf hk (by simp) (by simp [entL, ent1, inst, hsh]) rfl 500 ?_
  simp [indexFuncC, iniρ]
  refine T.rounds (μ := fun i : List α × List α => i.2.length)
    (fun i s => i.1 ++ i.2 = xs ∧ idx f i.2 i.1.length = idx f xs 0 ∧ s.ρ 0 = .ro (rows t.cs xs) xs.length ∧ s.ρ 1 = .clo g caps ∧ s.ρ 7 = .sc (.int .i64 xs.length) ∧ s.ρ 8 = .sc (.int .i64 i.1.length) ∧ s.h = h0 ∧ s.n = 19) ([], xs) (by simp [upd_app]) ?_
  rintro ⟨pre, rest⟩ ⟨ρ, hh, n⟩ ⟨hx, hE, h0', h1', h7', h5', rfl, rfl⟩
  simp only at hx hE h0' h1' h7' h5'
  refine run_ok (n := 400) ?_
  have hcap : caps.mapM (roc h0 8) = some caps := by
    have : ∀ l : List AV, shut.shutL l = true → l.mapM (roc h0 8) = some l := fun l => by
      induction l with
      | nil => intro _; rfl
      | cons c l ih =>
        intro h
        simp only [shut.shutL, Bool.and_eq_true] at h
        simp [List.mapM_cons, roc_sh h.1, ih h.2]
    exact this caps hsh
  cases rest with
  | nil =>
    simp at hx
    subst hx
    simp [h7', h5']
    refine T.on 400 ?_
    simp [← hE, idx]
  | cons x rest =>
    have hlt : (pre.length : Int) < xs.length := by rw [← hx]; simp only [List.length_append, List.length_cons]; omega
    have hd := rows_drop t.csn pre (x :: rest)
    rw [hx, rows_cons] at hd
    have hw : IntKind.i64.wrap ((pre.length : Int) + 1) = pre.length + 1 := wrap_i64 (by omega) (by omega)
    have hR := hR x (by rw [← hx]; simp)
    cases agg
    case' false =>
      obtain ⟨v, hv, hv1, hv2, hv3⟩ := t.one (ha rfl) x
      rw [hv3] at hR
      have hel := hv1
      simp [h0', h1', h7', h5', hlt, hd, hv, hv2]
    case' true =>
      have hel : shut (AV.agg (t.cs x)) = true := t.shL x
      rw [el_true] at hR
      simp [h0', h1', h7', h5', hlt, hd, t.csn, t.tk, t.plL]
    all_goals
      refine callK.ro 16 (f := g) (caps := caps) (by simp [upd_app, h1']) hg (by
        simp only [List.map_cons, List.map_nil, List.cons_append, List.nil_append, List.mapM_cons, hcap]
        simp [upd_app, roc_sh, hel, roc_agg, t.shL]
        try rfl) hR rfl rfl rfl ?_
      cases hE1 : f x
      · simp [h5', hw]
        refine ⟨pre ++ [x], rest, by simp, _, Le.refl _, ?_⟩
        simp [hx, h0', h1', h7', ← hE, idx, hE1, upd_app]
      · simp [h5', ← hE, idx, hE1]
theorem Ret.clone (t : Ty α) (hoc : t.oc = t.cs) {F : FuncId} {bytes : Nat} {fn : Func} (hf : P.funcs[F]? = some fn) (hk : fn.body.bind (comp P) = some (cloneC t.n bytes) ∧ fn.ntmps = 8 ∧ fn.results.toList.mapM (resB P) = some [.mov (.t 2)])
    (xs : List α) (hb : xs.length * bytes ≤ 140737488355328) : Ret P F [.ro (rows t.cs xs) xs.length] (.own (rows t.oc xs) xs.length t.n) [.un] := by
  refine Ret.run hf hk (by simp) rfl rfl 500 ?_
  have hl := rows_length t.csn xs
  have hfr : idfree.idfreeL (rows t.cs xs) = true := idfreeL_rows (fun x c hc => (t.ow x c (by rw [hoc]; exact hc)).fr) xs
  rw [hoc]
  by_cases h0 : xs.length = 0
  · have : xs = [] := List.length_eq_zero_iff.1 h0
    subst this
    simp [cloneC, iniρ, rows_nil, srcOf, srcCells, ex1, idfree.idfreeL]
  · simp [cloneC, iniρ, h0, srcOf, srcCells, hl, hb, ex1, hfr]
end
end Go.Proofs.YtiejaibmcmicoaaGreatDoor.Am
