/- The functions of the program, each by its contract: Ready3; no condition. -/
import Derived.Test.YtaknfalbmblagaaGreatProg
import Derived.Test.YtaknfalbmblagaaGreatAmZ
import Derived.Test.YtaknfalbmblagaaGreatAmP
import Derived.Test.YtaknfalbmblagaaGreatReady2
import Derived.KernelRfl
namespace Go.Proofs.YtaknfalbmblagaaGreat.Am
open Go Go.Proofs
set_option linter.unusedSimpArgs false
set_option linter.unusedVariables false
attribute [local congr] T_congr callK_congr callWK_congr
attribute [local simp] run_nil run_op0 run_opg run_seq run_cond run_block run_ret run_skip run_skip_after run_skip_blk run_exit run_exit_after run_exit_blk run_loop run_any runS_nil runS_op0 runS_opg runW_nil runW_op0 runW_opg exec_q exec_w exec_c exec_n execW_q execW_w execW_c restW_app hideH_app merge_app wblk rest_app restS_app execS_q execS_c aval dOk upd_app ev_t ev_c setO_some setO_none put_mk pinsOf isIo hasIo sbin endR fin resL one outL out1 clo1 cloL coe coeL shut shut.shutL wantA weff cellsOf fillA deref natOf ρ0_app h0_app plain plain.plainL keep_app keepH_app andThen_normal andThen_ret andThen_exit pop_nil pop_after pop_after_ret pop_after_exit pop_blk pop_blk_ret pop_blk_exit nilA srcOf srcCells keepR_app keepHR_app renA rb
theorem idx_low {α : Type} (f : α → Bool) : ∀ (l : List α) (i : Int), 0 ≤ i → idx f l i = -1 ∨ i ≤ idx f l i
  | [], i, _ => .inl rfl
  | x :: l, i, h => by
    rw [idx]
    split
    · exact .inr (Int.le_refl _)
    · rcases idx_low f l (i + 1) (by omega) with e | e
      · exact .inl e
      · exact .inr (by omega)
theorem idx_take {α : Type} (f : α → Bool) : ∀ (l : List α) (m : Nat) (i : Int), 0 ≤ i → idx f (l.take m) i = if i ≤ idx f l i ∧ idx f l i < i + m then idx f l i else -1
  | [], m, i, h => by
    rw [List.take_nil]
    rw [if_neg (by simp [idx]; omega)]
    rfl
  | x :: l, 0, i, h => by
    rw [List.take_zero, if_neg (by omega)]
    rfl
  | x :: l, m + 1, i, h => by
    rw [List.take_succ_cons, idx, idx]
    by_cases hf : f x = true
    · rw [if_pos hf, if_pos hf, if_pos (by omega)]
    · rw [if_neg hf, if_neg hf, idx_take f l m (i + 1) (by omega)]
      rcases idx_low f l (i + 1) (by omega) with e | e
      · rw [e, if_neg (by omega), if_neg (by omega)]
      · by_cases h2 : idx f l (i + 1) < i + 1 + m
        · rw [if_pos ⟨e, h2⟩, if_pos (by omega)]
        · rw [if_neg (by omega), if_neg (by omega)]
def cutP (p : Plan) : Plan := ⟨p.tasks.take (min p.tasks.length p.deps.length), p.deps.take (min p.tasks.length p.deps.length)⟩
theorem onL_cut (p : Plan) (t : ByteArray) : (if 0 ≤ tIx t (cutP p).tasks then (cutP p).deps[(tIx t (cutP p).tasks).toNat]?.getD [] else []) = onL p.tasks p.deps t := by
  have e : tIx t (cutP p).tasks = if 0 ≤ tIx t p.tasks ∧ tIx t p.tasks < ((min p.tasks.length p.deps.length : Nat) : Int) then tIx t p.tasks else -1 := by
    have := idx_take (sameT t) p.tasks (min p.tasks.length p.deps.length) 0 (by omega)
    rw [Int.zero_add] at this
    exact this
  unfold onL
  by_cases h : 0 ≤ tIx t p.tasks
  · obtain ⟨k, hk, hl⟩ := tIx_at h
    rw [hk] at e
    by_cases h2 : (k : Int) < ((min p.tasks.length p.deps.length : Nat) : Int)
    · rw [if_pos ⟨by omega, h2⟩] at e
      have : (cutP p).deps[(k : Int).toNat]? = p.deps[k]? := by
        show (p.deps.take _)[k]? = _
        rw [List.getElem?_take]
        rw [if_pos (by omega)]
      rw [e, if_pos (by omega), if_pos h, hk, this]; rfl
    · rw [if_neg (fun h => h2 h.2)] at e
      have : p.deps[(k : Int).toNat]? = none := List.getElem?_eq_none (by show _ ≤ k; omega)
      rw [e, if_neg (by omega), if_pos h, hk, this]; rfl
  · rw [if_neg (fun h2 => h h2.1)] at e
    rw [e, if_neg (by omega), if_neg h]
/- 49: loop.example/g00464/spec.l20Done -/
def A49 : AC := (.seq (.ops [⟨(some 2), none, .w (.box (.t 0))⟩, ⟨(some 4), none, .q (.mov (.c (.sc (.bool false))))⟩])
  (.seq (.ops [⟨(some 6), none, .q (.load true 12 (.t 2))⟩, ⟨(some 7), none, .q (.mov (.t 1))⟩, ⟨(some 8), none, .c (.c (.clo 19 [])) [(.t 6), (.t 7)]⟩, ⟨(some 5), none, .q (.mov (.t 8))⟩])
  (.seq (.ops [⟨(some 9), none, .q (.mov (.t 5))⟩, ⟨(some 10), none, .q (.bin .eql (.t 9) (.c (.sc (.int .i64 1))))⟩, ⟨(some 11), none, .q (.mov (.t 10))⟩, ⟨(some 12), (some (11, false)), .q (.mov (.t 5))⟩, ⟨(some 13), (some (11, false)), .q (.bin .eql (.t 12) (.c (.sc (.int .i64 2))))⟩, ⟨(some 14), none, .q (.pick (.t 11) (.c (.sc (.bool true))) (.t 13))⟩, ⟨(some 4), none, .q (.mov (.t 14))⟩])
  .ret)))
theorem K49 : Tryz.f49.body.bind (comp Tryz.prog) = some A49 ∧ Tryz.f49.ntmps = 15 ∧ Tryz.f49.results.toList.mapM (resB Tryz.prog) = some [.mov (.t 4)] := ⟨by kernel_rfl, by kernel_rfl, by kernel_rfl⟩
theorem R49 (r : Run) (hr : Run.ty.ok r) (t : ByteArray) : Ret Tryz.prog 49 [.agg (Run.ty.cs r), .sc (.string t)] (.sc (.bool (madeB (howOf t r.marks)))) [.un, .un] := by
  have hpl : plain.plainL (Run.ty.cs r) = true := Run.ty.plL r
  refine Ret.run Tryz.func49 K49 (by simp) rfl rfl 500 ?_
  simp [A49, iniρ, Run.cse]
  refine callK.ro 0 rfl (by kernel_rfl) (ys := [.agg (Run.ty.cs r), .sc (.string t)]) (by simp [roc_agg, roc_sc, upd_app, Run.cse]) (R19 r hr t) rfl rfl rfl ?_
  by_cases h1 : howOf t r.marks = 1
  · simp [h1, madeB]
  · by_cases h2 : howOf t r.marks = 2
    · simp [h2, madeB]
    · simp [h1, h2, madeB]
/- 100: loop.example/g00464/spec.l11At -/
def A100 : AC := (.seq (.ops [⟨(some 2), none, .w (.box (.t 0))⟩, ⟨(some 4), none, .q (.mov (.c (.sc (.int .i64 0))))⟩])
  (.seq (.seq (.ops [⟨(some 5), none, .q (.mov (.c (.sc (.int .i64 0))))⟩])
  (.block 0 (.loop (.seq (.seq (.ops [⟨(some 6), none, .q (.mov (.t 5))⟩, ⟨(some 7), none, .q (.fadr 0 (.t 2))⟩, ⟨(some 8), none, .q (.load false 1 (.t 7))⟩, ⟨(some 9), none, .q (.llen (.t 8))⟩, ⟨(some 10), none, .q (.bin .lss (.t 6) (.t 9))⟩])
  (.cond (.t 10) .skip
  (.exit 0)))
  (.seq (.block 1 (.seq (.ops [⟨(some 13), none, .q (.fadr 0 (.t 2))⟩, ⟨(some 14), none, .q (.load false 1 (.t 13))⟩, ⟨(some 15), none, .q (.mov (.t 5))⟩, ⟨(some 16), none, .q (.iadr 1 (.t 14) (.t 15))⟩, ⟨(some 17), none, .q (.load false 1 (.t 16))⟩, ⟨(some 18), none, .q (.mov (.t 1))⟩, ⟨(some 19), none, .q (.bin .eql (.t 17) (.t 18))⟩])
  (.cond (.t 19) (.seq (.ops [⟨(some 20), none, .q (.mov (.t 5))⟩, ⟨(some 4), none, .q (.mov (.t 20))⟩])
  .ret)
  .skip)))
  (.ops [⟨(some 11), none, .q (.mov (.t 5))⟩, ⟨(some 12), none, .q (.bin .add (.t 11) (.c (.sc (.int .i64 1))))⟩, ⟨(some 5), none, .q (.mov (.t 12))⟩]))))))
  (.seq (.ops [⟨(some 4), none, .q (.mov (.c (.sc (.int .i64 (-1)))))⟩])
  .ret)))
theorem K100 : Tryz.f100.body.bind (comp Tryz.prog) = some A100 ∧ Tryz.f100.ntmps = 21 ∧ Tryz.f100.results.toList.mapM (resB Tryz.prog) = some [.mov (.t 4)] := ⟨by kernel_rfl, by kernel_rfl, by kernel_rfl⟩
theorem R100 (p : Plan) (t : ByteArray) (hb : p.tasks.length ≤ 1048576) : Ret Tryz.prog 100 [.agg (Plan.ty.cs p), .sc (.string t)] (.sc (.int .i64 (tIx t p.tasks))) [.un, .un] := by
  obtain ⟨xs, hxs⟩ : ∃ xs, xs = p.tasks := ⟨_, rfl⟩
  have hcs := Plan.cse p
  rw [← hxs] at hcs hb ⊢
  refine Ret.run Tryz.func100 K100 (by simp) rfl rfl 500 ?_
  simp [A100, iniρ, hcs]
  refine T.rounds (μ := fun i : List ByteArray × List ByteArray => i.2.length)
    (fun i s => i.1 ++ i.2 = xs ∧ idx (sameT t) i.2 i.1.length = tIx t xs ∧ s.ρ 1 = .sc (.string t) ∧ s.ρ 2 = .ref 2 0 ∧ s.ρ 5 = .sc (.int .i64 i.1.length) ∧ s.h 2 = some (some (Plan.ty.cs p)) ∧ s.n = 21) ([], xs) (by simp [upd_app, tIx, hcs, ← hxs]) ?_
  rintro ⟨pre, rest⟩ ⟨ρ, hh, n⟩ ⟨hx, hE, k1, k2, k5, kh, rfl⟩
  simp only at hx hE k1 k2 k5 kh
  rw [hcs] at kh
  refine run_ok (n := 400) ?_
  cases rest with
  | nil =>
    simp at hx
    subst hx
    simp [k2, k5, kh]
    refine T.on 400 ?_
    simp [← hE, idx]
  | cons x rest =>
    have hlt : (pre.length : Int) < xs.length := by rw [← hx]; simp only [List.length_append, List.length_cons]; omega
    have hd := strDrop pre rest x
    rw [hx] at hd
    have hw : IntKind.i64.wrap ((pre.length : Int) + 1) = pre.length + 1 := wrap_i64 (by omega) (by omega)
    by_cases hk : x.toList = t.toList
    · have hs : sameT t x = true := by simp [sameT, hk]
      simp [k1, k2, k5, kh, hlt, hd, hk, ← hE, idx, hs]
    · have hs : sameT t x = false := by simp [sameT, hk]
      simp [k1, k2, k5, kh, hlt, hd, hk, hw]
      refine ⟨pre ++ [x], rest, by simp, _, Le.refl _, ?_⟩
      simp [hx, k1, k2, kh, hcs, upd_app, ← hE, idx, hs]
def nextA (p : Plan) (t : ByteArray) : AV := if 0 ≤ tIx t p.tasks then .ro (rows Ty.str.cs (p.deps[(tIx t p.tasks).toNat]?.getD [])) (p.deps[(tIx t p.tasks).toNat]?.getD []).length else .own [] 0 1
/- 79: loop.example/g00464/spec.l11Next -/
def A79 : AC := (.seq (.ops [⟨(some 2), none, .w (.box (.t 0))⟩, ⟨(some 4), none, .q (.mov (.c .em))⟩])
  (.seq (.ops [⟨(some 6), none, .q (.load true 2 (.t 2))⟩, ⟨(some 7), none, .q (.mov (.t 1))⟩, ⟨(some 8), none, .c (.c (.clo 100 [])) [(.t 6), (.t 7)]⟩, ⟨(some 5), none, .q (.mov (.t 8))⟩])
  (.seq (.seq (.ops [⟨(some 9), none, .q (.mov (.t 5))⟩, ⟨(some 10), none, .q (.bin .lss (.t 9) (.c (.sc (.int .i64 0))))⟩])
  (.cond (.t 10) (.seq (.ops [⟨(some 11), none, .w (.bsl 1 0 [] [])⟩, ⟨(some 4), none, .q (.mov (.t 11))⟩])
  .ret)
  .skip))
  (.seq (.ops [⟨(some 12), none, .q (.fadr 1 (.t 2))⟩, ⟨(some 13), none, .q (.load false 1 (.t 12))⟩, ⟨(some 14), none, .q (.mov (.t 5))⟩, ⟨(some 15), none, .q (.iadr 1 (.t 13) (.t 14))⟩, ⟨(some 16), none, .q (.load false 1 (.t 15))⟩, ⟨(some 4), none, .q (.mov (.t 16))⟩])
  .ret))))
theorem K79 : Tryz.f79.body.bind (comp Tryz.prog) = some A79 ∧ Tryz.f79.ntmps = 17 ∧ Tryz.f79.results.toList.mapM (resB Tryz.prog) = some [.mov (.t 4)] := ⟨by kernel_rfl, by kernel_rfl, by kernel_rfl⟩
theorem R79 (p : Plan) (t : ByteArray) (hb : p.tasks.length ≤ 1048576) (hl : p.tasks.length = p.deps.length) : Ret Tryz.prog 79 [.agg (Plan.ty.cs p), .sc (.string t)] (nextA p t) [.un, .un] := by
  have hpl : plain.plainL (Plan.ty.cs p) = true := Plan.ty.plL p
  refine Ret.run Tryz.func79 K79 (by simp) rfl rfl 500 ?_
  simp [A79, iniρ, Plan.cse]
  refine callK.ro 0 rfl (by kernel_rfl) (ys := [.agg (Plan.ty.cs p), .sc (.string t)]) (by simp [roc_agg, roc_sc, upd_app, Plan.cse]) (R100 p t hb) rfl rfl rfl ?_
  by_cases h : 0 ≤ tIx t p.tasks
  · obtain ⟨k, hk, hkl⟩ := tIx_at h
    have hkd : k < p.deps.length := by omega
    have hk0 : ¬ ((k : Int) < 0) := by omega
    have hk1 : (k : Int) < p.deps.length := by omega
    obtain ⟨br, hd⟩ := depDrop p.deps k hkd
    have hoe : onC p.deps k = .ro (rows Ty.str.cs p.deps[k]) p.deps[k].length := by unfold onC; rw [List.getElem?_eq_getElem hkd]
    have hA : nextA p t = .ro (rows Ty.str.cs p.deps[k]) p.deps[k].length := by unfold nextA; rw [if_pos h, hk]; simp [hkd]
    rw [hoe] at hd
    rw [hA]
    simp [hk, hk0, hk1, hkd, hd, ex1]
  · have hA : nextA p t = .own [] 0 1 := by unfold nextA; rw [if_neg h]
    have hn : tIx t p.tasks < 0 := by omega
    rw [hA]
    simp [hn, ex1, idfree.idfreeL]
theorem Plan.openB {ρ : Nat → AV} {h : Hp} {n : Nat} (b d : Nat) (x : Plan) (hb : h b = some (some (Plan.ty.oc x))) (h0 : h d = none) (h1 : h (d + 1) = none) (hd : b < d ∨ d + 2 ≤ b) :
    ∃ h', Le ⟨ρ, h, n⟩ ⟨ρ, h', n⟩ ∧ h' b = some (some [.sl d 0 x.tasks.length 1 false, .sl (d + 1) 0 x.deps.length 1 false]) ∧ h' d = some (some (rows Ty.str.oc x.tasks)) ∧ h' (d + 1) = some (some (rows Ty.str.slice.oc x.deps)) ∧ ∀ c, c ≠ b → c ≠ d → c ≠ d + 1 → h' c = h c := by
  obtain ⟨h', k1, k2, k4, k3⟩ := Le.openRow (ρ := ρ) (n := n) b [] (Plan.ty.oc x) d [] h (by simpa using hb) (Plan.ty.ow x) (fun i hi => by
    rw [Plan.oce] at hi
    match i with
    | 0 => exact h0
    | 1 => exact h1
    | i + 2 => simp at hi; omega) (by rw [Plan.oce]; simpa using hd)
  refine ⟨h', k1, by simpa [Plan.oce, ysOf] using k2, ?_, ?_, fun c hc hd0 hd1 => k3 c hc ?_⟩
  · have := k4 0 _ _ _ (by rw [Plan.oce]; rfl)
    simpa using this
  · exact k4 1 _ _ _ (by rw [Plan.oce]; rfl)
  · rw [Plan.oce]; simp; omega
theorem Plan.growL {ρ : Nat → AV} {h : Hp} {n : Nat} {I : St → Prop} (ts : List ByteArray) (ds : List (List ByteArray)) (x : ByteArray) (d : List ByteArray) (c1 c2 : List AV)
    (hb : h 3 = some (some [.sl 28 0 (ts.length + 1) 1 false, .sl 40 0 (ds.length + 1) 1 false])) (h28 : h 28 = some (some (rows Ty.str.oc ts ++ [.sc (.string x)]))) (h40 : h 40 = some (some (rows Ty.str.slice.oc ds ++ [.sl 38 0 d.length 1 false]))) (h38 : h 38 = some (some (rows Ty.str.oc d)))
    (h1 : h 1 = some (some c1)) (h2 : h 2 = some (some c2)) (hc1 : ∀ y ∈ c1, idfree y = true) (hc2 : ∀ y ∈ c2, idfree y = true) (hρ : ∀ t, t ∈ [1, 2, 3, 4] → menB [1, 2, 3] (ρ t) = true)
    (hI : ∀ h', h' 3 = some (some (Plan.ty.oc ⟨ts ++ [x], ds ++ [d]⟩)) → h' 1 = some (some c1) → h' 2 = some (some c2) → (∀ b, b ≠ 1 → b ≠ 2 → b ≠ 3 → h' b = none) → I ⟨keep [1, 2, 3, 4] ρ, h', n⟩) : ∃ s, Le ⟨ρ, h, n⟩ s ∧ I s := by
  have e1 : rows Ty.str.oc ts ++ [.sc (.string x)] = rows Ty.str.oc (ts ++ [x]) := by rw [rows_append, rows_cons, rows_nil]; rfl
  obtain ⟨ha, k1, k2, k3⟩ := Le.packOn 40 [] (Ty.str.slice.oc d) [38] (rows Ty.str.slice.oc ds) h rfl (by rw [h40]; rfl) (Ty.str.slice.ow d) (fun i e cs len sz hi hj => by
    match i with
    | 0 =>
      simp at hi
      subst hi
      have hj : (some (AV.own (rows Ty.str.oc d) d.length 1) : Option AV) = some (.own cs len sz) := hj
      cases hj
      exact h38
    | i + 1 => simp at hi) (by simp) (by simp)
  have e2 : rows Ty.str.slice.oc ds ++ (Ty.str.slice.oc d ++ []) = rows Ty.str.slice.oc (ds ++ [d]) := by rw [rows_append, rows_cons, rows_nil]
  rw [e2] at k2
  obtain ⟨hc, m1, m2, m3⟩ := Le.packOn 3 [] (Plan.ty.oc ⟨ts ++ [x], ds ++ [d]⟩) [28, 40] [] ha (by rw [Plan.oce]; rfl) (by rw [k3 3 (by decide) (by decide), hb, Plan.oce]; simp [ysOn]) (Plan.ty.ow _) (fun i e cs len sz hi hj => by
    rw [Plan.oce] at hj
    match i with
    | 0 => simp at hi hj; obtain ⟨rfl, rfl, rfl⟩ := hj; subst hi; rw [k3 28 (by decide) (by decide), h28, e1]
    | 1 => simp at hi hj; obtain ⟨rfl, rfl, rfl⟩ := hj; subst hi; exact k2
    | i + 2 => simp at hi) (by decide) (by decide)
  have q1 : hc 1 = some (some c1) := by rw [m3 1 (by decide) (by decide), k3 1 (by decide) (by decide), h1]
  have q2 : hc 2 = some (some c2) := by rw [m3 2 (by decide) (by decide), k3 2 (by decide) (by decide), h2]
  have q3 : hc 3 = some (some (Plan.ty.oc ⟨ts ++ [x], ds ++ [d]⟩)) := by rw [m2]; simp
  refine ⟨_, Le.trans (k1 ρ n) (Le.trans (m1 ρ n) (Le.reset [1, 2, 3, 4] [1, 2, 3] hρ ?_)), hI _ (by simp [keepH_app, q3]) (by simp [keepH_app, q1]) (by simp [keepH_app, q2]) (fun b b1 b2 b3 => by simp [keepH_app, b1, b2, b3])⟩
  intro c hcm cs hcs
  have hcs : hc c = some (some cs) := hcs
  simp at hcm
  rcases hcm with rfl | rfl | rfl
  · rw [q1] at hcs; cases hcs; exact hc1
  · rw [q2] at hcs; cases hcs; exact hc2
  · rw [q3] at hcs; cases hcs; exact fun y hy => (Plan.ty.ow _ y hy).fr
/- 80: loop.example/g00464/spec.l13Graph -/
def A80 : AC := (.seq (.ops [⟨(some 1), none, .w (.box (.t 0))⟩, ⟨(some 2), none, .w (.alloc [.em, .em])⟩])
  (.seq (.ops [⟨(some 5), none, .w (.build [.em, .em] [])⟩, ⟨(some 3), none, .w (.alloc [.em, .em])⟩, ⟨none, none, .w (.store 2 (.t 3) (.t 5))⟩])
  (.seq (.seq (.ops [⟨(some 4), none, .q (.mov (.c (.sc (.int .i64 0))))⟩])
  (.block 0 (.loop (.seq (.seq (.ops [⟨(some 6), none, .q (.mov (.t 4))⟩, ⟨(some 7), none, .q (.fadr 0 (.t 1))⟩, ⟨(some 8), none, .q (.load false 1 (.t 7))⟩, ⟨(some 9), none, .q (.llen (.t 8))⟩, ⟨(some 10), none, .q (.bin .lss (.t 6) (.t 9))⟩, ⟨(some 11), none, .q (.mov (.t 10))⟩, ⟨(some 12), (some (11, true)), .q (.mov (.t 4))⟩, ⟨(some 13), (some (11, true)), .q (.fadr 1 (.t 1))⟩, ⟨(some 14), (some (11, true)), .q (.load false 1 (.t 13))⟩, ⟨(some 15), (some (11, true)), .q (.llen (.t 14))⟩, ⟨(some 16), (some (11, true)), .q (.bin .lss (.t 12) (.t 15))⟩, ⟨(some 17), none, .q (.pick (.t 11) (.t 16) (.c (.sc (.bool false))))⟩])
  (.cond (.t 17) .skip
  (.exit 0)))
  (.seq (.block 1 (.seq (.any [(⟨(some 20), none, .q (.fadr 0 (.t 3))⟩, []), (⟨(some 21), none, .q (.load false 1 (.t 20))⟩, [0]), (⟨(some 22), none, .q (.fadr 0 (.t 1))⟩, []), (⟨(some 23), none, .q (.load false 1 (.t 22))⟩, [2]), (⟨(some 24), none, .q (.mov (.t 4))⟩, []), (⟨(some 25), none, .q (.iadr 1 (.t 23) (.t 24))⟩, [3, 4]), (⟨(some 26), none, .q (.load false 1 (.t 25))⟩, [5]), (⟨(some 27), none, .w (.bsl 1 1 [(.sc (.string ⟨#[]⟩))] [(0, 1, (.t 26))])⟩, [6]), (⟨(some 28), none, .w (.app 1 16 false (.t 21) (.t 27))⟩, [1, 7]), (⟨(some 29), none, .q (.fadr 0 (.t 3))⟩, [0, 1, 2, 3, 4, 5, 6, 7, 8]), (⟨none, none, .w (.store 1 (.t 29) (.t 28))⟩, [9, 8, 8, 0, 1, 2, 3, 4, 5, 6, 7, 8])])
  (.any [(⟨(some 30), none, .q (.fadr 1 (.t 3))⟩, []), (⟨(some 31), none, .q (.load false 1 (.t 30))⟩, [0]), (⟨(some 32), none, .w (.bsl 1 0 [] [])⟩, []), (⟨(some 33), none, .q (.fadr 1 (.t 1))⟩, []), (⟨(some 34), none, .q (.load false 1 (.t 33))⟩, [3]), (⟨(some 35), none, .q (.mov (.t 4))⟩, []), (⟨(some 36), none, .q (.iadr 1 (.t 34) (.t 35))⟩, [4, 5]), (⟨(some 37), none, .q (.load false 1 (.t 36))⟩, [6]), (⟨(some 38), none, .w (.app 1 16 false (.t 32) (.t 37))⟩, [2, 7]), (⟨(some 39), none, .w (.bsl 1 1 [.em] [(0, 1, (.t 38))])⟩, [8]), (⟨(some 40), none, .w (.app 1 24 false (.t 31) (.t 39))⟩, [1, 9, 8]), (⟨(some 41), none, .q (.fadr 1 (.t 3))⟩, [0, 1, 2, 3, 4, 5, 6, 7, 8, 9, 10]), (⟨none, none, .w (.store 1 (.t 41) (.t 40))⟩, [11, 10, 10, 0, 1, 2, 3, 4, 5, 6, 7, 8, 9, 10])])))
  (.ops [⟨(some 18), none, .q (.mov (.t 4))⟩, ⟨(some 19), none, .q (.bin .add (.t 18) (.c (.sc (.int .i64 1))))⟩, ⟨(some 4), none, .q (.mov (.t 19))⟩]))))))
  (.seq (.ops [⟨(some 42), none, .q (.load true 2 (.t 3))⟩, ⟨none, none, .w (.store 2 (.t 2) (.t 42))⟩])
  .ret))))
theorem K80 : Tryz.f80.body.bind (comp Tryz.prog) = some A80 ∧ Tryz.f80.ntmps = 43 ∧ Tryz.f80.results.toList.mapM (resB Tryz.prog) = some [.load true 2 (.t 2)] := ⟨by kernel_rfl, by kernel_rfl, by kernel_rfl⟩
set_option maxHeartbeats 4000000 in
theorem R80 (p : Plan) (hb : p.tasks.length ≤ 1048576) (hb2 : p.deps.length ≤ 1048576) (hb3 : ∀ d ∈ p.deps, d.length ≤ 1048576) : Ret Tryz.prog 80 [.agg (Plan.ty.cs p)] (.agg (Plan.ty.oc (cutP p))) [.un] := by
  obtain ⟨ts, hts⟩ : ∃ ts, ts = p.tasks := ⟨_, rfl⟩
  obtain ⟨ds, hds⟩ : ∃ ds, ds = p.deps := ⟨_, rfl⟩
  have hpc : cutP p = ⟨ts.take (min ts.length ds.length), ds.take (min ts.length ds.length)⟩ := by rw [hts, hds]; rfl
  have hcs := Plan.cse p
  rw [← hts, ← hds] at hcs
  rw [← hts] at hb
  rw [← hds] at hb2 hb3
  rw [hpc]
  refine Ret.run Tryz.func80 K80 (by simp) rfl rfl 900 ?_
  simp [A80, iniρ, hcs, over]
  refine T.le (Le.layC 3 0 1 (by simp [upd_app]; rfl) rfl) ?_
  refine T.le (Le.layC 3 1 1 (by simp [upd_app]; rfl) rfl) ?_
  refine T.rounds (μ := fun k : Nat => ts.length - k)
    (fun k s => k ≤ ts.length ∧ k ≤ ds.length ∧ s.ρ 1 = .ref 1 0 ∧ s.ρ 2 = .ref 2 0 ∧ s.ρ 3 = .ref 3 0 ∧ s.ρ 4 = .sc (.int .i64 k) ∧ s.h 1 = some (some (Plan.ty.cs p)) ∧ s.h 2 = some (some [.em, .em]) ∧ s.h 3 = some (some (Plan.ty.oc ⟨ts.take k, ds.take k⟩)) ∧ (∀ b, b ≠ 1 → b ≠ 2 → b ≠ 3 → s.h b = none) ∧ s.n = 43) 0 (by simp [upd_app, hcs, Plan.oce, rows_nil, ← hts, ← hds]; exact fun b b1 b2 b3 => by simp [b1, b2, b3]) ?_
  rintro k ⟨ρ, hh0, n⟩ ⟨hk, hkd, k1, k2, k3, k4, b1, b2, b3, bf, rfl⟩
  simp only at hk hkd k1 k2 k3 k4 b1 b2 b3 bf
  rw [hcs] at b1
  obtain ⟨hh, o1, o2, o3, o4, o5⟩ := Plan.openB (ρ := ρ) (n := 43) 3 5000 ⟨ts.take k, ds.take k⟩ b3 (bf _ (by decide) (by decide) (by decide)) (bf _ (by decide) (by decide) (by decide)) (by decide)
  refine T.le o1 ?_
  have c1 : hh 1 = _ := (o5 1 (by decide) (by decide) (by decide)).trans b1
  have c2 : hh 2 = _ := (o5 2 (by decide) (by decide) (by decide)).trans b2
  have cf : ∀ b, b ≠ 1 → b ≠ 2 → b ≠ 3 → b ≠ 5000 → b ≠ 5001 → hh b = none := fun b e1 e2 e3 e4 e5 => (o5 b e3 e4 e5).trans (bf b e1 e2 e3)
  have hl1 : (ts.take k).length = k := by rw [List.length_take]; omega
  have hl2 : (ds.take k).length = k := by rw [List.length_take]; omega
  rw [show 5000 + 1 = 5001 from rfl] at o2 o4
  simp only [hl1, hl2] at o2 o3 o4
  refine run_ok (n := 400) ?_
  by_cases h1 : k < ts.length
  case neg =>
    have hmin : min ts.length ds.length = k := by omega
    have h1' : ¬ (k : Int) < ts.length := by omega
    rw [hmin]
    simp [k1, k4, c1, h1']
    refine T.on 400 ?_
    have fa : (rows Ty.str.oc (ts.take k)).length = k := by rw [rows_length Ty.str.ocn]; rw [hl1]; exact Nat.mul_one _
    have fb : (rows Ty.str.slice.oc (ds.take k)).length = k := by rw [rows_length Ty.str.slice.ocn]; rw [hl2]; exact Nat.mul_one _
    have fc : idfree.idfreeL (rows Ty.str.oc (ts.take k)) = true := Ty.str.frL _
    have fd : idfree.idfreeL (rows Ty.str.slice.oc (ds.take k)) = true := Ty.str.slice.frL _
    simp [k2, k3, o2, o3, o4, c2, over, ex1, fa, fb, fc, fd, Plan.oce, hl1, hl2]
  have h1' : (k : Int) < ts.length := by omega
  by_cases h2 : k < ds.length
  case neg =>
    have hmin : min ts.length ds.length = k := by omega
    have h2' : ¬ (k : Int) < ds.length := by omega
    rw [hmin]
    simp [k1, k4, c1, h1', h2']
    refine T.on 400 ?_
    have fa : (rows Ty.str.oc (ts.take k)).length = k := by rw [rows_length Ty.str.ocn]; rw [hl1]; exact Nat.mul_one _
    have fb : (rows Ty.str.slice.oc (ds.take k)).length = k := by rw [rows_length Ty.str.slice.ocn]; rw [hl2]; exact Nat.mul_one _
    have fc : idfree.idfreeL (rows Ty.str.oc (ts.take k)) = true := Ty.str.frL _
    have fd : idfree.idfreeL (rows Ty.str.slice.oc (ds.take k)) = true := Ty.str.slice.frL _
    simp [k2, k3, o2, o3, o4, c2, over, ex1, fa, fb, fc, fd, Plan.oce, hl1, hl2]
  have h2' : (k : Int) < ds.length := by omega
  have hw : IntKind.i64.wrap ((k : Int) + 1) = k + 1 := wrap_i64 (by omega) (by omega)
  have hd1 := strDrop (ts.take k) (ts.drop (k + 1)) ts[k]
  rw [← List.drop_eq_getElem_cons h1, List.take_append_drop, hl1] at hd1
  obtain ⟨br, hd2⟩ := depDrop ds k h2
  have hoe : onC ds k = .ro (rows Ty.str.cs ds[k]) ds[k].length := by unfold onC; rw [List.getElem?_eq_getElem h2]
  rw [hoe] at hd2
  have hdl := hb3 ds[k] (List.getElem_mem h2)
  have hcap1 : (k + 1) * 16 ≤ 140737488355328 := by omega
  have hcap2 : (k + 1) * 24 ≤ 140737488355328 := by omega
  have hcap3 : ds[k].length * 16 ≤ 140737488355328 := by omega
  have fa : (rows Ty.str.oc (ts.take k)).length = k := by rw [rows_length Ty.str.ocn]; rw [hl1]; exact Nat.mul_one _
  have fb : (rows Ty.str.slice.oc (ds.take k)).length = k := by rw [rows_length Ty.str.slice.ocn]; rw [hl2]; exact Nat.mul_one _
  have fe : (rows Ty.str.cs ds[k]).length = ds[k].length := by rw [rows_length Ty.str.csn]; exact Nat.mul_one _
  have fp : plain.plainL (rows Ty.str.cs ds[k]) = true := shutL_plain (rows_all Ty.str.sh ds[k])
  have g27 := cf 27 (by decide) (by decide) (by decide) (by decide) (by decide)
  have g28 := cf 28 (by decide) (by decide) (by decide) (by decide) (by decide)
  have g32 := cf 32 (by decide) (by decide) (by decide) (by decide) (by decide)
  have g38 := cf 38 (by decide) (by decide) (by decide) (by decide) (by decide)
  have g39 := cf 39 (by decide) (by decide) (by decide) (by decide) (by decide)
  have g40 := cf 40 (by decide) (by decide) (by decide) (by decide) (by decide)
  simp [k1, k4, c1, h1', h2']
  refine T.textW 400 [([], [27]), ([], [27]), ([], []), ([], []), ([], []), ([], []), ([], []), ([27], []), ([5000, 27, 28], []), ([], []), ([3], [])] mixed (by kernel_rfl) (by kernel_rfl) ?_
  simp [k1, k3, k4, c1, o2, o3, h1, h1', hd1, g27, g28, over, merge_nil, hideH_nil, fa, hcap1]
  refine T.textW 400 [([], [32, 38, 39]), ([], [32, 38, 39]), ([32], []), ([], [32]), ([], [32]), ([], [32]), ([], [32]), ([], [32]), ([32, 38], []), ([39], []), ([5001, 39, 40], []), ([], []), ([3], [])] mixed (by kernel_rfl) (by kernel_rfl) ?_
  simp [k1, k3, k4, c1, o4, h2, h2', hd2, g32, g38, g39, g40, over, merge_nil, hideH_nil, fb, fe, fp, hcap2, hcap3, hw]
  have t1 : ts.take (k + 1) = ts.take k ++ [ts[k]] := by rw [List.take_add_one, List.getElem?_eq_getElem h1]; rfl
  have t2 : ds.take (k + 1) = ds.take k ++ [ds[k]] := by rw [List.take_add_one, List.getElem?_eq_getElem h2]; rfl
  refine ⟨k + 1, by omega, Plan.growL (ts.take k) (ds.take k) ts[k] ds[k] [.ro (rows Ty.str.cs ts) ts.length, .ro (rows Ty.str.slice.cs ds) ds.length] [.em, .em] (by simp [upd_app, merge_app, hideH_app, hl1, hl2]) (by simp [upd_app, merge_app, hideH_app]) (by simp [upd_app, merge_app, hideH_app]) (by simp [upd_app, merge_app, hideH_app]; rfl) (by simp [upd_app, merge_app, hideH_app, c1]) (by simp [upd_app, merge_app, hideH_app, c2]) (by simp [idfree]) (by simp [idfree]) (by simp [upd_app, menB, idfree, k1, k2, k3]) ?_⟩
  intro h' w3 w1 w2 wf
  refine ⟨by omega, by omega, by simp [upd_app, k1], by simp [upd_app, k2], by simp [upd_app, k3], by simp [upd_app], ?_, w2, ?_, wf, rfl⟩
  · rw [hcs]; exact w1
  · rw [t1, t2]; exact w3
theorem nextA_cases (p : Plan) (t : ByteArray) : nextA p t = .ro (rows Ty.str.cs (if 0 ≤ tIx t p.tasks then p.deps[(tIx t p.tasks).toNat]?.getD [] else [])) (if 0 ≤ tIx t p.tasks then p.deps[(tIx t p.tasks).toNat]?.getD [] else []).length ∨ (nextA p t = .own [] 0 1 ∧ (if 0 ≤ tIx t p.tasks then p.deps[(tIx t p.tasks).toNat]?.getD [] else []) = []) := by
  unfold nextA
  by_cases h : 0 ≤ tIx t p.tasks
  · rw [if_pos h, if_pos h]; exact .inl rfl
  · rw [if_neg h, if_neg h]; exact .inr ⟨rfl, rfl⟩
/- 48: loop.example/g00464/spec.DepsOf -/
def A48 : AC := (.seq (.ops [⟨(some 2), none, .w (.box (.t 0))⟩, ⟨(some 4), none, .q (.mov (.c .em))⟩])
  (.seq (.ops [⟨(some 5), none, .w (.bsl 1 0 [] [])⟩, ⟨(some 6), none, .q (.load true 2 (.t 2))⟩, ⟨(some 7), none, .c (.c (.clo 80 [])) [(.t 6)]⟩, ⟨(some 8), none, .q (.mov (.t 1))⟩, ⟨(some 9), none, .c (.c (.clo 79 [])) [(.t 7), (.t 8)]⟩, ⟨(some 10), none, .w (.app 1 16 false (.t 5) (.t 9))⟩, ⟨(some 4), none, .q (.mov (.t 10))⟩])
  .ret))
theorem K48 : Tryz.f48.body.bind (comp Tryz.prog) = some A48 ∧ Tryz.f48.ntmps = 11 ∧ Tryz.f48.results.toList.mapM (resB Tryz.prog) = some [.mov (.t 4)] := ⟨by kernel_rfl, by kernel_rfl, by kernel_rfl⟩
set_option maxHeartbeats 1000000 in
theorem R48 (p : Plan) (t : ByteArray) (hb : p.tasks.length ≤ 1048576) (hb2 : p.deps.length ≤ 1048576) (hb3 : ∀ d ∈ p.deps, d.length ≤ 1048576) (hxl : (onL p.tasks p.deps t).length ≤ 1048576) : Ret Tryz.prog 48 [.agg (Plan.ty.cs p), .sc (.string t)] (.own (rows Ty.str.oc (onL p.tasks p.deps t)) (onL p.tasks p.deps t).length 1) [.un, .un] := by
  have hpl : plain.plainL (Plan.ty.cs p) = true := Plan.ty.plL p
  obtain ⟨q, hq⟩ : ∃ q, q = cutP p := ⟨_, rfl⟩
  have hqt : q.tasks.length ≤ 1048576 := by rw [hq]; show (p.tasks.take _).length ≤ _; rw [List.length_take]; omega
  have hql : q.tasks.length = q.deps.length := by rw [hq]; show (p.tasks.take _).length = (p.deps.take _).length; rw [List.length_take, List.length_take]; omega
  have rG := R80 p hb hb2 hb3
  rw [← hq] at rG
  have rN := R79 q t hqt hql
  have hon := onL_cut p t
  rw [← hq] at hon
  obtain ⟨xs, hxs⟩ : ∃ xs, xs = onL p.tasks p.deps t := ⟨_, rfl⟩
  have hc := nextA_cases q t
  rw [hon, ← hxs] at hc
  rw [← hxs] at hxl ⊢
  obtain ⟨y, hy⟩ : ∃ y, y = nextA q t := ⟨_, rfl⟩
  rw [← hy] at hc rN
  have hf : flt (.agg (Plan.ty.oc q)) = true := by simpa [flt] using Plan.ty.flL q
  have fe : (rows Ty.str.cs xs).length = xs.length := by rw [rows_length Ty.str.csn]; exact Nat.mul_one _
  have fp : plain.plainL (rows Ty.str.cs xs) = true := shutL_plain (rows_all Ty.str.sh xs)
  have hcap : xs.length * 16 ≤ 140737488355328 := by omega
  have fo : (rows Ty.str.oc xs).length = xs.length := by rw [rows_length Ty.str.ocn]; exact Nat.mul_one _
  have ff : idfree.idfreeL (rows Ty.str.oc xs) = true := Ty.str.frL xs
  have fg : rows Ty.str.cs xs = rows Ty.str.oc xs := rfl
  refine Ret.run Tryz.func48 K48 (by simp) rfl rfl 900 ?_
  simp [A48, iniρ, Plan.cse]
  refine callK.ro 7 rfl (by kernel_rfl) (ys := [.agg (Plan.ty.cs p)]) (by simp [roc_agg, upd_app, Plan.cse]) rG hf (by simp [inst, instL, Plan.oce, upd_app]; exact ⟨rfl, rfl⟩) rfl ?_
  simp
  refine callK.le (Le.freeze 8 [1, 2, 4, 5, 8] [2, 5] [(7, .agg (Plan.ty.cs q))] (by simp [upd_app, menB, idfree]) (by simp [upd_app, idfree]) (by simp [upd_app, roc_agg8, List.mapM_cons, List.mapM_nil, str_roc7, strs_roc7, hideH_app, Plan.cse])) ?_
  have hsq : ∀ h k, roc h k (.agg (Plan.ty.cs q)) = some (.agg (Plan.ty.cs q)) := fun h k => roc_sh (by simp [shut, Plan.ty.shL])
  rcases hc with rfl | ⟨rfl, rfl⟩
  · refine callK.cut [.ro, .ro] 0 (r := [(none, none), (none, none)]) rfl (by kernel_rfl) rfl (by rfl) (by rfl) (by simp [closedB, shut, frz, keep_app, upd_app, Plan.ty.shL]) (by simp [shutArgs, hsq, roc_sc, frz, keep_app, upd_app]; rfl) (by rfl) rN (by rfl) (by rfl) (by simp [inst]; exact ⟨rfl, rfl⟩) rfl ?_
    rw [fg] at fe fp ⊢
    simp [frz, keep_app, keepH_app, upd_app, over, fe, fp, hcap, ex1, ff]
  · refine callK.cut [.ro, .ro] 9 (r := [(none, none), (none, none)]) rfl (by kernel_rfl) rfl (by rfl) (by rfl) (by simp [closedB, shut, frz, keep_app, upd_app, Plan.ty.shL]) (by simp [shutArgs, hsq, roc_sc, frz, keep_app, upd_app]; rfl) (by rfl) rN (by rfl) (by rfl) (by simp [inst, keepH_app, upd_app]; exact ⟨rfl, rfl⟩) rfl ?_
    simp [frz, keep_app, keepH_app, upd_app, over, ex1, rows_nil, idfree.idfreeL]
def RunSz (r : Run) : Prop := r.p.tasks.length ≤ 1048576 ∧ r.p.deps.length ≤ 1048576 ∧ ∀ d ∈ r.p.deps, d.length ≤ 1048576
theorem RunSz.on {r : Run} (h : RunSz r) (t : ByteArray) : (onL r.p.tasks r.p.deps t).length ≤ 1048576 := by
  unfold onL
  split
  · cases e : r.p.deps[(tIx t r.p.tasks).toNat]? with
    | none => exact Nat.zero_le _
    | some d => exact h.2.2 d (List.mem_of_getElem? e)
  · exact Nat.zero_le _
/- 21: loop.example/g00464/spec.l20Free -/
def A21 : AC := (.seq (.ops [⟨(some 2), none, .w (.box (.t 0))⟩, ⟨(some 4), none, .q (.mov (.c (.sc (.bool false))))⟩])
  (.seq (.ops [⟨(some 7), none, .q (.fadr 4 (.t 2))⟩, ⟨(some 8), none, .q (.load true 2 (.t 7))⟩, ⟨(some 9), none, .q (.mov (.t 1))⟩, ⟨(some 10), none, .c (.c (.clo 48 [])) [(.t 8), (.t 9)]⟩, ⟨(some 5), none, .q (.mov (.t 10))⟩])
  (.seq (.seq (.ops [⟨(some 6), none, .q (.mov (.c (.sc (.int .i64 0))))⟩])
  (.block 0 (.loop (.seq (.seq (.ops [⟨(some 11), none, .q (.mov (.t 6))⟩, ⟨(some 12), none, .q (.mov (.t 5))⟩, ⟨(some 13), none, .q (.llen (.t 12))⟩, ⟨(some 14), none, .q (.bin .lss (.t 11) (.t 13))⟩])
  (.cond (.t 14) .skip
  (.exit 0)))
  (.seq (.block 1 (.seq (.any [(⟨(some 17), none, .q (.load true 12 (.t 2))⟩, []), (⟨(some 18), none, .q (.mov (.t 5))⟩, []), (⟨(some 19), none, .q (.mov (.t 6))⟩, []), (⟨(some 20), none, .q (.iadr 1 (.t 18) (.t 19))⟩, [1, 2]), (⟨(some 21), none, .q (.load false 1 (.t 20))⟩, [3]), (⟨(some 22), none, .c (.c (.clo 49 [])) [(.t 17), (.t 21)]⟩, [0, 4]), (⟨(some 23), none, .q (.not (.t 22))⟩, [5])])
  (.cond (.t 23) (.seq (.ops [⟨(some 4), none, .q (.mov (.c (.sc (.bool false))))⟩])
  .ret)
  .skip)))
  (.ops [⟨(some 15), none, .q (.mov (.t 6))⟩, ⟨(some 16), none, .q (.bin .add (.t 15) (.c (.sc (.int .i64 1))))⟩, ⟨(some 6), none, .q (.mov (.t 16))⟩]))))))
  (.seq (.ops [⟨(some 4), none, .q (.mov (.c (.sc (.bool true))))⟩])
  .ret))))
theorem K21 : Tryz.f21.body.bind (comp Tryz.prog) = some A21 ∧ Tryz.f21.ntmps = 24 ∧ Tryz.f21.results.toList.mapM (resB Tryz.prog) = some [.mov (.t 4)] := ⟨by kernel_rfl, by kernel_rfl, by kernel_rfl⟩
set_option maxHeartbeats 1000000 in
theorem R21 (r : Run) (hr : Run.ty.ok r) (hz : RunSz r) (t : ByteArray) : Ret Tryz.prog 21 [.agg (Run.ty.cs r), .sc (.string t)] (.sc (.bool (freeB r t))) [.un, .un] := by
  have hpl : plain.plainL (Run.ty.cs r) = true := Run.ty.plL r
  have hcs := Run.cse r
  have hra : ∀ h k, roc h k (.agg (Run.ty.cs r)) = some (.agg (Run.ty.cs r)) := fun h k => roc_sh (by simp [shut, Run.ty.shL])
  have hrp : ∀ h k, roc h k (.agg (Plan.ty.cs r.p)) = some (.agg (Plan.ty.cs r.p)) := fun h k => roc_sh (by simp [shut, Plan.ty.shL])
  have rD := R48 r.p t hz.1 hz.2.1 hz.2.2 (hz.on t)
  have hxl := hz.on t
  obtain ⟨xs, hxs⟩ : ∃ xs, xs = onL r.p.tasks r.p.deps t := ⟨_, rfl⟩
  have hF : freeB r t = xs.all fun d => madeB (howOf d r.marks) := by rw [hxs]; rfl
  rw [← hxs] at rD hxl
  rw [hF]
  refine Ret.run Tryz.func21 K21 (by simp) rfl rfl 900 ?_
  simp [A21, iniρ, hcs]
  refine callK.ro 10 rfl (by kernel_rfl) (ys := [.agg (Plan.ty.cs r.p), .sc (.string t)]) (by simp [upd_app, roc_sc]; rw [← Plan.cse]; simp [hrp]) rD (Ty.str.flo _) (by simp [inst, upd_app]; exact ⟨rfl, rfl⟩) rfl ?_
  simp
  refine T.rounds (μ := fun i : List ByteArray × List ByteArray => i.2.length)
    (fun i s => i.1 ++ i.2 = xs ∧ (i.2.all fun d => madeB (howOf d r.marks)) = (xs.all fun d => madeB (howOf d r.marks)) ∧ s.ρ 2 = .ref 2 0 ∧ s.ρ 5 = .sl 10 0 xs.length 1 false ∧ s.ρ 6 = .sc (.int .i64 i.1.length) ∧ s.h 2 = some (some (Run.ty.cs r)) ∧ s.h 10 = some (some (rows Ty.str.oc xs)) ∧ s.n = 24) ([], xs) (by simp [upd_app, hcs]) ?_
  rintro ⟨pre, rest⟩ ⟨ρ, hh, n⟩ ⟨hx, hE, k2, k5, k6, b2, b10, rfl⟩
  simp only at hx hE k2 k5 k6 b2 b10
  rw [hcs] at b2
  refine run_ok (n := 400) ?_
  cases rest with
  | nil =>
    simp at hx
    subst hx
    have hE' := hE.symm
    simp only [List.all_nil] at hE'
    rw [hE']
    simp [k5, k6]
    refine T.on 400 ?_
    simp
  | cons x rest =>
    have hlt : (pre.length : Int) < xs.length := by rw [← hx]; simp only [List.length_append, List.length_cons]; omega
    have hd := strDrop pre rest x
    rw [hx] at hd
    have hd : List.drop pre.length (rows Ty.str.oc xs) = .sc (.string x) :: rows Ty.str.oc rest := hd
    have hw : IntKind.i64.wrap ((pre.length : Int) + 1) = pre.length + 1 := wrap_i64 (by omega) (by omega)
    simp [k5, k6, hlt]
    refine T.text 400 mixed (by kernel_rfl) (by kernel_rfl) ?_
    simp [k2, k5, k6, b2, b10, hlt, hd]
    refine callSK.by rfl (by kernel_rfl) (by simp [roc_sc, upd_app]; rw [← hcs]; simp [hra]) (R49 r hr x) ?_
    rw [← hE, List.all_cons]
    cases hk : madeB (howOf x r.marks) with
    | false => simp
    | true =>
      simp [k6, hw]
      refine ⟨pre ++ [x], rest, by simp, _, Le.refl _, by simpa using hx, rfl, ?_⟩
      simp [upd_app, k2, k5, b2, b10, hcs]
/- 5: loop.example/g00464/spec.Ready -/
def A5 : AC := (.seq (.ops [⟨(some 1), none, .w (.box (.t 0))⟩, ⟨(some 2), none, .q (.mov (.c .em))⟩])
  (.seq (.ops [⟨(some 6), none, .w (.bsl 1 0 [] [])⟩, ⟨(some 3), none, .q (.mov (.t 6))⟩])
  (.seq (.seq (.ops [⟨(some 4), none, .q (.mov (.c (.sc (.int .i64 0))))⟩])
  (.block 0 (.loop (.seq (.seq (.ops [⟨(some 7), none, .q (.mov (.t 4))⟩, ⟨(some 8), none, .q (.fadr 4 (.t 1))⟩, ⟨(some 9), none, .q (.fadr 0 (.t 8))⟩, ⟨(some 10), none, .q (.load false 1 (.t 9))⟩, ⟨(some 11), none, .q (.llen (.t 10))⟩, ⟨(some 12), none, .q (.bin .lss (.t 7) (.t 11))⟩, ⟨(some 13), none, .q (.mov (.t 12))⟩, ⟨(some 14), (some (13, true)), .q (.fadr 10 (.t 1))⟩, ⟨(some 15), (some (13, true)), .q (.load false 1 (.t 14))⟩, ⟨(some 16), (some (13, true)), .q (.llen (.t 15))⟩, ⟨(some 17), (some (13, true)), .q (.fadr 6 (.t 1))⟩, ⟨(some 18), (some (13, true)), .q (.load false 1 (.t 17))⟩, ⟨(some 19), (some (13, true)), .q (.bin .lss (.t 16) (.t 18))⟩, ⟨(some 20), none, .q (.pick (.t 13) (.t 19) (.c (.sc (.bool false))))⟩])
  (.cond (.t 20) .skip
  (.exit 0)))
  (.seq (.block 1 (.seq (.ops [⟨(some 23), none, .q (.fadr 4 (.t 1))⟩, ⟨(some 24), none, .q (.fadr 0 (.t 23))⟩, ⟨(some 25), none, .q (.load false 1 (.t 24))⟩, ⟨(some 26), none, .q (.mov (.t 4))⟩, ⟨(some 27), none, .q (.iadr 1 (.t 25) (.t 26))⟩, ⟨(some 28), none, .q (.load false 1 (.t 27))⟩, ⟨(some 5), none, .q (.mov (.t 28))⟩])
  (.seq (.ops [⟨(some 29), none, .q (.load true 12 (.t 1))⟩, ⟨(some 30), none, .q (.mov (.t 5))⟩, ⟨(some 31), none, .c (.c (.clo 19 [])) [(.t 29), (.t 30)]⟩, ⟨(some 32), none, .q (.bin .eql (.t 31) (.c (.sc (.int .i64 0))))⟩, ⟨(some 33), none, .q (.mov (.t 32))⟩, ⟨(some 34), (some (33, true)), .q (.fadr 10 (.t 1))⟩, ⟨(some 35), (some (33, true)), .q (.load false 1 (.t 34))⟩, ⟨(some 36), (some (33, true)), .q (.mov (.t 5))⟩, ⟨(some 37), (some (33, true)), .c (.c (.clo 20 [])) [(.t 35), (.t 36)]⟩, ⟨(some 38), (some (33, true)), .q (.not (.t 37))⟩, ⟨(some 39), none, .q (.pick (.t 33) (.t 38) (.c (.sc (.bool false))))⟩, ⟨(some 40), none, .q (.mov (.t 39))⟩, ⟨(some 41), (some (40, true)), .q (.load true 12 (.t 1))⟩, ⟨(some 42), (some (40, true)), .q (.mov (.t 5))⟩, ⟨(some 43), (some (40, true)), .c (.c (.clo 21 [])) [(.t 41), (.t 42)]⟩, ⟨(some 44), none, .q (.pick (.t 40) (.t 43) (.c (.sc (.bool false))))⟩])
  (.cond (.t 44) (.ops [⟨(some 45), none, .q (.mov (.t 3))⟩, ⟨(some 46), none, .q (.mov (.t 5))⟩, ⟨(some 47), none, .w (.bsl 1 1 [(.sc (.string ⟨#[]⟩))] [(0, 1, (.t 46))])⟩, ⟨(some 48), none, .w (.app 1 16 false (.t 45) (.t 47))⟩, ⟨(some 3), none, .q (.mov (.t 48))⟩])
  .skip))))
  (.ops [⟨(some 21), none, .q (.mov (.t 4))⟩, ⟨(some 22), none, .q (.bin .add (.t 21) (.c (.sc (.int .i64 1))))⟩, ⟨(some 4), none, .q (.mov (.t 22))⟩]))))))
  (.seq (.ops [⟨(some 49), none, .q (.mov (.t 3))⟩, ⟨(some 2), none, .q (.mov (.t 49))⟩])
  .ret))))
theorem K5 : Tryz.f5.body.bind (comp Tryz.prog) = some A5 ∧ Tryz.f5.ntmps = 50 ∧ Tryz.f5.results.toList.mapM (resB Tryz.prog) = some [.mov (.t 2)] := ⟨by kernel_rfl, by kernel_rfl, by kernel_rfl⟩
set_option maxHeartbeats 2000000 in
theorem R5 (r : Run) (hr : Run.ty.ok r) (hz : RunSz r) : Ret Tryz.prog 5 [.agg (Run.ty.cs r)] (.own (rows Ty.str.oc (readyF r)) (readyF r).length 1) [.un] := by
  have hb : r.going.length < 4611686018427387904 := Ty.str.lenb (by decide) hr.2.2.2.2.2.2.1
  have hpl : plain.plainL (Run.ty.cs r) = true := Run.ty.plL r
  have hcs := Run.cse r
  have hra : ∀ h k, roc h k (.agg (Run.ty.cs r)) = some (.agg (Run.ty.cs r)) := fun h k => roc_sh (by simp [shut, Run.ty.shL])
  have hro2 : ∀ h k, roc h k (.ro (rows Ty.str.cs r.going) r.going.length) = some (.ro (rows Ty.str.cs r.going) r.going.length) := fun h k => roc_sh (Ty.str.slice.sh r.going _ (by simp [Ty.slice]))
  have hs := hz.1
  obtain ⟨ts, hts⟩ : ∃ ts, ts = r.p.tasks := ⟨_, rfl⟩
  have hF : readyF r = if r.slots ≤ r.going.length then [] else ts.filter (goB r) := by rw [hts]; rfl
  obtain ⟨R, hR⟩ : ∃ R, R = readyF r := ⟨_, rfl⟩
  rw [← hR] at hF ⊢
  rw [← hts] at hs
  have hcs2 := hcs
  rw [← hts] at hcs2
  refine Ret.run Tryz.func5 K5 (by simp) rfl rfl 900 ?_
  simp [A5, iniρ, hcs2]
  refine T.rounds (μ := fun i : List ByteArray × List ByteArray × List ByteArray => i.2.1.length)
    (fun i s => i.1 ++ i.2.1 = ts ∧ i.2.2 ++ (if r.slots ≤ r.going.length then [] else i.2.1.filter (goB r)) = R ∧ i.2.2.length ≤ i.1.length ∧ s.ρ 1 = .ref 1 0 ∧ s.ρ 3 = .sl 6 0 i.2.2.length 1 false ∧ s.ρ 4 = .sc (.int .i64 i.1.length) ∧
      s.h 1 = some (some (Run.ty.cs r)) ∧ s.h 6 = some (some (rows Ty.str.oc i.2.2)) ∧ (∀ b, b ≠ 1 → b ≠ 6 → s.h b = none) ∧ s.n = 50) ([], ts, []) (by simp [upd_app, rows_nil, hcs2, hF, ← hts]; exact fun b b1 b6 => by simp [b1, b6]) ?_
  rintro ⟨pre, rest, out⟩ ⟨ρ, hh, n⟩ ⟨hx, hE, hol, k1, k3, k4, b1, b6, bf, rfl⟩
  simp only at hx hE hol k1 k3 k4 b1 b6 bf
  rw [hcs2] at b1
  refine run_ok (n := 400) ?_
  have hlo : (rows Ty.str.oc out).length = out.length := by rw [rows_length Ty.str.ocn]; exact Nat.mul_one _
  have hfr : idfree.idfreeL (rows Ty.str.oc out) = true := Ty.str.frL out
  cases rest with
  | nil =>
    simp at hx hE
    subst hx
    simp [k1, k4, b1]
    refine T.on 400 ?_
    simp [k3, b6, ex1, ← hE, hlo, hfr]
  | cons x rest =>
    have hlt : (pre.length : Int) < ts.length := by rw [← hx]; simp only [List.length_append, List.length_cons]; omega
    by_cases hg : r.slots ≤ r.going.length
    · have hg' : ¬ (r.going.length : Int) < r.slots := by omega
      rw [if_pos hg, List.append_nil] at hE
      simp [k1, k4, b1, hlt, hg']
      refine T.on 400 ?_
      simp [k3, b6, ex1, ← hE, hlo, hfr]
    have hg' : (r.going.length : Int) < r.slots := by omega
    rw [if_neg hg] at hE
    have hd := strDrop pre rest x
    rw [hx] at hd
    have hw : IntKind.i64.wrap ((pre.length : Int) + 1) = pre.length + 1 := wrap_i64 (by omega) (by omega)
    have f47 := bf 47 (by decide) (by decide)
    have f48 := bf 48 (by decide) (by decide)
    have hcap : (out.length + 1) * 16 ≤ 140737488355328 := by omega
    have hap : rows Ty.str.oc out ++ [.sc (.string x)] = rows Ty.str.oc (out ++ [x]) := by rw [rows_append, rows_cons, rows_nil]; rfl
    simp [k1, k4, b1, hlt, hg', hd]
    refine callK.ro 0 rfl (by kernel_rfl) (by simp [roc_sc, upd_app]; rw [← hcs2]; simp [hra]) (R19 r hr x) rfl rfl rfl ?_
    by_cases hhow : howOf x r.marks = 0
    case neg =>
      have hgo : goB r x = false := by simp [goB, mayB, hhow]
      simp [hhow, k4, hw, hg]
      refine ⟨pre ++ [x], rest, by simp, out, _, Le.refl _, by simpa using hx, by rw [← hE]; simp [hgo], by simp; omega, ?_⟩
      simp [upd_app, k1, k3, b1, b6, hcs2]
      exact bf
    simp [hhow, k1, b1]
    refine callK.ro 0 rfl (by kernel_rfl) (by simp [hro2, roc_sc, upd_app]) (R20 r.going x hb) rfl rfl rfl ?_
    cases hhas : hasT x r.going with
    | true =>
      have hgo : goB r x = false := by simp [goB, hhas]
      simp [hhow, k4, hw, hg]
      refine ⟨pre ++ [x], rest, by simp, out, _, Le.refl _, by simpa using hx, by rw [← hE]; simp [hgo], by simp; omega, ?_⟩
      simp [upd_app, k1, k3, b1, b6, hcs2]
      exact bf
    | false =>
      simp [hhow, k1, b1]
      refine callK.ro 0 rfl (by kernel_rfl) (by simp [roc_sc, upd_app]; rw [← hcs2]; simp [hra]) (R21 r hr hz x) rfl rfl rfl ?_
      cases hmay : freeB r x with
      | false =>
        have hgo : goB r x = false := by simp [goB, mayB, hmay]
        simp [k4, hw, hg]
        refine ⟨pre ++ [x], rest, by simp, out, _, Le.refl _, by simpa using hx, by rw [← hE]; simp [hgo], by simp; omega, ?_⟩
        simp [upd_app, k1, k3, b1, b6, hcs2]
        exact bf
      | true =>
        have hgo : goB r x = true := by simp [goB, mayB, hhas, hmay, hhow]
        simp [k3, k4, b6, f47, f48, over, hlo, hcap, hap, hw, hg]
        refine ⟨pre ++ [x], rest, by simp, out ++ [x], _, Le.reseat [1, 3, 4] [(48, 6), (1, 1)] (by simp) (by simp [upd_app, menB, idfree, k1]) ?_, by simpa using hx, by rw [← hE]; simp [hgo], by simp; omega, ?_⟩
        · intro b hb' cs hcs'
          simp at hb'
          rcases hb' with rfl | rfl
          · simp [upd_app] at hcs'
            subst hcs'
            exact idfreeL_mem (Ty.str.frL _)
          · simp [upd_app, b1] at hcs'
            subst hcs'
            simp [idfree]
        · simp [upd_app, k1, b1, hcs2]
          intro b e1 e6
          have q1 : (1 == b) = false := by simpa using fun e => e1 e.symm
          have q6 : (6 == b) = false := by simpa using fun e => e6 e.symm
          simp [List.find?, q1, q6]
theorem wtL_mem {α : Type} {wt : α → Nat} : ∀ {l : List α} {x : α}, x ∈ l → wt x ≤ wtL wt l
  | y :: l, x, h => by
    rw [wtL]
    rcases List.mem_cons.1 h with rfl | h
    · omega
    · have := wtL_mem (wt := wt) h
      omega
theorem runSz_of {r : Run} (h : Run.ty.wt r ≤ 1048576) : RunSz r := by
  rw [Run.wte, Plan.wte] at h
  refine ⟨by omega, by omega, fun d hd => ?_⟩
  have h1 := wtL_mem (wt := Ty.str.slice.wt) hd
  have h2 : Ty.str.slice.wt d = d.length + wtL Ty.str.wt d := rfl
  omega
theorem RunSz.on2 {r : Run} (h : RunSz r) (t : ByteArray) : (onL r.p.tasks r.p.deps t).length ≤ 4611686018427387903 := Nat.le_trans (h.on t) (by decide)
end Go.Proofs.YtaknfalbmblagaaGreat.Am
