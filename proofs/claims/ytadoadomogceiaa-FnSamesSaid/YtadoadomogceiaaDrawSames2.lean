/- The functions of the program, each by its contract: DrawSames2; no condition. -/
import Derived.Test.YtadoadomogceiaaProg
import Derived.Test.YtadoadomogceiaaAmZ
import Derived.Test.YtadoadomogceiaaAmP
import Derived.Test.YtadoadomogceiaaDrawSames
import Derived.KernelRfl
namespace Go.Proofs.Ytadoadomogceiaa.Am
open Go Go.Proofs
set_option linter.unusedSimpArgs false
set_option linter.unusedVariables false
attribute [local congr] T_congr callK_congr callWK_congr
attribute [local simp] run_nil run_op0 run_opg run_seq run_cond run_block run_ret run_skip run_skip_after run_skip_blk run_exit run_exit_after run_exit_blk run_loop run_any runS_nil runS_op0 runS_opg runW_nil runW_op0 runW_opg exec_q exec_w exec_c exec_n execW_q execW_w execW_c restW_app hideH_app merge_app wblk rest_app restS_app execS_q execS_c aval dOk upd_app ev_t ev_c setO_some setO_none put_mk pinsOf isIo hasIo sbin endR fin resL one outL out1 clo1 cloL coe coeL shut shut.shutL wantA weff cellsOf fillA deref natOf ρ0_app h0_app plain plain.plainL keep_app keepH_app andThen_normal andThen_ret andThen_exit pop_nil pop_after pop_after_ret pop_after_exit pop_blk pop_blk_ret pop_blk_exit nilA srcOf srcCells keepR_app keepHR_app renA rb
theorem Cur.len2 (c d : Cur) : c.cs.length = d.cs.length := rfl
def threeH (c0 : Nat) (cc : List AV) (b1 : Nat) (x1 : List AV) (b2 : Nat) (x2 : List AV) : Hp := fun c => if c = c0 then some (some cc) else if c = b1 then some (some x1) else if c = b2 then some (some x2) else none
theorem threeH_app (c0 : Nat) (cc : List AV) (b1 : Nat) (x1 : List AV) (b2 : Nat) (x2 : List AV) (c : Nat) : threeH c0 cc b1 x1 b2 x2 c = if c = c0 then some (some cc) else if c = b1 then some (some x1) else if c = b2 then some (some x2) else none := rfl
/-- Two lists that grew by a row each: the rows are packed, the blocks take the old names, one block stays, all else is forgotten. -/
theorem Le.grow2 {ρ : Nat → AV} {h : Hp} {n : Nat} {I : St → Prop} (ks : List Nat) (c0 d1 b1 d2 b2 : Nat) (ds1 ds2 : List Nat) (cc pre1 oc1 pre2 oc2 : List AV) (hn1 : ds1.length = oc1.length) (hn2 : ds2.length = oc2.length)
    (hc : h c0 = some (some cc)) (hb1 : h d1 = some (some (pre1 ++ ysOn ds1 oc1))) (hb2 : h d2 = some (some (pre2 ++ ysOn ds2 oc2))) (ho1 : ∀ c ∈ oc1, OwnC c) (ho2 : ∀ c ∈ oc2, OwnC c) (hcc : ∀ c ∈ cc, idfree c = true) (hp1 : ∀ c ∈ pre1, idfree c = true) (hp2 : ∀ c ∈ pre2, idfree c = true)
    (hh1 : ∀ (i e : Nat) (cs : List AV) (len sz : Nat), ds1[i]? = some e → oc1[i]? = some (AV.own cs len sz) → h e = some (some cs)) (hh2 : ∀ (i e : Nat) (cs : List AV) (len sz : Nat), ds2[i]? = some e → oc2[i]? = some (AV.own cs len sz) → h e = some (some cs))
    (hnd : (c0 :: d1 :: d2 :: (ds1 ++ ds2)).Nodup) (hnb : ([c0, b1, b2] : List Nat).Nodup) (h1 : ∀ t, t ∈ ks → menB [c0, d1, d2] (ρ t) = true)
    (hI : I ⟨keepR ks [(c0, c0), (d1, b1), (d2, b2)] ρ, threeH c0 cc b1 (pre1 ++ oc1) b2 (pre2 ++ oc2), n⟩) : ∃ s, Le ⟨ρ, h, n⟩ s ∧ I s := by
  simp only [List.nodup_cons, List.mem_cons, List.mem_append, not_or, List.nodup_append] at hnd hnb
  obtain ⟨⟨q1, q2, q3, q4⟩, ⟨q5, q6, q7⟩, ⟨q8, q9⟩, q10, q11, q12⟩ := hnd
  obtain ⟨⟨r1, r2, _⟩, ⟨r3, _⟩, _⟩ := hnb
  obtain ⟨h', k1, k2, k3⟩ := Le.packOn d1 [] oc1 ds1 pre1 h hn1 (by simpa using hb1) ho1 hh1 q10 q6
  have e2 : h' d2 = some (some (pre2 ++ (ysOn ds2 oc2 ++ []))) := by rw [k3 d2 (fun e => q5 e.symm) q8, hb2]; simp
  obtain ⟨h2, m1, m2, m3⟩ := Le.packOn d2 [] oc2 ds2 pre2 h' hn2 e2 ho2 (fun i e cs len sz hi hj => by
    have he : e ∈ ds2 := List.mem_of_getElem? hi
    rw [k3 e (fun e' => q7 (e' ▸ he)) (fun e' => q12 e e' e he rfl)]
    exact hh2 i e cs len sz hi hj) q11 q9
  simp only [List.append_nil] at k2 m2
  have g1 : h2 d1 = some (some (pre1 ++ oc1)) := by rw [m3 d1 q5 q7, k2]
  have g0 : h2 c0 = some (some cc) := by rw [m3 c0 q2 q4, k3 c0 q1 q3, hc]
  have e : keepHR [(c0, c0), (d1, b1), (d2, b2)] h2 = threeH c0 cc b1 (pre1 ++ oc1) b2 (pre2 ++ oc2) := by
    funext c
    by_cases w0 : c = c0
    · subst w0; simp [keepHR, threeH, g0]
    · by_cases w1 : c = b1
      · subst w1; simp [keepHR, threeH, g1, w0, r1]
      · by_cases w2 : c = b2
        · subst w2; simp [keepHR, threeH, m2, w0, w1, r2, r3]
        · have v0 : ¬ c0 = c := fun e => w0 e.symm
          have v1 : ¬ b1 = c := fun e => w1 e.symm
          have v2 : ¬ b2 = c := fun e => w2 e.symm
          simp [keepHR, threeH, w0, w1, w2, v0, v1, v2]
  have hr := Le.reseat (st := ⟨ρ, h2, n⟩) ks [(c0, c0), (d1, b1), (d2, b2)] (by simp [q1, q2, q5, r1, r2, r3]) (by simpa using h1) (by
    intro c hc' cs hcs
    simp at hc'
    have hcs : h2 c = some (some cs) := hcs
    rcases hc' with rfl | rfl | rfl
    · rw [g0] at hcs; cases hcs; exact hcc
    · rw [g1] at hcs; cases hcs
      intro y hy
      rcases List.mem_append.1 hy with hy | hy
      · exact hp1 y hy
      · exact (ho1 y hy).fr
    · rw [m2] at hcs; cases hcs
      intro y hy
      rcases List.mem_append.1 hy with hy | hy
      · exact hp2 y hy
      · exact (ho2 y hy).fr)
  rw [e] at hr
  exact ⟨_, Le.trans (k1 ρ n) (Le.trans (m1 ρ n) hr), hI⟩
/- 15: loop.example/g00464/spec.DrawSameMades -/
def A15 : AC := (.seq (.ops [⟨(some 2), none, .q (.mov (.c .em))⟩, ⟨(some 3), none, .q (.mov (.c .em))⟩])
  (.seq (.ops [⟨(some 9), none, .q (.mov (.t 0))⟩, ⟨(some 10), none, .c (.c (.clo 60 [])) [(.t 9)]⟩, ⟨(some 4), none, .q (.mov (.t 10))⟩])
  (.seq (.ops [⟨(some 11), none, .w (.bsl 3 0 [] [])⟩, ⟨(some 5), none, .q (.mov (.t 11))⟩])
  (.seq (.ops [⟨(some 12), none, .w (.bsl 3 0 [] [])⟩, ⟨(some 6), none, .q (.mov (.t 12))⟩])
  (.seq (.seq (.ops [⟨(some 13), none, .q (.mov (.t 4))⟩, ⟨(some 14), none, .c (.c (.clo 63 [])) [(.t 13), (.c (.sc (.int .i64 4)))]⟩, ⟨(some 7), none, .q (.mov (.t 14))⟩])
  (.block 0 (.loop (.seq (.seq (.ops [⟨(some 15), none, .q (.mov (.t 7))⟩, ⟨(some 16), none, .q (.bin .gtr (.t 15) (.c (.sc (.int .i64 0))))⟩])
  (.cond (.t 16) .skip
  (.exit 0)))
  (.seq (.block 1 (.seq (.ops [⟨(some 19), none, .q (.mov (.t 4))⟩, ⟨(some 20), none, .c (.c (.clo 64 [])) [(.t 19)]⟩, ⟨(some 8), none, .w (.alloc [(.sc (.string ⟨#[]⟩)), .em, (.sc (.string ⟨#[]⟩))])⟩, ⟨none, none, .w (.store 3 (.t 8) (.t 20))⟩])
  (.seq (.ops [⟨(some 21), none, .q (.mov (.t 5))⟩, ⟨(some 22), none, .q (.load true 3 (.t 8))⟩, ⟨(some 23), none, .w (.bsl 3 1 [(.sc (.string ⟨#[]⟩)), .em, (.sc (.string ⟨#[]⟩))] [(0, 3, (.t 22))])⟩, ⟨(some 24), none, .w (.app 3 56 false (.t 21) (.t 23))⟩, ⟨(some 5), none, .q (.mov (.t 24))⟩])
  (.seq (.seq (.ops [⟨(some 25), none, .q (.mov (.t 4))⟩, ⟨(some 26), none, .c (.c (.clo 62 [])) [(.t 25), (.c (.sc (.int .i64 6)))]⟩])
  (.cond (.t 26) (.ops [⟨(some 27), none, .q (.mov (.t 4))⟩, ⟨(some 28), none, .c (.c (.clo 64 [])) [(.t 27)]⟩, ⟨none, none, .w (.store 3 (.t 8) (.t 28))⟩])
  .skip))
  (.ops [⟨(some 29), none, .q (.mov (.t 6))⟩, ⟨(some 30), none, .q (.load true 3 (.t 8))⟩, ⟨(some 31), none, .c (.c (.clo 65 [])) [(.t 30)]⟩, ⟨(some 32), none, .w (.bsl 3 1 [(.sc (.string ⟨#[]⟩)), .em, (.sc (.string ⟨#[]⟩))] [(0, 3, (.t 31))])⟩, ⟨(some 33), none, .w (.app 3 56 false (.t 29) (.t 32))⟩, ⟨(some 6), none, .q (.mov (.t 33))⟩])))))
  (.ops [⟨(some 17), none, .q (.mov (.t 7))⟩, ⟨(some 18), none, .q (.bin .sub (.t 17) (.c (.sc (.int .i64 1))))⟩, ⟨(some 7), none, .q (.mov (.t 18))⟩]))))))
  (.seq (.ops [⟨(some 34), none, .q (.mov (.t 5))⟩, ⟨(some 35), none, .q (.mov (.t 6))⟩, ⟨(some 2), none, .q (.mov (.t 34))⟩, ⟨(some 3), none, .q (.mov (.t 35))⟩])
  .ret))))))
theorem K15 : Try.f15.body.bind (comp Try.prog) = some A15 ∧ Try.f15.ntmps = 36 ∧ Try.f15.results.toList.mapM (resB Try.prog) = some [.mov (.t 2), .mov (.t 3)] := ⟨by kernel_rfl, by kernel_rfl, by kernel_rfl⟩
set_option maxHeartbeats 2000000 in
theorem R15 (code : List Int) (hx : Ty.byte.slice.ok code) : Ret Try.prog 15 [.ro (rows B code) code.length] (.tup [.own (rows Made.ty.oc (dsmades code).1) (dsmades code).1.length 3, .own (rows Made.ty.oc (dsmades code).2) (dsmades code).2.length 3]) [.un] := by
  have fr : ∀ c : Cur, idfree.idfreeL c.cs = true := fun c => rfl
  have hc0 := newC_ok hx
  refine Ret.run Try.func15 K15 (by simp) rfl rfl 900 ?_
  simp [A15, iniρ]
  refine callK.cut [.ro] 50 (r := [(none, none)]) rfl (by kernel_rfl) rfl (by rfl) (by rfl) (by simp [closedB, shut, upd_app]) (by simp [shutArgs, roc_ro, upd_app]; rfl) (by rfl) (R60 code hx) (by rfl) (by rfl) (by simp [inst, upd_app]; exact ⟨rfl, rfl⟩) rfl ?_
  simp [over]
  refine callK.bx (b := 50) 0 rfl (by kernel_rfl) (by simp [upd_app]) (by simp [upd_app]) (fr _) (by simp [upd_app]) (by simp) (R63 _ hc0 4) rfl (by rfl) rfl ?_
  obtain ⟨q1, q2⟩ := belowV_rng (newC code) (n := 4) (by omega)
  obtain ⟨m, hm⟩ : ∃ m : Nat, belowV (newC code) 4 = m := ⟨(belowV (newC code) 4).toNat, by omega⟩
  have hV : dmF m (belowC (newC code) 4) = dsmades code := by simp [dsmades, hm]
  rw [hm] at q2 ⊢
  simp
  refine T.rounds (μ := fun i : Nat × Cur × List Made × List Made => i.1)
    (fun i s => i.2.1.ok ∧ i.2.2.1.length + i.1 ≤ 3 ∧ i.2.2.2.length = i.2.2.1.length ∧ i.2.2.1 ++ (dmF i.1 i.2.1).1 = (dsmades code).1 ∧ i.2.2.2 ++ (dmF i.1 i.2.1).2 = (dsmades code).2 ∧ s.ρ 4 = .ref 50 0 ∧ s.ρ 5 = .sl 11 0 i.2.2.1.length 3 false ∧ s.ρ 6 = .sl 12 0 i.2.2.2.length 3 false ∧ s.ρ 7 = .sc (.int .i64 i.1) ∧ s.h 50 = some (some i.2.1.cs) ∧
      s.h 11 = some (some (rows Made.ty.oc i.2.2.1)) ∧ s.h 12 = some (some (rows Made.ty.oc i.2.2.2)) ∧ (∀ b, b ≠ 50 → b ≠ 11 → b ≠ 12 → s.h b = none) ∧ s.n = 36) (m, belowC (newC code) 4, [], []) (by simp [upd_app, rows_nil, hV, belowC_ok, hc0]; exact ⟨by omega, fun b h1 h2 h3 => by simp [h1, h2, h3]⟩) ?_
  rintro ⟨j, c, la, lb⟩ ⟨ρ, hh, n⟩ ⟨hc, hj, hl, hA, hB, h4', h5', h6', h7', kc, ka, kb, kf, rfl⟩
  simp only at hc hj hl hA hB h4' h5' h6' h7' kc ka kb kf
  refine run_ok (n := 400) ?_
  cases j with
  | zero =>
    simp only [dmF, List.append_nil] at hA hB
    simp [h7']
    refine T.on 400 ?_
    simp [h5', h6', ka, kb, ex1, Made.ocl, Made.frL, hA, hB]
  | succ j =>
    have hpos : (0 : Int) < (j : Int) + 1 := by omega
    have hw : IntKind.i64.wrap (j : Int) = j := wrap_i64 (by omega) (by omega)
    have hfree : hh 8 = none ∧ hh 21001 = none ∧ hh 23 = none ∧ hh 24 = none := ⟨kf 8 (by decide) (by decide) (by decide), kf 21001 (by decide) (by decide) (by decide), kf 23 (by decide) (by decide) (by decide), kf 24 (by decide) (by decide) (by decide)⟩
    obtain ⟨g1, g2, g3, g4⟩ := hfree
    have hla : la.length ≤ 2 := by omega
    have hcap : (la.length + 1) * 56 ≤ 140737488355328 := Nat.le_trans (Nat.mul_le_mul_right 56 (Nat.succ_le_succ hla)) (by decide)
    simp [h4', h7', hpos]
    refine callK.bx (b := 50) 20 rfl (by kernel_rfl) (by simp [upd_app, h4']) (by simp [upd_app, kc]) (fr _) (by simp [upd_app]) (by simp) (R64 c hc) rfl (by simp [inst, instL, Made.oce, upd_app, g2]; exact ⟨rfl, rfl⟩) rfl ?_
    simp [h4', h5', ka, g1, g3, g4, over, Made.ocl, hcap]
    have hp2 := anyP_ok hc
    have hmk := anyP_made hc
    have hc6 := belowC_ok hp2 6
    refine callK.bx (b := 50) 0 rfl (by kernel_rfl) (by simp [upd_app, h4']) (by simp [upd_app]) (fr _) (by simp [upd_app]) (by simp) (R62 _ hp2 6) rfl (by rfl) rfl ?_
    have hlb : lb.length ≤ 2 := by omega
    have hcapb : (lb.length + 1) * 56 ≤ 140737488355328 := Nat.le_trans (Nat.mul_le_mul_right 56 (Nat.succ_le_succ hlb)) (by decide)
    have g5 : hh 32 = none := kf 32 (by decide) (by decide) (by decide)
    have g6 : hh 33 = none := kf 33 (by decide) (by decide) (by decide)
    have g7 : hh 32001 = none := kf 32001 (by decide) (by decide) (by decide)
    have g8 : hh 29001 = none := kf 29001 (by decide) (by decide) (by decide)
    have fin : ∀ (q : Made) (c' : Cur) (ρ' : Nat → AV) (h2 : Hp), dmF (j + 1) c = ((anyP c).1 :: (dmF j c').1, q :: (dmF j c').2) → c'.ok → ρ' 4 = .ref 50 0 → ρ' 5 = .sl 24 0 (la.length + 1) 3 false → ρ' 6 = .sl 33 0 (lb.length + 1) 3 false → ρ' 7 = .sc (.int .i64 j) → h2 50 = some (some c'.cs) →
        h2 24 = some (some (rows Made.ty.oc la ++ [.sc (.string (anyP c).1.task), .sl 21001 0 (anyP c).1.outs.length 2 false, .sc (.string (anyP c).1.log)])) → h2 21001 = some (some (rows File.ty.oc (anyP c).1.outs)) →
        h2 33 = some (some (rows Made.ty.oc lb ++ [.sc (.string q.task), .sl 32001 0 q.outs.length 2 false, .sc (.string q.log)])) → h2 32001 = some (some (rows File.ty.oc q.outs)) →
        ∃ s, Le ⟨ρ', h2, 36⟩ s ∧ c'.ok ∧ (la ++ [(anyP c).1]).length + j ≤ 3 ∧ (lb ++ [q]).length = (la ++ [(anyP c).1]).length ∧ la ++ [(anyP c).1] ++ (dmF j c').1 = (dsmades code).1 ∧ lb ++ [q] ++ (dmF j c').2 = (dsmades code).2 ∧ s.ρ 4 = .ref 50 0 ∧ s.ρ 5 = .sl 11 0 (la ++ [(anyP c).1]).length 3 false ∧ s.ρ 6 = .sl 12 0 (lb ++ [q]).length 3 false ∧ s.ρ 7 = .sc (.int .i64 j) ∧ s.h 50 = some (some c'.cs) ∧
          s.h 11 = some (some (rows Made.ty.oc (la ++ [(anyP c).1]))) ∧ s.h 12 = some (some (rows Made.ty.oc (lb ++ [q]))) ∧ (∀ b, b ≠ 50 → b ≠ 11 → b ≠ 12 → s.h b = none) ∧ s.n = 36 := by
      intro q c' ρ' h2 hdm hc' r4 r5 r6 r7 e50 e24 e21 e33 e32
      rw [hdm] at hA hB
      have ea : rows Made.ty.oc (la ++ [(anyP c).1]) = rows Made.ty.oc la ++ Made.ty.oc (anyP c).1 := by rw [rows_append, rows_cons, rows_nil, List.append_nil]
      have eb : rows Made.ty.oc (lb ++ [q]) = rows Made.ty.oc lb ++ Made.ty.oc q := by rw [rows_append, rows_cons, rows_nil, List.append_nil]
      refine Le.grow2 (I := fun s => c'.ok ∧ (la ++ [(anyP c).1]).length + j ≤ 3 ∧ (lb ++ [q]).length = (la ++ [(anyP c).1]).length ∧ la ++ [(anyP c).1] ++ (dmF j c').1 = (dsmades code).1 ∧ lb ++ [q] ++ (dmF j c').2 = (dsmades code).2 ∧ s.ρ 4 = .ref 50 0 ∧ s.ρ 5 = .sl 11 0 (la ++ [(anyP c).1]).length 3 false ∧ s.ρ 6 = .sl 12 0 (lb ++ [q]).length 3 false ∧ s.ρ 7 = .sc (.int .i64 j) ∧ s.h 50 = some (some c'.cs) ∧
          s.h 11 = some (some (rows Made.ty.oc (la ++ [(anyP c).1]))) ∧ s.h 12 = some (some (rows Made.ty.oc (lb ++ [q]))) ∧ (∀ b, b ≠ 50 → b ≠ 11 → b ≠ 12 → s.h b = none) ∧ s.n = 36)
        [4, 5, 6, 7] 50 24 11 33 12 [0, 21001, 1] [2, 32001, 3] c'.cs (rows Made.ty.oc la) (Made.ty.oc (anyP c).1) (rows Made.ty.oc lb) (Made.ty.oc q) (by rw [Made.oce]; rfl) (by rw [Made.oce]; rfl) e50 (by rw [e24, Made.oce]; rfl) (by rw [e33, Made.oce]; rfl) (Made.ty.ow _) (Made.ty.ow _) (idfreeL_mem (fr _)) (idfreeL_mem (Made.frL _)) (idfreeL_mem (Made.frL _)) ?_ ?_ (by decide) (by decide) ?_ ?_
      · intro i e cs len sz hi hi2
        rw [Made.oce] at hi2
        match i with
        | 0 => simp at hi2
        | 1 => simp at hi hi2; obtain ⟨rfl, rfl, rfl⟩ := hi2; subst hi; exact e21
        | 2 => simp at hi2
        | i + 3 => simp at hi2
      · intro i e cs len sz hi hi2
        rw [Made.oce] at hi2
        match i with
        | 0 => simp at hi2
        | 1 => simp at hi hi2; obtain ⟨rfl, rfl, rfl⟩ := hi2; subst hi; exact e32
        | 2 => simp at hi2
        | i + 3 => simp at hi2
      · simp [menB, idfree, r4, r5, r6, r7]
      · refine ⟨hc', by simp; omega, by simp; omega, by simpa using hA, by simpa using hB, by simp [r4], by simp [r5], by simp [r6], by simp [r7], by simp [threeH_app], by simp [threeH_app, ea], by simp [threeH_app, eb], fun b b1 b2 b3 => by simp [threeH_app, b1, b2, b3], rfl⟩
    by_cases k6 : belowV (anyP c).2 6 = 0
    case neg =>
      simp [k6, h6', h4', over]
      refine callK.ro 31 rfl (by kernel_rfl) (by simp [roc_agg, roc_agg8, List.mapM_cons, List.mapM_nil, File.roc7, upd_app, Made.cse]; rfl) (R65 (anyP c).1 hmk) (by simpa [flt] using Made.ty.flL (anyP c).1) (by simp [inst, instL, Made.oce, upd_app, g7]; exact ⟨rfl, rfl⟩) rfl ?_
      simp [h4', h6', h7', kb, g5, g6, over, Made.ocl, hcapb, hw, k6]
      have hdm : dmF (j + 1) c = ((anyP c).1 :: (dmF j (belowC (anyP c).2 6)).1, (anyP c).1 :: (dmF j (belowC (anyP c).2 6)).2) := by simp [dmF, k6]
      refine ⟨j, by omega, _, _, _, fin (anyP c).1 (belowC (anyP c).2 6) _ _ hdm hc6 (by simp [upd_app, h4']) (by simp [upd_app]) (by simp [upd_app]) (by simp [upd_app]) (by simp [upd_app]) (by simp [upd_app]) (by simp [upd_app]) (by simp [upd_app]) (by simp [upd_app])⟩
    case pos =>
      have hq2 := anyP_ok hc6
      have hmq := anyP_made hc6
      simp [k6, h4']
      refine callK.bx (b := 50) 28 rfl (by kernel_rfl) (by simp [upd_app, h4']) (by simp [upd_app]) (fr _) (by simp [upd_app]) (by simp) (R64 _ hc6) (Cur.len2 _ _) (by simp [inst, instL, Made.oce, upd_app, g8]; exact ⟨rfl, rfl⟩) rfl ?_
      simp [h4', h6', over]
      refine callK.ro 31 rfl (by kernel_rfl) (by simp [roc_agg, roc_agg8, List.mapM_cons, List.mapM_nil, File.roc7, upd_app, Made.cse]; rfl) (R65 (anyP (belowC (anyP c).2 6)).1 hmq) (by simpa [flt] using Made.ty.flL (anyP (belowC (anyP c).2 6)).1) (by simp [inst, instL, Made.oce, upd_app, g7]; exact ⟨rfl, rfl⟩) rfl ?_
      simp [h4', h6', h7', kb, g5, g6, over, Made.ocl, hcapb, hw]
      have hdm : dmF (j + 1) c = ((anyP c).1 :: (dmF j (anyP (belowC (anyP c).2 6)).2).1, (anyP (belowC (anyP c).2 6)).1 :: (dmF j (anyP (belowC (anyP c).2 6)).2).2) := by simp [dmF, k6]
      refine ⟨j, by omega, _, _, _, fin (anyP (belowC (anyP c).2 6)).1 (anyP (belowC (anyP c).2 6)).2 _ _ hdm hq2 (by simp [upd_app, h4']) (by simp [upd_app]) (by simp [upd_app]) (by simp [upd_app]) (by simp [upd_app]) (by simp [upd_app]) (by simp [upd_app]) (by simp [upd_app]) (by simp [upd_app])⟩
theorem dmF_is : ∀ (n : Nat) (c : Cur), c.ok → (dmF n c).1.length = n ∧ (dmF n c).2.length = n ∧ (∀ x ∈ (dmF n c).1, Made.ty.ok x) ∧ ∀ x ∈ (dmF n c).2, Made.ty.ok x
  | 0, c, _ => ⟨rfl, rfl, by simp [dmF], by simp [dmF]⟩
  | n + 1, c, hc => by
    have h1 := anyP_ok hc
    have h2 := anyP_made hc
    have h3 := belowC_ok h1 6
    rw [dmF]
    by_cases k : belowV (anyP c).2 6 = 0
    · simp only [k, if_true]
      obtain ⟨a1, a2, a3, a4⟩ := dmF_is n (anyP (belowC (anyP c).2 6)).2 (anyP_ok h3)
      refine ⟨by simp [a1], by simp [a2], fun x hx => ?_, fun x hx => ?_⟩
      · rcases List.mem_cons.1 hx with rfl | hx
        · exact h2
        · exact a3 x hx
      · rcases List.mem_cons.1 hx with rfl | hx
        · exact anyP_made h3
        · exact a4 x hx
    · simp only [k, if_false]
      obtain ⟨a1, a2, a3, a4⟩ := dmF_is n (belowC (anyP c).2 6) h3
      refine ⟨by simp [a1], by simp [a2], fun x hx => ?_, fun x hx => ?_⟩
      · rcases List.mem_cons.1 hx with rfl | hx
        · exact h2
        · exact a3 x hx
      · rcases List.mem_cons.1 hx with rfl | hx
        · exact h2
        · exact a4 x hx
theorem dsmades_ok {code : List Int} (hx : Ty.byte.slice.ok code) : Made.ty.slice.ok (dsmades code).1 ∧ Made.ty.slice.ok (dsmades code).2 := by
  have h0 := newC_ok hx
  obtain ⟨q1, q2⟩ := belowV_rng (newC code) (n := 4) (by omega)
  obtain ⟨a1, a2, a3, a4⟩ := dmF_is (belowV (newC code) 4).toNat (belowC (newC code) 4) (belowC_ok h0 4)
  have hl : (belowV (newC code) 4).toNat ≤ 3 := by omega
  refine ⟨⟨?_, a3⟩, ⟨?_, a4⟩⟩
  · show (dmF _ _).1.length * _ ≤ _
    rw [a1]
    exact Nat.le_trans (Nat.mul_le_mul_right _ hl) (by decide)
  · show (dmF _ _).2.length * _ ≤ _
    rw [a2]
    exact Nat.le_trans (Nat.mul_le_mul_right _ hl) (by decide)
end Go.Proofs.Ytadoadomogceiaa.Am
