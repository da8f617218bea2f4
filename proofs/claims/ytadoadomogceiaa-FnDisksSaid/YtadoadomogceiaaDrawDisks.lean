/- The functions of the program, each by its contract: DrawDisks; no condition. -/
import Derived.Test.YtadoadomogceiaaProg
import Derived.Test.YtadoadomogceiaaAmZ
import Derived.Test.YtadoadomogceiaaAmP
import Derived.Test.YtadoadomogceiaaDrawMades
import Derived.Test.YtadoadomogceiaaDocs6
import Derived.KernelRfl
namespace Go.Proofs.Ytadoadomogceiaa.Am
open Go Go.Proofs
set_option linter.unusedSimpArgs false
set_option linter.unusedVariables false
attribute [local congr] T_congr callK_congr callWK_congr
attribute [local simp] run_nil run_op0 run_opg run_seq run_cond run_block run_ret run_skip run_skip_after run_skip_blk run_exit run_exit_after run_exit_blk run_loop run_any runS_nil runS_op0 runS_opg runW_nil runW_op0 runW_opg exec_q exec_w exec_c exec_n execW_q execW_w execW_c restW_app hideH_app merge_app wblk rest_app restS_app execS_q execS_c aval dOk upd_app ev_t ev_c setO_some setO_none put_mk pinsOf isIo hasIo sbin endR fin resL one outL out1 clo1 cloL coe coeL shut shut.shutL wantA weff cellsOf fillA deref natOf ρ0_app h0_app plain plain.plainL keep_app keepH_app andThen_normal andThen_ret andThen_exit pop_nil pop_after pop_after_ret pop_after_exit pop_blk pop_blk_ret pop_blk_exit nilA srcOf srcCells keepR_app keepHR_app renA rb
def lnabL : List ByteArray := [⟨#[108, 111, 99, 107]⟩, ⟨#[110, 101, 119]⟩, ⟨#[97]⟩, ⟨#[98]⟩]
def naL : List ByteArray := [⟨#[110, 101, 119]⟩, ⟨#[97]⟩]
def lbL : List ByteArray := [⟨#[108, 111, 99, 107]⟩, ⟨#[98]⟩]
def exoL : List ByteArray := [⟨#[]⟩, ⟨#[120]⟩, ⟨#[111, 108, 100, 10]⟩]
def oneOp (c : Cur) : Op × Cur :=
  if belowV c 3 = 0 then (⟨2, pickS naL (belowC c 3) 2, pickS lbL (belowC (belowC c 3) 2) 2⟩, belowC (belowC (belowC c 3) 2) 2)
  else (⟨1, pickS lnabL (belowC c 3) 4, pickS exoL (belowC (belowC c 3) 4) 3⟩, belowC (belowC (belowC c 3) 4) 3)
theorem oneOp_ok {c : Cur} (hc : c.ok) : (oneOp c).2.ok ∧ Op.ty.ok (oneOp c).1 := by
  unfold oneOp
  split
  · exact ⟨belowC_ok (belowC_ok (belowC_ok hc 3) 2) 2, two_ok, Nat.le_trans (pick_size (n := 5) (by decide) _ _) (by decide), Nat.le_trans (pick_size (n := 5) (by decide) _ _) (by decide), trivial⟩
  · exact ⟨belowC_ok (belowC_ok (belowC_ok hc 3) 4) 3, one_ok, Nat.le_trans (pick_size (n := 5) (by decide) _ _) (by decide), Nat.le_trans (pick_size (n := 5) (by decide) _ _) (by decide), trivial⟩
/- 104: loop.example/g00464/spec.l1Int -/
def A104 : AC := (.seq (.ops [⟨(some 4), none, .q (.mov (.c (.sc (.int .i64 0))))⟩])
  (.seq (.ops [⟨(some 5), none, .q (.mov (.t 1))⟩, ⟨(some 6), none, .q (.mov (.t 0))⟩, ⟨(some 7), none, .q (.mov (.t 1))⟩, ⟨(some 8), none, .q (.llen (.t 7))⟩, ⟨(some 9), none, .c (.c (.clo 63 [])) [(.t 6), (.t 8)]⟩, ⟨(some 10), none, .q (.iadr 1 (.t 5) (.t 9))⟩, ⟨(some 11), none, .q (.load false 1 (.t 10))⟩, ⟨(some 4), none, .q (.mov (.t 11))⟩])
  .ret))
theorem K104 : Try.f104.body.bind (comp Try.prog) = some A104 ∧ Try.f104.ntmps = 12 ∧ Try.f104.results.toList.mapM (resB Try.prog) = some [.mov (.t 4)] := ⟨by kernel_rfl, by kernel_rfl, by kernel_rfl⟩
theorem R104 (c : Cur) (hc : c.ok) (xs : List Int) (hx : 0 < xs.length) : Ret Try.prog 104 [.bx c.cs, .own (rows Ty.int.oc xs) xs.length 1] (.sc (.int .i64 (xs[(belowV c xs.length).toNat]?.getD 0))) [.bx (belowC c xs.length).cs, .un] := by
  have fr : ∀ c : Cur, idfree.idfreeL c.cs = true := fun c => rfl
  refine Ret.run Try.func104 K104 (by simp) rfl rfl 900 ?_
  simp [A104, iniρ]
  refine callK.bx (b := 100000) 0 rfl (by kernel_rfl) (by simp [upd_app]) (by simp [upd_app]) (fr c) (by simp [upd_app]) (by simp) (R63 c hc xs.length) rfl (by rfl) rfl ?_
  obtain ⟨r1, r2⟩ := belowV_rng c (n := xs.length) (by omega)
  obtain ⟨m, hm⟩ : ∃ m : Nat, belowV c xs.length = m := ⟨(belowV c xs.length).toNat, by omega⟩
  rw [hm] at r1 r2 ⊢
  have r3 : m < xs.length := by omega
  have hd : List.drop m (rows Ty.int.oc xs) = .sc (.int .i64 (xs[m]?.getD 0)) :: rows Ty.int.oc (xs.drop (m + 1)) := by
    have h := rows_drop Ty.int.ocn (xs.take m) (xs.drop m)
    rw [List.take_append_drop, List.length_take, Nat.min_eq_left (by omega)] at h
    have h : List.drop m (rows Ty.int.oc xs) = rows Ty.int.oc (xs.drop m) := by
      have h2 := h
      rwa [show m * Ty.int.n = m from Nat.mul_one m] at h2
    rw [h, List.drop_eq_getElem_cons r3, rows_cons]
    simp [r3]
    rfl
  simp [r2, r3, hd, ex1, fr, ioPos1]
/- 177: loop.example/g00464/spec.l22Name -/
def A177 : AC := (.seq (.ops [⟨(some 2), none, .q (.mov (.c (.sc (.string ⟨#[]⟩))))⟩])
  (.seq (.ops [⟨(some 3), none, .q (.mov (.t 0))⟩, ⟨(some 4), none, .w (.bsl 1 4 [(.sc (.string ⟨#[]⟩)), (.sc (.string ⟨#[]⟩)), (.sc (.string ⟨#[]⟩)), (.sc (.string ⟨#[]⟩))] [(0, 1, (.c (.sc (.string ⟨#[108, 111, 99, 107]⟩)))), (1, 1, (.c (.sc (.string ⟨#[110, 101, 119]⟩)))), (2, 1, (.c (.sc (.string ⟨#[97]⟩)))), (3, 1, (.c (.sc (.string ⟨#[98]⟩))))])⟩, ⟨(some 5), none, .c (.c (.clo 105 [])) [(.t 3), (.t 4)]⟩, ⟨(some 2), none, .q (.mov (.t 5))⟩])
  .ret))
theorem K177 : Try.f177.body.bind (comp Try.prog) = some A177 ∧ Try.f177.ntmps = 6 ∧ Try.f177.results.toList.mapM (resB Try.prog) = some [.mov (.t 2)] := ⟨by kernel_rfl, by kernel_rfl, by kernel_rfl⟩
theorem R177 (c : Cur) (hc : c.ok) : Ret Try.prog 177 [.bx c.cs] (.sc (.string (pickS lnabL c 4))) [.bx (belowC c 4).cs] := by
  have fr : ∀ c : Cur, idfree.idfreeL c.cs = true := fun c => rfl
  have r1 : Ret Try.prog 105 [.bx c.cs, .own (rows Ty.str.oc lnabL) 4 1] (.sc (.string (pickS lnabL c 4))) [.bx (belowC c 4).cs, .un] := R105 c hc lnabL (by decide)
  refine Ret.run Try.func177 K177 (by simp) rfl rfl 900 ?_
  simp [A177, iniρ, over]
  refine callK.bm 100000 4 (len := 4) (sz := 1) rfl (by kernel_rfl) (by simp [upd_app]) (by simp [upd_app]) (fr c) (by simp [upd_app]) (by simp [upd_app]; rfl) (by rfl) (by rfl) (by decide) r1 rfl rfl ?_
  simp [ex1, fr, ioPos1]
/- 153: loop.example/g00464/spec.l22OneOp -/
def A153 : AC := (.seq (.ops [⟨(some 2), none, .w (.alloc [(.sc (.int .i64 0)), (.sc (.string ⟨#[]⟩)), (.sc (.string ⟨#[]⟩))])⟩])
  (.seq (.seq (.ops [⟨(some 3), none, .q (.mov (.t 0))⟩, ⟨(some 4), none, .c (.c (.clo 62 [])) [(.t 3), (.c (.sc (.int .i64 3)))]⟩])
  (.cond (.t 4) (.seq (.ops [⟨(some 5), none, .q (.mov (.t 0))⟩, ⟨(some 6), none, .w (.bsl 1 2 [(.sc (.string ⟨#[]⟩)), (.sc (.string ⟨#[]⟩))] [(0, 1, (.c (.sc (.string ⟨#[110, 101, 119]⟩)))), (1, 1, (.c (.sc (.string ⟨#[97]⟩))))])⟩, ⟨(some 7), none, .c (.c (.clo 105 [])) [(.t 5), (.t 6)]⟩, ⟨(some 8), none, .q (.mov (.t 0))⟩, ⟨(some 9), none, .w (.bsl 1 2 [(.sc (.string ⟨#[]⟩)), (.sc (.string ⟨#[]⟩))] [(0, 1, (.c (.sc (.string ⟨#[108, 111, 99, 107]⟩)))), (1, 1, (.c (.sc (.string ⟨#[98]⟩))))])⟩, ⟨(some 10), none, .c (.c (.clo 105 [])) [(.t 8), (.t 9)]⟩, ⟨(some 11), none, .w (.build [(.sc (.int .i64 0)), (.sc (.string ⟨#[]⟩)), (.sc (.string ⟨#[]⟩))] [(0, 1, (.c (.sc (.int .i64 2)))), (1, 1, (.t 7)), (2, 1, (.t 10))])⟩, ⟨none, none, .w (.store 3 (.t 2) (.t 11))⟩])
  .ret)
  .skip))
  (.seq (.ops [⟨(some 12), none, .q (.mov (.t 0))⟩, ⟨(some 13), none, .c (.c (.clo 177 [])) [(.t 12)]⟩, ⟨(some 14), none, .q (.mov (.t 0))⟩, ⟨(some 15), none, .w (.bsl 1 3 [(.sc (.string ⟨#[]⟩)), (.sc (.string ⟨#[]⟩)), (.sc (.string ⟨#[]⟩))] [(0, 1, (.c (.sc (.string ⟨#[]⟩)))), (1, 1, (.c (.sc (.string ⟨#[120]⟩)))), (2, 1, (.c (.sc (.string ⟨#[111, 108, 100, 10]⟩))))])⟩, ⟨(some 16), none, .c (.c (.clo 105 [])) [(.t 14), (.t 15)]⟩, ⟨(some 17), none, .w (.build [(.sc (.int .i64 0)), (.sc (.string ⟨#[]⟩)), (.sc (.string ⟨#[]⟩))] [(0, 1, (.c (.sc (.int .i64 1)))), (1, 1, (.t 13)), (2, 1, (.t 16))])⟩, ⟨none, none, .w (.store 3 (.t 2) (.t 17))⟩])
  .ret)))
theorem K153 : Try.f153.body.bind (comp Try.prog) = some A153 ∧ Try.f153.ntmps = 18 ∧ Try.f153.results.toList.mapM (resB Try.prog) = some [.load true 3 (.t 2)] := ⟨by kernel_rfl, by kernel_rfl, by kernel_rfl⟩
theorem R153 (c : Cur) (hc : c.ok) : Ret Try.prog 153 [.bx c.cs] (.agg (Op.ty.oc (oneOp c).1)) [.bx (oneOp c).2.cs] := by
  have fr : ∀ c : Cur, idfree.idfreeL c.cs = true := fun c => rfl
  have hc1 := belowC_ok hc 3
  have ra : Ret Try.prog 105 [.bx (belowC c 3).cs, .own (rows Ty.str.oc naL) 2 1] (.sc (.string (pickS naL (belowC c 3) 2))) [.bx (belowC (belowC c 3) 2).cs, .un] := R105 _ hc1 naL (by decide)
  have rb : Ret Try.prog 105 [.bx (belowC (belowC c 3) 2).cs, .own (rows Ty.str.oc lbL) 2 1] (.sc (.string (pickS lbL (belowC (belowC c 3) 2) 2))) [.bx (belowC (belowC (belowC c 3) 2) 2).cs, .un] := R105 _ (belowC_ok hc1 2) lbL (by decide)
  have rc : Ret Try.prog 105 [.bx (belowC (belowC c 3) 4).cs, .own (rows Ty.str.oc exoL) 3 1] (.sc (.string (pickS exoL (belowC (belowC c 3) 4) 3))) [.bx (belowC (belowC (belowC c 3) 4) 3).cs, .un] := R105 _ (belowC_ok hc1 4) exoL (by decide)
  refine Ret.run Try.func153 K153 (by simp) rfl rfl 900 ?_
  simp [A153, iniρ, over]
  refine callK.bx (b := 100000) 0 rfl (by kernel_rfl) (by simp [upd_app]) (by simp [upd_app]) (fr _) (by simp [upd_app]) (by simp) (R62 c hc 3) rfl (by rfl) rfl ?_
  by_cases k : belowV c 3 = 0
  · simp [k, over]
    refine callK.bm 100000 6 (len := 2) (sz := 1) rfl (by kernel_rfl) (by simp [upd_app]) (by simp [upd_app]) (fr _) (by simp [upd_app]) (by simp [upd_app]; rfl) (by rfl) (by rfl) (by decide) ra rfl rfl ?_
    simp [over]
    refine callK.bm 100000 9 (len := 2) (sz := 1) rfl (by kernel_rfl) (by simp [upd_app]) (by simp [upd_app]) (fr _) (by simp [upd_app]) (by simp [upd_app]; rfl) (by rfl) (by rfl) (by decide) rb rfl rfl ?_
    simp [k, over, oneOp, ex1, fr, ioPos1, Op.oce]
  · simp [k, over]
    refine callK.bx (b := 100000) 0 rfl (by kernel_rfl) (by simp [upd_app]) (by simp [upd_app]) (fr _) (by simp [upd_app]) (by simp) (R177 _ hc1) rfl (by rfl) rfl ?_
    simp [k, over]
    refine callK.bm 100000 15 (len := 3) (sz := 1) rfl (by kernel_rfl) (by simp [upd_app]) (by simp [upd_app]) (fr _) (by simp [upd_app]) (by simp [upd_app]; rfl) (by rfl) (by rfl) (by decide) rc rfl rfl ?_
    simp [k, over, oneOp, ex1, fr, ioPos1, Op.oce]
def drawO : Nat → Cur → Disk → Disk × Cur
  | 0, c, d => (d, c)
  | n + 1, c, d => drawO n (belowC (oneOp c).2 3) (if belowV (oneOp c).2 3 = 0 then settleF ⟨d.sure, d.pend ++ [(oneOp c).1]⟩ else ⟨d.sure, d.pend ++ [(oneOp c).1]⟩)
def drawD (c : Cur) : Disk × Cur := drawO (belowV c 6).toNat (belowC c 6) ⟨[], []⟩
theorem nilDisk_ok : Disk.ty.ok ⟨[], []⟩ := ⟨⟨by simp, by simp⟩, nilO_ok, trivial⟩
theorem drawO_ok : ∀ (n : Nat) (c : Cur) (d : Disk), c.ok → Disk.ty.ok d → d.pend.length + n ≤ 5 → (drawO n c d).2.ok ∧ Disk.ty.ok (drawO n c d).1 ∧ (drawO n c d).1.pend.length ≤ 5
  | 0, c, d, hc, hd, hl => ⟨hc, hd, hl⟩
  | n + 1, c, d, hc, hd, hl => by
    have h1 := oneOp_ok hc
    have h2 : Disk.ty.ok ⟨d.sure, d.pend ++ [(oneOp c).1]⟩ := snoc_ok hd h1.2 (by omega)
    have hl2 : (d.pend ++ [(oneOp c).1]).length + n ≤ 5 := by simp; omega
    rw [drawO]
    split
    · have := settleF_pend ⟨d.sure, d.pend ++ [(oneOp c).1]⟩
      exact drawO_ok n _ _ (belowC_ok h1.1 3) (settleF_ok h2) (by simp only at this; omega)
    · exact drawO_ok n _ _ (belowC_ok h1.1 3) h2 hl2
theorem drawD_ok {c : Cur} (hc : c.ok) : (drawD c).2.ok ∧ Disk.ty.ok (drawD c).1 ∧ (drawD c).1.pend.length ≤ 5 := by
  obtain ⟨q1, q2⟩ := belowV_rng c (n := 6) (by omega)
  exact drawO_ok _ _ _ (belowC_ok hc 6) nilDisk_ok (by simp; omega)
/- 152: loop.example/g00464/spec.l22Draw -/
def A152 : AC := (.seq (.ops [⟨(some 2), none, .w (.alloc [.em, .em])⟩])
  (.seq (.ops [⟨(some 5), none, .w (.build [.em, .em] [])⟩, ⟨(some 3), none, .w (.alloc [.em, .em])⟩, ⟨none, none, .w (.store 2 (.t 3) (.t 5))⟩])
  (.seq (.seq (.ops [⟨(some 6), none, .q (.mov (.t 0))⟩, ⟨(some 7), none, .c (.c (.clo 63 [])) [(.t 6), (.c (.sc (.int .i64 6)))]⟩, ⟨(some 4), none, .q (.mov (.t 7))⟩])
  (.block 0 (.loop (.seq (.seq (.ops [⟨(some 8), none, .q (.mov (.t 4))⟩, ⟨(some 9), none, .q (.bin .gtr (.t 8) (.c (.sc (.int .i64 0))))⟩])
  (.cond (.t 9) .skip
  (.exit 0)))
  (.seq (.block 1 (.seq (.any [(⟨(some 12), none, .q (.fadr 1 (.t 3))⟩, []), (⟨(some 13), none, .q (.load false 1 (.t 12))⟩, [0]), (⟨(some 14), none, .q (.mov (.t 0))⟩, []), (⟨(some 15), none, .c (.c (.clo 153 [])) [(.t 14)]⟩, [2]), (⟨(some 16), none, .w (.bsl 3 1 [(.sc (.int .i64 0)), (.sc (.string ⟨#[]⟩)), (.sc (.string ⟨#[]⟩))] [(0, 3, (.t 15))])⟩, [3]), (⟨(some 17), none, .w (.app 3 40 false (.t 13) (.t 16))⟩, [1, 4, 3]), (⟨(some 18), none, .q (.fadr 1 (.t 3))⟩, [0, 1, 2, 3, 4, 5]), (⟨none, none, .w (.store 1 (.t 18) (.t 17))⟩, [6, 5, 5, 0, 1, 2, 3, 4, 5])])
  (.seq (.ops [⟨(some 19), none, .q (.mov (.t 0))⟩, ⟨(some 20), none, .c (.c (.clo 62 [])) [(.t 19), (.c (.sc (.int .i64 3)))]⟩])
  (.cond (.t 20) (.ops [⟨(some 21), none, .q (.load true 2 (.t 3))⟩, ⟨(some 22), none, .c (.c (.clo 47 [])) [(.t 21)]⟩, ⟨none, none, .w (.store 2 (.t 3) (.t 22))⟩])
  .skip))))
  (.ops [⟨(some 10), none, .q (.mov (.t 4))⟩, ⟨(some 11), none, .q (.bin .sub (.t 10) (.c (.sc (.int .i64 1))))⟩, ⟨(some 4), none, .q (.mov (.t 11))⟩]))))))
  (.seq (.ops [⟨(some 23), none, .q (.load true 2 (.t 3))⟩, ⟨none, none, .w (.store 2 (.t 2) (.t 23))⟩])
  .ret))))
theorem K152 : Try.f152.body.bind (comp Try.prog) = some A152 ∧ Try.f152.ntmps = 24 ∧ Try.f152.results.toList.mapM (resB Try.prog) = some [.load true 2 (.t 2)] := ⟨by kernel_rfl, by kernel_rfl, by kernel_rfl⟩
set_option maxHeartbeats 4000000 in
theorem R152 (c : Cur) (hc : c.ok) : Ret Try.prog 152 [.bx c.cs] (.agg (Disk.ty.oc (drawD c).1)) [.bx (drawD c).2.cs] := by
  have fr : ∀ c : Cur, idfree.idfreeL c.cs = true := fun c => rfl
  refine Ret.run Try.func152 K152 (by simp) rfl rfl 900 ?_
  simp [A152, iniρ, over]
  refine callK.bx (b := 100000) 0 rfl (by kernel_rfl) (by simp [upd_app]) (by simp [upd_app]) (fr _) (by simp [upd_app]) (by simp) (R63 _ hc 6) rfl (by rfl) rfl ?_
  obtain ⟨q1, q2⟩ := belowV_rng c (n := 6) (by omega)
  obtain ⟨m, hm⟩ : ∃ m : Nat, belowV c 6 = m := ⟨(belowV c 6).toNat, by omega⟩
  have hP : drawO m (belowC c 6) ⟨[], []⟩ = drawD c := by simp [drawD, hm]
  rw [hm] at q2 ⊢
  simp
  refine T.le (Le.layC 3 0 2 (by simp [upd_app]; rfl) rfl) ?_
  refine T.le (Le.layC 3 1 3 (by simp [upd_app]; rfl) rfl) ?_
  refine T.rounds (μ := fun i : Nat × Cur × Disk => i.1)
    (fun i s => i.2.1.ok ∧ Disk.ty.ok i.2.2 ∧ i.2.2.pend.length + i.1 ≤ 5 ∧ drawO i.1 i.2.1 i.2.2 = drawD c ∧ s.ρ 0 = .ref 100000 0 ∧ s.ρ 2 = .ref 2 0 ∧ s.ρ 3 = .ref 3 0 ∧ s.ρ 4 = .sc (.int .i64 i.1) ∧ s.h 100000 = some (some i.2.1.cs) ∧
      s.h 2 = some (some [.em, .em]) ∧ s.h 3 = some (some (Disk.ty.oc i.2.2)) ∧ (∀ b, b ≠ 100000 → b ≠ 2 → b ≠ 3 → s.h b = none) ∧ s.n = 24) (m, belowC c 6, ⟨[], []⟩) (by simp [upd_app, rows_nil, hP, belowC_ok, hc, nilDisk_ok, Disk.oce]; exact ⟨by omega, fun b h1 h2 h3 => by simp [h1, h2, h3]⟩) ?_
  rintro ⟨j, d, x⟩ ⟨ρ, hh0, n⟩ ⟨hd, hxo, hj, hE, h0', h2', h3', h4', kc0, k20, k30, kf, rfl⟩
  simp only at hd hxo hj hE h0' h2' h3' h4' kc0 k20 k30 kf
  obtain ⟨hh, o1, o2, o3, o4, o5⟩ := Disk.openB (ρ := ρ) (n := 24) 3 5000 x k30 (kf _ (by decide) (by decide) (by decide)) (kf _ (by decide) (by decide) (by decide)) (by decide)
  refine T.le o1 ?_
  have kc : hh 100000 = some (some d.cs) := by rw [o5 100000 (by decide) (by decide) (by decide), kc0]
  have k2 : hh 2 = some (some [.em, .em]) := by rw [o5 2 (by decide) (by decide) (by decide), k20]
  have bf : ∀ b, b ≠ 100000 → b ≠ 2 → b ≠ 3 → b ≠ 5000 → b ≠ 5001 → hh b = none := fun b c1 c2 c3 c4 c5 => by rw [o5 b c3 c4 c5, kf b c1 c2 c3]
  rw [show 5000 + 1 = 5001 from rfl] at o2 o4
  have g16 := bf 16 (by decide) (by decide) (by decide) (by decide) (by decide)
  have g17 := bf 17 (by decide) (by decide) (by decide) (by decide) (by decide)
  have g23 := bf 23000 (by decide) (by decide) (by decide) (by decide) (by decide)
  have g24 := bf 23001 (by decide) (by decide) (by decide) (by decide) (by decide)
  refine run_ok (n := 400) ?_
  cases j with
  | zero =>
    simp only [drawO] at hE
    have hE1 : x = (drawD c).1 := by rw [← hE]
    have hE2 : d = (drawD c).2 := by rw [← hE]
    simp [h4']
    refine T.on 400 ?_
    simp [h0', h2', h3', o2, o3, o4, k2, kc, over, ex1, Doc.ocl, Doc.frL, Op.ocl, Op.frL, fr, ioPos1, Disk.oce, hE1, hE2]
  | succ j =>
    have hw : IntKind.i64.wrap (j : Int) = j := wrap_i64 (by omega) (by omega)
    have hpos : (0 : Int) < (j : Int) + 1 := by omega
    have ho := oneOp_ok hd
    obtain ⟨ps, hps⟩ : ∃ ps, ps = x.pend ++ [(oneOp d).1] := ⟨_, rfl⟩
    have hlp : x.pend.length + 1 = ps.length := by rw [hps]; simp
    have hx2 : Disk.ty.ok ⟨x.sure, ps⟩ := by rw [hps]; exact snoc_ok hxo ho.2 (by omega)
    have hcap : ps.length * 40 ≤ 140737488355328 := Nat.le_trans (Nat.mul_le_mul_right 40 (show ps.length ≤ 5 by omega)) (by decide)
    have hap : rows Op.ty.oc x.pend ++ [.sc (.int .i64 (oneOp d).1.kind), .sc (.string (oneOp d).1.a), .sc (.string (oneOp d).1.b)] = rows Op.ty.oc ps := by rw [hps, rows_append]; simp [rows_cons, rows_nil, Op.oce]
    simp [h4', hpos]
    refine T.textW 400 [([], [100000, 16]), ([], [100000, 16]), ([], []), ([100000], []), ([16], []), ([5001, 16, 17], []), ([], []), ([3], [])] mixed (by kernel_rfl) (by kernel_rfl) ?_
    simp [h0', h3', o2, over]
    refine callWK.bx (b := 100000) 15 rfl (by kernel_rfl) (by simp [upd_app, h0']) (by simp [upd_app, hideH_app, kc]) (fr _) (by simp) (by simp) (R153 d hd) rfl (by simp [inst, instL, Op.oce]; exact ⟨rfl, rfl⟩) (by rfl) ?_
    simp [h0', h3', h4', o2, o4, g16, g17, over, merge_nil, hideH_nil, Op.ocl, hlp, hcap, hap]
    refine callK.bx (b := 100000) 0 rfl (by kernel_rfl) (by simp [upd_app, h0']) (by simp [upd_app, merge_app, hideH_app]) (fr _) (by simp [upd_app]) (by simp) (R62 _ ho.1 3) rfl (by rfl) rfl ?_
    by_cases k : belowV (oneOp d).2 3 = 0
    · have hs := settleF_pend ⟨x.sure, ps⟩
      have hE' : drawO j (belowC (oneOp d).2 3) (settleF ⟨x.sure, ps⟩) = drawD c := by rw [← hE, drawO, if_pos k, hps]
      simp [k, h3', h4', o2]
      have hf : flt (.agg (Disk.ty.oc (settleF ⟨x.sure, ps⟩))) = true := by simpa [flt] using Disk.ty.flL (settleF ⟨x.sure, ps⟩)
      refine callK.ro 22 rfl (by kernel_rfl) (ys := [.agg (Disk.ty.cs ⟨x.sure, ps⟩)]) (by simp [roc_agg8, List.mapM_cons, List.mapM_nil, Doc.roc7, Op.roc7, upd_app, merge_app, hideH_app, o2, o3, o4, Disk.cse]) (R47 ⟨x.sure, ps⟩ hx2) hf (by simp [inst, instL, Disk.oce, upd_app, merge_app, hideH_app, g23, g24]; exact ⟨rfl, rfl⟩) rfl ?_
      simp [h3', h4', o2, over, hw]
      refine ⟨j, by omega, belowC (oneOp d).2 3, settleF ⟨x.sure, ps⟩, Disk.packL [0, 2, 3, 4] [100000, 2, 3] 3 23000 23001 (settleF ⟨x.sure, ps⟩) (by simp [upd_app]) (by simp [upd_app]) (by simp [upd_app]) (by decide) (by decide) (by decide) (by decide) (by decide) (by decide) (by simp [upd_app, menB, idfree, h0', h2', h3']) (by simp [upd_app, merge_app, hideH_app, k2, idfree, Cur.cs]) ?_⟩
      intro h' w1 w2
      refine ⟨belowC_ok ho.1 3, settleF_ok hx2, by simp only at hs; omega, hE', by simp [upd_app, h0'], by simp [upd_app, h2'], by simp [upd_app, h3'], by simp [upd_app], ?_, ?_, w1, fun b c1 c2 c3 => ?_, rfl⟩
      · have := w2 100000 (by decide); simpa [upd_app] using this
      · have := w2 2 (by decide); simpa [upd_app, merge_app, hideH_app, k2] using this
      · have := w2 b c3; simpa [c1, c2, c3] using this
    · have hE' : drawO j (belowC (oneOp d).2 3) ⟨x.sure, ps⟩ = drawD c := by rw [← hE, drawO, if_neg k, hps]
      simp [k, h3', h4', o2, hw]
      refine ⟨j, by omega, belowC (oneOp d).2 3, ⟨x.sure, ps⟩, Disk.packL [0, 2, 3, 4] [100000, 2, 3] 3 5000 17 ⟨x.sure, ps⟩ (by simp [upd_app, o2]) (by simp [upd_app, merge_app, hideH_app, o3]) (by simp [upd_app]) (by decide) (by decide) (by decide) (by decide) (by decide) (by decide) (by simp [upd_app, menB, idfree, h0', h2', h3']) (by simp [upd_app, merge_app, hideH_app, k2, idfree, Cur.cs]) ?_⟩
      intro h' w1 w2
      refine ⟨belowC_ok ho.1 3, hx2, by simp only; omega, hE', by simp [upd_app, h0'], by simp [upd_app, h2'], by simp [upd_app, h3'], by simp [upd_app], ?_, ?_, w1, fun b c1 c2 c3 => ?_, rfl⟩
      · have := w2 100000 (by decide); simpa [upd_app] using this
      · have := w2 2 (by decide); simpa [upd_app, merge_app, hideH_app, k2] using this
      · have := w2 b c3; simpa [c1, c2, c3] using this
def azAL : List ByteArray := [⟨#[97]⟩, ⟨#[122, 122]⟩, ⟨#[65]⟩]
def aeL : List ByteArray := [⟨#[97]⟩, ⟨#[]⟩]
def abeL : List ByteArray := [⟨#[97]⟩, ⟨#[98]⟩, ⟨#[]⟩]
def zO (i : Nat) : Op := ⟨1, ⟨#[122]⟩ ++ numT i, ⟨#[]⟩⟩
def zOs : Nat → List Op
  | 0 => []
  | n + 1 => zOs n ++ [zO n]
def moreO : Nat → Cur → Disk → Disk × Cur
  | 0, c, d => (d, belowC c 4)
  | n + 1, c, d => if (d.pend.length : Int) < 8 + belowV c 4 then moreO n (oneOp (belowC c 4)).2 ⟨d.sure, d.pend ++ [(oneOp (belowC c 4)).1]⟩ else (d, belowC c 4)
def bigT (c : Cur) : ByteArray := strOfNums (List.replicate (400 + belowV c 2).toNat 0)
def anyQ (d : Disk) (c1 : Cur) : Disk × Cur :=
  if belowV c1 10 = 0 then (⟨d.sure ++ [⟨pickS azAL (belowC c1 10) 3, bigT (belowC (belowC c1 10) 3)⟩], d.pend⟩, belowC (belowC (belowC c1 10) 3) 2)
  else if belowV c1 10 = 1 then (⟨d.sure, d.pend ++ [⟨belowV (belowC c1 10) 4, pickS aeL (belowC (belowC c1 10) 4) 2, pickS abeL (belowC (belowC (belowC c1 10) 4) 2) 3⟩]⟩, belowC (belowC (belowC (belowC c1 10) 4) 2) 3)
  else if belowV c1 10 = 2 then moreO 12 (belowC c1 10) d
  else if belowV c1 10 = 3 then (⟨d.sure, d.pend ++ zOs 6⟩, belowC c1 10)
  else (d, belowC c1 10)
def anyD (c : Cur) : Disk × Cur := anyQ (drawD c).1 (drawD c).2
theorem moreO_end (n : Nat) {c : Cur} {d : Disk} (h : ¬ (d.pend.length : Int) < 8 + belowV c 4) : moreO n c d = (d, belowC c 4) := by
  cases n with
  | zero => rfl
  | succ n => rw [moreO, if_neg h]
theorem zOs_len : ∀ k : Nat, (zOs k).length = k
  | 0 => rfl
  | k + 1 => by simp [zOs, zOs_len k]
/- 103: loop.example/g00464/spec.l22Any -/
def A103 : AC := (.seq (.ops [⟨(some 2), none, .w (.alloc [.em, .em])⟩])
  (.seq (.ops [⟨(some 5), none, .q (.mov (.t 0))⟩, ⟨(some 6), none, .c (.c (.clo 152 [])) [(.t 5)]⟩, ⟨(some 3), none, .w (.alloc [.em, .em])⟩, ⟨none, none, .w (.store 2 (.t 3) (.t 6))⟩])
  (.seq (.seq (.ops [⟨(some 7), none, .q (.mov (.t 0))⟩, ⟨(some 8), none, .c (.c (.clo 63 [])) [(.t 7), (.c (.sc (.int .i64 10)))]⟩])
  (.block 0 (.seq (.ops [⟨(some 10), none, .q (.bin .eql (.t 8) (.c (.sc (.int .i64 0))))⟩, ⟨(some 9), none, .q (.mov (.t 10))⟩])
  (.cond (.t 9) (.any [(⟨(some 11), none, .q (.fadr 0 (.t 3))⟩, []), (⟨(some 12), none, .q (.load false 1 (.t 11))⟩, [0]), (⟨(some 13), none, .q (.mov (.t 0))⟩, []), (⟨(some 14), none, .w (.bsl 1 3 [(.sc (.string ⟨#[]⟩)), (.sc (.string ⟨#[]⟩)), (.sc (.string ⟨#[]⟩))] [(0, 1, (.c (.sc (.string ⟨#[97]⟩)))), (1, 1, (.c (.sc (.string ⟨#[122, 122]⟩)))), (2, 1, (.c (.sc (.string ⟨#[65]⟩))))])⟩, []), (⟨(some 15), none, .c (.c (.clo 105 [])) [(.t 13), (.t 14)]⟩, [2, 3]), (⟨(some 16), none, .q (.mov (.t 0))⟩, []), (⟨(some 17), none, .c (.c (.clo 63 [])) [(.t 16), (.c (.sc (.int .i64 2)))]⟩, [5, 4]), (⟨(some 18), none, .q (.bin .add (.c (.sc (.int .i64 400))) (.t 17))⟩, [6]), (⟨(some 19), none, .w (.mk 1 1 [(.sc (.int .u8 0))] (.t 18) (.t 18))⟩, [7, 7]), (⟨(some 20), none, .q (.bstr (.t 19))⟩, [8]), (⟨(some 21), none, .w (.build [(.sc (.string ⟨#[]⟩)), (.sc (.string ⟨#[]⟩))] [(0, 1, (.t 15)), (1, 1, (.t 20))])⟩, [4, 9]), (⟨(some 22), none, .w (.bsl 2 1 [(.sc (.string ⟨#[]⟩)), (.sc (.string ⟨#[]⟩))] [(0, 2, (.t 21))])⟩, [10]), (⟨(some 23), none, .w (.app 2 32 false (.t 12) (.t 22))⟩, [1, 11, 6]), (⟨(some 24), none, .q (.fadr 0 (.t 3))⟩, [0, 1, 2, 3, 4, 5, 6, 7, 8, 9, 10, 11, 12]), (⟨none, none, .w (.store 1 (.t 24) (.t 23))⟩, [13, 12, 12, 0, 1, 2, 3, 4, 5, 6, 7, 8, 9, 10, 11, 12])])
  (.seq (.ops [⟨(some 26), none, .q (.bin .eql (.t 8) (.c (.sc (.int .i64 1))))⟩, ⟨(some 25), none, .q (.mov (.t 26))⟩])
  (.cond (.t 25) (.any [(⟨(some 27), none, .q (.fadr 1 (.t 3))⟩, []), (⟨(some 28), none, .q (.load false 1 (.t 27))⟩, [0]), (⟨(some 29), none, .q (.mov (.t 0))⟩, []), (⟨(some 30), none, .c (.c (.clo 63 [])) [(.t 29), (.c (.sc (.int .i64 4)))]⟩, [2]), (⟨(some 31), none, .q (.mov (.t 0))⟩, []), (⟨(some 32), none, .w (.bsl 1 2 [(.sc (.string ⟨#[]⟩)), (.sc (.string ⟨#[]⟩))] [(0, 1, (.c (.sc (.string ⟨#[97]⟩)))), (1, 1, (.c (.sc (.string ⟨#[]⟩))))])⟩, []), (⟨(some 33), none, .c (.c (.clo 105 [])) [(.t 31), (.t 32)]⟩, [4, 5, 3]), (⟨(some 34), none, .q (.mov (.t 0))⟩, []), (⟨(some 35), none, .w (.bsl 1 3 [(.sc (.string ⟨#[]⟩)), (.sc (.string ⟨#[]⟩)), (.sc (.string ⟨#[]⟩))] [(0, 1, (.c (.sc (.string ⟨#[97]⟩)))), (1, 1, (.c (.sc (.string ⟨#[98]⟩)))), (2, 1, (.c (.sc (.string ⟨#[]⟩))))])⟩, []), (⟨(some 36), none, .c (.c (.clo 105 [])) [(.t 34), (.t 35)]⟩, [7, 8, 6]), (⟨(some 37), none, .w (.build [(.sc (.int .i64 0)), (.sc (.string ⟨#[]⟩)), (.sc (.string ⟨#[]⟩))] [(0, 1, (.t 30)), (1, 1, (.t 33)), (2, 1, (.t 36))])⟩, [3, 6, 9]), (⟨(some 38), none, .w (.bsl 3 1 [(.sc (.int .i64 0)), (.sc (.string ⟨#[]⟩)), (.sc (.string ⟨#[]⟩))] [(0, 3, (.t 37))])⟩, [10]), (⟨(some 39), none, .w (.app 3 40 false (.t 28) (.t 38))⟩, [1, 11, 9]), (⟨(some 40), none, .q (.fadr 1 (.t 3))⟩, [0, 1, 2, 3, 4, 5, 6, 7, 8, 9, 10, 11, 12]), (⟨none, none, .w (.store 1 (.t 40) (.t 39))⟩, [13, 12, 12, 0, 1, 2, 3, 4, 5, 6, 7, 8, 9, 10, 11, 12])])
  (.seq (.ops [⟨(some 42), none, .q (.bin .eql (.t 8) (.c (.sc (.int .i64 2))))⟩, ⟨(some 41), none, .q (.mov (.t 42))⟩])
  (.cond (.t 41) (.block 1 (.loop (.seq (.seq (.any [(⟨(some 43), none, .q (.fadr 1 (.t 3))⟩, []), (⟨(some 44), none, .q (.load false 1 (.t 43))⟩, [0]), (⟨(some 45), none, .q (.llen (.t 44))⟩, [1]), (⟨(some 46), none, .q (.mov (.t 0))⟩, []), (⟨(some 47), none, .c (.c (.clo 63 [])) [(.t 46), (.c (.sc (.int .i64 4)))]⟩, [3]), (⟨(some 48), none, .q (.bin .add (.c (.sc (.int .i64 8))) (.t 47))⟩, [4]), (⟨(some 49), none, .q (.bin .lss (.t 45) (.t 48))⟩, [2, 5])])
  (.cond (.t 49) .skip
  (.exit 1)))
  (.block 2 (.any [(⟨(some 50), none, .q (.fadr 1 (.t 3))⟩, []), (⟨(some 51), none, .q (.load false 1 (.t 50))⟩, [0]), (⟨(some 52), none, .q (.mov (.t 0))⟩, []), (⟨(some 53), none, .c (.c (.clo 153 [])) [(.t 52)]⟩, [2]), (⟨(some 54), none, .w (.bsl 3 1 [(.sc (.int .i64 0)), (.sc (.string ⟨#[]⟩)), (.sc (.string ⟨#[]⟩))] [(0, 3, (.t 53))])⟩, [3]), (⟨(some 55), none, .w (.app 3 40 false (.t 51) (.t 54))⟩, [1, 4, 3]), (⟨(some 56), none, .q (.fadr 1 (.t 3))⟩, [0, 1, 2, 3, 4, 5]), (⟨none, none, .w (.store 1 (.t 56) (.t 55))⟩, [6, 5, 5, 0, 1, 2, 3, 4, 5])])))))
  (.seq (.ops [⟨(some 58), none, .q (.bin .eql (.t 8) (.c (.sc (.int .i64 3))))⟩, ⟨(some 57), none, .q (.mov (.t 58))⟩])
  (.cond (.t 57) (.seq (.ops [⟨(some 4), none, .q (.mov (.c (.sc (.int .i64 0))))⟩])
  (.block 3 (.loop (.seq (.seq (.ops [⟨(some 59), none, .q (.mov (.t 4))⟩, ⟨(some 60), none, .q (.bin .lss (.t 59) (.c (.sc (.int .i64 6))))⟩])
  (.cond (.t 60) .skip
  (.exit 3)))
  (.seq (.block 4 (.any [(⟨(some 63), none, .q (.fadr 1 (.t 3))⟩, []), (⟨(some 64), none, .q (.load false 1 (.t 63))⟩, [0]), (⟨(some 65), none, .q (.mov (.t 4))⟩, []), (⟨(some 66), none, .c (.c (.clo 132 [])) [(.t 65)]⟩, [2]), (⟨(some 67), none, .q (.bin .add (.c (.sc (.string ⟨#[122]⟩))) (.t 66))⟩, [3]), (⟨(some 68), none, .w (.build [(.sc (.int .i64 0)), (.sc (.string ⟨#[]⟩)), (.sc (.string ⟨#[]⟩))] [(0, 1, (.c (.sc (.int .i64 1)))), (1, 1, (.t 67))])⟩, [4]), (⟨(some 69), none, .w (.bsl 3 1 [(.sc (.int .i64 0)), (.sc (.string ⟨#[]⟩)), (.sc (.string ⟨#[]⟩))] [(0, 3, (.t 68))])⟩, [5]), (⟨(some 70), none, .w (.app 3 40 false (.t 64) (.t 69))⟩, [1, 6, 3]), (⟨(some 71), none, .q (.fadr 1 (.t 3))⟩, [0, 1, 2, 3, 4, 5, 6, 7]), (⟨none, none, .w (.store 1 (.t 71) (.t 70))⟩, [8, 7, 7, 0, 1, 2, 3, 4, 5, 6, 7])]))
  (.ops [⟨(some 61), none, .q (.mov (.t 4))⟩, ⟨(some 62), none, .q (.bin .add (.t 61) (.c (.sc (.int .i64 1))))⟩, ⟨(some 4), none, .q (.mov (.t 62))⟩]))))))
  .skip))))))))))
  (.seq (.ops [⟨(some 72), none, .q (.load true 2 (.t 3))⟩, ⟨none, none, .w (.store 2 (.t 2) (.t 72))⟩])
  .ret))))
theorem K103 : Try.f103.body.bind (comp Try.prog) = some A103 ∧ Try.f103.ntmps = 73 ∧ Try.f103.results.toList.mapM (resB Try.prog) = some [.load true 2 (.t 2)] := ⟨by kernel_rfl, by kernel_rfl, by kernel_rfl⟩
set_option maxHeartbeats 8000000 in
set_option maxRecDepth 100000 in
theorem R103 (c : Cur) (hc : c.ok) : Ret Try.prog 103 [.bx c.cs] (.agg (Disk.ty.oc (anyD c).1)) [.bx (anyD c).2.cs] := by
  have fr : ∀ c : Cur, idfree.idfreeL c.cs = true := fun c => rfl
  obtain ⟨hc1, hdo, hdl⟩ := drawD_ok hc
  have hr := R152 c hc
  obtain ⟨x, hx⟩ : ∃ x, x = (drawD c).1 := ⟨_, rfl⟩
  obtain ⟨c1, hc1e⟩ : ∃ c1, c1 = (drawD c).2 := ⟨_, rfl⟩
  have hA : anyD c = anyQ x c1 := by rw [anyD, hx, hc1e]
  rw [hA]
  rw [← hx] at hdo hdl hr
  rw [← hc1e] at hc1 hr
  have hc2 := belowC_ok hc1 10
  obtain ⟨c2, hc2e⟩ : ∃ c2, c2 = belowC c1 10 := ⟨_, rfl⟩
  have hsl : x.sure.length * 32 ≤ 140737488351232 := hdo.1.1
  have hbel := R63 _ hc1 10
  rw [← hc2e] at hc2 hbel
  refine Ret.run Try.func103 K103 (by simp) rfl rfl 900 ?_
  simp [A103, iniρ, over]
  refine callK.bx (b := 100000) 6 rfl (by kernel_rfl) (by simp [upd_app]) (by simp [upd_app]) (fr _) (by simp [upd_app]) (by simp) hr rfl (by simp [inst, instL, Disk.oce, upd_app]; exact ⟨rfl, rfl⟩) rfl ?_
  simp [over]
  refine callK.bx (b := 100000) 0 rfl (by kernel_rfl) (by simp [upd_app]) (by simp [upd_app]) (fr _) (by simp [upd_app]) (by simp) hbel rfl (by rfl) rfl ?_
  by_cases k0 : belowV c1 10 = 0
  case pos =>
    have hQ : anyQ x c1 = (⟨x.sure ++ [⟨pickS azAL c2 3, bigT (belowC c2 3)⟩], x.pend⟩, belowC (belowC c2 3) 2) := by rw [anyQ, if_pos k0, hc2e]
    rw [hQ]
    have hc3 := belowC_ok hc2 3
    obtain ⟨q1, q2⟩ := belowV_rng (belowC c2 3) (n := 2) (by omega)
    obtain ⟨v, hv⟩ : ∃ v : Nat, belowV (belowC c2 3) 2 = v := ⟨(belowV (belowC c2 3) 2).toNat, by omega⟩
    rw [hv] at q1 q2
    obtain ⟨w, hvw⟩ : ∃ w : Nat, (400 : Int) + (v : Int) = w := ⟨400 + v, rfl⟩
    have hw : IntKind.i64.wrap (w : Int) = w := wrap_i64 (by omega) (by omega)
    have hz1 : (w : Int) ≤ 281474976710656 := by omega
    have hz2 : (w : Int) ≤ 9223372036854775807 := by omega
    have r1 : Ret Try.prog 105 [.bx c2.cs, .own (rows Ty.str.oc azAL) 3 1] (.sc (.string (pickS azAL c2 3))) [.bx (belowC c2 3).cs, .un] := R105 c2 hc2 azAL (by decide)
    have hcap : (x.sure.length + 1) * 32 ≤ 140737488355328 := by omega
    have hap : rows Doc.ty.oc x.sure ++ [.sc (.string (pickS azAL c2 3)), .sc (.string (strOfNums (List.replicate w 0)))] = rows Doc.ty.oc (x.sure ++ [⟨pickS azAL c2 3, bigT (belowC c2 3)⟩]) := by rw [rows_append]; simp [rows_cons, rows_nil, Doc.oce, bigT, hv, hvw]
    obtain ⟨ns, hns⟩ : ∃ ns, ns = x.sure ++ [(⟨pickS azAL c2 3, bigT (belowC c2 3)⟩ : Doc)] := ⟨_, rfl⟩
    have hnl : x.sure.length + 1 = ns.length := by rw [hns]; simp
    rw [← hns] at hap ⊢
    rw [hnl] at hcap
    simp [k0]
    refine T.textW 400 [([], [14, 100000, 19, 22]), ([], [14, 100000, 19, 22]), ([], [14]), ([14], []), ([100000, 14], []), ([], [14, 100000]), ([100000], []), ([], []), ([19], []), ([], []), ([], []), ([22], []), ([7000, 22, 23], []), ([], []), ([3], [])] mixed (by kernel_rfl) (by kernel_rfl) ?_
    simp [over]
    refine callWK.bm 100000 14 (len := 3) (sz := 1) rfl (by kernel_rfl) (by simp [upd_app]) (by simp [upd_app, hideH_app]) (fr _) (by simp [upd_app]) (by simp [upd_app, hideH_app]; rfl) (by rfl) (by rfl) (by decide) r1 rfl (by decide) ?_
    simp [over, merge_nil, hideH_nil]
    refine callWK.bx (b := 100000) 0 rfl (by kernel_rfl) (by simp [upd_app]) (by simp [upd_app, hideH_app, merge_app]) (fr _) (by simp [upd_app]) (by simp) (R63 _ hc3 2) rfl (by rfl) (by rfl) ?_
    simp [hv, hvw, hw, hz1, hz2, over, merge_nil, hideH_nil]
    rw [bytesRep (by simp [upd_app, hideH_app, merge_app])]
    simp [over, merge_nil, hideH_nil, hcap, hnl, Doc.ocl, hap]
    simp [k0, ex1, over, Doc.ocl, Doc.frL, Op.ocl, Op.frL, fr, ioPos1, Disk.oce]
  by_cases k1 : belowV c1 10 = 1
  case pos =>
    have hQ : anyQ x c1 = (⟨x.sure, x.pend ++ [⟨belowV c2 4, pickS aeL (belowC c2 4) 2, pickS abeL (belowC (belowC c2 4) 2) 3⟩]⟩, belowC (belowC (belowC c2 4) 2) 3) := by rw [anyQ, if_neg k0, if_pos k1, hc2e]
    rw [hQ]
    have hc3 := belowC_ok hc2 4
    have r1 : Ret Try.prog 105 [.bx (belowC c2 4).cs, .own (rows Ty.str.oc aeL) 2 1] (.sc (.string (pickS aeL (belowC c2 4) 2))) [.bx (belowC (belowC c2 4) 2).cs, .un] := R105 _ hc3 aeL (by decide)
    have r2 : Ret Try.prog 105 [.bx (belowC (belowC c2 4) 2).cs, .own (rows Ty.str.oc abeL) 3 1] (.sc (.string (pickS abeL (belowC (belowC c2 4) 2) 3))) [.bx (belowC (belowC (belowC c2 4) 2) 3).cs, .un] := R105 _ (belowC_ok hc3 2) abeL (by decide)
    obtain ⟨ns, hns⟩ : ∃ ns, ns = x.pend ++ [(⟨belowV c2 4, pickS aeL (belowC c2 4) 2, pickS abeL (belowC (belowC c2 4) 2) 3⟩ : Op)] := ⟨_, rfl⟩
    have hnl : x.pend.length + 1 = ns.length := by rw [hns]; simp
    have hcap : ns.length * 40 ≤ 140737488355328 := Nat.le_trans (Nat.mul_le_mul_right 40 (show ns.length ≤ 6 by omega)) (by decide)
    have hap : rows Op.ty.oc x.pend ++ [.sc (.int .i64 (belowV c2 4)), .sc (.string (pickS aeL (belowC c2 4) 2)), .sc (.string (pickS abeL (belowC (belowC c2 4) 2) 3))] = rows Op.ty.oc ns := by rw [hns, rows_append]; simp [rows_cons, rows_nil, Op.oce]
    rw [← hns]
    simp [k0, k1]
    refine T.textW 400 [([], [100000, 32, 35, 38]), ([], [100000, 32, 35, 38]), ([], [32, 35]), ([100000], [32, 35]), ([], [100000, 32, 35]), ([32], [100000, 35]), ([100000, 32], [35]), ([], [100000, 32, 35]), ([35], [100000, 32]), ([100000, 35], []), ([], []), ([38], []), ([7001, 38, 39], []), ([], []), ([3], [])] mixed (by kernel_rfl) (by kernel_rfl) ?_
    simp [over]
    refine callWK.bx (b := 100000) 0 rfl (by kernel_rfl) (by simp [upd_app]) (by simp [upd_app, hideH_app, merge_app]) (fr _) (by simp [upd_app]) (by simp) (R63 _ hc2 4) rfl (by rfl) (by rfl) ?_
    simp [over, merge_nil, hideH_nil]
    refine callWK.bm 100000 32 (len := 2) (sz := 1) rfl (by kernel_rfl) (by simp [upd_app]) (by simp [upd_app, hideH_app, merge_app]) (fr _) (by simp [upd_app]) (by simp [upd_app, hideH_app, merge_app]; rfl) (by rfl) (by rfl) (by decide) r1 rfl (by decide) ?_
    simp [over, merge_nil, hideH_nil]
    refine callWK.bm 100000 35 (len := 3) (sz := 1) rfl (by kernel_rfl) (by simp [upd_app]) (by simp [upd_app, hideH_app, merge_app]) (fr _) (by simp [upd_app]) (by simp [upd_app, hideH_app, merge_app]; rfl) (by rfl) (by rfl) (by decide) r2 rfl (by decide) ?_
    simp [over, merge_nil, hideH_nil, hcap, hnl, Op.ocl, hap]
    simp [k0, k1, ex1, over, Doc.ocl, Doc.frL, Op.ocl, Op.frL, fr, ioPos1, Disk.oce]
  by_cases k2 : belowV c1 10 = 2
  case pos =>
    have hQ : anyQ x c1 = moreO 12 c2 x := by rw [anyQ, if_neg k0, if_neg k1, if_pos k2, hc2e]
    rw [hQ]
    simp [k0, k1, k2]
    refine T.ex (I := fun s => s.ρ 0 = .ref 100000 0 ∧ s.ρ 2 = .ref 2 0 ∧ s.ρ 3 = .ref 3 0 ∧ s.h 100000 = some (some c2.cs) ∧ s.h 2 = some (some [.em, .em]) ∧ s.h 3 = some (some (Disk.ty.oc x)) ∧ (∀ b, b ≠ 100000 → b ≠ 2 → b ≠ 3 → s.h b = none) ∧ s.n = 73)
      (Disk.packL [0, 2, 3] [100000, 2, 3] 3 7000 7001 x (by simp [upd_app]) (by simp [upd_app]) (by simp [upd_app]) (by decide) (by decide) (by decide) (by decide) (by decide) (by decide) (by simp [upd_app, menB, idfree]) (by simp [upd_app, idfree, Cur.cs]) ?_) ?_
    · intro h' w1 w2
      refine ⟨by simp [upd_app], by simp [upd_app], by simp [upd_app], ?_, ?_, w1, fun b b1 b2 b3 => ?_, rfl⟩
      · have := w2 100000 (by decide); simpa [upd_app] using this
      · have := w2 2 (by decide); simpa [upd_app] using this
      · have := w2 b b3; simpa [b1, b2, b3] using this
    rintro ⟨ρ0, h0, n0⟩ ⟨i0, i2, i3, j1, j2, j3, jf, rfl⟩
    simp only at i0 i2 i3 j1 j2 j3 jf
    refine T.rounds (μ := fun i : Nat × Cur × Disk => i.1)
      (fun i s => i.2.1.ok ∧ i.2.2.pend.length ≤ 11 ∧ 12 ≤ i.1 + i.2.2.pend.length ∧ moreO i.1 i.2.1 i.2.2 = moreO 12 c2 x ∧ s.ρ 0 = .ref 100000 0 ∧ s.ρ 2 = .ref 2 0 ∧ s.ρ 3 = .ref 3 0 ∧ s.h 100000 = some (some i.2.1.cs) ∧
        s.h 2 = some (some [.em, .em]) ∧ s.h 3 = some (some (Disk.ty.oc i.2.2)) ∧ (∀ b, b ≠ 100000 → b ≠ 2 → b ≠ 3 → s.h b = none) ∧ s.n = 73) (12, c2, x) ⟨hc2, by simp only; omega, by simp only; omega, rfl, i0, i2, i3, j1, j2, j3, jf, rfl⟩ ?_
    clear i0 i2 i3 j1 j2 j3 jf
    rintro ⟨j, d, y⟩ ⟨ρ, hh0, n⟩ ⟨hd, hyl, hj, hE, h0', h2', h3', kc0, k20, k30, kf, rfl⟩
    simp only at hd hyl hj hE h0' h2' h3' kc0 k20 k30 kf
    obtain ⟨hh, o1, o2, o3, o4, o5⟩ := Disk.openB (ρ := ρ) (n := 73) 3 5000 y k30 (kf _ (by decide) (by decide) (by decide)) (kf _ (by decide) (by decide) (by decide)) (by decide)
    refine T.le o1 ?_
    have kc : hh 100000 = some (some d.cs) := by rw [o5 100000 (by decide) (by decide) (by decide), kc0]
    have k22 : hh 2 = some (some [.em, .em]) := by rw [o5 2 (by decide) (by decide) (by decide), k20]
    have bf : ∀ b, b ≠ 100000 → b ≠ 2 → b ≠ 3 → b ≠ 5000 → b ≠ 5001 → hh b = none := fun b c1 c2 c3 c4 c5 => by rw [o5 b c3 c4 c5, kf b c1 c2 c3]
    rw [show 5000 + 1 = 5001 from rfl] at o2 o4
    have g54 := bf 54 (by decide) (by decide) (by decide) (by decide) (by decide)
    have g55 := bf 55 (by decide) (by decide) (by decide) (by decide) (by decide)
    obtain ⟨q1, q2⟩ := belowV_rng d (n := 4) (by omega)
    obtain ⟨v, hv⟩ : ∃ v : Nat, belowV d 4 = v := ⟨(belowV d 4).toNat, by omega⟩
    rw [hv] at q1 q2
    have hw : IntKind.i64.wrap (8 + (v : Int)) = 8 + v := wrap_i64 (by omega) (by omega)
    have hd1 := belowC_ok hd 4
    refine run_ok (n := 400) ?_
    refine T.textW 400 [([], [100000]), ([], [100000]), ([], [100000]), ([], []), ([100000], []), ([], []), ([], [])] mixed (by kernel_rfl) (by kernel_rfl) ?_
    simp [h0', h3', o2, over, merge_nil, hideH_nil]
    refine callWK.bx (b := 100000) 0 rfl (by kernel_rfl) (by simp [upd_app, h0']) (by simp [upd_app, hideH_app, merge_app, kc]) (fr _) (by simp [upd_app]) (by simp) (R63 _ hd 4) rfl (by rfl) (by rfl) ?_
    by_cases lt : (y.pend.length : Int) < 8 + (v : Int)
    case neg =>
      have hE2 : moreO 12 c2 x = (y, belowC d 4) := by rw [← hE]; exact moreO_end j (by rw [hv]; exact lt)
      rw [hE2]
      simp [h0', h3', o2, over, merge_nil, hideH_nil, hv, hw, lt]
      refine T.on 400 ?_
      simp [h0', h2', h3', o2, o3, o4, k22, k0, k1, k2, over, ex1, Doc.ocl, Doc.frL, Op.ocl, Op.frL, fr, ioPos1, Disk.oce]
    cases j with
    | zero => omega
    | succ j =>
    have ho := oneOp_ok hd1
    obtain ⟨ps, hps⟩ : ∃ ps, ps = y.pend ++ [(oneOp (belowC d 4)).1] := ⟨_, rfl⟩
    have hlp : y.pend.length + 1 = ps.length := by rw [hps]; simp
    have hcap : ps.length * 40 ≤ 140737488355328 := Nat.le_trans (Nat.mul_le_mul_right 40 (show ps.length ≤ 12 by omega)) (by decide)
    have hap : rows Op.ty.oc y.pend ++ [.sc (.int .i64 (oneOp (belowC d 4)).1.kind), .sc (.string (oneOp (belowC d 4)).1.a), .sc (.string (oneOp (belowC d 4)).1.b)] = rows Op.ty.oc ps := by rw [hps, rows_append]; simp [rows_cons, rows_nil, Op.oce]
    have hE' : moreO j (oneOp (belowC d 4)).2 ⟨y.sure, ps⟩ = moreO 12 c2 x := by rw [← hE, moreO, if_pos (by rw [hv]; exact lt), hps]
    simp [h0', h3', o2, over, merge_nil, hideH_nil, hv, hw, lt]
    refine T.textW 400 [([], [100000, 54]), ([], [100000, 54]), ([], []), ([100000], []), ([54], []), ([5001, 54, 55], []), ([], []), ([3], [])] mixed (by kernel_rfl) (by kernel_rfl) ?_
    simp [h0', h3', o2, over, merge_nil, hideH_nil]
    refine callWK.bx (b := 100000) 53 rfl (by kernel_rfl) (by simp [upd_app, h0']) (by simp [upd_app, hideH_app, merge_app, kc]) (fr _) (by simp) (by simp) (R153 _ hd1) rfl (by simp [inst, instL, Op.oce]; exact ⟨rfl, rfl⟩) (by rfl) ?_
    simp [h0', h3', o2, o4, g54, g55, over, merge_nil, hideH_nil, Op.ocl, hlp, hcap, hap]
    refine ⟨j, by omega, (oneOp (belowC d 4)).2, ⟨y.sure, ps⟩, Disk.packL [0, 2, 3] [100000, 2, 3] 3 5000 55 ⟨y.sure, ps⟩ (by simp [upd_app, o2]) (by simp [upd_app, merge_app, hideH_app, o3]) (by simp [upd_app]) (by decide) (by decide) (by decide) (by decide) (by decide) (by decide) (by simp [upd_app, menB, idfree, h0', h2', h3']) (by simp [upd_app, merge_app, hideH_app, k22, idfree, Cur.cs]) ?_⟩
    intro h' w1 w2
    refine ⟨ho.1, by simp only; omega, by simp only; omega, hE', by simp [upd_app, h0'], by simp [upd_app, h2'], by simp [upd_app, h3'], ?_, ?_, w1, fun b c1 c2 c3 => ?_, rfl⟩
    · have := w2 100000 (by decide); simpa [upd_app] using this
    · have := w2 2 (by decide); simpa [upd_app, merge_app, hideH_app, k22] using this
    · have := w2 b c3; simpa [c1, c2, c3] using this
  by_cases k3 : belowV c1 10 = 3
  case pos =>
    have hQ : anyQ x c1 = (⟨x.sure, x.pend ++ zOs 6⟩, c2) := by rw [anyQ, if_neg k0, if_neg k1, if_neg k2, if_pos k3, hc2e]
    rw [hQ]
    simp [k0, k1, k2, k3]
    refine T.ex (I := fun s => s.ρ 0 = .ref 100000 0 ∧ s.ρ 2 = .ref 2 0 ∧ s.ρ 3 = .ref 3 0 ∧ s.ρ 4 = .sc (.int .i64 0) ∧ s.h 100000 = some (some c2.cs) ∧ s.h 2 = some (some [.em, .em]) ∧ s.h 3 = some (some (Disk.ty.oc x)) ∧ (∀ b, b ≠ 100000 → b ≠ 2 → b ≠ 3 → s.h b = none) ∧ s.n = 73)
      (Disk.packL [0, 2, 3, 4] [100000, 2, 3] 3 7000 7001 x (by simp [upd_app]) (by simp [upd_app]) (by simp [upd_app]) (by decide) (by decide) (by decide) (by decide) (by decide) (by decide) (by simp [upd_app, menB, idfree]) (by simp [upd_app, idfree, Cur.cs]) ?_) ?_
    · intro h' w1 w2
      refine ⟨by simp [upd_app], by simp [upd_app], by simp [upd_app], by simp [upd_app], ?_, ?_, w1, fun b b1 b2 b3 => ?_, rfl⟩
      · have := w2 100000 (by decide); simpa [upd_app] using this
      · have := w2 2 (by decide); simpa [upd_app] using this
      · have := w2 b b3; simpa [b1, b2, b3] using this
    rintro ⟨ρ0, h0, n0⟩ ⟨i0, i2, i3, i4, j1, j2, j3, jf, rfl⟩
    simp only at i0 i2 i3 i4 j1 j2 j3 jf
    refine T.rounds (μ := fun j : Nat => 6 - j)
      (fun j s => j ≤ 6 ∧ s.ρ 0 = .ref 100000 0 ∧ s.ρ 2 = .ref 2 0 ∧ s.ρ 3 = .ref 3 0 ∧ s.ρ 4 = .sc (.int .i64 j) ∧ s.h 100000 = some (some c2.cs) ∧
        s.h 2 = some (some [.em, .em]) ∧ s.h 3 = some (some (Disk.ty.oc ⟨x.sure, x.pend ++ zOs j⟩)) ∧ (∀ b, b ≠ 100000 → b ≠ 2 → b ≠ 3 → s.h b = none) ∧ s.n = 73) 0 ⟨by omega, i0, i2, i3, i4, j1, j2, by simpa [zOs] using j3, jf, rfl⟩ ?_
    clear i0 i2 i3 i4 j1 j2 j3 jf
    rintro j ⟨ρ, hh0, n⟩ ⟨hj, h0', h2', h3', h4', kc0, k20, k30, kf, rfl⟩
    simp only at hj h0' h2' h3' h4' kc0 k20 k30 kf
    obtain ⟨ys, hys⟩ : ∃ ys, ys = x.pend ++ zOs j := ⟨_, rfl⟩
    rw [← hys] at k30
    have hyl : ys.length = x.pend.length + j := by rw [hys]; simp [zOs_len]
    obtain ⟨hh, o1, o2, o3, o4, o5⟩ := Disk.openB (ρ := ρ) (n := 73) 3 5000 ⟨x.sure, ys⟩ k30 (kf _ (by decide) (by decide) (by decide)) (kf _ (by decide) (by decide) (by decide)) (by decide)
    refine T.le o1 ?_
    have kc : hh 100000 = some (some c2.cs) := by rw [o5 100000 (by decide) (by decide) (by decide), kc0]
    have k22 : hh 2 = some (some [.em, .em]) := by rw [o5 2 (by decide) (by decide) (by decide), k20]
    have bf : ∀ b, b ≠ 100000 → b ≠ 2 → b ≠ 3 → b ≠ 5000 → b ≠ 5001 → hh b = none := fun b c1 c2 c3 c4 c5 => by rw [o5 b c3 c4 c5, kf b c1 c2 c3]
    rw [show 5000 + 1 = 5001 from rfl] at o2 o4
    simp only at o2 o3 o4
    have g69 := bf 69 (by decide) (by decide) (by decide) (by decide) (by decide)
    have g70 := bf 70 (by decide) (by decide) (by decide) (by decide) (by decide)
    refine run_ok (n := 400) ?_
    by_cases h6 : j = 6
    · subst h6
      rw [← hys]
      simp [h4']
      refine T.on 400 ?_
      simp [h0', h2', h3', o2, o3, o4, k22, kc, k0, k1, k2, k3, over, ex1, Doc.ocl, Doc.frL, Op.ocl, Op.frL, fr, ioPos1, Disk.oce]
    have hlt : (j : Int) < 6 := by omega
    have hw : IntKind.i64.wrap ((j : Int) + 1) = j + 1 := wrap_i64 (by omega) (by omega)
    obtain ⟨ps, hps⟩ : ∃ ps, ps = ys ++ [zO j] := ⟨_, rfl⟩
    have hlp : ys.length + 1 = ps.length := by rw [hps]; simp
    have hcap : ps.length * 40 ≤ 140737488355328 := Nat.le_trans (Nat.mul_le_mul_right 40 (show ps.length ≤ 12 by omega)) (by decide)
    have hap : rows Op.ty.oc ys ++ [.sc (.int .i64 1), .sc (.string (⟨#[122]⟩ ++ numT j)), .sc (.string ⟨#[]⟩)] = rows Op.ty.oc ps := by rw [hps, rows_append]; simp [rows_cons, rows_nil, Op.oce, zO]
    have hsz : (⟨#[122]⟩ : ByteArray).size + (numT j).size ≤ 9223372036854775807 := by
      have := numT_size j
      show 1 + _ ≤ _
      omega
    simp [h4', hlt]
    refine T.textW 400 [([], [69]), ([], [69]), ([], []), ([], []), ([], []), ([], []), ([69], []), ([5001, 69, 70], []), ([], []), ([3], [])] mixed (by kernel_rfl) (by kernel_rfl) ?_
    simp [h0', h3', h4', o2, over, merge_nil, hideH_nil]
    refine callWK.ro 0 rfl (by kernel_rfl) (by simp [roc_sc, h4']) (R132 j (by omega)) rfl rfl (by rfl) ?_
    simp [h0', h3', h4', o2, o4, g69, g70, over, merge_nil, hideH_nil, hlp, hcap, hsz, Op.ocl, hw, hap]
    refine ⟨j + 1, by omega, Disk.packL [0, 2, 3, 4] [100000, 2, 3] 3 5000 70 ⟨x.sure, ps⟩ (by simp [upd_app, o2]) (by simp [upd_app, merge_app, hideH_app, o3]) (by simp [upd_app]) (by decide) (by decide) (by decide) (by decide) (by decide) (by decide) (by simp [upd_app, menB, idfree, h0', h2', h3']) (by simp [upd_app, merge_app, hideH_app, k22, kc, idfree, Cur.cs]) ?_⟩
    intro h' w1 w2
    refine ⟨by omega, by simp [upd_app, h0'], by simp [upd_app, h2'], by simp [upd_app, h3'], by simp [upd_app, hw], ?_, ?_, ?_, fun b c1 c2 c3 => ?_, rfl⟩
    · have := w2 100000 (by decide); simpa [upd_app, merge_app, hideH_app, kc] using this
    · have := w2 2 (by decide); simpa [upd_app, merge_app, hideH_app, k22] using this
    · show h' 3 = _
      rw [w1, hps, hys, List.append_assoc]; rfl
    · have := w2 b c3; simpa [c1, c2, c3] using this
  have hQ : anyQ x c1 = (x, c2) := by rw [anyQ, if_neg k0, if_neg k1, if_neg k2, if_neg k3, hc2e]
  rw [hQ]
  simp [k0, k1, k2, k3, over, ex1, Doc.ocl, Doc.frL, Op.ocl, Op.frL, fr, ioPos1, Disk.oce]
theorem bigT_size (c : Cur) : (bigT c).size ≤ 401 := by
  obtain ⟨q1, q2⟩ := belowV_rng c (n := 2) (by omega)
  simp only [bigT, strOfNums_size, List.length_replicate]
  omega
theorem moreO_ok : ∀ (n : Nat) (c : Cur) (d : Disk), c.ok → Disk.ty.ok d → d.pend.length ≤ 11 → (moreO n c d).2.ok ∧ Disk.ty.ok (moreO n c d).1
  | 0, c, d, hc, hd, _ => ⟨belowC_ok hc 4, hd⟩
  | n + 1, c, d, hc, hd, hl => by
    have h1 := oneOp_ok (belowC_ok hc 4)
    rw [moreO]
    split
    · rename_i lt
      obtain ⟨q1, q2⟩ := belowV_rng c (n := 4) (by omega)
      exact moreO_ok n _ _ h1.1 (snoc_ok hd h1.2 (by omega)) (by simp; omega)
    · exact ⟨belowC_ok hc 4, hd⟩
theorem zO_ok (i : Nat) (h : i ≤ 100) : Op.ty.ok (zO i) := by
  have := numT_size i
  refine ⟨one_ok, ?_, ?_, trivial⟩
  · show (⟨#[122]⟩ ++ numT i : ByteArray).size ≤ _
    rw [ByteArray.size_append]
    show 1 + _ ≤ _
    omega
  · show (0 : Nat) ≤ _
    omega
theorem app_ok {x : Disk} {l : List Op} (hx : Disk.ty.ok x) (hl : x.pend.length + l.length ≤ 20) (h : ∀ o ∈ l, Op.ty.ok o) : Disk.ty.ok ⟨x.sure, x.pend ++ l⟩ := by
  refine ⟨hx.1, ⟨?_, fun y hy => ?_⟩, trivial⟩
  · show (x.pend ++ l).length * _ ≤ _
    rw [List.length_append]
    exact Nat.le_trans (Nat.mul_le_mul_right _ hl) (by decide)
  · rcases List.mem_append.1 hy with hy | hy
    · exact hx.2.1.2 y hy
    · exact h y hy
theorem zOs_ok : ∀ n : Nat, n ≤ 100 → ∀ o ∈ zOs n, Op.ty.ok o
  | 0, _ => by simp [zOs]
  | n + 1, h => by
    intro o ho
    rw [zOs] at ho
    rcases List.mem_append.1 ho with ho | ho
    · exact zOs_ok n (by omega) o ho
    · simp at ho; subst ho; exact zO_ok n (by omega)
theorem settleF_sure (d : Disk) : (settleF d).sure.length ≤ max d.sure.length 6 := by
  unfold settleF
  split
  · exact docsF_len _ _ _ _
  · exact Nat.le_max_left _ _
theorem drawO_sure : ∀ (n : Nat) (c : Cur) (d : Disk), d.sure.length ≤ 6 → (drawO n c d).1.sure.length ≤ 6
  | 0, _, _, h => h
  | n + 1, c, d, h => by
    rw [drawO]
    split
    · exact drawO_sure n _ _ (by have := settleF_sure ⟨d.sure, d.pend ++ [(oneOp c).1]⟩; simp only at this; omega)
    · exact drawO_sure n _ _ h
theorem anyQ_ok {x : Disk} {c : Cur} (hc : c.ok) (hx : Disk.ty.ok x) (hp : x.pend.length ≤ 5) (hs : x.sure.length ≤ 6) : (anyQ x c).2.ok ∧ Disk.ty.ok (anyQ x c).1 := by
  have h1 := belowC_ok hc 10
  unfold anyQ
  split
  · refine ⟨belowC_ok (belowC_ok h1 3) 2, ⟨?_, fun y hy => ?_⟩, hx.2⟩
    · show (x.sure ++ [_]).length * _ ≤ _
      rw [List.length_append]
      exact Nat.le_trans (Nat.mul_le_mul_right _ (show x.sure.length + [_].length ≤ 7 by simpa using hs)) (by decide)
    · rcases List.mem_append.1 hy with hy | hy
      · exact hx.1.2 y hy
      · simp at hy; subst hy
        exact ⟨Nat.le_trans (pick_size (n := 5) (by decide) _ _) (by decide), Nat.le_trans (bigT_size _) (by decide), trivial⟩
  · split
    · obtain ⟨q1, q2⟩ := belowV_rng (belowC c 10) (n := 4) (by omega)
      refine ⟨belowC_ok (belowC_ok (belowC_ok h1 4) 2) 3, app_ok hx (by simp; omega) (fun o ho => ?_)⟩
      simp at ho; subst ho
      exact ⟨⟨by simp only; omega, by simp only; omega⟩, Nat.le_trans (pick_size (n := 5) (by decide) _ _) (by decide), Nat.le_trans (pick_size (n := 5) (by decide) _ _) (by decide), trivial⟩
    · split
      · exact moreO_ok 12 _ _ h1 hx (by omega)
      · split
        · exact ⟨h1, app_ok hx (by rw [zOs_len]; omega) (zOs_ok 6 (by omega))⟩
        · exact ⟨h1, hx⟩
theorem anyD_ok {c : Cur} (hc : c.ok) : (anyD c).2.ok ∧ Disk.ty.ok (anyD c).1 := by
  obtain ⟨h1, h2, h3⟩ := drawD_ok hc
  exact anyQ_ok h1 h2 h3 (drawO_sure _ _ _ (by simp))
end Go.Proofs.Ytadoadomogceiaa.Am
