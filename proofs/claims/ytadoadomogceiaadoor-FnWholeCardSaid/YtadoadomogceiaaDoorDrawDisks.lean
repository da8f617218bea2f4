/- The functions of the program, each by its contract: DrawDisks; no condition. -/
import Derived.Test.YtadoadomogceiaaDoorProg
import Derived.Test.YtadoadomogceiaaDoorAmZ
import Derived.Test.YtadoadomogceiaaDoorAmP
import Derived.Test.YtadoadomogceiaaDoorDraw
import Derived.Test.YtadoadomogceiaaDoorNum
import Derived.Test.YtadoadomogceiaaDoorDocs6
import Derived.KernelRfl
namespace Go.Proofs.YtadoadomogceiaaDoor.Am
open Go Go.Proofs
set_option linter.unusedSimpArgs false
set_option linter.unusedVariables false
attribute [local congr] T_congr callK_congr callWK_congr
attribute [local simp] run_nil run_op0 run_opg run_seq run_cond run_block run_ret run_skip run_skip_after run_skip_blk run_exit run_exit_after run_exit_blk run_loop run_any runS_nil runS_op0 runS_opg runW_nil runW_op0 runW_opg exec_q exec_w exec_c exec_n execW_q execW_w execW_c restW_app hideH_app merge_app wblk rest_app restS_app execS_q execS_c aval dOk upd_app ev_t ev_c setO_some setO_none put_mk pinsOf isIo hasIo sbin endR fin resL one outL out1 clo1 cloL coe coeL shut shut.shutL wantA weff cellsOf fillA deref natOf ρ0_app h0_app plain plain.plainL keep_app keepH_app andThen_normal andThen_ret andThen_exit pop_nil pop_after pop_after_ret pop_after_exit pop_blk pop_blk_ret pop_blk_exit nilA srcOf srcCells keepR_app keepHR_app renA rb
def lnabL : List ByteArray := [⟨#[108, 111, 99, 107]⟩, ⟨#[110, 101, 119]⟩, ⟨#[97]⟩, ⟨#[98]⟩]
def naL : List ByteArray := [⟨#[110, 101, 119]⟩, ⟨#[97]⟩]
def lbL : List ByteArray := [⟨#[108, 111, 99, 107]⟩, ⟨#[98]⟩]
def exoL : List ByteArray := [⟨#[]⟩, ⟨#[120]⟩, ⟨#[111, 108, 100, 10]⟩]
def oneOp (c : Cur) : Op × Cur :=
  if belowV c 3 = 0 then (⟨2, pickS naL (belowC c 3) 2, pickS lbL (belowC (belowC c 3) 2) 2⟩, belowC (belowC (belowC c 3) 2) 2)
  else (⟨1, pickS lnabL (belowC c 3) 4, pickS exoL (belowC (belowC c 3) 4) 3⟩, belowC (belowC (belowC c 3) 4) 3)
theorem oneOp_ok {c : Cur} (hc : c.ok) : (oneOp c).2.ok ∧ Op.ty.ok (oneOp c).1 := by
  unfold oneOp
  split
  · exact ⟨belowC_ok (belowC_ok (belowC_ok hc 3) 2) 2, two_ok, Nat.le_trans (pick_size (n := 5) (by decide) _ _) (by decide), Nat.le_trans (pick_size (n := 5) (by decide) _ _) (by decide), trivial⟩
  · exact ⟨belowC_ok (belowC_ok (belowC_ok hc 3) 4) 3, one_ok, Nat.le_trans (pick_size (n := 5) (by decide) _ _) (by decide), Nat.le_trans (pick_size (n := 5) (by decide) _ _) (by decide), trivial⟩
/- 77: loop.example/g00464/spec.l22Name -/
def A77 : AC := (.seq (.ops [⟨(some 2), none, .q (.mov (.c (.sc (.string ⟨#[]⟩))))⟩])
  (.seq (.ops [⟨(some 3), none, .q (.mov (.t 0))⟩, ⟨(some 4), none, .w (.bsl 1 4 [(.sc (.string ⟨#[]⟩)), (.sc (.string ⟨#[]⟩)), (.sc (.string ⟨#[]⟩)), (.sc (.string ⟨#[]⟩))] [(0, 1, (.c (.sc (.string ⟨#[108, 111, 99, 107]⟩)))), (1, 1, (.c (.sc (.string ⟨#[110, 101, 119]⟩)))), (2, 1, (.c (.sc (.string ⟨#[97]⟩)))), (3, 1, (.c (.sc (.string ⟨#[98]⟩))))])⟩, ⟨(some 5), none, .c (.c (.clo 48 [])) [(.t 3), (.t 4)]⟩, ⟨(some 2), none, .q (.mov (.t 5))⟩])
  .ret))
theorem K77 : Tryd.f77.body.bind (comp Tryd.prog) = some A77 ∧ Tryd.f77.ntmps = 6 ∧ Tryd.f77.results.toList.mapM (resB Tryd.prog) = some [.mov (.t 2)] := ⟨by kernel_rfl, by kernel_rfl, by kernel_rfl⟩
theorem R77 (c : Cur) (hc : c.ok) : Ret Tryd.prog 77 [.bx c.cs] (.sc (.string (pickS lnabL c 4))) [.bx (belowC c 4).cs] := by
  have fr : ∀ c : Cur, idfree.idfreeL c.cs = true := fun c => rfl
  have r1 : Ret Tryd.prog 48 [.bx c.cs, .own (rows Ty.str.oc lnabL) 4 1] (.sc (.string (pickS lnabL c 4))) [.bx (belowC c 4).cs, .un] := R48 c hc lnabL (by decide)
  refine Ret.run Tryd.func77 K77 (by simp) rfl rfl 900 ?_
  simp [A77, iniρ, over]
  refine callK.bm 100000 4 (len := 4) (sz := 1) rfl (by kernel_rfl) (by simp [upd_app]) (by simp [upd_app]) (fr c) (by simp [upd_app]) (by simp [upd_app]; rfl) (by rfl) (by rfl) (by decide) r1 rfl rfl ?_
  simp [ex1, fr, ioPos1]
/- 61: loop.example/g00464/spec.l22OneOp -/
def A61 : AC := (.seq (.ops [⟨(some 2), none, .w (.alloc [(.sc (.int .i64 0)), (.sc (.string ⟨#[]⟩)), (.sc (.string ⟨#[]⟩))])⟩])
  (.seq (.seq (.ops [⟨(some 3), none, .q (.mov (.t 0))⟩, ⟨(some 4), none, .c (.c (.clo 51 [])) [(.t 3), (.c (.sc (.int .i64 3)))]⟩])
  (.cond (.t 4) (.seq (.ops [⟨(some 5), none, .q (.mov (.t 0))⟩, ⟨(some 6), none, .w (.bsl 1 2 [(.sc (.string ⟨#[]⟩)), (.sc (.string ⟨#[]⟩))] [(0, 1, (.c (.sc (.string ⟨#[110, 101, 119]⟩)))), (1, 1, (.c (.sc (.string ⟨#[97]⟩))))])⟩, ⟨(some 7), none, .c (.c (.clo 48 [])) [(.t 5), (.t 6)]⟩, ⟨(some 8), none, .q (.mov (.t 0))⟩, ⟨(some 9), none, .w (.bsl 1 2 [(.sc (.string ⟨#[]⟩)), (.sc (.string ⟨#[]⟩))] [(0, 1, (.c (.sc (.string ⟨#[108, 111, 99, 107]⟩)))), (1, 1, (.c (.sc (.string ⟨#[98]⟩))))])⟩, ⟨(some 10), none, .c (.c (.clo 48 [])) [(.t 8), (.t 9)]⟩, ⟨(some 11), none, .w (.build [(.sc (.int .i64 0)), (.sc (.string ⟨#[]⟩)), (.sc (.string ⟨#[]⟩))] [(0, 1, (.c (.sc (.int .i64 2)))), (1, 1, (.t 7)), (2, 1, (.t 10))])⟩, ⟨none, none, .w (.store 3 (.t 2) (.t 11))⟩])
  .ret)
  .skip))
  (.seq (.ops [⟨(some 12), none, .q (.mov (.t 0))⟩, ⟨(some 13), none, .c (.c (.clo 77 [])) [(.t 12)]⟩, ⟨(some 14), none, .q (.mov (.t 0))⟩, ⟨(some 15), none, .w (.bsl 1 3 [(.sc (.string ⟨#[]⟩)), (.sc (.string ⟨#[]⟩)), (.sc (.string ⟨#[]⟩))] [(0, 1, (.c (.sc (.string ⟨#[]⟩)))), (1, 1, (.c (.sc (.string ⟨#[120]⟩)))), (2, 1, (.c (.sc (.string ⟨#[111, 108, 100, 10]⟩))))])⟩, ⟨(some 16), none, .c (.c (.clo 48 [])) [(.t 14), (.t 15)]⟩, ⟨(some 17), none, .w (.build [(.sc (.int .i64 0)), (.sc (.string ⟨#[]⟩)), (.sc (.string ⟨#[]⟩))] [(0, 1, (.c (.sc (.int .i64 1)))), (1, 1, (.t 13)), (2, 1, (.t 16))])⟩, ⟨none, none, .w (.store 3 (.t 2) (.t 17))⟩])
  .ret)))
theorem K61 : Tryd.f61.body.bind (comp Tryd.prog) = some A61 ∧ Tryd.f61.ntmps = 18 ∧ Tryd.f61.results.toList.mapM (resB Tryd.prog) = some [.load true 3 (.t 2)] := ⟨by kernel_rfl, by kernel_rfl, by kernel_rfl⟩
theorem R61 (c : Cur) (hc : c.ok) : Ret Tryd.prog 61 [.bx c.cs] (.agg (Op.ty.oc (oneOp c).1)) [.bx (oneOp c).2.cs] := by
  have fr : ∀ c : Cur, idfree.idfreeL c.cs = true := fun c => rfl
  have hc1 := belowC_ok hc 3
  have ra : Ret Tryd.prog 48 [.bx (belowC c 3).cs, .own (rows Ty.str.oc naL) 2 1] (.sc (.string (pickS naL (belowC c 3) 2))) [.bx (belowC (belowC c 3) 2).cs, .un] := R48 _ hc1 naL (by decide)
  have rb : Ret Tryd.prog 48 [.bx (belowC (belowC c 3) 2).cs, .own (rows Ty.str.oc lbL) 2 1] (.sc (.string (pickS lbL (belowC (belowC c 3) 2) 2))) [.bx (belowC (belowC (belowC c 3) 2) 2).cs, .un] := R48 _ (belowC_ok hc1 2) lbL (by decide)
  have rc : Ret Tryd.prog 48 [.bx (belowC (belowC c 3) 4).cs, .own (rows Ty.str.oc exoL) 3 1] (.sc (.string (pickS exoL (belowC (belowC c 3) 4) 3))) [.bx (belowC (belowC (belowC c 3) 4) 3).cs, .un] := R48 _ (belowC_ok hc1 4) exoL (by decide)
  refine Ret.run Tryd.func61 K61 (by simp) rfl rfl 900 ?_
  simp [A61, iniρ, over]
  refine callK.bx (b := 100000) 0 rfl (by kernel_rfl) (by simp [upd_app]) (by simp [upd_app]) (fr _) (by simp [upd_app]) (by simp) (R51 c hc 3) rfl (by rfl) rfl ?_
  by_cases k : belowV c 3 = 0
  · simp [k, over]
    refine callK.bm 100000 6 (len := 2) (sz := 1) rfl (by kernel_rfl) (by simp [upd_app]) (by simp [upd_app]) (fr _) (by simp [upd_app]) (by simp [upd_app]; rfl) (by rfl) (by rfl) (by decide) ra rfl rfl ?_
    simp [over]
    refine callK.bm 100000 9 (len := 2) (sz := 1) rfl (by kernel_rfl) (by simp [upd_app]) (by simp [upd_app]) (fr _) (by simp [upd_app]) (by simp [upd_app]; rfl) (by rfl) (by rfl) (by decide) rb rfl rfl ?_
    simp [k, over, oneOp, ex1, fr, ioPos1, Op.oce]
  · simp [k, over]
    refine callK.bx (b := 100000) 0 rfl (by kernel_rfl) (by simp [upd_app]) (by simp [upd_app]) (fr _) (by simp [upd_app]) (by simp) (R77 _ hc1) rfl (by rfl) rfl ?_
    simp [k, over]
    refine callK.bm 100000 15 (len := 3) (sz := 1) rfl (by kernel_rfl) (by simp [upd_app]) (by simp [upd_app]) (fr _) (by simp [upd_app]) (by simp [upd_app]; rfl) (by rfl) (by rfl) (by decide) rc rfl rfl ?_
    simp [k, over, oneOp, ex1, fr, ioPos1, Op.oce]
def drawO : Nat → Cur → Disk → Disk × Cur
  | 0, c, d => (d, c)
  | n + 1, c, d => drawO n (belowC (oneOp c).2 3) (if belowV (oneOp c).2 3 = 0 then settleF ⟨d.sure, d.pend ++ [(oneOp c).1]⟩ else ⟨d.sure, d.pend ++ [(oneOp c).1]⟩)
def drawD (c : Cur) : Disk × Cur := drawO (belowV c 6).toNat (belowC c 6) ⟨[], []⟩
theorem nilDisk_ok : Disk.ty.ok ⟨[], []⟩ := ⟨⟨by simp, by simp⟩, nilO_ok, trivial⟩
theorem drawO_ok : ∀ (n : Nat) (c : Cur) (d : Disk), c.ok → Disk.ty.ok d → d.pend.length + n ≤ 5 → (drawO n c d).2.ok ∧ Disk.ty.ok (drawO n c d).1 ∧ (drawO n c d).1.pend.length ≤ 5
  | 0, c, d, hc, hd, hl => ⟨hc, hd, hl⟩
  | n + 1, c, d, hc, hd, hl => by
    have h1 := oneOp_ok hc
    have h2 : Disk.ty.ok ⟨d.sure, d.pend ++ [(oneOp c).1]⟩ := snoc_ok hd h1.2 (by omega)
    have hl2 : (d.pend ++ [(oneOp c).1]).length + n ≤ 5 := by simp; omega
    rw [drawO]
    split
    · have := settleF_pend ⟨d.sure, d.pend ++ [(oneOp c).1]⟩
      exact drawO_ok n _ _ (belowC_ok h1.1 3) (settleF_ok h2) (by simp only at this; omega)
    · exact drawO_ok n _ _ (belowC_ok h1.1 3) h2 hl2
theorem drawD_ok {c : Cur} (hc : c.ok) : (drawD c).2.ok ∧ Disk.ty.ok (drawD c).1 ∧ (drawD c).1.pend.length ≤ 5 := by
  obtain ⟨q1, q2⟩ := belowV_rng c (n := 6) (by omega)
  exact drawO_ok _ _ _ (belowC_ok hc 6) nilDisk_ok (by simp; omega)
/- 37: loop.example/g00464/spec.l22Draw -/
def A37 : AC := (.seq (.ops [⟨(some 2), none, .w (.alloc [.em, .em])⟩])
  (.seq (.ops [⟨(some 5), none, .w (.build [.em, .em] [])⟩, ⟨(some 3), none, .w (.alloc [.em, .em])⟩, ⟨none, none, .w (.store 2 (.t 3) (.t 5))⟩])
  (.seq (.seq (.ops [⟨(some 6), none, .q (.mov (.t 0))⟩, ⟨(some 7), none, .c (.c (.clo 23 [])) [(.t 6), (.c (.sc (.int .i64 6)))]⟩, ⟨(some 4), none, .q (.mov (.t 7))⟩])
  (.block 0 (.loop (.seq (.seq (.ops [⟨(some 8), none, .q (.mov (.t 4))⟩, ⟨(some 9), none, .q (.bin .gtr (.t 8) (.c (.sc (.int .i64 0))))⟩])
  (.cond (.t 9) .skip
  (.exit 0)))
  (.seq (.block 1 (.seq (.any [(⟨(some 12), none, .q (.fadr 1 (.t 3))⟩, []), (⟨(some 13), none, .q (.load false 1 (.t 12))⟩, [0]), (⟨(some 14), none, .q (.mov (.t 0))⟩, []), (⟨(some 15), none, .c (.c (.clo 61 [])) [(.t 14)]⟩, [2]), (⟨(some 16), none, .w (.bsl 3 1 [(.sc (.int .i64 0)), (.sc (.string ⟨#[]⟩)), (.sc (.string ⟨#[]⟩))] [(0, 3, (.t 15))])⟩, [3]), (⟨(some 17), none, .w (.app 3 40 false (.t 13) (.t 16))⟩, [1, 4, 3]), (⟨(some 18), none, .q (.fadr 1 (.t 3))⟩, [0, 1, 2, 3, 4, 5]), (⟨none, none, .w (.store 1 (.t 18) (.t 17))⟩, [6, 5, 5, 0, 1, 2, 3, 4, 5])])
  (.seq (.ops [⟨(some 19), none, .q (.mov (.t 0))⟩, ⟨(some 20), none, .c (.c (.clo 51 [])) [(.t 19), (.c (.sc (.int .i64 3)))]⟩])
  (.cond (.t 20) (.ops [⟨(some 21), none, .q (.load true 2 (.t 3))⟩, ⟨(some 22), none, .c (.c (.clo 36 [])) [(.t 21)]⟩, ⟨none, none, .w (.store 2 (.t 3) (.t 22))⟩])
  .skip))))
  (.ops [⟨(some 10), none, .q (.mov (.t 4))⟩, ⟨(some 11), none, .q (.bin .sub (.t 10) (.c (.sc (.int .i64 1))))⟩, ⟨(some 4), none, .q (.mov (.t 11))⟩]))))))
  (.seq (.ops [⟨(some 23), none, .q (.load true 2 (.t 3))⟩, ⟨none, none, .w (.store 2 (.t 2) (.t 23))⟩])
  .ret))))
theorem K37 : Tryd.f37.body.bind (comp Tryd.prog) = some A37 ∧ Tryd.f37.ntmps = 24 ∧ Tryd.f37.results.toList.mapM (resB Tryd.prog) = some [.load true 2 (.t 2)] := ⟨by kernel_rfl, by kernel_rfl, by kernel_rfl⟩
set_option maxHeartbeats 4000000 in
theorem R37 (c : Cur) (hc : c.ok) : Ret Tryd.prog 37 [.bx c.cs] (.agg (Disk.ty.oc (drawD c).1)) [.bx (drawD c).2.cs] := by
  have fr : ∀ c : Cur, idfree.idfreeL c.cs = true := fun c => rfl
  refine Ret.run Tryd.func37 K37 (by simp) rfl rfl 900 ?_
  simp [A37, iniρ, over]
  refine callK.bx (b := 100000) 0 rfl (by kernel_rfl) (by simp [upd_app]) (by simp [upd_app]) (fr _) (by simp [upd_app]) (by simp) (R23 _ hc 6) rfl (by rfl) rfl ?_
  obtain ⟨q1, q2⟩ := belowV_rng c (n := 6) (by omega)
  obtain ⟨m, hm⟩ : ∃ m : Nat, belowV c 6 = m := ⟨(belowV c 6).toNat, by omega⟩
  have hP : drawO m (belowC c 6) ⟨[], []⟩ = drawD c := by simp [drawD, hm]
  rw [hm] at q2 ⊢
  simp
  refine T.le (Le.layC 3 0 2 (by simp [upd_app]; rfl) rfl) ?_
  refine T.le (Le.layC 3 1 3 (by simp [upd_app]; rfl) rfl) ?_
  refine T.rounds (μ := fun i : Nat × Cur × Disk => i.1)
    (fun i s => i.2.1.ok ∧ Disk.ty.ok i.2.2 ∧ i.2.2.pend.length + i.1 ≤ 5 ∧ drawO i.1 i.2.1 i.2.2 = drawD c ∧ s.ρ 0 = .ref 100000 0 ∧ s.ρ 2 = .ref 2 0 ∧ s.ρ 3 = .ref 3 0 ∧ s.ρ 4 = .sc (.int .i64 i.1) ∧ s.h 100000 = some (some i.2.1.cs) ∧
      s.h 2 = some (some [.em, .em]) ∧ s.h 3 = some (some (Disk.ty.oc i.2.2)) ∧ (∀ b, b ≠ 100000 → b ≠ 2 → b ≠ 3 → s.h b = none) ∧ s.n = 24) (m, belowC c 6, ⟨[], []⟩) (by simp [upd_app, rows_nil, hP, belowC_ok, hc, nilDisk_ok, Disk.oce]; exact ⟨by omega, fun b h1 h2 h3 => by simp [h1, h2, h3]⟩) ?_
  rintro ⟨j, d, x⟩ ⟨ρ, hh0, n⟩ ⟨hd, hxo, hj, hE, h0', h2', h3', h4', kc0, k20, k30, kf, rfl⟩
  simp only at hd hxo hj hE h0' h2' h3' h4' kc0 k20 k30 kf
  obtain ⟨hh, o1, o2, o3, o4, o5⟩ := Disk.openB (ρ := ρ) (n := 24) 3 5000 x k30 (kf _ (by decide) (by decide) (by decide)) (kf _ (by decide) (by decide) (by decide)) (by decide)
  refine T.le o1 ?_
  have kc : hh 100000 = some (some d.cs) := by rw [o5 100000 (by decide) (by decide) (by decide), kc0]
  have k2 : hh 2 = some (some [.em, .em]) := by rw [o5 2 (by decide) (by decide) (by decide), k20]
  have bf : ∀ b, b ≠ 100000 → b ≠ 2 → b ≠ 3 → b ≠ 5000 → b ≠ 5001 → hh b = none := fun b c1 c2 c3 c4 c5 => by rw [o5 b c3 c4 c5, kf b c1 c2 c3]
  rw [show 5000 + 1 = 5001 from rfl] at o2 o4
  have g16 := bf 16 (by decide) (by decide) (by decide) (by decide) (by decide)
  have g17 := bf 17 (by decide) (by decide) (by decide) (by decide) (by decide)
  have g23 := bf 23000 (by decide) (by decide) (by decide) (by decide) (by decide)
  have g24 := bf 23001 (by decide) (by decide) (by decide) (by decide) (by decide)
  refine run_ok (n := 400) ?_
  cases j with
  | zero =>
    simp only [drawO] at hE
    have hE1 : x = (drawD c).1 := by rw [← hE]
    have hE2 : d = (drawD c).2 := by rw [← hE]
    simp [h4']
    refine T.on 400 ?_
    simp [h0', h2', h3', o2, o3, o4, k2, kc, over, ex1, Doc.ocl, Doc.frL, Op.ocl, Op.frL, fr, ioPos1, Disk.oce, hE1, hE2]
  | succ j =>
    have hw : IntKind.i64.wrap (j : Int) = j := wrap_i64 (by omega) (by omega)
    have hpos : (0 : Int) < (j : Int) + 1 := by omega
    have ho := oneOp_ok hd
    obtain ⟨ps, hps⟩ : ∃ ps, ps = x.pend ++ [(oneOp d).1] := ⟨_, rfl⟩
    have hlp : x.pend.length + 1 = ps.length := by rw [hps]; simp
    have hx2 : Disk.ty.ok ⟨x.sure, ps⟩ := by rw [hps]; exact snoc_ok hxo ho.2 (by omega)
    have hcap : ps.length * 40 ≤ 140737488355328 := Nat.le_trans (Nat.mul_le_mul_right 40 (show ps.length ≤ 5 by omega)) (by decide)
    have hap : rows Op.ty.oc x.pend ++ [.sc (.int .i64 (oneOp d).1.kind), .sc (.string (oneOp d).1.a), .sc (.string (oneOp d).1.b)] = rows Op.ty.oc ps := by rw [hps, rows_append]; simp [rows_cons, rows_nil, Op.oce]
    simp [h4', hpos]
    refine T.textW 400 [([], [100000, 16]), ([], [100000, 16]), ([], []), ([100000], []), ([16], []), ([5001, 16, 17], []), ([], []), ([3], [])] mixed (by kernel_rfl) (by kernel_rfl) ?_
    simp [h0', h3', o2, over]
    refine callWK.bx (b := 100000) 15 rfl (by kernel_rfl) (by simp [upd_app, h0']) (by simp [upd_app, hideH_app, kc]) (fr _) (by simp) (by simp) (R61 d hd) rfl (by simp [inst, instL, Op.oce]; exact ⟨rfl, rfl⟩) (by rfl) ?_
    simp [h0', h3', h4', o2, o4, g16, g17, over, merge_nil, hideH_nil, Op.ocl, hlp, hcap, hap]
    refine callK.bx (b := 100000) 0 rfl (by kernel_rfl) (by simp [upd_app, h0']) (by simp [upd_app, merge_app, hideH_app]) (fr _) (by simp [upd_app]) (by simp) (R51 _ ho.1 3) rfl (by rfl) rfl ?_
    by_cases k : belowV (oneOp d).2 3 = 0
    · have hs := settleF_pend ⟨x.sure, ps⟩
      have hE' : drawO j (belowC (oneOp d).2 3) (settleF ⟨x.sure, ps⟩) = drawD c := by rw [← hE, drawO, if_pos k, hps]
      simp [k, h3', h4', o2]
      have hf : flt (.agg (Disk.ty.oc (settleF ⟨x.sure, ps⟩))) = true := by simpa [flt] using Disk.ty.flL (settleF ⟨x.sure, ps⟩)
      refine callK.ro 22 rfl (by kernel_rfl) (ys := [.agg (Disk.ty.cs ⟨x.sure, ps⟩)]) (by simp [roc_agg8, List.mapM_cons, List.mapM_nil, Doc.roc7, Op.roc7, upd_app, merge_app, hideH_app, o2, o3, o4, Disk.cse]) (R36 ⟨x.sure, ps⟩ hx2) hf (by simp [inst, instL, Disk.oce, upd_app, merge_app, hideH_app, g23, g24]; exact ⟨rfl, rfl⟩) rfl ?_
      simp [h3', h4', o2, over, hw]
      refine ⟨j, by omega, belowC (oneOp d).2 3, settleF ⟨x.sure, ps⟩, Disk.packL [0, 2, 3, 4] [100000, 2, 3] 3 23000 23001 (settleF ⟨x.sure, ps⟩) (by simp [upd_app]) (by simp [upd_app]) (by simp [upd_app]) (by decide) (by decide) (by decide) (by decide) (by decide) (by decide) (by simp [upd_app, menB, idfree, h0', h2', h3']) (by simp [upd_app, merge_app, hideH_app, k2, idfree, Cur.cs]) ?_⟩
      intro h' w1 w2
      refine ⟨belowC_ok ho.1 3, settleF_ok hx2, by simp only at hs; omega, hE', by simp [upd_app, h0'], by simp [upd_app, h2'], by simp [upd_app, h3'], by simp [upd_app], ?_, ?_, w1, fun b c1 c2 c3 => ?_, rfl⟩
      · have := w2 100000 (by decide); simpa [upd_app] using this
      · have := w2 2 (by decide); simpa [upd_app, merge_app, hideH_app, k2] using this
      · have := w2 b c3; simpa [c1, c2, c3] using this
    · have hE' : drawO j (belowC (oneOp d).2 3) ⟨x.sure, ps⟩ = drawD c := by rw [← hE, drawO, if_neg k, hps]
      simp [k, h3', h4', o2, hw]
      refine ⟨j, by omega, belowC (oneOp d).2 3, ⟨x.sure, ps⟩, Disk.packL [0, 2, 3, 4] [100000, 2, 3] 3 5000 17 ⟨x.sure, ps⟩ (by simp [upd_app, o2]) (by simp [upd_app, merge_app, hideH_app, o3]) (by simp [upd_app]) (by decide) (by decide) (by decide) (by decide) (by decide) (by decide) (by simp [upd_app, menB, idfree, h0', h2', h3']) (by simp [upd_app, merge_app, hideH_app, k2, idfree, Cur.cs]) ?_⟩
      intro h' w1 w2
      refine ⟨belowC_ok ho.1 3, hx2, by simp only; omega, hE', by simp [upd_app, h0'], by simp [upd_app, h2'], by simp [upd_app, h3'], by simp [upd_app], ?_, ?_, w1, fun b c1 c2 c3 => ?_, rfl⟩
      · have := w2 100000 (by decide); simpa [upd_app] using this
      · have := w2 2 (by decide); simpa [upd_app, merge_app, hideH_app, k2] using this
      · have := w2 b c3; simpa [c1, c2, c3] using this
def azAL : List ByteArray := [⟨#[97]⟩, ⟨#[122, 122]⟩, ⟨#[65]⟩]
def aeL : List ByteArray := [⟨#[97]⟩, ⟨#[]⟩]
def abeL : List ByteArray := [⟨#[97]⟩, ⟨#[98]⟩, ⟨#[]⟩]
def zO (i : Nat) : Op := ⟨1, ⟨#[122]⟩ ++ numT i, ⟨#[]⟩⟩
def zOs : Nat → List Op
  | 0 => []
  | n + 1 => zOs n ++ [zO n]
def moreO : Nat → Cur → Disk → Disk × Cur
  | 0, c, d => (d, belowC c 4)
  | n + 1, c, d => if (d.pend.length : Int) < 8 + belowV c 4 then moreO n (oneOp (belowC c 4)).2 ⟨d.sure, d.pend ++ [(oneOp (belowC c 4)).1]⟩ else (d, belowC c 4)
def bigT (c : Cur) : ByteArray := strOfNums (List.replicate (400 + belowV c 2).toNat 0)
def anyQ (d : Disk) (c1 : Cur) : Disk × Cur :=
  if belowV c1 10 = 0 then (⟨d.sure ++ [⟨pickS azAL (belowC c1 10) 3, bigT (belowC (belowC c1 10) 3)⟩], d.pend⟩, belowC (belowC (belowC c1 10) 3) 2)
  else if belowV c1 10 = 1 then (⟨d.sure, d.pend ++ [⟨belowV (belowC c1 10) 4, pickS aeL (belowC (belowC c1 10) 4) 2, pickS abeL (belowC (belowC (belowC c1 10) 4) 2) 3⟩]⟩, belowC (belowC (belowC (belowC c1 10) 4) 2) 3)
  else if belowV c1 10 = 2 then moreO 12 (belowC c1 10) d
  else if belowV c1 10 = 3 then (⟨d.sure, d.pend ++ zOs 6⟩, belowC c1 10)
  else (d, belowC c1 10)
def anyD (c : Cur) : Disk × Cur := anyQ (drawD c).1 (drawD c).2
theorem moreO_end (n : Nat) {c : Cur} {d : Disk} (h : ¬ (d.pend.length : Int) < 8 + belowV c 4) : moreO n c d = (d, belowC c 4) := by
  cases n with
  | zero => rfl
  | succ n => rw [moreO, if_neg h]
theorem zOs_len : ∀ k : Nat, (zOs k).length = k
  | 0 => rfl
  | k + 1 => by simp [zOs, zOs_len k]
theorem bigT_size (c : Cur) : (bigT c).size ≤ 401 := by
  obtain ⟨q1, q2⟩ := belowV_rng c (n := 2) (by omega)
  simp only [bigT, strOfNums_size, List.length_replicate]
  omega
theorem moreO_ok : ∀ (n : Nat) (c : Cur) (d : Disk), c.ok → Disk.ty.ok d → d.pend.length ≤ 11 → (moreO n c d).2.ok ∧ Disk.ty.ok (moreO n c d).1
  | 0, c, d, hc, hd, _ => ⟨belowC_ok hc 4, hd⟩
  | n + 1, c, d, hc, hd, hl => by
    have h1 := oneOp_ok (belowC_ok hc 4)
    rw [moreO]
    split
    · rename_i lt
      obtain ⟨q1, q2⟩ := belowV_rng c (n := 4) (by omega)
      exact moreO_ok n _ _ h1.1 (snoc_ok hd h1.2 (by omega)) (by simp; omega)
    · exact ⟨belowC_ok hc 4, hd⟩
theorem zO_ok (i : Nat) (h : i ≤ 100) : Op.ty.ok (zO i) := by
  have := numT_size i
  refine ⟨one_ok, ?_, ?_, trivial⟩
  · show (⟨#[122]⟩ ++ numT i : ByteArray).size ≤ _
    rw [ByteArray.size_append]
    show 1 + _ ≤ _
    omega
  · show (0 : Nat) ≤ _
    omega
theorem app_ok {x : Disk} {l : List Op} (hx : Disk.ty.ok x) (hl : x.pend.length + l.length ≤ 20) (h : ∀ o ∈ l, Op.ty.ok o) : Disk.ty.ok ⟨x.sure, x.pend ++ l⟩ := by
  refine ⟨hx.1, ⟨?_, fun y hy => ?_⟩, trivial⟩
  · show (x.pend ++ l).length * _ ≤ _
    rw [List.length_append]
    exact Nat.le_trans (Nat.mul_le_mul_right _ hl) (by decide)
  · rcases List.mem_append.1 hy with hy | hy
    · exact hx.2.1.2 y hy
    · exact h y hy
theorem zOs_ok : ∀ n : Nat, n ≤ 100 → ∀ o ∈ zOs n, Op.ty.ok o
  | 0, _ => by simp [zOs]
  | n + 1, h => by
    intro o ho
    rw [zOs] at ho
    rcases List.mem_append.1 ho with ho | ho
    · exact zOs_ok n (by omega) o ho
    · simp at ho; subst ho; exact zO_ok n (by omega)
theorem settleF_sure (d : Disk) : (settleF d).sure.length ≤ max d.sure.length 6 := by
  unfold settleF
  split
  · exact docsF_len _ _ _ _
  · exact Nat.le_max_left _ _
theorem drawO_sure : ∀ (n : Nat) (c : Cur) (d : Disk), d.sure.length ≤ 6 → (drawO n c d).1.sure.length ≤ 6
  | 0, _, _, h => h
  | n + 1, c, d, h => by
    rw [drawO]
    split
    · exact drawO_sure n _ _ (by have := settleF_sure ⟨d.sure, d.pend ++ [(oneOp c).1]⟩; simp only at this; omega)
    · exact drawO_sure n _ _ h
theorem anyQ_ok {x : Disk} {c : Cur} (hc : c.ok) (hx : Disk.ty.ok x) (hp : x.pend.length ≤ 5) (hs : x.sure.length ≤ 6) : (anyQ x c).2.ok ∧ Disk.ty.ok (anyQ x c).1 := by
  have h1 := belowC_ok hc 10
  unfold anyQ
  split
  · refine ⟨belowC_ok (belowC_ok h1 3) 2, ⟨?_, fun y hy => ?_⟩, hx.2⟩
    · show (x.sure ++ [_]).length * _ ≤ _
      rw [List.length_append]
      exact Nat.le_trans (Nat.mul_le_mul_right _ (show x.sure.length + [_].length ≤ 7 by simpa using hs)) (by decide)
    · rcases List.mem_append.1 hy with hy | hy
      · exact hx.1.2 y hy
      · simp at hy; subst hy
        exact ⟨Nat.le_trans (pick_size (n := 5) (by decide) _ _) (by decide), Nat.le_trans (bigT_size _) (by decide), trivial⟩
  · split
    · obtain ⟨q1, q2⟩ := belowV_rng (belowC c 10) (n := 4) (by omega)
      refine ⟨belowC_ok (belowC_ok (belowC_ok h1 4) 2) 3, app_ok hx (by simp; omega) (fun o ho => ?_)⟩
      simp at ho; subst ho
      exact ⟨⟨by simp only; omega, by simp only; omega⟩, Nat.le_trans (pick_size (n := 5) (by decide) _ _) (by decide), Nat.le_trans (pick_size (n := 5) (by decide) _ _) (by decide), trivial⟩
    · split
      · exact moreO_ok 12 _ _ h1 hx (by omega)
      · split
        · exact ⟨h1, app_ok hx (by rw [zOs_len]; omega) (zOs_ok 6 (by omega))⟩
        · exact ⟨h1, hx⟩
theorem anyD_ok {c : Cur} (hc : c.ok) : (anyD c).2.ok ∧ Disk.ty.ok (anyD c).1 := by
  obtain ⟨h1, h2, h3⟩ := drawD_ok hc
  exact anyQ_ok h1 h2 h3 (drawO_sure _ _ _ (by simp))
end Go.Proofs.YtadoadomogceiaaDoor.Am
