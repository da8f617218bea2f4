/- The functions of the program, each by its contract: LawWhole; no condition. -/
import Derived.Test.YtadoadomogceiaaDoorProg
import Derived.Test.YtadoadomogceiaaDoorAmZ
import Derived.Test.YtadoadomogceiaaDoorAmP
import Derived.Test.YtadoadomogceiaaDoorWhole
import Derived.Test.YtadoadomogceiaaDoorDrawDisks
import Derived.Test.YtadoadomogceiaaDoorItoa
import Derived.KernelRfl
namespace Go.Proofs.YtadoadomogceiaaDoor.Am
open Go Go.Proofs
set_option linter.unusedSimpArgs false
set_option linter.unusedVariables false
attribute [local congr] T_congr callK_congr callWK_congr
attribute [local simp] run_nil run_op0 run_opg run_seq run_cond run_block run_ret run_skip run_skip_after run_skip_blk run_exit run_exit_after run_exit_blk run_loop run_any runS_nil runS_op0 runS_opg runW_nil runW_op0 runW_opg exec_q exec_w exec_c exec_n execW_q execW_w execW_c restW_app hideH_app merge_app wblk rest_app restS_app execS_q execS_c aval dOk upd_app ev_t ev_c setO_some setO_none put_mk pinsOf isIo hasIo sbin endR fin resL one outL out1 clo1 cloL coe coeL shut shut.shutL wantA weff cellsOf fillA deref natOf ρ0_app h0_app plain plain.plainL keep_app keepH_app andThen_normal andThen_ret andThen_exit pop_nil pop_after pop_after_ret pop_after_exit pop_blk pop_blk_ret pop_blk_exit nilA srcOf srcCells keepR_app keepHR_app renA rb
theorem crashF_ok {d : Disk} (hd : Disk.ty.ok d) (keep : Int) : Disk.ty.ok (crashF d keep) := by
  unfold crashF
  split
  · exact ⟨docs_ok hd _, nilO_ok, trivial⟩
  · exact hd
theorem saveGo_ok {t : ByteArray} (ht : t.size ≤ 400) : ∀ (n i : Nat) (x : Disk), Disk.ty.ok x → x.pend.length ≤ 8 + i → n + i ≤ 4 → Disk.ty.ok (saveGo t n i x)
  | 0, _, _, h, _, _ => h
  | n + 1, i, x, h, hl, hn => by
    obtain ⟨h1, h2⟩ := stepS_is (i := i) ht h hl (by omega)
    exact saveGo_ok ht n (i + 1) _ h1 h2 (by omega)
theorem saveF_ok {d : Disk} (hd : Disk.ty.ok d) (t : ByteArray) (s : Int) : Disk.ty.ok (saveF d t s) := by
  unfold saveF
  split
  · rename_i h
    exact saveGo_ok h.2.2 _ _ _ hd (by omega) (by have := stepsN_le s; omega)
  · exact hd
theorem pickS_mem {l : List ByteArray} (n : Nat) (hl : l.length = n) (h0 : 0 < n) (c : Cur) : pickS l c n ∈ l := by
  obtain ⟨q1, q2⟩ := belowV_rng c (n := n) (by omega)
  unfold pickS
  rw [List.getElem?_eq_getElem (by omega), Option.getD_some]
  exact List.getElem_mem _
theorem oneOp_okB (c : Cur) : opOkB (oneOp c).1 = true := by
  unfold oneOp
  split
  · have h1 : pickS naL (belowC c 3) 2 ∈ naL := pickS_mem 2 rfl (by omega) _
    have h2 : pickS lbL (belowC (belowC c 3) 2) 2 ∈ lbL := pickS_mem 2 rfl (by omega) _
    have h3 : ∀ a ∈ naL, ∀ b ∈ lbL, (nameOk a && nameOk b && !(a.data.toList == b.data.toList)) = true := by decide
    rw [opOkB2]
    exact h3 _ h1 _ h2
  · have h1 : pickS lnabL (belowC c 3) 4 ∈ lnabL := pickS_mem 4 rfl (by omega) _
    have h2 : pickS exoL (belowC (belowC c 3) 4) 3 ∈ exoL := pickS_mem 3 rfl (by omega) _
    have h3 : ∀ a ∈ lnabL, ∀ b ∈ exoL, opOkB ⟨1, a, b⟩ = true := by decide
    exact h3 _ h1 _ h2
theorem drawO_okB : ∀ (n : Nat) (c : Cur) (d : Disk), diskOk d = true → d.pend.length + n ≤ 10 → diskOk (drawO n c d).1 = true
  | 0, _, _, h, _ => h
  | n + 1, c, d, h, hl => by
    obtain ⟨h1, h2, h3, h4⟩ := (diskOk_iff _).1 h
    have hx : diskOk ⟨d.sure, d.pend ++ [(oneOp c).1]⟩ = true := (diskOk_iff _).2 ⟨h1, fun o ho => by
      rcases List.mem_append.1 ho with ho | ho
      · exact h2 o ho
      · simp at ho; subst ho; exact oneOp_okB c, h3, by simp; omega⟩
    rw [drawO]
    split
    · exact drawO_okB n _ _ (settleF_okB hx).1 (by rw [(settleF_okB hx).2]; simp; omega)
    · exact drawO_okB n _ _ hx (by simp; omega)
def wholeD (code : List Int) : Disk := settleF (drawD (newC code)).1
theorem wholeD_is {code : List Int} (hx : Ty.byte.slice.ok code) : Disk.ty.ok (wholeD code) ∧ diskOk (wholeD code) = true ∧ (wholeD code).pend = [] := by
  obtain ⟨h1, h2, h3⟩ := drawD_ok (newC_ok hx)
  obtain ⟨q1, q2⟩ := belowV_rng (newC code) (n := 6) (by omega)
  have hk : diskOk (drawD (newC code)).1 = true := drawO_okB _ _ _ (by decide) (by simp; omega)
  exact ⟨settleF_ok h2, settleF_okB hk⟩
/- 12: loop.example/g00464/spec.DrawDisk -/
def A12 : AC := (.seq (.ops [⟨(some 2), none, .w (.alloc [.em, .em])⟩])
  (.seq (.ops [⟨(some 4), none, .q (.mov (.t 0))⟩, ⟨(some 5), none, .c (.c (.clo 20 [])) [(.t 4)]⟩, ⟨(some 3), none, .q (.mov (.t 5))⟩])
  (.seq (.ops [⟨(some 6), none, .q (.mov (.t 3))⟩, ⟨(some 7), none, .c (.c (.clo 37 [])) [(.t 6)]⟩, ⟨(some 8), none, .c (.c (.clo 36 [])) [(.t 7)]⟩, ⟨none, none, .w (.store 2 (.t 2) (.t 8))⟩])
  .ret)))
theorem K12 : Tryd.f12.body.bind (comp Tryd.prog) = some A12 ∧ Tryd.f12.ntmps = 9 ∧ Tryd.f12.results.toList.mapM (resB Tryd.prog) = some [.load true 2 (.t 2)] := ⟨by kernel_rfl, by kernel_rfl, by kernel_rfl⟩
theorem R12 (code : List Int) (hx : Ty.byte.slice.ok code) : Ret Tryd.prog 12 [.ro (rows B code) code.length] (.agg (Disk.ty.oc (wholeD code))) [.un] := by
  have fr : ∀ c : Cur, idfree.idfreeL c.cs = true := fun c => rfl
  have hc0 := newC_ok hx
  obtain ⟨h1, h2, h3⟩ := drawD_ok hc0
  have hf : flt (.agg (Disk.ty.oc (settleF (drawD (newC code)).1))) = true := by simpa [flt] using Disk.ty.flL (settleF (drawD (newC code)).1)
  refine Ret.run Tryd.func12 K12 (by simp) rfl rfl 900 ?_
  simp [A12, iniρ, over]
  refine callK.cut [.ro] 50 (r := [(none, none)]) rfl (by kernel_rfl) rfl (by rfl) (by rfl) (by simp [closedB, shut, upd_app]) (by simp [shutArgs, roc_ro, upd_app]; rfl) (by rfl) (R20 code hx) (by rfl) (by rfl) (by simp [inst, upd_app]; exact ⟨rfl, rfl⟩) rfl ?_
  simp [over]
  refine callK.bx (b := 50) 7 rfl (by kernel_rfl) (by simp [upd_app]) (by simp [upd_app]) (fr _) (by simp [upd_app]) (by simp) (R37 _ hc0) rfl (by simp [inst, instL, Disk.oce, upd_app]; exact ⟨rfl, rfl⟩) rfl ?_
  simp [over]
  refine callK.ro 8 rfl (by kernel_rfl) (ys := [.agg (Disk.ty.cs (drawD (newC code)).1)]) (by simp [roc_agg8, List.mapM_cons, List.mapM_nil, Doc.roc7, Op.roc7, upd_app, Disk.cse]) (R36 _ h2) hf (by simp [inst, instL, Disk.oce, upd_app]; exact ⟨rfl, rfl⟩) rfl ?_
  simp [over, ex1, Doc.ocl, Doc.frL, Op.ocl, Op.frL, Disk.oce, wholeD]
def atV (code : List Int) (i : Nat) : Int := if i < code.length then code[i]?.getD 0 else ((i : Int) * 31 + code.length * 7) % 256
theorem atV_rng {code : List Int} (hx : Ty.byte.slice.ok code) (i : Nat) : 0 ≤ atV code i ∧ atV code i ≤ 255 := by
  unfold atV
  split
  · rename_i h
    have := hx.2 (code[i]) (List.getElem_mem h)
    rw [List.getElem?_eq_getElem h, Option.getD_some]
    exact this
  · omega
/- 13: loop.example/g00464/laws.at -/
def A13 : AC := (.seq (.ops [⟨(some 4), none, .q (.mov (.c (.sc (.int .i64 0))))⟩])
  (.seq (.seq (.ops [⟨(some 5), none, .q (.mov (.t 1))⟩, ⟨(some 6), none, .q (.mov (.t 0))⟩, ⟨(some 7), none, .q (.llen (.t 6))⟩, ⟨(some 8), none, .q (.bin .lss (.t 5) (.t 7))⟩])
  (.cond (.t 8) (.seq (.ops [⟨(some 9), none, .q (.mov (.t 0))⟩, ⟨(some 10), none, .q (.mov (.t 1))⟩, ⟨(some 11), none, .q (.iadr 1 (.t 9) (.t 10))⟩, ⟨(some 12), none, .q (.load false 1 (.t 11))⟩, ⟨(some 13), none, .q (.cvi .i64 (.t 12))⟩, ⟨(some 4), none, .q (.mov (.t 13))⟩])
  .ret)
  .skip))
  (.seq (.ops [⟨(some 14), none, .q (.mov (.t 1))⟩, ⟨(some 15), none, .q (.bin .mul (.t 14) (.c (.sc (.int .i64 31))))⟩, ⟨(some 16), none, .q (.mov (.t 0))⟩, ⟨(some 17), none, .q (.llen (.t 16))⟩, ⟨(some 18), none, .q (.bin .mul (.t 17) (.c (.sc (.int .i64 7))))⟩, ⟨(some 19), none, .q (.bin .add (.t 15) (.t 18))⟩, ⟨(some 20), none, .q (.bin .rem (.t 19) (.c (.sc (.int .i64 256))))⟩, ⟨(some 4), none, .q (.mov (.t 20))⟩])
  .ret)))
theorem K13 : Tryd.f13.body.bind (comp Tryd.prog) = some A13 ∧ Tryd.f13.ntmps = 21 ∧ Tryd.f13.results.toList.mapM (resB Tryd.prog) = some [.mov (.t 4)] := ⟨by kernel_rfl, by kernel_rfl, by kernel_rfl⟩
theorem R13 (code : List Int) (hx : Ty.byte.slice.ok code) (i : Nat) (hi : i < 1000) : Ret Tryd.prog 13 [.ro (rows B code) code.length, .sc (.int .i64 i)] (.sc (.int .i64 (atV code i))) [.un, .un] := by
  have hb : code.length * 1 ≤ 140737488351232 := hx.1
  have hv := atV_rng hx i
  refine Ret.run Tryd.func13 K13 (by simp) rfl rfl 500 ?_
  by_cases h : i < code.length
  · have hlt : (i : Int) < code.length := by omega
    obtain ⟨br, hd⟩ := rowsB_get code i h
    have e : atV code i = code[i]?.getD 0 := by unfold atV; rw [if_pos h]
    rw [e] at hv ⊢
    have hw : IntKind.i64.wrap (code[i]?.getD 0) = code[i]?.getD 0 := wrap_i64 (by omega) (by omega)
    have hw2 : IntKind.i64.wrap code[i] = code[i] := by simpa [h] using hw
    simp [A13, iniρ, hlt, h, hd, hw, hw2]
  · have hlt : ¬ (i : Int) < code.length := by omega
    have e : atV code i = ((i : Int) * 31 + code.length * 7) % 256 := by unfold atV; rw [if_neg h]
    rw [e]
    have w1 : IntKind.i64.wrap ((i : Int) * 31) = (i : Int) * 31 := wrap_i64 (by omega) (by omega)
    have w2 : IntKind.i64.wrap ((code.length : Int) * 7) = (code.length : Int) * 7 := wrap_i64 (by omega) (by omega)
    have w3 : IntKind.i64.wrap ((i : Int) * 31 + (code.length : Int) * 7) = (i : Int) * 31 + (code.length : Int) * 7 := wrap_i64 (by omega) (by omega)
    have w4 : ((i : Int) * 31 + (code.length : Int) * 7).tmod 256 = ((i : Int) * 31 + (code.length : Int) * 7) % 256 := by rw [Int.tmod_eq_emod_of_nonneg (by omega)]
    have w5 : IntKind.i64.wrap (((i : Int) * 31 + (code.length : Int) * 7) % 256) = ((i : Int) * 31 + (code.length : Int) * 7) % 256 := wrap_i64 (by omega) (by omega)
    simp [A13, iniρ, hlt, w1, w2, w3, w4, w5]
structure Fnd where
  v : Bool
theorem nb_list : newB.toList = [110, 101, 119] := by rw [ByteArray.toList_eq]; rfl
theorem lk_list : lockB.toList = [108, 111, 99, 107] := by rw [ByteArray.toList_eq]; rfl
def docEq (x y : Doc) : Bool := strEq x.name y.name && strEq x.text y.text
theorem docEq_self (x : Doc) : docEq x x = true := by simp [docEq, strEq]
/- 5: loop.example/g00464/laws.big -/
def A5 : AC := (.seq (.ops [⟨(some 2), none, .q (.mov (.c (.sc (.bool false))))⟩])
  (.seq (.ops [⟨(some 3), none, .q (.mov (.t 0))⟩, ⟨(some 4), none, .q (.llen (.t 3))⟩, ⟨(some 5), none, .q (.bin .gtr (.t 4) (.c (.sc (.int .i64 1048576))))⟩, ⟨(some 2), none, .q (.mov (.t 5))⟩])
  .ret))
theorem K5 : Tryd.f5.body.bind (comp Tryd.prog) = some A5 ∧ Tryd.f5.ntmps = 6 ∧ Tryd.f5.results.toList.mapM (resB Tryd.prog) = some [.mov (.t 2)] := ⟨by kernel_rfl, by kernel_rfl, by kernel_rfl⟩
theorem R5 (code : List Int) : Ret Tryd.prog 5 [.ro (rows B code) code.length] (.sc (.bool (decide ((1048576 : Int) < code.length)))) [.un] := by
  refine Ret.run Tryd.func5 K5 (by simp) rfl rfl 500 ?_
  simp [A5, iniρ]
/- 4: loop.example/g00464/laws.FnWhole -/
def A4 : AC := (.seq (.ops [⟨(some 2), none, .q (.mov (.c (.sc (.bool false))))⟩])
  (.seq (.seq (.ops [⟨(some 15), none, .q (.mov (.t 0))⟩, ⟨(some 16), none, .c (.c (.clo 5 [])) [(.t 15)]⟩])
  (.cond (.t 16) (.seq (.ops [⟨(some 2), none, .q (.mov (.c (.sc (.bool true))))⟩])
  .ret)
  .skip))
  (.seq (.ops [⟨(some 17), none, .q (.mov (.t 0))⟩, ⟨(some 18), none, .c (.c (.clo 12 [])) [(.t 17)]⟩, ⟨(some 3), none, .w (.alloc [.em, .em])⟩, ⟨none, none, .w (.store 2 (.t 3) (.t 18))⟩])
  (.seq (.ops [⟨(some 19), none, .q (.mov (.t 0))⟩, ⟨(some 20), none, .c (.c (.clo 13 [])) [(.t 19), (.c (.sc (.int .i64 2)))]⟩, ⟨(some 21), none, .q (.bin .rem (.t 20) (.c (.sc (.int .i64 5))))⟩, ⟨(some 4), none, .q (.mov (.t 21))⟩])
  (.seq (.ops [⟨(some 22), none, .q (.mov (.t 0))⟩, ⟨(some 23), none, .c (.c (.clo 13 [])) [(.t 22), (.c (.sc (.int .i64 3)))]⟩, ⟨(some 24), none, .c (.c (.clo 14 [])) [(.t 23)]⟩, ⟨(some 25), none, .q (.bin .add (.c (.sc (.string ⟨#[116, 101, 120, 116, 32]⟩))) (.t 24))⟩, ⟨(some 5), none, .q (.mov (.t 25))⟩])
  (.seq (.ops [⟨(some 26), none, .q (.load true 2 (.t 3))⟩, ⟨(some 27), none, .c (.c (.clo 15 [])) [(.t 26)]⟩, ⟨(some 6), none, .q (.mov (.t 27))⟩])
  (.seq (.ops [⟨(some 28), none, .q (.load true 2 (.t 3))⟩, ⟨(some 29), none, .q (.mov (.t 5))⟩, ⟨(some 30), none, .q (.mov (.t 4))⟩, ⟨(some 31), none, .c (.c (.clo 16 [])) [(.t 28), (.t 29), (.t 30)]⟩, ⟨(some 7), none, .w (.alloc [.em, .em])⟩, ⟨none, none, .w (.store 2 (.t 7) (.t 31))⟩])
  (.seq (.any [(⟨(some 32), none, .q (.load true 2 (.t 7))⟩, []), (⟨(some 33), none, .q (.mov (.t 0))⟩, []), (⟨(some 34), none, .c (.c (.clo 13 [])) [(.t 33), (.c (.sc (.int .i64 4)))]⟩, [1]), (⟨(some 35), none, .c (.c (.clo 17 [])) [(.t 32), (.t 34)]⟩, [0, 2, 2]), (⟨(some 8), none, .w (.alloc [.em, .em])⟩, []), (⟨none, none, .w (.store 2 (.t 8) (.t 35))⟩, [4, 3, 3, 0, 1, 2, 3, 4])])
  (.seq (.ops [⟨(some 36), none, .q (.load true 2 (.t 8))⟩, ⟨(some 37), none, .c (.c (.clo 15 [])) [(.t 36)]⟩, ⟨(some 9), none, .q (.mov (.t 37))⟩])
  (.seq (.ops [⟨(some 38), none, .q (.fadr 0 (.t 3))⟩, ⟨(some 39), none, .q (.load false 1 (.t 38))⟩, ⟨(some 40), none, .q (.llen (.t 39))⟩, ⟨(some 41), none, .q (.bin .lss (.t 40) (.c (.sc (.int .i64 5))))⟩, ⟨(some 10), none, .q (.mov (.t 41))⟩])
  (.seq (.ops [⟨(some 42), none, .q (.load true 2 (.t 8))⟩, ⟨(some 43), none, .c (.c (.clo 18 [])) [(.t 42)]⟩, ⟨(some 11), none, .q (.mov (.t 43))⟩])
  (.seq (.seq (.ops [⟨(some 12), none, .q (.mov (.c (.sc (.int .i64 0))))⟩])
  (.block 0 (.loop (.seq (.seq (.ops [⟨(some 44), none, .q (.mov (.t 12))⟩, ⟨(some 45), none, .q (.fadr 0 (.t 3))⟩, ⟨(some 46), none, .q (.load false 1 (.t 45))⟩, ⟨(some 47), none, .q (.llen (.t 46))⟩, ⟨(some 48), none, .q (.bin .lss (.t 44) (.t 47))⟩])
  (.cond (.t 48) .skip
  (.exit 0)))
  (.seq (.block 1 (.seq (.seq (.ops [⟨(some 51), none, .q (.fadr 0 (.t 3))⟩, ⟨(some 52), none, .q (.load false 1 (.t 51))⟩, ⟨(some 53), none, .q (.mov (.t 12))⟩, ⟨(some 54), none, .q (.iadr 2 (.t 52) (.t 53))⟩, ⟨(some 55), none, .q (.fadr 0 (.t 54))⟩, ⟨(some 56), none, .q (.load false 1 (.t 55))⟩, ⟨(some 57), none, .q (.bin .eql (.t 56) (.c (.sc (.string ⟨#[110, 101, 119]⟩))))⟩, ⟨(some 58), none, .q (.mov (.t 57))⟩, ⟨(some 59), (some (58, false)), .q (.fadr 0 (.t 3))⟩, ⟨(some 60), (some (58, false)), .q (.load false 1 (.t 59))⟩, ⟨(some 61), (some (58, false)), .q (.mov (.t 12))⟩, ⟨(some 62), (some (58, false)), .q (.iadr 2 (.t 60) (.t 61))⟩, ⟨(some 63), (some (58, false)), .q (.fadr 0 (.t 62))⟩, ⟨(some 64), (some (58, false)), .q (.load false 1 (.t 63))⟩, ⟨(some 65), (some (58, false)), .q (.bin .eql (.t 64) (.c (.sc (.string ⟨#[108, 111, 99, 107]⟩))))⟩, ⟨(some 66), none, .q (.pick (.t 58) (.c (.sc (.bool true))) (.t 65))⟩])
  (.cond (.t 66) (.exit 1)
  .skip))
  (.seq (.ops [⟨(some 13), none, .q (.mov (.c (.sc (.bool false))))⟩])
  (.seq (.seq (.ops [⟨(some 14), none, .q (.mov (.c (.sc (.int .i64 0))))⟩])
  (.block 2 (.loop (.seq (.seq (.ops [⟨(some 67), none, .q (.mov (.t 14))⟩, ⟨(some 68), none, .q (.mov (.t 11))⟩, ⟨(some 69), none, .q (.llen (.t 68))⟩, ⟨(some 70), none, .q (.bin .lss (.t 67) (.t 69))⟩])
  (.cond (.t 70) .skip
  (.exit 2)))
  (.seq (.block 3 (.any [(⟨(some 73), none, .q (.mov (.t 13))⟩, []), (⟨(some 74), none, .q (.mov (.t 73))⟩, [0]), (⟨(some 75), (some (74, false)), .q (.mov (.t 11))⟩, [1]), (⟨(some 76), (some (74, false)), .q (.mov (.t 14))⟩, [1]), (⟨(some 77), (some (74, false)), .q (.iadr 2 (.t 75) (.t 76))⟩, [2, 3, 1]), (⟨(some 78), (some (74, false)), .q (.load true 2 (.t 77))⟩, [4, 1]), (⟨(some 79), (some (74, false)), .q (.fadr 0 (.t 3))⟩, [1]), (⟨(some 80), (some (74, false)), .q (.load false 1 (.t 79))⟩, [6, 1]), (⟨(some 81), (some (74, false)), .q (.mov (.t 12))⟩, [1]), (⟨(some 82), (some (74, false)), .q (.iadr 2 (.t 80) (.t 81))⟩, [7, 8, 1]), (⟨(some 83), (some (74, false)), .q (.load true 2 (.t 82))⟩, [9, 1]), (⟨(some 84), (some (74, false)), .q (.aeq false [(0, 0), (1, 0)] (.t 78) (.t 83))⟩, [5, 10, 1]), (⟨(some 85), none, .q (.pick (.t 74) (.c (.sc (.bool true))) (.t 84))⟩, [1, 11]), (⟨(some 13), none, .q (.mov (.t 85))⟩, [12, 1, 0, 1, 2, 3, 4, 5, 6, 7, 8, 9, 10, 11, 12])]))
  (.ops [⟨(some 71), none, .q (.mov (.t 14))⟩, ⟨(some 72), none, .q (.bin .add (.t 71) (.c (.sc (.int .i64 1))))⟩, ⟨(some 14), none, .q (.mov (.t 72))⟩]))))))
  (.seq (.ops [⟨(some 86), none, .q (.mov (.t 13))⟩, ⟨(some 87), none, .q (.not (.t 86))⟩])
  (.cond (.t 87) (.seq (.ops [⟨(some 2), none, .q (.mov (.c (.sc (.bool false))))⟩])
  .ret)
  .skip))))))
  (.ops [⟨(some 49), none, .q (.mov (.t 12))⟩, ⟨(some 50), none, .q (.bin .add (.t 49) (.c (.sc (.int .i64 1))))⟩, ⟨(some 12), none, .q (.mov (.t 50))⟩]))))))
  (.seq (.ops [⟨(some 88), none, .q (.load true 2 (.t 8))⟩, ⟨(some 89), none, .c (.c (.clo 19 [])) [(.t 88)]⟩, ⟨(some 90), none, .q (.mov (.t 89))⟩, ⟨(some 91), (some (90, true)), .q (.fadr 1 (.t 8))⟩, ⟨(some 92), (some (90, true)), .q (.load false 1 (.t 91))⟩, ⟨(some 93), (some (90, true)), .q (.llen (.t 92))⟩, ⟨(some 94), (some (90, true)), .q (.bin .eql (.t 93) (.c (.sc (.int .i64 0))))⟩, ⟨(some 95), none, .q (.pick (.t 90) (.t 94) (.c (.sc (.bool false))))⟩, ⟨(some 96), none, .q (.mov (.t 95))⟩, ⟨(some 97), (some (96, true)), .q (.mov (.t 9))⟩, ⟨(some 98), (some (96, true)), .q (.mov (.t 6))⟩, ⟨(some 99), (some (96, true)), .q (.bin .eql (.t 97) (.t 98))⟩, ⟨(some 100), (some (96, true)), .q (.mov (.t 99))⟩, ⟨(some 101), (some (100, false)), .q (.mov (.t 9))⟩, ⟨(some 102), (some (100, false)), .q (.mov (.t 5))⟩, ⟨(some 103), (some (100, false)), .q (.bin .eql (.t 101) (.t 102))⟩, ⟨(some 104), (some (100, false)), .q (.mov (.t 103))⟩, ⟨(some 105), (some (104, true)), .q (.mov (.t 4))⟩, ⟨(some 106), (some (104, true)), .q (.bin .geq (.t 105) (.c (.sc (.int .i64 3))))⟩, ⟨(some 107), (some (100, false)), .q (.pick (.t 104) (.t 106) (.c (.sc (.bool false))))⟩, ⟨(some 108), (some (96, true)), .q (.pick (.t 100) (.c (.sc (.bool true))) (.t 107))⟩, ⟨(some 109), none, .q (.pick (.t 96) (.t 108) (.c (.sc (.bool false))))⟩, ⟨(some 110), none, .q (.mov (.t 109))⟩, ⟨(some 111), (some (110, true)), .q (.mov (.t 4))⟩, ⟨(some 112), (some (110, true)), .q (.bin .lss (.t 111) (.c (.sc (.int .i64 4))))⟩, ⟨(some 113), (some (110, true)), .q (.mov (.t 112))⟩, ⟨(some 114), (some (113, false)), .q (.mov (.t 10))⟩, ⟨(some 115), (some (113, false)), .q (.not (.t 114))⟩, ⟨(some 116), (some (110, true)), .q (.pick (.t 113) (.c (.sc (.bool true))) (.t 115))⟩, ⟨(some 117), (some (110, true)), .q (.mov (.t 116))⟩, ⟨(some 118), (some (117, false)), .q (.mov (.t 9))⟩, ⟨(some 119), (some (117, false)), .q (.mov (.t 5))⟩, ⟨(some 120), (some (117, false)), .q (.bin .eql (.t 118) (.t 119))⟩, ⟨(some 121), (some (110, true)), .q (.pick (.t 117) (.c (.sc (.bool true))) (.t 120))⟩, ⟨(some 122), none, .q (.pick (.t 110) (.t 121) (.c (.sc (.bool false))))⟩, ⟨(some 2), none, .q (.mov (.t 122))⟩])
  .ret)))))))))))))
theorem K4 : Tryd.f4.body.bind (comp Tryd.prog) = some A4 ∧ Tryd.f4.ntmps = 123 ∧ Tryd.f4.results.toList.mapM (resB Tryd.prog) = some [.mov (.t 2)] := ⟨by kernel_rfl, by kernel_rfl, by kernel_rfl⟩
set_option maxHeartbeats 8000000 in
set_option maxRecDepth 100000 in
theorem R4 (code : List Int) (hx : Ty.byte.slice.ok code) : Ret Tryd.prog 4 [.ro (rows Ty.byte.cs code) code.length] (.sc (.bool true)) [.un] := by
  change Ret Tryd.prog 4 [.ro (rows B code) code.length] (.sc (.bool true)) [.un]
  obtain ⟨hdo, hdk, hdp⟩ := wholeD_is hx
  have rD := R12 code hx
  obtain ⟨d, hde⟩ : ∃ d, d = wholeD code := ⟨_, rfl⟩
  rw [← hde] at hdo hdk hdp rD
  obtain ⟨a0, a1⟩ := atV_rng hx 2
  obtain ⟨b0, b1⟩ := atV_rng hx 3
  have rA2 := R13 code hx 2 (by omega)
  have rA3 := R13 code hx 3 (by omega)
  have rA4 := R13 code hx 4 (by omega)
  obtain ⟨x2, hx2⟩ : ∃ x2, x2 = atV code 2 := ⟨_, rfl⟩
  obtain ⟨x3, hx3⟩ : ∃ x3 : Nat, (x3 : Int) = atV code 3 := ⟨(atV code 3).toNat, by omega⟩
  obtain ⟨kp, hkp⟩ : ∃ kp, kp = atV code 4 := ⟨_, rfl⟩
  rw [← hx2] at a0 a1 rA2
  rw [← hx3] at b0 b1 rA3
  rw [← hkp] at rA4
  have rN := R14 x3 (by omega)
  have hts := numT_size x3
  obtain ⟨t, hte⟩ : ∃ t, t = (⟨#[116, 101, 120, 116, 32]⟩ : ByteArray) ++ numT x3 := ⟨_, rfl⟩
  have htz : t.size ≤ 400 := by
    rw [hte, ByteArray.size_append]
    show 5 + _ ≤ _
    omega
  have hsz : (⟨#[116, 101, 120, 116, 32]⟩ : ByteArray).size + (numT x3).size ≤ 9223372036854775807 := by
    show 5 + _ ≤ _
    omega
  have hm : x2.tmod 5 = x2 % 5 := by rw [Int.tmod_eq_emod_of_nonneg a0]
  obtain ⟨s, hse⟩ : ∃ s, s = x2 % 5 := ⟨_, rfl⟩
  have hs0 : 0 ≤ s := by omega
  have hs4 : s ≤ 4 := by omega
  have hws : IntKind.i64.wrap s = s := wrap_i64 (by omega) (by omega)
  obtain ⟨y, hye, y1, y2, y3, y4, y5⟩ := whole_is hdk hdp htz hs0 hs4 kp
  have rL := R15 d hdo
  have rV := R16 d t s hdo
  have hso := saveF_ok hdo t s
  obtain ⟨x, hxe⟩ : ∃ x, x = saveF d t s := ⟨_, rfl⟩
  rw [← hxe] at rV hso hye
  have rC := R17 x kp hso
  have hyo := crashF_ok hso kp
  rw [← hye] at rC hyo
  have rLy := R15 y hyo
  have rNy := R18 y hyo
  have rK := R19 y hyo
  obtain ⟨ls, hls⟩ : ∃ ls, ls = docsNowF y := ⟨_, rfl⟩
  rw [← hls] at rNy y3
  obtain ⟨old, hol⟩ : ∃ old, old = loadF d := ⟨_, rfl⟩
  rw [← hol] at rL y4
  obtain ⟨now, hno⟩ : ∃ now, now = loadF y := ⟨_, rfl⟩
  rw [← hno] at rLy y4 y5
  rw [y1] at rK
  have hlb : ls.length * 32 ≤ 140737488351232 := by rw [hls]; exact docs_lim hyo fun _ => true
  have hdb : d.sure.length * 32 ≤ 140737488351232 := hdo.1.1
  have fo : ∀ x : Disk, flt (.agg (Disk.ty.oc x)) = true := fun x => by simpa [flt] using Disk.ty.flL x
  clear hx2 hx3 hkp hxe hye hls hol hno hde
  refine Ret.run Tryd.func4 K4 (by simp) rfl rfl 900 ?_
  simp [A4, iniρ]
  refine callK.ro 0 rfl (by kernel_rfl) (by simp [roc_ro]) (R5 code) rfl rfl rfl ?_
  by_cases hb : (1048576 : Int) < code.length
  · simp [hb]
  simp [hb]
  refine callK.ro 18 rfl (by kernel_rfl) (by simp [roc_ro]) rD (fo d) (by simp [inst, instL, Disk.oce, upd_app]; exact ⟨rfl, rfl⟩) rfl ?_
  simp [over]
  refine callK.ro 0 rfl (by kernel_rfl) (by simp [roc_ro, roc_sc, upd_app]) rA2 rfl rfl rfl ?_
  simp [hm, ← hse, hws]
  refine callK.ro 0 rfl (by kernel_rfl) (by simp [roc_ro, roc_sc, upd_app]) rA3 rfl rfl rfl ?_
  simp
  refine callK.ro 0 rfl (by kernel_rfl) (by simp [roc_sc, upd_app]) rN rfl rfl rfl ?_
  simp [hsz, ← hte]
  refine callK.ro 0 rfl (by kernel_rfl) (ys := [.agg (Disk.ty.cs d)]) (by simp [roc_agg8, List.mapM_cons, List.mapM_nil, Doc.roc7, Op.roc7, upd_app, Disk.cse]) rL rfl rfl rfl ?_
  simp
  refine callK.ro 31 rfl (by kernel_rfl) (ys := [.agg (Disk.ty.cs d), .sc (.string t), .sc (.int .i64 s)]) (by simp [roc_agg8, List.mapM_cons, List.mapM_nil, Doc.roc7, Op.roc7, roc_sc, upd_app, Disk.cse]) rV (fo x) (by simp [inst, instL, Disk.oce, upd_app]; exact ⟨rfl, rfl⟩) rfl ?_
  simp [over]
  refine T.textW 400 [([], [8]), ([], [8]), ([], [8]), ([36000, 36001], [8]), ([8], [36000, 36001]), ([8], [])] mixed (by kernel_rfl) (by kernel_rfl) ?_
  simp [over, merge_nil, hideH_nil]
  refine callWK.ro 0 rfl (by kernel_rfl) (by simp [roc_ro, roc_sc, upd_app]) rA4 rfl rfl (by rfl) ?_
  simp [over, merge_nil, hideH_nil]
  refine callWK.ro 35 rfl (by kernel_rfl) (ys := [.agg (Disk.ty.cs x), .sc (.int .i64 kp)]) (by simp [roc_agg8, List.mapM_cons, List.mapM_nil, Doc.roc7, Op.roc7, roc_sc, upd_app, hideH_app, merge_app, Disk.cse]) rC (fo y) (by simp [inst, instL, Disk.oce, upd_app, hideH_app, merge_app]; exact ⟨rfl, rfl⟩) (by rfl) ?_
  simp [over, merge_nil, hideH_nil]
  refine callK.ro 0 rfl (by kernel_rfl) (ys := [.agg (Disk.ty.cs y)]) (by simp [roc_agg8, List.mapM_cons, List.mapM_nil, Doc.roc7, Op.roc7, upd_app, hideH_app, merge_app, Disk.cse]) rLy rfl rfl rfl ?_
  simp
  refine callK.ro 43 rfl (by kernel_rfl) (ys := [.agg (Disk.ty.cs y)]) (by simp [roc_agg8, List.mapM_cons, List.mapM_nil, Doc.roc7, Op.roc7, upd_app, hideH_app, merge_app, Disk.cse]) rNy (Doc.ty.flo ls) (by simp [inst, instL, upd_app, hideH_app, merge_app]; exact ⟨rfl, rfl⟩) rfl ?_
  simp
  refine T.rounds (μ := fun i : List Doc × List Doc => i.2.length)
    (fun i z => i.1 ++ i.2 = d.sure ∧ z.ρ 12 = .sc (.int .i64 i.1.length) ∧ z.ρ 3 = .ref 3 0 ∧ z.ρ 4 = .sc (.int .i64 s) ∧ z.ρ 5 = .sc (.string t) ∧ z.ρ 6 = .sc (.string old) ∧ z.ρ 8 = .ref 8 0 ∧ z.ρ 9 = .sc (.string now) ∧ z.ρ 10 = .sc (.bool (decide ((d.sure.length : Int) < 5))) ∧ z.ρ 11 = .sl 43 0 ls.length 2 false ∧ z.h 3 = some (some [.sl 19000 0 d.sure.length 2 false, .sl 19001 0 d.pend.length 3 false]) ∧ z.h 19000 = some (some (rows Doc.ty.oc d.sure)) ∧ z.h 8 = some (some [.sl 36000 0 y.sure.length 2 false, .sl 36001 0 y.pend.length 3 false]) ∧ z.h 36000 = some (some (rows Doc.ty.oc y.sure)) ∧ z.h 36001 = some (some (rows Op.ty.oc y.pend)) ∧ z.h 43 = some (some (rows Doc.ty.oc ls)) ∧ z.n = 123) ([], d.sure) (by simp [upd_app, hideH_app, merge_app]) ?_
  rintro ⟨pre, rest⟩ ⟨ρ, hh, n⟩ ⟨hxs, k12, g3, g4, g5, g6, g8, g9, g10, g11, e3, e19, e8, e36, e37, e43, rfl⟩
  simp only at hxs k12 g3 g4 g5 g6 g8 g9 g10 g11 e3 e19 e8 e36 e37 e43
  refine run_ok (n := 400) ?_
  cases rest with
  | nil =>
    simp at hxs
    subst hxs
    simp [k12, g3, g4, g5, g6, g8, g9, g10, g11, e3, e19, e8, e36, e37, e43]
    refine T.on 400 ?_
    simp [k12, g3, g4, g5, g6, g8, g9, g10, g11, e3, e19, e8, e36, e37, e43]
    refine callK.ro 0 rfl (by kernel_rfl) (ys := [.agg (Disk.ty.cs y)]) (by simp [roc_agg8, List.mapM_cons, List.mapM_nil, Doc.roc7, Op.roc7, upd_app, g3, g4, g5, g6, g8, g9, g10, g11, e3, e19, e8, e36, e37, e43, Disk.cse]) rK rfl rfl rfl ?_
    have z4 : now.toList = old.toList ∨ (now.toList = t.toList ∧ 3 ≤ s) := y4.imp (congrArg _) (And.imp_left (congrArg _))
    have z5 : s < 4 ∨ ¬ (d.sure.length : Int) < 5 ∨ now.toList = t.toList := y5.imp_right (Or.imp (fun h => by omega) (congrArg _))
    by_cases c1 : s < 4
    · rcases z4 with c3 | ⟨c4, c5⟩
      · simp [g3, g4, g5, g6, g8, g9, g10, g11, e3, e19, e8, e36, e37, e43, y2, c1, c3]
      · by_cases c3 : now.toList = old.toList
        · simp [g3, g4, g5, g6, g8, g9, g10, g11, e3, e19, e8, e36, e37, e43, y2, c1, c3]
        · rw [c4] at c3
          simp [g3, g4, g5, g6, g8, g9, g10, g11, e3, e19, e8, e36, e37, e43, y2, c1, c3, c4, c5]
    · have z5 := z5.resolve_left c1
      by_cases c2 : (d.sure.length : Int) < 5
      · have c4 := z5.resolve_left fun h => h c2
        have c5 : (3 : Int) ≤ s := by omega
        by_cases c3 : now.toList = old.toList
        · simp [g3, g4, g5, g6, g8, g9, g10, g11, e3, e19, e8, e36, e37, e43, y2, c1, c2, c3]
          rw [← c3, c4]
        · rw [c4] at c3
          simp [g3, g4, g5, g6, g8, g9, g10, g11, e3, e19, e8, e36, e37, e43, y2, c1, c2, c3, c4, c5]
      · rcases z4 with c3 | ⟨c4, c5⟩
        · simp [g3, g4, g5, g6, g8, g9, g10, g11, e3, e19, e8, e36, e37, e43, y2, c1, c2, c3]
        · by_cases c3 : now.toList = old.toList
          · simp [g3, g4, g5, g6, g8, g9, g10, g11, e3, e19, e8, e36, e37, e43, y2, c1, c2, c3]
          · rw [c4] at c3
            simp [g3, g4, g5, g6, g8, g9, g10, g11, e3, e19, e8, e36, e37, e43, y2, c1, c2, c3, c4, c5]
  | cons v rest =>
    have hlt : (pre.length : Int) < d.sure.length := by rw [← hxs]; simp only [List.length_append, List.length_cons]; omega
    have hdr := rows_drop Doc.ty.ocn pre (v :: rest)
    rw [hxs, rows_cons] at hdr
    have hdr : List.drop (pre.length * 2) (rows Doc.ty.oc d.sure) = Doc.ty.oc v ++ rows Doc.ty.oc rest := hdr
    have hw1 : IntKind.i64.wrap ((pre.length : Int) + 1) = pre.length + 1 := wrap_i64 (by omega) (by omega)
    by_cases c1 : v.name.toList = newB.toList
    · have c1' : v.name.toList = [110, 101, 119] := c1.trans nb_list
      simp [k12, g3, g4, g5, g6, g8, g9, g10, g11, e3, e19, e8, e36, e37, e43, hlt, hdr, Doc.oce, c1', hw1]
      refine ⟨pre ++ [v], rest, by simp, _, Le.refl _, ?_⟩
      simp [upd_app, hxs, g3, g4, g5, g6, g8, g9, g10, g11, e3, e19, e8, e36, e37, e43]
    have c1' : ¬ v.name.toList = [110, 101, 119] := fun e => c1 (e.trans nb_list.symm)
    by_cases c2 : v.name.toList = lockB.toList
    · have c2' : v.name.toList = [108, 111, 99, 107] := c2.trans lk_list
      simp [k12, g3, g4, g5, g6, g8, g9, g10, g11, e3, e19, e8, e36, e37, e43, hlt, hdr, Doc.oce, c1', c2', hw1]
      refine ⟨pre ++ [v], rest, by simp, _, Le.refl _, ?_⟩
      simp [upd_app, hxs, g3, g4, g5, g6, g8, g9, g10, g11, e3, e19, e8, e36, e37, e43]
    have c2' : ¬ v.name.toList = [108, 111, 99, 107] := fun e => c2 (e.trans lk_list.symm)
    have hv : v ∈ ls := y3 v (by rw [← hxs]; simp) (by simpa [sameN] using c1) (by simpa [sameN] using c2)
    have hany : ls.any (fun z => docEq z v) = true := List.any_eq_true.2 ⟨v, hv, docEq_self v⟩
    simp [k12, g3, g4, g5, g6, g8, g9, g10, g11, e3, e19, e8, e36, e37, e43, hlt, hdr, Doc.oce, c1', c2']
    refine T.rounds (μ := fun i : List Doc × List Doc × Fnd => i.2.1.length)
      (fun i z => i.1 ++ i.2.1 = ls ∧ i.1.any (fun z => docEq z v) = i.2.2.v ∧ z.ρ 13 = .sc (.bool i.2.2.v) ∧ z.ρ 14 = .sc (.int .i64 i.1.length) ∧ z.ρ 12 = .sc (.int .i64 pre.length) ∧ z.ρ 3 = .ref 3 0 ∧ z.ρ 4 = .sc (.int .i64 s) ∧ z.ρ 5 = .sc (.string t) ∧ z.ρ 6 = .sc (.string old) ∧ z.ρ 8 = .ref 8 0 ∧ z.ρ 9 = .sc (.string now) ∧ z.ρ 10 = .sc (.bool (decide ((d.sure.length : Int) < 5))) ∧ z.ρ 11 = .sl 43 0 ls.length 2 false ∧ z.h 3 = some (some [.sl 19000 0 d.sure.length 2 false, .sl 19001 0 d.pend.length 3 false]) ∧ z.h 19000 = some (some (rows Doc.ty.oc d.sure)) ∧ z.h 8 = some (some [.sl 36000 0 y.sure.length 2 false, .sl 36001 0 y.pend.length 3 false]) ∧ z.h 36000 = some (some (rows Doc.ty.oc y.sure)) ∧ z.h 36001 = some (some (rows Op.ty.oc y.pend)) ∧ z.h 43 = some (some (rows Doc.ty.oc ls)) ∧ z.n = 123) ([], ls, ⟨false⟩) (by simp [upd_app, k12, g3, g4, g5, g6, g8, g9, g10, g11, e3, e19, e8, e36, e37, e43]) ?_
    clear k12 g3 g4 g5 g6 g8 g9 g10 g11 e3 e19 e8 e36 e37 e43
    rintro ⟨pre2, rest2, ⟨f⟩⟩ ⟨ρ, hh, n⟩ ⟨hys, hf, k13, k14, k12, g3, g4, g5, g6, g8, g9, g10, g11, e3, e19, e8, e36, e37, e43, rfl⟩
    simp only at hys hf k13 k14 k12 g3 g4 g5 g6 g8 g9 g10 g11 e3 e19 e8 e36 e37 e43
    refine run_ok (n := 400) ?_
    cases rest2 with
    | nil =>
      simp at hys
      subst hys
      rw [hany] at hf
      subst hf
      simp [k13, k14, g3, g4, g5, g6, g8, g9, g10, g11, e3, e19, e8, e36, e37, e43]
      refine T.on 400 ?_
      simp [k12, k13, k14, g3, g4, g5, g6, g8, g9, g10, g11, e3, e19, e8, e36, e37, e43, hw1]
      refine ⟨pre ++ [v], rest, by simp, _, Le.refl _, ?_⟩
      simp [upd_app, hxs, g3, g4, g5, g6, g8, g9, g10, g11, e3, e19, e8, e36, e37, e43]
    | cons u rest2 =>
      have hlt2 : (pre2.length : Int) < ls.length := by rw [← hys]; simp only [List.length_append, List.length_cons]; omega
      have hdr2 := rows_drop Doc.ty.ocn pre2 (u :: rest2)
      rw [hys, rows_cons] at hdr2
      have hdr2 : List.drop (pre2.length * 2) (rows Doc.ty.oc ls) = Doc.ty.oc u ++ rows Doc.ty.oc rest2 := hdr2
      have hw2 : IntKind.i64.wrap ((pre2.length : Int) + 1) = pre2.length + 1 := wrap_i64 (by omega) (by omega)
      simp [k14, g3, g4, g5, g6, g8, g9, g10, g11, e3, e19, e8, e36, e37, e43, hlt2]
      refine T.textW 400 [([], []), ([], []), ([], []), ([], []), ([], []), ([], []), ([], []), ([], []), ([], []), ([], []), ([], []), ([], []), ([], []), ([], [])] mixed (by kernel_rfl) (by kernel_rfl) ?_
      have hde : (u.name.toList == v.name.toList && u.text.toList == v.text.toList) = docEq u v := rfl
      cases f
      · have ha : (pre2 ++ [u]).any (fun z => docEq z v) = docEq u v := by rw [List.any_append, hf]; simp
        simp [k12, k13, k14, g3, g4, g5, g6, g8, g9, g10, g11, e3, e19, e8, e36, e37, e43, hlt, hlt2, hdr, hdr2, Doc.oce, eqOff, seq1, hw2, merge_nil, hideH_nil, hde]
        refine ⟨pre2 ++ [u], rest2, by simp, ⟨docEq u v⟩, _, Le.refl _, by simpa using hys, ha, ?_⟩
        simp [upd_app, k12, g3, g4, g5, g6, g8, g9, g10, g11, e3, e19, e8, e36, e37, e43, hde]
      · have ha : (pre2 ++ [u]).any (fun z => docEq z v) = true := by rw [List.any_append, hf]; simp
        simp [k12, k13, k14, g3, g4, g5, g6, g8, g9, g10, g11, e3, e19, e8, e36, e37, e43, hlt, hlt2, hw2, merge_nil, hideH_nil]
        refine ⟨pre2 ++ [u], rest2, by simp, ⟨true⟩, _, Le.refl _, by simpa using hys, ha, ?_⟩
        simp [upd_app, k12, g3, g4, g5, g6, g8, g9, g10, g11, e3, e19, e8, e36, e37, e43]
end Go.Proofs.YtadoadomogceiaaDoor.Am
