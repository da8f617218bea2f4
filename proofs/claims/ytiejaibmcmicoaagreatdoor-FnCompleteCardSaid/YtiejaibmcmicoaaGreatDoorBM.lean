/- What the row FnComplete needs of the machine beyond the texts before; no condition. -/
import Derived.WalkKit
import Derived.Test.YtiejaibmcmicoaaGreatDoorAm0
import Derived.Laws.BytesArg
import Derived.Laws.StructEq
import Derived.Test.YtiejaibmcmicoaaGreatDoorAm1
import Derived.ChangeKeysEq
import Derived.Test.YtiejaibmcmicoaaGreatDoorAm2
import Derived.Test.YtiejaibmcmicoaaGreatDoorAm3
import Derived.Test.YtiejaibmcmicoaaGreatDoorAm4
import Derived.Laws.IdiomStrings
import Derived.Test.YtiejaibmcmicoaaGreatDoorAm5
import Derived.Test.YtiejaibmcmicoaaGreatDoorAm6
import Derived.Test.YtiejaibmcmicoaaGreatDoorAm7
import Derived.Test.YtiejaibmcmicoaaGreatDoorAm8
import Derived.Orders
import Derived.WalkSpells
import Derived.Test.YtiejaibmcmicoaaGreatDoorAm9
import Derived.Test.YtiejaibmcmicoaaGreatDoorAm10
import Derived.Test.YtiejaibmcmicoaaGreatDoorAmS
import Derived.Test.YtiejaibmcmicoaaGreatDoorAm11
import Derived.Test.YtiejaibmcmicoaaGreatDoorAmW
import Derived.Test.YtiejaibmcmicoaaGreatDoorAm12
import Derived.Test.YtiejaibmcmicoaaGreatDoorAmX
import Derived.Test.YtiejaibmcmicoaaGreatDoorAmU
import Derived.ProofKit
import Derived.SizedLaws
import Derived.ChangeOld
import Derived.Test.YtiejaibmcmicoaaGreatDoorAmT
import Derived.Test.YtiejaibmcmicoaaGreatDoorAmY
import Derived.Test.YtiejaibmcmicoaaGreatDoorAmZ
import Derived.Test.YtiejaibmcmicoaaGreatDoorAmM
import Derived.Laws.Externs
import Derived.Test.YtiejaibmcmicoaaGreatDoorAmD
import Derived.Test.YtiejaibmcmicoaaGreatDoorAmF
import Derived.Test.YtiejaibmcmicoaaGreatDoorAmN
import Derived.Test.YtiejaibmcmicoaaGreatDoorAmV
import Derived.Test.YtiejaibmcmicoaaGreatDoorProg
import Derived.KernelRfl
import Derived.Test.YtiejaibmcmicoaaGreatDoorAmP
import Derived.Lib.Strings
import Derived.Test.YtiejaibmcmicoaaGreatDoorAmG
import Derived.Test.YtiejaibmcmicoaaGreatDoorAmH
import Derived.Shelf.LaysM
import Derived.Shelf.Strconv.Itoa3
import Derived.Shelf.Strings.Search3
import Derived.Shelf.Strings.Count
import Derived.Shelf.Small.Strs
import Derived.Lib.LaidTab
import Derived.Test.YtiejaibmcmicoaaGreatDoorAmL
import Derived.Shelf.Strings.OnBuilder
import Derived.Test.YtiejaibmcmicoaaGreatDoorAmJ
import Derived.Shelf.Sort.Plain
namespace Go.Proofs.YtiejaibmcmicoaaGreatDoor.Am
open Go
set_option linter.unusedSimpArgs false
set_option linter.unusedVariables false
attribute [local congr] T_congr callK_congr callWK_congr
attribute [local simp] run_nil run_op0 run_opg run_seq run_cond run_block run_ret run_skip run_skip_after run_skip_blk run_exit run_exit_after run_exit_blk run_loop run_any runS_nil runS_op0 runS_opg exec_q exec_w exec_c exec_n rest_app restS_app execS_q execS_c aval dOk upd_app ev_t ev_c setO_some setO_none put_mk pinsOf isIo hasIo sbin endR fin resL one outL out1 clo1 cloL coe coeL shut shut.shutL wantA weff cellsOf fillA deref natOf ρ0_app h0_app plain plain.plainL keep_app keepH_app andThen_normal andThen_ret andThen_exit pop_nil pop_after pop_after_ret pop_after_exit pop_blk pop_blk_ret pop_blk_exit
section
variable {α : Type} (t : Ty α)
end
theorem Ty.roc8 {α : Type} (t : Ty α) (hd : t.d ≤ 6) {h : Hp} {b : Nat} {xs : List α} {lim : Bool} (hb : h b = some (some (rows t.oc xs))) : Am.roc h 8 (.sl b 0 xs.length t.n lim) = some (.ro (rows t.cs xs) xs.length) := t.roc (by omega) hb
end Go.Proofs.YtiejaibmcmicoaaGreatDoor.Am
namespace Go.Proofs.YtiejaibmcmicoaaGreatDoor.Am
open Go
set_option linter.unusedSimpArgs false
set_option linter.unusedVariables false
attribute [local congr] T_congr callK_congr callWK_congr
attribute [local simp] run_nil run_op0 run_opg run_seq run_cond run_block run_ret run_skip run_skip_after run_skip_blk run_exit run_exit_after run_exit_blk run_loop run_any runS_nil runS_op0 runS_opg runW_nil runW_op0 runW_opg exec_q exec_w exec_c exec_n execW_q execW_w execW_c restW_app hideH_app merge_app wblk rest_app restS_app execS_q execS_c aval dOk upd_app ev_t ev_c setO_some setO_none put_mk pinsOf isIo hasIo sbin endR fin resL one outL out1 clo1 cloL coe coeL shut shut.shutL wantA weff cellsOf fillA deref natOf ρ0_app h0_app plain plain.plainL keep_app keepH_app andThen_normal andThen_ret andThen_exit pop_nil pop_after pop_after_ret pop_after_exit pop_blk pop_blk_ret pop_blk_exit nilA srcOf srcCells keepR_app keepHR_app renA rb dstA lenA cutA
theorem roL {h : Hp} : ∀ (xs ys : List AV), xs.mapM (roc h 8) = some ys → (∀ st, exL ((xs.map fun _ => Md.ro).zip xs) st = some (xs.map fun _ => (none, none), st)) ∧ shutArgs h ((xs.map fun _ => Md.ro).zip xs) (xs.map fun _ => (none, none)) = some ys ∧
    (∀ st, backL (xs.map fun _ => (none, none)) (ys.map fun _ => .un) st = some st) ∧ flatL ((xs.map fun _ => Md.ro).zip xs) = some ((xs.map fun _ => Md.ro).zip xs) ∧ asm (xs.map fun _ => Md.ro) ys = some ys ∧ outF (xs.map fun _ => Md.ro) (ys.map fun _ => .un) = some (ys.map fun _ => .un) ∧ flt.fltL (ys.map fun _ => AV.un) = true := by
  intro xs
  induction xs with
  | nil => intro ys h; simp at h; subst h; exact ⟨fun _ => rfl, rfl, fun _ => rfl, rfl, rfl, rfl, rfl⟩
  | cons x xs ih =>
    intro ys h
    simp only [List.mapM_cons, Option.bind_eq_bind, Option.bind_eq_some_iff, Option.pure_def, Option.some.injEq] at h
    obtain ⟨y, hy, ys', hys', rfl⟩ := h
    obtain ⟨h1, h2, h3, h4, h5, h6, h7⟩ := ih ys' hys'
    refine ⟨fun st => by simp [exL, ex1, h1], by simp [shutArgs, hy, h2], fun st => by simp [backL, h3], by simp [flatL, flat1, h4], by simp [asm, h5], by simp [outF, h6], by simpa [flt.fltL, flt] using h7⟩
theorem callK.mv1 {P : Program} {p : List Nat} {fx a : AX} {axs : List AX} {dst : Option Nat} {st st3 : St} {K : St → Prop} {f : FuncId} {len sz : Nat} {cs vs : List AV} {ret y : AV} (d b : Nat) (hf : fx.ev st.ρ = .clo f []) (hc : callB P f = true) (ha : a.ev st.ρ = .sl b 0 len sz false) (hb : st.h b = some (some cs)) (hl : cs.length = len * sz) (hid : idfree.idfreeL cs = true)
    (hys : (axs.map (·.ev st.ρ)).mapM (roc (st.put b none).h 8) = some vs) (hR : Ret P f (.own cs len sz :: vs) ret (.un :: vs.map fun _ => .un)) (hfl : flt ret = true) (hi : inst 64 d ret (st.put b none) = some (y, st3)) (hd : dOk p dst st3.n = true) (hK : K (st3.setO dst y)) : callK P p fx (a :: axs) dst st K := by
  obtain ⟨h1, h2, h3, h4, h5, h6, h7⟩ := roL _ _ hys
  refine callK.gen (.mv sz :: axs.map fun _ => Md.ro) d (fl := (.mv sz, .sl b 0 len sz false) :: ((axs.map (·.ev st.ρ)).map fun _ => Md.ro).zip (axs.map (·.ev st.ρ))) (r := (some (.own cs len sz), none) :: (axs.map (·.ev st.ρ)).map fun _ => (none, none)) (st1 := st.put b none) (yl := .own cs len sz :: vs) (ys := .own cs len sz :: vs) (ol := .un :: vs.map fun _ => .un) (st2 := st.put b none) hf hc (by simp) ?_ ?_ ?_ ?_ hR ?_ ⟨hfl, ?_⟩ ?_ hi hd hK
  · have := h4
    simp only [List.map_map, Function.comp_def] at this ⊢
    simp only [List.append_nil, List.map_cons, List.zip_cons_cons, ha, flatL, flat1, this]; rfl
  · simp only [exL, ex1, hb]
    rw [if_pos ⟨trivial, hl, hid⟩]
    simp only [h1, Option.map_some]
  · simp only [shutArgs, h2, Option.map_some]
  · have := h5
    simp only [List.map_map, Function.comp_def] at this
    simp only [asm, this, Option.map_some]
  · have := h6
    simp only [List.map_map, Function.comp_def] at this
    simp only [outF]
    rw [show (vs.map fun _ => AV.un) = vs.map (fun _ => .un) from rfl, this]; rfl
  · simpa [flt.fltL, flt] using h7
  · simp only [backL, h3]
theorem roB {xs : List AV} : exB ((xs.map fun _ => Md.ro).zip xs) = [] := by
  induction xs with
  | nil => rfl
  | cons x xs ih => simpa [exB] using ih
theorem callWK.mv1 {P : Program} {fx a : AX} {axs : List AX} {dst : Option Nat} {E A : List Nat} {st st3 : St} {K : St → Prop} {f : FuncId} {len sz : Nat} {cs vs : List AV} {ret y : AV} (d b : Nat) (hf : fx.ev st.ρ = .clo f []) (hc : callB P f = true) (ha : a.ev st.ρ = .sl b 0 len sz false) (hb : hideH A st.h b = some (some cs)) (hl : cs.length = len * sz) (hid : idfree.idfreeL cs = true)
    (hys : (axs.map (·.ev st.ρ)).mapM (roc ((⟨st.ρ, hideH A st.h, st.n⟩ : St).put b none).h 8) = some vs) (hR : Ret P f (.own cs len sz :: vs) ret (.un :: vs.map fun _ => .un)) (hfl : flt ret = true) (hi : inst 64 d ret ((⟨st.ρ, hideH A st.h, st.n⟩ : St).put b none) = some (y, st3)) (hE : (b :: instB 64 d ret).all (fun b => E.elem b) = true)
    (hK : K ((⟨st.ρ, merge A st.h st3.h, st.n⟩ : St).setO dst y)) : callWK P fx (a :: axs) dst (E, A) st K := by
  obtain ⟨h1, h2, h3, h4, h5, h6, h7⟩ := roL _ _ hys
  refine callWK.gen (.mv sz :: axs.map fun _ => Md.ro) d (fl := (.mv sz, .sl b 0 len sz false) :: ((axs.map (·.ev st.ρ)).map fun _ => Md.ro).zip (axs.map (·.ev st.ρ))) (r := (some (.own cs len sz), none) :: (axs.map (·.ev st.ρ)).map fun _ => (none, none)) (st1 := (⟨st.ρ, hideH A st.h, st.n⟩ : St).put b none) (yl := .own cs len sz :: vs) (ys := .own cs len sz :: vs) (ol := .un :: vs.map fun _ => .un) (st2 := (⟨st.ρ, hideH A st.h, st.n⟩ : St).put b none) hf hc (by simp) ?_ ?_ ?_ ?_ hR ?_ ⟨hfl, ?_⟩ ?_ hi ?_ hK
  · have := h4
    simp only [List.map_map, Function.comp_def] at this ⊢
    simp only [List.append_nil, List.map_cons, List.zip_cons_cons, ha, flatL, flat1, this]; rfl
  · simp only [exL, ex1, hb]
    rw [if_pos ⟨trivial, hl, hid⟩]
    simp only [h1, Option.map_some]
  · simp only [shutArgs, h2, Option.map_some]
  · have := h5
    simp only [List.map_map, Function.comp_def] at this
    simp only [asm, this, Option.map_some]
  · have := h6
    simp only [List.map_map, Function.comp_def] at this
    simp only [outF]
    rw [show (vs.map fun _ => AV.un) = vs.map (fun _ => .un) from rfl, this]; rfl
  · simpa [flt.fltL, flt] using h7
  · simp only [backL, h3]
  · have := roB (xs := axs.map (·.ev st.ρ))
    simp only [exB, this]
    exact hE
def clipC (sz : Nat) : AC := .seq (.ops [⟨(some 2), none, .q (.mov (.c .em))⟩])
  (.seq (.ops [⟨(some 3), none, .q (.mov (.t 0))⟩, ⟨(some 4), none, .q (.mov (.t 0))⟩, ⟨(some 5), none, .q (.llen (.t 4))⟩, ⟨(some 6), none, .q (.mov (.t 0))⟩, ⟨(some 7), none, .q (.llen (.t 6))⟩, ⟨(some 8), none, .q (.sub3 sz (.t 3) none (some (.t 5)) (.t 7))⟩, ⟨(some 2), none, .q (.mov (.t 8))⟩])
  .ret)
theorem putX_at {A B xs : List AV} {k : Nat} (hA : A.length = k) : putX (A ++ B) k xs = A ++ (xs ++ B.drop xs.length) := by
  subst hA
  unfold putX
  rw [List.take_left', List.drop_append, List.drop_of_length_le (by omega), List.nil_append]
  · congr 3; omega
  · rfl
section
variable {P : Program} {α : Type}
theorem Ret.clip (t : Ty α) {F : FuncId} {fn : Func} (hf : P.funcs[F]? = some fn) (hk : fn.body.bind (comp P) = some (clipC t.n) ∧ fn.ntmps = 9 ∧ fn.results.toList.mapM (resB P) = some [.mov (.t 2)])
    (xs : List α) : Ret P F [.own (rows t.oc xs) xs.length t.n] (.own (rows t.oc xs) xs.length t.n) [.un] := by
  refine Ret.run hf hk (by simp) rfl rfl 500 ?_
  have hl := rows_length t.ocn xs
  simp [clipC, iniρ, ex1, hl, t.frL]
end
end Go.Proofs.YtiejaibmcmicoaaGreatDoor.Am
namespace Go.Proofs.YtiejaibmcmicoaaGreatDoor.Am
open Go
set_option linter.unusedVariables false
section
variable {a b : Int} {m n : Nat}
end
section
variable {P : Program} {p : List Nat} {i n j : Nat} {ts : List (Nat × AV)} {bs : List (Nat × List AV)} {k : List KI} {Q : AE → St → Prop} {s : St}
end
theorem rocS {h : Hp} {b : Nat} {xs : List ByteArray} {lim : Bool} (hb : h b = some (some (rows Ty.str.oc xs))) : roc h 8 (.sl b 0 xs.length 1 lim) = some (.ro (rows Ty.str.cs xs) xs.length) := Ty.str.roc8 (by decide) hb
section
variable {P : Program} {p : List Nat} {fx : AX} {xs : List AX} {dst : Option Nat} {st : St} {K : St → Prop} {f : FuncId} {caps ys cs : List AV} {len sz : Nat} {ret : AV} {st3 : St} {y : AV}
end
end Go.Proofs.YtiejaibmcmicoaaGreatDoor.Am
