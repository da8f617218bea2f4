/- The functions of the program, each by its contract: Docs2; no condition. -/
import Derived.Test.YtadoadomogceiaaDoorProg
import Derived.Test.YtadoadomogceiaaDoorAmZ
import Derived.Test.YtadoadomogceiaaDoorAmP
import Derived.Test.YtadoadomogceiaaDoorDocs
import Derived.KernelRfl
namespace Go.Proofs.YtadoadomogceiaaDoor.Am
open Go Go.Proofs
set_option linter.unusedSimpArgs false
set_option linter.unusedVariables false
attribute [local congr] T_congr callK_congr callWK_congr
attribute [local simp] run_nil run_op0 run_opg run_seq run_cond run_block run_ret run_skip run_skip_after run_skip_blk run_exit run_exit_after run_exit_blk run_loop run_any runS_nil runS_op0 runS_opg runW_nil runW_op0 runW_opg exec_q exec_w exec_c exec_n execW_q execW_w execW_c restW_app hideH_app merge_app wblk rest_app restS_app execS_q execS_c aval dOk upd_app ev_t ev_c setO_some setO_none put_mk pinsOf isIo hasIo sbin endR fin resL one outL out1 clo1 cloL coe coeL shut shut.shutL wantA weff cellsOf fillA deref natOf ρ0_app h0_app plain plain.plainL keep_app keepH_app andThen_normal andThen_ret andThen_exit pop_nil pop_after pop_after_ret pop_after_exit pop_blk pop_blk_ret pop_blk_exit nilA srcOf srcCells keepR_app keepHR_app renA rb
theorem lim_put {n : Nat} (h : n * 32 ≤ 140737488351232) : (n + 1) * 32 ≤ 140737488355328 ∧ n * 32 ≤ 140737488355328 ∧ n < 4611686018427387904 := by omega
/- 79: loop.example/g00464/impl.written -/
def A79 : AC := (.seq (.ops [⟨(some 6), none, .q (.mov (.c .em))⟩])
  (.seq (.ops [⟨(some 9), none, .q (.mov (.t 0))⟩, ⟨(some 10), none, .q (.mov (.t 1))⟩, ⟨(some 11), none, .c (.c (.clo 80 [])) [(.t 9), (.t 10)]⟩, ⟨(some 7), none, .q (.mov (.t 11))⟩])
  (.seq (.seq (.ops [⟨(some 12), none, .q (.mov (.t 7))⟩, ⟨(some 13), none, .q (.llen (.t 12))⟩, ⟨(some 14), none, .q (.bin .geq (.t 13) (.c (.sc (.int .i64 6))))⟩])
  (.cond (.t 14) (.seq (.ops [⟨(some 15), none, .q (.mov (.t 0))⟩, ⟨(some 6), none, .q (.mov (.t 15))⟩])
  .ret)
  .skip))
  (.seq (.ops [⟨(some 16), none, .q (.mov (.t 7))⟩, ⟨(some 0), none, .q (.mov (.t 16))⟩])
  (.seq (.ops [⟨(some 8), none, .q (.mov (.c (.sc (.int .i64 0))))⟩])
  (.seq (.block 0 (.loop (.seq (.seq (.ops [⟨(some 17), none, .q (.mov (.t 8))⟩, ⟨(some 18), none, .q (.mov (.t 0))⟩, ⟨(some 19), none, .q (.llen (.t 18))⟩, ⟨(some 20), none, .q (.bin .lss (.t 17) (.t 19))⟩, ⟨(some 21), none, .q (.mov (.t 20))⟩, ⟨(some 22), (some (21, true)), .q (.mov (.t 0))⟩, ⟨(some 23), (some (21, true)), .q (.mov (.t 8))⟩, ⟨(some 24), (some (21, true)), .q (.iadr 2 (.t 22) (.t 23))⟩, ⟨(some 25), (some (21, true)), .q (.fadr 0 (.t 24))⟩, ⟨(some 26), (some (21, true)), .q (.load false 1 (.t 25))⟩, ⟨(some 27), (some (21, true)), .q (.mov (.t 1))⟩, ⟨(some 28), (some (21, true)), .q (.bin .lss (.t 26) (.t 27))⟩, ⟨(some 29), none, .q (.pick (.t 21) (.t 28) (.c (.sc (.bool false))))⟩])
  (.cond (.t 29) .skip
  (.exit 0)))
  (.block 1 (.ops [⟨(some 30), none, .q (.mov (.t 8))⟩, ⟨(some 31), none, .q (.bin .add (.t 30) (.c (.sc (.int .i64 1))))⟩, ⟨(some 8), none, .q (.mov (.t 31))⟩])))))
  (.seq (.ops [⟨(some 32), none, .q (.mov (.t 0))⟩, ⟨(some 33), none, .q (.mov (.t 8))⟩, ⟨(some 34), none, .q (.mov (.t 1))⟩, ⟨(some 35), none, .q (.mov (.t 2))⟩, ⟨(some 36), none, .w (.build [(.sc (.string ⟨#[]⟩)), (.sc (.string ⟨#[]⟩))] [(0, 1, (.t 34)), (1, 1, (.t 35))])⟩, ⟨(some 37), none, .w (.bsl 2 1 [(.sc (.string ⟨#[]⟩)), (.sc (.string ⟨#[]⟩))] [(0, 2, (.t 36))])⟩, ⟨(some 38), none, .c (.c (.clo 90 [])) [(.t 32), (.t 33), (.t 37)]⟩, ⟨(some 6), none, .q (.mov (.t 38))⟩])
  .ret)))))))
theorem K79 : Tryd.f79.body.bind (comp Tryd.prog) = some A79 ∧ Tryd.f79.ntmps = 39 ∧ Tryd.f79.results.toList.mapM (resB Tryd.prog) = some [.mov (.t 6)] := ⟨by kernel_rfl, by kernel_rfl, by kernel_rfl⟩
theorem R79 (xs : List Doc) (n t : ByteArray) (hb : xs.length * 32 ≤ 140737488351232) : Ret Tryd.prog 79 [.own (rows Doc.ty.oc xs) xs.length 2, .sc (.string n), .sc (.string t)] (.own (rows Doc.ty.oc (putD xs ⟨n, t⟩)) (putD xs ⟨n, t⟩).length 2) [.un, .un, .un] := by
  refine Ret.run Tryd.func79 K79 (by simp) rfl rfl 500 ?_
  obtain ⟨o, ho⟩ : ∃ o, o = noD n xs := ⟨_, rfl⟩
  have hlo : o.length ≤ xs.length := by rw [ho]; exact noD_len n xs
  have hf1 : flt (.own (rows Doc.ty.oc o) o.length 2) = true := Doc.ty.flo o
  have hf2 : flt (.own (rows Doc.ty.oc xs) xs.length 2) = true := Doc.ty.flo xs
  simp [A79, iniρ]
  refine callK.own 11 rfl (by kernel_rfl) (by simp [Doc.roc8, roc_sc, upd_app]) (R80 xs n (by omega)) (Doc.ty.flo _) (by simp [upd_app]) rfl ?_
  rw [← ho]
  by_cases h6 : 6 ≤ o.length
  · have hP : putD xs ⟨n, t⟩ = xs := by unfold putD; rw [← ho, if_pos h6]
    have h6' : (6 : Int) ≤ o.length := by omega
    rw [hP]
    simp [h6', ex1, Doc.ocl, Doc.frL]
  · have hP : putD xs ⟨n, t⟩ = insD ⟨n, t⟩ o := by unfold putD; rw [← ho, if_neg h6]
    have h6' : ¬ (6 : Int) ≤ o.length := by omega
    rw [hP]
    simp [h6']
    refine T.rounds (μ := fun i : List Doc × List Doc => i.2.length)
      (fun i s => i.1 ++ i.2 = o ∧ (∀ y ∈ i.1, lessN n y = true) ∧ s.ρ 0 = .sl 11 0 o.length 2 false ∧ s.ρ 1 = .sc (.string n) ∧ s.ρ 2 = .sc (.string t) ∧ s.ρ 8 = .sc (.int .i64 i.1.length) ∧ s.h 11 = some (some (rows Doc.ty.oc o)) ∧ s.h 37 = none ∧ s.h 38 = none ∧ s.n = 39) ([], o) (by simp [upd_app]) ?_
    rintro ⟨pre, rest⟩ ⟨ρ, hh, m⟩ ⟨hx, hpre, k0, k1, k2, k8, kh, kf, kg, rfl⟩
    simp only at hx hpre k0 k1 k2 k8 kh kf kg
    refine run_ok (n := 400) ?_
    have hpl : pre.length ≤ o.length := by rw [← hx]; simp
    have hins : ∀ z : List Doc, rest = z → (∀ y, z.head? = some y → lessN n y = false) → o.take pre.length ++ (⟨n, t⟩ : Doc) :: o.drop pre.length = insD ⟨n, t⟩ o := by
      intro z hz hh
      have e : (o.takeWhile (lessN n)) = pre := by
        rw [← hx, hz, List.takeWhile_append_of_pos hpre]
        cases z with
        | nil => simp
        | cons y z => rw [List.takeWhile_cons_of_neg (by simp [hh y rfl]), List.append_nil]
      unfold insD
      rw [e]
    cases rest with
    | nil =>
      simp at hx
      subst hx
      have hI := hins [] rfl (by simp)
      have hil := insD_len ⟨n, t⟩ pre
      have hRI := R90 pre pre.length ⟨n, t⟩ hpl (by omega)
      rw [hI] at hRI
      have hfI : flt (.own (rows Doc.ty.oc (insD ⟨n, t⟩ pre)) (pre.length + 1) 2) = true := by have := Doc.ty.flo (insD ⟨n, t⟩ pre); rwa [hil] at this
      simp [k0, k8]
      refine T.on 400 ?_
      simp [k0, k1, k2, k8, kf, over]
      refine callK.mv2 38 11 37 rfl (by kernel_rfl) (by simp [upd_app, k0]) (by simp [upd_app, kh]) (Doc.ocl _) (Doc.frL _) (v := .int .i64 pre.length) (by simp [upd_app]) (by simp [upd_app]) (cs2 := Doc.ty.oc ⟨n, t⟩) (by simp [upd_app, Doc.oce]) rfl (by rfl) (by decide) hRI (hfI) (by simp [inst, upd_app, kg]; exact ⟨rfl, rfl⟩) rfl ?_
      simp [ex1, Doc.ocl, Doc.frL, hil]
    | cons x rest =>
      have hlt : (pre.length : Int) < o.length := by rw [← hx]; simp only [List.length_append, List.length_cons]; omega
      have hd := rows_drop Doc.ty.ocn pre (x :: rest)
      rw [hx, rows_cons, Doc.oce] at hd
      have hd : List.drop (pre.length * 2) (rows Doc.ty.oc o) = [.sc (.string x.name), .sc (.string x.text)] ++ rows Doc.ty.oc rest := hd
      have hw : IntKind.i64.wrap ((pre.length : Int) + 1) = pre.length + 1 := wrap_i64 (by omega) (by omega)
      cases hles : lessN n x with
      | true =>
        have hles' : Op.bytesLess x.name.toList n.toList = true := hles
        simp [k0, k1, k8, hlt, kh, hd, hles', hw]
        refine ⟨pre ++ [x], rest, by simp, _, Le.refl _, ?_⟩
        simp [upd_app, hx, k0, k1, k2, kh, kf, kg]
        intro y hy
        rcases hy with hy | rfl
        · exact hpre y hy
        · exact hles
      | false =>
      have hles' : Op.bytesLess x.name.toList n.toList = false := hles
      have hI := hins (x :: rest) rfl (by simp [hles])
      have hil := insD_len ⟨n, t⟩ o
      have hRI := R90 o pre.length ⟨n, t⟩ hpl (by omega)
      rw [hI] at hRI
      have hfI : flt (.own (rows Doc.ty.oc (insD ⟨n, t⟩ o)) (o.length + 1) 2) = true := by have := Doc.ty.flo (insD ⟨n, t⟩ o); rwa [hil] at this
      simp [k0, k1, k8, hlt, kh, hd, hles', hw]
      refine T.on 400 ?_
      simp [k0, k1, k2, k8, kf, over]
      refine callK.mv2 38 11 37 rfl (by kernel_rfl) (by simp [upd_app, k0]) (by simp [upd_app, kh]) (Doc.ocl _) (Doc.frL _) (v := .int .i64 pre.length) (by simp [upd_app]) (by simp [upd_app]) (cs2 := Doc.ty.oc ⟨n, t⟩) (by simp [upd_app, Doc.oce]) rfl (by rfl) (by decide) hRI (hfI) (by simp [inst, upd_app, kg]; exact ⟨rfl, rfl⟩) rfl ?_
      simp [ex1, Doc.ocl, Doc.frL, hil]
/- 68: loop.example/g00464/impl.done -/
def A68 : AC := (.seq (.ops [⟨(some 3), none, .w (.box (.t 1))⟩, ⟨(some 4), none, .q (.mov (.c .em))⟩])
  (.seq (.seq (.ops [⟨(some 7), none, .q (.fadr 0 (.t 3))⟩, ⟨(some 8), none, .q (.load false 1 (.t 7))⟩])
  (.block 0 (.seq (.ops [⟨(some 10), none, .q (.bin .eql (.t 8) (.c (.sc (.int .i64 1))))⟩, ⟨(some 9), none, .q (.mov (.t 10))⟩])
  (.cond (.t 9) (.seq (.ops [⟨(some 11), none, .q (.mov (.t 0))⟩, ⟨(some 12), none, .q (.fadr 1 (.t 3))⟩, ⟨(some 13), none, .q (.load false 1 (.t 12))⟩, ⟨(some 14), none, .q (.fadr 2 (.t 3))⟩, ⟨(some 15), none, .q (.load false 1 (.t 14))⟩, ⟨(some 16), none, .c (.c (.clo 79 [])) [(.t 11), (.t 13), (.t 15)]⟩, ⟨(some 4), none, .q (.mov (.t 16))⟩])
  .ret)
  (.seq (.ops [⟨(some 18), none, .q (.bin .eql (.t 8) (.c (.sc (.int .i64 2))))⟩, ⟨(some 17), none, .q (.mov (.t 18))⟩])
  (.cond (.t 17) (.seq (.ops [⟨(some 19), none, .q (.mov (.t 0))⟩, ⟨(some 20), none, .q (.fadr 1 (.t 3))⟩, ⟨(some 21), none, .q (.load false 1 (.t 20))⟩, ⟨(some 22), none, .c (.c (.clo 40 [])) [(.t 19), (.t 21)]⟩, ⟨(some 5), none, .q (.mov (.t 22))⟩])
  (.seq (.seq (.ops [⟨(some 23), none, .q (.mov (.t 5))⟩, ⟨(some 24), none, .q (.bin .lss (.t 23) (.c (.sc (.int .i64 0))))⟩])
  (.cond (.t 24) (.seq (.ops [⟨(some 25), none, .q (.mov (.t 0))⟩, ⟨(some 4), none, .q (.mov (.t 25))⟩])
  .ret)
  .skip))
  (.seq (.ops [⟨(some 26), none, .q (.mov (.t 0))⟩, ⟨(some 27), none, .q (.mov (.t 5))⟩, ⟨(some 28), none, .q (.iadr 2 (.t 26) (.t 27))⟩, ⟨(some 29), none, .q (.fadr 1 (.t 28))⟩, ⟨(some 30), none, .q (.load false 1 (.t 29))⟩, ⟨(some 6), none, .q (.mov (.t 30))⟩])
  (.seq (.any [(⟨(some 31), none, .q (.mov (.t 0))⟩, []), (⟨(some 32), none, .q (.fadr 1 (.t 3))⟩, []), (⟨(some 33), none, .q (.load false 1 (.t 32))⟩, [1]), (⟨(some 34), none, .c (.c (.clo 80 [])) [(.t 31), (.t 33)]⟩, [0, 2]), (⟨(some 35), none, .q (.fadr 2 (.t 3))⟩, []), (⟨(some 36), none, .q (.load false 1 (.t 35))⟩, [4]), (⟨(some 37), none, .q (.mov (.t 6))⟩, []), (⟨(some 38), none, .c (.c (.clo 79 [])) [(.t 34), (.t 36), (.t 37)]⟩, [3, 5, 6, 3]), (⟨(some 4), none, .q (.mov (.t 38))⟩, [7, 7, 0, 1, 2, 3, 4, 5, 6, 7])])
  .ret))))
  .skip))))))
  (.seq (.ops [⟨(some 39), none, .q (.mov (.t 0))⟩, ⟨(some 4), none, .q (.mov (.t 39))⟩])
  .ret)))
theorem K68 : Tryd.f68.body.bind (comp Tryd.prog) = some A68 ∧ Tryd.f68.ntmps = 40 ∧ Tryd.f68.results.toList.mapM (resB Tryd.prog) = some [.mov (.t 4)] := ⟨by kernel_rfl, by kernel_rfl, by kernel_rfl⟩
theorem R68 (xs : List Doc) (o : Op) (hb : xs.length * 32 ≤ 140737488351232) : Ret Tryd.prog 68 [.own (rows Doc.ty.oc xs) xs.length 2, .agg (Op.ty.cs o)] (.own (rows Doc.ty.oc (doD xs o)) (doD xs o).length 2) [.un, .un] := by
  refine Ret.run Tryd.func68 K68 (by simp) rfl rfl 500 ?_
  by_cases k1 : o.kind = 1
  · have hD : doD xs o = putD xs ⟨o.a, o.b⟩ := by unfold doD; rw [if_pos k1]
    rw [hD]
    simp [A68, iniρ, Op.cse, k1]
    refine callK.mv1 16 100000 rfl (by kernel_rfl) (by simp [upd_app]) (by simp [upd_app]) (Doc.ocl _) (Doc.frL _) (vs := [.sc (.string o.a), .sc (.string o.b)]) (by simp [roc_sc, upd_app]) (R79 xs o.a o.b hb) (Doc.ty.flo _) (by simp [inst, upd_app]; exact ⟨rfl, rfl⟩) rfl ?_
    simp [ex1, Doc.ocl, Doc.frL]
  by_cases k2 : o.kind = 2
  case neg =>
    have hD : doD xs o = xs := by unfold doD; rw [if_neg k1, if_neg (fun h => k2 h.1)]
    rw [hD]
    simp [A68, iniρ, Op.cse, k1, k2, ex1, Doc.ocl, Doc.frL]
  simp [A68, iniρ, Op.cse, k1, k2]
  refine callK.ro 0 rfl (by kernel_rfl) (by simp [Doc.roc8, roc_sc, upd_app]) (R40 xs o.a (by omega)) rfl rfl rfl ?_
  by_cases h0 : 0 ≤ docIx o.a xs
  case neg =>
    have hD : doD xs o = xs := by unfold doD; rw [if_neg k1, if_neg (fun h => h0 h.2)]
    have hn := docIx_neg h0
    rw [hD, hn]
    simp [ex1, Doc.ocl, Doc.frL]
  have hD : doD xs o = putD (noD o.a xs) ⟨o.b, textAt xs (docIx o.a xs)⟩ := by unfold doD; rw [if_neg k1, if_pos ⟨k2, h0⟩]
  obtain ⟨pre, x, rest, e1, e2, e3⟩ := docIx_at h0
  have hlt : (pre.length : Int) < xs.length := by rw [e1]; simp only [List.length_append, List.length_cons]; omega
  have hd := rows_drop Doc.ty.ocn pre (x :: rest)
  rw [← e1, rows_cons, Doc.oce] at hd
  have hd : List.drop (pre.length * 2) (rows Doc.ty.oc xs) = [.sc (.string x.name), .sc (.string x.text)] ++ rows Doc.ty.oc rest := hd
  have hd1 : List.drop (pre.length * 2 + 1) (rows Doc.ty.oc xs) = [.sc (.string x.text)] ++ rows Doc.ty.oc rest := by rw [← List.drop_drop, hd]; rfl
  have hnl := noD_len o.a xs
  rw [hD, e3, e2]
  simp [hlt, hd1]
  refine T.textW 400 [([], []), ([], []), ([], []), ([34], []), ([], [34]), ([], [34]), ([], [34]), ([34, 38], []), ([], [])] mixed (by kernel_rfl) (by kernel_rfl) ?_
  simp
  refine callWK.ro 34 rfl (by kernel_rfl) (by simp [Doc.roc8, roc_sc, upd_app, hideH_app]) (R80 xs o.a (by omega)) (Doc.ty.flo _) (by simp [inst, upd_app]; exact ⟨rfl, rfl⟩) (by rfl) ?_
  simp
  refine callWK.mv1 38 34 rfl (by kernel_rfl) (by simp [upd_app]) (by simp [upd_app]) (Doc.ocl _) (Doc.frL _) (vs := [.sc (.string o.b), .sc (.string x.text)]) (by simp [roc_sc, upd_app]) (R79 (noD o.a xs) o.b x.text (by omega)) (Doc.ty.flo _) (by simp [inst, upd_app]; exact ⟨rfl, rfl⟩) (by rfl) ?_
  simp [ex1, Doc.ocl, Doc.frL]
end Go.Proofs.YtadoadomogceiaaDoor.Am
