/- The functions of the program, each by its contract: CacheGet; no condition. -/
import Derived.Test.YtaknfalbmblagaaDoorProg
import Derived.Test.YtaknfalbmblagaaDoorAmZ
import Derived.Test.YtaknfalbmblagaaDoorAmP
import Derived.Test.YtaknfalbmblagaaDoorMadeLaw
import Derived.Test.YtaknfalbmblagaaDoorMarks
import Derived.Test.YtaknfalbmblagaaDoorMarks3
import Derived.KernelRfl
namespace Go.Proofs.YtaknfalbmblagaaDoor.Am
open Go Go.Proofs
set_option linter.unusedSimpArgs false
set_option linter.unusedVariables false
attribute [local congr] T_congr callK_congr callWK_congr
attribute [local simp] run_nil run_op0 run_opg run_seq run_cond run_block run_ret run_skip run_skip_after run_skip_blk run_exit run_exit_after run_exit_blk run_loop run_any runS_nil runS_op0 runS_opg runW_nil runW_op0 runW_opg exec_q exec_w exec_c exec_n execW_q execW_w execW_c restW_app hideH_app merge_app wblk rest_app restS_app execS_q execS_c aval dOk upd_app ev_t ev_c setO_some setO_none put_mk pinsOf isIo hasIo sbin endR fin resL one outL out1 clo1 cloL coe coeL shut shut.shutL wantA weff cellsOf fillA deref natOf ρ0_app h0_app plain plain.plainL keep_app keepH_app andThen_normal andThen_ret andThen_exit pop_nil pop_after pop_after_ret pop_after_exit pop_blk pop_blk_ret pop_blk_exit nilA srcOf srcCells keepR_app keepHR_app renA rb
def cacheGet (xs : List Slot) (k : List Int) : Option Made :=
  if 0 ≤ idx (fun s => bEq s.key k) xs 0 then match xs[(idx (fun s => bEq s.key k) xs 0).toNat]? with
    | some s => match getI s.b with | some m => if madeOk m = true then some m else none | none => none
    | none => none
  else none
theorem getI_sz {b : List Int} (hb : byteL b) (hl : b.length ≤ 140737488355328) {m : Made} (h : getI b = some m) : m.task.size ≤ 1048576 ∧ m.outs.length < 4611686018427387904 ∧ ∀ x ∈ m.outs, x.path.size ≤ 1048576 := by
  obtain ⟨h1, _⟩ := getI_fit hb h
  exact ⟨by have := h1.task; omega, by have := h1.num; omega, fun x hx => by have := (h1.outs x hx).1; omega⟩
theorem slot_byte {x : Slot} (h : Slot.ty.ok x) : byteL x.b ∧ x.b.length ≤ 140737488355328 := by
  obtain ⟨_, ⟨o2, o3⟩, _⟩ := h
  refine ⟨fun y hy => o3 y hy, ?_⟩
  have : x.b.length * 1 ≤ 140737488351232 := o2
  omega
/- 8: loop.example/g00464/impl.CacheGet -/
def A8 : AC := (.seq (.ops [⟨(some 4), none, .w (.alloc [(.sc (.string ⟨#[]⟩)), .em, (.sc (.string ⟨#[]⟩))])⟩, ⟨(some 5), none, .q (.mov (.c (.sc (.bool false))))⟩])
  (.seq (.ops [⟨(some 9), none, .q (.mov (.t 0))⟩, ⟨(some 10), none, .q (.mov (.t 1))⟩, ⟨(some 11), none, .c (.c (.clo 21 [])) [(.t 9), (.t 10)]⟩, ⟨(some 6), none, .q (.mov (.t 11))⟩])
  (.seq (.seq (.ops [⟨(some 12), none, .q (.mov (.t 6))⟩, ⟨(some 13), none, .q (.bin .lss (.t 12) (.c (.sc (.int .i64 0))))⟩])
  (.cond (.t 13) (.seq (.ops [⟨(some 14), none, .w (.build [(.sc (.string ⟨#[]⟩)), .em, (.sc (.string ⟨#[]⟩))] [])⟩, ⟨none, none, .w (.store 3 (.t 4) (.t 14))⟩, ⟨(some 5), none, .q (.mov (.c (.sc (.bool false))))⟩])
  .ret)
  .skip))
  (.seq (.ops [⟨(some 16), none, .q (.mov (.t 0))⟩, ⟨(some 17), none, .q (.mov (.t 6))⟩, ⟨(some 18), none, .q (.iadr 2 (.t 16) (.t 17))⟩, ⟨(some 19), none, .q (.fadr 1 (.t 18))⟩, ⟨(some 20), none, .q (.load false 1 (.t 19))⟩, ⟨(some 21), none, .c (.c (.clo 22 [])) [(.t 20)]⟩, ⟨(some 15), none, .q (.mov (.t 21))⟩, ⟨(some 22), none, .q (.ext (.t 15) 0)⟩, ⟨(some 23), none, .q (.ext (.t 15) 1)⟩, ⟨(some 7), none, .w (.alloc [(.sc (.string ⟨#[]⟩)), .em, (.sc (.string ⟨#[]⟩))])⟩, ⟨none, none, .w (.store 3 (.t 7) (.t 22))⟩, ⟨(some 8), none, .q (.mov (.t 23))⟩])
  (.seq (.seq (.ops [⟨(some 24), none, .q (.mov (.t 8))⟩, ⟨(some 25), none, .q (.not (.t 24))⟩, ⟨(some 26), none, .q (.mov (.t 25))⟩, ⟨(some 27), (some (26, false)), .q (.load true 3 (.t 7))⟩, ⟨(some 28), (some (26, false)), .c (.c (.clo 23 [])) [(.t 27)]⟩, ⟨(some 29), (some (26, false)), .q (.not (.t 28))⟩, ⟨(some 30), none, .q (.pick (.t 26) (.c (.sc (.bool true))) (.t 29))⟩])
  (.cond (.t 30) (.seq (.ops [⟨(some 31), none, .w (.build [(.sc (.string ⟨#[]⟩)), .em, (.sc (.string ⟨#[]⟩))] [])⟩, ⟨none, none, .w (.store 3 (.t 4) (.t 31))⟩, ⟨(some 5), none, .q (.mov (.c (.sc (.bool false))))⟩])
  .ret)
  .skip))
  (.seq (.ops [⟨(some 32), none, .q (.load true 3 (.t 7))⟩, ⟨none, none, .w (.store 3 (.t 4) (.t 32))⟩, ⟨(some 5), none, .q (.mov (.c (.sc (.bool true))))⟩])
  .ret))))))
theorem K8 : Tryd.f8.body.bind (comp Tryd.prog) = some A8 ∧ Tryd.f8.ntmps = 33 ∧ Tryd.f8.results.toList.mapM (resB Tryd.prog) = some [.load true 3 (.t 4), .mov (.t 5)] := ⟨by kernel_rfl, by kernel_rfl, by kernel_rfl⟩
set_option maxHeartbeats 2000000 in
theorem R8 (xs : List Slot) (k : List Int) (hx : Slot.ty.slice.ok xs) : Ret Tryd.prog 8 [.ro (rows Slot.ty.cs xs) xs.length, .ro (rows B k) k.length] (madeA (cacheGet xs k)) [.un, .un] := by
  have hb : xs.length < 4611686018427387904 := Slot.ty.lenb (by decide) hx
  have hcg : cacheGet xs k = if 0 ≤ idx (fun s => bEq s.key k) xs 0 then match xs[(idx (fun s => bEq s.key k) xs 0).toNat]? with
    | some s => match getI s.b with | some m => if madeOk m = true then some m else none | none => none
    | none => none
  else none := rfl
  have ra := R21 xs k hb
  rcases idx_cases (fun s : Slot => bEq s.key k) xs 0 with ⟨pre, s, rest, e, h2, h1, e2⟩ | ⟨h1, e2⟩
  case inr =>
    rw [e2] at hcg ra
    rw [hcg, if_neg (by decide)]
    refine Ret.run Tryd.func8 K8 (by simp) rfl rfl 500 ?_
    simp [A8, iniρ]
    refine callK.ro 0 rfl (by kernel_rfl) (by simp [roc_ro]) ra rfl rfl rfl ?_
    simp [over, ex1, madeA, noMade, Made.oce, rows_nil, idfree.idfreeL]
  have e2 : idx (fun s => bEq s.key k) xs 0 = (pre.length : Int) := by rw [e2]; omega
  have hg : xs[pre.length]? = some s := by rw [e]; simp
  rw [e2] at hcg ra
  rw [Int.toNat_natCast, hg, if_pos (by omega)] at hcg
  simp only at hcg
  have hso : Slot.ty.ok s := hx.2 s (by rw [e]; simp)
  obtain ⟨sb, sl⟩ := slot_byte hso
  have rg := R22 s.b sb sl
  obtain ⟨g, hgg⟩ : ∃ g, g = getI s.b := ⟨_, rfl⟩
  rw [← hgg] at rg hcg
  have hle : xs.length = pre.length + (rest.length + 1) := by rw [e]; simp
  have hlt : (pre.length : Int) < xs.length := by omega
  have hlt2 : pre.length < xs.length := by omega
  have hd := rows_drop Slot.ty.csn pre (s :: rest)
  rw [← e, rows_cons] at hd
  have hd : List.drop (pre.length * 2) (rows Slot.ty.cs xs) = AV.ro (rows B s.key) s.key.length :: AV.ro (rows B s.b) s.b.length :: rows Slot.ty.cs rest := hd
  have hd1 : List.drop (pre.length * 2 + 1) (rows Slot.ty.cs xs) = AV.ro (rows B s.b) s.b.length :: rows Slot.ty.cs rest := by rw [← List.drop_drop, hd]; rfl
  have n0 : ¬ ((pre.length : Int) < 0) := by omega
  rw [hcg]
  cases g with
  | none =>
    refine Ret.run Tryd.func8 K8 (by simp) rfl rfl 500 ?_
    simp [A8, iniρ]
    refine callK.ro 0 rfl (by kernel_rfl) (by simp [roc_ro]) ra rfl rfl rfl ?_
    simp [n0, hlt, hlt2, hd1]
    refine callK.ro 21 rfl (by kernel_rfl) (by simp [roc_ro]) rg (by simp [madeA, noMade, Made.oce, rows_nil, flt, flt.fltL]) (by simp [madeA, noMade, Made.oce, inst, instL, shut, upd_app]; exact ⟨rfl, rfl⟩) rfl ?_
    simp [over, ex1, madeA, noMade, Made.oce, rows_nil, idfree.idfreeL]
  | some m =>
    obtain ⟨z1, z2, z3⟩ := getI_sz sb sl hgg.symm
    have rk := R23 m z1 z2 z3
    have fm : flt (madeA (some m)) = true := by
      have := Made.ty.flL m
      simp [madeA, flt, flt.fltL, this]
    refine Ret.run Tryd.func8 K8 (by simp) rfl rfl 500 ?_
    simp [A8, iniρ]
    refine callK.ro 0 rfl (by kernel_rfl) (by simp [roc_ro]) ra rfl rfl rfl ?_
    simp [n0, hlt, hlt2, hd1]
    refine callK.ro 21 rfl (by kernel_rfl) (by simp [roc_ro]) rg fm (by simp [madeA, Made.oce, inst, instL, shut, upd_app]; exact ⟨rfl, rfl⟩) rfl ?_
    simp [over]
    have hro : ∀ (h : Hp) (q : Nat), h q = some (some (rows File.ty.oc m.outs)) → roc h 7 (.sl q 0 m.outs.length 2 false) = some (.ro (rows File.ty.cs m.outs) m.outs.length) := fun h q e => File.roc7 e
    refine callK.ro 0 rfl (by kernel_rfl) (ys := [.agg (Made.ty.cs m)]) (by simp [upd_app, roc_agg8, List.mapM_cons, List.mapM_nil, roc_sc, hro, Made.cse]) rk rfl rfl rfl ?_
    cases hk : madeOk m
    · simp [over, ex1, madeA, noMade, Made.oce, rows_nil, idfree.idfreeL]
    · simp [over, ex1, madeA, Made.oce, File.ocl, File.frL]
/- 5: loop.example/g00464/spec.CacheGet -/
def A5 : AC := (.seq (.ops [⟨(some 4), none, .w (.alloc [(.sc (.string ⟨#[]⟩)), .em, (.sc (.string ⟨#[]⟩))])⟩, ⟨(some 5), none, .q (.mov (.c (.sc (.bool false))))⟩])
  (.seq (.ops [⟨(some 9), none, .q (.mov (.t 0))⟩, ⟨(some 10), none, .q (.mov (.t 1))⟩, ⟨(some 11), none, .c (.c (.clo 17 [])) [(.t 9), (.t 10)]⟩, ⟨(some 6), none, .q (.mov (.t 11))⟩])
  (.seq (.seq (.ops [⟨(some 12), none, .q (.mov (.t 6))⟩, ⟨(some 13), none, .q (.bin .lss (.t 12) (.c (.sc (.int .i64 0))))⟩])
  (.cond (.t 13) (.seq (.ops [⟨(some 14), none, .w (.build [(.sc (.string ⟨#[]⟩)), .em, (.sc (.string ⟨#[]⟩))] [])⟩, ⟨none, none, .w (.store 3 (.t 4) (.t 14))⟩, ⟨(some 5), none, .q (.mov (.c (.sc (.bool false))))⟩])
  .ret)
  .skip))
  (.seq (.ops [⟨(some 16), none, .q (.mov (.t 0))⟩, ⟨(some 17), none, .q (.mov (.t 6))⟩, ⟨(some 18), none, .q (.iadr 2 (.t 16) (.t 17))⟩, ⟨(some 19), none, .q (.fadr 1 (.t 18))⟩, ⟨(some 20), none, .q (.load false 1 (.t 19))⟩, ⟨(some 21), none, .c (.c (.clo 18 [])) [(.t 20)]⟩, ⟨(some 15), none, .q (.mov (.t 21))⟩, ⟨(some 22), none, .q (.ext (.t 15) 0)⟩, ⟨(some 23), none, .q (.ext (.t 15) 1)⟩, ⟨(some 7), none, .w (.alloc [(.sc (.string ⟨#[]⟩)), .em, (.sc (.string ⟨#[]⟩))])⟩, ⟨none, none, .w (.store 3 (.t 7) (.t 22))⟩, ⟨(some 8), none, .q (.mov (.t 23))⟩])
  (.seq (.seq (.ops [⟨(some 24), none, .q (.mov (.t 8))⟩, ⟨(some 25), none, .q (.not (.t 24))⟩, ⟨(some 26), none, .q (.mov (.t 25))⟩, ⟨(some 27), (some (26, false)), .q (.load true 3 (.t 7))⟩, ⟨(some 28), (some (26, false)), .c (.c (.clo 19 [])) [(.t 27)]⟩, ⟨(some 29), (some (26, false)), .q (.not (.t 28))⟩, ⟨(some 30), none, .q (.pick (.t 26) (.c (.sc (.bool true))) (.t 29))⟩])
  (.cond (.t 30) (.seq (.ops [⟨(some 31), none, .w (.build [(.sc (.string ⟨#[]⟩)), .em, (.sc (.string ⟨#[]⟩))] [])⟩, ⟨none, none, .w (.store 3 (.t 4) (.t 31))⟩, ⟨(some 5), none, .q (.mov (.c (.sc (.bool false))))⟩])
  .ret)
  .skip))
  (.seq (.ops [⟨(some 32), none, .q (.load true 3 (.t 7))⟩, ⟨none, none, .w (.store 3 (.t 4) (.t 32))⟩, ⟨(some 5), none, .q (.mov (.c (.sc (.bool true))))⟩])
  .ret))))))
theorem K5 : Tryd.f5.body.bind (comp Tryd.prog) = some A5 ∧ Tryd.f5.ntmps = 33 ∧ Tryd.f5.results.toList.mapM (resB Tryd.prog) = some [.load true 3 (.t 4), .mov (.t 5)] := ⟨by kernel_rfl, by kernel_rfl, by kernel_rfl⟩
set_option maxHeartbeats 2000000 in
theorem R5 (xs : List Slot) (k : List Int) (hx : Slot.ty.slice.ok xs) : Ret Tryd.prog 5 [.ro (rows Slot.ty.cs xs) xs.length, .ro (rows B k) k.length] (madeA (cacheGet xs k)) [.un, .un] := by
  have hb : xs.length < 4611686018427387904 := Slot.ty.lenb (by decide) hx
  have hcg : cacheGet xs k = if 0 ≤ idx (fun s => bEq s.key k) xs 0 then match xs[(idx (fun s => bEq s.key k) xs 0).toNat]? with
    | some s => match getI s.b with | some m => if madeOk m = true then some m else none | none => none
    | none => none
  else none := rfl
  have ra := R17 xs k hb
  rcases idx_cases (fun s : Slot => bEq s.key k) xs 0 with ⟨pre, s, rest, e, h2, h1, e2⟩ | ⟨h1, e2⟩
  case inr =>
    rw [e2] at hcg ra
    rw [hcg, if_neg (by decide)]
    refine Ret.run Tryd.func5 K5 (by simp) rfl rfl 500 ?_
    simp [A5, iniρ]
    refine callK.ro 0 rfl (by kernel_rfl) (by simp [roc_ro]) ra rfl rfl rfl ?_
    simp [over, ex1, madeA, noMade, Made.oce, rows_nil, idfree.idfreeL]
  have e2 : idx (fun s => bEq s.key k) xs 0 = (pre.length : Int) := by rw [e2]; omega
  have hg : xs[pre.length]? = some s := by rw [e]; simp
  rw [e2] at hcg ra
  rw [Int.toNat_natCast, hg, if_pos (by omega)] at hcg
  simp only at hcg
  have hso : Slot.ty.ok s := hx.2 s (by rw [e]; simp)
  obtain ⟨sb, sl⟩ := slot_byte hso
  have rg := R18 s.b sb sl
  rw [← getI_S sb] at rg
  obtain ⟨g, hgg⟩ : ∃ g, g = getI s.b := ⟨_, rfl⟩
  rw [← hgg] at rg hcg
  have hle : xs.length = pre.length + (rest.length + 1) := by rw [e]; simp
  have hlt : (pre.length : Int) < xs.length := by omega
  have hlt2 : pre.length < xs.length := by omega
  have hd := rows_drop Slot.ty.csn pre (s :: rest)
  rw [← e, rows_cons] at hd
  have hd : List.drop (pre.length * 2) (rows Slot.ty.cs xs) = AV.ro (rows B s.key) s.key.length :: AV.ro (rows B s.b) s.b.length :: rows Slot.ty.cs rest := hd
  have hd1 : List.drop (pre.length * 2 + 1) (rows Slot.ty.cs xs) = AV.ro (rows B s.b) s.b.length :: rows Slot.ty.cs rest := by rw [← List.drop_drop, hd]; rfl
  have n0 : ¬ ((pre.length : Int) < 0) := by omega
  rw [hcg]
  cases g with
  | none =>
    refine Ret.run Tryd.func5 K5 (by simp) rfl rfl 500 ?_
    simp [A5, iniρ]
    refine callK.ro 0 rfl (by kernel_rfl) (by simp [roc_ro]) ra rfl rfl rfl ?_
    simp [n0, hlt, hlt2, hd1]
    refine callK.ro 21 rfl (by kernel_rfl) (by simp [roc_ro]) rg (by simp [madeA, noMade, Made.oce, rows_nil, flt, flt.fltL]) (by simp [madeA, noMade, Made.oce, inst, instL, shut, upd_app]; exact ⟨rfl, rfl⟩) rfl ?_
    simp [over, ex1, madeA, noMade, Made.oce, rows_nil, idfree.idfreeL]
  | some m =>
    obtain ⟨z1, z2, z3⟩ := getI_sz sb sl hgg.symm
    have rk := R19 m z1 z2 z3
    have fm : flt (madeA (some m)) = true := by
      have := Made.ty.flL m
      simp [madeA, flt, flt.fltL, this]
    refine Ret.run Tryd.func5 K5 (by simp) rfl rfl 500 ?_
    simp [A5, iniρ]
    refine callK.ro 0 rfl (by kernel_rfl) (by simp [roc_ro]) ra rfl rfl rfl ?_
    simp [n0, hlt, hlt2, hd1]
    refine callK.ro 21 rfl (by kernel_rfl) (by simp [roc_ro]) rg fm (by simp [madeA, Made.oce, inst, instL, shut, upd_app]; exact ⟨rfl, rfl⟩) rfl ?_
    simp [over]
    have hro : ∀ (h : Hp) (q : Nat), h q = some (some (rows File.ty.oc m.outs)) → roc h 7 (.sl q 0 m.outs.length 2 false) = some (.ro (rows File.ty.cs m.outs) m.outs.length) := fun h q e => File.roc7 e
    refine callK.ro 0 rfl (by kernel_rfl) (ys := [.agg (Made.ty.cs m)]) (by simp [upd_app, roc_agg8, List.mapM_cons, List.mapM_nil, roc_sc, hro, Made.cse]) rk rfl rfl rfl ?_
    cases hk : madeOk m
    · simp [over, ex1, madeA, noMade, Made.oce, rows_nil, idfree.idfreeL]
    · simp [over, ex1, madeA, Made.oce, File.ocl, File.frL]
end Go.Proofs.YtaknfalbmblagaaDoor.Am
