/- The functions of the program, each by its contract: Slots; no condition. -/
import Derived.Test.YtaknfalbmblagaaDoorProg
import Derived.Test.YtaknfalbmblagaaDoorAmZ
import Derived.Test.YtaknfalbmblagaaDoorAmP
import Derived.Test.YtaknfalbmblagaaDoorMark
import Derived.KernelRfl
namespace Go.Proofs.YtaknfalbmblagaaDoor.Am
open Go Go.Proofs
set_option linter.unusedSimpArgs false
set_option linter.unusedVariables false
attribute [local congr] T_congr callK_congr callWK_congr
attribute [local simp] run_nil run_op0 run_opg run_seq run_cond run_block run_ret run_skip run_skip_after run_skip_blk run_exit run_exit_after run_exit_blk run_loop run_any runS_nil runS_op0 runS_opg runW_nil runW_op0 runW_opg exec_q exec_w exec_c exec_n execW_q execW_w execW_c restW_app hideH_app merge_app wblk rest_app restS_app execS_q execS_c aval dOk upd_app ev_t ev_c setO_some setO_none put_mk pinsOf isIo hasIo sbin endR fin resL one outL out1 clo1 cloL coe coeL shut shut.shutL wantA weff cellsOf fillA deref natOf ρ0_app h0_app plain plain.plainL keep_app keepH_app andThen_normal andThen_ret andThen_exit pop_nil pop_after pop_after_ret pop_after_exit pop_blk pop_blk_ret pop_blk_exit nilA srcOf srcCells keepR_app keepHR_app renA rb
def Slot.mark (x : Slot) (k : Int) : Slot := ⟨mkB x.key.length k, mkB x.b.length (k + x.key.length)⟩
def Slot.tot (x : Slot) : Nat := x.key.length + x.b.length
theorem Slot.ow2 (x : Slot) {i : Nat} {cs : List AV} {len sz : Nat} (h : (Slot.ty.oc x)[i]? = some (.own cs len sz)) : (i = 0 ∧ cs = rows B x.key ∧ len = x.key.length ∧ sz = 1) ∨ (i = 1 ∧ cs = rows B x.b ∧ len = x.b.length ∧ sz = 1) := by
  rw [Slot.oce] at h
  match i with
  | 0 => left; simp at h; exact ⟨rfl, h.1.symm, h.2.1.symm, h.2.2.symm⟩
  | 1 => right; simp at h; exact ⟨rfl, h.1.symm, h.2.1.symm, h.2.2.symm⟩
  | i + 2 => simp at h
/- 12: loop.example/g00464/laws.markSlotS -/
def A12 : AC := (.seq (.ops [⟨(some 4), none, .q (.mov (.c (.sc (.int .i64 0))))⟩])
  (.seq (.seq (.ops [⟨(some 5), none, .q (.mov (.c (.sc (.int .i64 0))))⟩])
  (.block 0 (.loop (.seq (.seq (.ops [⟨(some 6), none, .q (.mov (.t 5))⟩, ⟨(some 7), none, .q (.mov (.t 0))⟩, ⟨(some 8), none, .q (.llen (.t 7))⟩, ⟨(some 9), none, .q (.bin .lss (.t 6) (.t 8))⟩])
  (.cond (.t 9) .skip
  (.exit 0)))
  (.seq (.block 1 (.seq (.ops [⟨(some 12), none, .q (.mov (.t 0))⟩, ⟨(some 13), none, .q (.mov (.t 5))⟩, ⟨(some 14), none, .q (.iadr 2 (.t 12) (.t 13))⟩, ⟨(some 15), none, .q (.fadr 0 (.t 14))⟩, ⟨(some 16), none, .q (.load false 1 (.t 15))⟩, ⟨(some 17), none, .q (.mov (.t 1))⟩, ⟨(some 18), none, .c (.c (.clo 13 [])) [(.t 16), (.t 17)]⟩, ⟨(some 1), none, .q (.mov (.t 18))⟩])
  (.ops [⟨(some 19), none, .q (.mov (.t 0))⟩, ⟨(some 20), none, .q (.mov (.t 5))⟩, ⟨(some 21), none, .q (.iadr 2 (.t 19) (.t 20))⟩, ⟨(some 22), none, .q (.fadr 1 (.t 21))⟩, ⟨(some 23), none, .q (.load false 1 (.t 22))⟩, ⟨(some 24), none, .q (.mov (.t 1))⟩, ⟨(some 25), none, .c (.c (.clo 13 [])) [(.t 23), (.t 24)]⟩, ⟨(some 1), none, .q (.mov (.t 25))⟩])))
  (.ops [⟨(some 10), none, .q (.mov (.t 5))⟩, ⟨(some 11), none, .q (.bin .add (.t 10) (.c (.sc (.int .i64 1))))⟩, ⟨(some 5), none, .q (.mov (.t 11))⟩]))))))
  (.seq (.ops [⟨(some 26), none, .q (.mov (.t 1))⟩, ⟨(some 4), none, .q (.mov (.t 26))⟩])
  .ret)))
theorem K12 : Tryd.f12.body.bind (comp Tryd.prog) = some A12 ∧ Tryd.f12.ntmps = 27 ∧ Tryd.f12.results.toList.mapM (resB Tryd.prog) = some [.mov (.t 4)] := ⟨by kernel_rfl, by kernel_rfl, by kernel_rfl⟩
theorem R12 (xs : List Slot) (k : Int) (hk : 0 ≤ k) (hb : k + toL Slot.tot xs < 4611686018427387904) (hn : xs.length < 4611686018427387904) : MRet Tryd.prog 12 (rows Slot.ty.oc xs) xs.length 2 (.sc (.int .i64 k)) (.sc (.int .i64 (k + toL Slot.tot xs))) (rows Slot.ty.oc (mkL Slot.mark Slot.tot xs k)) := by
  constructor
  · intro hpos
    refine Ret.run Tryd.func12 K12 (by simp) rfl rfl 500 ?_
    simp [A12, iniρ]
    refine T.rounds (μ := fun i : List Slot × List Slot => i.2.length)
      (fun i s => i.1 ++ i.2 = xs ∧ s.ρ 0 = .sl 100000 0 xs.length 2 false ∧ s.ρ 1 = .sc (.int .i64 (k + toL Slot.tot i.1)) ∧ s.ρ 5 = .sc (.int .i64 i.1.length) ∧ s.h 100000 = some (some (rows Slot.ty.oc (mkL Slot.mark Slot.tot i.1 k) ++ rows Slot.ty.oc i.2)) ∧ s.h 31000 = none ∧ s.h 31001 = none ∧ s.n = 27) ([], xs) (by simp [upd_app, mkL, toL, rows_nil]) ?_
    rintro ⟨pre, rest⟩ ⟨ρ, hh, n⟩ ⟨hx, h0', h1', h5', h7', hf0, hf1, rfl⟩
    simp only at hx h0' h1' h5' h7' hf0 hf1
    cases rest with
    | nil =>
      refine run_ok (n := 400) ?_
      simp at hx
      subst hx
      simp [h0', h5']
      refine T.on 400 ?_
      simp [h0', h1', h7', ex1, rows_nil, Slot.ocl, Slot.frL, ioPos1, hpos, mkL_len]
    | cons x rest =>
      have hle : pre.length + (rest.length + 1) = xs.length := by rw [← hx]; simp
      have hlt : (pre.length : Int) < xs.length := by omega
      have hw : IntKind.i64.wrap ((pre.length : Int) + 1) = pre.length + 1 := wrap_i64 (by omega) (by omega)
      have htot : toL Slot.tot xs = toL Slot.tot pre + (x.key.length + x.b.length + toL Slot.tot rest) := by rw [← hx, toL_app]; rfl
      obtain ⟨h', k1, k2, k4, k3⟩ := Le.openRow (ρ := ρ) (n := 27) 100000 (rows Slot.ty.oc rest) (Slot.ty.oc x) 31000 (rows Slot.ty.oc (mkL Slot.mark Slot.tot pre k)) hh (by rw [h7', rows_cons]) (Slot.ty.ow x)
        (fun i hi => by
          rw [Slot.oce] at hi
          match i with
          | 0 => exact hf0
          | 1 => exact hf1
          | i + 2 => simp at hi; omega) (by right; rw [Slot.oce]; simp)
      have e0 := k4 0 _ _ _ (by rw [Slot.oce]; rfl)
      have e1 := k4 1 _ _ _ (by rw [Slot.oce]; rfl)
      simp only [Nat.add_zero] at e0
      have e0 : h' 31000 = some (some (rows B x.key)) := e0
      have e1 : h' 31001 = some (some (rows B x.b)) := e1
      have hl := Slot.ocl (mkL Slot.mark Slot.tot pre k)
      rw [mkL_len] at hl
      rw [Slot.oce] at k2
      have k2 : h' 100000 = some (some (rows Slot.ty.oc (mkL Slot.mark Slot.tot pre k) ++ AV.sl 31000 0 x.key.length 1 false :: AV.sl 31001 0 x.b.length 1 false :: rows Slot.ty.oc rest)) := k2
      have hd0 : List.drop (pre.length * 2) (rows Slot.ty.oc (mkL Slot.mark Slot.tot pre k) ++ AV.sl 31000 0 x.key.length 1 false :: AV.sl 31001 0 x.b.length 1 false :: rows Slot.ty.oc rest) = AV.sl 31000 0 x.key.length 1 false :: AV.sl 31001 0 x.b.length 1 false :: rows Slot.ty.oc rest := by
        rw [← hl, List.drop_left]
      have hd1 : List.drop (pre.length * 2 + 1) (rows Slot.ty.oc (mkL Slot.mark Slot.tot pre k) ++ AV.sl 31000 0 x.key.length 1 false :: AV.sl 31001 0 x.b.length 1 false :: rows Slot.ty.oc rest) = AV.sl 31001 0 x.b.length 1 false :: rows Slot.ty.oc rest := by
        rw [← List.drop_drop, hd0]; rfl
      refine T.le k1 ?_
      refine run_ok (n := 400) ?_
      simp [h0', h1', h5', k2, hlt, hd0, hd1]
      refine callK.io (b := 31000) (len := x.key.length) (sz := 1) (cs := rows B x.key) rfl (by kernel_rfl) (by simp [upd_app]) (by exact e0) (by simp [B.count]) (idfreeL_rows B.fr _) (by simp [upd_app, h1']) rfl (R13 x.key (k + toL Slot.tot pre) (by omega) (by omega)) (by simp [B.count, mkB_len]) (fltL_rows B.fl _) rfl ?_
      simp [h0', h5', k2, hd0, hd1, hlt]
      refine callK.io (b := 31001) (len := x.b.length) (sz := 1) (cs := rows B x.b) rfl (by kernel_rfl) (by simp [upd_app]) (by simpa [upd_app] using e1) (by simp [B.count]) (idfreeL_rows B.fr _) (by simp [upd_app]) rfl (R13 x.b (k + toL Slot.tot pre + x.key.length) (by omega) (by omega)) (by simp [B.count, mkB_len]) (fltL_rows B.fl _) rfl ?_
      simp [h0', h5', hw]
      refine ⟨pre ++ [x], rest, by simp, ?_⟩
      obtain ⟨h2, m1, m2, m3⟩ := Le.rowPack 100000 (rows Slot.ty.oc rest) (Slot.ty.oc (x.mark (k + toL Slot.tot pre))) 31000 (rows Slot.ty.oc (mkL Slot.mark Slot.tot pre k)) (upd (upd h' 31000 (some (some (rows B (mkB x.key.length (k + toL Slot.tot pre)))))) 31001 (some (some (rows B (mkB x.b.length (k + toL Slot.tot pre + x.key.length))))))
        (by simp [upd_app, k2, Slot.oce, ysOf, Slot.mark, mkB_len]) (Slot.ty.ow _) (fun i cs len sz hi => by
          rcases Slot.ow2 _ hi with ⟨rfl, rfl, rfl, rfl⟩ | ⟨rfl, rfl, rfl, rfl⟩
          · simp [upd_app, Slot.mark]
          · simp [upd_app, Slot.mark]) (by right; rw [Slot.oce]; simp)
      refine ⟨_, Le.trans (m1 _ _) (Le.reset [0, 1, 5] [100000] ?_ ?_), ?_⟩
      · simp [upd_app, menB, idfree, h0']
      · intro b hb cs hcs
        simp at hb
        subst hb
        simp [m2] at hcs
        subst hcs
        intro y hy
        rcases List.mem_append.1 hy with hy | hy
        · exact rows_all (fun x c hc => (Slot.ty.ow x c hc).fr) _ y hy
        · rcases List.mem_append.1 hy with hy | hy
          · exact (Slot.ty.ow _ y hy).fr
          · exact rows_all (fun x c hc => (Slot.ty.ow x c hc).fr) _ y hy
      · simp [hx, upd_app, h0', m2, mkL_app, toL_app, mkL, toL, rows_append, rows_cons, rows_nil, Slot.tot]
        omega
  · intro h
    have e : xs = [] := List.length_eq_zero_iff.1 h
    subst e
    refine Ret.run Tryd.func12 K12 (by simp) rfl rfl 500 ?_
    simp [A12, iniρ]
    refine T.rounds (μ := fun i : Nat => i) (fun i s => s.ρ 0 = .ro [] 0 ∧ s.ρ 1 = .sc (.int .i64 k) ∧ s.ρ 5 = .sc (.int .i64 0) ∧ s.n = 27) 0 (by simp [upd_app]) ?_
    rintro i ⟨ρ, hh, n⟩ ⟨h0', h1', h5', rfl⟩
    simp only at h0' h1' h5'
    refine run_ok (n := 400) ?_
    simp [h0', h5']
    refine T.on 400 ?_
    simp [h1', toL]
end Go.Proofs.YtaknfalbmblagaaDoor.Am
