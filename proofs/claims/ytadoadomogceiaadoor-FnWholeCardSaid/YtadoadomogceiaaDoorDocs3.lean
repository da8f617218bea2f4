/- The functions of the program, each by its contract: Docs3; no condition. -/
import Derived.Test.YtadoadomogceiaaDoorProg
import Derived.Test.YtadoadomogceiaaDoorAmZ
import Derived.Test.YtadoadomogceiaaDoorAmP
import Derived.Test.YtadoadomogceiaaDoorDocs2
import Derived.KernelRfl
namespace Go.Proofs.YtadoadomogceiaaDoor.Am
open Go Go.Proofs
set_option linter.unusedSimpArgs false
set_option linter.unusedVariables false
attribute [local congr] T_congr callK_congr callWK_congr
attribute [local simp] run_nil run_op0 run_opg run_seq run_cond run_block run_ret run_skip run_skip_after run_skip_blk run_exit run_exit_after run_exit_blk run_loop run_any runS_nil runS_op0 runS_opg runW_nil runW_op0 runW_opg exec_q exec_w exec_c exec_n execW_q execW_w execW_c restW_app hideH_app merge_app wblk rest_app restS_app execS_q execS_c aval dOk upd_app ev_t ev_c setO_some setO_none put_mk pinsOf isIo hasIo sbin endR fin resL one outL out1 clo1 cloL coe coeL shut shut.shutL wantA weff cellsOf fillA deref natOf ρ0_app h0_app plain plain.plainL keep_app keepH_app andThen_normal andThen_ret andThen_exit pop_nil pop_after pop_after_ret pop_after_exit pop_blk pop_blk_ret pop_blk_exit nilA srcOf srcCells keepR_app keepHR_app renA rb
def settleF (d : Disk) : Disk := if diskOk d then ⟨docsNowF d, []⟩ else d
def bitK (keep : Int) (i : Nat) : Bool := IntKind.i64.wrap (BitVec.ofInt IntKind.i64.bits (keep.fdiv (2 ^ min i IntKind.i64.bits)) &&& BitVec.ofInt IntKind.i64.bits 1).toNat == 1
def crashF (d : Disk) (keep : Int) : Disk := if diskOk d then ⟨docsF (bitK keep) d.pend 0 d.sure, []⟩ else d
def lockB : ByteArray := ⟨#[108, 111, 99, 107]⟩
def newB : ByteArray := ⟨#[110, 101, 119]⟩
def loadF (d : Disk) : ByteArray := if 0 ≤ docIx lockB (docsNowF d) then textAt (docsNowF d) (docIx lockB (docsNowF d)) else ⟨#[]⟩
theorem docs_lim {d : Disk} (hd : Disk.ty.ok d) (want : Nat → Bool) : (docsF want d.pend 0 d.sure).length * 32 ≤ 140737488351232 := by
  have h1 := docsF_len want d.pend 0 d.sure
  have h2 : d.sure.length * 32 ≤ 140737488351232 := hd.1.1
  omega
theorem docs_ok {d : Disk} (hd : Disk.ty.ok d) (want : Nat → Bool) : Doc.ty.slice.ok (docsF want d.pend 0 d.sure) :=
  ⟨docs_lim hd want, docsF_ok want d.pend 0 d.sure hd.2.1.2 hd.1.2⟩
/- 44: (*loop.example/g00464/impl.Disk).docs -/
def A44 : AC := (.seq (.ops [⟨(some 4), none, .q (.mov (.c .em))⟩])
  (.seq (.ops [⟨(some 8), none, .q (.mov (.t 0))⟩, ⟨(some 9), none, .q (.nilc (.t 8))⟩, ⟨(some 10), none, .q (.fadr 0 (.t 9))⟩, ⟨(some 11), none, .q (.load false 1 (.t 10))⟩, ⟨(some 12), none, .c (.c (.clo 66 [])) [(.t 11)]⟩, ⟨(some 5), none, .q (.mov (.t 12))⟩])
  (.seq (.seq (.ops [⟨(some 13), none, .q (.mov (.t 0))⟩, ⟨(some 14), none, .q (.nilc (.t 13))⟩, ⟨(some 15), none, .q (.fadr 1 (.t 14))⟩, ⟨(some 16), none, .q (.load false 1 (.t 15))⟩, ⟨(some 17), none, .q (.llen (.t 16))⟩, ⟨(some 18), none, .q (.mov (.c (.sc (.int .i64 0))))⟩])
  (.block 0 (.loop (.seq (.ops [⟨(some 19), none, .q (.bin .lss (.t 18) (.t 17))⟩])
  (.seq (.cond (.t 19) .skip
  (.exit 0))
  (.seq (.block 1 (.seq (.ops [⟨(some 20), none, .q (.mov (.t 18))⟩, ⟨(some 21), none, .q (.iadr 3 (.t 16) (.t 18))⟩, ⟨(some 22), none, .q (.load true 3 (.t 21))⟩, ⟨(some 7), none, .w (.alloc [(.sc (.int .i64 0)), (.sc (.string ⟨#[]⟩)), (.sc (.string ⟨#[]⟩))])⟩, ⟨(some 6), none, .q (.mov (.t 20))⟩, ⟨none, none, .w (.store 3 (.t 7) (.t 22))⟩])
  (.seq (.ops [⟨(some 23), none, .q (.mov (.t 1))⟩, ⟨(some 24), none, .q (.mov (.t 6))⟩, ⟨(some 25), none, .c (.t 23) [(.t 24)]⟩])
  (.cond (.t 25) (.ops [⟨(some 26), none, .q (.mov (.t 5))⟩, ⟨(some 27), none, .q (.load true 3 (.t 7))⟩, ⟨(some 28), none, .c (.c (.clo 68 [])) [(.t 26), (.t 27)]⟩, ⟨(some 5), none, .q (.mov (.t 28))⟩])
  .skip))))
  (.ops [⟨(some 29), none, .q (.bin .add (.t 18) (.c (.sc (.int .i64 1))))⟩, ⟨(some 18), none, .q (.mov (.t 29))⟩])))))))
  (.seq (.ops [⟨(some 30), none, .q (.mov (.t 5))⟩, ⟨(some 31), none, .c (.c (.clo 69 [])) [(.t 30)]⟩, ⟨(some 4), none, .q (.mov (.t 31))⟩])
  .ret))))
theorem K44 : Tryd.f44.body.bind (comp Tryd.prog) = some A44 ∧ Tryd.f44.ntmps = 32 ∧ Tryd.f44.results.toList.mapM (resB Tryd.prog) = some [.mov (.t 4)] := ⟨by kernel_rfl, by kernel_rfl, by kernel_rfl⟩
theorem R44 (d : Disk) (hd : Disk.ty.ok d) (g : FuncId) (caps : List AV) (want : Nat → Bool) (hg : callB Tryd.prog g = true) (hsh : shut.shutL caps = true) (hw : ∀ i : Nat, i < d.pend.length → Ret Tryd.prog g (.sc (.int .i64 i) :: caps) (.sc (.bool (want i))) (.un :: caps.map fun _ => .un)) :
    Ret Tryd.prog 44 [.rp (Disk.ty.cs d) 0, .clo g caps] (.own (rows Doc.ty.oc (docsF want d.pend 0 d.sure)) (docsF want d.pend 0 d.sure).length 2) [.un, .un] := by
  have hb1 : d.sure.length * 32 ≤ 140737488351232 := hd.1.1
  have hb2 : d.pend.length * 40 ≤ 140737488351232 := hd.2.1.1
  have hidc : idfree.idfreeL caps = true := shutL_idfree caps hsh
  refine Ret.run (ys := [.rp (Disk.ty.cs d) 0, .clo g caps]) (ρ1 := fun _ => .un) (h1 := h0) (m := 32) Tryd.func44 K44 (by simp) (by simp [entL, ent1, inst, hsh, Disk.cse]) rfl 500 ?_
  have hcapA : ∀ (hh : Hp), caps.mapM (roc hh 8) = some caps := fun hh => by
    have : ∀ l : List AV, shut.shutL l = true → l.mapM (roc hh 8) = some l := fun l => by
      induction l with
      | nil => intro _; rfl
      | cons c l ih =>
        intro h
        simp only [shut.shutL, Bool.and_eq_true] at h
        simp [List.mapM_cons, roc_sh h.1, ih h.2]
    exact this caps hsh
  simp [A44, iniρ, Disk.cse]
  refine callK.own 12 rfl (by kernel_rfl) (by simp [roc_ro, upd_app]) (R66 d.sure (by omega)) (Doc.ty.flo _) (by simp) rfl ?_
  simp
  obtain ⟨os, hos⟩ : ∃ os, os = d.pend := ⟨_, rfl⟩
  obtain ⟨R, hR⟩ : ∃ R, R = docsF want d.pend 0 d.sure := ⟨_, rfl⟩
  rw [← hR]
  rw [← hos] at hw hb2 hR ⊢
  refine T.rounds (μ := fun i : List Op × List Op × List Doc => i.2.1.length)
    (fun i s => i.1 ++ i.2.1 = os ∧ docsF want i.2.1 i.1.length i.2.2 = R ∧ i.2.2.length * 32 ≤ 140737488351232 ∧ s.ρ 1 = .clo g caps ∧ s.ρ 5 = .sl 12 0 i.2.2.length 2 false ∧ s.ρ 16 = .ro (rows Op.ty.cs os) os.length ∧ s.ρ 17 = .sc (.int .i64 os.length) ∧ s.ρ 18 = .sc (.int .i64 i.1.length) ∧
      s.h 12 = some (some (rows Doc.ty.oc i.2.2)) ∧ (∀ b, b ≠ 12 → s.h b = none) ∧ s.n = 32) ([], os, d.sure) (by simp [upd_app, hR, hb1]; done) ?_
  rintro ⟨pre, rest, l⟩ ⟨ρ, hh, n⟩ ⟨hx, hE, hlb, k1, k5, k16, k17, k18, kh, kf, rfl⟩
  simp only at hx hE hlb k1 k5 k16 k17 k18 kh kf
  refine run_ok (n := 400) ?_
  cases rest with
  | nil =>
    simp at hx
    subst hx
    simp only [docsF] at hE
    subst hE
    have f31 := kf 31 (by decide)
    simp [k17, k18]
    refine T.on 400 ?_
    simp [k5]
    refine callK.mv1 31 12 rfl (by kernel_rfl) (by simp [upd_app]) (by simp [kh]) (Doc.ocl _) (Doc.frL _) (vs := []) rfl (R69 l) (Doc.ty.flo _) (by simp [inst, upd_app, f31]; exact ⟨rfl, rfl⟩) rfl ?_
    simp [ex1, Doc.ocl, Doc.frL]
  | cons o rest =>
    have hlt : (pre.length : Int) < os.length := by rw [← hx]; simp only [List.length_append, List.length_cons]; omega
    have hltn : pre.length < os.length := by omega
    have hd := rows_drop Op.ty.csn pre (o :: rest)
    rw [hx, rows_cons] at hd
    have hd : List.drop (pre.length * 3) (rows Op.ty.cs os) = Op.ty.cs o ++ rows Op.ty.cs rest := hd
    have hw1 : IntKind.i64.wrap ((pre.length : Int) + 1) = pre.length + 1 := wrap_i64 (by omega) (by omega)
    have f7 := kf 7 (by decide)
    have f28 := kf 28 (by decide)
    simp [k1, k16, k17, k18, hlt, hd, Op.cse, f7, over]
    refine callK.ro 25 (f := g) (caps := caps) (by simp [upd_app, k1]) hg (ys := [.sc (.int .i64 pre.length)] ++ caps) (by
      simp only [List.map_cons, List.map_nil, List.cons_append, List.nil_append, List.mapM_cons, hcapA]
      simp [upd_app, roc_sc]) (hw pre.length hltn) rfl rfl rfl ?_
    simp only [docsF] at hE
    cases hwt : want pre.length with
    | false =>
      rw [hwt] at hE
      simp [k18, hw1]
      refine ⟨pre ++ [o], rest, by simp, l, _, Le.reset [1, 5, 16, 17, 18] [12] ?_ ?_, ?_⟩
      · simp [upd_app, menB, idfree, k1, k5, k16, k17, hidc]
      · simp [upd_app, kh]
        exact idfreeL_mem (Doc.frL _)
      · simp [upd_app, hx, k1, k5, k16, k17, kh, hlb]
        refine ⟨by simpa using hE, fun b h1 h2 => absurd h2 h1⟩
    | true =>
      rw [hwt] at hE
      simp [k5, k18, hw1]
      have hdl := doD_len l o
      refine callK.mv1 28 12 rfl (by kernel_rfl) (by simp [upd_app, k5]) (by simp [upd_app, kh]) (Doc.ocl _) (Doc.frL _) (vs := [.agg (Op.ty.cs o)]) (by simp [roc_agg, upd_app, Op.cse]) (R68 l o hlb) (Doc.ty.flo _) (by simp [inst, upd_app, f28]; exact ⟨rfl, rfl⟩) rfl ?_
      simp [k18, hw1]
      refine ⟨pre ++ [o], rest, by simp, doD l o, _, Le.reseat [1, 5, 16, 17, 18] [(28, 12)] (by simp) ?_ ?_, ?_⟩
      · simp [upd_app, menB, idfree, k1, k16, k17, hidc]
      · simp [upd_app]
        exact idfreeL_mem (Doc.frL _)
      · simp [upd_app, hx, k1, k16, k17]
        refine ⟨by simpa using hE, by omega, fun b h => ?_⟩
        rw [if_neg (fun e : 12 = b => h e.symm)]
/- 63: (*loop.example/g00464/impl.Disk).docsNow$1 -/
def A63 : AC := (.seq (.ops [⟨(some 2), none, .q (.mov (.c (.sc (.bool false))))⟩])
  (.seq (.ops [⟨(some 2), none, .q (.mov (.c (.sc (.bool true))))⟩])
  .ret))
theorem K63 : Tryd.f63.body.bind (comp Tryd.prog) = some A63 ∧ Tryd.f63.ntmps = 3 ∧ Tryd.f63.results.toList.mapM (resB Tryd.prog) = some [.mov (.t 2)] := ⟨by kernel_rfl, by kernel_rfl, by kernel_rfl⟩
theorem R63 (i : Int) : Ret Tryd.prog 63 [.sc (.int .i64 i)] (.sc (.bool true)) [.un] := by
  refine Ret.run Tryd.func63 K63 (by simp) rfl rfl 500 ?_
  simp [A63, iniρ]
/- 39: (*loop.example/g00464/impl.Disk).docsNow -/
def A39 : AC := (.seq (.ops [⟨(some 2), none, .q (.mov (.c .em))⟩])
  (.seq (.ops [⟨(some 3), none, .q (.mov (.t 0))⟩, ⟨(some 4), none, .c (.c (.clo 44 [])) [(.t 3), (.c (.clo 63 []))]⟩, ⟨(some 2), none, .q (.mov (.t 4))⟩])
  .ret))
theorem K39 : Tryd.f39.body.bind (comp Tryd.prog) = some A39 ∧ Tryd.f39.ntmps = 5 ∧ Tryd.f39.results.toList.mapM (resB Tryd.prog) = some [.mov (.t 2)] := ⟨by kernel_rfl, by kernel_rfl, by kernel_rfl⟩
theorem R39 (d : Disk) (hd : Disk.ty.ok d) : Ret Tryd.prog 39 [.rp (Disk.ty.cs d) 0] (.own (rows Doc.ty.oc (docsNowF d)) (docsNowF d).length 2) [.un] := by
  refine Ret.run Tryd.func39 K39 (by simp) rfl rfl 500 ?_
  simp [A39, iniρ]
  refine callK.own 4 rfl (by kernel_rfl) (ys := [.rp (Disk.ty.cs d) 0, .clo 63 []]) (by simp [roc_rp, upd_app]; rfl) (R44 d hd 63 [] (fun _ => true) (by kernel_rfl) rfl (fun i _ => R63 i)) (Doc.ty.flo _) (by simp) rfl ?_
  simp [ex1, Doc.ocl, Doc.frL, docsNowF]
/- 18: loop.example/g00464/impl.DocsNow -/
def A18 : AC := (.seq (.ops [⟨(some 1), none, .w (.box (.t 0))⟩, ⟨(some 2), none, .q (.mov (.c .em))⟩])
  (.seq (.ops [⟨(some 3), none, .c (.c (.clo 39 [])) [(.t 1)]⟩, ⟨(some 2), none, .q (.mov (.t 3))⟩])
  .ret))
theorem K18 : Tryd.f18.body.bind (comp Tryd.prog) = some A18 ∧ Tryd.f18.ntmps = 4 ∧ Tryd.f18.results.toList.mapM (resB Tryd.prog) = some [.mov (.t 2)] := ⟨by kernel_rfl, by kernel_rfl, by kernel_rfl⟩
theorem R18 (d : Disk) (hd : Disk.ty.ok d) : Ret Tryd.prog 18 [.agg (Disk.ty.cs d)] (.own (rows Doc.ty.oc (docsNowF d)) (docsNowF d).length 2) [.un] := by
  refine Ret.run Tryd.func18 K18 (by simp) rfl rfl 500 ?_
  simp [A18, iniρ, Disk.cse]
  refine callK.own 3 rfl (by kernel_rfl) (ys := [.rp (Disk.ty.cs d) 0]) (by simp [roc, upd_app, Disk.cse]) (R39 d hd) (Doc.ty.flo _) (by simp) rfl ?_
  simp [ex1, Doc.ocl, Doc.frL]
/- 15: loop.example/g00464/impl.Load -/
def A15 : AC := (.seq (.ops [⟨(some 1), none, .w (.box (.t 0))⟩, ⟨(some 2), none, .q (.mov (.c (.sc (.string ⟨#[]⟩))))⟩])
  (.seq (.ops [⟨(some 5), none, .c (.c (.clo 39 [])) [(.t 1)]⟩, ⟨(some 3), none, .q (.mov (.t 5))⟩])
  (.seq (.ops [⟨(some 6), none, .q (.mov (.t 3))⟩, ⟨(some 7), none, .c (.c (.clo 40 [])) [(.t 6), (.c (.sc (.string ⟨#[108, 111, 99, 107]⟩)))]⟩, ⟨(some 4), none, .q (.mov (.t 7))⟩])
  (.seq (.seq (.ops [⟨(some 8), none, .q (.mov (.t 4))⟩, ⟨(some 9), none, .q (.bin .lss (.t 8) (.c (.sc (.int .i64 0))))⟩])
  (.cond (.t 9) (.seq (.ops [⟨(some 2), none, .q (.mov (.c (.sc (.string ⟨#[]⟩))))⟩])
  .ret)
  .skip))
  (.seq (.ops [⟨(some 10), none, .q (.mov (.t 3))⟩, ⟨(some 11), none, .q (.mov (.t 4))⟩, ⟨(some 12), none, .q (.iadr 2 (.t 10) (.t 11))⟩, ⟨(some 13), none, .q (.fadr 1 (.t 12))⟩, ⟨(some 14), none, .q (.load false 1 (.t 13))⟩, ⟨(some 2), none, .q (.mov (.t 14))⟩])
  .ret)))))
theorem K15 : Tryd.f15.body.bind (comp Tryd.prog) = some A15 ∧ Tryd.f15.ntmps = 15 ∧ Tryd.f15.results.toList.mapM (resB Tryd.prog) = some [.mov (.t 2)] := ⟨by kernel_rfl, by kernel_rfl, by kernel_rfl⟩
theorem R15 (d : Disk) (hd : Disk.ty.ok d) : Ret Tryd.prog 15 [.agg (Disk.ty.cs d)] (.sc (.string (loadF d))) [.un] := by
  have hl := docs_lim hd (fun _ => true)
  have hl : (docsNowF d).length * 32 ≤ 140737488351232 := hl
  refine Ret.run Tryd.func15 K15 (by simp) rfl rfl 500 ?_
  simp [A15, iniρ, Disk.cse]
  refine callK.own 5 rfl (by kernel_rfl) (ys := [.rp (Disk.ty.cs d) 0]) (by simp [roc, upd_app, Disk.cse]) (R39 d hd) (Doc.ty.flo _) (by simp) rfl ?_
  simp
  refine callK.ro 0 rfl (by kernel_rfl) (ys := [.ro (rows Doc.ty.cs (docsNowF d)) (docsNowF d).length, .sc (.string lockB)]) (by simp [Doc.roc8, roc_sc, upd_app, lockB]) (R40 (docsNowF d) lockB (by omega)) rfl rfl rfl ?_
  by_cases h0 : 0 ≤ docIx lockB (docsNowF d)
  case neg =>
    rw [docIx_neg h0]
    simp [loadF, h0]
  obtain ⟨pre, x, rest, e1, e2, e3⟩ := docIx_at h0
  have hL : loadF d = x.text := by unfold loadF; rw [if_pos h0, e3]
  have hlt : (pre.length : Int) < (docsNowF d).length := by rw [e1]; simp only [List.length_append, List.length_cons]; omega
  have hdr := rows_drop Doc.ty.ocn pre (x :: rest)
  rw [← e1, rows_cons, Doc.oce] at hdr
  have hdr : List.drop (pre.length * 2) (rows Doc.ty.oc (docsNowF d)) = [.sc (.string x.name), .sc (.string x.text)] ++ rows Doc.ty.oc rest := hdr
  have hd1 : List.drop (pre.length * 2 + 1) (rows Doc.ty.oc (docsNowF d)) = [.sc (.string x.text)] ++ rows Doc.ty.oc rest := by rw [← List.drop_drop, hdr]; rfl
  rw [hL, e2]
  have hp0 : ¬ ((pre.length : Int) < 0) := by omega
  simp [hlt, hd1, hp0]
/- 41: loop.example/g00464/impl.copyDisk -/
def A41 : AC := (.seq (.ops [⟨(some 1), none, .w (.box (.t 0))⟩, ⟨(some 2), none, .w (.alloc [.em, .em])⟩])
  (.seq (.any [(⟨(some 3), none, .q (.fadr 0 (.t 1))⟩, []), (⟨(some 4), none, .q (.load false 1 (.t 3))⟩, [0]), (⟨(some 5), none, .c (.c (.clo 66 [])) [(.t 4)]⟩, [1]), (⟨(some 6), none, .q (.fadr 1 (.t 1))⟩, []), (⟨(some 7), none, .q (.load false 1 (.t 6))⟩, [3]), (⟨(some 8), none, .c (.c (.clo 67 [])) [(.t 7)]⟩, [4, 2]), (⟨(some 9), none, .w (.build [.em, .em] [(0, 1, (.t 5)), (1, 1, (.t 8))])⟩, [2, 5]), (⟨none, none, .w (.store 2 (.t 2) (.t 9))⟩, [6, 5, 0, 1, 2, 3, 4, 5, 6])])
  .ret))
theorem K41 : Tryd.f41.body.bind (comp Tryd.prog) = some A41 ∧ Tryd.f41.ntmps = 10 ∧ Tryd.f41.results.toList.mapM (resB Tryd.prog) = some [.load true 2 (.t 2)] := ⟨by kernel_rfl, by kernel_rfl, by kernel_rfl⟩
theorem R41 (d : Disk) (hd : Disk.ty.ok d) : Ret Tryd.prog 41 [.agg (Disk.ty.cs d)] (.agg (Disk.ty.oc d)) [.un] := by
  have hb1 : d.sure.length * 32 ≤ 140737488351232 := hd.1.1
  have hb2 : d.pend.length * 40 ≤ 140737488351232 := hd.2.1.1
  refine Ret.run Tryd.func41 K41 (by simp) rfl rfl 500 ?_
  simp [A41, iniρ]
  refine T.textW 400 [([], []), ([], []), ([5], []), ([], [5]), ([], [5]), ([8], []), ([], []), ([2], [])] mixed (by kernel_rfl) (by kernel_rfl) ?_
  simp [Disk.cse]
  refine callWK.ro 5 rfl (by kernel_rfl) (by simp [roc_ro, upd_app]) (R66 d.sure (by omega)) (Doc.ty.flo _) (by simp [inst, upd_app]; exact ⟨rfl, rfl⟩) (by rfl) ?_
  simp
  refine callWK.ro 8 rfl (by kernel_rfl) (by simp [roc_ro, upd_app]) (R67 d.pend (by omega)) (Op.ty.flo _) (by simp [inst, upd_app]; exact ⟨rfl, rfl⟩) (by rfl) ?_
  simp [over, Disk.oce, ex1, Doc.ocl, Doc.frL, Op.ocl, Op.frL]
/- 43: loop.example/g00464/impl.Settle -/
def A43 : AC := (.seq (.ops [⟨(some 1), none, .w (.box (.t 0))⟩, ⟨(some 2), none, .w (.alloc [.em, .em])⟩])
  (.seq (.seq (.ops [⟨(some 3), none, .q (.load true 2 (.t 1))⟩, ⟨(some 4), none, .c (.c (.clo 19 [])) [(.t 3)]⟩, ⟨(some 5), none, .q (.not (.t 4))⟩])
  (.cond (.t 5) (.seq (.ops [⟨(some 6), none, .q (.load true 2 (.t 1))⟩, ⟨(some 7), none, .c (.c (.clo 41 [])) [(.t 6)]⟩, ⟨none, none, .w (.store 2 (.t 2) (.t 7))⟩])
  .ret)
  .skip))
  (.seq (.ops [⟨(some 8), none, .c (.c (.clo 39 [])) [(.t 1)]⟩, ⟨(some 9), none, .w (.build [.em, .em] [(0, 1, (.t 8))])⟩, ⟨none, none, .w (.store 2 (.t 2) (.t 9))⟩])
  .ret)))
theorem K43 : Tryd.f43.body.bind (comp Tryd.prog) = some A43 ∧ Tryd.f43.ntmps = 10 ∧ Tryd.f43.results.toList.mapM (resB Tryd.prog) = some [.load true 2 (.t 2)] := ⟨by kernel_rfl, by kernel_rfl, by kernel_rfl⟩
theorem R43 (d : Disk) (hd : Disk.ty.ok d) : Ret Tryd.prog 43 [.agg (Disk.ty.cs d)] (.agg (Disk.ty.oc (settleF d))) [.un] := by
  refine Ret.run Tryd.func43 K43 (by simp) rfl rfl 500 ?_
  have hpl : plain.plainL (Disk.ty.cs d) = true := Disk.ty.plL d
  simp [A43, iniρ, Disk.cse, hpl]
  refine callK.ro 0 rfl (by kernel_rfl) (ys := [.agg (Disk.ty.cs d)]) (by simp [roc_agg, upd_app, Disk.cse]) (R19 d hd) rfl rfl rfl ?_
  cases hok : diskOk d with
  | false =>
    have hS : settleF d = d := by unfold settleF; rw [hok]; rfl
    rw [hS]
    simp
    refine callK.ro 7 rfl (by kernel_rfl) (ys := [.agg (Disk.ty.cs d)]) (by simp [roc_agg, upd_app, Disk.cse]) (R41 d hd) (by simpa [flt] using Disk.ty.flL d) (by simp [inst, instL, Disk.oce, upd_app]; exact ⟨rfl, rfl⟩) rfl ?_
    simp [over, Disk.oce, ex1, Doc.ocl, Doc.frL, Op.ocl, Op.frL]
  | true =>
    have hS : settleF d = ⟨docsNowF d, []⟩ := by unfold settleF; rw [hok]; rfl
    rw [hS]
    simp
    refine callK.own 8 rfl (by kernel_rfl) (ys := [.rp (Disk.ty.cs d) 0]) (by simp [roc, upd_app, Disk.cse]) (R39 d hd) (Doc.ty.flo _) (by simp) rfl ?_
    simp [over, Disk.oce, ex1, Doc.ocl, Doc.frL, rows_nil]
/- 45: loop.example/g00464/impl.Crash$1 -/
def A45 : AC := (.seq (.ops [⟨(some 3), none, .q (.mov (.c (.sc (.bool false))))⟩])
  (.seq (.ops [⟨(some 4), none, .q (.load false 1 (.t 1))⟩, ⟨(some 5), none, .q (.mov (.t 0))⟩, ⟨(some 6), none, .q (.cvi .u64 (.t 5))⟩, ⟨(some 7), none, .q (.bin .shr (.t 4) (.t 6))⟩, ⟨(some 8), none, .q (.bin .and (.t 7) (.c (.sc (.int .i64 1))))⟩, ⟨(some 9), none, .q (.bin .eql (.t 8) (.c (.sc (.int .i64 1))))⟩, ⟨(some 3), none, .q (.mov (.t 9))⟩])
  .ret))
theorem K45 : Tryd.f45.body.bind (comp Tryd.prog) = some A45 ∧ Tryd.f45.ntmps = 10 ∧ Tryd.f45.results.toList.mapM (resB Tryd.prog) = some [.mov (.t 3)] := ⟨by kernel_rfl, by kernel_rfl, by kernel_rfl⟩
theorem R45 (keep : Int) (i : Nat) (hi : i < 4611686018427387904) : Ret Tryd.prog 45 [.sc (.int .i64 i), .rp [.sc (.int .i64 keep)] 0] (.sc (.bool (bitK keep i))) [.un, .un] := by
  refine Ret.run Tryd.func45 K45 (by simp) rfl rfl 500 ?_
  have hw : IntKind.u64.wrap (i : Int) = i := by simp [IntKind.wrap, IntKind.bits, IntKind.signed]; omega
  have hn : ¬ ((i : Int) < 0) := by omega
  simp [A45, iniρ, hw, hn, bitK]
/- 17: loop.example/g00464/impl.Crash -/
def A17 : AC := (.seq (.ops [⟨(some 2), none, .w (.box (.t 0))⟩, ⟨(some 3), none, .w (.box (.t 1))⟩, ⟨(some 4), none, .w (.alloc [.em, .em])⟩])
  (.seq (.seq (.ops [⟨(some 5), none, .q (.load true 2 (.t 2))⟩, ⟨(some 6), none, .c (.c (.clo 19 [])) [(.t 5)]⟩, ⟨(some 7), none, .q (.not (.t 6))⟩])
  (.cond (.t 7) (.seq (.ops [⟨(some 8), none, .q (.load true 2 (.t 2))⟩, ⟨(some 9), none, .c (.c (.clo 41 [])) [(.t 8)]⟩, ⟨none, none, .w (.store 2 (.t 4) (.t 9))⟩])
  .ret)
  .skip))
  (.seq (.ops [⟨(some 10), none, .q (.mkf 45 [(.t 3)])⟩, ⟨(some 11), none, .c (.c (.clo 44 [])) [(.t 2), (.t 10)]⟩, ⟨(some 12), none, .w (.build [.em, .em] [(0, 1, (.t 11))])⟩, ⟨none, none, .w (.store 2 (.t 4) (.t 12))⟩])
  .ret)))
theorem K17 : Tryd.f17.body.bind (comp Tryd.prog) = some A17 ∧ Tryd.f17.ntmps = 13 ∧ Tryd.f17.results.toList.mapM (resB Tryd.prog) = some [.load true 2 (.t 4)] := ⟨by kernel_rfl, by kernel_rfl, by kernel_rfl⟩
theorem R17 (d : Disk) (keep : Int) (hd : Disk.ty.ok d) : Ret Tryd.prog 17 [.agg (Disk.ty.cs d), .sc (.int .i64 keep)] (.agg (Disk.ty.oc (crashF d keep))) [.un, .un] := by
  have hb2 : d.pend.length * 40 ≤ 140737488351232 := hd.2.1.1
  refine Ret.run Tryd.func17 K17 (by simp) rfl rfl 500 ?_
  have hpl : plain.plainL (Disk.ty.cs d) = true := Disk.ty.plL d
  simp [A17, iniρ, Disk.cse, hpl]
  refine callK.ro 0 rfl (by kernel_rfl) (ys := [.agg (Disk.ty.cs d)]) (by simp [roc_agg, upd_app, Disk.cse]) (R19 d hd) rfl rfl rfl ?_
  cases hok : diskOk d with
  | false =>
    have hS : crashF d keep = d := by unfold crashF; rw [hok]; rfl
    rw [hS]
    simp
    refine callK.ro 9 rfl (by kernel_rfl) (ys := [.agg (Disk.ty.cs d)]) (by simp [roc_agg, upd_app, Disk.cse]) (R41 d hd) (by simpa [flt] using Disk.ty.flL d) (by simp [inst, instL, Disk.oce, upd_app]; exact ⟨rfl, rfl⟩) rfl ?_
    simp [over, Disk.oce, ex1, Doc.ocl, Doc.frL, Op.ocl, Op.frL]
  | true =>
    have hS : crashF d keep = ⟨docsF (bitK keep) d.pend 0 d.sure, []⟩ := by unfold crashF; rw [hok]; rfl
    rw [hS]
    simp
    refine callK.own 11 rfl (by kernel_rfl) (ys := [.rp (Disk.ty.cs d) 0, .clo 45 [.rp [.sc (.int .i64 keep)] 0]]) (by simp [roc, upd_app, Disk.cse]) (R44 d hd 45 [.rp [.sc (.int .i64 keep)] 0] (bitK keep) (by kernel_rfl) rfl (fun i hi => R45 keep i (by omega))) (Doc.ty.flo _) (by simp) rfl ?_
    simp [over, Disk.oce, ex1, Doc.ocl, Doc.frL, rows_nil]
end Go.Proofs.YtadoadomogceiaaDoor.Am
