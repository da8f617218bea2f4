/- The small machine and the contracts of the functions, part 2 (Puts, Cache, Reader, GetMade, GetMadeS, MadeLaw, Marks, Mark, Slots, Marks3, CacheGet, Copies, CachePut, MarksM, PutLaw, Damage, Draw, DrawMarks); no condition. -/
import Derived.Test.YtaknfalbmblagaaGreatDoorProg
import Derived.Test.YtaknfalbmblagaaGreatDoorAmZ
import Derived.Test.YtaknfalbmblagaaGreatDoorAmP
import Derived.Test.YtaknfalbmblagaaGreatDoorB1
import Derived.Test.YtaknfalbmblagaaGreatDoorAmK
import Derived.KernelRfl
import Derived.Test.YtaknfalbmblagaaGreatDoorAmM
import Derived.Test.YtaknfalbmblagaaGreatDoorAmN
namespace Go.Proofs.YtaknfalbmblagaaGreatDoor.Am
open Go Go.Proofs
set_option linter.unusedSimpArgs false
set_option linter.unusedVariables false
attribute [local congr] T_congr callK_congr callWK_congr
attribute [local simp] run_nil run_op0 run_opg run_seq run_cond run_block run_ret run_skip run_skip_after run_skip_blk run_exit run_exit_after run_exit_blk run_loop run_any runS_nil runS_op0 runS_opg runW_nil runW_op0 runW_opg exec_q exec_w exec_c exec_n execW_q execW_w execW_c restW_app hideH_app merge_app wblk rest_app restS_app execS_q execS_c aval dOk upd_app ev_t ev_c setO_some setO_none put_mk pinsOf isIo hasIo sbin endR fin resL one outL out1 clo1 cloL coe coeL shut shut.shutL wantA weff cellsOf fillA deref natOf ρ0_app h0_app plain plain.plainL keep_app keepH_app andThen_normal andThen_ret andThen_exit pop_nil pop_after pop_after_ret pop_after_exit pop_blk pop_blk_ret pop_blk_exit nilA srcOf srcCells keepR_app keepHR_app renA rb
def putFs : List Int → List File → List Int
  | b, [] => b
  | b, f :: l => putFs (putT (putT b f.path) f.text) l
def putFl (b : List Int) (l : List File) : List Int := putFs (putT b (numT l.length)) l
def fw : List File → Nat
  | [] => 0
  | f :: l => f.path.size + f.text.size + 4 + fw l
theorem putT_le (b : List Int) (s : ByteArray) : (putT b s).length ≤ b.length + s.size + 2 := by
  unfold putT
  split
  · have := sB_len s
    simp only [List.length_append, hiL, List.length_cons, List.length_nil, this]; omega
  · omega
theorem putFs_le : ∀ (l : List File) (b : List Int), (putFs b l).length ≤ b.length + fw l
  | [], b => Nat.le_refl _
  | f :: l, b => by
    have h1 := putT_le b f.path
    have h2 := putT_le (putT b f.path) f.text
    have h3 := putFs_le l (putT (putT b f.path) f.text)
    rw [putFs, fw]; omega
theorem B_fl (b : List Int) : flt (.own (rows B b) b.length 1) = true := B.flo b
theorem B_cnt (b : List Int) : (rows B b).length = b.length * 1 := by rw [Nat.mul_one]; exact B.count b
/- 92: loop.example/g00464/impl.putFiles -/
def A92 : AC := (.seq (.ops [⟨(some 4), none, .q (.mov (.c .em))⟩])
  (.seq (.ops [⟨(some 7), none, .q (.mov (.t 0))⟩, ⟨(some 8), none, .q (.mov (.t 1))⟩, ⟨(some 9), none, .q (.llen (.t 8))⟩, ⟨(some 10), none, .c (.c (.clo 103 [])) [(.t 9)]⟩, ⟨(some 11), none, .c (.c (.clo 93 [])) [(.t 7), (.t 10)]⟩, ⟨(some 0), none, .q (.mov (.t 11))⟩])
  (.seq (.seq (.ops [⟨(some 12), none, .q (.mov (.t 1))⟩, ⟨(some 13), none, .q (.llen (.t 12))⟩, ⟨(some 14), none, .q (.mov (.c (.sc (.int .i64 0))))⟩])
  (.block 0 (.loop (.seq (.ops [⟨(some 15), none, .q (.bin .lss (.t 14) (.t 13))⟩])
  (.seq (.cond (.t 15) .skip
  (.exit 0))
  (.seq (.block 1 (.seq (.ops [⟨(some 16), none, .q (.iadr 2 (.t 12) (.t 14))⟩, ⟨(some 17), none, .q (.load true 2 (.t 16))⟩, ⟨(some 6), none, .w (.alloc [(.sc (.string ⟨#[]⟩)), (.sc (.string ⟨#[]⟩))])⟩, ⟨none, none, .w (.store 2 (.t 6) (.t 17))⟩])
  (.any [(⟨(some 18), none, .q (.mov (.t 0))⟩, []), (⟨(some 19), none, .q (.fadr 0 (.t 6))⟩, []), (⟨(some 20), none, .q (.load false 1 (.t 19))⟩, [1]), (⟨(some 21), none, .c (.c (.clo 93 [])) [(.t 18), (.t 20)]⟩, [0, 2]), (⟨(some 22), none, .q (.fadr 1 (.t 6))⟩, []), (⟨(some 23), none, .q (.load false 1 (.t 22))⟩, [4]), (⟨(some 24), none, .c (.c (.clo 93 [])) [(.t 21), (.t 23)]⟩, [3, 5, 3]), (⟨(some 0), none, .q (.mov (.t 24))⟩, [6, 6, 0, 1, 2, 3, 4, 5, 6])])))
  (.ops [⟨(some 25), none, .q (.bin .add (.t 14) (.c (.sc (.int .i64 1))))⟩, ⟨(some 14), none, .q (.mov (.t 25))⟩])))))))
  (.seq (.ops [⟨(some 26), none, .q (.mov (.t 0))⟩, ⟨(some 4), none, .q (.mov (.t 26))⟩])
  .ret))))
theorem K92 : Tryz.f92.body.bind (comp Tryz.prog) = some A92 ∧ Tryz.f92.ntmps = 27 ∧ Tryz.f92.results.toList.mapM (resB Tryz.prog) = some [.mov (.t 4)] := ⟨by kernel_rfl, by kernel_rfl, by kernel_rfl⟩
set_option maxHeartbeats 2000000 in
theorem R92 (b : List Int) (xs : List File) (hn : xs.length < 4611686018427387904) (hb : b.length + xs.length + 10 + fw xs ≤ 140737488350000) : Ret Tryz.prog 92 [.own (rows B b) b.length 1, .ro (rows File.ty.cs xs) xs.length] (.own (rows B (putFl b xs)) (putFl b xs).length 1) [.un, .un] := by
  have hns := numT_size xs.length
  have hpl := putT_le b (numT xs.length)
  refine Ret.run Tryz.func92 K92 (by simp) rfl rfl 900 ?_
  simp [A92, iniρ]
  refine callK.ro 0 rfl (by kernel_rfl) (by simp [roc_sc]) (R103 xs.length hn) rfl rfl rfl ?_
  simp
  refine callK.mv1 11 100000 rfl (by kernel_rfl) (by simp [upd_app]) (by simp [upd_app]) (B_cnt _) (idfreeL_rows B.fr _) (by simp [upd_app, roc_sc]) (R93 b (numT xs.length) (by omega)) (B_fl _) (by simp [inst, upd_app]; exact ⟨rfl, rfl⟩) rfl ?_
  simp
  refine T.le (Le.reseat [0, 1, 12, 13, 14] [(11, 60)] (by simp) (by simp [upd_app, menB, idfree]) (by
    intro c hc cs hcs
    simp at hc
    subst hc
    simp [upd_app] at hcs
    subst hcs
    exact idfreeL_mem (idfreeL_rows B.fr _))) ?_
  refine T.rounds (μ := fun i : List File × List File × List Int => i.2.1.length)
    (fun i s => i.1 ++ i.2.1 = xs ∧ putFs i.2.2 i.2.1 = putFl b xs ∧ i.2.2.length + fw i.2.1 ≤ 140737488350000 ∧ s.ρ 0 = .sl 60 0 i.2.2.length 1 false ∧ s.ρ 12 = .ro (rows File.ty.cs xs) xs.length ∧ s.ρ 13 = .sc (.int .i64 xs.length) ∧ s.ρ 14 = .sc (.int .i64 i.1.length) ∧ s.h 60 = some (some (rows B i.2.2)) ∧ (∀ c, c ≠ 60 → s.h c = none) ∧ s.n = 27) ([], xs, putT b (numT xs.length)) (by simp [upd_app, putFl]; exact ⟨by omega, fun c hc => by rw [if_neg (fun e => hc e.symm)]⟩) ?_
  rintro ⟨pre, rest, cur⟩ ⟨ρ, hh, n⟩ ⟨hx, hE, hw, k0, k12, k13, k14, b60, bf, rfl⟩
  simp only at hx hE hw k0 k12 k13 k14 b60 bf
  refine run_ok (n := 400) ?_
  cases rest with
  | nil =>
    have hxl : pre.length = xs.length := by rw [← hx]; simp
    have hE : cur = putFl b xs := hE
    simp [k13, k14, hxl]
    refine T.on 400 ?_
    simp [k0, b60, hE, ex1, B.count, idfreeL_rows B.fr]
  | cons x rest =>
    have hle : pre.length + (rest.length + 1) = xs.length := by rw [← hx]; simp
    have hlt : (pre.length : Int) < xs.length := by omega
    have hwr : IntKind.i64.wrap ((pre.length : Int) + 1) = pre.length + 1 := wrap_i64 (by omega) (by omega)
    have hd := rows_drop File.ty.csn pre (x :: rest)
    rw [hx, rows_cons] at hd
    have hd : List.drop (pre.length * 2) (rows File.ty.cs xs) = AV.sc (.string x.path) :: AV.sc (.string x.text) :: rows File.ty.cs rest := hd
    have f6 := bf 6 (by decide)
    have f21 := bf 21 (by decide)
    have f24 := bf 24 (by decide)
    rw [fw] at hw
    have p1 := putT_le cur x.path
    have p2 := putT_le (putT cur x.path) x.text
    simp [k0, k12, k13, k14, hlt, hd, f6, over]
    refine T.textW 400 [([], []), ([], []), ([], []), ([60, 21], []), ([], [21, 60]), ([], [21, 60]), ([21, 24], []), ([], [])] mixed (by kernel_rfl) (by kernel_rfl) ?_
    simp [k0, merge_nil, hideH_nil]
    refine callWK.mv1 21 60 rfl (by kernel_rfl) (by simp [upd_app]) (by simp [upd_app, hideH_app, b60]) (B_cnt _) (idfreeL_rows B.fr _) (by simp [upd_app, roc_sc]) (R93 cur x.path (by omega)) (B_fl _) (by simp [inst, upd_app, hideH_app, f21]; exact ⟨rfl, rfl⟩) (by rfl) ?_
    simp [merge_nil, hideH_nil]
    refine callWK.mv1 24 21 rfl (by kernel_rfl) (by simp [upd_app]) (by simp [upd_app, hideH_app]) (B_cnt _) (idfreeL_rows B.fr _) (by simp [upd_app, roc_sc]) (R93 (putT cur x.path) x.text (by omega)) (B_fl _) (by simp [inst, upd_app, hideH_app, f24]; exact ⟨rfl, rfl⟩) (by rfl) ?_
    simp [k14, hwr, merge_nil, hideH_nil]
    refine ⟨pre ++ [x], rest, by simp, putT (putT cur x.path) x.text, _, Le.reseat [0, 12, 13, 14] [(24, 60)] (by simp) (by simp [upd_app, menB, idfree, k12, k13]) ?_, by simpa using hx, hE, by omega, ?_⟩
    · intro c hc cs hcs
      simp at hc
      subst hc
      simp [upd_app] at hcs
      subst hcs
      exact idfreeL_mem (idfreeL_rows B.fr _)
    · simp [upd_app, k12, k13]
      intro c hc
      rw [if_neg (fun e => hc e.symm)]
/- 115: loop.example/g00464/spec.l16Count -/
def A115 : AC := (.seq (.ops [⟨(some 4), none, .q (.mov (.c .em))⟩])
  (.seq (.ops [⟨(some 5), none, .q (.mov (.t 0))⟩, ⟨(some 6), none, .q (.mov (.t 1))⟩, ⟨(some 7), none, .c (.c (.clo 75 [])) [(.t 6)]⟩, ⟨(some 8), none, .c (.c (.clo 95 [])) [(.t 5), (.t 7)]⟩, ⟨(some 4), none, .q (.mov (.t 8))⟩])
  .ret))
theorem K115 : Tryz.f115.body.bind (comp Tryz.prog) = some A115 ∧ Tryz.f115.ntmps = 9 ∧ Tryz.f115.results.toList.mapM (resB Tryz.prog) = some [.mov (.t 4)] := ⟨by kernel_rfl, by kernel_rfl, by kernel_rfl⟩
theorem R115 (b : List Int) (n : Nat) (hn : n < 4611686018427387904) (hb : b.length + n + 10 ≤ 140737488350000) : Ret Tryz.prog 115 [.ro (rows B b) b.length, .sc (.int .i64 n)] (.own (rows B (putT b (numT n))) (putT b (numT n)).length 1) [.un, .un] := by
  have hns := numT_size n
  refine Ret.run Tryz.func115 K115 (by simp) rfl rfl 900 ?_
  simp [A115, iniρ]
  refine callK.ro 0 rfl (by kernel_rfl) (by simp [roc_sc]) (R75 n hn) rfl rfl rfl ?_
  simp
  refine callK.own 8 rfl (by kernel_rfl) (by simp [roc_sc, roc_ro]) (R95 b (numT n) (by omega)) (B_fl _) (by simp) rfl ?_
  simp [ex1, B.count, idfreeL_rows B.fr]
/- 94: loop.example/g00464/spec.l16Files -/
def A94 : AC := (.seq (.ops [⟨(some 4), none, .q (.mov (.c .em))⟩])
  (.seq (.ops [⟨(some 6), none, .q (.mov (.t 0))⟩, ⟨(some 7), none, .q (.mov (.t 1))⟩, ⟨(some 8), none, .q (.llen (.t 7))⟩, ⟨(some 9), none, .c (.c (.clo 115 [])) [(.t 6), (.t 8)]⟩, ⟨(some 0), none, .q (.mov (.t 9))⟩])
  (.seq (.seq (.ops [⟨(some 5), none, .q (.mov (.c (.sc (.int .i64 0))))⟩])
  (.block 0 (.loop (.seq (.seq (.ops [⟨(some 10), none, .q (.mov (.t 5))⟩, ⟨(some 11), none, .q (.mov (.t 1))⟩, ⟨(some 12), none, .q (.llen (.t 11))⟩, ⟨(some 13), none, .q (.bin .lss (.t 10) (.t 12))⟩])
  (.cond (.t 13) .skip
  (.exit 0)))
  (.seq (.block 1 (.any [(⟨(some 16), none, .q (.mov (.t 0))⟩, []), (⟨(some 17), none, .q (.mov (.t 1))⟩, []), (⟨(some 18), none, .q (.mov (.t 5))⟩, []), (⟨(some 19), none, .q (.iadr 2 (.t 17) (.t 18))⟩, [1, 2]), (⟨(some 20), none, .q (.fadr 0 (.t 19))⟩, [3]), (⟨(some 21), none, .q (.load false 1 (.t 20))⟩, [4]), (⟨(some 22), none, .c (.c (.clo 95 [])) [(.t 16), (.t 21)]⟩, [0, 5]), (⟨(some 23), none, .q (.mov (.t 1))⟩, []), (⟨(some 24), none, .q (.mov (.t 5))⟩, []), (⟨(some 25), none, .q (.iadr 2 (.t 23) (.t 24))⟩, [7, 8]), (⟨(some 26), none, .q (.fadr 1 (.t 25))⟩, [9]), (⟨(some 27), none, .q (.load false 1 (.t 26))⟩, [10]), (⟨(some 28), none, .c (.c (.clo 95 [])) [(.t 22), (.t 27)]⟩, [6, 11, 6]), (⟨(some 0), none, .q (.mov (.t 28))⟩, [12, 12, 0, 1, 2, 3, 4, 5, 6, 7, 8, 9, 10, 11, 12])]))
  (.ops [⟨(some 14), none, .q (.mov (.t 5))⟩, ⟨(some 15), none, .q (.bin .add (.t 14) (.c (.sc (.int .i64 1))))⟩, ⟨(some 5), none, .q (.mov (.t 15))⟩]))))))
  (.seq (.ops [⟨(some 29), none, .q (.mov (.t 0))⟩, ⟨(some 4), none, .q (.mov (.t 29))⟩])
  .ret))))
theorem K94 : Tryz.f94.body.bind (comp Tryz.prog) = some A94 ∧ Tryz.f94.ntmps = 30 ∧ Tryz.f94.results.toList.mapM (resB Tryz.prog) = some [.mov (.t 4)] := ⟨by kernel_rfl, by kernel_rfl, by kernel_rfl⟩
set_option maxHeartbeats 2000000 in
theorem R94 (b : List Int) (xs : List File) (hn : xs.length < 4611686018427387904) (hb : b.length + xs.length + 10 + fw xs ≤ 140737488350000) : Ret Tryz.prog 94 [.ro (rows B b) b.length, .ro (rows File.ty.cs xs) xs.length] (.own (rows B (putFl b xs)) (putFl b xs).length 1) [.un, .un] := by
  have hns := numT_size xs.length
  have hpl := putT_le b (numT xs.length)
  refine Ret.run Tryz.func94 K94 (by simp) rfl rfl 900 ?_
  simp [A94, iniρ]
  refine callK.own 9 rfl (by kernel_rfl) (by simp [roc_sc, roc_ro]) (R115 b xs.length hn (by omega)) (B_fl _) (by simp) rfl ?_
  simp
  refine T.le (Le.reseat [0, 1, 5] [(9, 60)] (by simp) (by simp [upd_app, menB, idfree]) (by
    intro c hc cs hcs
    simp at hc
    subst hc
    simp [upd_app] at hcs
    subst hcs
    exact idfreeL_mem (idfreeL_rows B.fr _))) ?_
  refine T.rounds (μ := fun i : List File × List File × List Int => i.2.1.length)
    (fun i s => i.1 ++ i.2.1 = xs ∧ putFs i.2.2 i.2.1 = putFl b xs ∧ i.2.2.length + fw i.2.1 ≤ 140737488350000 ∧ s.ρ 0 = .sl 60 0 i.2.2.length 1 false ∧ s.ρ 1 = .ro (rows File.ty.cs xs) xs.length ∧ s.ρ 5 = .sc (.int .i64 i.1.length) ∧ s.h 60 = some (some (rows B i.2.2)) ∧ (∀ c, c ≠ 60 → s.h c = none) ∧ s.n = 30) ([], xs, putT b (numT xs.length)) (by simp [upd_app, putFl]; exact ⟨by omega, fun c hc => by rw [if_neg (fun e => hc e.symm)]⟩) ?_
  rintro ⟨pre, rest, cur⟩ ⟨ρ, hh, n⟩ ⟨hx, hE, hw, k0, k1, k5, b60, bf, rfl⟩
  simp only at hx hE hw k0 k1 k5 b60 bf
  refine run_ok (n := 400) ?_
  cases rest with
  | nil =>
    have hxl : pre.length = xs.length := by rw [← hx]; simp
    have hE : cur = putFl b xs := hE
    simp [k1, k5, hxl]
    refine T.on 400 ?_
    simp [k0, b60, hE, ex1, B.count, idfreeL_rows B.fr]
  | cons x rest =>
    have hle : pre.length + (rest.length + 1) = xs.length := by rw [← hx]; simp
    have hlt : (pre.length : Int) < xs.length := by omega
    have hwr : IntKind.i64.wrap ((pre.length : Int) + 1) = pre.length + 1 := wrap_i64 (by omega) (by omega)
    have hd := rows_drop File.ty.csn pre (x :: rest)
    rw [hx, rows_cons] at hd
    have hd : List.drop (pre.length * 2) (rows File.ty.cs xs) = AV.sc (.string x.path) :: AV.sc (.string x.text) :: rows File.ty.cs rest := hd
    have hd1 : List.drop (pre.length * 2 + 1) (rows File.ty.cs xs) = AV.sc (.string x.text) :: rows File.ty.cs rest := by rw [← List.drop_drop, hd]; rfl
    have f22 := bf 22 (by decide)
    have f28 := bf 28 (by decide)
    rw [fw] at hw
    have p1 := putT_le cur x.path
    have p2 := putT_le (putT cur x.path) x.text
    have r60 : ∀ (h : Hp), h 60 = some (some (rows B cur)) → roc h 8 (.sl 60 0 cur.length 1 false) = some (.ro (rows B cur) cur.length) := fun h e => B.roc e
    have r22 : ∀ (h : Hp), h 22 = some (some (rows B (putT cur x.path))) → roc h 8 (.sl 22 0 (putT cur x.path).length 1 false) = some (.ro (rows B (putT cur x.path)) (putT cur x.path).length) := fun h e => B.roc e
    simp [k1, k5, hlt]
    refine T.textW 400 [([], []), ([], []), ([], []), ([], []), ([], []), ([], []), ([22], []), ([], [22]), ([], [22]), ([], [22]), ([], [22]), ([], [22]), ([28], []), ([], [])] mixed (by kernel_rfl) (by kernel_rfl) ?_
    simp [k0, k1, k5, hlt, hd, merge_nil, hideH_nil]
    refine callWK.ro 22 rfl (by kernel_rfl) (by simp [upd_app, roc_sc, hideH_app, r60, b60]) (R95 cur x.path (by omega)) (B_fl _) (by simp [inst, upd_app, hideH_app, f22]; exact ⟨rfl, rfl⟩) (by rfl) ?_
    simp [k0, k1, k5, hlt, hd1, merge_nil, hideH_nil]
    refine callWK.ro 28 rfl (by kernel_rfl) (by simp [upd_app, roc_sc, hideH_app, r22]) (R95 (putT cur x.path) x.text (by omega)) (B_fl _) (by simp [inst, upd_app, hideH_app, f28]; exact ⟨rfl, rfl⟩) (by rfl) ?_
    simp [k5, hwr, merge_nil, hideH_nil]
    refine ⟨pre ++ [x], rest, by simp, putT (putT cur x.path) x.text, _, Le.reseat [0, 1, 5] [(28, 60)] (by simp) (by simp [upd_app, menB, idfree, k1]) ?_, by simpa using hx, hE, by omega, ?_⟩
    · intro c hc cs hcs
      simp at hc
      subst hc
      simp [upd_app] at hcs
      subst hcs
      exact idfreeL_mem (idfreeL_rows B.fr _)
    · simp [upd_app, k1]
      intro c hc
      rw [if_neg (fun e => hc e.symm)]
def bodyM (m : Made) : List Int := putFl (putT (putT [] m.task) m.log) m.outs
def sumsL (n : Int) : List Int := [n / 256 % 256, n % 256]
def putM (m : Made) : List Int := bodyM m ++ sumsL (bodyM m).sum
def mw (m : Made) : Nat := m.task.size + m.log.size + m.outs.length + 30 + fw m.outs
theorem bodyM_le (m : Made) : (bodyM m).length + 1 ≤ mw m := by
  have h1 := putT_le [] m.task
  have h2 := putT_le (putT [] m.task) m.log
  have h3 := putT_le (putT (putT [] m.task) m.log) (numT m.outs.length)
  have h4 := numT_size m.outs.length
  have h5 := putFs_le m.outs (putT (putT (putT [] m.task) m.log) (numT m.outs.length))
  simp only [List.length_nil] at h1
  unfold bodyM putFl mw
  omega
def byteL (b : List Int) : Prop := ∀ x ∈ b, 0 ≤ x ∧ x ≤ 255
theorem sB_byte (s : ByteArray) : byteL (sB s) := fun x hx => by
  obtain ⟨c, _, rfl⟩ := List.mem_map.1 hx
  have := c.toNat_lt
  omega
theorem byteL_app {a b : List Int} (ha : byteL a) (hb : byteL b) : byteL (a ++ b) := fun x hx => (List.mem_append.1 hx).elim (ha x) (hb x)
theorem hiL_byte {n : Nat} (h : n ≤ 60000) : byteL (hiL n) := fun x hx => by
  simp only [hiL, List.mem_cons, List.not_mem_nil, or_false] at hx
  rcases hx with rfl | rfl <;> omega
theorem putT_byte {b : List Int} (hb : byteL b) (s : ByteArray) : byteL (putT b s) := by
  unfold putT
  split
  · rename_i h
    exact byteL_app hb (byteL_app (hiL_byte h) (sB_byte s))
  · exact hb
theorem putFs_byte : ∀ (l : List File) {b : List Int}, byteL b → byteL (putFs b l)
  | [], _, h => h
  | f :: l, _, h => putFs_byte l (putT_byte (putT_byte h _) _)
theorem bodyM_byte (m : Made) : byteL (bodyM m) := putFs_byte _ (putT_byte (putT_byte (putT_byte (fun x hx => by cases hx) _) _) _)
theorem sumsL_byte (n : Int) : byteL (sumsL n) := fun x hx => by
  simp only [sumsL, List.mem_cons, List.not_mem_nil, or_false] at hx
  rcases hx with rfl | rfl <;> omega
theorem putM_byte (m : Made) : byteL (putM m) := byteL_app (bodyM_byte m) (sumsL_byte _)
theorem sum_rng : ∀ {b : List Int}, byteL b → 0 ≤ b.sum ∧ b.sum ≤ 255 * b.length
  | [], _ => by simp
  | x :: b, h => by
    have h1 := h x (by simp)
    have h2 := sum_rng (b := b) fun y hy => h y (List.mem_cons_of_mem _ hy)
    simp only [List.sum_cons, List.length_cons]
    omega
theorem wrap_sh {n : Int} (h0 : 0 ≤ n) : IntKind.u8.wrap (n.fdiv (2 ^ min 8 IntKind.i64.bits)) = n / 256 % 256 := by
  have e : n.fdiv (2 ^ min 8 IntKind.i64.bits) = n / 256 := by
    rw [Int.fdiv_eq_ediv_of_nonneg _ (by decide)]; rfl
  rw [e]; rfl
theorem wrap_sl (n : Int) : IntKind.u8.wrap n = n % 256 := rfl
/- 54: loop.example/g00464/impl.PutMade -/
def A54 : AC := (.seq (.ops [⟨(some 1), none, .w (.box (.t 0))⟩, ⟨(some 2), none, .q (.mov (.c .em))⟩])
  (.seq (.any [(⟨(some 7), none, .q (.fadr 0 (.t 1))⟩, []), (⟨(some 8), none, .q (.load false 1 (.t 7))⟩, [0]), (⟨(some 9), none, .c (.c (.clo 93 [])) [(.c .em), (.t 8)]⟩, [1]), (⟨(some 10), none, .q (.fadr 2 (.t 1))⟩, []), (⟨(some 11), none, .q (.load false 1 (.t 10))⟩, [3]), (⟨(some 12), none, .c (.c (.clo 93 [])) [(.t 9), (.t 11)]⟩, [2, 4, 2]), (⟨(some 13), none, .q (.fadr 1 (.t 1))⟩, []), (⟨(some 14), none, .q (.load false 1 (.t 13))⟩, [6]), (⟨(some 15), none, .c (.c (.clo 92 [])) [(.t 12), (.t 14)]⟩, [5, 7, 5]), (⟨(some 3), none, .q (.mov (.t 15))⟩, [8, 8, 0, 1, 2, 3, 4, 5, 6, 7, 8])])
  (.seq (.ops [⟨(some 4), none, .q (.mov (.c (.sc (.int .i64 0))))⟩])
  (.seq (.seq (.ops [⟨(some 16), none, .q (.mov (.t 3))⟩, ⟨(some 17), none, .q (.llen (.t 16))⟩, ⟨(some 18), none, .q (.mov (.c (.sc (.int .i64 0))))⟩])
  (.block 0 (.loop (.seq (.ops [⟨(some 19), none, .q (.bin .lss (.t 18) (.t 17))⟩])
  (.seq (.cond (.t 19) .skip
  (.exit 0))
  (.seq (.block 1 (.seq (.ops [⟨(some 20), none, .q (.iadr 1 (.t 16) (.t 18))⟩, ⟨(some 21), none, .q (.load false 1 (.t 20))⟩, ⟨(some 6), none, .q (.mov (.t 21))⟩])
  (.ops [⟨(some 22), none, .q (.mov (.t 4))⟩, ⟨(some 23), none, .q (.mov (.t 6))⟩, ⟨(some 24), none, .q (.cvi .i64 (.t 23))⟩, ⟨(some 25), none, .q (.bin .add (.t 22) (.t 24))⟩, ⟨(some 4), none, .q (.mov (.t 25))⟩])))
  (.ops [⟨(some 26), none, .q (.bin .add (.t 18) (.c (.sc (.int .i64 1))))⟩, ⟨(some 18), none, .q (.mov (.t 26))⟩])))))))
  (.seq (.ops [⟨(some 27), none, .q (.mov (.t 3))⟩, ⟨(some 28), none, .q (.mov (.t 4))⟩, ⟨(some 29), none, .q (.bin .shr (.t 28) (.c (.sc (.int .u64 8))))⟩, ⟨(some 30), none, .q (.cvi .u8 (.t 29))⟩, ⟨(some 31), none, .q (.mov (.t 4))⟩, ⟨(some 32), none, .q (.cvi .u8 (.t 31))⟩, ⟨(some 33), none, .w (.bsl 1 2 [(.sc (.int .u8 0)), (.sc (.int .u8 0))] [(0, 1, (.t 30)), (1, 1, (.t 32))])⟩, ⟨(some 34), none, .w (.app 1 1 false (.t 27) (.t 33))⟩, ⟨(some 2), none, .q (.mov (.t 34))⟩])
  .ret)))))
theorem K54 : Tryz.f54.body.bind (comp Tryz.prog) = some A54 ∧ Tryz.f54.ntmps = 35 ∧ Tryz.f54.results.toList.mapM (resB Tryz.prog) = some [.mov (.t 2)] := ⟨by kernel_rfl, by kernel_rfl, by kernel_rfl⟩
set_option maxHeartbeats 2000000 in
theorem R54 (m : Made) (hn : m.outs.length < 4611686018427387904) (hb : mw m ≤ 140737488350000) : Ret Tryz.prog 54 [.agg (Made.ty.cs m)] (.own (rows B (putM m)) (putM m).length 1) [.un] := by
  have h1 := putT_le [] m.task
  have h2 := putT_le (putT [] m.task) m.log
  have hbl := bodyM_le m
  have hw : mw m = m.task.size + m.log.size + m.outs.length + 30 + fw m.outs := rfl
  simp only [List.length_nil] at h1
  have r1 := R93 [] m.task (by simp only [List.length_nil]; omega)
  have r2 := R93 (putT [] m.task) m.log (by omega)
  have r3 := R92 (putT (putT [] m.task) m.log) m.outs hn (by omega)
  have hby := bodyM_byte m
  have hM : putM m = bodyM m ++ sumsL (bodyM m).sum := rfl
  obtain ⟨bd, hbd⟩ : ∃ bd, bd = bodyM m := ⟨_, rfl⟩
  change Ret Tryz.prog 92 _ (.own (rows B (bodyM m)) (bodyM m).length 1) _ at r3
  rw [← hbd] at r3 hby hbl hM
  refine Ret.run Tryz.func54 K54 (by simp) rfl rfl 900 ?_
  simp [A54, iniρ, Made.cse]
  refine T.textW 400 [([], []), ([], []), ([9], []), ([], [9]), ([], [9]), ([9, 12], []), ([], [9, 12]), ([], [9, 12]), ([12, 15], []), ([], [])] mixed (by kernel_rfl) (by kernel_rfl) ?_
  simp [merge_nil, hideH_nil]
  refine callWK.mvE 9 1 rfl (by kernel_rfl) (by simp [upd_app]) (by simp [upd_app, roc_sc]) r1 (B_fl _) (by simp [inst, upd_app, hideH_app]; exact ⟨rfl, rfl⟩) (by rfl) ?_
  simp [merge_nil, hideH_nil]
  refine callWK.mv1 12 9 rfl (by kernel_rfl) (by simp [upd_app]) (by simp [upd_app, hideH_app]) (B_cnt _) (idfreeL_rows B.fr _) (by simp [upd_app, roc_sc]) r2 (B_fl _) (by simp [inst, upd_app, hideH_app]; exact ⟨rfl, rfl⟩) (by rfl) ?_
  simp [merge_nil, hideH_nil]
  refine callWK.mv1 15 12 rfl (by kernel_rfl) (by simp [upd_app]) (by simp [upd_app, hideH_app]) (B_cnt _) (idfreeL_rows B.fr _) (by simp [upd_app, roc_ro]) r3 (B_fl _) (by simp [inst, upd_app, hideH_app]; exact ⟨rfl, rfl⟩) (by rfl) ?_
  simp [merge_nil, hideH_nil]
  refine T.rounds (μ := fun i : List Int × List Int => i.2.length)
    (fun i s => i.1 ++ i.2 = bd ∧ s.ρ 3 = .sl 15 0 bd.length 1 false ∧ s.ρ 16 = .sl 15 0 bd.length 1 false ∧ s.ρ 17 = .sc (.int .i64 bd.length) ∧ s.ρ 18 = .sc (.int .i64 i.1.length) ∧ s.ρ 4 = .sc (.int .i64 i.1.sum) ∧ s.h 15 = some (some (rows B bd)) ∧ s.h 33 = none ∧ s.h 34 = none ∧ s.n = 35) ([], bd) (by simp [upd_app]) ?_
  rintro ⟨pre, rest⟩ ⟨ρ, hh, n⟩ ⟨hx, k3, k16, k17, k18, k4, b15, f33, f34, rfl⟩
  simp only at hx k3 k16 k17 k18 k4 b15 f33 f34
  refine run_ok (n := 400) ?_
  cases rest with
  | nil =>
    rw [List.append_nil] at hx
    subst hx
    have hs := sum_rng hby
    have ws := wrap_sh hs.1
    have wl := wrap_sl pre.sum
    have c1 : pre.length + 2 ≤ 140737488355328 := by omega
    have e2 : (putM m).length = pre.length + 2 := by rw [hM]; simp [sumsL]
    have e3 : rows B (putM m) = rows B pre ++ [.sc (.int .u8 (pre.sum / 256 % 256)), .sc (.int .u8 (pre.sum % 256))] := by rw [hM, rows_append]; rfl
    have hid := idfreeL_rows B.fr (putM m)
    rw [e3] at hid
    simp [k17, k18]
    refine T.on 400 ?_
    rw [e2, e3]
    simp [k3, k4, b15, f33, f34, ws, wl, over, ex1, B.count, c1, hid]
  | cons x rest =>
    have hle : pre.length + (rest.length + 1) = bd.length := by rw [← hx]; simp
    have hlt : (pre.length : Int) < bd.length := by omega
    have hwr : IntKind.i64.wrap ((pre.length : Int) + 1) = pre.length + 1 := wrap_i64 (by omega) (by omega)
    have hd := rows_drop B.len pre (x :: rest)
    rw [hx, rows_cons, Nat.mul_one] at hd
    have hd : List.drop pre.length (rows B bd) = .sc (.int .u8 x) :: rows B rest := hd
    have hxr := hby x (by rw [← hx]; simp)
    have hsp := sum_rng (b := pre) fun y hy => hby y (by rw [← hx]; simp [hy])
    have wx : IntKind.i64.wrap x = x := wrap_i64 (by omega) (by omega)
    have wsx : IntKind.i64.wrap (pre.sum + x) = pre.sum + x := wrap_i64 (by omega) (by omega)
    simp [k4, k16, k17, k18, b15, hlt, hd, hwr, wx, wsx]
    refine ⟨pre ++ [x], rest, by simp, _, Le.refl _, ?_⟩
    simp [hx, upd_app, k3, k16, k17, b15, f33, f34]
/- 82: loop.example/g00464/spec.l17Sum -/
def A82 : AC := (.seq (.ops [⟨(some 2), none, .q (.mov (.c (.sc (.int .i64 0))))⟩])
  (.seq (.ops [⟨(some 3), none, .q (.mov (.c (.sc (.int .i64 0))))⟩])
  (.seq (.seq (.ops [⟨(some 4), none, .q (.mov (.c (.sc (.int .i64 0))))⟩])
  (.block 0 (.loop (.seq (.seq (.ops [⟨(some 5), none, .q (.mov (.t 4))⟩, ⟨(some 6), none, .q (.mov (.t 0))⟩, ⟨(some 7), none, .q (.llen (.t 6))⟩, ⟨(some 8), none, .q (.bin .lss (.t 5) (.t 7))⟩])
  (.cond (.t 8) .skip
  (.exit 0)))
  (.seq (.block 1 (.ops [⟨(some 11), none, .q (.mov (.t 3))⟩, ⟨(some 12), none, .q (.mov (.t 0))⟩, ⟨(some 13), none, .q (.mov (.t 4))⟩, ⟨(some 14), none, .q (.iadr 1 (.t 12) (.t 13))⟩, ⟨(some 15), none, .q (.load false 1 (.t 14))⟩, ⟨(some 16), none, .q (.cvi .i64 (.t 15))⟩, ⟨(some 17), none, .q (.bin .add (.t 11) (.t 16))⟩, ⟨(some 18), none, .q (.bin .rem (.t 17) (.c (.sc (.int .i64 65536))))⟩, ⟨(some 3), none, .q (.mov (.t 18))⟩]))
  (.ops [⟨(some 9), none, .q (.mov (.t 4))⟩, ⟨(some 10), none, .q (.bin .add (.t 9) (.c (.sc (.int .i64 1))))⟩, ⟨(some 4), none, .q (.mov (.t 10))⟩]))))))
  (.seq (.ops [⟨(some 19), none, .q (.mov (.t 3))⟩, ⟨(some 2), none, .q (.mov (.t 19))⟩])
  .ret))))
theorem K82 : Tryz.f82.body.bind (comp Tryz.prog) = some A82 ∧ Tryz.f82.ntmps = 20 ∧ Tryz.f82.results.toList.mapM (resB Tryz.prog) = some [.mov (.t 2)] := ⟨by kernel_rfl, by kernel_rfl, by kernel_rfl⟩
theorem R82 (b : List Int) (hby : byteL b) (hl : b.length ≤ 140737488355328) : Ret Tryz.prog 82 [.ro (rows B b) b.length] (.sc (.int .i64 (b.sum % 65536))) [.un] := by
  refine Ret.run Tryz.func82 K82 (by simp) rfl rfl 500 ?_
  simp [A82, iniρ]
  refine T.rounds (μ := fun i : List Int × List Int => i.2.length)
    (fun i s => i.1 ++ i.2 = b ∧ s.ρ 0 = .ro (rows B b) b.length ∧ s.ρ 3 = .sc (.int .i64 (i.1.sum % 65536)) ∧ s.ρ 4 = .sc (.int .i64 i.1.length) ∧ s.n = 20) ([], b) (by simp [upd_app]) ?_
  rintro ⟨pre, rest⟩ ⟨ρ, hh, n⟩ ⟨hx, k0, k3, k4, rfl⟩
  simp only at hx k0 k3 k4
  refine run_ok (n := 400) ?_
  cases rest with
  | nil =>
    rw [List.append_nil] at hx
    subst hx
    simp [k0, k4]
    refine T.on 400 ?_
    simp [k3]
  | cons x rest =>
    have hle : pre.length + (rest.length + 1) = b.length := by rw [← hx]; simp
    have hlt : (pre.length : Int) < b.length := by omega
    have hwr : IntKind.i64.wrap ((pre.length : Int) + 1) = pre.length + 1 := wrap_i64 (by omega) (by omega)
    have hd := rows_drop B.len pre (x :: rest)
    rw [hx, rows_cons, Nat.mul_one] at hd
    have hd : List.drop pre.length (rows B b) = .sc (.int .u8 x) :: rows B rest := hd
    have hxr := hby x (by rw [← hx]; simp)
    have wx : IntKind.i64.wrap x = x := wrap_i64 (by omega) (by omega)
    obtain ⟨y, hy⟩ : ∃ y, y = pre.sum % 65536 := ⟨_, rfl⟩
    have hyr : 0 ≤ y ∧ y < 65536 := by omega
    have wsx : IntKind.i64.wrap (y + x) = y + x := wrap_i64 (by omega) (by omega)
    have hm : (y + x).tmod 65536 = (y + x) % 65536 := Int.tmod_eq_emod_of_nonneg (by omega)
    have e2 : (pre.sum + x) % 65536 = (y + x) % 65536 := by rw [hy]; omega
    rw [← hy] at k3
    simp [k0, k3, k4, hlt, hd, hwr, wx, wsx, hm]
    refine ⟨pre ++ [x], rest, by simp, _, Le.refl _, ?_⟩
    simp [hx, upd_app, k0, e2]
/- 61: loop.example/g00464/spec.PutMade -/
def A61 : AC := (.seq (.ops [⟨(some 1), none, .w (.box (.t 0))⟩, ⟨(some 2), none, .q (.mov (.c .em))⟩])
  (.seq (.any [(⟨(some 5), none, .w (.bsl 1 0 [] [])⟩, []), (⟨(some 6), none, .q (.fadr 0 (.t 1))⟩, []), (⟨(some 7), none, .q (.load false 1 (.t 6))⟩, [1]), (⟨(some 8), none, .c (.c (.clo 95 [])) [(.t 5), (.t 7)]⟩, [0, 2]), (⟨(some 9), none, .q (.fadr 2 (.t 1))⟩, []), (⟨(some 10), none, .q (.load false 1 (.t 9))⟩, [4]), (⟨(some 11), none, .c (.c (.clo 95 [])) [(.t 8), (.t 10)]⟩, [3, 5, 3]), (⟨(some 12), none, .q (.fadr 1 (.t 1))⟩, []), (⟨(some 13), none, .q (.load false 1 (.t 12))⟩, [7]), (⟨(some 14), none, .c (.c (.clo 94 [])) [(.t 11), (.t 13)]⟩, [6, 8, 6]), (⟨(some 3), none, .q (.mov (.t 14))⟩, [9, 9, 0, 1, 2, 3, 4, 5, 6, 7, 8, 9])])
  (.seq (.ops [⟨(some 15), none, .q (.mov (.t 3))⟩, ⟨(some 16), none, .c (.c (.clo 82 [])) [(.t 15)]⟩, ⟨(some 4), none, .q (.mov (.t 16))⟩])
  (.seq (.ops [⟨(some 17), none, .q (.mov (.t 3))⟩, ⟨(some 18), none, .q (.mov (.t 4))⟩, ⟨(some 19), none, .q (.bin .shr (.t 18) (.c (.sc (.int .u64 8))))⟩, ⟨(some 20), none, .q (.cvi .u8 (.t 19))⟩, ⟨(some 21), none, .q (.mov (.t 4))⟩, ⟨(some 22), none, .q (.cvi .u8 (.t 21))⟩, ⟨(some 23), none, .w (.bsl 1 2 [(.sc (.int .u8 0)), (.sc (.int .u8 0))] [(0, 1, (.t 20)), (1, 1, (.t 22))])⟩, ⟨(some 24), none, .w (.app 1 1 false (.t 17) (.t 23))⟩, ⟨(some 2), none, .q (.mov (.t 24))⟩])
  .ret))))
theorem K61 : Tryz.f61.body.bind (comp Tryz.prog) = some A61 ∧ Tryz.f61.ntmps = 25 ∧ Tryz.f61.results.toList.mapM (resB Tryz.prog) = some [.mov (.t 2)] := ⟨by kernel_rfl, by kernel_rfl, by kernel_rfl⟩
set_option maxHeartbeats 2000000 in
theorem R61 (m : Made) (hn : m.outs.length < 4611686018427387904) (hb : mw m ≤ 140737488350000) : Ret Tryz.prog 61 [.agg (Made.ty.cs m)] (.own (rows B (putM m)) (putM m).length 1) [.un] := by
  have h1 := putT_le [] m.task
  have h2 := putT_le (putT [] m.task) m.log
  have hbl := bodyM_le m
  have hw : mw m = m.task.size + m.log.size + m.outs.length + 30 + fw m.outs := rfl
  simp only [List.length_nil] at h1
  have r1 := R95 [] m.task (by simp only [List.length_nil]; omega)
  have r2 := R95 (putT [] m.task) m.log (by omega)
  have r3 := R94 (putT (putT [] m.task) m.log) m.outs hn (by omega)
  have hby := bodyM_byte m
  have hM : putM m = bodyM m ++ sumsL (bodyM m).sum := rfl
  obtain ⟨bd, hbd⟩ : ∃ bd, bd = bodyM m := ⟨_, rfl⟩
  change Ret Tryz.prog 94 _ (.own (rows B (bodyM m)) (bodyM m).length 1) _ at r3
  rw [← hbd] at r3 hby hbl hM
  obtain ⟨t1, ht1⟩ : ∃ t, t = putT [] m.task := ⟨_, rfl⟩
  rw [← ht1] at r1 r2 r3
  obtain ⟨t2, ht2⟩ : ∃ t, t = putT t1 m.log := ⟨_, rfl⟩
  rw [← ht2] at r2 r3
  have q1 : ∀ (h : Hp), h 8 = some (some (rows B t1)) → roc h 8 (.sl 8 0 t1.length 1 false) = some (.ro (rows B t1) t1.length) := fun h e => B.roc e
  have q2 : ∀ (h : Hp), h 11 = some (some (rows B t2)) → roc h 8 (.sl 11 0 t2.length 1 false) = some (.ro (rows B t2) t2.length) := fun h e => B.roc e
  have q3 : ∀ (h : Hp), h 14 = some (some (rows B bd)) → roc h 8 (.sl 14 0 bd.length 1 false) = some (.ro (rows B bd) bd.length) := fun h e => B.roc e
  have q0 : ∀ (h : Hp), h 5 = some (some []) → roc h 8 (.sl 5 0 0 1 false) = some (.ro (rows B []) 0) := fun h e => B.roc (xs := []) e
  refine Ret.run Tryz.func61 K61 (by simp) rfl rfl 900 ?_
  simp [A61, iniρ, Made.cse]
  refine T.textW 400 [([5], []), ([], [5]), ([], [5]), ([8], []), ([], [5, 8]), ([], [5, 8]), ([11], []), ([], [5, 8, 11]), ([], [5, 8, 11]), ([14], []), ([], [])] mixed (by kernel_rfl) (by kernel_rfl) ?_
  simp [merge_nil, hideH_nil]
  refine callWK.ro 8 rfl (by kernel_rfl) (by simp [upd_app, roc_sc, q0]) r1 (B_fl _) (by simp [inst, upd_app]; exact ⟨rfl, rfl⟩) (by rfl) ?_
  simp [merge_nil, hideH_nil]
  refine callWK.ro 11 rfl (by kernel_rfl) (by simp [upd_app, roc_sc, q1]) r2 (B_fl _) (by simp [inst, upd_app]; exact ⟨rfl, rfl⟩) (by rfl) ?_
  simp [merge_nil, hideH_nil]
  refine callWK.ro 14 rfl (by kernel_rfl) (by simp [upd_app, roc_ro, q2]) r3 (B_fl _) (by simp [inst, upd_app]; exact ⟨rfl, rfl⟩) (by rfl) ?_
  simp [merge_nil, hideH_nil]
  refine callK.ro 0 rfl (by kernel_rfl) (by simp [upd_app, q3]) (R82 bd hby (by omega)) rfl rfl rfl ?_
  have hs := sum_rng hby
  have ws := wrap_sh (n := bd.sum % 65536) (by omega)
  have wl := wrap_sl (bd.sum % 65536)
  rw [show bd.sum % 65536 / 256 % 256 = bd.sum / 256 % 256 by omega] at ws
  rw [show bd.sum % 65536 % 256 = bd.sum % 256 by omega] at wl
  have c1 : bd.length + 2 ≤ 140737488355328 := by omega
  have e2 : (putM m).length = bd.length + 2 := by rw [hM]; simp [sumsL]
  have e3 : rows B (putM m) = rows B bd ++ [.sc (.int .u8 (bd.sum / 256 % 256)), .sc (.int .u8 (bd.sum % 256))] := by rw [hM, rows_append]; rfl
  have hid := idfreeL_rows B.fr (putM m)
  rw [e3] at hid
  rw [e2, e3]
  simp [ws, wl, over, ex1, B.count, c1, hid]
end Go.Proofs.YtaknfalbmblagaaGreatDoor.Am
namespace Go.Proofs.YtaknfalbmblagaaGreatDoor.Am
open Go Go.Proofs
set_option linter.unusedSimpArgs false
set_option linter.unusedVariables false
attribute [local congr] T_congr callK_congr callWK_congr
attribute [local simp] run_nil run_op0 run_opg run_seq run_cond run_block run_ret run_skip run_skip_after run_skip_blk run_exit run_exit_after run_exit_blk run_loop run_any runS_nil runS_op0 runS_opg runW_nil runW_op0 runW_opg exec_q exec_w exec_c exec_n execW_q execW_w execW_c restW_app hideH_app merge_app wblk rest_app restS_app execS_q execS_c aval dOk upd_app ev_t ev_c setO_some setO_none put_mk pinsOf isIo hasIo sbin endR fin resL one outL out1 clo1 cloL coe coeL shut shut.shutL wantA weff cellsOf fillA deref natOf ρ0_app h0_app plain plain.plainL keep_app keepH_app andThen_normal andThen_ret andThen_exit pop_nil pop_after pop_after_ret pop_after_exit pop_blk pop_blk_ret pop_blk_exit nilA srcOf srcCells keepR_app keepHR_app renA rb
theorem Slot.cseB (x : Slot) : Slot.ty.cs x = [.ro (rows B x.key) x.key.length, .ro (rows B x.b) x.b.length] := rfl
/- 57: bytes.Equal -/
def A57 : AC := (.seq (.ops [⟨(some 4), none, .q (.mov (.c (.sc (.bool false))))⟩])
  (.seq (.ops [⟨(some 5), none, .q (.mov (.t 0))⟩, ⟨(some 6), none, .q (.bstr (.t 5))⟩, ⟨(some 7), none, .q (.mov (.t 1))⟩, ⟨(some 8), none, .q (.bstr (.t 7))⟩, ⟨(some 9), none, .q (.bin .eql (.t 6) (.t 8))⟩, ⟨(some 4), none, .q (.mov (.t 9))⟩])
  .ret))
theorem K57 : Tryz.f57.body.bind (comp Tryz.prog) = some A57 ∧ Tryz.f57.ntmps = 10 ∧ Tryz.f57.results.toList.mapM (resB Tryz.prog) = some [.mov (.t 4)] := ⟨by kernel_rfl, by kernel_rfl, by kernel_rfl⟩
theorem R57 (xs ys : List Int) : Ret Tryz.prog 57 [.ro (rows B xs) xs.length, .ro (rows B ys) ys.length] (.sc (.bool (bEq xs ys))) [.un, .un] := by
  refine Ret.run Tryz.func57 K57 (by simp) rfl rfl 500 ?_
  simp [A57, iniρ, bytesA, B.count, B.num, bEq]
/- 46: loop.example/g00464/spec.l18At -/
def A46 : AC := (.seq (.ops [⟨(some 4), none, .q (.mov (.c (.sc (.int .i64 0))))⟩])
  (.seq (.seq (.ops [⟨(some 5), none, .q (.mov (.c (.sc (.int .i64 0))))⟩])
  (.block 0 (.loop (.seq (.seq (.ops [⟨(some 6), none, .q (.mov (.t 5))⟩, ⟨(some 7), none, .q (.mov (.t 0))⟩, ⟨(some 8), none, .q (.llen (.t 7))⟩, ⟨(some 9), none, .q (.bin .lss (.t 6) (.t 8))⟩])
  (.cond (.t 9) .skip
  (.exit 0)))
  (.seq (.block 1 (.seq (.any [(⟨(some 12), none, .q (.mov (.t 0))⟩, []), (⟨(some 13), none, .q (.mov (.t 5))⟩, []), (⟨(some 14), none, .q (.iadr 2 (.t 12) (.t 13))⟩, [0, 1]), (⟨(some 15), none, .q (.fadr 0 (.t 14))⟩, [2]), (⟨(some 16), none, .q (.load false 1 (.t 15))⟩, [3]), (⟨(some 17), none, .q (.bstr (.t 16))⟩, [4]), (⟨(some 18), none, .q (.mov (.t 1))⟩, []), (⟨(some 19), none, .q (.bstr (.t 18))⟩, [6]), (⟨(some 20), none, .q (.bin .eql (.t 17) (.t 19))⟩, [5, 7])])
  (.cond (.t 20) (.seq (.ops [⟨(some 21), none, .q (.mov (.t 5))⟩, ⟨(some 4), none, .q (.mov (.t 21))⟩])
  .ret)
  .skip)))
  (.ops [⟨(some 10), none, .q (.mov (.t 5))⟩, ⟨(some 11), none, .q (.bin .add (.t 10) (.c (.sc (.int .i64 1))))⟩, ⟨(some 5), none, .q (.mov (.t 11))⟩]))))))
  (.seq (.ops [⟨(some 4), none, .q (.mov (.c (.sc (.int .i64 (-1)))))⟩])
  .ret)))
theorem K46 : Tryz.f46.body.bind (comp Tryz.prog) = some A46 ∧ Tryz.f46.ntmps = 22 ∧ Tryz.f46.results.toList.mapM (resB Tryz.prog) = some [.mov (.t 4)] := ⟨by kernel_rfl, by kernel_rfl, by kernel_rfl⟩
theorem R46 (xs : List Slot) (k : List Int) (hb : xs.length < 4611686018427387904) : Ret Tryz.prog 46 [.ro (rows Slot.ty.cs xs) xs.length, .ro (rows B k) k.length] (.sc (.int .i64 (idx (fun s => bEq s.key k) xs 0))) [.un, .un] := by
  refine Ret.run Tryz.func46 K46 (by simp) rfl rfl 500 ?_
  simp [A46, iniρ]
  refine T.rounds (μ := fun i : List Slot × List Slot => i.2.length)
    (fun i s => i.1 ++ i.2 = xs ∧ idx (fun s => bEq s.key k) i.2 i.1.length = idx (fun s => bEq s.key k) xs 0 ∧ s.ρ 0 = .ro (rows Slot.ty.cs xs) xs.length ∧ s.ρ 1 = .ro (rows B k) k.length ∧ s.ρ 5 = .sc (.int .i64 i.1.length) ∧ s.h = h0 ∧ s.n = 22) ([], xs) (by simp [upd_app]) ?_
  rintro ⟨pre, rest⟩ ⟨ρ, hh, n⟩ ⟨hx, hE, h0', h1', h5', rfl, rfl⟩
  simp only at hx hE h0' h1' h5'
  refine run_ok (n := 400) ?_
  cases rest with
  | nil =>
    simp at hx
    subst hx
    simp [h0', h5']
    refine T.on 400 ?_
    simp [← hE, idx]
  | cons x rest =>
    have hlt : (pre.length : Int) < xs.length := by rw [← hx]; simp only [List.length_append, List.length_cons]; omega
    have hd := rows_drop Slot.ty.csn pre (x :: rest)
    rw [hx, rows_cons] at hd
    have hd : List.drop (pre.length * 2) (rows Slot.ty.cs xs) = Slot.ty.cs x ++ rows Slot.ty.cs rest := hd
    have hw : IntKind.i64.wrap ((pre.length : Int) + 1) = pre.length + 1 := wrap_i64 (by omega) (by omega)
    simp [h0', h1', h5', hlt]
    refine T.text 400 mixed (by kernel_rfl) (by kernel_rfl) ?_
    by_cases hk : (strOfNums x.key).toList = (strOfNums k).toList
    · have hk' : bEq x.key k = true := by simp [bEq, hk]
      simp [h0', h1', h5', hlt, hd, Slot.cseB, bytesA, B.count, B.num, hk, ← hE, idx, hk']
    · have hk' : bEq x.key k = false := by simp [bEq, hk]
      simp [h0', h1', h5', hlt, hd, Slot.cseB, bytesA, B.count, B.num, hk, hw]
      refine ⟨pre ++ [x], rest, by simp, _, Le.refl _, ?_⟩
      simp [hx, h0', h1', ← hE, idx, hk', upd_app]
def sumB : List Slot → Int → Int
  | [], a => a
  | x :: xs, a => sumB xs (IntKind.i64.wrap (a + x.b.length))
/- 18: loop.example/g00464/spec.CacheSize -/
def A18 : AC := (.seq (.ops [⟨(some 2), none, .q (.mov (.c (.sc (.int .i64 0))))⟩])
  (.seq (.ops [⟨(some 3), none, .q (.mov (.c (.sc (.int .i64 0))))⟩])
  (.seq (.seq (.ops [⟨(some 4), none, .q (.mov (.c (.sc (.int .i64 0))))⟩])
  (.block 0 (.loop (.seq (.seq (.ops [⟨(some 5), none, .q (.mov (.t 4))⟩, ⟨(some 6), none, .q (.mov (.t 0))⟩, ⟨(some 7), none, .q (.llen (.t 6))⟩, ⟨(some 8), none, .q (.bin .lss (.t 5) (.t 7))⟩])
  (.cond (.t 8) .skip
  (.exit 0)))
  (.seq (.block 1 (.ops [⟨(some 11), none, .q (.mov (.t 3))⟩, ⟨(some 12), none, .q (.mov (.t 0))⟩, ⟨(some 13), none, .q (.mov (.t 4))⟩, ⟨(some 14), none, .q (.iadr 2 (.t 12) (.t 13))⟩, ⟨(some 15), none, .q (.fadr 1 (.t 14))⟩, ⟨(some 16), none, .q (.load false 1 (.t 15))⟩, ⟨(some 17), none, .q (.llen (.t 16))⟩, ⟨(some 18), none, .q (.bin .add (.t 11) (.t 17))⟩, ⟨(some 3), none, .q (.mov (.t 18))⟩]))
  (.ops [⟨(some 9), none, .q (.mov (.t 4))⟩, ⟨(some 10), none, .q (.bin .add (.t 9) (.c (.sc (.int .i64 1))))⟩, ⟨(some 4), none, .q (.mov (.t 10))⟩]))))))
  (.seq (.ops [⟨(some 19), none, .q (.mov (.t 3))⟩, ⟨(some 2), none, .q (.mov (.t 19))⟩])
  .ret))))
theorem K18 : Tryz.f18.body.bind (comp Tryz.prog) = some A18 ∧ Tryz.f18.ntmps = 20 ∧ Tryz.f18.results.toList.mapM (resB Tryz.prog) = some [.mov (.t 2)] := ⟨by kernel_rfl, by kernel_rfl, by kernel_rfl⟩
theorem R18 (xs : List Slot) (hb : xs.length < 4611686018427387904) : Ret Tryz.prog 18 [.ro (rows Slot.ty.cs xs) xs.length] (.sc (.int .i64 (sumB xs 0))) [.un] := by
  refine Ret.run Tryz.func18 K18 (by simp) rfl rfl 500 ?_
  simp [A18, iniρ]
  refine T.rounds (μ := fun i : List Slot × List Slot × Int => i.2.1.length)
    (fun i s => i.1 ++ i.2.1 = xs ∧ sumB i.2.1 i.2.2 = sumB xs 0 ∧ s.ρ 0 = .ro (rows Slot.ty.cs xs) xs.length ∧ s.ρ 3 = .sc (.int .i64 i.2.2) ∧ s.ρ 4 = .sc (.int .i64 i.1.length) ∧ s.h = h0 ∧ s.n = 20) ([], xs, 0) (by simp [upd_app]) ?_
  rintro ⟨pre, rest, acc⟩ ⟨ρ, hh, n⟩ ⟨hx, hE, h0', h1', h5', rfl, rfl⟩
  simp only at hx hE h0' h1' h5'
  refine run_ok (n := 400) ?_
  cases rest with
  | nil =>
    simp at hx
    subst hx
    simp [h0', h5']
    refine T.on 400 ?_
    simp [h1', ← hE, sumB]
  | cons x rest =>
    have hlt : (pre.length : Int) < xs.length := by rw [← hx]; simp only [List.length_append, List.length_cons]; omega
    have hd := rows_drop Slot.ty.csn pre (x :: rest)
    rw [hx, rows_cons] at hd
    have hd : List.drop (pre.length * 2) (rows Slot.ty.cs xs) = Slot.ty.cs x ++ rows Slot.ty.cs rest := hd
    have hd1 : List.drop (pre.length * 2 + 1) (rows Slot.ty.cs xs) = [.ro (rows B x.b) x.b.length] ++ rows Slot.ty.cs rest := by rw [← List.drop_drop, hd]; rfl
    have hw : IntKind.i64.wrap ((pre.length : Int) + 1) = pre.length + 1 := wrap_i64 (by omega) (by omega)
    simp [h0', h1', h5', hlt, hd1, hw]
    refine ⟨pre ++ [x], rest, by simp, IntKind.i64.wrap (acc + x.b.length), _, Le.refl _, ?_⟩
    simp [hx, h0', ← hE, sumB, upd_app]
/- 17: loop.example/g00464/impl.CacheSize -/
def A17 : AC := (.seq (.ops [⟨(some 2), none, .q (.mov (.c (.sc (.int .i64 0))))⟩])
  (.seq (.ops [⟨(some 3), none, .q (.mov (.c (.sc (.int .i64 0))))⟩])
  (.seq (.seq (.ops [⟨(some 6), none, .q (.mov (.t 0))⟩, ⟨(some 7), none, .q (.llen (.t 6))⟩, ⟨(some 8), none, .q (.mov (.c (.sc (.int .i64 0))))⟩])
  (.block 0 (.loop (.seq (.ops [⟨(some 9), none, .q (.bin .lss (.t 8) (.t 7))⟩])
  (.seq (.cond (.t 9) .skip
  (.exit 0))
  (.seq (.block 1 (.seq (.ops [⟨(some 10), none, .q (.iadr 2 (.t 6) (.t 8))⟩, ⟨(some 11), none, .q (.load true 2 (.t 10))⟩, ⟨(some 5), none, .w (.alloc [.em, .em])⟩, ⟨none, none, .w (.store 2 (.t 5) (.t 11))⟩])
  (.ops [⟨(some 12), none, .q (.mov (.t 3))⟩, ⟨(some 13), none, .q (.fadr 1 (.t 5))⟩, ⟨(some 14), none, .q (.load false 1 (.t 13))⟩, ⟨(some 15), none, .q (.llen (.t 14))⟩, ⟨(some 16), none, .q (.bin .add (.t 12) (.t 15))⟩, ⟨(some 3), none, .q (.mov (.t 16))⟩])))
  (.ops [⟨(some 17), none, .q (.bin .add (.t 8) (.c (.sc (.int .i64 1))))⟩, ⟨(some 8), none, .q (.mov (.t 17))⟩])))))))
  (.seq (.ops [⟨(some 18), none, .q (.mov (.t 3))⟩, ⟨(some 2), none, .q (.mov (.t 18))⟩])
  .ret))))
theorem K17 : Tryz.f17.body.bind (comp Tryz.prog) = some A17 ∧ Tryz.f17.ntmps = 19 ∧ Tryz.f17.results.toList.mapM (resB Tryz.prog) = some [.mov (.t 2)] := ⟨by kernel_rfl, by kernel_rfl, by kernel_rfl⟩
theorem R17 (xs : List Slot) (hb : xs.length < 4611686018427387904) : Ret Tryz.prog 17 [.ro (rows Slot.ty.cs xs) xs.length] (.sc (.int .i64 (sumB xs 0))) [.un] := by
  refine Ret.run Tryz.func17 K17 (by simp) rfl rfl 500 ?_
  simp [A17, iniρ]
  refine T.rounds (μ := fun i : List Slot × List Slot × Int => i.2.1.length)
    (fun i s => i.1 ++ i.2.1 = xs ∧ sumB i.2.1 i.2.2 = sumB xs 0 ∧ s.ρ 6 = .ro (rows Slot.ty.cs xs) xs.length ∧ s.ρ 7 = .sc (.int .i64 xs.length) ∧ s.ρ 3 = .sc (.int .i64 i.2.2) ∧ s.ρ 8 = .sc (.int .i64 i.1.length) ∧ s.h 5 = none ∧ s.n = 19) ([], xs, 0) (by simp [upd_app]) ?_
  rintro ⟨pre, rest, acc⟩ ⟨ρ, hh, n⟩ ⟨hx, hE, h0', h7', h1', h5', hf, rfl⟩
  simp only at hx hE h0' h7' h1' h5' hf
  refine run_ok (n := 400) ?_
  cases rest with
  | nil =>
    simp at hx
    subst hx
    simp [h0', h7', h5']
    refine T.on 400 ?_
    simp [h1', ← hE, sumB]
  | cons x rest =>
    have hlt : (pre.length : Int) < xs.length := by rw [← hx]; simp only [List.length_append, List.length_cons]; omega
    have hd := rows_drop Slot.ty.csn pre (x :: rest)
    rw [hx, rows_cons] at hd
    have hd : List.drop (pre.length * 2) (rows Slot.ty.cs xs) = Slot.ty.cs x ++ rows Slot.ty.cs rest := hd
    have hw : IntKind.i64.wrap ((pre.length : Int) + 1) = pre.length + 1 := wrap_i64 (by omega) (by omega)
    simp [h0', h7', h1', h5', hf, hlt, hd, hw, Slot.cseB, over]
    refine ⟨pre ++ [x], rest, by simp, IntKind.i64.wrap (acc + x.b.length), _, Le.reset [6, 7, 3, 8] [] ?_ (by simp), ?_⟩
    · simp [upd_app, menB, idfree, h0', h7']
    · simp [hx, h0', h7', ← hE, sumB, upd_app]
def allAt (g : Slot → Int) : List Slot → Int → Bool
  | [], _ => true
  | x :: xs, i => g x == i && allAt g xs (i + 1)
def cacheOk (xs : List Slot) : Bool := allAt (fun x => idx (fun s => bEq s.key x.key) xs 0) xs 0 && (decide (xs.length ≤ 20) && decide (sumB xs 0 ≤ 3000))
/- 14: loop.example/g00464/spec.CacheOk -/
def A14 : AC := (.seq (.ops [⟨(some 2), none, .q (.mov (.c (.sc (.bool false))))⟩])
  (.seq (.seq (.ops [⟨(some 3), none, .q (.mov (.c (.sc (.int .i64 0))))⟩])
  (.block 0 (.loop (.seq (.seq (.ops [⟨(some 4), none, .q (.mov (.t 3))⟩, ⟨(some 5), none, .q (.mov (.t 0))⟩, ⟨(some 6), none, .q (.llen (.t 5))⟩, ⟨(some 7), none, .q (.bin .lss (.t 4) (.t 6))⟩])
  (.cond (.t 7) .skip
  (.exit 0)))
  (.seq (.block 1 (.seq (.ops [⟨(some 10), none, .q (.mov (.t 0))⟩, ⟨(some 11), none, .q (.mov (.t 0))⟩, ⟨(some 12), none, .q (.mov (.t 3))⟩, ⟨(some 13), none, .q (.iadr 2 (.t 11) (.t 12))⟩, ⟨(some 14), none, .q (.fadr 0 (.t 13))⟩, ⟨(some 15), none, .q (.load false 1 (.t 14))⟩, ⟨(some 16), none, .c (.c (.clo 46 [])) [(.t 10), (.t 15)]⟩, ⟨(some 17), none, .q (.mov (.t 3))⟩, ⟨(some 18), none, .q (.bin .neq (.t 16) (.t 17))⟩])
  (.cond (.t 18) (.seq (.ops [⟨(some 2), none, .q (.mov (.c (.sc (.bool false))))⟩])
  .ret)
  .skip)))
  (.ops [⟨(some 8), none, .q (.mov (.t 3))⟩, ⟨(some 9), none, .q (.bin .add (.t 8) (.c (.sc (.int .i64 1))))⟩, ⟨(some 3), none, .q (.mov (.t 9))⟩]))))))
  (.seq (.ops [⟨(some 19), none, .q (.mov (.t 0))⟩, ⟨(some 20), none, .q (.llen (.t 19))⟩, ⟨(some 21), none, .q (.bin .leq (.t 20) (.c (.sc (.int .i64 20))))⟩, ⟨(some 22), none, .q (.mov (.t 21))⟩, ⟨(some 23), (some (22, true)), .q (.mov (.t 0))⟩, ⟨(some 24), (some (22, true)), .c (.c (.clo 18 [])) [(.t 23)]⟩, ⟨(some 25), (some (22, true)), .q (.bin .leq (.t 24) (.c (.sc (.int .i64 3000))))⟩, ⟨(some 26), none, .q (.pick (.t 22) (.t 25) (.c (.sc (.bool false))))⟩, ⟨(some 2), none, .q (.mov (.t 26))⟩])
  .ret)))
theorem K14 : Tryz.f14.body.bind (comp Tryz.prog) = some A14 ∧ Tryz.f14.ntmps = 27 ∧ Tryz.f14.results.toList.mapM (resB Tryz.prog) = some [.mov (.t 2)] := ⟨by kernel_rfl, by kernel_rfl, by kernel_rfl⟩
theorem R14 (xs : List Slot) (hb : xs.length < 4611686018427387904) : Ret Tryz.prog 14 [.ro (rows Slot.ty.cs xs) xs.length] (.sc (.bool (cacheOk xs))) [.un] := by
  refine Ret.run Tryz.func14 K14 (by simp) rfl rfl 500 ?_
  simp [A14, iniρ]
  let G : Slot → Int := fun x => idx (fun s => bEq s.key x.key) xs 0
  refine T.rounds (μ := fun i : List Slot × List Slot => i.2.length)
    (fun i s => i.1 ++ i.2 = xs ∧ allAt G i.2 i.1.length = allAt G xs 0 ∧ s.ρ 0 = .ro (rows Slot.ty.cs xs) xs.length ∧ s.ρ 3 = .sc (.int .i64 i.1.length) ∧ s.h = h0 ∧ s.n = 27) ([], xs) (by simp [upd_app]) ?_
  rintro ⟨pre, rest⟩ ⟨ρ, hh, n⟩ ⟨hx, hE, h0', h5', rfl, rfl⟩
  simp only at hx hE h0' h5'
  refine run_ok (n := 400) ?_
  cases rest with
  | nil =>
    simp at hx
    subst hx
    have hE : true = allAt (fun x => idx (fun s => bEq s.key x.key) pre 0) pre 0 := hE
    simp [h0', h5']
    refine T.on 400 ?_
    by_cases hz : pre.length ≤ 20
    · have hz' : (pre.length : Int) ≤ 20 := by omega
      simp [h0', hz']
      refine callK.ro 24 rfl (by kernel_rfl) (by simp [roc_ro, roc_sc, roc_agg, upd_app]) (R18 pre hb) rfl rfl rfl ?_
      simp [cacheOk, ← hE, hz]
    · have hz' : ¬ (pre.length : Int) ≤ 20 := by omega
      simp [h0', hz', cacheOk, hz]
  | cons x rest =>
    have hlt : (pre.length : Int) < xs.length := by rw [← hx]; simp only [List.length_append, List.length_cons]; omega
    have hd := rows_drop Slot.ty.csn pre (x :: rest)
    rw [hx, rows_cons] at hd
    have hd : List.drop (pre.length * 2) (rows Slot.ty.cs xs) = Slot.ty.cs x ++ rows Slot.ty.cs rest := hd
    have hw : IntKind.i64.wrap ((pre.length : Int) + 1) = pre.length + 1 := wrap_i64 (by omega) (by omega)
    simp [h0', h5', hlt, hd, Slot.cseB]
    refine callK.ro 16 rfl (by kernel_rfl) (by simp [roc_ro, roc_sc, roc_agg, upd_app, Slot.cseB]) (R46 xs x.key hb) rfl rfl rfl ?_
    by_cases hz : idx (fun s => bEq s.key x.key) xs 0 = (pre.length : Int)
    · simp [h5', hz, hw]
      refine ⟨pre ++ [x], rest, by simp, _, Le.refl _, ?_⟩
      have hE2 : allAt G rest (pre.length + 1) = allAt G xs 0 := by
        rw [← hE]; simp only [allAt]; rw [show G x = (pre.length : Int) from hz]; simp
      simp [hx, h0', hE2, upd_app]
    · have hE2 : allAt (fun x => idx (fun s => bEq s.key x.key) xs 0) xs 0 = false := by
        refine hE.symm.trans ?_
        simp only [allAt]
        rw [show G x = idx (fun s => bEq s.key x.key) xs 0 from rfl]; simp [hz]
      simp [h5', hz, cacheOk, hE2]
/- 79: loop.example/g00464/impl.slotAt$1 -/
def A79 : AC := (.seq (.ops [⟨(some 2), none, .w (.box (.t 0))⟩, ⟨(some 3), none, .q (.mov (.c (.sc (.bool false))))⟩])
  (.seq (.ops [⟨(some 4), none, .q (.fadr 0 (.t 2))⟩, ⟨(some 5), none, .q (.load false 1 (.t 4))⟩, ⟨(some 6), none, .q (.load false 1 (.t 1))⟩, ⟨(some 7), none, .c (.c (.clo 57 [])) [(.t 5), (.t 6)]⟩, ⟨(some 3), none, .q (.mov (.t 7))⟩])
  .ret))
theorem K79 : Tryz.f79.body.bind (comp Tryz.prog) = some A79 ∧ Tryz.f79.ntmps = 8 ∧ Tryz.f79.results.toList.mapM (resB Tryz.prog) = some [.mov (.t 3)] := ⟨by kernel_rfl, by kernel_rfl, by kernel_rfl⟩
theorem R79 (s : Slot) (k : List Int) : Ret Tryz.prog 79 [.agg (Slot.ty.cs s), .rp [.ro (rows B k) k.length] 0] (.sc (.bool (bEq s.key k))) [.un, .un] := by
  refine Ret.run Tryz.func79 K79 (by simp) rfl rfl 500 ?_
  simp [A79, iniρ, Slot.cseB]
  refine callK.ro 7 rfl (by kernel_rfl) (by simp [roc_ro, roc_sc, roc_agg, upd_app]; rfl) (R57 s.key k) rfl rfl rfl ?_
  simp
theorem R78 (g : FuncId) (caps : List AV) (f : Slot → Bool) (hg : callB Tryz.prog g = true) (hsh : shut.shutL caps = true) (xs : List Slot) (hR : ∀ x ∈ xs, Ret Tryz.prog g (el true (Slot.ty.cs x) :: caps) (.sc (.bool (f x))) (.un :: caps.map fun _ => .un)) (hb : xs.length < 4611686018427387904) :
    Ret Tryz.prog 78 [.ro (rows Slot.ty.cs xs) xs.length, .clo g caps] (.sc (.int .i64 (idx f xs 0))) [.un, .un] :=
  Ret.indexFunc Slot.ty (agg := true) Tryz.func78 ⟨by kernel_rfl, by kernel_rfl, by kernel_rfl⟩ (fun h => by cases h) g caps f hg hsh xs hR hb
/- 44: loop.example/g00464/impl.slotAt -/
def A44 : AC := (.seq (.ops [⟨(some 3), none, .w (.box (.t 1))⟩, ⟨(some 4), none, .q (.mov (.c (.sc (.int .i64 0))))⟩])
  (.seq (.ops [⟨(some 5), none, .q (.mov (.t 0))⟩, ⟨(some 6), none, .q (.mkf 79 [(.t 3)])⟩, ⟨(some 7), none, .c (.c (.clo 78 [])) [(.t 5), (.t 6)]⟩, ⟨(some 4), none, .q (.mov (.t 7))⟩])
  .ret))
theorem K44 : Tryz.f44.body.bind (comp Tryz.prog) = some A44 ∧ Tryz.f44.ntmps = 8 ∧ Tryz.f44.results.toList.mapM (resB Tryz.prog) = some [.mov (.t 4)] := ⟨by kernel_rfl, by kernel_rfl, by kernel_rfl⟩
theorem R44 (xs : List Slot) (k : List Int) (hb : xs.length < 4611686018427387904) : Ret Tryz.prog 44 [.ro (rows Slot.ty.cs xs) xs.length, .ro (rows B k) k.length] (.sc (.int .i64 (idx (fun s => bEq s.key k) xs 0))) [.un, .un] := by
  refine Ret.run Tryz.func44 K44 (by simp) rfl rfl 500 ?_
  simp [A44, iniρ]
  refine callK.ro 0 rfl (by kernel_rfl) (ys := [.ro (rows Slot.ty.cs xs) xs.length, .clo 79 [.rp [.ro (rows B k) k.length] 0]]) (by simp [roc_ro, upd_app, roc]) (R78 79 [.rp [.ro (rows B k) k.length] 0] (fun s => bEq s.key k) (by kernel_rfl) rfl xs (fun x _ => R79 x k) hb) rfl rfl rfl ?_
  simp
/- 13: loop.example/g00464/impl.CacheOk -/
def A13 : AC := (.seq (.ops [⟨(some 2), none, .q (.mov (.c (.sc (.bool false))))⟩])
  (.seq (.seq (.ops [⟨(some 5), none, .q (.mov (.t 0))⟩, ⟨(some 6), none, .q (.llen (.t 5))⟩, ⟨(some 7), none, .q (.mov (.c (.sc (.int .i64 0))))⟩])
  (.block 0 (.loop (.seq (.ops [⟨(some 8), none, .q (.bin .lss (.t 7) (.t 6))⟩])
  (.seq (.cond (.t 8) .skip
  (.exit 0))
  (.seq (.block 1 (.seq (.ops [⟨(some 9), none, .q (.mov (.t 7))⟩, ⟨(some 10), none, .q (.iadr 2 (.t 5) (.t 7))⟩, ⟨(some 11), none, .q (.load true 2 (.t 10))⟩, ⟨(some 4), none, .w (.alloc [.em, .em])⟩, ⟨(some 3), none, .q (.mov (.t 9))⟩, ⟨none, none, .w (.store 2 (.t 4) (.t 11))⟩])
  (.seq (.ops [⟨(some 12), none, .q (.mov (.t 0))⟩, ⟨(some 13), none, .q (.fadr 0 (.t 4))⟩, ⟨(some 14), none, .q (.load false 1 (.t 13))⟩, ⟨(some 15), none, .c (.c (.clo 44 [])) [(.t 12), (.t 14)]⟩, ⟨(some 16), none, .q (.mov (.t 3))⟩, ⟨(some 17), none, .q (.bin .neq (.t 15) (.t 16))⟩])
  (.cond (.t 17) (.seq (.ops [⟨(some 2), none, .q (.mov (.c (.sc (.bool false))))⟩])
  .ret)
  .skip))))
  (.ops [⟨(some 18), none, .q (.bin .add (.t 7) (.c (.sc (.int .i64 1))))⟩, ⟨(some 7), none, .q (.mov (.t 18))⟩])))))))
  (.seq (.ops [⟨(some 19), none, .q (.mov (.t 0))⟩, ⟨(some 20), none, .q (.llen (.t 19))⟩, ⟨(some 21), none, .q (.bin .leq (.t 20) (.c (.sc (.int .i64 20))))⟩, ⟨(some 22), none, .q (.mov (.t 21))⟩, ⟨(some 23), (some (22, true)), .q (.mov (.t 0))⟩, ⟨(some 24), (some (22, true)), .c (.c (.clo 17 [])) [(.t 23)]⟩, ⟨(some 25), (some (22, true)), .q (.bin .leq (.t 24) (.c (.sc (.int .i64 3000))))⟩, ⟨(some 26), none, .q (.pick (.t 22) (.t 25) (.c (.sc (.bool false))))⟩, ⟨(some 2), none, .q (.mov (.t 26))⟩])
  .ret)))
theorem K13 : Tryz.f13.body.bind (comp Tryz.prog) = some A13 ∧ Tryz.f13.ntmps = 27 ∧ Tryz.f13.results.toList.mapM (resB Tryz.prog) = some [.mov (.t 2)] := ⟨by kernel_rfl, by kernel_rfl, by kernel_rfl⟩
theorem R13 (xs : List Slot) (hb : xs.length < 4611686018427387904) : Ret Tryz.prog 13 [.ro (rows Slot.ty.cs xs) xs.length] (.sc (.bool (cacheOk xs))) [.un] := by
  refine Ret.run Tryz.func13 K13 (by simp) rfl rfl 500 ?_
  simp [A13, iniρ]
  let G : Slot → Int := fun x => idx (fun s => bEq s.key x.key) xs 0
  refine T.rounds (μ := fun i : List Slot × List Slot => i.2.length)
    (fun i s => i.1 ++ i.2 = xs ∧ allAt G i.2 i.1.length = allAt G xs 0 ∧ s.ρ 0 = .ro (rows Slot.ty.cs xs) xs.length ∧ s.ρ 5 = .ro (rows Slot.ty.cs xs) xs.length ∧ s.ρ 6 = .sc (.int .i64 xs.length) ∧ s.ρ 7 = .sc (.int .i64 i.1.length) ∧ s.h 4 = none ∧ s.n = 27) ([], xs) (by simp [upd_app]) ?_
  rintro ⟨pre, rest⟩ ⟨ρ, hh, n⟩ ⟨hx, hE, h0', h5', h6', h7', hf, rfl⟩
  simp only at hx hE h0' h5' h6' h7' hf
  refine run_ok (n := 400) ?_
  cases rest with
  | nil =>
    simp at hx
    subst hx
    have hE : true = allAt (fun x => idx (fun s => bEq s.key x.key) pre 0) pre 0 := hE
    simp [h6', h7']
    refine T.on 400 ?_
    by_cases hz : pre.length ≤ 20
    · have hz' : (pre.length : Int) ≤ 20 := by omega
      simp [h0', hz']
      refine callK.ro 24 rfl (by kernel_rfl) (by simp [roc_ro, roc_sc, roc_agg, upd_app]) (R17 pre hb) rfl rfl rfl ?_
      simp [cacheOk, ← hE, hz]
    · have hz' : ¬ (pre.length : Int) ≤ 20 := by omega
      simp [h0', hz', cacheOk, hz]
  | cons x rest =>
    have hlt : (pre.length : Int) < xs.length := by rw [← hx]; simp only [List.length_append, List.length_cons]; omega
    have hd := rows_drop Slot.ty.csn pre (x :: rest)
    rw [hx, rows_cons] at hd
    have hd : List.drop (pre.length * 2) (rows Slot.ty.cs xs) = Slot.ty.cs x ++ rows Slot.ty.cs rest := hd
    have hw : IntKind.i64.wrap ((pre.length : Int) + 1) = pre.length + 1 := wrap_i64 (by omega) (by omega)
    simp [h0', h5', h6', h7', hf, hlt, hd, Slot.cseB, over]
    refine callK.ro 15 rfl (by kernel_rfl) (by simp [roc_ro, roc_sc, roc_agg, upd_app, Slot.cseB]) (R44 xs x.key hb) rfl rfl rfl ?_
    by_cases hz : idx (fun s => bEq s.key x.key) xs 0 = (pre.length : Int)
    · simp [h7', hz, hw]
      refine ⟨pre ++ [x], rest, by simp, _, Le.reset [0, 5, 6, 7] [] ?_ (by simp), ?_⟩
      · simp [upd_app, menB, idfree, h0', h5', h6']
      have hE2 : allAt G rest (pre.length + 1) = allAt G xs 0 := by
        rw [← hE]; simp only [allAt]; rw [show G x = (pre.length : Int) from hz]; simp
      simp [hx, h0', h5', h6', hE2, upd_app]
    · have hE2 : allAt (fun x => idx (fun s => bEq s.key x.key) xs 0) xs 0 = false := by
        refine hE.symm.trans ?_
        simp only [allAt]
        rw [show G x = idx (fun s => bEq s.key x.key) xs 0 from rfl]; simp [hz]
      simp [h7', hz, cacheOk, hE2]
end Go.Proofs.YtaknfalbmblagaaGreatDoor.Am
namespace Go.Proofs.YtaknfalbmblagaaGreatDoor.Am
open Go Go.Proofs
set_option linter.unusedSimpArgs false
set_option linter.unusedVariables false
attribute [local congr] T_congr callK_congr callWK_congr
attribute [local simp] run_nil run_op0 run_opg run_seq run_cond run_block run_ret run_skip run_skip_after run_skip_blk run_exit run_exit_after run_exit_blk run_loop run_any runS_nil runS_op0 runS_opg runW_nil runW_op0 runW_opg exec_q exec_w exec_c exec_n execW_q execW_w execW_c restW_app hideH_app merge_app wblk rest_app restS_app execS_q execS_c aval dOk upd_app ev_t ev_c setO_some setO_none put_mk pinsOf isIo hasIo sbin endR fin resL one outL out1 clo1 cloL coe coeL shut shut.shutL wantA weff cellsOf fillA deref natOf ρ0_app h0_app plain plain.plainL keep_app keepH_app andThen_normal andThen_ret andThen_exit pop_nil pop_after pop_after_ret pop_after_exit pop_blk pop_blk_ret pop_blk_exit nilA srcOf srcCells keepR_app keepHR_app renA rb
def nextT (b : List Int) (a : Int) (bad : Bool) : ByteArray × Int × Bool :=
  match getT b a with | some (s, n) => if bad = true then (⟨#[]⟩, a, true) else (s, n, false) | none => (⟨#[]⟩, a, true)
/- 80: (*loop.example/g00464/impl.textReader).next -/
def A80 : AC := (.seq (.ops [⟨(some 2), none, .q (.mov (.c (.sc (.string ⟨#[]⟩))))⟩])
  (.seq (.any [(⟨(some 7), none, .q (.mov (.t 0))⟩, []), (⟨(some 8), none, .q (.nilc (.t 7))⟩, [0]), (⟨(some 9), none, .q (.fadr 0 (.t 8))⟩, [1]), (⟨(some 10), none, .q (.load false 1 (.t 9))⟩, [2]), (⟨(some 11), none, .q (.mov (.t 0))⟩, []), (⟨(some 12), none, .q (.nilc (.t 11))⟩, [4]), (⟨(some 13), none, .q (.fadr 1 (.t 12))⟩, [5]), (⟨(some 14), none, .q (.load false 1 (.t 13))⟩, [6]), (⟨(some 15), none, .c (.c (.clo 101 [])) [(.t 10), (.t 14)]⟩, [3, 7]), (⟨(some 6), none, .q (.mov (.t 15))⟩, [8]), (⟨(some 16), none, .q (.ext (.t 6) 0)⟩, [9]), (⟨(some 17), none, .q (.ext (.t 6) 1)⟩, [9]), (⟨(some 18), none, .q (.ext (.t 6) 2)⟩, [9]), (⟨(some 3), none, .q (.mov (.t 16))⟩, [10, 8, 0, 1, 2, 3, 4, 5, 6, 7, 8, 9, 10]), (⟨(some 4), none, .q (.mov (.t 17))⟩, [11, 13, 0, 1, 2, 3, 4, 5, 6, 7, 8, 9, 10, 11, 13]), (⟨(some 5), none, .q (.mov (.t 18))⟩, [12, 14, 0, 1, 2, 3, 4, 5, 6, 7, 8, 9, 10, 11, 12, 13, 14])])
  (.seq (.seq (.ops [⟨(some 19), none, .q (.mov (.t 0))⟩, ⟨(some 20), none, .q (.nilc (.t 19))⟩, ⟨(some 21), none, .q (.fadr 2 (.t 20))⟩, ⟨(some 22), none, .q (.load false 1 (.t 21))⟩, ⟨(some 23), none, .q (.mov (.t 22))⟩, ⟨(some 24), (some (23, false)), .q (.mov (.t 5))⟩, ⟨(some 25), (some (23, false)), .q (.not (.t 24))⟩, ⟨(some 26), none, .q (.pick (.t 23) (.c (.sc (.bool true))) (.t 25))⟩])
  (.cond (.t 26) (.seq (.ops [⟨(some 27), none, .q (.mov (.t 0))⟩, ⟨(some 28), none, .q (.nilc (.t 27))⟩, ⟨(some 29), none, .q (.fadr 2 (.t 28))⟩, ⟨none, none, .w (.store 1 (.t 29) (.c (.sc (.bool true))))⟩])
  (.seq (.ops [⟨(some 2), none, .q (.mov (.c (.sc (.string ⟨#[]⟩))))⟩])
  .ret))
  .skip))
  (.seq (.ops [⟨(some 30), none, .q (.mov (.t 0))⟩, ⟨(some 31), none, .q (.mov (.t 4))⟩, ⟨(some 32), none, .q (.nilc (.t 30))⟩, ⟨(some 33), none, .q (.fadr 1 (.t 32))⟩, ⟨none, none, .w (.store 1 (.t 33) (.t 31))⟩])
  (.seq (.ops [⟨(some 34), none, .q (.mov (.t 3))⟩, ⟨(some 2), none, .q (.mov (.t 34))⟩])
  .ret)))))
theorem K80 : Tryz.f80.body.bind (comp Tryz.prog) = some A80 ∧ Tryz.f80.ntmps = 35 ∧ Tryz.f80.results.toList.mapM (resB Tryz.prog) = some [.mov (.t 2)] := ⟨by kernel_rfl, by kernel_rfl, by kernel_rfl⟩
set_option maxHeartbeats 2000000 in
theorem R80 (b : List Int) (a : Int) (bad : Bool) (ha : Ty.int.ok a) (hb : byteL b) (hl : b.length ≤ 140737488355328) : Ret Tryz.prog 80 [.bx [.ro (rows B b) b.length, .sc (.int .i64 a), .sc (.bool bad)]] (.sc (.string (nextT b a bad).1)) [.bx [.ro (rows B b) b.length, .sc (.int .i64 (nextT b a bad).2.1), .sc (.bool (nextT b a bad).2.2)]] := by
  have rg := R101 b a ha hb hl
  have hn : nextT b a bad = match getT b a with | some (s, n) => if bad = true then (⟨#[]⟩, a, true) else (s, n, false) | none => (⟨#[]⟩, a, true) := rfl
  obtain ⟨g, hg⟩ : ∃ g, g = getT b a := ⟨_, rfl⟩
  rw [← hg] at rg hn
  rw [hn]
  cases g with
  | none =>
    cases bad with
    | true =>
      refine Ret.run Tryz.func80 K80 (by simp) rfl rfl 900 ?_
      simp [A80, iniρ]
      refine T.textW 400 [([], []), ([], []), ([], []), ([], []), ([], []), ([], []), ([], []), ([], []), ([], []), ([], []), ([], []), ([], []), ([], []), ([], []), ([], []), ([], [])] mixed (by kernel_rfl) (by kernel_rfl) ?_
      simp [merge_nil, hideH_nil]
      refine callWK.ro 0 rfl (by kernel_rfl) (by simp [upd_app, roc_sc, roc_ro, hideH_app]) rg rfl (by simp [gotA, inst, instL, shut]; exact ⟨rfl, rfl⟩) (by rfl) ?_
      simp [merge_nil, hideH_nil, over, ex1, idfree.idfreeL, idfree, ioPos1, outC]
    | false =>
      refine Ret.run Tryz.func80 K80 (by simp) rfl rfl 900 ?_
      simp [A80, iniρ]
      refine T.textW 400 [([], []), ([], []), ([], []), ([], []), ([], []), ([], []), ([], []), ([], []), ([], []), ([], []), ([], []), ([], []), ([], []), ([], []), ([], []), ([], [])] mixed (by kernel_rfl) (by kernel_rfl) ?_
      simp [merge_nil, hideH_nil]
      refine callWK.ro 0 rfl (by kernel_rfl) (by simp [upd_app, roc_sc, roc_ro, hideH_app]) rg rfl (by simp [gotA, inst, instL, shut]; exact ⟨rfl, rfl⟩) (by rfl) ?_
      simp [merge_nil, hideH_nil, over, ex1, idfree.idfreeL, idfree, ioPos1, outC]
  | some p =>
    obtain ⟨s, n⟩ := p
    cases bad with
    | true =>
      refine Ret.run Tryz.func80 K80 (by simp) rfl rfl 900 ?_
      simp [A80, iniρ]
      refine T.textW 400 [([], []), ([], []), ([], []), ([], []), ([], []), ([], []), ([], []), ([], []), ([], []), ([], []), ([], []), ([], []), ([], []), ([], []), ([], []), ([], [])] mixed (by kernel_rfl) (by kernel_rfl) ?_
      simp [merge_nil, hideH_nil]
      refine callWK.ro 0 rfl (by kernel_rfl) (by simp [upd_app, roc_sc, roc_ro, hideH_app]) rg rfl (by simp [gotA, inst, instL, shut]; exact ⟨rfl, rfl⟩) (by rfl) ?_
      simp [merge_nil, hideH_nil, over, ex1, idfree.idfreeL, idfree, ioPos1, outC]
    | false =>
      refine Ret.run Tryz.func80 K80 (by simp) rfl rfl 900 ?_
      simp [A80, iniρ]
      refine T.textW 400 [([], []), ([], []), ([], []), ([], []), ([], []), ([], []), ([], []), ([], []), ([], []), ([], []), ([], []), ([], []), ([], []), ([], []), ([], []), ([], [])] mixed (by kernel_rfl) (by kernel_rfl) ?_
      simp [merge_nil, hideH_nil]
      refine callWK.ro 0 rfl (by kernel_rfl) (by simp [upd_app, roc_sc, roc_ro, hideH_app]) rg rfl (by simp [gotA, inst, instL, shut]; exact ⟨rfl, rfl⟩) (by rfl) ?_
      simp [merge_nil, hideH_nil, over, ex1, idfree.idfreeL, idfree, ioPos1, outC]
/- 83: loop.example/g00464/spec.l17Text -/
end Go.Proofs.YtaknfalbmblagaaGreatDoor.Am
namespace Go.Proofs.YtaknfalbmblagaaGreatDoor.Am
open Go Go.Proofs
set_option linter.unusedSimpArgs false
set_option linter.unusedVariables false
attribute [local congr] T_congr callK_congr callWK_congr
attribute [local simp] run_nil run_op0 run_opg run_seq run_cond run_block run_ret run_skip run_skip_after run_skip_blk run_exit run_exit_after run_exit_blk run_loop run_any runS_nil runS_op0 runS_opg runW_nil runW_op0 runW_opg exec_q exec_w exec_c exec_n execW_q execW_w execW_c restW_app hideH_app merge_app wblk rest_app restS_app execS_q execS_c aval dOk upd_app ev_t ev_c setO_some setO_none put_mk pinsOf isIo hasIo sbin endR fin resL one outL out1 clo1 cloL coe coeL shut shut.shutL wantA weff cellsOf fillA deref natOf ρ0_app h0_app plain plain.plainL keep_app keepH_app andThen_normal andThen_ret andThen_exit pop_nil pop_after pop_after_ret pop_after_exit pop_blk pop_blk_ret pop_blk_exit nilA srcOf srcCells keepR_app keepHR_app renA rb
def rdN (b : List Int) : Nat → Int → Bool → List File × Int × Bool
  | 0, a, bad => ([], a, bad)
  | k + 1, a, bad => (⟨(nextT b a bad).1, (nextT b (nextT b a bad).2.1 (nextT b a bad).2.2).1⟩ :: (rdN b k (nextT b (nextT b a bad).2.1 (nextT b a bad).2.2).2.1 (nextT b (nextT b a bad).2.1 (nextT b a bad).2.2).2.2).1, (rdN b k (nextT b (nextT b a bad).2.1 (nextT b a bad).2.2).2.1 (nextT b (nextT b a bad).2.1 (nextT b a bad).2.2).2.2).2)
/-- the head of what is read: two texts and a number -/
def rdH (b : List Int) (bad : Bool) : ByteArray × ByteArray × ByteArray × Int × Bool :=
  ((nextT b 0 bad).1, (nextT b (nextT b 0 bad).2.1 (nextT b 0 bad).2.2).1,
    nextT b (nextT b (nextT b 0 bad).2.1 (nextT b 0 bad).2.2).2.1 (nextT b (nextT b 0 bad).2.1 (nextT b 0 bad).2.2).2.2)
def getI (b : List Int) : Option Made :=
  if (parseN (rdH b false).2.2.1 1000).isSome = true ∧ (rdN b ((parseN (rdH b false).2.2.1 1000).getD 0) (rdH b false).2.2.2.1 (rdH b false).2.2.2.2).2.2 = false ∧ bEq (putM ⟨(rdH b false).1, (rdN b ((parseN (rdH b false).2.2.1 1000).getD 0) (rdH b false).2.2.2.1 (rdH b false).2.2.2.2).1, (rdH b false).2.1⟩) b = true then
    some ⟨(rdH b false).1, (rdN b ((parseN (rdH b false).2.2.1 1000).getD 0) (rdH b false).2.2.2.1 (rdH b false).2.2.2.2).1, (rdH b false).2.1⟩ else none
def noMade : Made := ⟨⟨#[]⟩, [], ⟨#[]⟩⟩
def madeA : Option Made → AV
  | some m => .tup [.agg (Made.ty.oc m), .sc (.bool true)]
  | none => .tup [.agg (Made.ty.oc noMade), .sc (.bool false)]
theorem getT_rng {b : List Int} {a : Int} {s : ByteArray} {n : Int} (h : getT b a = some (s, n)) : s.size ≤ 60000 ∧ 0 ≤ a ∧ n = a + 2 + s.size ∧ n ≤ b.length := by
  unfold getT at h
  split at h
  · split at h
    · rename_i h1 h2
      simp only [Option.some.injEq, Prod.mk.injEq] at h
      obtain ⟨rfl, rfl⟩ := h
      have e : (strOfNums ((b.drop (a.toNat + 2)).take (lenAt b a.toNat))).size = lenAt b a.toNat := by
        rw [strOfNums_size, List.length_take, List.length_drop]; omega
      rw [e]
      omega
    · cases h
  · cases h
theorem nextT_rng (b : List Int) (a : Int) (bad : Bool) (h0 : 0 ≤ a ∧ a ≤ b.length) : (nextT b a bad).1.size ≤ 60000 ∧ 0 ≤ (nextT b a bad).2.1 ∧ (nextT b a bad).2.1 ≤ b.length := by
  unfold nextT
  cases hg : getT b a with
  | none => exact ⟨Nat.zero_le _, h0⟩
  | some p =>
    obtain ⟨s, n⟩ := p
    obtain ⟨h1, h2, h3, h4⟩ := getT_rng hg
    cases bad with
    | true => exact ⟨Nat.zero_le _, h0⟩
    | false => exact ⟨h1, (by show (0 : Int) ≤ n; omega), h4⟩
theorem rdN_len (b : List Int) : ∀ (k : Nat) (a : Int) (bad : Bool), (rdN b k a bad).1.length = k
  | 0, _, _ => rfl
  | k + 1, a, bad => by rw [rdN, List.length_cons, rdN_len b k]
theorem rdN_fw (b : List Int) : ∀ (k : Nat) (a : Int) (bad : Bool), (0 ≤ a ∧ a ≤ b.length) → fw (rdN b k a bad).1 ≤ 120004 * k
  | 0, _, _, _ => Nat.zero_le _
  | k + 1, a, bad, h => by
    have h1 := nextT_rng b a bad h
    have h2 := nextT_rng b _ (nextT b a bad).2.2 h1.2
    have h3 := rdN_fw b k _ (nextT b (nextT b a bad).2.1 (nextT b a bad).2.2).2.2 h2.2
    rw [rdN, fw]
    simp only
    omega
theorem parseN_le {s : ByteArray} {k : Nat} (h : parseN s 1000 = some k) : k ≤ 1000 := by
  unfold parseN at h
  split at h
  · rename_i h1
    cases h
    have := h1.2.2.2
    omega
  · cases h
theorem int_ok {b : List Int} {a : Int} (hl : b.length ≤ 140737488355328) (h : 0 ≤ a ∧ a ≤ b.length) : Ty.int.ok a := by
  show _ ∧ _
  constructor <;> omega
/- 45: loop.example/g00464/impl.GetMade -/
def A45 : AC := (.seq (.ops [⟨(some 2), none, .w (.alloc [(.sc (.string ⟨#[]⟩)), .em, (.sc (.string ⟨#[]⟩))])⟩, ⟨(some 3), none, .q (.mov (.c (.sc (.bool false))))⟩])
  (.seq (.ops [⟨(some 9), none, .q (.mov (.t 0))⟩, ⟨(some 10), none, .w (.build [.em, (.sc (.int .i64 0)), (.sc (.bool false))] [(0, 1, (.t 9))])⟩, ⟨(some 4), none, .w (.alloc [.em, (.sc (.int .i64 0)), (.sc (.bool false))])⟩, ⟨none, none, .w (.store 3 (.t 4) (.t 10))⟩])
  (.seq (.ops [⟨(some 11), none, .c (.c (.clo 80 [])) [(.t 4)]⟩, ⟨(some 12), none, .w (.build [(.sc (.string ⟨#[]⟩)), .em, (.sc (.string ⟨#[]⟩))] [(0, 1, (.t 11))])⟩, ⟨(some 5), none, .w (.alloc [(.sc (.string ⟨#[]⟩)), .em, (.sc (.string ⟨#[]⟩))])⟩, ⟨none, none, .w (.store 3 (.t 5) (.t 12))⟩])
  (.seq (.ops [⟨(some 13), none, .c (.c (.clo 80 [])) [(.t 4)]⟩, ⟨(some 14), none, .q (.fadr 2 (.t 5))⟩, ⟨none, none, .w (.store 1 (.t 14) (.t 13))⟩])
  (.seq (.ops [⟨(some 16), none, .c (.c (.clo 80 [])) [(.t 4)]⟩, ⟨(some 17), none, .c (.c (.clo 81 [])) [(.t 16), (.c (.sc (.int .i64 1000)))]⟩, ⟨(some 15), none, .q (.mov (.t 17))⟩, ⟨(some 18), none, .q (.ext (.t 15) 0)⟩, ⟨(some 19), none, .q (.ext (.t 15) 1)⟩, ⟨(some 6), none, .q (.mov (.t 18))⟩, ⟨(some 7), none, .q (.mov (.t 19))⟩])
  (.seq (.seq (.ops [⟨(some 20), none, .q (.mov (.t 6))⟩, ⟨(some 21), none, .q (.mov (.c (.sc (.int .i64 0))))⟩])
  (.block 0 (.loop (.seq (.ops [⟨(some 22), none, .q (.bin .lss (.t 21) (.t 20))⟩])
  (.seq (.cond (.t 22) .skip
  (.exit 0))
  (.seq (.block 1 (.seq (.ops [⟨(some 23), none, .c (.c (.clo 80 [])) [(.t 4)]⟩, ⟨(some 24), none, .w (.build [(.sc (.string ⟨#[]⟩)), (.sc (.string ⟨#[]⟩))] [(0, 1, (.t 23))])⟩, ⟨(some 8), none, .w (.alloc [(.sc (.string ⟨#[]⟩)), (.sc (.string ⟨#[]⟩))])⟩, ⟨none, none, .w (.store 2 (.t 8) (.t 24))⟩])
  (.seq (.ops [⟨(some 25), none, .c (.c (.clo 80 [])) [(.t 4)]⟩, ⟨(some 26), none, .q (.fadr 1 (.t 8))⟩, ⟨none, none, .w (.store 1 (.t 26) (.t 25))⟩])
  (.ops [⟨(some 27), none, .q (.fadr 1 (.t 5))⟩, ⟨(some 28), none, .q (.load false 1 (.t 27))⟩, ⟨(some 29), none, .q (.load true 2 (.t 8))⟩, ⟨(some 30), none, .w (.bsl 2 1 [(.sc (.string ⟨#[]⟩)), (.sc (.string ⟨#[]⟩))] [(0, 2, (.t 29))])⟩, ⟨(some 31), none, .w (.app 2 32 false (.t 28) (.t 30))⟩, ⟨(some 32), none, .q (.fadr 1 (.t 5))⟩, ⟨none, none, .w (.store 1 (.t 32) (.t 31))⟩]))))
  (.ops [⟨(some 33), none, .q (.bin .add (.t 21) (.c (.sc (.int .i64 1))))⟩, ⟨(some 21), none, .q (.mov (.t 33))⟩])))))))
  (.seq (.seq (.ops [⟨(some 34), none, .q (.mov (.t 7))⟩, ⟨(some 35), none, .q (.not (.t 34))⟩, ⟨(some 36), none, .q (.mov (.t 35))⟩, ⟨(some 37), (some (36, false)), .q (.fadr 2 (.t 4))⟩, ⟨(some 38), (some (36, false)), .q (.load false 1 (.t 37))⟩, ⟨(some 39), none, .q (.pick (.t 36) (.c (.sc (.bool true))) (.t 38))⟩, ⟨(some 40), none, .q (.mov (.t 39))⟩, ⟨(some 41), (some (40, false)), .q (.load true 3 (.t 5))⟩, ⟨(some 42), (some (40, false)), .c (.c (.clo 54 [])) [(.t 41)]⟩, ⟨(some 43), (some (40, false)), .q (.mov (.t 0))⟩, ⟨(some 44), (some (40, false)), .c (.c (.clo 57 [])) [(.t 42), (.t 43)]⟩, ⟨(some 45), (some (40, false)), .q (.not (.t 44))⟩, ⟨(some 46), none, .q (.pick (.t 40) (.c (.sc (.bool true))) (.t 45))⟩])
  (.cond (.t 46) (.seq (.ops [⟨(some 47), none, .w (.build [(.sc (.string ⟨#[]⟩)), .em, (.sc (.string ⟨#[]⟩))] [])⟩, ⟨none, none, .w (.store 3 (.t 2) (.t 47))⟩, ⟨(some 3), none, .q (.mov (.c (.sc (.bool false))))⟩])
  .ret)
  .skip))
  (.seq (.ops [⟨(some 48), none, .q (.load true 3 (.t 5))⟩, ⟨none, none, .w (.store 3 (.t 2) (.t 48))⟩, ⟨(some 3), none, .q (.mov (.c (.sc (.bool true))))⟩])
  .ret))))))))
theorem K45 : Tryz.f45.body.bind (comp Tryz.prog) = some A45 ∧ Tryz.f45.ntmps = 49 ∧ Tryz.f45.results.toList.mapM (resB Tryz.prog) = some [.load true 3 (.t 2), .mov (.t 3)] := ⟨by kernel_rfl, by kernel_rfl, by kernel_rfl⟩
set_option maxHeartbeats 4000000 in
theorem R45 (b : List Int) (hb : byteL b) (hl : b.length ≤ 140737488355328) : Ret Tryz.prog 45 [.ro (rows B b) b.length] (madeA (getI b)) [.un] := by
  have g0 : (0 : Int) ≤ 0 ∧ (0 : Int) ≤ b.length := ⟨Int.le_refl _, by omega⟩
  have g1 := nextT_rng b 0 false g0
  have r1 := R80 b 0 false (int_ok hl g0) hb hl
  obtain ⟨x, hx⟩ : ∃ x, x = nextT b 0 false := ⟨_, rfl⟩
  rw [← hx] at g1 r1
  have g2 := nextT_rng b x.2.1 x.2.2 g1.2
  have r2 := R80 b x.2.1 x.2.2 (int_ok hl g1.2) hb hl
  obtain ⟨y, hy⟩ : ∃ y, y = nextT b x.2.1 x.2.2 := ⟨_, rfl⟩
  rw [← hy] at g2 r2
  have g3 := nextT_rng b y.2.1 y.2.2 g2.2
  have r3 := R80 b y.2.1 y.2.2 (int_ok hl g2.2) hb hl
  obtain ⟨z, hz⟩ : ∃ z, z = nextT b y.2.1 y.2.2 := ⟨_, rfl⟩
  rw [← hz] at g3 r3
  have hH : rdH b false = (x.1, y.1, z) := by unfold rdH; rw [← hx, ← hy, ← hz]
  have rp := R81 z.1 1000 (by constructor <;> decide)
  obtain ⟨pn, hpn⟩ : ∃ pn, pn = parseN z.1 1000 := ⟨_, rfl⟩
  have hk : pn.getD 0 ≤ 1000 := by
    cases h : pn with
    | none => exact Nat.zero_le _
    | some k => exact parseN_le (hpn.symm.trans h)
  rw [← hpn] at rp
  obtain ⟨N, hN⟩ : ∃ N, N = pn.getD 0 := ⟨_, rfl⟩
  rw [← hN] at hk
  have hgI : getI b = if pn.isSome = true ∧ (rdN b N z.2.1 z.2.2).2.2 = false ∧ bEq (putM ⟨x.1, (rdN b N z.2.1 z.2.2).1, y.1⟩) b = true then some ⟨x.1, (rdN b N z.2.1 z.2.2).1, y.1⟩ else none := by
    unfold getI
    rw [hH]
    simp only
    rw [← hpn, ← hN]
  have hfl := rdN_fw b N z.2.1 z.2.2 g3.2
  have hln := rdN_len b N z.2.1 z.2.2
  obtain ⟨R, hR⟩ : ∃ R, R = rdN b N z.2.1 z.2.2 := ⟨_, rfl⟩
  rw [← hR] at hgI hfl hln
  have np : numA pn = .tup [.sc (.int .i64 N), .sc (.bool pn.isSome)] := by
    rw [hN]; cases pn <;> rfl
  rw [np] at rp
  rw [hgI]
  refine Ret.run Tryz.func45 K45 (by simp) rfl rfl 900 ?_
  simp [A45, iniρ, over]
  refine callK.bx (b := 4) 0 rfl (by kernel_rfl) (by simp [upd_app]) (by simp [upd_app]) (by simp [idfree.idfreeL, idfree]) rfl (by simp) r1 rfl rfl rfl ?_
  simp [over]
  refine callK.bx (b := 4) 0 rfl (by kernel_rfl) (by simp [upd_app]) (by simp [upd_app]) (by simp [idfree.idfreeL, idfree]) rfl (by simp) r2 rfl rfl rfl ?_
  simp [over]
  refine callK.bx (b := 4) 0 rfl (by kernel_rfl) (by simp [upd_app]) (by simp [upd_app]) (by simp [idfree.idfreeL, idfree]) rfl (by simp) r3 rfl rfl rfl ?_
  simp [over]
  refine callK.ro 0 rfl (by kernel_rfl) (by simp [upd_app, roc_sc]) rp rfl (by simp [inst, instL, shut]; exact ⟨rfl, rfl⟩) rfl ?_
  simp
  refine T.le (Le.layC 5 1 2 (by simp [upd_app]; rfl) rfl) ?_
  refine T.rounds (μ := fun i : List File × Nat × Int × Opt => i.2.1)
    (fun i s => i.1.length + i.2.1 = N ∧ (0 ≤ i.2.2.1 ∧ i.2.2.1 ≤ b.length) ∧ (i.1 ++ (rdN b i.2.1 i.2.2.1 i.2.2.2.v).1, (rdN b i.2.1 i.2.2.1 i.2.2.2.v).2) = R ∧ s.ρ 0 = .ro (rows B b) b.length ∧ s.ρ 2 = .ref 2 0 ∧ s.ρ 4 = .ref 4 0 ∧ s.ρ 5 = .ref 5 0 ∧ s.ρ 7 = .sc (.bool pn.isSome) ∧ s.ρ 20 = .sc (.int .i64 N) ∧ s.ρ 21 = .sc (.int .i64 i.1.length) ∧
      s.h 2 = some (some [.sc (.string ⟨#[]⟩), .em, .sc (.string ⟨#[]⟩)]) ∧ s.h 4 = some (some [.ro (rows B b) b.length, .sc (.int .i64 i.2.2.1), .sc (.bool i.2.2.2.v)]) ∧ s.h 5 = some (some [.sc (.string x.1), .own (rows File.ty.oc i.1) i.1.length 2, .sc (.string y.1)]) ∧ (∀ c, c ≠ 2 → c ≠ 4 → c ≠ 5 → s.h c = none) ∧ s.n = 49) ([], N, z.2.1, ⟨z.2.2⟩) (by
      simp [upd_app, rows_nil, hR]
      exact ⟨g3.2, fun c h1 h2 h3 => by simp [h1, h2, h3]⟩) ?_
  rintro ⟨acc, k, a, ⟨bad⟩⟩ ⟨ρ, hh, n⟩ ⟨hkN, ga, hE, k0, k2, k4, k5, k7, k20, k21, b2, b4, b5, bf, rfl⟩
  simp only at hkN ga hE k0 k2 k4 k5 k7 k20 k21 b2 b4 b5 bf
  have f60 := bf 60 (by decide) (by decide) (by decide)
  refine T.le (Le.open 5 1 60 b5 rfl f60 (File.frL acc)) ?_
  refine run_ok (n := 600) ?_
  cases k with
  | zero =>
    have hE : (acc, a, bad) = R := by rw [← hE]; simp [rdN]
    subst hE
    have hkN : acc.length = N := hkN
    subst hkN
    simp only at hfl hln
    simp [k20, k21]
    refine T.on 600 ?_
    by_cases hs : pn.isSome = true
    case neg =>
      have hs' : pn.isSome = false := by simpa using hs
      rw [if_neg (fun h => hs h.1)]
      simp [k0, k2, k4, k5, k7, b2, b4, hs', over, ex1, madeA, noMade, Made.oce, rows_nil, idfree.idfreeL]
    by_cases hbd : bad = false
    case neg =>
      have hbd' : bad = true := by simpa using hbd
      rw [if_neg (fun h => hbd h.2.1)]
      simp [k0, k2, k4, k5, k7, b2, b4, hs, hbd', over, ex1, madeA, noMade, Made.oce, rows_nil, idfree.idfreeL]
    obtain ⟨m, hm⟩ : ∃ m : Made, m = ⟨x.1, acc, y.1⟩ := ⟨_, rfl⟩
    have rM := R54 m (by rw [hm]; show acc.length < _; omega) (by rw [hm]; unfold mw; simp only; omega)
    rw [← hm]
    have hro : ∀ (h : Hp), h 60 = some (some (rows File.ty.oc acc)) → roc h 7 (.sl 60 0 acc.length 2 false) = some (.ro (rows File.ty.cs acc) acc.length) := fun h e => File.roc7 e
    simp [k5, k4, k7, b4, hs, hbd]
    refine callK.own 61 rfl (by kernel_rfl) (ys := [.agg (Made.ty.cs m)]) (by simp [upd_app, roc_agg8, List.mapM_cons, List.mapM_nil, roc_sc, hro, Made.cse, hm]) rM (B_fl _) (by simp [upd_app, bf]) rfl ?_
    simp [k0]
    have hrb : ∀ (h : Hp), h 61 = some (some (rows B (putM m))) → roc h 8 (.sl 61 0 (putM m).length 1 false) = some (.ro (rows B (putM m)) (putM m).length) := fun h e => B.roc e
    refine callK.ro 0 rfl (by kernel_rfl) (by simp [upd_app, roc_ro, hrb]) (R57 (putM m) b) rfl rfl rfl ?_
    cases hq : bEq (putM m) b
    · simp [k0, k2, k4, k5, k7, b2, b4, hs, hbd, over, ex1, madeA, noMade, Made.oce, rows_nil, idfree.idfreeL]
    · simp [k0, k2, k4, k5, k7, b2, b4, hs, hbd, over, ex1, madeA, Made.oce, hm, File.ocl, File.frL]
  | succ k =>
    have hlt : (acc.length : Int) < N := by omega
    have hwr : IntKind.i64.wrap ((acc.length : Int) + 1) = acc.length + 1 := wrap_i64 (by omega) (by omega)
    have e1 := nextT_rng b a bad ga
    have s1 := R80 b a bad (int_ok hl ga) hb hl
    rw [rdN] at hE
    obtain ⟨u, hu⟩ : ∃ u, u = nextT b a bad := ⟨_, rfl⟩
    rw [← hu] at e1 s1 hE
    have e2 := nextT_rng b u.2.1 u.2.2 e1.2
    have s2 := R80 b u.2.1 u.2.2 (int_ok hl e1.2) hb hl
    obtain ⟨v, hv⟩ : ∃ v, v = nextT b u.2.1 u.2.2 := ⟨_, rfl⟩
    rw [← hv] at e2 s2 hE
    have hcap : (acc.length + 1) * 32 ≤ 140737488355328 := by omega
    have hap : rows File.ty.oc acc ++ [.sc (.string u.1), .sc (.string v.1)] = rows File.ty.oc (acc ++ [⟨u.1, v.1⟩]) := by rw [rows_append, rows_cons, rows_nil]; rfl
    simp [k20, k21, hlt]
    refine callK.bx (b := 4) 0 rfl (by kernel_rfl) (by simp [upd_app, k4]) (by simp [upd_app, b4]) (by simp [idfree.idfreeL, idfree]) rfl (by simp) s1 rfl rfl rfl ?_
    simp [k4, k5, bf, over]
    refine callK.bx (b := 4) 0 rfl (by kernel_rfl) (by simp [upd_app, k4]) (by simp [upd_app]) (by simp [idfree.idfreeL, idfree]) rfl (by simp) s2 rfl rfl rfl ?_
    simp [k5, k21, bf, over, File.ocl, hcap, hwr, hap]
    refine ⟨acc ++ [⟨u.1, v.1⟩], k, by omega, v.2.1, ⟨v.2.2⟩, _, Le.trans (Le.pack 5 1 (i := 31) (len := acc.length + 1) (sz := 2) (cs' := rows File.ty.oc (acc ++ [⟨u.1, v.1⟩])) (by simp [upd_app]; rfl) rfl (by simp [upd_app]) (by decide) (by rw [File.ocl]; simp) (File.frL _)) (Le.reset [0, 2, 4, 5, 7, 20, 21] [2, 4, 5] ?_ ?_), by simp; omega, e2.2, by rw [← hE]; simp, ?_⟩
    · simp [upd_app, menB, idfree, k0, k2, k4, k5, k7, k20]
    · intro c hc cs hcs
      simp at hc
      rcases hc with rfl | rfl | rfl
      · simp [upd_app, b2] at hcs; subst hcs; simp [idfree]
      · simp [upd_app] at hcs; subst hcs; simp [idfree]
      · simp [upd_app] at hcs; subst hcs; simp [idfree, File.frL]
    · simp [upd_app, k0, k2, k4, k5, k7, k20, b2, keepH_app]
      exact fun c h1 h2 h3 => by simp [h1, h2, h3]
end Go.Proofs.YtaknfalbmblagaaGreatDoor.Am
namespace Go.Proofs.YtaknfalbmblagaaGreatDoor.Am
open Go Go.Proofs
set_option linter.unusedSimpArgs false
set_option linter.unusedVariables false
attribute [local congr] T_congr callK_congr callWK_congr
attribute [local simp] run_nil run_op0 run_opg run_seq run_cond run_block run_ret run_skip run_skip_after run_skip_blk run_exit run_exit_after run_exit_blk run_loop run_any runS_nil runS_op0 runS_opg runW_nil runW_op0 runW_opg exec_q exec_w exec_c exec_n execW_q execW_w execW_c restW_app hideH_app merge_app wblk rest_app restS_app execS_q execS_c aval dOk upd_app ev_t ev_c setO_some setO_none put_mk pinsOf isIo hasIo sbin endR fin resL one outL out1 clo1 cloL coe coeL shut shut.shutL wantA weff cellsOf fillA deref natOf ρ0_app h0_app plain plain.plainL keep_app keepH_app andThen_normal andThen_ret andThen_exit pop_nil pop_after pop_after_ret pop_after_exit pop_blk pop_blk_ret pop_blk_exit nilA srcOf srcCells keepR_app keepHR_app renA rb
/- 47: loop.example/g00464/spec.GetMade -/
end Go.Proofs.YtaknfalbmblagaaGreatDoor.Am
namespace Go.Proofs.YtaknfalbmblagaaGreatDoor.Am
open Go Go.Proofs
set_option linter.unusedSimpArgs false
set_option linter.unusedVariables false
attribute [local congr] T_congr callK_congr callWK_congr
attribute [local simp] run_nil run_op0 run_opg run_seq run_cond run_block run_ret run_skip run_skip_after run_skip_blk run_exit run_exit_after run_exit_blk run_loop run_any runS_nil runS_op0 runS_opg runW_nil runW_op0 runW_opg exec_q exec_w exec_c exec_n execW_q execW_w execW_c restW_app hideH_app merge_app wblk rest_app restS_app execS_q execS_c aval dOk upd_app ev_t ev_c setO_some setO_none put_mk pinsOf isIo hasIo sbin endR fin resL one outL out1 clo1 cloL coe coeL shut shut.shutL wantA weff cellsOf fillA deref natOf ρ0_app h0_app plain plain.plainL keep_app keepH_app andThen_normal andThen_ret andThen_exit pop_nil pop_after pop_after_ret pop_after_exit pop_blk pop_blk_ret pop_blk_exit nilA srcOf srcCells keepR_app keepHR_app renA rb
def enc1 (s : ByteArray) : List Int := hiL s.size ++ sB s
def encF : List File → List Int
  | [] => []
  | f :: l => enc1 f.path ++ (enc1 f.text ++ encF l)
theorem enc1_len (s : ByteArray) : (enc1 s).length = 2 + s.size := by
  have := sB_len s
  simp only [enc1, List.length_append, hiL, List.length_cons, List.length_nil, this]
theorem strOf_sB (s : ByteArray) : strOfNums (sB s) = s := by
  apply ByteArray.ext
  unfold strOfNums sB
  rw [List.map_map]
  have : (s.data.toList.map ((fun n : Int => UInt8.ofNat n.toNat) ∘ fun b : UInt8 => (b.toNat : Int))) = s.data.toList := by
    conv => rhs; rw [← List.map_id s.data.toList]
    refine List.map_congr_left fun c _ => ?_
    show UInt8.ofNat ((c.toNat : Int).toNat) = c
    rw [Int.toNat_natCast, UInt8.ofNat_toNat]
  rw [this]
theorem sB_strOf {l : List Int} (h : byteL l) : sB (strOfNums l) = l := by
  unfold strOfNums sB
  rw [List.map_map]
  conv => rhs; rw [← List.map_id l]
  refine List.map_congr_left fun x hx => ?_
  have := h x hx
  show (((UInt8.ofNat x.toNat).toNat : Nat) : Int) = x
  rw [UInt8.toNat_ofNat']
  omega
theorem bEq_iff {a b : List Int} (ha : byteL a) (hb : byteL b) : bEq a b = true ↔ a = b := by
  unfold bEq
  rw [beq_iff_eq, Lib.toList_data, Lib.toList_data]
  constructor
  · intro h
    have h2 : strOfNums a = strOfNums b := by
      apply ByteArray.ext
      exact Array.ext' h
    rw [← sB_strOf ha, ← sB_strOf hb, h2]
  · rintro rfl; rfl
theorem getT_back {b w : List Int} {s : ByteArray} {n : Int} (hb : byteL b) (hw : ∃ q, b = w ++ q) (h : getT b (w.length : Int) = some (s, n)) : s.size ≤ 60000 ∧ n = ((w ++ enc1 s).length : Nat) ∧ ∃ q, b = (w ++ enc1 s) ++ q := by
  obtain ⟨q, hq⟩ := hw
  have hr := getT_rng h
  unfold getT at h
  split at h
  case isFalse => cases h
  rename_i c1
  split at h
  case isFalse => cases h
  rename_i c2
  simp only [Option.some.injEq, Prod.mk.injEq] at h
  obtain ⟨rfl, rfl⟩ := h
  have hbl : b.length = w.length + q.length := by rw [hq, List.length_append]
  have hdw : b.drop w.length = q := by rw [hq, List.drop_left]
  obtain ⟨x, y, r, rfl⟩ : ∃ x y r, q = x :: y :: r := by
    match q, hbl with
    | [], hbl => simp at hbl; omega
    | [_], hbl => simp at hbl; omega
    | x :: y :: r, _ => exact ⟨x, y, r, rfl⟩
  have e0 : b[w.length]? = some x := by rw [hq, List.getElem?_append_right (Nat.le_refl _)]; simp
  have e1 : b[w.length + 1]? = some y := by rw [hq, List.getElem?_append_right (by omega)]; simp
  have hL : lenAt b w.length = x.toNat * 256 + y.toNat := by unfold lenAt; rw [e0, e1]; rfl
  have d2 : b.drop (w.length + 2) = r := by rw [← List.drop_drop, hdw]; rfl
  have bx := hb x (by rw [hq]; simp)
  have by' := hb y (by rw [hq]; simp)
  have hrb : byteL r := fun z hz => hb z (by rw [hq]; simp [hz])
  rw [Int.toNat_natCast] at hr c2 ⊢
  have hm : (r.take (lenAt b w.length)).length = lenAt b w.length := by
    rw [List.length_take]
    have : b.length = w.length + (r.length + 1 + 1) := hbl
    omega
  rw [d2] at hr ⊢
  have hs : (strOfNums (r.take (lenAt b w.length))).size = lenAt b w.length := by rw [strOfNums_size, hm]
  have hsb : sB (strOfNums (r.take (lenAt b w.length))) = r.take (lenAt b w.length) := sB_strOf fun z hz => hrb z (List.mem_of_mem_take hz)
  obtain ⟨L, hLd⟩ : ∃ L, L = lenAt b w.length := ⟨_, rfl⟩
  rw [← hLd] at hL hm hs hsb hr ⊢
  refine ⟨hr.1, ?_, r.drop L, ?_⟩
  · rw [List.length_append, enc1_len, hs]; omega
  · rw [hq, List.append_assoc]
    congr 1
    rw [enc1, hs, hsb, hiL, hL]
    have f1 : ((x.toNat * 256 + y.toNat : Nat) : Int) / 256 = x := by omega
    have f2 : ((x.toNat * 256 + y.toNat : Nat) : Int) % 256 = y := by omega
    rw [f1, f2]
    simp
theorem getT_fwd {w q : List Int} {s : ByteArray} (hs : s.size ≤ 60000) : getT ((w ++ enc1 s) ++ q) (w.length : Int) = some (s, (((w ++ enc1 s).length : Nat) : Int)) := by
  obtain ⟨b, hb⟩ : ∃ b, b = (w ++ enc1 s) ++ q := ⟨_, rfl⟩
  have hl := enc1_len s
  have hbl : b.length = w.length + (2 + s.size) + q.length := by rw [hb, List.length_append, List.length_append, hl]
  have hb2 : b = w ++ ((s.size : Int) / 256 :: (s.size : Int) % 256 :: (sB s ++ q)) := by rw [hb, enc1, hiL]; simp
  have e0 : b[w.length]? = some ((s.size : Int) / 256) := by rw [hb2, List.getElem?_append_right (Nat.le_refl _)]; simp
  have e1 : b[w.length + 1]? = some ((s.size : Int) % 256) := by rw [hb2, List.getElem?_append_right (by omega)]; simp
  have hL : lenAt b w.length = s.size := by unfold lenAt; rw [e0, e1]; show ((s.size : Int) / 256).toNat * 256 + ((s.size : Int) % 256).toNat = _; omega
  have d2 : b.drop (w.length + 2) = sB s ++ q := by
    rw [hb2, ← List.drop_drop, List.drop_left]; rfl
  rw [← hb]
  unfold getT
  rw [Int.toNat_natCast, hL, d2, if_pos ⟨by omega, by omega⟩, if_pos ⟨hs, by omega⟩]
  have ht : (sB s ++ q).take s.size = sB s := by rw [← sB_len s, List.take_left]
  rw [ht, strOf_sB, List.length_append, hl]
  congr 2
  omega
theorem nextT_bad (b : List Int) (a : Int) : nextT b a true = (⟨#[]⟩, a, true) := by
  unfold nextT
  cases getT b a with
  | none => rfl
  | some p => rfl
theorem nextT_back {b w : List Int} {bad : Bool} (hb : byteL b) (hw : ∃ q, b = w ++ q) (h : (nextT b (w.length : Int) bad).2.2 = false) : bad = false ∧ (nextT b (w.length : Int) bad).1.size ≤ 60000 ∧ (nextT b (w.length : Int) bad).2.1 = ((w ++ enc1 (nextT b (w.length : Int) bad).1).length : Nat) ∧ ∃ q, b = (w ++ enc1 (nextT b (w.length : Int) bad).1) ++ q := by
  cases bad with
  | true => rw [nextT_bad] at h; cases h
  | false =>
    have hn : nextT b (w.length : Int) false = match getT b (w.length : Int) with | some (s, n) => (s, n, false) | none => (⟨#[]⟩, (w.length : Int), true) := rfl
    cases hg : getT b (w.length : Int) with
    | none => rw [hn, hg] at h; cases h
    | some p =>
      obtain ⟨s, n⟩ := p
      rw [hg] at hn
      rw [hn]
      exact ⟨rfl, getT_back hb hw hg⟩
theorem nextT_fwd {w q : List Int} {s : ByteArray} (hs : s.size ≤ 60000) : nextT ((w ++ enc1 s) ++ q) (w.length : Int) false = (s, (((w ++ enc1 s).length : Nat) : Int), false) := by
  unfold nextT
  rw [getT_fwd hs]; rfl
theorem rdN_bad (b : List Int) : ∀ (k : Nat) (a : Int), (rdN b k a true).2.2 = true
  | 0, _ => rfl
  | k + 1, a => by
    rw [rdN, nextT_bad]
    simp only
    rw [nextT_bad]
    exact rdN_bad b k _
def filesFit (l : List File) : Prop := ∀ f ∈ l, f.path.size ≤ 60000 ∧ f.text.size ≤ 60000
theorem rdN_back {b : List Int} (hb : byteL b) : ∀ (k : Nat) (w : List Int) (bad : Bool), (∃ q, b = w ++ q) → (rdN b k (w.length : Int) bad).2.2 = false →
    bad = false ∧ filesFit (rdN b k (w.length : Int) bad).1 ∧ (rdN b k (w.length : Int) bad).2.1 = ((w ++ encF (rdN b k (w.length : Int) bad).1).length : Nat) ∧ ∃ q, b = (w ++ encF (rdN b k (w.length : Int) bad).1) ++ q
  | 0, w, bad, hw, h => by
    have e : rdN b 0 (w.length : Int) bad = ([], (w.length : Int), bad) := rfl
    rw [e] at h ⊢
    have hn : filesFit [] := fun f hf => absurd hf List.not_mem_nil
    exact ⟨h, hn, by simp [encF], by simpa [encF] using hw⟩
  | k + 1, w, bad, hw, h => by
    rw [rdN] at h ⊢
    simp only at h ⊢
    have c2 : (nextT b (nextT b (w.length : Int) bad).2.1 (nextT b (w.length : Int) bad).2.2).2.2 = false := by
      cases hc : (nextT b (nextT b (w.length : Int) bad).2.1 (nextT b (w.length : Int) bad).2.2).2.2 with
      | false => rfl
      | true => rw [hc, rdN_bad] at h; cases h
    have c1 : (nextT b (w.length : Int) bad).2.2 = false := by
      cases hc : (nextT b (w.length : Int) bad).2.2 with
      | false => rfl
      | true => rw [hc, nextT_bad] at c2; cases c2
    obtain ⟨h1, h2, h3, h4⟩ := nextT_back hb hw c1
    obtain ⟨u, hu⟩ : ∃ u, u = nextT b (w.length : Int) bad := ⟨_, rfl⟩
    rw [← hu] at h c1 c2 h2 h3 h4 ⊢
    rw [h3] at c2 h ⊢
    obtain ⟨g1, g2, g3, g4⟩ := nextT_back hb h4 c2
    obtain ⟨v, hv⟩ : ∃ v, v = nextT b (((w ++ enc1 u.1).length : Nat) : Int) u.2.2 := ⟨_, rfl⟩
    rw [← hv] at h c2 g2 g3 g4 ⊢
    rw [g3] at h ⊢
    obtain ⟨e1, e2, e3, e4⟩ := rdN_back hb k _ _ g4 h
    have hap : ∀ l : List File, w ++ encF (⟨u.1, v.1⟩ :: l) = (w ++ enc1 u.1 ++ enc1 v.1) ++ encF l := fun l => by simp [encF]
    rw [hap]
    refine ⟨h1, ?_, e3, e4⟩
    intro f hf
    rcases List.mem_cons.1 hf with rfl | hf
    · exact ⟨h2, g2⟩
    · exact e2 f hf
theorem rdN_fwd : ∀ (l : List File) (w q : List Int), filesFit l → rdN ((w ++ encF l) ++ q) l.length (w.length : Int) false = (l, (((w ++ encF l).length : Nat) : Int), false)
  | [], w, q, _ => by simp [rdN, encF]
  | f :: l, w, q, h => by
    obtain ⟨h1, h2⟩ := h f (by simp)
    have e : (w ++ encF (f :: l)) ++ q = (w ++ enc1 f.path) ++ (enc1 f.text ++ (encF l ++ q)) := by simp [encF]
    have e2 : (w ++ encF (f :: l)) ++ q = ((w ++ enc1 f.path) ++ enc1 f.text) ++ (encF l ++ q) := by simp [encF]
    have e3 : (w ++ encF (f :: l)) ++ q = ((w ++ enc1 f.path ++ enc1 f.text) ++ encF l) ++ q := by simp [encF]
    have n1 : nextT ((w ++ encF (f :: l)) ++ q) (w.length : Int) false = (f.path, (((w ++ enc1 f.path).length : Nat) : Int), false) := by rw [e]; exact nextT_fwd h1
    have n2 : nextT ((w ++ encF (f :: l)) ++ q) (((w ++ enc1 f.path).length : Nat) : Int) false = (f.text, (((w ++ enc1 f.path ++ enc1 f.text).length : Nat) : Int), false) := by rw [e2]; exact nextT_fwd h2
    have n3 : rdN ((w ++ encF (f :: l)) ++ q) l.length (((w ++ enc1 f.path ++ enc1 f.text).length : Nat) : Int) false = (l, (((w ++ enc1 f.path ++ enc1 f.text ++ encF l).length : Nat) : Int), false) := by rw [e3]; exact rdN_fwd l _ q fun g hg => h g (List.mem_cons_of_mem _ hg)
    rw [List.length_cons, rdN, n1]
    simp only
    rw [n2]
    simp only
    rw [n3]
    simp [encF]
theorem putT_enc {b : List Int} {s : ByteArray} (h : s.size ≤ 60000) : putT b s = b ++ enc1 s := if_pos h
theorem putFs_enc : ∀ (l : List File) (b : List Int), filesFit l → putFs b l = b ++ encF l
  | [], b, _ => by simp [putFs, encF]
  | f :: l, b, h => by
    obtain ⟨h1, h2⟩ := h f (by simp)
    rw [putFs, putT_enc h1, putT_enc h2, putFs_enc l _ fun g hg => h g (List.mem_cons_of_mem _ hg)]
    simp [encF]
structure Fit (m : Made) : Prop where
  task : m.task.size ≤ 60000
  log : m.log.size ≤ 60000
  outs : filesFit m.outs
  num : m.outs.length ≤ 1000
theorem bodyM_enc {m : Made} (h : Fit m) : bodyM m = enc1 m.task ++ (enc1 m.log ++ (enc1 (numT m.outs.length) ++ encF m.outs)) := by
  have hn := numT_size m.outs.length
  have := h.num
  unfold bodyM putFl
  rw [putT_enc h.task, putT_enc h.log, putT_enc (by omega), putFs_enc _ _ h.outs]
  simp
theorem digF_dec : ∀ (k n : Nat), n ≤ k → digF 0 (Lib.decDigits n) = n ∧ figL (Lib.decDigits n) = true
  | k, n, hk => by
    have dg : ∀ d : Nat, d < 10 → (UInt8.ofNat (48 + d)).toNat = 48 + d := fun d hd => by rw [UInt8.toNat_ofNat']; omega
    have fg : ∀ d : Nat, d < 10 → figI ((UInt8.ofNat (48 + d)).toNat : Int) = true := fun d hd => by
      rw [dg d hd]; simp only [figI, Bool.and_eq_true, decide_eq_true_eq]; omega
    by_cases h9 : n < 10
    · rw [dec_small h9]
      refine ⟨by rw [digF_cons, digF_nil, dg n h9]; omega, by rw [figL, fg n h9]; rfl⟩
    · have ih : digF 0 (Lib.decDigits (n / 10)) = n / 10 ∧ figL (Lib.decDigits (n / 10)) = true := by
        match k, hk with
        | 0, hk => omega
        | k + 1, hk => exact digF_dec k (n / 10) (by omega)
      rw [dec_big (by omega), digF_app, figL_app, ih.1, ih.2, digF_cons, digF_nil, dg _ (by omega)]
      refine ⟨by omega, by rw [figL, fg _ (by omega)]; rfl⟩
theorem dec_ne (n : Nat) : 1 ≤ (Lib.decDigits n).length := by
  by_cases h9 : n < 10
  · rw [dec_small h9]; exact Nat.le_refl _
  · rw [dec_big (by omega), List.length_append]; simp
theorem dec_len : ∀ (j n : Nat), n < 10 ^ (j + 1) → (Lib.decDigits n).length ≤ j + 1
  | 0, n, h => by rw [dec_small (by simpa using h)]; simp
  | j + 1, n, h => by
    by_cases h9 : n < 10
    · rw [dec_small h9]; simp
    · rw [dec_big (by omega), List.length_append]
      have := dec_len j (n / 10) (by rw [Nat.pow_succ] at h; omega)
      simp; omega
theorem parse_num {k : Nat} (hk : k ≤ 1000) : parseN (numT k) 1000 = some k := by
  have hl := numT_list k
  have hz : (numT k).size = (Lib.decDigits k).length := by rw [← hl]; exact str_len rfl
  obtain ⟨d1, d2⟩ := digF_dec k k (Nat.le_refl _)
  have hlen := dec_len 6 k (by omega)
  have hne := dec_ne k
  unfold parseN
  rw [hl, d1, if_pos]
  refine ⟨⟨by omega, by omega⟩, d2, ?_, by omega⟩
  rintro ⟨h1, h2⟩
  have h0 := dec_head k k (Nat.le_refl _) h2
  have hz2 : (Lib.decDigits k).length = 1 := by rw [h0, dec_small (by omega)]; rfl
  omega
theorem parse_inv {s : ByteArray} {k : Nat} (h : parseN s 1000 = some k) : s = numT k ∧ k ≤ 1000 := by
  have hk := parseN_le h
  unfold parseN at h
  split at h
  case isFalse => cases h
  rename_i c
  cases h
  refine ⟨?_, hk⟩
  have := (num_canon c.1.1 c.2.1).2 c.2.2.1
  rw [Lib.toList_data, Lib.toList_data] at this
  exact ByteArray.ext (Array.ext' this.symm)
/-- the head of what is read, back and forth -/
theorem rdH_back {b : List Int} {bad : Bool} (hb : byteL b) (h : (rdH b bad).2.2.2.2 = false) : bad = false ∧ (rdH b bad).1.size ≤ 60000 ∧ (rdH b bad).2.1.size ≤ 60000 ∧ (rdH b bad).2.2.1.size ≤ 60000 ∧
    (rdH b bad).2.2.2.1 = ((enc1 (rdH b bad).1 ++ enc1 (rdH b bad).2.1 ++ enc1 (rdH b bad).2.2.1).length : Nat) ∧ ∃ q, b = (enc1 (rdH b bad).1 ++ enc1 (rdH b bad).2.1 ++ enc1 (rdH b bad).2.2.1) ++ q := by
  unfold rdH at h ⊢
  simp only at h ⊢
  have c2 : (nextT b (nextT b 0 bad).2.1 (nextT b 0 bad).2.2).2.2 = false := by
    cases hc : (nextT b (nextT b 0 bad).2.1 (nextT b 0 bad).2.2).2.2 with
    | false => rfl
    | true => rw [hc, nextT_bad] at h; cases h
  have c1 : (nextT b 0 bad).2.2 = false := by
    cases hc : (nextT b 0 bad).2.2 with
    | false => rfl
    | true => rw [hc, nextT_bad] at c2; cases c2
  obtain ⟨h1, h2, h3, h4⟩ := nextT_back (w := []) hb ⟨b, rfl⟩ c1
  have h2 : (nextT b 0 bad).1.size ≤ 60000 := h2
  have h3 : (nextT b 0 bad).2.1 = (([] ++ enc1 (nextT b 0 bad).1).length : Nat) := h3
  have h4 : ∃ q, b = ([] ++ enc1 (nextT b 0 bad).1) ++ q := h4
  rw [List.nil_append] at h3 h4
  obtain ⟨u, hu⟩ : ∃ u, u = nextT b 0 bad := ⟨_, rfl⟩
  rw [← hu] at h c1 c2 h2 h3 h4 ⊢
  rw [h3] at c2 h ⊢
  obtain ⟨g1, g2, g3, g4⟩ := nextT_back hb h4 c2
  obtain ⟨v, hv⟩ : ∃ v, v = nextT b (((enc1 u.1).length : Nat) : Int) u.2.2 := ⟨_, rfl⟩
  rw [← hv] at h c2 g2 g3 g4 ⊢
  rw [g3] at h ⊢
  obtain ⟨e1, e2, e3, e4⟩ := nextT_back hb g4 h
  exact ⟨h1, h2, g2, e2, e3, e4⟩
theorem rdH_fwd {a c d : ByteArray} {q : List Int} (ha : a.size ≤ 60000) (hc : c.size ≤ 60000) (hd : d.size ≤ 60000) : rdH ((enc1 a ++ enc1 c ++ enc1 d) ++ q) false = (a, c, d, (((enc1 a ++ enc1 c ++ enc1 d).length : Nat) : Int), false) := by
  have n1 : nextT ((enc1 a ++ enc1 c ++ enc1 d) ++ q) 0 false = (a, (((enc1 a).length : Nat) : Int), false) := by
    have := nextT_fwd (w := []) (q := enc1 c ++ (enc1 d ++ q)) ha
    simpa using this
  have n2 : nextT ((enc1 a ++ enc1 c ++ enc1 d) ++ q) (((enc1 a).length : Nat) : Int) false = (c, (((enc1 a ++ enc1 c).length : Nat) : Int), false) := by
    have := nextT_fwd (w := enc1 a) (q := enc1 d ++ q) hc
    simpa using this
  have n3 : nextT ((enc1 a ++ enc1 c ++ enc1 d) ++ q) (((enc1 a ++ enc1 c).length : Nat) : Int) false = (d, (((enc1 a ++ enc1 c ++ enc1 d).length : Nat) : Int), false) := nextT_fwd (w := enc1 a ++ enc1 c) hd
  unfold rdH
  rw [n1]
  simp only
  rw [n2]
  simp only
  rw [n3]
theorem bodyM_eq {m : Made} (h : Fit m) : bodyM m = (enc1 m.task ++ enc1 m.log ++ enc1 (numT m.outs.length)) ++ encF m.outs := by
  rw [bodyM_enc h]; simp
theorem readBody {m : Made} (h : Fit m) (q : List Int) : rdH (bodyM m ++ q) false = (m.task, m.log, numT m.outs.length, (((enc1 m.task ++ enc1 m.log ++ enc1 (numT m.outs.length)).length : Nat) : Int), false) ∧
    rdN (bodyM m ++ q) m.outs.length (((enc1 m.task ++ enc1 m.log ++ enc1 (numT m.outs.length)).length : Nat) : Int) false = (m.outs, (((bodyM m).length : Nat) : Int), false) := by
  have hn := numT_size m.outs.length
  have hk := h.num
  rw [bodyM_eq h]
  constructor
  · rw [List.append_assoc]
    exact rdH_fwd h.task h.log (by omega)
  · exact rdN_fwd m.outs _ q h.outs
theorem getI_put {m : Made} (h : Fit m) : getI (putM m) = some m := by
  obtain ⟨h1, h2⟩ := readBody h (sumsL (bodyM m).sum)
  have hp := parse_num h.num
  unfold getI
  rw [show putM m = bodyM m ++ sumsL (bodyM m).sum from rfl, h1]
  simp only
  rw [hp]
  simp only [Option.getD_some]
  rw [h2]
  simp only
  rw [if_pos]
  exact ⟨by first | trivial | rfl, by first | trivial | rfl, (bEq_iff (putM_byte m) (putM_byte m)).2 rfl⟩
theorem getI_fit {b : List Int} (hb : byteL b) {m : Made} (h : getI b = some m) : Fit m ∧ putM m = b := by
  unfold getI at h
  split at h
  case isFalse => cases h
  rename_i c
  obtain ⟨c1, c2, c3⟩ := c
  cases h
  have c4 : (rdH b false).2.2.2.2 = false := by
    cases hc : (rdH b false).2.2.2.2 with
    | false => rfl
    | true => rw [hc, rdN_bad] at c2; cases c2
  obtain ⟨h1, h2, h3, h4, h5, h6⟩ := rdH_back hb c4
  obtain ⟨k, hk⟩ := Option.isSome_iff_exists.1 c1
  obtain ⟨hn, hk2⟩ := parse_inv hk
  rw [h5] at c2
  obtain ⟨g1, g2, g3, g4⟩ := rdN_back hb _ _ _ h6 c2
  refine ⟨⟨h2, h3, ?_, ?_⟩, (bEq_iff (putM_byte _) hb).1 c3⟩
  · show filesFit (rdN b _ (rdH b false).2.2.2.1 _).1
    rw [h5]; exact g2
  · show (rdN b _ _ _).1.length ≤ 1000
    rw [rdN_len, hk]; exact hk2
end Go.Proofs.YtaknfalbmblagaaGreatDoor.Am
namespace Go.Proofs.YtaknfalbmblagaaGreatDoor.Am
open Go Go.Proofs
set_option linter.unusedSimpArgs false
set_option linter.unusedVariables false
attribute [local congr] T_congr callK_congr callWK_congr
attribute [local simp] run_nil run_op0 run_opg run_seq run_cond run_block run_ret run_skip run_skip_after run_skip_blk run_exit run_exit_after run_exit_blk run_loop run_any runS_nil runS_op0 runS_opg runW_nil runW_op0 runW_opg exec_q exec_w exec_c exec_n execW_q execW_w execW_c restW_app hideH_app merge_app wblk rest_app restS_app execS_q execS_c aval dOk upd_app ev_t ev_c setO_some setO_none put_mk pinsOf isIo hasIo sbin endR fin resL one outL out1 clo1 cloL coe coeL shut shut.shutL wantA weff cellsOf fillA deref natOf ρ0_app h0_app plain plain.plainL keep_app keepH_app andThen_normal andThen_ret andThen_exit pop_nil pop_after pop_after_ret pop_after_exit pop_blk pop_blk_ret pop_blk_exit nilA srcOf srcCells keepR_app keepHR_app renA rb
/- 100: loop.example/g00464/laws.markText -/
def File.tot (x : File) : Nat := 1 + 1
def Need.tot (x : Need) : Nat := 1 + 1
def Cmd.tot (x : Cmd) : Nat := 1 + toL strTot x.acts
def Pack.tot (x : Pack) : Nat := 1 + toL strTot x.uses + toL Need.tot x.needs + toL Cmd.tot x.cmds
def Env.tot (x : Env) : Nat := 1 + 1
def Rule.tot (x : Rule) : Nat := 1 + toL strTot x.on + toL strTot x.ins + toL strTot x.envs + 1
def Made.tot (x : Made) : Nat := 1 + toL File.tot x.outs + 1
def Mark.tot (x : Mark) : Nat := 1 + 1
/- 71: loop.example/g00464/laws.markFileS -/
end Go.Proofs.YtaknfalbmblagaaGreatDoor.Am
namespace Go.Proofs.YtaknfalbmblagaaGreatDoor.Am
open Go Go.Proofs
set_option linter.unusedSimpArgs false
set_option linter.unusedVariables false
attribute [local congr] T_congr callK_congr callWK_congr
attribute [local simp] run_nil run_op0 run_opg run_seq run_cond run_block run_ret run_skip run_skip_after run_skip_blk run_exit run_exit_after run_exit_blk run_loop run_any runS_nil runS_op0 runS_opg runW_nil runW_op0 runW_opg exec_q exec_w exec_c exec_n execW_q execW_w execW_c restW_app hideH_app merge_app wblk rest_app restS_app execS_q execS_c aval dOk upd_app ev_t ev_c setO_some setO_none put_mk pinsOf isIo hasIo sbin endR fin resL one outL out1 clo1 cloL coe coeL shut shut.shutL wantA weff cellsOf fillA deref natOf ρ0_app h0_app plain plain.plainL keep_app keepH_app andThen_normal andThen_ret andThen_exit pop_nil pop_after pop_after_ret pop_after_exit pop_blk pop_blk_ret pop_blk_exit nilA srcOf srcCells keepR_app keepHR_app renA rb
/- 36: loop.example/g00464/laws.markByteS -/
/- 72: loop.example/g00464/laws.heldByteS -/
end Go.Proofs.YtaknfalbmblagaaGreatDoor.Am
namespace Go.Proofs.YtaknfalbmblagaaGreatDoor.Am
open Go Go.Proofs
set_option linter.unusedSimpArgs false
set_option linter.unusedVariables false
attribute [local congr] T_congr callK_congr callWK_congr
attribute [local simp] run_nil run_op0 run_opg run_seq run_cond run_block run_ret run_skip run_skip_after run_skip_blk run_exit run_exit_after run_exit_blk run_loop run_any runS_nil runS_op0 runS_opg runW_nil runW_op0 runW_opg exec_q exec_w exec_c exec_n execW_q execW_w execW_c restW_app hideH_app merge_app wblk rest_app restS_app execS_q execS_c aval dOk upd_app ev_t ev_c setO_some setO_none put_mk pinsOf isIo hasIo sbin endR fin resL one outL out1 clo1 cloL coe coeL shut shut.shutL wantA weff cellsOf fillA deref natOf ρ0_app h0_app plain plain.plainL keep_app keepH_app andThen_normal andThen_ret andThen_exit pop_nil pop_after pop_after_ret pop_after_exit pop_blk pop_blk_ret pop_blk_exit nilA srcOf srcCells keepR_app keepHR_app renA rb
def Slot.tot (x : Slot) : Nat := x.key.length + x.b.length
theorem Slot.ow2 (x : Slot) {i : Nat} {cs : List AV} {len sz : Nat} (h : (Slot.ty.oc x)[i]? = some (.own cs len sz)) : (i = 0 ∧ cs = rows B x.key ∧ len = x.key.length ∧ sz = 1) ∨ (i = 1 ∧ cs = rows B x.b ∧ len = x.b.length ∧ sz = 1) := by
  rw [Slot.oce] at h
  match i with
  | 0 => left; simp at h; exact ⟨rfl, h.1.symm, h.2.1.symm, h.2.2.symm⟩
  | 1 => right; simp at h; exact ⟨rfl, h.1.symm, h.2.1.symm, h.2.2.symm⟩
  | i + 2 => simp at h
/- 35: loop.example/g00464/laws.markSlotS -/
/- 38: loop.example/g00464/laws.heldSlotS -/
end Go.Proofs.YtaknfalbmblagaaGreatDoor.Am
namespace Go.Proofs.YtaknfalbmblagaaGreatDoor.Am
open Go Go.Proofs
set_option linter.unusedSimpArgs false
set_option linter.unusedVariables false
attribute [local congr] T_congr callK_congr callWK_congr
attribute [local simp] run_nil run_op0 run_opg run_seq run_cond run_block run_ret run_skip run_skip_after run_skip_blk run_exit run_exit_after run_exit_blk run_loop run_any runS_nil runS_op0 runS_opg runW_nil runW_op0 runW_opg exec_q exec_w exec_c exec_n execW_q execW_w execW_c restW_app hideH_app merge_app wblk rest_app restS_app execS_q execS_c aval dOk upd_app ev_t ev_c setO_some setO_none put_mk pinsOf isIo hasIo sbin endR fin resL one outL out1 clo1 cloL coe coeL shut shut.shutL wantA weff cellsOf fillA deref natOf ρ0_app h0_app plain plain.plainL keep_app keepH_app andThen_normal andThen_ret andThen_exit pop_nil pop_after pop_after_ret pop_after_exit pop_blk pop_blk_ret pop_blk_exit nilA srcOf srcCells keepR_app keepHR_app renA rb
end Go.Proofs.YtaknfalbmblagaaGreatDoor.Am
namespace Go.Proofs.YtaknfalbmblagaaGreatDoor.Am
open Go Go.Proofs
set_option linter.unusedSimpArgs false
set_option linter.unusedVariables false
attribute [local congr] T_congr callK_congr callWK_congr
attribute [local simp] run_nil run_op0 run_opg run_seq run_cond run_block run_ret run_skip run_skip_after run_skip_blk run_exit run_exit_after run_exit_blk run_loop run_any runS_nil runS_op0 runS_opg runW_nil runW_op0 runW_opg exec_q exec_w exec_c exec_n execW_q execW_w execW_c restW_app hideH_app merge_app wblk rest_app restS_app execS_q execS_c aval dOk upd_app ev_t ev_c setO_some setO_none put_mk pinsOf isIo hasIo sbin endR fin resL one outL out1 clo1 cloL coe coeL shut shut.shutL wantA weff cellsOf fillA deref natOf ρ0_app h0_app plain plain.plainL keep_app keepH_app andThen_normal andThen_ret andThen_exit pop_nil pop_after pop_after_ret pop_after_exit pop_blk pop_blk_ret pop_blk_exit nilA srcOf srcCells keepR_app keepHR_app renA rb
def cacheGet (xs : List Slot) (k : List Int) : Option Made :=
  if 0 ≤ idx (fun s => bEq s.key k) xs 0 then match xs[(idx (fun s => bEq s.key k) xs 0).toNat]? with
    | some s => match getI s.b with | some m => if madeOk m = true then some m else none | none => none
    | none => none
  else none
theorem getI_sz {b : List Int} (hb : byteL b) (hl : b.length ≤ 140737488355328) {m : Made} (h : getI b = some m) : m.task.size ≤ 1048576 ∧ m.outs.length < 4611686018427387904 ∧ ∀ x ∈ m.outs, x.path.size ≤ 1048576 := by
  obtain ⟨h1, _⟩ := getI_fit hb h
  exact ⟨by have := h1.task; omega, by have := h1.num; omega, fun x hx => by have := (h1.outs x hx).1; omega⟩
theorem slot_byte {x : Slot} (h : Slot.ty.ok x) : byteL x.b ∧ x.b.length ≤ 140737488355328 := by
  obtain ⟨_, ⟨o2, o3⟩, _⟩ := h
  refine ⟨fun y hy => o3 y hy, ?_⟩
  have : x.b.length * 1 ≤ 140737488351232 := o2
  omega
/- 10: loop.example/g00464/impl.CacheGet -/
def A10 : AC := (.seq (.ops [⟨(some 4), none, .w (.alloc [(.sc (.string ⟨#[]⟩)), .em, (.sc (.string ⟨#[]⟩))])⟩, ⟨(some 5), none, .q (.mov (.c (.sc (.bool false))))⟩])
  (.seq (.ops [⟨(some 9), none, .q (.mov (.t 0))⟩, ⟨(some 10), none, .q (.mov (.t 1))⟩, ⟨(some 11), none, .c (.c (.clo 44 [])) [(.t 9), (.t 10)]⟩, ⟨(some 6), none, .q (.mov (.t 11))⟩])
  (.seq (.seq (.ops [⟨(some 12), none, .q (.mov (.t 6))⟩, ⟨(some 13), none, .q (.bin .lss (.t 12) (.c (.sc (.int .i64 0))))⟩])
  (.cond (.t 13) (.seq (.ops [⟨(some 14), none, .w (.build [(.sc (.string ⟨#[]⟩)), .em, (.sc (.string ⟨#[]⟩))] [])⟩, ⟨none, none, .w (.store 3 (.t 4) (.t 14))⟩, ⟨(some 5), none, .q (.mov (.c (.sc (.bool false))))⟩])
  .ret)
  .skip))
  (.seq (.ops [⟨(some 16), none, .q (.mov (.t 0))⟩, ⟨(some 17), none, .q (.mov (.t 6))⟩, ⟨(some 18), none, .q (.iadr 2 (.t 16) (.t 17))⟩, ⟨(some 19), none, .q (.fadr 1 (.t 18))⟩, ⟨(some 20), none, .q (.load false 1 (.t 19))⟩, ⟨(some 21), none, .c (.c (.clo 45 [])) [(.t 20)]⟩, ⟨(some 15), none, .q (.mov (.t 21))⟩, ⟨(some 22), none, .q (.ext (.t 15) 0)⟩, ⟨(some 23), none, .q (.ext (.t 15) 1)⟩, ⟨(some 7), none, .w (.alloc [(.sc (.string ⟨#[]⟩)), .em, (.sc (.string ⟨#[]⟩))])⟩, ⟨none, none, .w (.store 3 (.t 7) (.t 22))⟩, ⟨(some 8), none, .q (.mov (.t 23))⟩])
  (.seq (.seq (.ops [⟨(some 24), none, .q (.mov (.t 8))⟩, ⟨(some 25), none, .q (.not (.t 24))⟩, ⟨(some 26), none, .q (.mov (.t 25))⟩, ⟨(some 27), (some (26, false)), .q (.load true 3 (.t 7))⟩, ⟨(some 28), (some (26, false)), .c (.c (.clo 16 [])) [(.t 27)]⟩, ⟨(some 29), (some (26, false)), .q (.not (.t 28))⟩, ⟨(some 30), none, .q (.pick (.t 26) (.c (.sc (.bool true))) (.t 29))⟩])
  (.cond (.t 30) (.seq (.ops [⟨(some 31), none, .w (.build [(.sc (.string ⟨#[]⟩)), .em, (.sc (.string ⟨#[]⟩))] [])⟩, ⟨none, none, .w (.store 3 (.t 4) (.t 31))⟩, ⟨(some 5), none, .q (.mov (.c (.sc (.bool false))))⟩])
  .ret)
  .skip))
  (.seq (.ops [⟨(some 32), none, .q (.load true 3 (.t 7))⟩, ⟨none, none, .w (.store 3 (.t 4) (.t 32))⟩, ⟨(some 5), none, .q (.mov (.c (.sc (.bool true))))⟩])
  .ret))))))
theorem K10 : Tryz.f10.body.bind (comp Tryz.prog) = some A10 ∧ Tryz.f10.ntmps = 33 ∧ Tryz.f10.results.toList.mapM (resB Tryz.prog) = some [.load true 3 (.t 4), .mov (.t 5)] := ⟨by kernel_rfl, by kernel_rfl, by kernel_rfl⟩
set_option maxHeartbeats 2000000 in
theorem R10 (xs : List Slot) (k : List Int) (hx : Slot.ty.slice.ok xs) : Ret Tryz.prog 10 [.ro (rows Slot.ty.cs xs) xs.length, .ro (rows B k) k.length] (madeA (cacheGet xs k)) [.un, .un] := by
  have hb : xs.length < 4611686018427387904 := Slot.ty.lenb (by decide) hx
  have hcg : cacheGet xs k = if 0 ≤ idx (fun s => bEq s.key k) xs 0 then match xs[(idx (fun s => bEq s.key k) xs 0).toNat]? with
    | some s => match getI s.b with | some m => if madeOk m = true then some m else none | none => none
    | none => none
  else none := rfl
  have ra := R44 xs k hb
  rcases idx_cases (fun s : Slot => bEq s.key k) xs 0 with ⟨pre, s, rest, e, h2, h1, e2⟩ | ⟨h1, e2⟩
  case inr =>
    rw [e2] at hcg ra
    rw [hcg, if_neg (by decide)]
    refine Ret.run Tryz.func10 K10 (by simp) rfl rfl 500 ?_
    simp [A10, iniρ]
    refine callK.ro 0 rfl (by kernel_rfl) (by simp [roc_ro]) ra rfl rfl rfl ?_
    simp [over, ex1, madeA, noMade, Made.oce, rows_nil, idfree.idfreeL]
  have e2 : idx (fun s => bEq s.key k) xs 0 = (pre.length : Int) := by rw [e2]; omega
  have hg : xs[pre.length]? = some s := by rw [e]; simp
  rw [e2] at hcg ra
  rw [Int.toNat_natCast, hg, if_pos (by omega)] at hcg
  simp only at hcg
  have hso : Slot.ty.ok s := hx.2 s (by rw [e]; simp)
  obtain ⟨sb, sl⟩ := slot_byte hso
  have rg := R45 s.b sb sl
  obtain ⟨g, hgg⟩ : ∃ g, g = getI s.b := ⟨_, rfl⟩
  rw [← hgg] at rg hcg
  have hle : xs.length = pre.length + (rest.length + 1) := by rw [e]; simp
  have hlt : (pre.length : Int) < xs.length := by omega
  have hlt2 : pre.length < xs.length := by omega
  have hd := rows_drop Slot.ty.csn pre (s :: rest)
  rw [← e, rows_cons] at hd
  have hd : List.drop (pre.length * 2) (rows Slot.ty.cs xs) = AV.ro (rows B s.key) s.key.length :: AV.ro (rows B s.b) s.b.length :: rows Slot.ty.cs rest := hd
  have hd1 : List.drop (pre.length * 2 + 1) (rows Slot.ty.cs xs) = AV.ro (rows B s.b) s.b.length :: rows Slot.ty.cs rest := by rw [← List.drop_drop, hd]; rfl
  have n0 : ¬ ((pre.length : Int) < 0) := by omega
  rw [hcg]
  cases g with
  | none =>
    refine Ret.run Tryz.func10 K10 (by simp) rfl rfl 500 ?_
    simp [A10, iniρ]
    refine callK.ro 0 rfl (by kernel_rfl) (by simp [roc_ro]) ra rfl rfl rfl ?_
    simp [n0, hlt, hlt2, hd1]
    refine callK.ro 21 rfl (by kernel_rfl) (by simp [roc_ro]) rg (by simp [madeA, noMade, Made.oce, rows_nil, flt, flt.fltL]) (by simp [madeA, noMade, Made.oce, inst, instL, shut, upd_app]; exact ⟨rfl, rfl⟩) rfl ?_
    simp [over, ex1, madeA, noMade, Made.oce, rows_nil, idfree.idfreeL]
  | some m =>
    obtain ⟨z1, z2, z3⟩ := getI_sz sb sl hgg.symm
    have rk := R16 m z1 z2 z3
    have fm : flt (madeA (some m)) = true := by
      have := Made.ty.flL m
      simp [madeA, flt, flt.fltL, this]
    refine Ret.run Tryz.func10 K10 (by simp) rfl rfl 500 ?_
    simp [A10, iniρ]
    refine callK.ro 0 rfl (by kernel_rfl) (by simp [roc_ro]) ra rfl rfl rfl ?_
    simp [n0, hlt, hlt2, hd1]
    refine callK.ro 21 rfl (by kernel_rfl) (by simp [roc_ro]) rg fm (by simp [madeA, Made.oce, inst, instL, shut, upd_app]; exact ⟨rfl, rfl⟩) rfl ?_
    simp [over]
    have hro : ∀ (h : Hp) (q : Nat), h q = some (some (rows File.ty.oc m.outs)) → roc h 7 (.sl q 0 m.outs.length 2 false) = some (.ro (rows File.ty.cs m.outs) m.outs.length) := fun h q e => File.roc7 e
    refine callK.ro 0 rfl (by kernel_rfl) (ys := [.agg (Made.ty.cs m)]) (by simp [upd_app, roc_agg8, List.mapM_cons, List.mapM_nil, roc_sc, hro, Made.cse]) rk rfl rfl rfl ?_
    cases hk : madeOk m
    · simp [over, ex1, madeA, noMade, Made.oce, rows_nil, idfree.idfreeL]
    · simp [over, ex1, madeA, Made.oce, File.ocl, File.frL]
/- 11: loop.example/g00464/spec.CacheGet -/
end Go.Proofs.YtaknfalbmblagaaGreatDoor.Am
namespace Go.Proofs.YtaknfalbmblagaaGreatDoor.Am
open Go Go.Proofs
set_option linter.unusedSimpArgs false
set_option linter.unusedVariables false
attribute [local congr] T_congr callK_congr callWK_congr
attribute [local simp] run_nil run_op0 run_opg run_seq run_cond run_block run_ret run_skip run_skip_after run_skip_blk run_exit run_exit_after run_exit_blk run_loop run_any runS_nil runS_op0 runS_opg runW_nil runW_op0 runW_opg exec_q exec_w exec_c exec_n execW_q execW_w execW_c restW_app hideH_app merge_app wblk rest_app restS_app execS_q execS_c aval dOk upd_app ev_t ev_c setO_some setO_none put_mk pinsOf isIo hasIo sbin endR fin resL one outL out1 clo1 cloL coe coeL shut shut.shutL wantA weff cellsOf fillA deref natOf ρ0_app h0_app plain plain.plainL keep_app keepH_app andThen_normal andThen_ret andThen_exit pop_nil pop_after pop_after_ret pop_after_exit pop_blk pop_blk_ret pop_blk_exit nilA srcOf srcCells keepR_app keepHR_app renA rb
/- 60: loop.example/g00464/spec.l18Copy -/
def A60 : AC := (.seq (.ops [⟨(some 2), none, .q (.mov (.c .em))⟩])
  (.seq (.ops [⟨(some 5), none, .w (.bsl 2 0 [] [])⟩, ⟨(some 3), none, .q (.mov (.t 5))⟩])
  (.seq (.seq (.ops [⟨(some 4), none, .q (.mov (.c (.sc (.int .i64 0))))⟩])
  (.block 0 (.loop (.seq (.seq (.ops [⟨(some 6), none, .q (.mov (.t 4))⟩, ⟨(some 7), none, .q (.mov (.t 0))⟩, ⟨(some 8), none, .q (.llen (.t 7))⟩, ⟨(some 9), none, .q (.bin .lss (.t 6) (.t 8))⟩])
  (.cond (.t 9) .skip
  (.exit 0)))
  (.seq (.block 1 (.any [(⟨(some 12), none, .q (.mov (.t 3))⟩, []), (⟨(some 13), none, .w (.bsl 1 0 [] [])⟩, []), (⟨(some 14), none, .q (.mov (.t 0))⟩, []), (⟨(some 15), none, .q (.mov (.t 4))⟩, []), (⟨(some 16), none, .q (.iadr 2 (.t 14) (.t 15))⟩, [2, 3]), (⟨(some 17), none, .q (.fadr 0 (.t 16))⟩, [4]), (⟨(some 18), none, .q (.load false 1 (.t 17))⟩, [5]), (⟨(some 19), none, .w (.app 1 1 false (.t 13) (.t 18))⟩, [1, 6]), (⟨(some 20), none, .w (.bsl 1 0 [] [])⟩, []), (⟨(some 21), none, .q (.mov (.t 0))⟩, []), (⟨(some 22), none, .q (.mov (.t 4))⟩, []), (⟨(some 23), none, .q (.iadr 2 (.t 21) (.t 22))⟩, [9, 10]), (⟨(some 24), none, .q (.fadr 1 (.t 23))⟩, [11]), (⟨(some 25), none, .q (.load false 1 (.t 24))⟩, [12]), (⟨(some 26), none, .w (.app 1 1 false (.t 20) (.t 25))⟩, [8, 13, 7]), (⟨(some 27), none, .w (.build [.em, .em] [(0, 1, (.t 19)), (1, 1, (.t 26))])⟩, [7, 14]), (⟨(some 28), none, .w (.bsl 2 1 [.em, .em] [(0, 2, (.t 27))])⟩, [15]), (⟨(some 29), none, .w (.app 2 48 false (.t 12) (.t 28))⟩, [0, 16, 14]), (⟨(some 3), none, .q (.mov (.t 29))⟩, [17, 17, 0, 1, 2, 3, 4, 5, 6, 7, 8, 9, 10, 11, 12, 13, 14, 15, 16, 17])]))
  (.ops [⟨(some 10), none, .q (.mov (.t 4))⟩, ⟨(some 11), none, .q (.bin .add (.t 10) (.c (.sc (.int .i64 1))))⟩, ⟨(some 4), none, .q (.mov (.t 11))⟩]))))))
  (.seq (.ops [⟨(some 30), none, .q (.mov (.t 3))⟩, ⟨(some 2), none, .q (.mov (.t 30))⟩])
  .ret))))
theorem K60 : Tryz.f60.body.bind (comp Tryz.prog) = some A60 ∧ Tryz.f60.ntmps = 31 ∧ Tryz.f60.results.toList.mapM (resB Tryz.prog) = some [.mov (.t 2)] := ⟨by kernel_rfl, by kernel_rfl, by kernel_rfl⟩
theorem R60 (xs : List Slot) (hx : Slot.ty.slice.ok xs) : Ret Tryz.prog 60 [.ro (rows Slot.ty.cs xs) xs.length] (.own (rows Slot.ty.oc xs) xs.length 2) [.un] := by
  have hb : xs.length * 48 ≤ 140737488351232 := hx.1
  have hs : ∀ x ∈ xs, Slot.ty.ok x := hx.2
  refine Ret.run Tryz.func60 K60 (by simp) rfl rfl 500 ?_
  simp [A60, iniρ]
  refine T.rounds (μ := fun i : List Slot × List Slot => i.2.length)
    (fun i s => i.1 ++ i.2 = xs ∧ s.ρ 0 = .ro (rows Slot.ty.cs xs) xs.length ∧ s.ρ 3 = .sl 5 0 i.1.length 2 false ∧ s.ρ 4 = .sc (.int .i64 i.1.length) ∧ s.h 5 = some (some (rows Slot.ty.oc i.1)) ∧ s.h 13 = none ∧ s.h 19 = none ∧ s.h 20 = none ∧ s.h 26 = none ∧ s.h 28 = none ∧ s.h 29 = none ∧ s.n = 31) ([], xs) (by simp [upd_app, rows_nil]) ?_
  rintro ⟨pre, rest⟩ ⟨ρ, hh, n⟩ ⟨hx, h0', h3', h4', h7', f1, f2, f3, f4, f5, f6, rfl⟩
  simp only at hx h0' h3' h4' h7' f1 f2 f3 f4 f5 f6
  refine run_ok (n := 400) ?_
  cases rest with
  | nil =>
    simp at hx
    subst hx
    simp [h0', h3', h4']
    refine T.on 400 ?_
    simp [h3', h7', ex1, Slot.ocl, Slot.frL]
  | cons x rest =>
    have hle : pre.length + (rest.length + 1) = xs.length := by rw [← hx]; simp
    have hlt : (pre.length : Int) < xs.length := by omega
    have hlt2 : pre.length < xs.length := by omega
    have hxs : Slot.ty.ok x := hs x (by rw [← hx]; simp)
    have hkb : x.key.length ≤ 140737488355328 := by have : x.key.length * 1 ≤ 140737488351232 := hxs.1.1; omega
    have hbb : x.b.length ≤ 140737488355328 := by have : x.b.length * 1 ≤ 140737488351232 := hxs.2.1.1; omega
    have hd := rows_drop Slot.ty.csn pre (x :: rest)
    rw [hx, rows_cons] at hd
    have hd : List.drop (pre.length * 2) (rows Slot.ty.cs xs) = AV.ro (rows B x.key) x.key.length :: AV.ro (rows B x.b) x.b.length :: rows Slot.ty.cs rest := hd
    have hd1 : List.drop (pre.length * 2 + 1) (rows Slot.ty.cs xs) = AV.ro (rows B x.b) x.b.length :: rows Slot.ty.cs rest := by rw [← List.drop_drop, hd]; rfl
    have hw : IntKind.i64.wrap ((pre.length : Int) + 1) = pre.length + 1 := wrap_i64 (by omega) (by omega)
    have hb1 : (pre.length + 1) * 48 ≤ 140737488355328 := by omega
    simp [h0', h3', h4', hlt]
    refine T.textW 400 [([], [13, 19, 20, 26, 28]), ([13], [20]), ([], [13, 20]), ([], [13, 20]), ([], [13, 20]), ([], [13, 20]), ([], [13, 20]), ([13, 19], [20]), ([20], [13, 19]), ([], [13, 19, 20]), ([], [13, 19, 20]), ([], [13, 19, 20]), ([], [13, 19, 20]), ([], [13, 19, 20]), ([20, 26], []), ([], []), ([28], []), ([5, 28, 29], []), ([], [])] mixed (by kernel_rfl) (by kernel_rfl) ?_
    simp [h0', h3', h4', h7', f1, f2, f3, f4, f5, f6, hlt, hlt2, hd, hd1, merge_nil, hideH_nil, B.count, Slot.ocl, over, hkb, hbb, hb1]
    refine ⟨pre ++ [x], rest, by simp, ?_⟩
    refine Le.grow [0, 3, 4] 29 5 [19, 26] (rows Slot.ty.oc pre) (Slot.ty.oc x) rfl (by simp [upd_app, Slot.oce, ysOn]) (Slot.ty.ow x) (rows_all (fun x c hc => (Slot.ty.ow x c hc).fr) _) ?_ (by decide) (by decide) (by simp [upd_app, menB, idfree, h0']) ?_
    · intro i e cs len sz hi hc
      rcases Slot.ow2 _ hc with ⟨rfl, rfl, rfl, rfl⟩ | ⟨rfl, rfl, rfl, rfl⟩ <;> (simp at hi; subst hi; simp [upd_app])
    · simp [hx, upd_app, h0', oneH_app, hw, rows_append, rows_cons, rows_nil]
theorem R58 (xs : List Int) (hb : xs.length ≤ 140737488355328) : Ret Tryz.prog 58 [.ro (rows B xs) xs.length] (.own (rows B xs) xs.length 1) [.un] := Ret.clone Ty.byte rfl (bytes := 1) Tryz.func58 ⟨by kernel_rfl, by kernel_rfl, by kernel_rfl⟩ xs (by omega)
/- 53: loop.example/g00464/impl.copyCache -/
def A53 : AC := (.seq (.ops [⟨(some 2), none, .q (.mov (.c .em))⟩])
  (.seq (.ops [⟨(some 3), none, .q (.mov (.c .em))⟩])
  (.seq (.seq (.ops [⟨(some 6), none, .q (.mov (.t 0))⟩, ⟨(some 7), none, .q (.llen (.t 6))⟩, ⟨(some 8), none, .q (.mov (.c (.sc (.int .i64 0))))⟩])
  (.block 0 (.loop (.seq (.ops [⟨(some 9), none, .q (.bin .lss (.t 8) (.t 7))⟩])
  (.seq (.cond (.t 9) .skip
  (.exit 0))
  (.seq (.block 1 (.seq (.ops [⟨(some 10), none, .q (.iadr 2 (.t 6) (.t 8))⟩, ⟨(some 11), none, .q (.load true 2 (.t 10))⟩, ⟨(some 5), none, .w (.alloc [.em, .em])⟩, ⟨none, none, .w (.store 2 (.t 5) (.t 11))⟩])
  (.any [(⟨(some 12), none, .q (.mov (.t 3))⟩, []), (⟨(some 13), none, .q (.fadr 0 (.t 5))⟩, []), (⟨(some 14), none, .q (.load false 1 (.t 13))⟩, [1]), (⟨(some 15), none, .c (.c (.clo 58 [])) [(.t 14)]⟩, [2]), (⟨(some 16), none, .q (.fadr 1 (.t 5))⟩, []), (⟨(some 17), none, .q (.load false 1 (.t 16))⟩, [4]), (⟨(some 18), none, .c (.c (.clo 58 [])) [(.t 17)]⟩, [5, 3]), (⟨(some 19), none, .w (.build [.em, .em] [(0, 1, (.t 15)), (1, 1, (.t 18))])⟩, [3, 6]), (⟨(some 20), none, .w (.bsl 2 1 [.em, .em] [(0, 2, (.t 19))])⟩, [7]), (⟨(some 21), none, .w (.app 2 48 false (.t 12) (.t 20))⟩, [0, 8, 6]), (⟨(some 3), none, .q (.mov (.t 21))⟩, [9, 9, 0, 1, 2, 3, 4, 5, 6, 7, 8, 9])])))
  (.ops [⟨(some 22), none, .q (.bin .add (.t 8) (.c (.sc (.int .i64 1))))⟩, ⟨(some 8), none, .q (.mov (.t 22))⟩])))))))
  (.seq (.ops [⟨(some 23), none, .q (.mov (.t 3))⟩, ⟨(some 2), none, .q (.mov (.t 23))⟩])
  .ret))))
theorem K53 : Tryz.f53.body.bind (comp Tryz.prog) = some A53 ∧ Tryz.f53.ntmps = 24 ∧ Tryz.f53.results.toList.mapM (resB Tryz.prog) = some [.mov (.t 2)] := ⟨by kernel_rfl, by kernel_rfl, by kernel_rfl⟩
theorem R53 (xs : List Slot) (hx : Slot.ty.slice.ok xs) : Ret Tryz.prog 53 [.ro (rows Slot.ty.cs xs) xs.length] (.own (rows Slot.ty.oc xs) xs.length 2) [.un] := by
  have hb : xs.length * 48 ≤ 140737488351232 := hx.1
  have hs : ∀ x ∈ xs, Slot.ty.ok x := hx.2
  refine Ret.run Tryz.func53 K53 (by simp) rfl rfl 500 ?_
  simp [A53, iniρ]
  refine T.le (Le.lay 3 40 2 (by simp [upd_app]) (by simp)) ?_
  refine T.rounds (μ := fun i : List Slot × List Slot => i.2.length)
    (fun i s => i.1 ++ i.2 = xs ∧ s.ρ 3 = .sl 40 0 i.1.length 2 false ∧ s.ρ 6 = .ro (rows Slot.ty.cs xs) xs.length ∧ s.ρ 7 = .sc (.int .i64 xs.length) ∧ s.ρ 8 = .sc (.int .i64 i.1.length) ∧ s.h 40 = some (some (rows Slot.ty.oc i.1)) ∧ s.h 5 = none ∧ s.h 15 = none ∧ s.h 18 = none ∧ s.h 20 = none ∧ s.h 21 = none ∧ s.n = 24) ([], xs) (by simp [upd_app, rows_nil]) ?_
  rintro ⟨pre, rest⟩ ⟨ρ, hh, n⟩ ⟨hx, h3', h6', h7', h8', h40, f1, f2, f3, f4, f5, rfl⟩
  simp only at hx h3' h6' h7' h8' h40 f1 f2 f3 f4 f5
  refine run_ok (n := 400) ?_
  cases rest with
  | nil =>
    simp at hx
    subst hx
    simp [h7', h8']
    refine T.on 400 ?_
    simp [h3', h40, ex1, Slot.ocl, Slot.frL]
  | cons x rest =>
    have hle : pre.length + (rest.length + 1) = xs.length := by rw [← hx]; simp
    have hlt : (pre.length : Int) < xs.length := by omega
    have hlt2 : pre.length < xs.length := by omega
    have hxs : Slot.ty.ok x := hs x (by rw [← hx]; simp)
    have hkb : x.key.length ≤ 140737488355328 := by have : x.key.length * 1 ≤ 140737488351232 := hxs.1.1; omega
    have hbb : x.b.length ≤ 140737488355328 := by have : x.b.length * 1 ≤ 140737488351232 := hxs.2.1.1; omega
    have hd := rows_drop Slot.ty.csn pre (x :: rest)
    rw [hx, rows_cons] at hd
    have hd : List.drop (pre.length * 2) (rows Slot.ty.cs xs) = AV.ro (rows B x.key) x.key.length :: AV.ro (rows B x.b) x.b.length :: rows Slot.ty.cs rest := hd
    have hw : IntKind.i64.wrap ((pre.length : Int) + 1) = pre.length + 1 := wrap_i64 (by omega) (by omega)
    have hb1 : (pre.length + 1) * 48 ≤ 140737488355328 := by omega
    simp [h3', h6', h7', h8', hlt, hlt2, hd, f1, over]
    refine T.textW 400 [([], [15, 18, 20]), ([], []), ([], []), ([15], []), ([], [15]), ([], [15]), ([18], []), ([], []), ([20], []), ([40, 20, 21], []), ([], [])] mixed (by kernel_rfl) (by kernel_rfl) ?_
    simp [h3', h6', h7', h8', merge_nil, hideH_nil]
    refine callWK.ro 15 rfl (by kernel_rfl) (by simp [roc_ro]) (R58 x.key hkb) (B.flo _) (by simp [inst, upd_app, f2]; exact ⟨rfl, rfl⟩) (by rfl) ?_
    simp [merge_nil, hideH_nil]
    refine callWK.ro 18 rfl (by kernel_rfl) (by simp [roc_ro]) (R58 x.b hbb) (B.flo _) (by simp [inst, upd_app, f3]; exact ⟨rfl, rfl⟩) (by rfl) ?_
    simp [h3', h6', h7', h8', h40, f1, f2, f3, f4, f5, merge_nil, hideH_nil, B.count, Slot.ocl, over, hb1]
    refine ⟨pre ++ [x], rest, by simp, ?_⟩
    refine Le.grow [3, 6, 7, 8] 21 40 [15, 18] (rows Slot.ty.oc pre) (Slot.ty.oc x) rfl (by simp [upd_app, Slot.oce, ysOn]) (Slot.ty.ow x) (rows_all (fun x c hc => (Slot.ty.ow x c hc).fr) _) ?_ (by decide) (by decide) (by simp [upd_app, menB, idfree, h6', h7']) ?_
    · intro i e cs len sz hi hc
      rcases Slot.ow2 _ hc with ⟨rfl, rfl, rfl, rfl⟩ | ⟨rfl, rfl, rfl, rfl⟩ <;> (simp at hi; subst hi; simp [upd_app])
    · simp [hx, upd_app, h6', h7', oneH_app, hw, rows_append, rows_cons, rows_nil]
end Go.Proofs.YtaknfalbmblagaaGreatDoor.Am
namespace Go.Proofs.YtaknfalbmblagaaGreatDoor.Am
open Go Go.Proofs
set_option linter.unusedSimpArgs false
set_option linter.unusedVariables false
attribute [local congr] T_congr callK_congr callWK_congr
attribute [local simp] run_nil run_op0 run_opg run_seq run_cond run_block run_ret run_skip run_skip_after run_skip_blk run_exit run_exit_after run_exit_blk run_loop run_any runS_nil runS_op0 runS_opg runW_nil runW_op0 runW_opg exec_q exec_w exec_c exec_n execW_q execW_w execW_c restW_app hideH_app merge_app wblk rest_app restS_app execS_q execS_c aval dOk upd_app ev_t ev_c setO_some setO_none put_mk pinsOf isIo hasIo sbin endR fin resL one outL out1 clo1 cloL coe coeL shut shut.shutL wantA weff cellsOf fillA deref natOf ρ0_app h0_app plain plain.plainL keep_app keepH_app andThen_normal andThen_ret andThen_exit pop_nil pop_after pop_after_ret pop_after_exit pop_blk pop_blk_ret pop_blk_exit nilA srcOf srcCells keepR_app keepHR_app renA rb
def dropOk : List Slot → List Slot
  | [] => []
  | x :: l => if l.length = 0 ∨ cacheOk (x :: l) = true then x :: l else dropOk l
def slotPut (xs : List Slot) (k : List Int) (m : Made) : List Slot :=
  if madeOk m = true ∧ (putM m).length ≤ 3000 then dropOk ((xs.filter fun s => !bEq s.key k) ++ [⟨k, putM m⟩]) else xs
theorem dropOk_sub : ∀ (l : List Slot), ∃ a, a ++ dropOk l = l
  | [] => ⟨[], rfl⟩
  | x :: l => by
    by_cases h : l.length = 0 ∨ cacheOk (x :: l) = true
    · exact ⟨[], by rw [dropOk, if_pos h]; rfl⟩
    · obtain ⟨a, e⟩ := dropOk_sub l
      exact ⟨x :: a, by rw [dropOk, if_neg h, List.cons_append, e]⟩
theorem rows_all2 {α : Type} {f : α → List AV} {q : AV → Prop} (h : ∀ x, ∀ c ∈ f x, q c) (xs : List α) : ∀ c ∈ rows f xs, q c := by
  intro c hc
  simp only [rows, List.mem_flatten, List.mem_map] at hc
  obtain ⟨_, ⟨x, _, rfl⟩, hc⟩ := hc
  exact h x c hc

theorem Slot.frC (xs : List Slot) : idfree.idfreeL (rows Slot.ty.cs xs) = true := shutL_idfree _ (shutL_of (rows_all Slot.ty.sh xs))
/- 56: loop.example/g00464/impl.CachePut$1 -/
def A56 : AC := (.seq (.ops [⟨(some 2), none, .w (.box (.t 0))⟩, ⟨(some 3), none, .q (.mov (.c (.sc (.bool false))))⟩])
  (.seq (.ops [⟨(some 4), none, .q (.fadr 0 (.t 2))⟩, ⟨(some 5), none, .q (.load false 1 (.t 4))⟩, ⟨(some 6), none, .q (.load false 1 (.t 1))⟩, ⟨(some 7), none, .c (.c (.clo 57 [])) [(.t 5), (.t 6)]⟩, ⟨(some 3), none, .q (.mov (.t 7))⟩])
  .ret))
theorem K56 : Tryz.f56.body.bind (comp Tryz.prog) = some A56 ∧ Tryz.f56.ntmps = 8 ∧ Tryz.f56.results.toList.mapM (resB Tryz.prog) = some [.mov (.t 3)] := ⟨by kernel_rfl, by kernel_rfl, by kernel_rfl⟩
theorem R56 (s : Slot) (k : List Int) : Ret Tryz.prog 56 [.agg (Slot.ty.cs s), .rp [.ro (rows B k) k.length] 0] (.sc (.bool (bEq s.key k))) [.un, .un] := by
  refine Ret.run Tryz.func56 K56 (by simp) rfl rfl 500 ?_
  simp [A56, iniρ, Slot.cseB]
  refine callK.ro 7 rfl (by kernel_rfl) (by simp [roc_ro, roc_sc, roc_agg, upd_app]; rfl) (R57 s.key k) rfl rfl rfl ?_
  simp
theorem R55 (g : FuncId) (caps : List AV) (f : Slot → Bool) (hg : callB Tryz.prog g = true) (hsh : shut.shutL caps = true) (xs : List Slot) (hR : ∀ x ∈ xs, Ret Tryz.prog g (.agg (Slot.ty.cs x) :: caps) (.sc (.bool (f x))) (.un :: caps.map fun _ => .un)) (hb : xs.length < 4611686018427387904) :
    Ret Tryz.prog 55 [.own (rows Slot.ty.oc xs) xs.length 2, .clo g caps] (.own (rows Slot.ty.oc (xs.filter fun x => !f x)) (xs.filter fun x => !f x).length 2) [.un, .un] :=
  Ret.deleteFuncO Slot.ty (by decide) (ix := 78) Tryz.func55 ⟨by kernel_rfl, by kernel_rfl, by kernel_rfl⟩ g caps f hg (by kernel_rfl) hsh xs hR (R78 g caps f hg hsh xs hR hb) hb
theorem R59 (xs : List Slot) : Ret Tryz.prog 59 [.own (rows Slot.ty.oc xs) xs.length 2] (.own (rows Slot.ty.oc xs) xs.length 2) [.un] := Ret.clip Slot.ty Tryz.func59 ⟨by kernel_rfl, by kernel_rfl, by kernel_rfl⟩ xs
/- 20: loop.example/g00464/impl.CachePut -/
def A20 : AC := (.seq (.ops [⟨(some 4), none, .w (.box (.t 1))⟩, ⟨(some 5), none, .w (.box (.t 2))⟩, ⟨(some 6), none, .q (.mov (.c .em))⟩])
  (.seq (.ops [⟨(some 9), none, .q (.mov (.t 0))⟩, ⟨(some 10), none, .c (.c (.clo 53 [])) [(.t 9)]⟩, ⟨(some 7), none, .q (.mov (.t 10))⟩])
  (.seq (.ops [⟨(some 11), none, .q (.load true 3 (.t 5))⟩, ⟨(some 12), none, .c (.c (.clo 54 [])) [(.t 11)]⟩, ⟨(some 8), none, .q (.mov (.t 12))⟩])
  (.seq (.seq (.ops [⟨(some 13), none, .q (.load true 3 (.t 5))⟩, ⟨(some 14), none, .c (.c (.clo 16 [])) [(.t 13)]⟩, ⟨(some 15), none, .q (.not (.t 14))⟩, ⟨(some 16), none, .q (.mov (.t 15))⟩, ⟨(some 17), (some (16, false)), .q (.mov (.t 8))⟩, ⟨(some 18), (some (16, false)), .q (.llen (.t 17))⟩, ⟨(some 19), (some (16, false)), .q (.bin .gtr (.t 18) (.c (.sc (.int .i64 3000))))⟩, ⟨(some 20), none, .q (.pick (.t 16) (.c (.sc (.bool true))) (.t 19))⟩])
  (.cond (.t 20) (.seq (.ops [⟨(some 21), none, .q (.mov (.t 7))⟩, ⟨(some 6), none, .q (.mov (.t 21))⟩])
  .ret)
  .skip))
  (.seq (.ops [⟨(some 22), none, .q (.mov (.t 7))⟩, ⟨(some 23), none, .q (.mkf 56 [(.t 4)])⟩, ⟨(some 24), none, .c (.c (.clo 55 [])) [(.t 22), (.t 23)]⟩, ⟨(some 7), none, .q (.mov (.t 24))⟩])
  (.seq (.ops [⟨(some 25), none, .q (.mov (.t 7))⟩, ⟨(some 26), none, .q (.load false 1 (.t 4))⟩, ⟨(some 27), none, .c (.c (.clo 58 [])) [(.t 26)]⟩, ⟨(some 28), none, .q (.mov (.t 8))⟩, ⟨(some 29), none, .w (.build [.em, .em] [(0, 1, (.t 27)), (1, 1, (.t 28))])⟩, ⟨(some 30), none, .w (.bsl 2 1 [.em, .em] [(0, 2, (.t 29))])⟩, ⟨(some 31), none, .w (.app 2 48 false (.t 25) (.t 30))⟩, ⟨(some 7), none, .q (.mov (.t 31))⟩])
  (.seq (.block 0 (.loop (.seq (.seq (.ops [⟨(some 32), none, .q (.mov (.t 7))⟩, ⟨(some 33), none, .q (.llen (.t 32))⟩, ⟨(some 34), none, .q (.bin .gtr (.t 33) (.c (.sc (.int .i64 1))))⟩, ⟨(some 35), none, .q (.mov (.t 34))⟩, ⟨(some 36), (some (35, true)), .q (.mov (.t 7))⟩, ⟨(some 37), (some (35, true)), .c (.c (.clo 13 [])) [(.t 36)]⟩, ⟨(some 38), (some (35, true)), .q (.not (.t 37))⟩, ⟨(some 39), none, .q (.pick (.t 35) (.t 38) (.c (.sc (.bool false))))⟩])
  (.cond (.t 39) .skip
  (.exit 0)))
  (.block 1 (.ops [⟨(some 40), none, .q (.mov (.t 7))⟩, ⟨(some 41), none, .q (.subl 2 (.t 40) (some (.c (.sc (.int .i64 1)))) none)⟩, ⟨(some 7), none, .q (.mov (.t 41))⟩])))))
  (.seq (.ops [⟨(some 42), none, .q (.mov (.t 7))⟩, ⟨(some 43), none, .c (.c (.clo 59 [])) [(.t 42)]⟩, ⟨(some 6), none, .q (.mov (.t 43))⟩])
  .ret))))))))
theorem K20 : Tryz.f20.body.bind (comp Tryz.prog) = some A20 ∧ Tryz.f20.ntmps = 44 ∧ Tryz.f20.results.toList.mapM (resB Tryz.prog) = some [.mov (.t 6)] := ⟨by kernel_rfl, by kernel_rfl, by kernel_rfl⟩
set_option maxHeartbeats 4000000 in
theorem R20 (xs : List Slot) (k : List Int) (m : Made) (hx : Slot.ty.slice.ok xs) (hk : k.length ≤ 140737488355328) (h1 : m.task.size ≤ 1048576) (hn : m.outs.length < 4611686018427387904) (hp : ∀ x ∈ m.outs, x.path.size ≤ 1048576) (hm : mw m ≤ 140737488350000) :
    Ret Tryz.prog 20 [.ro (rows Slot.ty.cs xs) xs.length, .ro (rows B k) k.length, .agg (Made.ty.cs m)] (.own (rows Slot.ty.oc (slotPut xs k m)) (slotPut xs k m).length 2) [.un, .un, .un] := by
  have hb : xs.length * 48 ≤ 140737488351232 := hx.1
  have hb2 : xs.length < 4611686018427387904 := by omega
  have r1 := R53 xs hx
  have r2 := R54 m hn hm
  have r3 := R16 m h1 hn hp
  obtain ⟨pb, hpb⟩ : ∃ pb, pb = putM m := ⟨_, rfl⟩
  rw [← hpb] at r2
  obtain ⟨mo, hmo⟩ : ∃ mo, mo = madeOk m := ⟨_, rfl⟩
  rw [← hmo] at r3
  have hS : slotPut xs k m = if mo = true ∧ pb.length ≤ 3000 then dropOk ((xs.filter fun s => !bEq s.key k) ++ [⟨k, pb⟩]) else xs := by rw [slotPut, hmo, hpb]
  rw [hS]
  refine Ret.run Tryz.func20 K20 (by simp) rfl rfl 500 ?_
  simp [A20, iniρ, Made.cse]
  refine callK.ro 10 rfl (by kernel_rfl) (by simp [roc_ro]) r1 (Slot.ty.flo xs) (by simp [inst, upd_app]; exact ⟨rfl, rfl⟩) rfl ?_
  simp
  refine callK.ro 12 rfl (by kernel_rfl) (by simp [roc_ro, roc_sc, roc_agg, upd_app]; rfl) r2 (B_fl _) (by simp [inst, upd_app]; exact ⟨rfl, rfl⟩) rfl ?_
  simp
  refine callK.ro 14 rfl (by kernel_rfl) (by simp [roc_ro, roc_sc, roc_agg, upd_app]; rfl) r3 rfl rfl rfl ?_
  cases hc : mo
  case false =>
    simp [ex1, Slot.ocl, Slot.frL]
  by_cases hl : pb.length ≤ 3000
  case neg =>
    have hl' : (3000 : Int) < pb.length := by omega
    simp [hl, hl', ex1, Slot.ocl, Slot.frL]
  have hl' : ¬ (3000 : Int) < pb.length := by omega
  have rd := R55 56 [.rp [.ro (rows B k) k.length] 0] (fun s => bEq s.key k) (by kernel_rfl) rfl xs (fun x _ => R56 x k) hb2
  obtain ⟨ys, hys⟩ : ∃ ys, ys = xs.filter fun s => !bEq s.key k := ⟨_, rfl⟩
  have hyl : ys.length ≤ xs.length := by rw [hys]; exact List.length_filter_le _ _
  rw [← hys] at rd
  simp [hl, hl', ← hys]
  refine callK.mv1 24 10 rfl (by kernel_rfl) (by simp [upd_app]) (by simp [upd_app]) (Slot.ocl xs) (Slot.frL xs) (vs := [.clo 56 [.rp [.ro (rows B k) k.length] 0]]) (by simp [roc, upd_app]) rd (Slot.ty.flo _) (by simp [inst, upd_app]; exact ⟨rfl, rfl⟩) rfl ?_
  have hb1 : (ys.length + 1) * 48 ≤ 140737488355328 := by omega
  simp
  refine callK.ro 27 rfl (by kernel_rfl) (by simp [roc_ro, upd_app]) (R58 k hk) (B.flo _) (by simp [inst, upd_app]; exact ⟨rfl, rfl⟩) (by rfl) ?_
  simp [B.count, Slot.ocl, over, hb1]
  have hall : rows Slot.ty.oc (ys ++ [⟨k, pb⟩]) = rows Slot.ty.oc ys ++ Slot.ty.oc ⟨k, pb⟩ := by rw [rows_append, rows_cons, rows_nil, List.append_nil]
  obtain ⟨zs, hzs⟩ : ∃ zs, zs = ys ++ [(⟨k, pb⟩ : Slot)] := ⟨_, rfl⟩
  have hzn : zs.length ≤ xs.length + 1 := by rw [hzs]; simp; omega
  rw [← hzs]
  refine T.roundsL (μ := fun i : List Slot × List Slot => i.2.length)
    (fun i s => i.1 ++ i.2 = zs ∧ 0 < i.2.length ∧ dropOk i.2 = dropOk zs ∧ s.ρ 7 = .sl 31 (i.1.length * 2) i.2.length 2 false ∧ s.h = oneH 31 (rows Slot.ty.oc zs) ∧ s.n = 44) ([], zs) ?_ ?_
  · refine Le.grow [7] 31 31 [27, 12] (rows Slot.ty.oc ys) (Slot.ty.oc ⟨k, pb⟩) rfl (by simp [upd_app, Slot.oce, ysOn]) (Slot.ty.ow _) (rows_all (fun x c hc => (Slot.ty.ow x c hc).fr) _) ?_ (by decide) (by decide) (by simp [upd_app, menB]) ?_
    · intro i e cs len sz hi hc
      rcases Slot.ow2 _ hc with ⟨rfl, rfl, rfl, rfl⟩ | ⟨rfl, rfl, rfl, rfl⟩ <;> (simp at hi; subst hi; simp [upd_app])
    · refine ⟨by simp, by simp [hzs], rfl, ?_, ?_, rfl⟩
      · simp [upd_app, keepR_app, renA, rb, hzs]
      · rw [hzs, hall]
  rintro ⟨pre, rest⟩ ⟨ρ, hh, n⟩ ⟨hx2, hpos, hD, h7', rfl, rfl⟩
  simp only at hx2 hpos hD h7'
  refine run_ok (n := 400) ?_
  cases rest with
  | nil => simp at hpos
  | cons x rest =>
    have hle : pre.length + (rest.length + 1) = zs.length := by rw [← hx2]; simp
    have hroc : roc (oneH 31 (rows Slot.ty.oc zs)) 8 (.sl 31 (pre.length * 2) (rest.length + 1) 2 false) = some (.ro (rows Slot.ty.cs (x :: rest)) (x :: rest).length) := Ty.rocO Slot.ty (xs := x :: rest) (by decide) (pre := rows Slot.ty.oc pre) (by rw [← hx2, rows_append]; simp [oneH_app]) (Slot.ocl pre)
    have hdr : (rows Slot.ty.oc zs).drop (pre.length * 2) = rows Slot.ty.oc (x :: rest) := by rw [← hx2]; exact rows_drop Slot.ty.ocn pre (x :: rest)
    have hof : pre.length * 2 ≤ (rows Slot.ty.oc zs).length := by rw [Slot.ocl]; omega
    have hfr : ∀ c ∈ rows Slot.ty.oc zs, idfree c = true := rows_all (fun x c hc => (Slot.ty.ow x c hc).fr) _
    have rok := R13 (x :: rest) (by simp only [List.length_cons]; omega)
    have rcl := R59 (x :: rest)
    simp only [List.length_cons] at h7' rok hroc rcl
    by_cases hz : rest.length = 0
    · have hz0 : ¬ (1 : Int) < rest.length + 1 := by omega
      have e : dropOk zs = x :: rest := by rw [← hD, dropOk, if_pos (.inl hz)]
      rw [e]
      simp [h7', hz0]
      refine T.le (Le.front (off := pre.length * 2) (len := rest.length + 1) (sz := 2) (lim := false) [] 7 31 (by simp [upd_app, h7']) (by simp [oneH_app]) hof (by simp) hfr) ?_
      rw [hdr]
      refine T.on 400 ?_
      simp [upd_app]
      refine callK.mv1 43 31 rfl (by kernel_rfl) (by simp [upd_app]) (by simp [oneH_app]) (Slot.ocl (x :: rest)) (Slot.frL _) (vs := []) (by simp) rcl (Slot.ty.flo (x :: rest)) (by simp [inst, upd_app, oneH_app]; exact ⟨rfl, rfl⟩) rfl ?_
      simp [ex1, Slot.ocl, Slot.frL]
    · have hz0 : (1 : Int) < rest.length + 1 := by omega
      simp [h7', hz0]
      refine callK.ro 37 rfl (by kernel_rfl) (by simp [hroc]) rok rfl rfl rfl ?_
      cases hco : cacheOk (x :: rest) with
      | true =>
        have e : dropOk zs = x :: rest := by rw [← hD, dropOk, if_pos (.inr hco)]
        rw [e]
        simp [h7']
        refine T.le (Le.front (off := pre.length * 2) (len := rest.length + 1) (sz := 2) (lim := false) [] 7 31 (by simp [upd_app, h7']) (by simp [oneH_app]) hof (by simp) hfr) ?_
        rw [hdr]
        refine T.on 400 ?_
        simp [upd_app]
        refine callK.mv1 43 31 rfl (by kernel_rfl) (by simp [upd_app]) (by simp [oneH_app]) (Slot.ocl (x :: rest)) (Slot.frL _) (vs := []) (by simp) rcl (Slot.ty.flo (x :: rest)) (by simp [inst, upd_app, oneH_app]; exact ⟨rfl, rfl⟩) rfl ?_
        simp [ex1, Slot.ocl, Slot.frL]
      | false =>
        have hno : ¬ (rest.length = 0 ∨ cacheOk (x :: rest) = true) := by rw [hco]; simp [hz]
        have hD2 : dropOk rest = dropOk zs := by rw [← hD, dropOk, if_neg hno]
        simp [h7']
        refine ⟨pre ++ [x], rest, by simp, _, Le.refl _, ?_⟩
        simp [hx2, hD2, upd_app]
        omega
/- 22: loop.example/g00464/spec.CachePut -/
def A22 : AC := (.seq (.ops [⟨(some 5), none, .w (.box (.t 2))⟩, ⟨(some 6), none, .q (.mov (.c .em))⟩])
  (.seq (.ops [⟨(some 11), none, .q (.mov (.t 0))⟩, ⟨(some 12), none, .c (.c (.clo 60 [])) [(.t 11)]⟩, ⟨(some 7), none, .q (.mov (.t 12))⟩])
  (.seq (.ops [⟨(some 13), none, .q (.load true 3 (.t 5))⟩, ⟨(some 14), none, .c (.c (.clo 61 [])) [(.t 13)]⟩, ⟨(some 8), none, .q (.mov (.t 14))⟩])
  (.seq (.seq (.ops [⟨(some 15), none, .q (.load true 3 (.t 5))⟩, ⟨(some 16), none, .c (.c (.clo 48 [])) [(.t 15)]⟩, ⟨(some 17), none, .q (.not (.t 16))⟩, ⟨(some 18), none, .q (.mov (.t 17))⟩, ⟨(some 19), (some (18, false)), .q (.mov (.t 8))⟩, ⟨(some 20), (some (18, false)), .q (.llen (.t 19))⟩, ⟨(some 21), (some (18, false)), .q (.bin .gtr (.t 20) (.c (.sc (.int .i64 3000))))⟩, ⟨(some 22), none, .q (.pick (.t 18) (.c (.sc (.bool true))) (.t 21))⟩])
  (.cond (.t 22) (.seq (.ops [⟨(some 23), none, .q (.mov (.t 7))⟩, ⟨(some 6), none, .q (.mov (.t 23))⟩])
  .ret)
  .skip))
  (.seq (.ops [⟨(some 24), none, .w (.bsl 2 0 [] [])⟩, ⟨(some 9), none, .q (.mov (.t 24))⟩])
  (.seq (.seq (.ops [⟨(some 10), none, .q (.mov (.c (.sc (.int .i64 0))))⟩])
  (.block 0 (.loop (.seq (.seq (.ops [⟨(some 25), none, .q (.mov (.t 10))⟩, ⟨(some 26), none, .q (.mov (.t 7))⟩, ⟨(some 27), none, .q (.llen (.t 26))⟩, ⟨(some 28), none, .q (.bin .lss (.t 25) (.t 27))⟩])
  (.cond (.t 28) .skip
  (.exit 0)))
  (.seq (.block 1 (.seq (.any [(⟨(some 31), none, .q (.mov (.t 7))⟩, []), (⟨(some 32), none, .q (.mov (.t 10))⟩, []), (⟨(some 33), none, .q (.iadr 2 (.t 31) (.t 32))⟩, [0, 1]), (⟨(some 34), none, .q (.fadr 0 (.t 33))⟩, [2]), (⟨(some 35), none, .q (.load false 1 (.t 34))⟩, [3]), (⟨(some 36), none, .q (.bstr (.t 35))⟩, [4]), (⟨(some 37), none, .q (.mov (.t 1))⟩, []), (⟨(some 38), none, .q (.bstr (.t 37))⟩, [6]), (⟨(some 39), none, .q (.bin .neq (.t 36) (.t 38))⟩, [5, 7])])
  (.cond (.t 39) (.ops [⟨(some 40), none, .q (.mov (.t 9))⟩, ⟨(some 41), none, .q (.mov (.t 7))⟩, ⟨(some 42), none, .q (.mov (.t 10))⟩, ⟨(some 43), none, .q (.iadr 2 (.t 41) (.t 42))⟩, ⟨(some 44), none, .q (.load true 2 (.t 43))⟩, ⟨(some 45), none, .w (.bsl 2 1 [.em, .em] [(0, 2, (.t 44))])⟩, ⟨(some 46), none, .w (.app 2 48 false (.t 40) (.t 45))⟩, ⟨(some 9), none, .q (.mov (.t 46))⟩])
  .skip)))
  (.ops [⟨(some 29), none, .q (.mov (.t 10))⟩, ⟨(some 30), none, .q (.bin .add (.t 29) (.c (.sc (.int .i64 1))))⟩, ⟨(some 10), none, .q (.mov (.t 30))⟩]))))))
  (.seq (.ops [⟨(some 47), none, .q (.mov (.t 9))⟩, ⟨(some 48), none, .w (.bsl 1 0 [] [])⟩, ⟨(some 49), none, .q (.mov (.t 1))⟩, ⟨(some 50), none, .w (.app 1 1 false (.t 48) (.t 49))⟩, ⟨(some 51), none, .q (.mov (.t 8))⟩, ⟨(some 52), none, .w (.build [.em, .em] [(0, 1, (.t 50)), (1, 1, (.t 51))])⟩, ⟨(some 53), none, .w (.bsl 2 1 [.em, .em] [(0, 2, (.t 52))])⟩, ⟨(some 54), none, .w (.app 2 48 false (.t 47) (.t 53))⟩, ⟨(some 9), none, .q (.mov (.t 54))⟩])
  (.seq (.block 2 (.loop (.seq (.seq (.ops [⟨(some 55), none, .q (.mov (.t 9))⟩, ⟨(some 56), none, .q (.llen (.t 55))⟩, ⟨(some 57), none, .q (.bin .gtr (.t 56) (.c (.sc (.int .i64 1))))⟩, ⟨(some 58), none, .q (.mov (.t 57))⟩, ⟨(some 59), (some (58, true)), .q (.mov (.t 9))⟩, ⟨(some 60), (some (58, true)), .c (.c (.clo 14 [])) [(.t 59)]⟩, ⟨(some 61), (some (58, true)), .q (.not (.t 60))⟩, ⟨(some 62), none, .q (.pick (.t 58) (.t 61) (.c (.sc (.bool false))))⟩])
  (.cond (.t 62) .skip
  (.exit 2)))
  (.block 3 (.ops [⟨(some 63), none, .w (.bsl 2 0 [] [])⟩, ⟨(some 64), none, .q (.mov (.t 9))⟩, ⟨(some 65), none, .q (.subl 2 (.t 64) (some (.c (.sc (.int .i64 1)))) none)⟩, ⟨(some 66), none, .w (.app 2 48 false (.t 63) (.t 65))⟩, ⟨(some 9), none, .q (.mov (.t 66))⟩])))))
  (.seq (.ops [⟨(some 67), none, .q (.mov (.t 9))⟩, ⟨(some 6), none, .q (.mov (.t 67))⟩])
  .ret)))))))))
theorem K22 : Tryz.f22.body.bind (comp Tryz.prog) = some A22 ∧ Tryz.f22.ntmps = 68 ∧ Tryz.f22.results.toList.mapM (resB Tryz.prog) = some [.mov (.t 6)] := ⟨by kernel_rfl, by kernel_rfl, by kernel_rfl⟩
set_option maxHeartbeats 4000000 in
theorem R22 (xs : List Slot) (k : List Int) (m : Made) (hx : Slot.ty.slice.ok xs) (hk : k.length ≤ 140737488355328) (h1 : m.task.size ≤ 1048576) (hn : m.outs.length < 4611686018427387904) (hp : ∀ x ∈ m.outs, x.path.size ≤ 1048576) (hm : mw m ≤ 140737488350000) :
    Ret Tryz.prog 22 [.ro (rows Slot.ty.cs xs) xs.length, .ro (rows B k) k.length, .agg (Made.ty.cs m)] (.own (rows Slot.ty.oc (slotPut xs k m)) (slotPut xs k m).length 2) [.un, .un, .un] := by
  have hb : xs.length * 48 ≤ 140737488351232 := hx.1
  have hb2 : xs.length < 4611686018427387904 := by omega
  have r1 := R60 xs hx
  have r2 := R61 m hn hm
  have r3 := R48 m h1 hn hp
  obtain ⟨pb, hpb⟩ : ∃ pb, pb = putM m := ⟨_, rfl⟩
  rw [← hpb] at r2
  obtain ⟨mo, hmo⟩ : ∃ mo, mo = madeOk m := ⟨_, rfl⟩
  rw [← hmo] at r3
  have hS : slotPut xs k m = if mo = true ∧ pb.length ≤ 3000 then dropOk ((xs.filter fun s => !bEq s.key k) ++ [⟨k, pb⟩]) else xs := by rw [slotPut, hmo, hpb]
  rw [hS]
  refine Ret.runT Tryz.func22 K22 (by simp) rfl rfl ?_
  refine run_ok (n := 500) ?_
  simp [A22, iniρ, Made.cse, leR_app]
  refine callK.ro 12 rfl (by kernel_rfl) (by simp [roc_ro]) r1 (Slot.ty.flo xs) (by simp [inst, upd_app]; exact ⟨rfl, rfl⟩) rfl ?_
  simp
  refine callK.ro 14 rfl (by kernel_rfl) (by simp [roc_ro, roc_sc, roc_agg, upd_app]; rfl) r2 (B_fl _) (by simp [inst, upd_app]; exact ⟨rfl, rfl⟩) rfl ?_
  simp
  refine callK.ro 16 rfl (by kernel_rfl) (by simp [roc_ro, roc_sc, roc_agg, upd_app]; rfl) r3 rfl rfl rfl ?_
  cases hc : mo
  case false =>
    simp
    refine ⟨_, Le.refl _, ?_⟩
    simp [ex1, Slot.ocl, Slot.frL]
  by_cases hl : pb.length ≤ 3000
  case neg =>
    have hl' : (3000 : Int) < pb.length := by omega
    simp [hl, hl']
    refine ⟨_, Le.refl _, ?_⟩
    simp [ex1, Slot.ocl, Slot.frL]
  have hl' : ¬ (3000 : Int) < pb.length := by omega
  obtain ⟨zs, hzs⟩ : ∃ zs, zs = (xs.filter fun s => !bEq s.key k) ++ [(⟨k, pb⟩ : Slot)] := ⟨_, rfl⟩
  rw [if_pos ⟨rfl, hl⟩, ← hzs]
  simp [hl']
  refine T.rounds (μ := fun i : List Slot × List Slot × List Slot => i.2.1.length)
    (fun i s => i.1 ++ i.2.1 = xs ∧ i.2.2 ++ i.2.1.filter (fun s => !bEq s.key k) = xs.filter (fun s => !bEq s.key k) ∧ i.2.2.length ≤ i.1.length ∧ s.ρ 1 = .ro (rows B k) k.length ∧ s.ρ 7 = .sl 12 0 xs.length 2 false ∧ s.ρ 8 = .sl 14 0 pb.length 1 false ∧ s.ρ 9 = .sl 24 0 i.2.2.length 2 false ∧ s.ρ 10 = .sc (.int .i64 i.1.length) ∧ s.h 12 = some (some (List.replicate (i.1.length * 2) .un ++ rows Slot.ty.oc i.2.1)) ∧ s.h 14 = some (some (rows B pb)) ∧ s.h 24 = some (some (rows Slot.ty.oc i.2.2)) ∧
      s.h 45 = none ∧ s.h 46 = none ∧ s.h 48 = none ∧ s.h 50 = none ∧ s.h 52 = none ∧ s.h 53 = none ∧ s.h 54 = none ∧ s.h 31000 = none ∧ s.h 31001 = none ∧ s.n = 68) ([], xs, []) (by simp [upd_app, rows_nil]) ?_
  rintro ⟨pre, rest, out⟩ ⟨ρ, hh, n⟩ ⟨hx2, hF, hol, k1, k7, k8, k9, k10, b12, b14, b24, f45, f46, f48, f50, f52, f53, f54, f310, f311, rfl⟩
  simp only at hx2 hF hol k1 k7 k8 k9 k10 b12 b14 b24 f45 f46 f48 f50 f52 f53 f54 f310 f311
  have hon : out.length ≤ xs.length := by
    have := congrArg List.length hx2
    simp at this; omega
  cases rest with
  | nil =>
    refine run_ok (n := 400) ?_
    simp at hx2
    subst hx2
    rw [List.filter_nil, List.append_nil] at hF
    rw [← hF] at hzs
    have hb1 : (out.length + 1) * 48 ≤ 140737488355328 := by omega
    simp [k7, k10]
    refine T.on 400 ?_
    simp [k1, k8, k9, b14, b24, f45, f46, f48, f50, f52, f53, f54, B.count, Slot.ocl, over, hb1, hk]
    have hzn : zs.length ≤ pre.length + 1 := by rw [hzs]; simp; omega
    refine T.roundsL (μ := fun i : List Slot => i.length)
      (fun i s => 0 < i.length ∧ i.length ≤ zs.length ∧ dropOk i = dropOk zs ∧ s.ρ 9 = .sl 24 0 i.length 2 false ∧ s.h = oneH 24 (rows Slot.ty.oc i) ∧ s.n = 68) zs ?_ ?_
    · refine Le.grow [9] 54 24 [50, 14] (rows Slot.ty.oc out) (Slot.ty.oc ⟨k, pb⟩) rfl (by simp [upd_app, Slot.oce, ysOn]) (Slot.ty.ow _) (idfreeL_mem (Slot.frL out)) ?_ (by decide) (by decide) (by simp [upd_app, menB]) ?_
      · intro i e cs len sz hi hc
        rcases Slot.ow2 _ hc with ⟨rfl, rfl, rfl, rfl⟩ | ⟨rfl, rfl, rfl, rfl⟩ <;> (simp at hi; subst hi; simp [upd_app, b14])
      · refine ⟨?_, Nat.le_refl _, rfl, ?_, ?_, rfl⟩
        · simp [hzs]
        · simp [upd_app, keepR_app, renA, rb, hzs]
        · rw [hzs, rows_append, rows_cons, rows_nil, List.append_nil]
    rintro rest ⟨ρ, hh, n⟩ ⟨hpos, hrz, hD, h9', rfl, rfl⟩
    simp only at h9'
    cases rest with
    | nil => simp at hpos
    | cons x rest =>
      have hroc : roc (oneH 24 (rows Slot.ty.oc (x :: rest))) 8 (.sl 24 0 (rest.length + 1) 2 false) = some (.ro (rows Slot.ty.cs (x :: rest)) (rest.length + 1)) := Slot.roc8 (xs := x :: rest) (by simp [oneH_app])
      have hl2 : (rows Slot.ty.oc (x :: rest)).length = (rest.length + 1) * 2 := Slot.ocl (x :: rest)
      have hb2 : rest.length * 48 ≤ 140737488355328 := by simp only [List.length_cons] at hrz; omega
      have rok := R14 (x :: rest) (by simp only [List.length_cons] at hrz ⊢; omega)
      simp only [List.length_cons] at h9' rok
      by_cases hz : rest.length = 0
      · have hz0 : ¬ (1 : Int) < rest.length + 1 := by omega
        have e : dropOk zs = x :: rest := by rw [← hD, dropOk, if_pos (.inl hz)]
        rw [e]
        refine run_ok (n := 400) ?_
        simp [h9', hz0]
        refine T.on 400 ?_
        simp [h9', leR_app]
        refine ⟨_, Le.refl _, ?_⟩
        simp [ex1, oneH_app, hl2, Slot.frL]
      · have hz0 : (1 : Int) < rest.length + 1 := by omega
        cases hco : cacheOk (x :: rest) with
        | true =>
          have e : dropOk zs = x :: rest := by rw [← hD, dropOk, if_pos (.inr hco)]
          rw [e]
          refine run_ok (n := 400) ?_
          simp [h9', hz0]
          refine callK.ro 60 rfl (by kernel_rfl) (by simp [hroc]) rok rfl rfl rfl ?_
          simp [h9', hco]
          refine T.on 400 ?_
          simp [h9', leR_app]
          refine ⟨_, Le.refl _, ?_⟩
          simp [ex1, oneH_app, hl2, Slot.frL]
        | false =>
          have hno : ¬ (rest.length = 0 ∨ cacheOk (x :: rest) = true) := by rw [hco]; simp [hz]
          have hD2 : dropOk rest = dropOk zs := by rw [← hD, dropOk, if_neg hno]
          obtain ⟨h', l1, l2, l3, l4, l5⟩ := Le.openAll 24 [] (rows Slot.ty.oc rest) 200000 (Slot.ty.oc x) (oneH 24 (rows Slot.ty.oc (x :: rest))) (by rw [oneH_app, if_pos rfl, rows_cons, List.append_nil]) (rows_all2 Slot.ty.ow rest) (fun i _ => by rw [oneH_app, if_neg (by omega)]) (by omega)
          rw [nm_rows, List.append_nil] at l2
          obtain ⟨ps, hps⟩ : ∃ ps, ps = numb Slot.ty.n 200000 rest := ⟨_, rfl⟩
          rw [← hps] at l2
          have hNB : ∀ p ∈ ps, NB Slot.ty h' p := by rw [hps]; exact NB.of Slot.ty rest 200000 l3
          have hpx : ps.map (·.2) = rest := by rw [hps]; exact numb_map _ _ _
          have hplen : ps.length = rest.length := by rw [← hpx, List.length_map]
          have hf : ∀ b, b ≠ 24 → b < 200000 → h' b = none := fun b h1 h2 => by rw [l4 b h1 (by omega), oneH_app, if_neg h1]
          have f63 := hf 63 (by decide) (by decide)
          have f66 := hf 66 (by decide) (by decide)
          have hroc2 : roc h' 8 (.sl 24 0 (rest.length + 1) 2 false) = some (.ro (rows Slot.ty.cs (x :: rest)) (rest.length + 1)) := by
            refine roc_slM l2 ?_ ?_
            · rw [List.length_append, Slot.ty.ocn, rows_length (nm_len Slot.ty), hplen]
              show 2 + rest.length * 2 = _
              omega
            · rw [List.mapM_append, Slot.ty.rc h' 7 x (by decide), nm_rocs Slot.ty (by decide) ps hNB, hpx]
              rfl
          have hd2 : (Slot.ty.oc x ++ rows (nm Slot.ty) ps).drop 2 = rows (nm Slot.ty) ps := rfl
          have hnl : (rows (nm Slot.ty) ps).length = rest.length * 2 := by rw [rows_length (nm_len Slot.ty), hplen]; rfl
          have htk : (rows (nm Slot.ty) ps).take (rest.length * 2) = rows (nm Slot.ty) ps := by rw [← hnl, List.take_length]
          have hplc : plain.plainL (rows (nm Slot.ty) ps) = true := nm_plains Slot.ty ps
          have hxl2 : (Slot.ty.oc x).length = 2 := rfl
          have hin : 2 + rest.length * 2 ≤ (Slot.ty.oc x ++ rows (nm Slot.ty) ps).length := by rw [List.length_append, hnl, Slot.ty.ocn]; exact Nat.le_refl _
          have hidn : (ids Slot.ty.n ps).Nodup ∧ ∀ b ∈ ids Slot.ty.n ps, 200000 ≤ b := by
            rw [hps, ids_numb]
            exact ⟨List.nodup_range', fun b hb => by rw [List.mem_range'_1] at hb; omega⟩
          refine T.le (l1 _ _) ?_
          refine run_ok (n := 400) ?_
          simp [h9', hz0]
          refine callK.ro 60 rfl (by kernel_rfl) (by simp [hroc2]) rok rfl rfl rfl ?_
          simp [h9', hco, l2, f63, f66, hd2, htk, over, hb2, hplc, hin, hnl, hxl2]
          refine ⟨rest, by simp, ?_⟩
          refine Le.ex ?_
          refine Le.trimPack Slot.ty 66 (rest.length * 2) ps (by simp [upd_app]) htk (fun p hp i cs len sz hi => ?_) hidn.1 (fun h => by have := hidn.2 _ h; omega) (fun h2 e2 => ?_)
          · have hin : i < Slot.ty.n := by have := (List.getElem?_eq_some_iff.1 hi).1; rwa [Slot.ty.ocn] at this
            have hge := hidn.2 _ (ids_mem hin ps hp)
            have e := hNB p hp i cs len sz hi
            simp only [setO_some, St.set, upd_app]
            rw [if_neg (by omega), if_neg (by omega), if_neg (by omega)]
            exact e
          · rw [hpx] at e2
            refine ⟨_, Le.reseat [9] [(66, 24)] (by simp) (by simp [upd_app, menB]) ?_, ?_⟩
            · intro b hb2 cs hcs
              simp at hb2
              subst hb2
              have hcs : h2 66 = some (some cs) := hcs
              rw [e2] at hcs
              obtain rfl : rows Slot.ty.oc rest = cs := by simpa using hcs
              exact idfreeL_mem (Slot.frL rest)
            · simp only [List.length_cons] at hrz
              refine ⟨by omega, by omega, hD2, by simp [upd_app, keepR_app, renA, rb], ?_, rfl⟩
              funext c
              by_cases hc24 : c = 24
              · subst hc24; simp [keepHR_app, e2, oneH_app]
              · have h24' : ¬ 24 = c := fun e => hc24 e.symm
                simp [keepHR_app, oneH_app, hc24, h24']
  | cons x rest =>
    have hle : pre.length + (rest.length + 1) = xs.length := by rw [← hx2]; simp
    have hlt : (pre.length : Int) < xs.length := by omega
    have hlt2 : pre.length < xs.length := by omega
    have hw : IntKind.i64.wrap ((pre.length : Int) + 1) = pre.length + 1 := wrap_i64 (by omega) (by omega)
    have hb1 : (out.length + 1) * 48 ≤ 140737488355328 := by omega
    obtain ⟨h', l1, l2, l3, l4⟩ := Le.openRow (ρ := ρ) (n := 68) 12 (rows Slot.ty.oc rest) (Slot.ty.oc x) 31000 (List.replicate (pre.length * 2) .un) hh (by rw [b12, rows_cons]) (Slot.ty.ow x) (fun i hi => by
      rw [Slot.oce] at hi
      match i with
      | 0 => exact f310
      | 1 => exact f311
      | i + 2 => simp at hi; omega) (by left; decide)
    have e0 := l3 0 _ _ _ (by rw [Slot.oce]; rfl)
    have e1 := l3 1 _ _ _ (by rw [Slot.oce]; rfl)
    simp only [Nat.add_zero] at e0
    have e0 : h' 31000 = some (some (rows B x.key)) := e0
    have e1 : h' 31001 = some (some (rows B x.b)) := e1
    have hxl : (Slot.ty.oc x).length = 2 := rfl
    have q : ∀ b, b ≠ 12 → b < 31000 → h' b = hh b := fun b h1 h2 => l4 b h1 (.inl h2)
    have b14' := (q 14 (by decide) (by decide)).trans b14
    have b24' := (q 24 (by decide) (by decide)).trans b24
    have g45 := (q 45 (by decide) (by decide)).trans f45
    have g46 := (q 46 (by decide) (by decide)).trans f46
    have g48 := (q 48 (by decide) (by decide)).trans f48
    have g50 := (q 50 (by decide) (by decide)).trans f50
    have g52 := (q 52 (by decide) (by decide)).trans f52
    have g53 := (q 53 (by decide) (by decide)).trans f53
    have g54 := (q 54 (by decide) (by decide)).trans f54
    rw [Slot.oce] at l2
    have l2 : h' 12 = some (some (List.replicate (pre.length * 2) .un ++ AV.sl 31000 0 x.key.length 1 false :: AV.sl 31001 0 x.b.length 1 false :: rows Slot.ty.oc rest)) := l2
    have hd0 : List.drop (pre.length * 2) (List.replicate (pre.length * 2) AV.un ++ AV.sl 31000 0 x.key.length 1 false :: AV.sl 31001 0 x.b.length 1 false :: rows Slot.ty.oc rest) = AV.sl 31000 0 x.key.length 1 false :: AV.sl 31001 0 x.b.length 1 false :: rows Slot.ty.oc rest := by
      rw [List.drop_left']
      simp
    have hbt : List.take x.key.length (rows B x.key) = rows B x.key := by rw [← B.count, List.take_length]
    have hrep : List.replicate (pre.length * 2) AV.un ++ (List.replicate 2 AV.un ++ rows Slot.ty.oc rest) = List.replicate ((pre.length + 1) * 2) .un ++ rows Slot.ty.oc rest := by
      rw [← List.append_assoc, List.replicate_append_replicate, Nat.succ_mul]
    have hidu : ∀ y ∈ List.replicate ((pre.length + 1) * 2) AV.un ++ rows Slot.ty.oc rest, idfree y = true := fun y hy => by
      rcases List.mem_append.1 hy with hy | hy
      · rw [(List.mem_replicate.1 hy).2]; rfl
      · exact idfreeL_mem (Slot.frL rest) y hy
    refine T.le l1 ?_
    refine run_ok (n := 400) ?_
    simp [k7, k10, hlt]
    refine T.text 400 mixed (by kernel_rfl) (by kernel_rfl) ?_
    by_cases hq : (strOfNums x.key).toList = (strOfNums k).toList
    · have hq' : bEq x.key k = true := by simp [bEq, hq]
      simp [k1, k7, k10, l2, e0, e1, hlt, hlt2, hd0, bytesA, B.count, B.num, hq, hw, hbt]
      refine ⟨pre ++ [x], rest, by simp, out, ?_⟩
      refine Le.ex ⟨_, Le.blur 12 (List.replicate (pre.length * 2) .un) [AV.sl 31000 0 x.key.length 1 false, AV.sl 31001 0 x.b.length 1 false] (rows Slot.ty.oc rest) (by simp [upd_app, l2]) rfl, ?_⟩
      rw [show ([AV.sl 31000 0 x.key.length 1 false, AV.sl 31001 0 x.b.length 1 false] : List AV).length = 2 from rfl, hrep]
      refine ⟨_, Le.reseat [1, 7, 8, 9, 10] [(12, 12), (14, 14), (24, 24)] (by simp) (by simp [upd_app, menB, idfree, k1, k7, k8, k9]) ?_, ?_⟩
      · intro b hb2 cs hcs
        simp at hb2
        rcases hb2 with rfl | rfl | rfl
        · simp [upd_app] at hcs
          subst hcs
          exact hidu
        · simp [upd_app, b14'] at hcs
          subst hcs
          exact fun x hx => idfreeL_mem (idfreeL_rows B.fr _) x hx
        · simp [upd_app, b24'] at hcs
          subst hcs
          exact idfreeL_mem (Slot.frL out)
      · simp [hx2, upd_app, keepR_app, keepHR_app, renA, rb, k1, k7, k8, k9, b14', b24', ← hF, hq', hw]
        omega
    · have hq' : bEq x.key k = false := by simp [bEq, hq]
      simp [k1, k7, k9, k10, l2, e0, e1, b24', g45, g46, hlt, hlt2, hd0, bytesA, B.count, B.num, hq, hw, Slot.ocl, over, hb1, hbt]
      refine ⟨pre ++ [x], rest, by simp, out ++ [x], ?_⟩
      refine Le.packOnX 46 (Slot.ty.oc x) [31000, 31001] (rows Slot.ty.oc out) rfl (by simp [upd_app, Slot.oce, ysOn]) (Slot.ty.ow _) ?_ (by decide) (by decide) (fun h2 p1 p2 => ?_)
      · intro i d cs len sz hi hc
        rcases Slot.ow2 _ hc with ⟨rfl, rfl, rfl, rfl⟩ | ⟨rfl, rfl, rfl, rfl⟩ <;> (simp at hi; subst hi; simp [upd_app, e0, e1])
      have p12 := p2 12 (by decide) (by decide)
      have p14 := p2 14 (by decide) (by decide)
      simp [upd_app, l2] at p12
      simp [upd_app, b14'] at p14
      refine Le.ex ⟨_, Le.blur 12 (List.replicate (pre.length * 2) .un) [AV.sl 31000 0 x.key.length 1 false, AV.sl 31001 0 x.b.length 1 false] (rows Slot.ty.oc rest) p12 rfl, ?_⟩
      rw [show ([AV.sl 31000 0 x.key.length 1 false, AV.sl 31001 0 x.b.length 1 false] : List AV).length = 2 from rfl, hrep]
      have hox : rows Slot.ty.oc (out ++ [x]) = rows Slot.ty.oc out ++ Slot.ty.oc x := by rw [rows_append, rows_cons, rows_nil, List.append_nil]
      rw [← hox] at p1
      refine ⟨_, Le.reseat [1, 7, 8, 9, 10] [(46, 24), (12, 12), (14, 14)] (by simp) (by simp [upd_app, menB, idfree, k1, k7, k8]) ?_, ?_⟩
      · intro b hb2 cs hcs
        simp at hb2
        rcases hb2 with rfl | rfl | rfl
        · simp [upd_app, p1] at hcs
          subst hcs
          exact idfreeL_mem (Slot.frL (out ++ [x]))
        · simp [upd_app] at hcs
          subst hcs
          exact hidu
        · simp [upd_app, p14] at hcs
          subst hcs
          exact fun x hx => idfreeL_mem (idfreeL_rows B.fr _) x hx
      · simp [hx2, upd_app, keepR_app, keepHR_app, renA, rb, k1, k7, k8, p14, p1, ← hF, hq', hw]
        omega
end Go.Proofs.YtaknfalbmblagaaGreatDoor.Am
namespace Go.Proofs.YtaknfalbmblagaaGreatDoor.Am
open Go Go.Proofs
set_option linter.unusedSimpArgs false
set_option linter.unusedVariables false
attribute [local congr] T_congr callK_congr callWK_congr
attribute [local simp] run_nil run_op0 run_opg run_seq run_cond run_block run_ret run_skip run_skip_after run_skip_blk run_exit run_exit_after run_exit_blk run_loop run_any runS_nil runS_op0 runS_opg runW_nil runW_op0 runW_opg exec_q exec_w exec_c exec_n execW_q execW_w execW_c restW_app hideH_app merge_app wblk rest_app restS_app execS_q execS_c aval dOk upd_app ev_t ev_c setO_some setO_none put_mk pinsOf isIo hasIo sbin endR fin resL one outL out1 clo1 cloL coe coeL shut shut.shutL wantA weff cellsOf fillA deref natOf ρ0_app h0_app plain plain.plainL keep_app keepH_app andThen_normal andThen_ret andThen_exit pop_nil pop_after pop_after_ret pop_after_exit pop_blk pop_blk_ret pop_blk_exit nilA srcOf srcCells keepR_app keepHR_app renA rb
theorem fit_ok {m : Made} (h : Fit m) : Made.ty.ok m := by
  have e1 := h.task
  have e2 := h.log
  have e3 := h.num
  refine ⟨?_, ⟨?_, fun x hx => ?_⟩, ?_, trivial⟩
  · show m.task.size ≤ _; omega
  · show m.outs.length * 32 ≤ _; omega
  · obtain ⟨p1, p2⟩ := h.outs x hx
    refine ⟨?_, ?_, trivial⟩
    · show x.path.size ≤ _; omega
    · show x.text.size ≤ _; omega
  · show m.log.size ≤ _; omega
/- 37: loop.example/g00464/laws.markMade -/
end Go.Proofs.YtaknfalbmblagaaGreatDoor.Am
namespace Go.Proofs.YtaknfalbmblagaaGreatDoor.Am
open Go Go.Proofs
set_option linter.unusedSimpArgs false
set_option linter.unusedVariables false
attribute [local congr] T_congr callK_congr callWK_congr
attribute [local simp] run_nil run_op0 run_opg run_seq run_cond run_block run_ret run_skip run_skip_after run_skip_blk run_exit run_exit_after run_exit_blk run_loop run_any runS_nil runS_op0 runS_opg runW_nil runW_op0 runW_opg exec_q exec_w exec_c exec_n execW_q execW_w execW_c restW_app hideH_app merge_app wblk rest_app restS_app execS_q execS_c aval dOk upd_app ev_t ev_c setO_some setO_none put_mk pinsOf isIo hasIo sbin endR fin resL one outL out1 clo1 cloL coe coeL shut shut.shutL wantA weff cellsOf fillA deref natOf ρ0_app h0_app plain plain.plainL keep_app keepH_app andThen_normal andThen_ret andThen_exit pop_nil pop_after pop_after_ret pop_after_exit pop_blk pop_blk_ret pop_blk_exit nilA srcOf srcCells keepR_app keepHR_app renA rb
theorem Slot.rocm {h : Hp} {b n : Nat} {ms : List Slot} {lim : Bool} (hb : h b = some (some (rows Slot.ty.oc ms))) (hl : ms.length = n) : roc h 8 (.sl b 0 n 2 lim) = some (.ro (rows Slot.ty.cs ms) n) := by subst hl; exact Slot.roc8 hb
theorem slotPut_mem {xs : List Slot} {k : List Int} {m : Made} {x : Slot} (h : x ∈ slotPut xs k m) : x ∈ xs ∨ (x = ⟨k, putM m⟩ ∧ (putM m).length ≤ 3000) := by
  unfold slotPut at h
  split at h
  case isFalse => exact .inl h
  case isTrue hc =>
    obtain ⟨a, e⟩ := dropOk_sub ((xs.filter fun s => !bEq s.key k) ++ [⟨k, putM m⟩])
    have h2 : x ∈ (xs.filter fun s => !bEq s.key k) ++ [(⟨k, putM m⟩ : Slot)] := by rw [← e]; exact List.mem_append_right _ h
    rcases List.mem_append.1 h2 with h2 | h2
    · exact .inl (List.mem_filter.1 h2).1
    · exact .inr ⟨by simpa using h2, hc.2⟩
theorem toL_filter (f : Slot → Bool) : ∀ xs : List Slot, toL Slot.tot (xs.filter f) ≤ toL Slot.tot xs
  | [] => Nat.le_refl _
  | x :: xs => by
    have ih := toL_filter f xs
    rw [List.filter_cons]
    split <;> simp only [toL] <;> omega
theorem slotPut_is (xs : List Slot) (k : List Int) (m : Made) (hx : Slot.ty.slice.ok xs) (hxl : xs.length ≤ 2000000) (hk : Ty.byte.slice.ok k) : Slot.ty.slice.ok (slotPut xs k m) ∧ (slotPut xs k m).length ≤ xs.length + 1 ∧ toL Slot.tot (slotPut xs k m) ≤ toL Slot.tot xs + k.length + 3000 := by
  have hlen : (slotPut xs k m).length ≤ xs.length + 1 ∧ toL Slot.tot (slotPut xs k m) ≤ toL Slot.tot xs + k.length + 3000 := by
    unfold slotPut
    split
    case isFalse => exact ⟨by omega, by omega⟩
    case isTrue hc =>
      obtain ⟨a, e⟩ := dropOk_sub ((xs.filter fun s => !bEq s.key k) ++ [⟨k, putM m⟩])
      have h1 := congrArg List.length e
      have h2 := congrArg (toL Slot.tot) e
      have h3 := List.length_filter_le (fun s : Slot => !bEq s.key k) xs
      have h4 := toL_filter (fun s : Slot => !bEq s.key k) xs
      have h5 := hc.2
      rw [toL_app, toL_app] at h2
      simp only [toL, Slot.tot] at h2 h4 ⊢
      simp only [List.length_append, List.length_singleton] at h1
      exact ⟨by omega, by omega⟩
  refine ⟨⟨?_, fun x hm => ?_⟩, hlen.1, hlen.2⟩
  · show (slotPut xs k m).length * 48 ≤ 140737488351232
    have := hlen.1
    omega
  · rcases slotPut_mem hm with hm | ⟨rfl, hl⟩
    · exact hx.2 x hm
    · refine ⟨hk, ⟨?_, putM_byte m⟩, trivial⟩
      show (putM m).length * 1 ≤ 140737488351232
      omega
end Go.Proofs.YtaknfalbmblagaaGreatDoor.Am
namespace Go.Proofs.YtaknfalbmblagaaGreatDoor.Am
open Go Go.Proofs
set_option linter.unusedSimpArgs false
set_option linter.unusedVariables false
attribute [local congr] T_congr callK_congr callWK_congr
attribute [local simp] run_nil run_op0 run_opg run_seq run_cond run_block run_ret run_skip run_skip_after run_skip_blk run_exit run_exit_after run_exit_blk run_loop run_any runS_nil runS_op0 runS_opg runW_nil runW_op0 runW_opg exec_q exec_w exec_c exec_n execW_q execW_w execW_c restW_app hideH_app merge_app wblk rest_app restS_app execS_q execS_c aval dOk upd_app ev_t ev_c setO_some setO_none put_mk pinsOf isIo hasIo sbin endR fin resL one outL out1 clo1 cloL coe coeL shut shut.shutL wantA weff cellsOf fillA deref natOf ρ0_app h0_app plain plain.plainL keep_app keepH_app andThen_normal andThen_ret andThen_exit pop_nil pop_after pop_after_ret pop_after_exit pop_blk pop_blk_ret pop_blk_exit nilA srcOf srcCells keepR_app keepHR_app renA rb
def xr (y v : Int) : Int := IntKind.u8.wrap (((y % 2 ^ IntKind.u8.bits).toNat ^^^ (v % 2 ^ IntKind.u8.bits).toNat : Nat) : Int)
theorem rowsB_set : ∀ (xs : List Int) (i : Nat) (z : Int), (rows B xs).set i (.sc (.int .u8 z)) = rows B (xs.set i z)
  | [], _, _ => rfl
  | x :: xs, 0, z => by rw [rows_cons]; simp [B, rows_cons]
  | x :: xs, i + 1, z => by rw [rows_cons]; simp [B, rows_cons, rowsB_set xs i z]
def dmg (xs : List Slot) (i a v : Int) : List Slot :=
  if inR i 0 (xs.length - 1) = true ∧ 0 ≤ a then
    match xs[i.toNat]? with
    | some x => if x.b.length = 0 then xs else xs.set i.toNat ⟨x.key, x.b.set (a.toNat % x.b.length) (xr (x.b.getD (a.toNat % x.b.length) 0) (IntKind.u8.wrap v))⟩
    | none => xs
  else xs
/- 26: loop.example/g00464/spec.Damage -/
def A26 : AC := (.seq (.ops [⟨(some 8), none, .q (.mov (.c .em))⟩])
  (.seq (.ops [⟨(some 10), none, .q (.mov (.t 0))⟩, ⟨(some 11), none, .c (.c (.clo 60 [])) [(.t 10)]⟩, ⟨(some 9), none, .q (.mov (.t 11))⟩])
  (.seq (.seq (.ops [⟨(some 12), none, .q (.mov (.t 1))⟩, ⟨(some 13), none, .q (.mov (.t 0))⟩, ⟨(some 14), none, .q (.llen (.t 13))⟩, ⟨(some 15), none, .q (.bin .sub (.t 14) (.c (.sc (.int .i64 1))))⟩, ⟨(some 16), none, .c (.c (.clo 64 [])) [(.t 12), (.c (.sc (.int .i64 0))), (.t 15)]⟩, ⟨(some 17), none, .q (.not (.t 16))⟩, ⟨(some 18), none, .q (.mov (.t 17))⟩, ⟨(some 19), (some (18, false)), .q (.mov (.t 0))⟩, ⟨(some 20), (some (18, false)), .q (.mov (.t 1))⟩, ⟨(some 21), (some (18, false)), .q (.iadr 2 (.t 19) (.t 20))⟩, ⟨(some 22), (some (18, false)), .q (.fadr 1 (.t 21))⟩, ⟨(some 23), (some (18, false)), .q (.load false 1 (.t 22))⟩, ⟨(some 24), (some (18, false)), .q (.llen (.t 23))⟩, ⟨(some 25), (some (18, false)), .q (.bin .eql (.t 24) (.c (.sc (.int .i64 0))))⟩, ⟨(some 26), none, .q (.pick (.t 18) (.c (.sc (.bool true))) (.t 25))⟩, ⟨(some 27), none, .q (.mov (.t 26))⟩, ⟨(some 28), (some (27, false)), .q (.mov (.t 2))⟩, ⟨(some 29), (some (27, false)), .q (.bin .lss (.t 28) (.c (.sc (.int .i64 0))))⟩, ⟨(some 30), none, .q (.pick (.t 27) (.c (.sc (.bool true))) (.t 29))⟩])
  (.cond (.t 30) (.seq (.ops [⟨(some 31), none, .q (.mov (.t 9))⟩, ⟨(some 8), none, .q (.mov (.t 31))⟩])
  .ret)
  .skip))
  (.seq (.any [(⟨(some 32), none, .q (.mov (.t 9))⟩, []), (⟨(some 33), none, .q (.mov (.t 1))⟩, []), (⟨(some 34), none, .q (.iadr 2 (.t 32) (.t 33))⟩, [0, 1]), (⟨(some 35), none, .q (.fadr 1 (.t 34))⟩, [2]), (⟨(some 36), none, .q (.load false 1 (.t 35))⟩, [3]), (⟨(some 37), none, .q (.mov (.t 2))⟩, []), (⟨(some 38), none, .q (.mov (.t 0))⟩, []), (⟨(some 39), none, .q (.mov (.t 1))⟩, []), (⟨(some 40), none, .q (.iadr 2 (.t 38) (.t 39))⟩, [6, 7]), (⟨(some 41), none, .q (.fadr 1 (.t 40))⟩, [8]), (⟨(some 42), none, .q (.load false 1 (.t 41))⟩, [9]), (⟨(some 43), none, .q (.llen (.t 42))⟩, [10]), (⟨(some 44), none, .q (.bin .rem (.t 37) (.t 43))⟩, [5, 11]), (⟨(some 45), none, .q (.iadr 1 (.t 36) (.t 44))⟩, [4, 12]), (⟨(some 46), none, .q (.load false 1 (.t 45))⟩, [13]), (⟨(some 47), none, .q (.mov (.t 3))⟩, []), (⟨(some 48), none, .q (.cvi .u8 (.t 47))⟩, [15]), (⟨(some 49), none, .q (.bin .xor (.t 46) (.t 48))⟩, [14, 16]), (⟨(some 50), none, .q (.iadr 1 (.t 36) (.t 44))⟩, [4, 12, 0, 1, 2, 3, 4, 5, 6, 7, 8, 9, 10, 11, 12, 13, 14, 15, 16, 17]), (⟨none, none, .w (.store 1 (.t 50) (.t 49))⟩, [18, 17, 0, 1, 2, 3, 4, 5, 6, 7, 8, 9, 10, 11, 12, 13, 14, 15, 16, 17])])
  (.seq (.ops [⟨(some 51), none, .q (.mov (.t 9))⟩, ⟨(some 8), none, .q (.mov (.t 51))⟩])
  .ret)))))
theorem K26 : Tryz.f26.body.bind (comp Tryz.prog) = some A26 ∧ Tryz.f26.ntmps = 52 ∧ Tryz.f26.results.toList.mapM (resB Tryz.prog) = some [.mov (.t 8)] := ⟨by kernel_rfl, by kernel_rfl, by kernel_rfl⟩
set_option maxHeartbeats 1000000 in
theorem R26 (xs : List Slot) (i a v : Int) (hx : Slot.ty.slice.ok xs) (ha : Ty.int.ok a) : Ret Tryz.prog 26 [.ro (rows Slot.ty.cs xs) xs.length, .sc (.int .i64 i), .sc (.int .i64 a), .sc (.int .i64 v)] (.own (rows Slot.ty.oc (dmg xs i a v)) (dmg xs i a v).length 2) [.un, .un, .un, .un] := by
  have hb : xs.length * 48 ≤ 140737488351232 := hx.1
  have hs : ∀ x ∈ xs, Slot.ty.ok x := hx.2
  have hfl : flt (.own (rows Slot.ty.oc xs) xs.length 2) = true := by
    have h : flt.fltL [.own (rows Slot.ty.oc xs) xs.length 2] = true := Slot.ty.slice.flL xs
    simpa [flt.fltL] using h
  have hw : IntKind.i64.wrap ((xs.length : Int) - 1) = xs.length - 1 := wrap_i64 (by omega) (by omega)
  refine Ret.run Tryz.func26 K26 (by simp) rfl rfl 900 ?_
  simp [A26, iniρ]
  refine callK.own 11 rfl (by kernel_rfl) (by simp [roc_ro]) (R60 xs hx) hfl (by simp) rfl ?_
  simp [hw]
  refine callK.ro 0 rfl (by kernel_rfl) (by simp [roc_sc]) (R64 i 0 (xs.length - 1)) rfl rfl rfl ?_
  by_cases hR : inR i 0 (xs.length - 1) = true
  case neg =>
    have hR2 : inR i 0 (xs.length - 1) = false := by simpa using hR
    have e : dmg xs i a v = xs := by simp [dmg, hR2]
    simp [hR2, e, ex1, Slot.ocl, Slot.frL]
  obtain ⟨pre, x, rest, hxs, hn⟩ : ∃ pre x rest, xs = pre ++ x :: rest ∧ i = (pre.length : Int) := by
    simp only [inR, Bool.and_eq_true, decide_eq_true_eq] at hR
    have hlt : i.toNat < xs.length := by omega
    refine ⟨xs.take i.toNat, xs[i.toNat], xs.drop (i.toNat + 1), by simp, ?_⟩
    rw [List.length_take]
    omega
  have hle : xs.length = pre.length + (rest.length + 1) := by rw [hxs]; simp
  have hlt : pre.length < xs.length := by omega
  have hlt2 : (pre.length : Int) < xs.length := by omega
  have hg : xs[pre.length]? = some x := by rw [hxs]; simp
  have hd := rows_drop Slot.ty.csn pre (x :: rest)
  rw [← hxs, rows_cons] at hd
  have hd : List.drop (pre.length * 2) (rows Slot.ty.cs xs) = AV.ro (rows B x.key) x.key.length :: AV.ro (rows B x.b) x.b.length :: rows Slot.ty.cs rest := hd
  have hd1 : List.drop (pre.length * 2 + 1) (rows Slot.ty.cs xs) = AV.ro (rows B x.b) x.b.length :: rows Slot.ty.cs rest := by rw [← List.drop_drop, hd]; rfl
  subst hn
  by_cases hB : x.b.length = 0
  case pos =>
    have e : dmg xs pre.length a v = xs := by simp [dmg, hg, hB]
    simp [hR, hlt, hlt2, hd1, hB, e, ex1, Slot.ocl, Slot.frL]
  have hB2 : ¬ ((x.b.length : Int) = 0) := by omega
  by_cases hA : a < 0
  case pos =>
    have hA2 : ¬ (0 ≤ a) := by omega
    have e : dmg xs pre.length a v = xs := by simp [dmg, hA2]
    simp [hR, hlt, hlt2, hd1, hB, hB2, hA, e, ex1, Slot.ocl, Slot.frL]
  obtain ⟨m, rfl⟩ : ∃ m : Nat, a = m := ⟨a.toNat, by omega⟩
  have hm : ¬ ((m : Int) < 0) := by omega
  simp [hR, hlt, hlt2, hd1, hB, hB2, hm]
  obtain ⟨bp, y, br, hbs, hbl⟩ : ∃ bp y br, x.b = bp ++ y :: br ∧ bp.length = m % x.b.length := by
    have hq : m % x.b.length < x.b.length := Nat.mod_lt _ (by omega)
    refine ⟨x.b.take (m % x.b.length), x.b[m % x.b.length], x.b.drop (m % x.b.length + 1), by simp, ?_⟩
    rw [List.length_take]
    omega
  have hbq : bp.length < x.b.length := by rw [hbs]; simp
  have hoc : rows Slot.ty.oc xs = rows Slot.ty.oc pre ++ (AV.own (rows B x.key) x.key.length 1 :: AV.own (rows B x.b) x.b.length 1 :: rows Slot.ty.oc rest) := by rw [hxs, rows_append, rows_cons]; rfl
  have hj : (rows Slot.ty.oc xs)[pre.length * 2 + 1]? = some (.own (rows B x.b) x.b.length 1) := by rw [hoc]; exact get_at Slot.ty.ocn pre _ 1
  refine T.le (Le.open 11 (pre.length * 2 + 1) 60 (by simp [upd_app]) hj (by simp [upd_app]) (idfreeL_rows B.fr _)) ?_
  have hst : (rows Slot.ty.oc xs).set (pre.length * 2 + 1) (.sl 60 0 x.b.length 1 false) = rows Slot.ty.oc pre ++ (AV.own (rows B x.key) x.key.length 1 :: .sl 60 0 x.b.length 1 false :: rows Slot.ty.oc rest) := by rw [hoc]; exact pack_at (n := 2) Slot.ty.ocn pre _ 1 _
  have ho1 : List.drop (pre.length * 2 + 1) (rows Slot.ty.oc pre ++ (AV.own (rows B x.key) x.key.length 1 :: .sl 60 0 x.b.length 1 false :: rows Slot.ty.oc rest)) = .sl 60 0 x.b.length 1 false :: rows Slot.ty.oc rest := by
    rw [← List.drop_drop, ← Slot.ocl pre, List.drop_left]; rfl
  have hrem : (m : Int).tmod x.b.length = bp.length := by rw [hbl]; rfl
  have hyd : List.drop bp.length (rows B x.b) = AV.sc (.int .u8 y) :: rows B br := by
    have := rows_drop B.len bp (y :: br)
    rw [← hbs, Nat.mul_one] at this
    rw [this]; rfl
  have hle3 : bp.length + 1 ≤ x.b.length := hbq
  refine T.cutW 400 [([], []), ([], []), ([], []), ([], []), ([], []), ([], []), ([], []), ([], []), ([], []), ([], []), ([], []), ([], []), ([], []), ([], []), ([], []), ([], []), ([], []), ([], []), ([], []), ([60], [])] mixed (by kernel_rfl) (by kernel_rfl) ?_
  simp [hlt, hlt2, hd1, hst, ho1, hB, hB2, hrem, hyd, hbq, hle3, B.count, over, merge_nil, hideH_nil, cutQ_normal]
  refine ⟨_, Le.pack 11 (pre.length * 2 + 1) (i := 60) (len := x.b.length) (sz := 1) (cs' := rows B (x.b.set bp.length (xr y (IntKind.u8.wrap v)))) (by simp [upd_app]; rfl) ?_ (by simp [upd_app, rowsB_set, xr]) (by decide) (by simp [B.count]) (idfreeL_rows B.fr _), ?_⟩
  · exact get_at (n := 2) Slot.ty.ocn pre _ 1
  have hgd : x.b.getD (m % x.b.length) 0 = y := by rw [← hbl, hbs]; simp
  have e : dmg xs pre.length m v = pre ++ ⟨x.key, x.b.set bp.length (xr y (IntKind.u8.wrap v))⟩ :: rest := by
    have hgd' := hgd
    simp [dmg, hR, hg, hB] at hgd' ⊢
    rw [hgd', ← hbl, hxs]
    simp
  have hst2 : (rows Slot.ty.oc pre ++ (AV.own (rows B x.key) x.key.length 1 :: .sl 60 0 x.b.length 1 false :: rows Slot.ty.oc rest)).set (pre.length * 2 + 1) (.own (rows B (x.b.set bp.length (xr y (IntKind.u8.wrap v)))) x.b.length 1) = rows Slot.ty.oc (pre ++ ⟨x.key, x.b.set bp.length (xr y (IntKind.u8.wrap v))⟩ :: rest) := by
    refine Eq.trans (pack_at (n := 2) Slot.ty.ocn pre _ 1 _) ?_
    rw [rows_append, rows_cons, Slot.oce]
    simp
    exact ⟨rfl, rfl⟩
  have hl9 : (pre ++ (⟨x.key, x.b.set bp.length (xr y (IntKind.u8.wrap v))⟩ : Slot) :: rest).length = xs.length := by rw [hle]; simp
  rw [e, hl9]
  refine T.on 400 ?_
  have hl10 : (pre.length + (rest.length + 1)) * 2 = xs.length * 2 := by rw [hle]
  simp [hst2, ex1, Slot.ocl, Slot.frL, hl10]
/- 23: loop.example/g00464/impl.Damage -/
def A23 : AC := (.seq (.ops [⟨(some 8), none, .q (.mov (.c .em))⟩])
  (.seq (.ops [⟨(some 10), none, .q (.mov (.t 0))⟩, ⟨(some 11), none, .c (.c (.clo 53 [])) [(.t 10)]⟩, ⟨(some 9), none, .q (.mov (.t 11))⟩])
  (.seq (.seq (.ops [⟨(some 12), none, .q (.mov (.t 1))⟩, ⟨(some 13), none, .q (.mov (.t 0))⟩, ⟨(some 14), none, .q (.llen (.t 13))⟩, ⟨(some 15), none, .q (.bin .sub (.t 14) (.c (.sc (.int .i64 1))))⟩, ⟨(some 16), none, .c (.c (.clo 62 [])) [(.t 12), (.c (.sc (.int .i64 0))), (.t 15)]⟩, ⟨(some 17), none, .q (.not (.t 16))⟩, ⟨(some 18), none, .q (.mov (.t 17))⟩, ⟨(some 19), (some (18, false)), .q (.mov (.t 0))⟩, ⟨(some 20), (some (18, false)), .q (.mov (.t 1))⟩, ⟨(some 21), (some (18, false)), .q (.iadr 2 (.t 19) (.t 20))⟩, ⟨(some 22), (some (18, false)), .q (.fadr 1 (.t 21))⟩, ⟨(some 23), (some (18, false)), .q (.load false 1 (.t 22))⟩, ⟨(some 24), (some (18, false)), .q (.llen (.t 23))⟩, ⟨(some 25), (some (18, false)), .q (.bin .eql (.t 24) (.c (.sc (.int .i64 0))))⟩, ⟨(some 26), none, .q (.pick (.t 18) (.c (.sc (.bool true))) (.t 25))⟩, ⟨(some 27), none, .q (.mov (.t 26))⟩, ⟨(some 28), (some (27, false)), .q (.mov (.t 2))⟩, ⟨(some 29), (some (27, false)), .q (.bin .lss (.t 28) (.c (.sc (.int .i64 0))))⟩, ⟨(some 30), none, .q (.pick (.t 27) (.c (.sc (.bool true))) (.t 29))⟩])
  (.cond (.t 30) (.seq (.ops [⟨(some 31), none, .q (.mov (.t 9))⟩, ⟨(some 8), none, .q (.mov (.t 31))⟩])
  .ret)
  .skip))
  (.seq (.any [(⟨(some 32), none, .q (.mov (.t 9))⟩, []), (⟨(some 33), none, .q (.mov (.t 1))⟩, []), (⟨(some 34), none, .q (.iadr 2 (.t 32) (.t 33))⟩, [0, 1]), (⟨(some 35), none, .q (.fadr 1 (.t 34))⟩, [2]), (⟨(some 36), none, .q (.load false 1 (.t 35))⟩, [3]), (⟨(some 37), none, .q (.mov (.t 2))⟩, []), (⟨(some 38), none, .q (.mov (.t 0))⟩, []), (⟨(some 39), none, .q (.mov (.t 1))⟩, []), (⟨(some 40), none, .q (.iadr 2 (.t 38) (.t 39))⟩, [6, 7]), (⟨(some 41), none, .q (.fadr 1 (.t 40))⟩, [8]), (⟨(some 42), none, .q (.load false 1 (.t 41))⟩, [9]), (⟨(some 43), none, .q (.llen (.t 42))⟩, [10]), (⟨(some 44), none, .q (.bin .rem (.t 37) (.t 43))⟩, [5, 11]), (⟨(some 45), none, .q (.iadr 1 (.t 36) (.t 44))⟩, [4, 12]), (⟨(some 46), none, .q (.load false 1 (.t 45))⟩, [13]), (⟨(some 47), none, .q (.mov (.t 3))⟩, []), (⟨(some 48), none, .q (.cvi .u8 (.t 47))⟩, [15]), (⟨(some 49), none, .q (.bin .xor (.t 46) (.t 48))⟩, [14, 16]), (⟨(some 50), none, .q (.iadr 1 (.t 36) (.t 44))⟩, [4, 12, 0, 1, 2, 3, 4, 5, 6, 7, 8, 9, 10, 11, 12, 13, 14, 15, 16, 17]), (⟨none, none, .w (.store 1 (.t 50) (.t 49))⟩, [18, 17, 0, 1, 2, 3, 4, 5, 6, 7, 8, 9, 10, 11, 12, 13, 14, 15, 16, 17])])
  (.seq (.ops [⟨(some 51), none, .q (.mov (.t 9))⟩, ⟨(some 8), none, .q (.mov (.t 51))⟩])
  .ret)))))
theorem K23 : Tryz.f23.body.bind (comp Tryz.prog) = some A23 ∧ Tryz.f23.ntmps = 52 ∧ Tryz.f23.results.toList.mapM (resB Tryz.prog) = some [.mov (.t 8)] := ⟨by kernel_rfl, by kernel_rfl, by kernel_rfl⟩
set_option maxHeartbeats 1000000 in
theorem R23 (xs : List Slot) (i a v : Int) (hx : Slot.ty.slice.ok xs) (ha : Ty.int.ok a) : Ret Tryz.prog 23 [.ro (rows Slot.ty.cs xs) xs.length, .sc (.int .i64 i), .sc (.int .i64 a), .sc (.int .i64 v)] (.own (rows Slot.ty.oc (dmg xs i a v)) (dmg xs i a v).length 2) [.un, .un, .un, .un] := by
  have hb : xs.length * 48 ≤ 140737488351232 := hx.1
  have hs : ∀ x ∈ xs, Slot.ty.ok x := hx.2
  have hfl : flt (.own (rows Slot.ty.oc xs) xs.length 2) = true := by
    have h : flt.fltL [.own (rows Slot.ty.oc xs) xs.length 2] = true := Slot.ty.slice.flL xs
    simpa [flt.fltL] using h
  have hw : IntKind.i64.wrap ((xs.length : Int) - 1) = xs.length - 1 := wrap_i64 (by omega) (by omega)
  refine Ret.run Tryz.func23 K23 (by simp) rfl rfl 900 ?_
  simp [A23, iniρ]
  refine callK.own 11 rfl (by kernel_rfl) (by simp [roc_ro]) (R53 xs hx) hfl (by simp) rfl ?_
  simp [hw]
  refine callK.ro 0 rfl (by kernel_rfl) (by simp [roc_sc]) (R62 i 0 (xs.length - 1)) rfl rfl rfl ?_
  by_cases hR : inR i 0 (xs.length - 1) = true
  case neg =>
    have hR2 : inR i 0 (xs.length - 1) = false := by simpa using hR
    have e : dmg xs i a v = xs := by simp [dmg, hR2]
    simp [hR2, e, ex1, Slot.ocl, Slot.frL]
  obtain ⟨pre, x, rest, hxs, hn⟩ : ∃ pre x rest, xs = pre ++ x :: rest ∧ i = (pre.length : Int) := by
    simp only [inR, Bool.and_eq_true, decide_eq_true_eq] at hR
    have hlt : i.toNat < xs.length := by omega
    refine ⟨xs.take i.toNat, xs[i.toNat], xs.drop (i.toNat + 1), by simp, ?_⟩
    rw [List.length_take]
    omega
  have hle : xs.length = pre.length + (rest.length + 1) := by rw [hxs]; simp
  have hlt : pre.length < xs.length := by omega
  have hlt2 : (pre.length : Int) < xs.length := by omega
  have hg : xs[pre.length]? = some x := by rw [hxs]; simp
  have hd := rows_drop Slot.ty.csn pre (x :: rest)
  rw [← hxs, rows_cons] at hd
  have hd : List.drop (pre.length * 2) (rows Slot.ty.cs xs) = AV.ro (rows B x.key) x.key.length :: AV.ro (rows B x.b) x.b.length :: rows Slot.ty.cs rest := hd
  have hd1 : List.drop (pre.length * 2 + 1) (rows Slot.ty.cs xs) = AV.ro (rows B x.b) x.b.length :: rows Slot.ty.cs rest := by rw [← List.drop_drop, hd]; rfl
  subst hn
  by_cases hB : x.b.length = 0
  case pos =>
    have e : dmg xs pre.length a v = xs := by simp [dmg, hg, hB]
    simp [hR, hlt, hlt2, hd1, hB, e, ex1, Slot.ocl, Slot.frL]
  have hB2 : ¬ ((x.b.length : Int) = 0) := by omega
  by_cases hA : a < 0
  case pos =>
    have hA2 : ¬ (0 ≤ a) := by omega
    have e : dmg xs pre.length a v = xs := by simp [dmg, hA2]
    simp [hR, hlt, hlt2, hd1, hB, hB2, hA, e, ex1, Slot.ocl, Slot.frL]
  obtain ⟨m, rfl⟩ : ∃ m : Nat, a = m := ⟨a.toNat, by omega⟩
  have hm : ¬ ((m : Int) < 0) := by omega
  simp [hR, hlt, hlt2, hd1, hB, hB2, hm]
  obtain ⟨bp, y, br, hbs, hbl⟩ : ∃ bp y br, x.b = bp ++ y :: br ∧ bp.length = m % x.b.length := by
    have hq : m % x.b.length < x.b.length := Nat.mod_lt _ (by omega)
    refine ⟨x.b.take (m % x.b.length), x.b[m % x.b.length], x.b.drop (m % x.b.length + 1), by simp, ?_⟩
    rw [List.length_take]
    omega
  have hbq : bp.length < x.b.length := by rw [hbs]; simp
  have hoc : rows Slot.ty.oc xs = rows Slot.ty.oc pre ++ (AV.own (rows B x.key) x.key.length 1 :: AV.own (rows B x.b) x.b.length 1 :: rows Slot.ty.oc rest) := by rw [hxs, rows_append, rows_cons]; rfl
  have hj : (rows Slot.ty.oc xs)[pre.length * 2 + 1]? = some (.own (rows B x.b) x.b.length 1) := by rw [hoc]; exact get_at Slot.ty.ocn pre _ 1
  refine T.le (Le.open 11 (pre.length * 2 + 1) 60 (by simp [upd_app]) hj (by simp [upd_app]) (idfreeL_rows B.fr _)) ?_
  have hst : (rows Slot.ty.oc xs).set (pre.length * 2 + 1) (.sl 60 0 x.b.length 1 false) = rows Slot.ty.oc pre ++ (AV.own (rows B x.key) x.key.length 1 :: .sl 60 0 x.b.length 1 false :: rows Slot.ty.oc rest) := by rw [hoc]; exact pack_at (n := 2) Slot.ty.ocn pre _ 1 _
  have ho1 : List.drop (pre.length * 2 + 1) (rows Slot.ty.oc pre ++ (AV.own (rows B x.key) x.key.length 1 :: .sl 60 0 x.b.length 1 false :: rows Slot.ty.oc rest)) = .sl 60 0 x.b.length 1 false :: rows Slot.ty.oc rest := by
    rw [← List.drop_drop, ← Slot.ocl pre, List.drop_left]; rfl
  have hrem : (m : Int).tmod x.b.length = bp.length := by rw [hbl]; rfl
  have hyd : List.drop bp.length (rows B x.b) = AV.sc (.int .u8 y) :: rows B br := by
    have := rows_drop B.len bp (y :: br)
    rw [← hbs, Nat.mul_one] at this
    rw [this]; rfl
  have hle3 : bp.length + 1 ≤ x.b.length := hbq
  refine T.cutW 400 [([], []), ([], []), ([], []), ([], []), ([], []), ([], []), ([], []), ([], []), ([], []), ([], []), ([], []), ([], []), ([], []), ([], []), ([], []), ([], []), ([], []), ([], []), ([], []), ([60], [])] mixed (by kernel_rfl) (by kernel_rfl) ?_
  simp [hlt, hlt2, hd1, hst, ho1, hB, hB2, hrem, hyd, hbq, hle3, B.count, over, merge_nil, hideH_nil, cutQ_normal]
  refine ⟨_, Le.pack 11 (pre.length * 2 + 1) (i := 60) (len := x.b.length) (sz := 1) (cs' := rows B (x.b.set bp.length (xr y (IntKind.u8.wrap v)))) (by simp [upd_app]; rfl) ?_ (by simp [upd_app, rowsB_set, xr]) (by decide) (by simp [B.count]) (idfreeL_rows B.fr _), ?_⟩
  · exact get_at (n := 2) Slot.ty.ocn pre _ 1
  have hgd : x.b.getD (m % x.b.length) 0 = y := by rw [← hbl, hbs]; simp
  have e : dmg xs pre.length m v = pre ++ ⟨x.key, x.b.set bp.length (xr y (IntKind.u8.wrap v))⟩ :: rest := by
    have hgd' := hgd
    simp [dmg, hR, hg, hB] at hgd' ⊢
    rw [hgd', ← hbl, hxs]
    simp
  have hst2 : (rows Slot.ty.oc pre ++ (AV.own (rows B x.key) x.key.length 1 :: .sl 60 0 x.b.length 1 false :: rows Slot.ty.oc rest)).set (pre.length * 2 + 1) (.own (rows B (x.b.set bp.length (xr y (IntKind.u8.wrap v)))) x.b.length 1) = rows Slot.ty.oc (pre ++ ⟨x.key, x.b.set bp.length (xr y (IntKind.u8.wrap v))⟩ :: rest) := by
    refine Eq.trans (pack_at (n := 2) Slot.ty.ocn pre _ 1 _) ?_
    rw [rows_append, rows_cons, Slot.oce]
    simp
    exact ⟨rfl, rfl⟩
  have hl9 : (pre ++ (⟨x.key, x.b.set bp.length (xr y (IntKind.u8.wrap v))⟩ : Slot) :: rest).length = xs.length := by rw [hle]; simp
  rw [e, hl9]
  refine T.on 400 ?_
  have hl10 : (pre.length + (rest.length + 1)) * 2 = xs.length * 2 := by rw [hle]
  simp [hst2, ex1, Slot.ocl, Slot.frL, hl10]
end Go.Proofs.YtaknfalbmblagaaGreatDoor.Am
namespace Go.Proofs.YtaknfalbmblagaaGreatDoor.Am
open Go Go.Proofs
set_option linter.unusedSimpArgs false
set_option linter.unusedVariables false
attribute [local congr] T_congr callK_congr callWK_congr
attribute [local simp] run_nil run_op0 run_opg run_seq run_cond run_block run_ret run_skip run_skip_after run_skip_blk run_exit run_exit_after run_exit_blk run_loop run_any runS_nil runS_op0 runS_opg runW_nil runW_op0 runW_opg exec_q exec_w exec_c exec_n execW_q execW_w execW_c restW_app hideH_app merge_app wblk rest_app restS_app execS_q execS_c aval dOk upd_app ev_t ev_c setO_some setO_none put_mk pinsOf isIo hasIo sbin endR fin resL one outL out1 clo1 cloL coe coeL shut shut.shutL wantA weff cellsOf fillA deref natOf ρ0_app h0_app plain plain.plainL keep_app keepH_app andThen_normal andThen_ret andThen_exit pop_nil pop_after pop_after_ret pop_after_exit pop_blk pop_blk_ret pop_blk_exit nilA srcOf srcCells keepR_app keepHR_app renA rb
structure Cur where
  b : List Int
  i : Nat
  h : Int
def Cur.ok (c : Cur) : Prop := Ty.byte.slice.ok c.b ∧ c.i ≤ c.b.length
def Cur.cs (c : Cur) : List AV := [.ro (rows B c.b) c.b.length, .sc (.int .i64 c.i), .sc (.int .i64 c.h)]
def stepH (h : Int) : Int := IntKind.i64.wrap (IntKind.i64.wrap (h * 6364136223846793005) + 1442695040888963407)
def low8 (a : Int) : Int := IntKind.i64.wrap (((a % 2 ^ IntKind.i64.bits).toNat &&& 255 % 2 ^ IntKind.i64.bits : Nat) : Int)
def mixI (h : Int) : Int := IntKind.i64.wrap (((h.fdiv (2 ^ min 33 IntKind.i64.bits) % 2 ^ IntKind.i64.bits).toNat ^^^ (h.fdiv (2 ^ min 47 IntKind.i64.bits) % 2 ^ IntKind.i64.bits).toNat : Nat) : Int)
def byteV (c : Cur) : Int := if c.i < c.b.length then low8 (IntKind.i64.wrap (low8 (mixI (stepH c.h)) + IntKind.i64.wrap (c.b[c.i]?.getD 0))) else low8 (mixI (stepH c.h))
def byteC (c : Cur) : Cur := ⟨c.b, if c.i < c.b.length then c.i + 1 else c.i, stepH c.h⟩
theorem low8_rng (a : Int) : 0 ≤ low8 a ∧ low8 a ≤ 255 := by
  have h : (a % 2 ^ IntKind.i64.bits).toNat &&& 255 % 2 ^ IntKind.i64.bits ≤ 255 := Nat.le_trans Nat.and_le_right (Nat.mod_le _ _)
  unfold low8
  rw [wrap_i64 (by omega) (by omega)]
  omega
theorem byteV_rng (c : Cur) : 0 ≤ byteV c ∧ byteV c ≤ 255 := by
  unfold byteV
  split <;> exact low8_rng _
theorem byteC_ok {c : Cur} (h : c.ok) : (byteC c).ok := by
  refine ⟨h.1, ?_⟩
  have := h.2
  simp only [byteC]
  split <;> omega
theorem rowsB_get : ∀ (xs : List Int) (i : Nat), i < xs.length → ∃ br, List.drop i (rows B xs) = .sc (.int .u8 (xs[i]?.getD 0)) :: br
  | [], i, h => by simp at h
  | x :: xs, 0, h => ⟨rows B xs, by rw [rows_cons]; simp [B]⟩
  | x :: xs, i + 1, h => by
    obtain ⟨br, e⟩ := rowsB_get xs i (by simpa using h)
    exact ⟨br, by rw [rows_cons]; simpa [B] using e⟩
/- 76: loop.example/g00464/spec.l1Byte -/
def A76 : AC := (.seq (.ops [⟨(some 2), none, .q (.mov (.c (.sc (.int .i64 0))))⟩])
  (.seq (.ops [⟨(some 4), none, .q (.mov (.t 0))⟩, ⟨(some 5), none, .q (.mov (.t 0))⟩, ⟨(some 6), none, .q (.nilc (.t 5))⟩, ⟨(some 7), none, .q (.fadr 2 (.t 6))⟩, ⟨(some 8), none, .q (.load false 1 (.t 7))⟩, ⟨(some 9), none, .q (.bin .mul (.t 8) (.c (.sc (.int .i64 6364136223846793005))))⟩, ⟨(some 10), none, .q (.bin .add (.t 9) (.c (.sc (.int .i64 1442695040888963407))))⟩, ⟨(some 11), none, .q (.nilc (.t 4))⟩, ⟨(some 12), none, .q (.fadr 2 (.t 11))⟩, ⟨none, none, .w (.store 1 (.t 12) (.t 10))⟩])
  (.seq (.any [(⟨(some 13), none, .q (.mov (.t 0))⟩, []), (⟨(some 14), none, .q (.nilc (.t 13))⟩, [0]), (⟨(some 15), none, .q (.fadr 2 (.t 14))⟩, [1]), (⟨(some 16), none, .q (.load false 1 (.t 15))⟩, [2]), (⟨(some 17), none, .q (.bin .shr (.t 16) (.c (.sc (.int .u64 33))))⟩, [3]), (⟨(some 18), none, .q (.mov (.t 0))⟩, []), (⟨(some 19), none, .q (.nilc (.t 18))⟩, [5]), (⟨(some 20), none, .q (.fadr 2 (.t 19))⟩, [6]), (⟨(some 21), none, .q (.load false 1 (.t 20))⟩, [7]), (⟨(some 22), none, .q (.bin .shr (.t 21) (.c (.sc (.int .u64 47))))⟩, [8]), (⟨(some 23), none, .q (.bin .xor (.t 17) (.t 22))⟩, [4, 9]), (⟨(some 24), none, .q (.bin .and (.t 23) (.c (.sc (.int .i64 255))))⟩, [10]), (⟨(some 3), none, .q (.mov (.t 24))⟩, [11, 0, 1, 2, 3, 4, 5, 6, 7, 8, 9, 10, 11])])
  (.seq (.seq (.any [(⟨(some 25), none, .q (.mov (.t 0))⟩, []), (⟨(some 26), none, .q (.nilc (.t 25))⟩, [0]), (⟨(some 27), none, .q (.fadr 1 (.t 26))⟩, [1]), (⟨(some 28), none, .q (.load false 1 (.t 27))⟩, [2]), (⟨(some 29), none, .q (.mov (.t 0))⟩, []), (⟨(some 30), none, .q (.nilc (.t 29))⟩, [4]), (⟨(some 31), none, .q (.fadr 0 (.t 30))⟩, [5]), (⟨(some 32), none, .q (.load false 1 (.t 31))⟩, [6]), (⟨(some 33), none, .q (.llen (.t 32))⟩, [7]), (⟨(some 34), none, .q (.bin .lss (.t 28) (.t 33))⟩, [3, 8])])
  (.cond (.t 34) (.seq (.any [(⟨(some 35), none, .q (.mov (.t 3))⟩, []), (⟨(some 36), none, .q (.mov (.t 0))⟩, []), (⟨(some 37), none, .q (.nilc (.t 36))⟩, [1]), (⟨(some 38), none, .q (.fadr 0 (.t 37))⟩, [2]), (⟨(some 39), none, .q (.load false 1 (.t 38))⟩, [3]), (⟨(some 40), none, .q (.mov (.t 0))⟩, []), (⟨(some 41), none, .q (.nilc (.t 40))⟩, [5]), (⟨(some 42), none, .q (.fadr 1 (.t 41))⟩, [6]), (⟨(some 43), none, .q (.load false 1 (.t 42))⟩, [7]), (⟨(some 44), none, .q (.iadr 1 (.t 39) (.t 43))⟩, [4, 8]), (⟨(some 45), none, .q (.load false 1 (.t 44))⟩, [9]), (⟨(some 46), none, .q (.cvi .i64 (.t 45))⟩, [10]), (⟨(some 47), none, .q (.bin .add (.t 35) (.t 46))⟩, [0, 11]), (⟨(some 48), none, .q (.bin .and (.t 47) (.c (.sc (.int .i64 255))))⟩, [12]), (⟨(some 3), none, .q (.mov (.t 48))⟩, [13, 0, 1, 2, 3, 4, 5, 6, 7, 8, 9, 10, 11, 12, 13])])
  (.ops [⟨(some 49), none, .q (.mov (.t 0))⟩, ⟨(some 50), none, .q (.mov (.t 0))⟩, ⟨(some 51), none, .q (.nilc (.t 50))⟩, ⟨(some 52), none, .q (.fadr 1 (.t 51))⟩, ⟨(some 53), none, .q (.load false 1 (.t 52))⟩, ⟨(some 54), none, .q (.bin .add (.t 53) (.c (.sc (.int .i64 1))))⟩, ⟨(some 55), none, .q (.nilc (.t 49))⟩, ⟨(some 56), none, .q (.fadr 1 (.t 55))⟩, ⟨none, none, .w (.store 1 (.t 56) (.t 54))⟩]))
  .skip))
  (.seq (.ops [⟨(some 57), none, .q (.mov (.t 3))⟩, ⟨(some 2), none, .q (.mov (.t 57))⟩])
  .ret)))))
theorem K76 : Tryz.f76.body.bind (comp Tryz.prog) = some A76 ∧ Tryz.f76.ntmps = 58 ∧ Tryz.f76.results.toList.mapM (resB Tryz.prog) = some [.mov (.t 2)] := ⟨by kernel_rfl, by kernel_rfl, by kernel_rfl⟩
theorem R76 (c : Cur) (hc : c.ok) : Ret Tryz.prog 76 [.bx c.cs] (.sc (.int .i64 (byteV c))) [.bx (byteC c).cs] := by
  have hb : c.b.length * 1 ≤ 140737488351232 := hc.1.1
  refine Ret.run Tryz.func76 K76 (by simp) rfl rfl 900 ?_
  simp [A76, iniρ, Cur.cs, over]
  refine T.text 400 mixed (by kernel_rfl) (by kernel_rfl) ?_
  simp
  refine T.text 400 mixed (by kernel_rfl) (by kernel_rfl) ?_
  by_cases hlt : c.i < c.b.length
  case neg =>
    have hlt2 : ¬ ((c.i : Int) < c.b.length) := by omega
    simp [hlt2, ex1, byteV, byteC, low8, mixI, stepH, Cur.cs, hlt, idfree.idfreeL, idfree, ioPos1]
  have hlt2 : (c.i : Int) < c.b.length := by omega
  have hw : IntKind.i64.wrap ((c.i : Int) + 1) = c.i + 1 := wrap_i64 (by omega) (by omega)
  obtain ⟨br, hd⟩ := rowsB_get c.b c.i hlt
  simp [hlt2]
  refine T.textW 400 [([], []), ([], []), ([], []), ([], []), ([], []), ([], []), ([], []), ([], []), ([], []), ([], []), ([], []), ([], []), ([], []), ([], []), ([], [])] mixed (by kernel_rfl) (by kernel_rfl) ?_
  simp [hlt, hlt2, hd, hw, over, merge_nil, hideH_nil, ex1, byteV, byteC, low8, mixI, stepH, Cur.cs, idfree.idfreeL, idfree, ioPos1]
def belowV (c : Cur) (n : Int) : Int := if n ≤ 0 then 0 else if n ≤ 256 then (byteV c).tmod n else (byteV c * 65536 + byteV (byteC c) * 256 + byteV (byteC (byteC c))).tmod n
def belowC (c : Cur) (n : Int) : Cur := if n ≤ 0 then c else if n ≤ 256 then byteC c else byteC (byteC (byteC c))
theorem belowC_ok {c : Cur} (h : c.ok) (n : Int) : (belowC c n).ok := by
  unfold belowC
  split
  · exact h
  · split
    · exact byteC_ok h
    · exact byteC_ok (byteC_ok (byteC_ok h))
theorem belowV_rng (c : Cur) {n : Int} (h : 0 < n) : 0 ≤ belowV c n ∧ belowV c n < n := by
  have h1 := byteV_rng c
  have h2 := byteV_rng (byteC c)
  have h3 := byteV_rng (byteC (byteC c))
  unfold belowV
  rw [if_neg (by omega)]
  split
  · exact ⟨Int.tmod_nonneg _ (by omega), Int.tmod_lt_of_pos _ h⟩
  · exact ⟨Int.tmod_nonneg _ (by omega), Int.tmod_lt_of_pos _ h⟩
/- 42: loop.example/g00464/spec.l1Below -/
def A42 : AC := (.seq (.ops [⟨(some 4), none, .q (.mov (.c (.sc (.int .i64 0))))⟩])
  (.seq (.seq (.ops [⟨(some 8), none, .q (.mov (.t 1))⟩, ⟨(some 9), none, .q (.bin .leq (.t 8) (.c (.sc (.int .i64 0))))⟩])
  (.cond (.t 9) (.seq (.ops [⟨(some 4), none, .q (.mov (.c (.sc (.int .i64 0))))⟩])
  .ret)
  .skip))
  (.seq (.seq (.ops [⟨(some 10), none, .q (.mov (.t 1))⟩, ⟨(some 11), none, .q (.bin .leq (.t 10) (.c (.sc (.int .i64 256))))⟩])
  (.cond (.t 11) (.seq (.ops [⟨(some 12), none, .q (.mov (.t 0))⟩, ⟨(some 13), none, .c (.c (.clo 76 [])) [(.t 12)]⟩, ⟨(some 14), none, .q (.mov (.t 1))⟩, ⟨(some 15), none, .q (.bin .rem (.t 13) (.t 14))⟩, ⟨(some 4), none, .q (.mov (.t 15))⟩])
  .ret)
  .skip))
  (.seq (.ops [⟨(some 16), none, .q (.mov (.t 0))⟩, ⟨(some 17), none, .c (.c (.clo 76 [])) [(.t 16)]⟩, ⟨(some 5), none, .q (.mov (.t 17))⟩])
  (.seq (.ops [⟨(some 18), none, .q (.mov (.t 0))⟩, ⟨(some 19), none, .c (.c (.clo 76 [])) [(.t 18)]⟩, ⟨(some 6), none, .q (.mov (.t 19))⟩])
  (.seq (.ops [⟨(some 20), none, .q (.mov (.t 0))⟩, ⟨(some 21), none, .c (.c (.clo 76 [])) [(.t 20)]⟩, ⟨(some 7), none, .q (.mov (.t 21))⟩])
  (.seq (.ops [⟨(some 22), none, .q (.mov (.t 5))⟩, ⟨(some 23), none, .q (.bin .mul (.t 22) (.c (.sc (.int .i64 65536))))⟩, ⟨(some 24), none, .q (.mov (.t 6))⟩, ⟨(some 25), none, .q (.bin .mul (.t 24) (.c (.sc (.int .i64 256))))⟩, ⟨(some 26), none, .q (.bin .add (.t 23) (.t 25))⟩, ⟨(some 27), none, .q (.mov (.t 7))⟩, ⟨(some 28), none, .q (.bin .add (.t 26) (.t 27))⟩, ⟨(some 29), none, .q (.mov (.t 1))⟩, ⟨(some 30), none, .q (.bin .rem (.t 28) (.t 29))⟩, ⟨(some 4), none, .q (.mov (.t 30))⟩])
  .ret)))))))
theorem K42 : Tryz.f42.body.bind (comp Tryz.prog) = some A42 ∧ Tryz.f42.ntmps = 31 ∧ Tryz.f42.results.toList.mapM (resB Tryz.prog) = some [.mov (.t 4)] := ⟨by kernel_rfl, by kernel_rfl, by kernel_rfl⟩
theorem R42 (c : Cur) (hc : c.ok) (n : Int) : Ret Tryz.prog 42 [.bx c.cs, .sc (.int .i64 n)] (.sc (.int .i64 (belowV c n))) [.bx (belowC c n).cs, .un] := by
  refine Ret.run Tryz.func42 K42 (by simp) rfl rfl 900 ?_
  have fr : ∀ c : Cur, idfree.idfreeL c.cs = true := fun c => rfl
  by_cases h0 : n ≤ 0
  · simp [A42, iniρ, h0, belowV, belowC, ex1, fr, ioPos1]
  by_cases h1 : n ≤ 256
  · have hn : ¬ n = 0 := by omega
    simp [A42, iniρ, h0, h1]
    refine callK.bx (b := 100000) 0 rfl (by kernel_rfl) (by simp [upd_app]) (by simp [upd_app]) (fr c) rfl (by simp) (R76 c hc) rfl (by rfl) rfl ?_
    simp [h0, h1, hn, belowV, belowC, ex1, fr, ioPos1]
  simp [A42, iniρ, h0, h1]
  refine callK.bx (b := 100000) 0 rfl (by kernel_rfl) (by simp [upd_app]) (by simp [upd_app]) (fr c) rfl (by simp) (R76 c hc) rfl (by rfl) rfl ?_
  simp
  refine callK.bx (b := 100000) 0 rfl (by kernel_rfl) (by simp [upd_app]) (by simp [upd_app]) (fr _) rfl (by simp) (R76 _ (byteC_ok hc)) rfl (by rfl) rfl ?_
  simp
  refine callK.bx (b := 100000) 0 rfl (by kernel_rfl) (by simp [upd_app]) (by simp [upd_app]) (fr _) rfl (by simp) (R76 _ (byteC_ok (byteC_ok hc))) rfl (by rfl) rfl ?_
  have q1 := byteV_rng c
  have q2 := byteV_rng (byteC c)
  have q3 := byteV_rng (byteC (byteC c))
  have w1 : IntKind.i64.wrap (byteV c * 65536) = byteV c * 65536 := wrap_i64 (by omega) (by omega)
  have w2 : IntKind.i64.wrap (byteV (byteC c) * 256) = byteV (byteC c) * 256 := wrap_i64 (by omega) (by omega)
  have w3 : IntKind.i64.wrap (byteV c * 65536 + byteV (byteC c) * 256) = byteV c * 65536 + byteV (byteC c) * 256 := wrap_i64 (by omega) (by omega)
  have w4 : IntKind.i64.wrap (byteV c * 65536 + byteV (byteC c) * 256 + byteV (byteC (byteC c))) = byteV c * 65536 + byteV (byteC c) * 256 + byteV (byteC (byteC c)) := wrap_i64 (by omega) (by omega)
  have hn : ¬ n = 0 := by omega
  simp [h0, h1, hn, w1, w2, w3, w4, belowV, belowC, ex1, fr, ioPos1]
/- 41: loop.example/g00464/spec.l1Once -/
/- 77: loop.example/g00464/spec.l1Str -/
def A77 : AC := (.seq (.ops [⟨(some 4), none, .q (.mov (.c (.sc (.string ⟨#[]⟩))))⟩])
  (.seq (.ops [⟨(some 5), none, .q (.mov (.t 1))⟩, ⟨(some 6), none, .q (.mov (.t 0))⟩, ⟨(some 7), none, .q (.mov (.t 1))⟩, ⟨(some 8), none, .q (.llen (.t 7))⟩, ⟨(some 9), none, .c (.c (.clo 42 [])) [(.t 6), (.t 8)]⟩, ⟨(some 10), none, .q (.iadr 1 (.t 5) (.t 9))⟩, ⟨(some 11), none, .q (.load false 1 (.t 10))⟩, ⟨(some 4), none, .q (.mov (.t 11))⟩])
  .ret))
theorem K77 : Tryz.f77.body.bind (comp Tryz.prog) = some A77 ∧ Tryz.f77.ntmps = 12 ∧ Tryz.f77.results.toList.mapM (resB Tryz.prog) = some [.mov (.t 4)] := ⟨by kernel_rfl, by kernel_rfl, by kernel_rfl⟩
theorem R77 (c : Cur) (hc : c.ok) (xs : List ByteArray) (hx : 0 < xs.length) : Ret Tryz.prog 77 [.bx c.cs, .own (rows Ty.str.oc xs) xs.length 1] (.sc (.string (xs[(belowV c xs.length).toNat]?.getD default))) [.bx (belowC c xs.length).cs, .un] := by
  have fr : ∀ c : Cur, idfree.idfreeL c.cs = true := fun c => rfl
  refine Ret.run Tryz.func77 K77 (by simp) rfl rfl 900 ?_
  simp [A77, iniρ]
  refine callK.bx (b := 100000) 0 rfl (by kernel_rfl) (by simp [upd_app]) (by simp [upd_app]) (fr c) (by simp [upd_app]) (by simp) (R42 c hc xs.length) rfl (by rfl) rfl ?_
  obtain ⟨r1, r2⟩ := belowV_rng c (n := xs.length) (by omega)
  obtain ⟨m, hm⟩ : ∃ m : Nat, belowV c xs.length = m := ⟨(belowV c xs.length).toNat, by omega⟩
  rw [hm] at r1 r2 ⊢
  have r3 : m < xs.length := by omega
  have hd : List.drop m (rows Ty.str.oc xs) = .sc (.string (xs[m]?.getD default)) :: rows Ty.str.oc (xs.drop (m + 1)) := by
    have h := rows_drop Ty.str.ocn (xs.take m) (xs.drop m)
    rw [List.take_append_drop, List.length_take, Nat.min_eq_left (by omega)] at h
    have h : List.drop m (rows Ty.str.oc xs) = rows Ty.str.oc (xs.drop m) := by
      have h2 := h
      rwa [show m * Ty.str.n = m from Nat.mul_one m] at h2
    rw [h, List.drop_eq_getElem_cons r3, rows_cons]
    simp [r3]
    rfl
  simp [r2, r3, hd, ex1, fr, ioPos1]
/- 63: loop.example/g00464/spec.l1Int -/
def A63 : AC := (.seq (.ops [⟨(some 4), none, .q (.mov (.c (.sc (.int .i64 0))))⟩])
  (.seq (.ops [⟨(some 5), none, .q (.mov (.t 1))⟩, ⟨(some 6), none, .q (.mov (.t 0))⟩, ⟨(some 7), none, .q (.mov (.t 1))⟩, ⟨(some 8), none, .q (.llen (.t 7))⟩, ⟨(some 9), none, .c (.c (.clo 42 [])) [(.t 6), (.t 8)]⟩, ⟨(some 10), none, .q (.iadr 1 (.t 5) (.t 9))⟩, ⟨(some 11), none, .q (.load false 1 (.t 10))⟩, ⟨(some 4), none, .q (.mov (.t 11))⟩])
  .ret))
theorem K63 : Tryz.f63.body.bind (comp Tryz.prog) = some A63 ∧ Tryz.f63.ntmps = 12 ∧ Tryz.f63.results.toList.mapM (resB Tryz.prog) = some [.mov (.t 4)] := ⟨by kernel_rfl, by kernel_rfl, by kernel_rfl⟩
theorem R63 (c : Cur) (hc : c.ok) (xs : List Int) (hx : 0 < xs.length) : Ret Tryz.prog 63 [.bx c.cs, .own (rows Ty.int.oc xs) xs.length 1] (.sc (.int .i64 (xs[(belowV c xs.length).toNat]?.getD 0))) [.bx (belowC c xs.length).cs, .un] := by
  have fr : ∀ c : Cur, idfree.idfreeL c.cs = true := fun c => rfl
  refine Ret.run Tryz.func63 K63 (by simp) rfl rfl 900 ?_
  simp [A63, iniρ]
  refine callK.bx (b := 100000) 0 rfl (by kernel_rfl) (by simp [upd_app]) (by simp [upd_app]) (fr c) (by simp [upd_app]) (by simp) (R42 c hc xs.length) rfl (by rfl) rfl ?_
  obtain ⟨r1, r2⟩ := belowV_rng c (n := xs.length) (by omega)
  obtain ⟨m, hm⟩ : ∃ m : Nat, belowV c xs.length = m := ⟨(belowV c xs.length).toNat, by omega⟩
  rw [hm] at r1 r2 ⊢
  have r3 : m < xs.length := by omega
  have hd : List.drop m (rows Ty.int.oc xs) = .sc (.int .i64 (xs[m]?.getD 0)) :: rows Ty.int.oc (xs.drop (m + 1)) := by
    have h := rows_drop Ty.int.ocn (xs.take m) (xs.drop m)
    rw [List.take_append_drop, List.length_take, Nat.min_eq_left (by omega)] at h
    have h : List.drop m (rows Ty.int.oc xs) = rows Ty.int.oc (xs.drop m) := by
      have h2 := h
      rwa [show m * Ty.int.n = m from Nat.mul_one m] at h2
    rw [h, List.drop_eq_getElem_cons r3, rows_cons]
    simp [r3]
    rfl
  simp [r2, r3, hd, ex1, fr, ioPos1]
def low30 (a : Int) : Int := IntKind.i64.wrap (((a % 2 ^ IntKind.i64.bits).toNat &&& 1073741823 % 2 ^ IntKind.i64.bits : Nat) : Int)
def newS (h y : Int) : Int := low30 (IntKind.i64.wrap (IntKind.i64.wrap (IntKind.i64.wrap (h * 137) + IntKind.i64.wrap y) + 11))
def newH : Nat → List Int → Int → Int
  | 0, _, h => h
  | _ + 1, [], h => h
  | n + 1, y :: l, h => newH n l (newS h y)
def newC (b : List Int) : Cur := ⟨b, 0, newH 4000 b (778778 + b.length)⟩
theorem newC_ok {b : List Int} (h : Ty.byte.slice.ok b) : (newC b).ok := ⟨h, Nat.zero_le _⟩
/- 39: loop.example/g00464/spec.l1New -/
def A39 : AC := (.seq (.ops [⟨(some 2), none, .q (.mov (.c (.sc (.pointer none))))⟩])
  (.seq (.ops [⟨(some 5), none, .q (.mov (.t 0))⟩, ⟨(some 6), none, .q (.llen (.t 5))⟩, ⟨(some 7), none, .q (.bin .add (.c (.sc (.int .i64 778778))) (.t 6))⟩, ⟨(some 3), none, .q (.mov (.t 7))⟩])
  (.seq (.seq (.ops [⟨(some 4), none, .q (.mov (.c (.sc (.int .i64 0))))⟩])
  (.block 0 (.loop (.seq (.seq (.ops [⟨(some 8), none, .q (.mov (.t 4))⟩, ⟨(some 9), none, .q (.mov (.t 0))⟩, ⟨(some 10), none, .q (.llen (.t 9))⟩, ⟨(some 11), none, .q (.bin .lss (.t 8) (.t 10))⟩, ⟨(some 12), none, .q (.mov (.t 11))⟩, ⟨(some 13), (some (12, true)), .q (.mov (.t 4))⟩, ⟨(some 14), (some (12, true)), .q (.bin .lss (.t 13) (.c (.sc (.int .i64 4000))))⟩, ⟨(some 15), none, .q (.pick (.t 12) (.t 14) (.c (.sc (.bool false))))⟩])
  (.cond (.t 15) .skip
  (.exit 0)))
  (.seq (.block 1 (.ops [⟨(some 18), none, .q (.mov (.t 3))⟩, ⟨(some 19), none, .q (.bin .mul (.t 18) (.c (.sc (.int .i64 137))))⟩, ⟨(some 20), none, .q (.mov (.t 0))⟩, ⟨(some 21), none, .q (.mov (.t 4))⟩, ⟨(some 22), none, .q (.iadr 1 (.t 20) (.t 21))⟩, ⟨(some 23), none, .q (.load false 1 (.t 22))⟩, ⟨(some 24), none, .q (.cvi .i64 (.t 23))⟩, ⟨(some 25), none, .q (.bin .add (.t 19) (.t 24))⟩, ⟨(some 26), none, .q (.bin .add (.t 25) (.c (.sc (.int .i64 11))))⟩, ⟨(some 27), none, .q (.bin .and (.t 26) (.c (.sc (.int .i64 1073741823))))⟩, ⟨(some 3), none, .q (.mov (.t 27))⟩]))
  (.ops [⟨(some 16), none, .q (.mov (.t 4))⟩, ⟨(some 17), none, .q (.bin .add (.t 16) (.c (.sc (.int .i64 1))))⟩, ⟨(some 4), none, .q (.mov (.t 17))⟩]))))))
  (.seq (.ops [⟨(some 28), none, .q (.mov (.t 0))⟩, ⟨(some 29), none, .q (.mov (.t 3))⟩, ⟨(some 30), none, .w (.build [.em, (.sc (.int .i64 0)), (.sc (.int .i64 0))] [(0, 1, (.t 28)), (2, 1, (.t 29))])⟩, ⟨(some 31), none, .w (.box (.t 30))⟩, ⟨(some 2), none, .q (.mov (.t 31))⟩])
  .ret))))
theorem K39 : Tryz.f39.body.bind (comp Tryz.prog) = some A39 ∧ Tryz.f39.ntmps = 32 ∧ Tryz.f39.results.toList.mapM (resB Tryz.prog) = some [.mov (.t 2)] := ⟨by kernel_rfl, by kernel_rfl, by kernel_rfl⟩
theorem R39 (b : List Int) (hx : Ty.byte.slice.ok b) : Ret Tryz.prog 39 [.ro (rows B b) b.length] (.bx (newC b).cs) [.un] := by
  have hb : b.length * 1 ≤ 140737488351232 := hx.1
  have hw0 : IntKind.i64.wrap (778778 + (b.length : Int)) = 778778 + b.length := wrap_i64 (by omega) (by omega)
  refine Ret.run Tryz.func39 K39 (by simp) rfl rfl 900 ?_
  simp [A39, iniρ, hw0]
  refine T.rounds (μ := fun i : List Int × List Int × Int => i.2.1.length)
    (fun i s => i.1 ++ i.2.1 = b ∧ i.1.length ≤ 4000 ∧ newH (4000 - i.1.length) i.2.1 i.2.2 = newH 4000 b (778778 + b.length) ∧ s.ρ 0 = .ro (rows B b) b.length ∧ s.ρ 3 = .sc (.int .i64 i.2.2) ∧ s.ρ 4 = .sc (.int .i64 i.1.length) ∧ s.h 31 = none ∧ s.n = 32) ([], b, 778778 + b.length) (by simp [upd_app]) ?_
  rintro ⟨pre, rest, h⟩ ⟨ρ, hh, n⟩ ⟨hx, hp, hE, h0', h3', h4', hf, rfl⟩
  simp only at hx hp hE h0' h3' h4' hf
  refine run_ok (n := 400) ?_
  cases rest with
  | nil =>
    have hl : pre.length = b.length := by rw [← hx]; simp
    have hE2 : h = newH 4000 b (778778 + b.length) := by rw [← hE]; cases 4000 - pre.length <;> rfl
    simp [h0', h4', hl]
    refine T.on 400 ?_
    simp [h0', h3', hf, over, ex1, Cur.cs, newC, ← hE2, idfree.idfreeL, idfree]
  | cons y rest =>
    have hle : pre.length + (rest.length + 1) = b.length := by rw [← hx]; simp
    have hlt : (pre.length : Int) < b.length := by omega
    by_cases h4k : pre.length = 4000
    · have hE2 : h = newH 4000 b (778778 + b.length) := by rw [← hE, h4k]; rfl
      have h4l : ¬ ((pre.length : Int) < 4000) := by omega
      simp [h0', h4', hlt, h4l]
      refine T.on 400 ?_
      simp [h0', h3', hf, over, ex1, Cur.cs, newC, ← hE2, idfree.idfreeL, idfree]
    have h4l : (pre.length : Int) < 4000 := by omega
    have hd := rows_drop B.len pre (y :: rest)
    rw [hx, rows_cons, Nat.mul_one] at hd
    have hw : IntKind.i64.wrap ((pre.length : Int) + 1) = pre.length + 1 := wrap_i64 (by omega) (by omega)
    have hs : 4000 - pre.length = (4000 - (pre.length + 1)) + 1 := by omega
    rw [hs] at hE
    simp [h0', h3', h4', hlt, h4l, hd, B, hw]
    refine ⟨pre ++ [y], rest, by simp, newS h y, _, Le.refl _, ?_⟩
    simp [hx, h0', hf, upd_app, ← hE, newH, newS, low30]
    omega
def pickS (l : List ByteArray) (c : Cur) (n : Int) : ByteArray := l[(belowV c n).toNat]?.getD default
theorem pick_size {l : List ByteArray} {n : Nat} (h : ∀ x ∈ l, x.size ≤ n) (c : Cur) (k : Int) : (pickS l c k).size ≤ n := by
  unfold pickS
  cases e : l[(belowV c k).toNat]? with
  | none => exact Nat.zero_le _
  | some y => exact h y (List.mem_of_getElem? e)
theorem rowsRep : ∀ n : Nat, rows B (List.replicate n 0) = List.replicate n (AV.sc (.int .u8 0))
  | 0 => rfl
  | n + 1 => by rw [List.replicate_succ, rows_cons, rowsRep n, List.replicate_succ]; rfl
theorem bytesRep {h : Hp} {b n : Nat} (hb : h b = some (some (List.replicate n (AV.sc (.int .u8 0))))) : bytesA h (.sl b 0 n 1 false) = some (List.replicate n 0) := by
  have hn := B.num (List.replicate n 0)
  rw [rowsRep] at hn
  simp [bytesA, hb, hn]
end Go.Proofs.YtaknfalbmblagaaGreatDoor.Am
namespace Go.Proofs.YtaknfalbmblagaaGreatDoor.Am
open Go Go.Proofs
set_option linter.unusedSimpArgs false
set_option linter.unusedVariables false
attribute [local congr] T_congr callK_congr callWK_congr
attribute [local simp] run_nil run_op0 run_opg run_seq run_cond run_block run_ret run_skip run_skip_after run_skip_blk run_exit run_exit_after run_exit_blk run_loop run_any runS_nil runS_op0 runS_opg runW_nil runW_op0 runW_opg exec_q exec_w exec_c exec_n execW_q execW_w execW_c restW_app hideH_app merge_app wblk rest_app restS_app execS_q execS_c aval dOk upd_app ev_t ev_c setO_some setO_none put_mk pinsOf isIo hasIo sbin endR fin resL one outL out1 clo1 cloL coe coeL shut shut.shutL wantA weff cellsOf fillA deref natOf ρ0_app h0_app plain plain.plainL keep_app keepH_app andThen_normal andThen_ret andThen_exit pop_nil pop_after pop_after_ret pop_after_exit pop_blk pop_blk_ret pop_blk_exit nilA srcOf srcCells keepR_app keepHR_app renA rb
end Go.Proofs.YtaknfalbmblagaaGreatDoor.Am
