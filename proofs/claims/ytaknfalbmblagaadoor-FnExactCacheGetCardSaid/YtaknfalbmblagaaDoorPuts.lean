/- The functions of the program, each by its contract: Puts; no condition. -/
import Derived.Test.YtaknfalbmblagaaDoorProg
import Derived.Test.YtaknfalbmblagaaDoorAmZ
import Derived.Test.YtaknfalbmblagaaDoorAmP
import Derived.Test.YtaknfalbmblagaaDoorNums
import Derived.Test.YtaknfalbmblagaaDoorAmK
import Derived.KernelRfl
namespace Go.Proofs.YtaknfalbmblagaaDoor.Am
open Go Go.Proofs
set_option linter.unusedSimpArgs false
set_option linter.unusedVariables false
attribute [local congr] T_congr callK_congr callWK_congr
attribute [local simp] run_nil run_op0 run_opg run_seq run_cond run_block run_ret run_skip run_skip_after run_skip_blk run_exit run_exit_after run_exit_blk run_loop run_any runS_nil runS_op0 runS_opg runW_nil runW_op0 runW_opg exec_q exec_w exec_c exec_n execW_q execW_w execW_c restW_app hideH_app merge_app wblk rest_app restS_app execS_q execS_c aval dOk upd_app ev_t ev_c setO_some setO_none put_mk pinsOf isIo hasIo sbin endR fin resL one outL out1 clo1 cloL coe coeL shut shut.shutL wantA weff cellsOf fillA deref natOf ρ0_app h0_app plain plain.plainL keep_app keepH_app andThen_normal andThen_ret andThen_exit pop_nil pop_after pop_after_ret pop_after_exit pop_blk pop_blk_ret pop_blk_exit nilA srcOf srcCells keepR_app keepHR_app renA rb
def putFs : List Int → List File → List Int
  | b, [] => b
  | b, f :: l => putFs (putT (putT b f.path) f.text) l
def putFl (b : List Int) (l : List File) : List Int := putFs (putT b (numT l.length)) l
def fw : List File → Nat
  | [] => 0
  | f :: l => f.path.size + f.text.size + 4 + fw l
theorem putT_le (b : List Int) (s : ByteArray) : (putT b s).length ≤ b.length + s.size + 2 := by
  unfold putT
  split
  · have := sB_len s
    simp only [List.length_append, hiL, List.length_cons, List.length_nil, this]; omega
  · omega
theorem putFs_le : ∀ (l : List File) (b : List Int), (putFs b l).length ≤ b.length + fw l
  | [], b => Nat.le_refl _
  | f :: l, b => by
    have h1 := putT_le b f.path
    have h2 := putT_le (putT b f.path) f.text
    have h3 := putFs_le l (putT (putT b f.path) f.text)
    rw [putFs, fw]; omega
theorem B_fl (b : List Int) : flt (.own (rows B b) b.length 1) = true := B.flo b
theorem B_cnt (b : List Int) : (rows B b).length = b.length * 1 := by rw [Nat.mul_one]; exact B.count b
/- 56: loop.example/g00464/impl.putFiles -/
def A56 : AC := (.seq (.ops [⟨(some 4), none, .q (.mov (.c .em))⟩])
  (.seq (.ops [⟨(some 7), none, .q (.mov (.t 0))⟩, ⟨(some 8), none, .q (.mov (.t 1))⟩, ⟨(some 9), none, .q (.llen (.t 8))⟩, ⟨(some 10), none, .c (.c (.clo 55 [])) [(.t 9)]⟩, ⟨(some 11), none, .c (.c (.clo 57 [])) [(.t 7), (.t 10)]⟩, ⟨(some 0), none, .q (.mov (.t 11))⟩])
  (.seq (.seq (.ops [⟨(some 12), none, .q (.mov (.t 1))⟩, ⟨(some 13), none, .q (.llen (.t 12))⟩, ⟨(some 14), none, .q (.mov (.c (.sc (.int .i64 0))))⟩])
  (.block 0 (.loop (.seq (.ops [⟨(some 15), none, .q (.bin .lss (.t 14) (.t 13))⟩])
  (.seq (.cond (.t 15) .skip
  (.exit 0))
  (.seq (.block 1 (.seq (.ops [⟨(some 16), none, .q (.iadr 2 (.t 12) (.t 14))⟩, ⟨(some 17), none, .q (.load true 2 (.t 16))⟩, ⟨(some 6), none, .w (.alloc [(.sc (.string ⟨#[]⟩)), (.sc (.string ⟨#[]⟩))])⟩, ⟨none, none, .w (.store 2 (.t 6) (.t 17))⟩])
  (.any [(⟨(some 18), none, .q (.mov (.t 0))⟩, []), (⟨(some 19), none, .q (.fadr 0 (.t 6))⟩, []), (⟨(some 20), none, .q (.load false 1 (.t 19))⟩, [1]), (⟨(some 21), none, .c (.c (.clo 57 [])) [(.t 18), (.t 20)]⟩, [0, 2]), (⟨(some 22), none, .q (.fadr 1 (.t 6))⟩, []), (⟨(some 23), none, .q (.load false 1 (.t 22))⟩, [4]), (⟨(some 24), none, .c (.c (.clo 57 [])) [(.t 21), (.t 23)]⟩, [3, 5, 3]), (⟨(some 0), none, .q (.mov (.t 24))⟩, [6, 6, 0, 1, 2, 3, 4, 5, 6])])))
  (.ops [⟨(some 25), none, .q (.bin .add (.t 14) (.c (.sc (.int .i64 1))))⟩, ⟨(some 14), none, .q (.mov (.t 25))⟩])))))))
  (.seq (.ops [⟨(some 26), none, .q (.mov (.t 0))⟩, ⟨(some 4), none, .q (.mov (.t 26))⟩])
  .ret))))
theorem K56 : Tryd.f56.body.bind (comp Tryd.prog) = some A56 ∧ Tryd.f56.ntmps = 27 ∧ Tryd.f56.results.toList.mapM (resB Tryd.prog) = some [.mov (.t 4)] := ⟨by kernel_rfl, by kernel_rfl, by kernel_rfl⟩
set_option maxHeartbeats 2000000 in
theorem R56 (b : List Int) (xs : List File) (hn : xs.length < 4611686018427387904) (hb : b.length + xs.length + 10 + fw xs ≤ 140737488350000) : Ret Tryd.prog 56 [.own (rows B b) b.length 1, .ro (rows File.ty.cs xs) xs.length] (.own (rows B (putFl b xs)) (putFl b xs).length 1) [.un, .un] := by
  have hns := numT_size xs.length
  have hpl := putT_le b (numT xs.length)
  refine Ret.run Tryd.func56 K56 (by simp) rfl rfl 900 ?_
  simp [A56, iniρ]
  refine callK.ro 0 rfl (by kernel_rfl) (by simp [roc_sc]) (R55 xs.length hn) rfl rfl rfl ?_
  simp
  refine callK.mv1 11 100000 rfl (by kernel_rfl) (by simp [upd_app]) (by simp [upd_app]) (B_cnt _) (idfreeL_rows B.fr _) (by simp [upd_app, roc_sc]) (R57 b (numT xs.length) (by omega)) (B_fl _) (by simp [inst, upd_app]; exact ⟨rfl, rfl⟩) rfl ?_
  simp
  refine T.le (Le.reseat [0, 1, 12, 13, 14] [(11, 60)] (by simp) (by simp [upd_app, menB, idfree]) (by
    intro c hc cs hcs
    simp at hc
    subst hc
    simp [upd_app] at hcs
    subst hcs
    exact idfreeL_mem (idfreeL_rows B.fr _))) ?_
  refine T.rounds (μ := fun i : List File × List File × List Int => i.2.1.length)
    (fun i s => i.1 ++ i.2.1 = xs ∧ putFs i.2.2 i.2.1 = putFl b xs ∧ i.2.2.length + fw i.2.1 ≤ 140737488350000 ∧ s.ρ 0 = .sl 60 0 i.2.2.length 1 false ∧ s.ρ 12 = .ro (rows File.ty.cs xs) xs.length ∧ s.ρ 13 = .sc (.int .i64 xs.length) ∧ s.ρ 14 = .sc (.int .i64 i.1.length) ∧ s.h 60 = some (some (rows B i.2.2)) ∧ (∀ c, c ≠ 60 → s.h c = none) ∧ s.n = 27) ([], xs, putT b (numT xs.length)) (by simp [upd_app, putFl]; exact ⟨by omega, fun c hc => by rw [if_neg (fun e => hc e.symm)]⟩) ?_
  rintro ⟨pre, rest, cur⟩ ⟨ρ, hh, n⟩ ⟨hx, hE, hw, k0, k12, k13, k14, b60, bf, rfl⟩
  simp only at hx hE hw k0 k12 k13 k14 b60 bf
  refine run_ok (n := 400) ?_
  cases rest with
  | nil =>
    have hxl : pre.length = xs.length := by rw [← hx]; simp
    have hE : cur = putFl b xs := hE
    simp [k13, k14, hxl]
    refine T.on 400 ?_
    simp [k0, b60, hE, ex1, B.count, idfreeL_rows B.fr]
  | cons x rest =>
    have hle : pre.length + (rest.length + 1) = xs.length := by rw [← hx]; simp
    have hlt : (pre.length : Int) < xs.length := by omega
    have hwr : IntKind.i64.wrap ((pre.length : Int) + 1) = pre.length + 1 := wrap_i64 (by omega) (by omega)
    have hd := rows_drop File.ty.csn pre (x :: rest)
    rw [hx, rows_cons] at hd
    have hd : List.drop (pre.length * 2) (rows File.ty.cs xs) = AV.sc (.string x.path) :: AV.sc (.string x.text) :: rows File.ty.cs rest := hd
    have f6 := bf 6 (by decide)
    have f21 := bf 21 (by decide)
    have f24 := bf 24 (by decide)
    rw [fw] at hw
    have p1 := putT_le cur x.path
    have p2 := putT_le (putT cur x.path) x.text
    simp [k0, k12, k13, k14, hlt, hd, f6, over]
    refine T.textW 400 [([], []), ([], []), ([], []), ([60, 21], []), ([], [21, 60]), ([], [21, 60]), ([21, 24], []), ([], [])] mixed (by kernel_rfl) (by kernel_rfl) ?_
    simp [k0, merge_nil, hideH_nil]
    refine callWK.mv1 21 60 rfl (by kernel_rfl) (by simp [upd_app]) (by simp [upd_app, hideH_app, b60]) (B_cnt _) (idfreeL_rows B.fr _) (by simp [upd_app, roc_sc]) (R57 cur x.path (by omega)) (B_fl _) (by simp [inst, upd_app, hideH_app, f21]; exact ⟨rfl, rfl⟩) (by rfl) ?_
    simp [merge_nil, hideH_nil]
    refine callWK.mv1 24 21 rfl (by kernel_rfl) (by simp [upd_app]) (by simp [upd_app, hideH_app]) (B_cnt _) (idfreeL_rows B.fr _) (by simp [upd_app, roc_sc]) (R57 (putT cur x.path) x.text (by omega)) (B_fl _) (by simp [inst, upd_app, hideH_app, f24]; exact ⟨rfl, rfl⟩) (by rfl) ?_
    simp [k14, hwr, merge_nil, hideH_nil]
    refine ⟨pre ++ [x], rest, by simp, putT (putT cur x.path) x.text, _, Le.reseat [0, 12, 13, 14] [(24, 60)] (by simp) (by simp [upd_app, menB, idfree, k12, k13]) ?_, by simpa using hx, hE, by omega, ?_⟩
    · intro c hc cs hcs
      simp at hc
      subst hc
      simp [upd_app] at hcs
      subst hcs
      exact idfreeL_mem (idfreeL_rows B.fr _)
    · simp [upd_app, k12, k13]
      intro c hc
      rw [if_neg (fun e => hc e.symm)]
def bodyM (m : Made) : List Int := putFl (putT (putT [] m.task) m.log) m.outs
def sumsL (n : Int) : List Int := [n / 256 % 256, n % 256]
def putM (m : Made) : List Int := bodyM m ++ sumsL (bodyM m).sum
def mw (m : Made) : Nat := m.task.size + m.log.size + m.outs.length + 30 + fw m.outs
theorem bodyM_le (m : Made) : (bodyM m).length + 1 ≤ mw m := by
  have h1 := putT_le [] m.task
  have h2 := putT_le (putT [] m.task) m.log
  have h3 := putT_le (putT (putT [] m.task) m.log) (numT m.outs.length)
  have h4 := numT_size m.outs.length
  have h5 := putFs_le m.outs (putT (putT (putT [] m.task) m.log) (numT m.outs.length))
  simp only [List.length_nil] at h1
  unfold bodyM putFl mw
  omega
def byteL (b : List Int) : Prop := ∀ x ∈ b, 0 ≤ x ∧ x ≤ 255
theorem sB_byte (s : ByteArray) : byteL (sB s) := fun x hx => by
  obtain ⟨c, _, rfl⟩ := List.mem_map.1 hx
  have := c.toNat_lt
  omega
theorem byteL_app {a b : List Int} (ha : byteL a) (hb : byteL b) : byteL (a ++ b) := fun x hx => (List.mem_append.1 hx).elim (ha x) (hb x)
theorem hiL_byte {n : Nat} (h : n ≤ 60000) : byteL (hiL n) := fun x hx => by
  simp only [hiL, List.mem_cons, List.not_mem_nil, or_false] at hx
  rcases hx with rfl | rfl <;> omega
theorem putT_byte {b : List Int} (hb : byteL b) (s : ByteArray) : byteL (putT b s) := by
  unfold putT
  split
  · rename_i h
    exact byteL_app hb (byteL_app (hiL_byte h) (sB_byte s))
  · exact hb
theorem putFs_byte : ∀ (l : List File) {b : List Int}, byteL b → byteL (putFs b l)
  | [], _, h => h
  | f :: l, _, h => putFs_byte l (putT_byte (putT_byte h _) _)
theorem bodyM_byte (m : Made) : byteL (bodyM m) := putFs_byte _ (putT_byte (putT_byte (putT_byte (fun x hx => by cases hx) _) _) _)
theorem sumsL_byte (n : Int) : byteL (sumsL n) := fun x hx => by
  simp only [sumsL, List.mem_cons, List.not_mem_nil, or_false] at hx
  rcases hx with rfl | rfl <;> omega
theorem putM_byte (m : Made) : byteL (putM m) := byteL_app (bodyM_byte m) (sumsL_byte _)
theorem sum_rng : ∀ {b : List Int}, byteL b → 0 ≤ b.sum ∧ b.sum ≤ 255 * b.length
  | [], _ => by simp
  | x :: b, h => by
    have h1 := h x (by simp)
    have h2 := sum_rng (b := b) fun y hy => h y (List.mem_cons_of_mem _ hy)
    simp only [List.sum_cons, List.length_cons]
    omega
theorem wrap_sh {n : Int} (h0 : 0 ≤ n) : IntKind.u8.wrap (n.fdiv (2 ^ min 8 IntKind.i64.bits)) = n / 256 % 256 := by
  have e : n.fdiv (2 ^ min 8 IntKind.i64.bits) = n / 256 := by
    rw [Int.fdiv_eq_ediv_of_nonneg _ (by decide)]; rfl
  rw [e]; rfl
theorem wrap_sl (n : Int) : IntKind.u8.wrap n = n % 256 := rfl
/- 40: loop.example/g00464/impl.PutMade -/
def A40 : AC := (.seq (.ops [⟨(some 1), none, .w (.box (.t 0))⟩, ⟨(some 2), none, .q (.mov (.c .em))⟩])
  (.seq (.any [(⟨(some 7), none, .q (.fadr 0 (.t 1))⟩, []), (⟨(some 8), none, .q (.load false 1 (.t 7))⟩, [0]), (⟨(some 9), none, .c (.c (.clo 57 [])) [(.c .em), (.t 8)]⟩, [1]), (⟨(some 10), none, .q (.fadr 2 (.t 1))⟩, []), (⟨(some 11), none, .q (.load false 1 (.t 10))⟩, [3]), (⟨(some 12), none, .c (.c (.clo 57 [])) [(.t 9), (.t 11)]⟩, [2, 4, 2]), (⟨(some 13), none, .q (.fadr 1 (.t 1))⟩, []), (⟨(some 14), none, .q (.load false 1 (.t 13))⟩, [6]), (⟨(some 15), none, .c (.c (.clo 56 [])) [(.t 12), (.t 14)]⟩, [5, 7, 5]), (⟨(some 3), none, .q (.mov (.t 15))⟩, [8, 8, 0, 1, 2, 3, 4, 5, 6, 7, 8])])
  (.seq (.ops [⟨(some 4), none, .q (.mov (.c (.sc (.int .i64 0))))⟩])
  (.seq (.seq (.ops [⟨(some 16), none, .q (.mov (.t 3))⟩, ⟨(some 17), none, .q (.llen (.t 16))⟩, ⟨(some 18), none, .q (.mov (.c (.sc (.int .i64 0))))⟩])
  (.block 0 (.loop (.seq (.ops [⟨(some 19), none, .q (.bin .lss (.t 18) (.t 17))⟩])
  (.seq (.cond (.t 19) .skip
  (.exit 0))
  (.seq (.block 1 (.seq (.ops [⟨(some 20), none, .q (.iadr 1 (.t 16) (.t 18))⟩, ⟨(some 21), none, .q (.load false 1 (.t 20))⟩, ⟨(some 6), none, .q (.mov (.t 21))⟩])
  (.ops [⟨(some 22), none, .q (.mov (.t 4))⟩, ⟨(some 23), none, .q (.mov (.t 6))⟩, ⟨(some 24), none, .q (.cvi .i64 (.t 23))⟩, ⟨(some 25), none, .q (.bin .add (.t 22) (.t 24))⟩, ⟨(some 4), none, .q (.mov (.t 25))⟩])))
  (.ops [⟨(some 26), none, .q (.bin .add (.t 18) (.c (.sc (.int .i64 1))))⟩, ⟨(some 18), none, .q (.mov (.t 26))⟩])))))))
  (.seq (.ops [⟨(some 27), none, .q (.mov (.t 3))⟩, ⟨(some 28), none, .q (.mov (.t 4))⟩, ⟨(some 29), none, .q (.bin .shr (.t 28) (.c (.sc (.int .u64 8))))⟩, ⟨(some 30), none, .q (.cvi .u8 (.t 29))⟩, ⟨(some 31), none, .q (.mov (.t 4))⟩, ⟨(some 32), none, .q (.cvi .u8 (.t 31))⟩, ⟨(some 33), none, .w (.bsl 1 2 [(.sc (.int .u8 0)), (.sc (.int .u8 0))] [(0, 1, (.t 30)), (1, 1, (.t 32))])⟩, ⟨(some 34), none, .w (.app 1 1 false (.t 27) (.t 33))⟩, ⟨(some 2), none, .q (.mov (.t 34))⟩])
  .ret)))))
theorem K40 : Tryd.f40.body.bind (comp Tryd.prog) = some A40 ∧ Tryd.f40.ntmps = 35 ∧ Tryd.f40.results.toList.mapM (resB Tryd.prog) = some [.mov (.t 2)] := ⟨by kernel_rfl, by kernel_rfl, by kernel_rfl⟩
set_option maxHeartbeats 2000000 in
theorem R40 (m : Made) (hn : m.outs.length < 4611686018427387904) (hb : mw m ≤ 140737488350000) : Ret Tryd.prog 40 [.agg (Made.ty.cs m)] (.own (rows B (putM m)) (putM m).length 1) [.un] := by
  have h1 := putT_le [] m.task
  have h2 := putT_le (putT [] m.task) m.log
  have hbl := bodyM_le m
  have hw : mw m = m.task.size + m.log.size + m.outs.length + 30 + fw m.outs := rfl
  simp only [List.length_nil] at h1
  have r1 := R57 [] m.task (by simp only [List.length_nil]; omega)
  have r2 := R57 (putT [] m.task) m.log (by omega)
  have r3 := R56 (putT (putT [] m.task) m.log) m.outs hn (by omega)
  have hby := bodyM_byte m
  have hM : putM m = bodyM m ++ sumsL (bodyM m).sum := rfl
  obtain ⟨bd, hbd⟩ : ∃ bd, bd = bodyM m := ⟨_, rfl⟩
  change Ret Tryd.prog 56 _ (.own (rows B (bodyM m)) (bodyM m).length 1) _ at r3
  rw [← hbd] at r3 hby hbl hM
  refine Ret.run Tryd.func40 K40 (by simp) rfl rfl 900 ?_
  simp [A40, iniρ, Made.cse]
  refine T.textW 400 [([], []), ([], []), ([9], []), ([], [9]), ([], [9]), ([9, 12], []), ([], [9, 12]), ([], [9, 12]), ([12, 15], []), ([], [])] mixed (by kernel_rfl) (by kernel_rfl) ?_
  simp [merge_nil, hideH_nil]
  refine callWK.mvE 9 1 rfl (by kernel_rfl) (by simp [upd_app]) (by simp [upd_app, roc_sc]) r1 (B_fl _) (by simp [inst, upd_app, hideH_app]; exact ⟨rfl, rfl⟩) (by rfl) ?_
  simp [merge_nil, hideH_nil]
  refine callWK.mv1 12 9 rfl (by kernel_rfl) (by simp [upd_app]) (by simp [upd_app, hideH_app]) (B_cnt _) (idfreeL_rows B.fr _) (by simp [upd_app, roc_sc]) r2 (B_fl _) (by simp [inst, upd_app, hideH_app]; exact ⟨rfl, rfl⟩) (by rfl) ?_
  simp [merge_nil, hideH_nil]
  refine callWK.mv1 15 12 rfl (by kernel_rfl) (by simp [upd_app]) (by simp [upd_app, hideH_app]) (B_cnt _) (idfreeL_rows B.fr _) (by simp [upd_app, roc_ro]) r3 (B_fl _) (by simp [inst, upd_app, hideH_app]; exact ⟨rfl, rfl⟩) (by rfl) ?_
  simp [merge_nil, hideH_nil]
  refine T.rounds (μ := fun i : List Int × List Int => i.2.length)
    (fun i s => i.1 ++ i.2 = bd ∧ s.ρ 3 = .sl 15 0 bd.length 1 false ∧ s.ρ 16 = .sl 15 0 bd.length 1 false ∧ s.ρ 17 = .sc (.int .i64 bd.length) ∧ s.ρ 18 = .sc (.int .i64 i.1.length) ∧ s.ρ 4 = .sc (.int .i64 i.1.sum) ∧ s.h 15 = some (some (rows B bd)) ∧ s.h 33 = none ∧ s.h 34 = none ∧ s.n = 35) ([], bd) (by simp [upd_app]) ?_
  rintro ⟨pre, rest⟩ ⟨ρ, hh, n⟩ ⟨hx, k3, k16, k17, k18, k4, b15, f33, f34, rfl⟩
  simp only at hx k3 k16 k17 k18 k4 b15 f33 f34
  refine run_ok (n := 400) ?_
  cases rest with
  | nil =>
    rw [List.append_nil] at hx
    subst hx
    have hs := sum_rng hby
    have ws := wrap_sh hs.1
    have wl := wrap_sl pre.sum
    have c1 : pre.length + 2 ≤ 140737488355328 := by omega
    have e2 : (putM m).length = pre.length + 2 := by rw [hM]; simp [sumsL]
    have e3 : rows B (putM m) = rows B pre ++ [.sc (.int .u8 (pre.sum / 256 % 256)), .sc (.int .u8 (pre.sum % 256))] := by rw [hM, rows_append]; rfl
    have hid := idfreeL_rows B.fr (putM m)
    rw [e3] at hid
    simp [k17, k18]
    refine T.on 400 ?_
    rw [e2, e3]
    simp [k3, k4, b15, f33, f34, ws, wl, over, ex1, B.count, c1, hid]
  | cons x rest =>
    have hle : pre.length + (rest.length + 1) = bd.length := by rw [← hx]; simp
    have hlt : (pre.length : Int) < bd.length := by omega
    have hwr : IntKind.i64.wrap ((pre.length : Int) + 1) = pre.length + 1 := wrap_i64 (by omega) (by omega)
    have hd := rows_drop B.len pre (x :: rest)
    rw [hx, rows_cons, Nat.mul_one] at hd
    have hd : List.drop pre.length (rows B bd) = .sc (.int .u8 x) :: rows B rest := hd
    have hxr := hby x (by rw [← hx]; simp)
    have hsp := sum_rng (b := pre) fun y hy => hby y (by rw [← hx]; simp [hy])
    have wx : IntKind.i64.wrap x = x := wrap_i64 (by omega) (by omega)
    have wsx : IntKind.i64.wrap (pre.sum + x) = pre.sum + x := wrap_i64 (by omega) (by omega)
    simp [k4, k16, k17, k18, b15, hlt, hd, hwr, wx, wsx]
    refine ⟨pre ++ [x], rest, by simp, _, Le.refl _, ?_⟩
    simp [hx, upd_app, k3, k16, k17, b15, f33, f34]
/- 29: loop.example/g00464/spec.l17Sum -/
def A29 : AC := (.seq (.ops [⟨(some 2), none, .q (.mov (.c (.sc (.int .i64 0))))⟩])
  (.seq (.ops [⟨(some 3), none, .q (.mov (.c (.sc (.int .i64 0))))⟩])
  (.seq (.seq (.ops [⟨(some 4), none, .q (.mov (.c (.sc (.int .i64 0))))⟩])
  (.block 0 (.loop (.seq (.seq (.ops [⟨(some 5), none, .q (.mov (.t 4))⟩, ⟨(some 6), none, .q (.mov (.t 0))⟩, ⟨(some 7), none, .q (.llen (.t 6))⟩, ⟨(some 8), none, .q (.bin .lss (.t 5) (.t 7))⟩])
  (.cond (.t 8) .skip
  (.exit 0)))
  (.seq (.block 1 (.ops [⟨(some 11), none, .q (.mov (.t 3))⟩, ⟨(some 12), none, .q (.mov (.t 0))⟩, ⟨(some 13), none, .q (.mov (.t 4))⟩, ⟨(some 14), none, .q (.iadr 1 (.t 12) (.t 13))⟩, ⟨(some 15), none, .q (.load false 1 (.t 14))⟩, ⟨(some 16), none, .q (.cvi .i64 (.t 15))⟩, ⟨(some 17), none, .q (.bin .add (.t 11) (.t 16))⟩, ⟨(some 18), none, .q (.bin .rem (.t 17) (.c (.sc (.int .i64 65536))))⟩, ⟨(some 3), none, .q (.mov (.t 18))⟩]))
  (.ops [⟨(some 9), none, .q (.mov (.t 4))⟩, ⟨(some 10), none, .q (.bin .add (.t 9) (.c (.sc (.int .i64 1))))⟩, ⟨(some 4), none, .q (.mov (.t 10))⟩]))))))
  (.seq (.ops [⟨(some 19), none, .q (.mov (.t 3))⟩, ⟨(some 2), none, .q (.mov (.t 19))⟩])
  .ret))))
theorem K29 : Tryd.f29.body.bind (comp Tryd.prog) = some A29 ∧ Tryd.f29.ntmps = 20 ∧ Tryd.f29.results.toList.mapM (resB Tryd.prog) = some [.mov (.t 2)] := ⟨by kernel_rfl, by kernel_rfl, by kernel_rfl⟩
theorem R29 (b : List Int) (hby : byteL b) (hl : b.length ≤ 140737488355328) : Ret Tryd.prog 29 [.ro (rows B b) b.length] (.sc (.int .i64 (b.sum % 65536))) [.un] := by
  refine Ret.run Tryd.func29 K29 (by simp) rfl rfl 500 ?_
  simp [A29, iniρ]
  refine T.rounds (μ := fun i : List Int × List Int => i.2.length)
    (fun i s => i.1 ++ i.2 = b ∧ s.ρ 0 = .ro (rows B b) b.length ∧ s.ρ 3 = .sc (.int .i64 (i.1.sum % 65536)) ∧ s.ρ 4 = .sc (.int .i64 i.1.length) ∧ s.n = 20) ([], b) (by simp [upd_app]) ?_
  rintro ⟨pre, rest⟩ ⟨ρ, hh, n⟩ ⟨hx, k0, k3, k4, rfl⟩
  simp only at hx k0 k3 k4
  refine run_ok (n := 400) ?_
  cases rest with
  | nil =>
    rw [List.append_nil] at hx
    subst hx
    simp [k0, k4]
    refine T.on 400 ?_
    simp [k3]
  | cons x rest =>
    have hle : pre.length + (rest.length + 1) = b.length := by rw [← hx]; simp
    have hlt : (pre.length : Int) < b.length := by omega
    have hwr : IntKind.i64.wrap ((pre.length : Int) + 1) = pre.length + 1 := wrap_i64 (by omega) (by omega)
    have hd := rows_drop B.len pre (x :: rest)
    rw [hx, rows_cons, Nat.mul_one] at hd
    have hd : List.drop pre.length (rows B b) = .sc (.int .u8 x) :: rows B rest := hd
    have hxr := hby x (by rw [← hx]; simp)
    have wx : IntKind.i64.wrap x = x := wrap_i64 (by omega) (by omega)
    obtain ⟨y, hy⟩ : ∃ y, y = pre.sum % 65536 := ⟨_, rfl⟩
    have hyr : 0 ≤ y ∧ y < 65536 := by omega
    have wsx : IntKind.i64.wrap (y + x) = y + x := wrap_i64 (by omega) (by omega)
    have hm : (y + x).tmod 65536 = (y + x) % 65536 := Int.tmod_eq_emod_of_nonneg (by omega)
    have e2 : (pre.sum + x) % 65536 = (y + x) % 65536 := by rw [hy]; omega
    rw [← hy] at k3
    simp [k0, k3, k4, hlt, hd, hwr, wx, wsx, hm]
    refine ⟨pre ++ [x], rest, by simp, _, Le.refl _, ?_⟩
    simp [hx, upd_app, k0, e2]
end Go.Proofs.YtaknfalbmblagaaDoor.Am
