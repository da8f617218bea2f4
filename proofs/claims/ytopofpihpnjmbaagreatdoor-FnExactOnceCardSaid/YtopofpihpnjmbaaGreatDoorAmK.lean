/- Marks and what is held, list by list: the loop that all of them share; no program. -/
import Derived.Test.YtopofpihpnjmbaaGreatDoorAmM
import Derived.Test.YtopofpihpnjmbaaGreatDoorAmD
namespace Go.Proofs.YtopofpihpnjmbaaGreatDoor.Am
open Go Go.Proofs
set_option linter.unusedSimpArgs false
set_option linter.unusedVariables false
attribute [local congr] ZL yp Zm
attribute [local simp] YI yI ZI YH ZA Zv zI yz Yh zl zA Zi Zl Yz zJ zB YA yA yG ZG zG YX yX ZY zY ZS zS yS yB Za yc wblk ZB Yv yK YK aval dOk za ev_t ev_c Zt zv yT Yy isIo hasIo sbin endR fin resL one outL out1 clo1 cloL coe coeL shut shut.shutL wantA weff cellsOf fillA deref natOf ρ0_app ZX plain plain.plainL ye Ze zj Yp Ym ZJ zw zk yi yJ Zp Yl nilA srcOf Yn Zq Yo renA rb
def loopC (body : AC) (m : Nat) : AC := .seq (.ops [⟨(some 4), none, .q (.mov (.c (.sc (.int .i64 0))))⟩])
  (.seq (.seq (.ops [⟨(some 5), none, .q (.mov (.c (.sc (.int .i64 0))))⟩])
  (.block 0 (.loop (.seq (.seq (.ops [⟨(some 6), none, .q (.mov (.t 5))⟩, ⟨(some 7), none, .q (.mov (.t 0))⟩, ⟨(some 8), none, .q (.llen (.t 7))⟩, ⟨(some 9), none, .q (.bin .lss (.t 6) (.t 8))⟩])
  (.cond (.t 9) .skip
  (.exit 0)))
  (.seq (.block 1 body)
  (.ops [⟨(some 10), none, .q (.mov (.t 5))⟩, ⟨(some 11), none, .q (.bin .add (.t 10) (.c (.sc (.int .i64 1))))⟩, ⟨(some 5), none, .q (.mov (.t 11))⟩]))))))
  (.seq (.ops [⟨(some m), none, .q (.mov (.t 1))⟩, ⟨(some 4), none, .q (.mov (.t m))⟩])
  .ret))
def digM (n : Int) : ByteArray := strOfNums [IntKind.u8.wrap (48 + n)]
theorem zct (n : Int) : (digM n).size = 1 := rfl
def mtF : Nat → Nat → ByteArray → ByteArray
  | 0, _, a => a
  | k + 1, n, a => if 0 < n then mtF k (n / 10) (digM ((n : Int) % 10) ++ a) else a
def mtext (n : Nat) : ByteArray := (⟨#[109]⟩ : ByteArray) ++ mtF n n ⟨#[]⟩
def mtI (k : Int) : ByteArray := mtext k.toNat
section
variable {P : Program} {α : Type}
def zbw (t : Ty α) (mk : α → Int → α) (tot : α → Nat) (M R : List AV) (ρ : Nat → AV) (m : Nat) (x : α) (q : Int) : AE → St → Prop := fun e s =>
  e = .normal ∧ ∃ s2, Le s s2 ∧ s2.ρ 0 = ρ 0 ∧ s2.ρ 1 = .sc (.int .i64 (q + tot x)) ∧ s2.ρ 5 = ρ 5 ∧ s2.h 100000 = some (some (M ++ (t.oc (mk x q) ++ R))) ∧ s2.n = m + 1
theorem MRet.loop (t : Ty α) (mk : α → Int → α) (tot : α → Nat) {F : FuncId} {fn : Func} {body : AC} {m : Nat} (hm : 11 < m) (hf : P.funcs[F]? = some fn)
    (hk : fn.body.bind (comp P) = some (loopC body m) ∧ fn.ntmps = m + 1 ∧ fn.results.toList.mapM (resB P) = some [.mov (.t 4)]) (xs : List α) (k : Int) (hb : xs.length < 4611686018427387904)
    (step : ∀ (ρ : Nat → AV) (h : Hp) (M R : List AV) (pre : List α) (x : α) (rest : List α) (q : Int), pre ++ x :: rest = xs → q = k + toL tot pre → M.length = pre.length * t.n → (pre.length : Int) < xs.length →
      ρ 0 = .sl 100000 0 xs.length t.n false → ρ 1 = .sc (.int .i64 q) → ρ 5 = .sc (.int .i64 pre.length) → h 100000 = some (some (M ++ (t.oc x ++ R))) → (∀ b, b ≠ 100000 → h b = none) → Yb.idfreeL M = true → Yb.idfreeL R = true →
      T P [0] body ⟨ρ, h, m + 1⟩ (zbw t mk tot M R ρ m x q)) :
    MRet P F (rows t.oc xs) xs.length t.n (.sc (.int .i64 k)) (.sc (.int .i64 (k + toL tot xs))) (rows t.oc (mkL mk tot xs k)) := by
  have m0 : (m = 0) = False := eq_false (by omega)
  have m1 : (m = 1) = False := eq_false (by omega)
  have m2 : (0 = m) = False := eq_false (by omega)
  have m3 : (1 = m) = False := eq_false (by omega)
  have m4 : (4 = m) = False := eq_false (by omega)
  have m13 : (5 = m) = False := eq_false (by omega)
  have m5 : (4 < m + 1) = True := eq_true (by omega)
  have m6 : (5 < m + 1) = True := eq_true (by omega)
  have m7 : (6 < m + 1) = True := eq_true (by omega)
  have m8 : (7 < m + 1) = True := eq_true (by omega)
  have m9 : (8 < m + 1) = True := eq_true (by omega)
  have m10 : (9 < m + 1) = True := eq_true (by omega)
  have m11 : (10 < m + 1) = True := eq_true (by omega)
  have m12 : (11 < m + 1) = True := eq_true (by omega)
  constructor
  · intro hpos
    refine Ret.run hf hk (by simp; omega) rfl rfl 500 ?_
    simp [m2, m3, m4, m13, m5, m6, m7, m8, m9, m10, m11, m12, loopC, iniρ]
    refine T.rounds (μ := fun i : List α × List α => i.2.length)
      (fun i s => i.1 ++ i.2 = xs ∧ s.ρ 0 = .sl 100000 0 xs.length t.n false ∧ s.ρ 1 = .sc (.int .i64 (k + toL tot i.1)) ∧ s.ρ 5 = .sc (.int .i64 i.1.length) ∧ s.h 100000 = some (some (rows t.oc (mkL mk tot i.1 k) ++ rows t.oc i.2)) ∧ (∀ b, b ≠ 100000 → s.h b = none) ∧ s.n = m + 1) ([], xs) (by simp [za, mkL, toL, zf]) ?_
    rintro ⟨pre, rest⟩ ⟨ρ, hh, n⟩ ⟨hx, h0', h1', h5', h7', hfr, rfl⟩
    simp only at hx h0' h1' h5' h7' hfr
    cases rest with
    | nil =>
      refine Zf (n := 400) ?_
      simp at hx
      subst hx
      simp [m2, m3, m4, m13, m5, m6, m7, m8, m9, m10, m11, m12, h0', h5']
      refine T.on 400 ?_
      have hl := zb t.ocn (mkL mk tot pre k)
      rw [Zu] at hl
      have hfr' : Yb.idfreeL (rows t.oc (mkL mk tot pre k)) = true := t.frL _
      simp [m2, m3, m4, m13, m5, m6, m7, m8, m9, m10, m11, m12, h0', h1', h7', ex1, zf, hl, hfr', Ys, hpos, m0, m1, Zu]
    | cons x rest =>
      have hle : pre.length + (rest.length + 1) = xs.length := by rw [← hx]; simp
      have hlt : (pre.length : Int) < xs.length := by omega
      have hw : IntKind.i64.wrap ((pre.length : Int) + 1) = pre.length + 1 := Ya (by omega) (by omega)
      refine T.seq ?_
      refine Zf (n := 400) ?_
      simp [m2, m3, m4, m13, m5, m6, m7, m8, m9, m10, m11, m12, h0', h5', hlt]
      refine T.seq (T.block ?_)
      have hl := zb t.ocn (mkL mk tot pre k)
      rw [Zu] at hl
      rw [Zc] at h7'
      refine T.mono (step (upd (upd (upd (upd ρ 6 _) 7 _) 8 _) 9 _) hh _ _ pre x rest (k + toL tot pre) hx rfl hl hlt (by simp [za, h0']) (by simp [za, h1']) (by simp [za, h5']) h7' hfr (t.frL _) (t.frL _)) ?_
      rintro e s ⟨rfl, s2, hle2, r0, r1, r5, r7, rn⟩
      simp only [zbc, andThen]
      refine T.le hle2 ?_
      obtain ⟨ρ2, h2, n2⟩ := s2
      simp only at r0 r1 r5 r7 rn
      subst rn
      simp only [za] at r0 r5
      simp [h0'] at r0
      simp [h5'] at r5
      refine Zf (n := 400) ?_
      simp [m2, m3, m4, m13, m5, m6, m7, m8, m9, m10, m11, m12, r5, hw]
      refine ⟨pre ++ [x], rest, by simp, _, Le.reset [0, 1, 5] [100000] ?_ ?_, ?_⟩
      · simp [za, menB, Yb, r0, r1]
      · intro b hb' cs hcs
        simp at hb'
        subst hb'
        simp [r7] at hcs
        subst hcs
        intro y hy
        rcases List.mem_append.1 hy with hy | hy
        · exact Ye (t.frL _) y hy
        · rcases List.mem_append.1 hy with hy | hy
          · exact (t.ow _ y hy).fr
          · exact Ye (t.frL _) y hy
      · simp [hx, za, r0, r1, r7, zaY, yD, mkL, toL, ze, Zc, zf]
        exact ⟨by omega, fun b hb => by simp [hb]⟩
  · intro h
    have e : xs = [] := List.length_eq_zero_iff.1 h
    subst e
    refine Ret.run hf hk (by simp; omega) rfl rfl 500 ?_
    simp [m2, m3, m4, m13, m5, m6, m7, m8, m9, m10, m11, m12, loopC, iniρ]
    refine T.rounds (μ := fun i : Nat => i) (fun i s => s.ρ 0 = .ro [] 0 ∧ s.ρ 1 = .sc (.int .i64 k) ∧ s.ρ 5 = .sc (.int .i64 0) ∧ s.n = m + 1) 0 (by simp [za]) ?_
    rintro i ⟨ρ, hh, n⟩ ⟨h0', h1', h5', rfl⟩
    simp only at h0' h1' h5'
    refine Zf (n := 400) ?_
    simp [m2, m3, m4, m13, m5, m6, m7, m8, m9, m10, m11, m12, h0', h5']
    refine T.on 400 ?_
    simp [m2, m3, m4, m13, m5, m6, m7, m8, m9, m10, m11, m12, h1', toL, m0, m1]
def zgB (tot : α → Nat) (ρ : Nat → AV) (m : Nat) (x : α) (q : Int) : AE → St → Prop := fun e s =>
  e = .normal ∧ s.ρ 0 = ρ 0 ∧ s.ρ 1 = .sc (.int .i64 (q + tot x)) ∧ s.ρ 5 = ρ 5 ∧ s.n = m + 1
theorem Ret.heldLoop (t : Ty α) (mk : α → Int → α) (tot : α → Nat) {F : FuncId} {fn : Func} {body : AC} {m : Nat} (hm : 11 < m) (hf : P.funcs[F]? = some fn)
    (hk : fn.body.bind (comp P) = some (loopC body m) ∧ fn.ntmps = m + 1 ∧ fn.results.toList.mapM (resB P) = some [.mov (.t 4)]) (xs : List α) (k : Int) (hb : xs.length < 4611686018427387904)
    (step : ∀ (ρ : Nat → AV) (ms : List AV) (R : List AV) (pre : List α) (x : α) (rest : List α) (q : Int) (Q : AE → St → Prop), pre ++ x :: rest = xs → q = k + toL tot pre → (pre.length : Int) < xs.length →
      ρ 0 = .ro ms xs.length → ρ 1 = .sc (.int .i64 q) → ρ 5 = .sc (.int .i64 pre.length) → List.drop (pre.length * t.n) ms = t.cs (mk x q) ++ R →
      T P [] body ⟨ρ, h0, m + 1⟩ (zgB tot ρ m x q)) :
    Ret P F [.ro (rows t.cs (mkL mk tot xs k)) xs.length, .sc (.int .i64 k)] (.sc (.int .i64 (k + toL tot xs))) [.un, .un] := by
  have m0 : (m = 0) = False := eq_false (by omega)
  have m1 : (m = 1) = False := eq_false (by omega)
  have m2 : (0 = m) = False := eq_false (by omega)
  have m3 : (1 = m) = False := eq_false (by omega)
  have m4 : (4 = m) = False := eq_false (by omega)
  have m13 : (5 = m) = False := eq_false (by omega)
  have m5 : (4 < m + 1) = True := eq_true (by omega)
  have m6 : (5 < m + 1) = True := eq_true (by omega)
  have m7 : (6 < m + 1) = True := eq_true (by omega)
  have m8 : (7 < m + 1) = True := eq_true (by omega)
  have m9 : (8 < m + 1) = True := eq_true (by omega)
  have m10 : (9 < m + 1) = True := eq_true (by omega)
  have m11 : (10 < m + 1) = True := eq_true (by omega)
  have m12 : (11 < m + 1) = True := eq_true (by omega)
  obtain ⟨ms, hms⟩ : ∃ ms, ms = rows t.cs (mkL mk tot xs k) := ⟨_, rfl⟩
  rw [← hms]
  refine Ret.run hf hk (by simp; omega) rfl rfl 500 ?_
  simp [m2, m3, m4, m13, m5, m6, m7, m8, m9, m10, m11, m12, loopC, iniρ]
  refine T.rounds (μ := fun i : List α × List α => i.2.length)
    (fun i s => i.1 ++ i.2 = xs ∧ s.ρ 0 = .ro ms xs.length ∧ s.ρ 1 = .sc (.int .i64 (k + toL tot i.1)) ∧ s.ρ 5 = .sc (.int .i64 i.1.length) ∧ s.h = h0 ∧ s.n = m + 1) ([], xs) (by simp [za, toL]) ?_
  rintro ⟨pre, rest⟩ ⟨ρ, hh, n⟩ ⟨hx, h0', h1', h5', rfl, rfl⟩
  simp only at hx h0' h1' h5'
  cases rest with
  | nil =>
    refine Zf (n := 400) ?_
    simp at hx
    subst hx
    simp [m2, m3, m4, m13, m5, m6, m7, m8, m9, m10, m11, m12, h0', h5']
    refine T.on 400 ?_
    simp [m2, m3, m4, m13, m5, m6, m7, m8, m9, m10, m11, m12, h1', m0, m1]
  | cons x rest =>
    have hle : pre.length + (rest.length + 1) = xs.length := by rw [← hx]; simp
    have hlt : (pre.length : Int) < xs.length := by omega
    have hw : IntKind.i64.wrap ((pre.length : Int) + 1) = pre.length + 1 := Ya (by omega) (by omega)
    have hd : List.drop (pre.length * t.n) ms = t.cs (mk x (k + toL tot pre)) ++ rows t.cs (mkL mk tot rest (k + toL tot pre + tot x)) := by
      have e := Yd t.csn (mkL mk tot pre k) (mkL mk tot (x :: rest) (k + toL tot pre))
      rw [← zaY, hx, Zu, ← hms, mkL, Zc] at e
      exact e
    refine T.seq ?_
    refine Zf (n := 400) ?_
    simp [m2, m3, m4, m13, m5, m6, m7, m8, m9, m10, m11, m12, h0', h5', hlt]
    refine T.seq (T.block ?_)
    refine T.mono (step (upd (upd (upd (upd ρ 6 _) 7 _) 8 _) 9 _) ms _ pre x rest (k + toL tot pre) (fun _ _ => True) hx rfl hlt (by simp [za, h0']) (by simp [za, h1']) (by simp [za, h5']) hd) ?_
    rintro e ⟨ρ2, h2, n2⟩ ⟨rfl, r0, r1, r5, rn⟩
    simp only at r0 r1 r5 rn
    subst rn
    simp only [za] at r0 r5
    simp [h0'] at r0
    simp [h5'] at r5
    simp only [zbc, andThen]
    refine Zf (n := 400) ?_
    simp [m2, m3, m4, m13, m5, m6, m7, m8, m9, m10, m11, m12, r5, hw]
    refine ⟨pre ++ [x], rest, by simp, _, Le.reset [0, 1, 5] [] ?_ ?_, ?_⟩
    · simp [za, menB, Yb, r0, r1]
    · simp
    · simp [hx, za, r0, r1, yD, toL]
      exact ⟨by omega, by funext b; simp⟩
theorem Zw (t : Ty α) (mk : α → Int → α) (tot : α → Nat) (xs : List α) (k : Int) : (rows t.oc (mkL mk tot xs k)).length = (rows t.oc xs).length := by
  rw [zb t.ocn, zb t.ocn, Zu]
theorem zac (t : Ty α) (xs : List α) : flt.fltL (rows t.oc xs) = true := zbQ (Yj (q := flt) (fun x c hc => (t.ow x c hc).fl) xs)
theorem zb1 {tot : α → Nat} (h : ∀ x, 1 ≤ tot x) : ∀ xs : List α, xs.length ≤ toL tot xs
  | [] => Nat.zero_le _
  | x :: xs => by
    have h1 := h x
    have h2 := zb1 h xs
    simp only [toL, List.length_cons]; omega
theorem zt {tot wt : α → Nat} (h : ∀ x, tot x ≤ 3 * (1 + wt x)) : ∀ xs : List α, toL tot xs ≤ 3 * (xs.length + wtL wt xs)
  | [] => Nat.zero_le _
  | x :: xs => by
    have h1 := h x
    have h2 := zt h xs
    simp only [toL, wtL, List.length_cons]; omega
theorem zdX : ∀ xs : List α, toL (fun _ => 1) xs = xs.length
  | [] => rfl
  | x :: xs => by simp only [toL, zdX xs, List.length_cons]; omega
theorem zbw.pack (t : Ty α) (x' : α) (M R : List AV) {ρ' : Nat → AV} {H : Hp} {n : Nat} {r0 r1 r5 : AV} (h0 : ρ' 0 = r0) (h1 : ρ' 1 = r1) (h5 : ρ' 5 = r5) (hd : 31000 + t.n ≤ 100000)
    (hH : H 100000 = some (some (M ++ (ysOf 31000 (t.oc x') ++ R)))) (ho : ∀ i cs len sz, (t.oc x')[i]? = some (.own cs len sz) → H (31000 + i) = some (some cs)) :
    ∃ s2, Le ⟨ρ', H, n⟩ s2 ∧ s2.ρ 0 = r0 ∧ s2.ρ 1 = r1 ∧ s2.ρ 5 = r5 ∧ s2.h 100000 = some (some (M ++ (t.oc x' ++ R))) ∧ s2.n = n := by
  obtain ⟨h2, m1, m2, m3⟩ := Le.rowPack 100000 R (t.oc x') 31000 M H hH (t.ow _) ho (by right; rw [t.ocn]; exact hd)
  exact ⟨_, m1 _ _, h0, h1, h5, m2, rfl⟩
end
def strMk (_ : ByteArray) (k : Int) : ByteArray := mtI k
def Zh (_ : ByteArray) : Nat := 1
def zbA (x : List ByteArray) : Nat := toL Zh x
theorem ZQ (x : ByteArray) : Zh x ≤ 3 * (1 + Ty.str.wt x) := by unfold Zh; omega
theorem zfa (x : List ByteArray) : zbA x ≤ 3 * (1 + Ty.str.slice.wt x) := by
  have h := zt ZQ x
  have e : Ty.str.slice.wt x = x.length + wtL Ty.str.wt x := rfl
  unfold zbA; omega
theorem Z5 {M R : List AV} {a x : AV} {k : Nat} (h : M.length = k) : over (M ++ a :: R) k [x] = M ++ x :: R := by
  subst h
  simp [over, List.set_append]
inductive MvD where
  | sv (v : Value)
  | bk (b len sz : Nat) (cs : List AV)
def MvD.av : MvD → AV
  | .sv v => .sc v
  | .bk b len sz _ => .sl b 0 len sz false
def MvD.out : MvD → AV
  | .sv v => .sc v
  | .bk _ len sz cs => .own cs len sz
def MvD.md : MvD → Md
  | .sv _ => .ro
  | .bk _ _ sz _ => .mv sz
def MvD.r : MvD → Option AV × Option Nat
  | .sv _ => (none, none)
  | .bk _ len sz cs => (some (.own cs len sz), none)
def MvD.pr (e : MvD) : Md × AV := (e.md, e.av)
theorem MvD.pr_s (v : Value) : (MvD.sv v).pr = (.ro, .sc v) := rfl
theorem MvD.pr_b (b len sz : Nat) (cs : List AV) : (MvD.bk b len sz cs).pr = (.mv sz, .sl b 0 len sz false) := rfl
theorem MvD.r_s (v : Value) : (MvD.sv v).r = (none, none) := rfl
theorem MvD.r_b (b len sz : Nat) (cs : List AV) : (MvD.bk b len sz cs).r = (some (.own cs len sz), none) := rfl
theorem MvD.out_s (v : Value) : (MvD.sv v).out = .sc v := rfl
theorem MvD.out_b (b len sz : Nat) (cs : List AV) : (MvD.bk b len sz cs).out = .own cs len sz := rfl
def MvD.ok (h : Hp) : MvD → Prop
  | .sv _ => True
  | .bk b len sz cs => h b = some (some cs) ∧ cs.length = len * sz ∧ Yb.idfreeL cs = true
def MvD.bl : List MvD → List Nat
  | [] => []
  | .sv _ :: l => MvD.bl l
  | .bk b _ _ _ :: l => b :: MvD.bl l
def goneL : List MvD → St → St
  | [], st => st
  | .sv _ :: l, st => goneL l st
  | .bk b _ _ _ :: l, st => goneL l (st.put b none)
theorem zcL : ∀ (l : List MvD) (st : St), (goneL l st).n = st.n
  | [], _ => rfl
  | .sv _ :: l, st => zcL l st
  | .bk b _ _ _ :: l, st => zcL l (st.put b none)
theorem MvD.mem_bl {b len sz : Nat} {cs : List AV} : ∀ {l : List MvD}, MvD.bk b len sz cs ∈ l → b ∈ MvD.bl l
  | .sv _ :: l, h => by
    rcases List.mem_cons.1 h with h | h
    · cases h
    · show b ∈ MvD.bl l
      exact MvD.mem_bl h
  | .bk b' _ _ _ :: l, h => by
    rcases List.mem_cons.1 h with h | h
    · cases h; exact List.mem_cons_self ..
    · exact List.mem_cons_of_mem _ (MvD.mem_bl h)
section
variable {P : Program} {p : List Nat}
theorem zcP (v : AV) : ∀ (l : List MvD) (st : St), (MvD.bl l).Nodup → (∀ e ∈ l, e.ok st.h) →
    exL ((l.map MvD.pr) ++ [(Md.ro, v)]) st = some (l.map MvD.r ++ [(none, none)], goneL l st)
  | [], st, _, _ => rfl
  | .sv u :: l, st, hn, hh => by
    have ih := zcP v l st hn (fun e he => hh e (List.mem_cons_of_mem _ he))
    simp only [List.map_cons, List.cons_append, exL, ex1, MvD.pr_s, MvD.r_s, ih, Option.map_some, goneL]
  | .bk b len sz cs :: l, st, hn, hh => by
    obtain ⟨h1, h2, h3⟩ := hh (.bk b len sz cs) (List.mem_cons_self ..)
    obtain ⟨n1, n2⟩ := List.nodup_cons.1 hn
    have ih := zcP v l (st.put b none) n2 (fun e he => by
      have hk := hh e (List.mem_cons_of_mem _ he)
      cases e with
      | sv => trivial
      | bk b' len' sz' cs' =>
        refine ⟨?_, hk.2⟩
        have hne : b' ≠ b := fun e2 => n1 (by rw [← e2]; exact MvD.mem_bl he)
        show upd st.h b (some none) b' = _
        rw [Yc _ _ hne]; exact hk.1)
    simp only [List.map_cons, List.cons_append, exL, ex1, MvD.pr_b, MvD.r_b, h1, h2, h3, and_self, if_true, ih, Option.map_some, goneL]
theorem yV {h : Hp} {v : AV} (hv : shut v = true) : ∀ l : List MvD,
    zg h ((l.map MvD.pr) ++ [(Md.ro, v)]) (l.map MvD.r ++ [(none, none)]) = some (l.map MvD.out ++ [v])
  | [] => by simp [zg, Zy hv]
  | .sv u :: l => by
    have e : roc h 8 (.sc u) = some (.sc u) := ya
    simp only [List.map_cons, List.cons_append, zg, MvD.pr_s, MvD.r_s, MvD.out_s, e, yV hv l, Option.map_some]
  | .bk _ _ _ _ :: l => by simp only [List.map_cons, List.cons_append, zg, MvD.pr_b, MvD.r_b, MvD.out_b, yV hv l, Option.map_some]
theorem zbb (st : St) : ∀ l : List MvD, backL (l.map MvD.r ++ [(none, none)]) (List.replicate l.length .un ++ [.un]) st = some st
  | [] => rfl
  | .sv _ :: l => by simp only [List.map_cons, List.length_cons, List.replicate_succ, List.cons_append, MvD.r, backL]; exact zbb st l
  | .bk _ _ _ _ :: l => by simp only [List.map_cons, List.length_cons, List.replicate_succ, List.cons_append, MvD.r, backL]; exact zbb st l
theorem callK.mvS {fx a c : AX} {dst : Option Nat} {st : St} {K : St → Prop} {f : FuncId} {v : AV} {r : Value} (l : List MvD) (hf : fx.ev st.ρ = .clo f []) (hc : callB P f = true) (ha : a.ev st.ρ = .agg (l.map MvD.av)) (hn : (MvD.bl l).Nodup) (hh : ∀ e ∈ l, e.ok st.h)
    (hv : c.ev st.ρ = v) (hvs : shut v = true) (hR : Ret P f [.agg (l.map MvD.out), v] (.sc r) [.un, .un]) (hd : dOk p dst st.n = true) (hK : K ((goneL l st).setO dst (.sc r))) : callK P p fx [a, c] dst st K := by
  refine callK.gen [.st (l.map MvD.md), .ro] 0 (st1 := goneL l st) (fl := (l.map MvD.pr) ++ [(.ro, v)]) (r := l.map MvD.r ++ [(none, none)]) (yl := l.map MvD.out ++ [v]) (ys := [.agg (l.map MvD.out), v]) (outs := [.un, .un]) (ol := List.replicate l.length .un ++ [.un]) (st2 := goneL l st) (st3 := goneL l st) (y := .sc r) hf hc rfl ?_ ?_ ?_ ?_ hR ?_ ⟨rfl, ?_⟩ ?_ rfl ?_ hK
  · simp only [List.map_cons, List.map_nil, List.append_nil, ha, hv, List.zip_cons_cons, List.zip_nil_right, flatL, flat1, List.length_map, if_true]
    have e : (l.map MvD.md).zip (l.map MvD.av) = l.map MvD.pr := List.zip_map' ..
    rw [e]
  · exact zcP v l st hn hh
  · exact yV hvs l
  · have e : (l.map MvD.out ++ [v]).take (l.map MvD.md).length = l.map MvD.out := by
      rw [List.length_map, ← List.length_map (f := MvD.out), List.take_left]
    have e2 : (l.map MvD.out ++ [v]).drop (l.map MvD.md).length = [v] := by
      rw [List.length_map, ← List.length_map (f := MvD.out), List.drop_left]
    simp only [asm]
    rw [if_pos (by simp), e, e2]
    rfl
  · simp only [outF, List.length_map, Option.map_some]
  · have : ∀ n : Nat, flt.fltL (List.replicate n AV.un ++ [AV.un]) = true := fun n => by
      induction n with
      | zero => rfl
      | succ n ih => simp only [List.replicate_succ, List.cons_append, flt.fltL, flt, ih, Bool.and_self]
    exact this _
  · exact zbb _ l
  · rw [zcL]; exact hd
end
section
variable {P : Program}
theorem callK.mvE {p : List Nat} {fx a : AX} {as : List AX} {dst : Option Nat} {st st3 : St} {K : St → Prop} {f : FuncId} {vs : List AV} {ret y : AV} (d sz : Nat) (hf : fx.ev st.ρ = .clo f []) (hc : callB P f = true) (ha : a.ev st.ρ = .em)
    (hys : (as.map (·.ev st.ρ)).mapM (roc st.h 8) = some vs) (hR : Ret P f (.own [] 0 sz :: vs) ret (.un :: vs.map fun _ => .un)) (hfl : flt ret = true) (hi : inst 64 d ret st = some (y, st3)) (hd : dOk p dst st3.n = true) (hK : K (st3.setO dst y)) : callK P p fx (a :: as) dst st K := by
  obtain ⟨h1, h2, h3, h4, h5, h6, h7⟩ := roL _ _ hys
  refine callK.gen (.mv sz :: as.map fun _ => Md.ro) d (fl := (.mv sz, .em) :: ((as.map (·.ev st.ρ)).map fun _ => Md.ro).zip (as.map (·.ev st.ρ))) (r := (some (.own [] 0 sz), none) :: (as.map (·.ev st.ρ)).map fun _ => (none, none)) (st1 := st) (yl := .own [] 0 sz :: vs) (ys := .own [] 0 sz :: vs) (ol := .un :: vs.map fun _ => .un) (st2 := st) hf hc (by simp) ?_ ?_ ?_ ?_ hR ?_ ⟨hfl, ?_⟩ ?_ hi hd hK
  · have := h4
    simp only [List.map_map, Function.comp_def] at this ⊢
    simp only [List.append_nil, List.map_cons, List.zip_cons_cons, ha, flatL, flat1, this]; rfl
  · simp only [exL, ex1]
    simp only [h1, Option.map_some]
  · simp only [zg, h2, Option.map_some]
  · have := h5
    simp only [List.map_map, Function.comp_def] at this
    simp only [asm, this, Option.map_some]
  · have := h6
    simp only [List.map_map, Function.comp_def] at this
    simp only [outF]
    rw [show (vs.map fun _ => AV.un) = vs.map (fun _ => .un) from rfl, this]; rfl
  · simpa [flt.fltL, flt] using h7
  · simp only [backL, h3]
theorem Yf.mvE {fx a : AX} {as : List AX} {dst : Option Nat} {E A : List Nat} {st st3 : St} {K : St → Prop} {f : FuncId} {vs : List AV} {ret y : AV} (d sz : Nat) (hf : fx.ev st.ρ = .clo f []) (hc : callB P f = true) (ha : a.ev st.ρ = .em)
    (hys : (as.map (·.ev st.ρ)).mapM (roc (hideH A st.h) 8) = some vs) (hR : Ret P f (.own [] 0 sz :: vs) ret (.un :: vs.map fun _ => .un)) (hfl : flt ret = true) (hi : inst 64 d ret (⟨st.ρ, hideH A st.h, st.n⟩ : St) = some (y, st3)) (hE : (instB 64 d ret).all (fun b => E.elem b) = true)
    (hK : K ((⟨st.ρ, merge A st.h st3.h, st.n⟩ : St).setO dst y)) : Yf P fx (a :: as) dst (E, A) st K := by
  obtain ⟨h1, h2, h3, h4, h5, h6, h7⟩ := roL _ _ hys
  refine Yf.gen (.mv sz :: as.map fun _ => Md.ro) d (fl := (.mv sz, .em) :: ((as.map (·.ev st.ρ)).map fun _ => Md.ro).zip (as.map (·.ev st.ρ))) (r := (some (.own [] 0 sz), none) :: (as.map (·.ev st.ρ)).map fun _ => (none, none)) (st1 := (⟨st.ρ, hideH A st.h, st.n⟩ : St)) (yl := .own [] 0 sz :: vs) (ys := .own [] 0 sz :: vs) (ol := .un :: vs.map fun _ => .un) (st2 := (⟨st.ρ, hideH A st.h, st.n⟩ : St)) hf hc (by simp) ?_ ?_ ?_ ?_ hR ?_ ⟨hfl, ?_⟩ ?_ hi ?_ hK
  · have := h4
    simp only [List.map_map, Function.comp_def] at this ⊢
    simp only [List.append_nil, List.map_cons, List.zip_cons_cons, ha, flatL, flat1, this]; rfl
  · simp only [exL, ex1]
    simp only [h1, Option.map_some]
  · simp only [zg, h2, Option.map_some]
  · have := h5
    simp only [List.map_map, Function.comp_def] at this
    simp only [asm, this, Option.map_some]
  · have := h6
    simp only [List.map_map, Function.comp_def] at this
    simp only [outF]
    rw [show (vs.map fun _ => AV.un) = vs.map (fun _ => .un) from rfl, this]; rfl
  · simpa [flt.fltL, flt] using h7
  · simp only [backL, h3]
  · have := roB (xs := as.map (·.ev st.ρ))
    simp only [exB, this]
    exact hE
end
def MRetM (P : Program) (f : FuncId) (u1 u2 : Value) (cs : List AV) (len sz : Nat) (v r : AV) (cs' : List AV) : Prop :=
  (0 < len → Ret P f [.agg [.sc u1, .io cs len sz, .sc u2], v] r [.agg [.un, .io cs' len sz, .un], .un]) ∧ (len = 0 → Ret P f [.agg [.sc u1, .ro [] 0, .sc u2], v] r [.un, .un])
theorem callK.ioM {P : Program} {p : List Nat} {fx a c : AX} {dst : Option Nat} {st : St} {K : St → Prop} {f : FuncId} {u1 u2 : Value} {b len sz : Nat} {cs cs' : List AV} {v : AV} {k' : Int} (hf : fx.ev st.ρ = .clo f []) (hc : callB P f = true) (ha : a.ev st.ρ = .agg [.sc u1, .sl b 0 len sz false, .sc u2]) (hb : st.h b = some (some cs)) (hl : cs.length = len * sz) (hid : Yb.idfreeL cs = true)
    (hv : c.ev st.ρ = v) (hvs : shut v = true) (hR : MRetM P f u1 u2 cs len sz v (.sc (.int .i64 k')) cs') (hl' : cs'.length = cs.length) (hfl : flt.fltL cs' = true) (hd : dOk p dst st.n = true) (hK : K ((st.put b (some cs')).setO dst (.sc (.int .i64 k')))) : callK P p fx [a, c] dst st K := by
  by_cases h0 : len = 0
  · subst h0
    have e : cs = [] := List.length_eq_zero_iff.1 (by omega)
    subst e
    have e' : cs' = [] := List.length_eq_zero_iff.1 (by simpa using hl')
    subst e'
    have eh : st.put b (some []) = st := by
      cases st
      simp only [St.put] at hb ⊢
      congr 1
      funext i
      by_cases ei : i = b
      · subst ei; rw [zc, hb]
      · rw [Yc _ _ ei]
    rw [eh] at hK
    refine callK.ro (st3 := st) (y := .sc (.int .i64 k')) 0 hf hc (ys := [.agg [.sc u1, .ro [] 0, .sc u2], v]) ?_ (hR.2 rfl) (by rfl) (by rfl) hd hK
    have e1 : roc st.h 7 (.sl b 0 0 sz false) = some (.ro [] 0) := zb8 hb hl (by rfl)
    have e2 : roc st.h 8 v = some v := Zy hvs
    simp [ha, hv, Zk, List.mapM_cons, List.mapM_nil, ya, e1, e2]
  · have hpos : 0 < len := by omega
    refine callK.gen [.st [.ro, .io, .ro], .ro] 0 (st1 := st.put b none) (fl := [(.ro, .sc u1), (.io, .sl b 0 len sz false), (.ro, .sc u2), (.ro, v)]) (r := [(none, none), (some (.io cs len sz), some b), (none, none), (none, none)]) (yl := [.sc u1, .io cs len sz, .sc u2, v]) (ys := [.agg [.sc u1, .io cs len sz, .sc u2], v]) (ol := [.un, .io cs' len sz, .un, .un]) (st2 := st.put b (some cs')) (st3 := st.put b (some cs')) hf hc rfl ?_ ?_ ?_ rfl (hR.1 hpos) rfl ⟨by rfl, ?_⟩ ?_ (by rfl) ?_ hK
    · simp [ha, hv]; rfl
    · simp [exL, ex1, hb, hl, hid]
    · have e2 : roc (st.put b none).h 8 v = some v := Zy hvs
      simp [zg, e2, ya]
    · simp [flt.fltL, flt, hfl]
    · have eg : ((st.put b none).put b (some cs')) = st.put b (some cs') := by
        simp only [St.put]
        congr 1
        funext i
        by_cases ei : i = b
        · subst ei; rw [zc, zc]
        · rw [Yc _ _ ei, Yc _ _ ei, Yc _ _ ei]
      have ig : zay ((st.put b none).h b) = true := by simp only [St.put]; rw [zc]; rfl
      simp [backL, hl', ig, eg]
    · exact hd
end Go.Proofs.YtopofpihpnjmbaaGreatDoor.Am
