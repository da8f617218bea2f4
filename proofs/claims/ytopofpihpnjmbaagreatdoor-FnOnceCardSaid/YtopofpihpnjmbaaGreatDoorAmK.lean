/- Marks and what is held, list by list: the loop that all of them share; no program. -/
import Derived.Test.YtopofpihpnjmbaaGreatDoorAmM
import Derived.Test.YtopofpihpnjmbaaGreatDoorAmD
namespace Go.Proofs.YtopofpihpnjmbaaGreatDoor.Am
open Go Go.Proofs
set_option linter.unusedSimpArgs false
set_option linter.unusedVariables false
attribute [local congr] yP yt zq
attribute [local simp] yM ZM zM yL zC Zy YL ZB zk Zo YB Zk Yo yB YM YC yC ZC zJ YI yI y1 Z1 Z2 Y1 ZW zW yW ZD Za Ya wblk zD yy YO zP aval dOk za ev_t ev_c zw zy yZ yA isIo hasIo sbin endR fin resL one outL out1 clo1 cloL coe coeL shut shut.shutL wantA weff cellsOf fillA deref natOf ρ0_app Y0 plain plain.plainL Zf Ye Yk Yt Zq yH Zw Zn yk ZN zt Zp nilA srcOf Zr Yp yn renA rb
def loopC (body : AC) (m : Nat) : AC := .seq (.ops [⟨(some 4), none, .q (.mov (.c (.sc (.int .i64 0))))⟩])
  (.seq (.seq (.ops [⟨(some 5), none, .q (.mov (.c (.sc (.int .i64 0))))⟩])
  (.block 0 (.loop (.seq (.seq (.ops [⟨(some 6), none, .q (.mov (.t 5))⟩, ⟨(some 7), none, .q (.mov (.t 0))⟩, ⟨(some 8), none, .q (.llen (.t 7))⟩, ⟨(some 9), none, .q (.bin .lss (.t 6) (.t 8))⟩])
  (.cond (.t 9) .skip
  (.exit 0)))
  (.seq (.block 1 body)
  (.ops [⟨(some 10), none, .q (.mov (.t 5))⟩, ⟨(some 11), none, .q (.bin .add (.t 10) (.c (.sc (.int .i64 1))))⟩, ⟨(some 5), none, .q (.mov (.t 11))⟩]))))))
  (.seq (.ops [⟨(some m), none, .q (.mov (.t 1))⟩, ⟨(some 4), none, .q (.mov (.t m))⟩])
  .ret))
section
variable {P : Program} {α : Type}
def zgB (t : Ty α) (mk : α → Int → α) (tot : α → Nat) (M R : List AV) (ρ : Nat → AV) (m : Nat) (x : α) (q : Int) : AE → St → Prop := fun e s =>
  e = .normal ∧ ∃ s2, Le s s2 ∧ s2.ρ 0 = ρ 0 ∧ s2.ρ 1 = .sc (.int .i64 (q + tot x)) ∧ s2.ρ 5 = ρ 5 ∧ s2.h 100000 = some (some (M ++ (t.oc (mk x q) ++ R))) ∧ s2.n = m + 1
theorem MRet.loop (t : Ty α) (mk : α → Int → α) (tot : α → Nat) {F : FuncId} {fn : Func} {body : AC} {m : Nat} (hm : 11 < m) (hf : P.funcs[F]? = some fn)
    (hk : fn.body.bind (comp P) = some (loopC body m) ∧ fn.ntmps = m + 1 ∧ fn.results.toList.mapM (resB P) = some [.mov (.t 4)]) (xs : List α) (k : Int) (hb : xs.length < 4611686018427387904)
    (step : ∀ (ρ : Nat → AV) (h : Hp) (M R : List AV) (pre : List α) (x : α) (rest : List α) (q : Int), pre ++ x :: rest = xs → q = k + toL tot pre → M.length = pre.length * t.n → (pre.length : Int) < xs.length →
      ρ 0 = .sl 100000 0 xs.length t.n false → ρ 1 = .sc (.int .i64 q) → ρ 5 = .sc (.int .i64 pre.length) → h 100000 = some (some (M ++ (t.oc x ++ R))) → (∀ b, b ≠ 100000 → h b = none) → zb.idfreeL M = true → zb.idfreeL R = true →
      T P [0] body ⟨ρ, h, m + 1⟩ (zgB t mk tot M R ρ m x q)) :
    MRet P F (rows t.oc xs) xs.length t.n (.sc (.int .i64 k)) (.sc (.int .i64 (k + toL tot xs))) (rows t.oc (mkL mk tot xs k)) := by
  have m0 : (m = 0) = False := eq_false (by omega)
  have m1 : (m = 1) = False := eq_false (by omega)
  have m2 : (0 = m) = False := eq_false (by omega)
  have m3 : (1 = m) = False := eq_false (by omega)
  have m4 : (4 = m) = False := eq_false (by omega)
  have m13 : (5 = m) = False := eq_false (by omega)
  have m5 : (4 < m + 1) = True := eq_true (by omega)
  have m6 : (5 < m + 1) = True := eq_true (by omega)
  have m7 : (6 < m + 1) = True := eq_true (by omega)
  have m8 : (7 < m + 1) = True := eq_true (by omega)
  have m9 : (8 < m + 1) = True := eq_true (by omega)
  have m10 : (9 < m + 1) = True := eq_true (by omega)
  have m11 : (10 < m + 1) = True := eq_true (by omega)
  have m12 : (11 < m + 1) = True := eq_true (by omega)
  constructor
  · intro hpos
    refine Ret.run hf hk (by simp; omega) rfl rfl 500 ?_
    simp [m2, m3, m4, m13, m5, m6, m7, m8, m9, m10, m11, m12, loopC, iniρ]
    refine T.rounds (μ := fun i : List α × List α => i.2.length)
      (fun i s => i.1 ++ i.2 = xs ∧ s.ρ 0 = .sl 100000 0 xs.length t.n false ∧ s.ρ 1 = .sc (.int .i64 (k + toL tot i.1)) ∧ s.ρ 5 = .sc (.int .i64 i.1.length) ∧ s.h 100000 = some (some (rows t.oc (mkL mk tot i.1 k) ++ rows t.oc i.2)) ∧ (∀ b, b ≠ 100000 → s.h b = none) ∧ s.n = m + 1) ([], xs) (by simp [za, mkL, toL, Yf]) ?_
    rintro ⟨pre, rest⟩ ⟨ρ, hh, n⟩ ⟨hx, h0', h1', h5', h7', hfr, rfl⟩
    simp only at hx h0' h1' h5' h7' hfr
    cases rest with
    | nil =>
      refine yg (n := 400) ?_
      simp at hx
      subst hx
      simp [m2, m3, m4, m13, m5, m6, m7, m8, m9, m10, m11, m12, h0', h5']
      refine T.on 400 ?_
      have hl := Yb t.ocn (mkL mk tot pre k)
      rw [zb8] at hl
      have hfr' : zb.idfreeL (rows t.oc (mkL mk tot pre k)) = true := t.frL _
      simp [m2, m3, m4, m13, m5, m6, m7, m8, m9, m10, m11, m12, h0', h1', h7', ex1, Yf, hl, hfr', yj, hpos, m0, m1, zb8]
    | cons x rest =>
      have hle : pre.length + (rest.length + 1) = xs.length := by rw [← hx]; simp
      have hlt : (pre.length : Int) < xs.length := by omega
      have hw : IntKind.i64.wrap ((pre.length : Int) + 1) = pre.length + 1 := zc (by omega) (by omega)
      refine T.seq ?_
      refine yg (n := 400) ?_
      simp [m2, m3, m4, m13, m5, m6, m7, m8, m9, m10, m11, m12, h0', h5', hlt]
      refine T.seq (T.block ?_)
      have hl := Yb t.ocn (mkL mk tot pre k)
      rw [zb8] at hl
      rw [yc] at h7'
      refine T.mono (step (upd (upd (upd (upd ρ 6 _) 7 _) 8 _) 9 _) hh _ _ pre x rest (k + toL tot pre) hx rfl hl hlt (by simp [za, h0']) (by simp [za, h1']) (by simp [za, h5']) h7' hfr (t.frL _) (t.frL _)) ?_
      rintro e s ⟨rfl, s2, hle2, r0, r1, r5, r7, rn⟩
      simp only [zcj, andThen]
      refine T.le hle2 ?_
      obtain ⟨ρ2, h2, n2⟩ := s2
      simp only at r0 r1 r5 r7 rn
      subst rn
      simp only [za] at r0 r5
      simp [h0'] at r0
      simp [h5'] at r5
      refine yg (n := 400) ?_
      simp [m2, m3, m4, m13, m5, m6, m7, m8, m9, m10, m11, m12, r5, hw]
      refine ⟨pre ++ [x], rest, by simp, _, Le.reset [0, 1, 5] [100000] ?_ ?_, ?_⟩
      · simp [za, menB, zb, r0, r1]
      · intro b hb' cs hcs
        simp at hb'
        subst hb'
        simp [r7] at hcs
        subst hcs
        intro y hy
        rcases List.mem_append.1 hy with hy | hy
        · exact yd (t.frL _) y hy
        · rcases List.mem_append.1 hy with hy | hy
          · exact (t.ow _ y hy).fr
          · exact yd (t.frL _) y hy
      · simp [hx, za, r0, r1, r7, ze4, Y7, mkL, toL, Yd, yc, Yf]
        exact ⟨by omega, fun b hb => by simp [hb]⟩
  · intro h
    have e : xs = [] := List.length_eq_zero_iff.1 h
    subst e
    refine Ret.run hf hk (by simp; omega) rfl rfl 500 ?_
    simp [m2, m3, m4, m13, m5, m6, m7, m8, m9, m10, m11, m12, loopC, iniρ]
    refine T.rounds (μ := fun i : Nat => i) (fun i s => s.ρ 0 = .ro [] 0 ∧ s.ρ 1 = .sc (.int .i64 k) ∧ s.ρ 5 = .sc (.int .i64 0) ∧ s.n = m + 1) 0 (by simp [za]) ?_
    rintro i ⟨ρ, hh, n⟩ ⟨h0', h1', h5', rfl⟩
    simp only at h0' h1' h5'
    refine yg (n := 400) ?_
    simp [m2, m3, m4, m13, m5, m6, m7, m8, m9, m10, m11, m12, h0', h5']
    refine T.on 400 ?_
    simp [m2, m3, m4, m13, m5, m6, m7, m8, m9, m10, m11, m12, h1', toL, m0, m1]
theorem zgB.pack (t : Ty α) (x' : α) (M R : List AV) {ρ' : Nat → AV} {H : Hp} {n : Nat} {r0 r1 r5 : AV} (h0 : ρ' 0 = r0) (h1 : ρ' 1 = r1) (h5 : ρ' 5 = r5) (hd : 31000 + t.n ≤ 100000)
    (hH : H 100000 = some (some (M ++ (ysOf 31000 (t.oc x') ++ R)))) (ho : ∀ i cs len sz, (t.oc x')[i]? = some (.own cs len sz) → H (31000 + i) = some (some cs)) :
    ∃ s2, Le ⟨ρ', H, n⟩ s2 ∧ s2.ρ 0 = r0 ∧ s2.ρ 1 = r1 ∧ s2.ρ 5 = r5 ∧ s2.h 100000 = some (some (M ++ (t.oc x' ++ R))) ∧ s2.n = n := by
  obtain ⟨h2, m1, m2, m3⟩ := Le.rowPack 100000 R (t.oc x') 31000 M H hH (t.ow _) ho (by right; rw [t.ocn]; exact hd)
  exact ⟨_, m1 _ _, h0, h1, h5, m2, rfl⟩
end
def zcr (_ : ByteArray) : Nat := 1
inductive MvD where
  | sv (v : Value)
  | bk (b len sz : Nat) (cs : List AV)
def MvD.av : MvD → AV
  | .sv v => .sc v
  | .bk b len sz _ => .sl b 0 len sz false
def MvD.out : MvD → AV
  | .sv v => .sc v
  | .bk _ len sz cs => .own cs len sz
def MvD.md : MvD → Md
  | .sv _ => .ro
  | .bk _ _ sz _ => .mv sz
def MvD.r : MvD → Option AV × Option Nat
  | .sv _ => (none, none)
  | .bk _ len sz cs => (some (.own cs len sz), none)
def MvD.pr (e : MvD) : Md × AV := (e.md, e.av)
def MvD.ok (h : Hp) : MvD → Prop
  | .sv _ => True
  | .bk b len sz cs => h b = some (some cs) ∧ cs.length = len * sz ∧ zb.idfreeL cs = true
section
variable {P : Program} {p : List Nat}
end
section
variable {P : Program}
theorem callK.mvE {p : List Nat} {fx a : AX} {as : List AX} {dst : Option Nat} {st st3 : St} {K : St → Prop} {f : FuncId} {vs : List AV} {ret y : AV} (d sz : Nat) (hf : fx.ev st.ρ = .clo f []) (hc : callB P f = true) (ha : a.ev st.ρ = .em)
    (hys : (as.map (·.ev st.ρ)).mapM (roc st.h 8) = some vs) (hR : Ret P f (.own [] 0 sz :: vs) ret (.un :: vs.map fun _ => .un)) (hfl : flt ret = true) (hi : inst 64 d ret st = some (y, st3)) (hd : dOk p dst st3.n = true) (hK : K (st3.setO dst y)) : callK P p fx (a :: as) dst st K := by
  obtain ⟨h1, h2, h3, h4, h5, h6, h7⟩ := roL _ _ hys
  refine callK.gen (.mv sz :: as.map fun _ => Md.ro) d (fl := (.mv sz, .em) :: ((as.map (·.ev st.ρ)).map fun _ => Md.ro).zip (as.map (·.ev st.ρ))) (r := (some (.own [] 0 sz), none) :: (as.map (·.ev st.ρ)).map fun _ => (none, none)) (st1 := st) (yl := .own [] 0 sz :: vs) (ys := .own [] 0 sz :: vs) (ol := .un :: vs.map fun _ => .un) (st2 := st) hf hc (by simp) ?_ ?_ ?_ ?_ hR ?_ ⟨hfl, ?_⟩ ?_ hi hd hK
  · have := h4
    simp only [List.map_map, Function.comp_def] at this ⊢
    simp only [List.append_nil, List.map_cons, List.zip_cons_cons, ha, flatL, flat1, this]; rfl
  · simp only [exL, ex1]
    simp only [h1, Option.map_some]
  · simp only [Yg, h2, Option.map_some]
  · have := h5
    simp only [List.map_map, Function.comp_def] at this
    simp only [asm, this, Option.map_some]
  · have := h6
    simp only [List.map_map, Function.comp_def] at this
    simp only [outF]
    rw [show (vs.map fun _ => AV.un) = vs.map (fun _ => .un) from rfl, this]; rfl
  · simpa [flt.fltL, flt] using h7
  · simp only [backL, h3]
theorem yf.mvE {fx a : AX} {as : List AX} {dst : Option Nat} {E A : List Nat} {st st3 : St} {K : St → Prop} {f : FuncId} {vs : List AV} {ret y : AV} (d sz : Nat) (hf : fx.ev st.ρ = .clo f []) (hc : callB P f = true) (ha : a.ev st.ρ = .em)
    (hys : (as.map (·.ev st.ρ)).mapM (roc (hideH A st.h) 8) = some vs) (hR : Ret P f (.own [] 0 sz :: vs) ret (.un :: vs.map fun _ => .un)) (hfl : flt ret = true) (hi : inst 64 d ret (⟨st.ρ, hideH A st.h, st.n⟩ : St) = some (y, st3)) (hE : (instB 64 d ret).all (fun b => E.elem b) = true)
    (hK : K ((⟨st.ρ, merge A st.h st3.h, st.n⟩ : St).setO dst y)) : yf P fx (a :: as) dst (E, A) st K := by
  obtain ⟨h1, h2, h3, h4, h5, h6, h7⟩ := roL _ _ hys
  refine yf.gen (.mv sz :: as.map fun _ => Md.ro) d (fl := (.mv sz, .em) :: ((as.map (·.ev st.ρ)).map fun _ => Md.ro).zip (as.map (·.ev st.ρ))) (r := (some (.own [] 0 sz), none) :: (as.map (·.ev st.ρ)).map fun _ => (none, none)) (st1 := (⟨st.ρ, hideH A st.h, st.n⟩ : St)) (yl := .own [] 0 sz :: vs) (ys := .own [] 0 sz :: vs) (ol := .un :: vs.map fun _ => .un) (st2 := (⟨st.ρ, hideH A st.h, st.n⟩ : St)) hf hc (by simp) ?_ ?_ ?_ ?_ hR ?_ ⟨hfl, ?_⟩ ?_ hi ?_ hK
  · have := h4
    simp only [List.map_map, Function.comp_def] at this ⊢
    simp only [List.append_nil, List.map_cons, List.zip_cons_cons, ha, flatL, flat1, this]; rfl
  · simp only [exL, ex1]
    simp only [h1, Option.map_some]
  · simp only [Yg, h2, Option.map_some]
  · have := h5
    simp only [List.map_map, Function.comp_def] at this
    simp only [asm, this, Option.map_some]
  · have := h6
    simp only [List.map_map, Function.comp_def] at this
    simp only [outF]
    rw [show (vs.map fun _ => AV.un) = vs.map (fun _ => .un) from rfl, this]; rfl
  · simpa [flt.fltL, flt] using h7
  · simp only [backL, h3]
  · have := roB (xs := as.map (·.ev st.ρ))
    simp only [exB, this]
    exact hE
end
end Go.Proofs.YtopofpihpnjmbaaGreatDoor.Am
