/- The small machine and the contracts of the functions, part 2 (Files2, PutFile, Acts, ActOf, Make, MakeI, MakeS, Draw, DrawMarks, Num, DrawMades, MakeS2); no condition. -/
import Derived.Test.YtopofpihpnjmbaaGreatDoorProg
import Derived.Test.YtopofpihpnjmbaaGreatDoorAmZ
import Derived.Test.YtopofpihpnjmbaaGreatDoorAmP
import Derived.Test.YtopofpihpnjmbaaGreatDoorAmF
import Derived.Test.YtopofpihpnjmbaaGreatDoorB1
import Derived.KernelRfl
import Derived.Test.YtopofpihpnjmbaaGreatDoorAmJ
import Derived.Test.YtopofpihpnjmbaaGreatDoorAmV
import Derived.Test.YtopofpihpnjmbaaGreatDoorAmM
namespace Go.Proofs.YtopofpihpnjmbaaGreatDoor.Am
open Go Go.Proofs
set_option linter.unusedSimpArgs false
set_option linter.unusedVariables false
attribute [local congr] ZL yp Zm
attribute [local simp] YI yI ZI YH ZA Zv zI yz Yh zl zA Zi Zl Yz zJ zB YA yA yG ZG zG YX yX ZY zY ZS zS yS yB Za yc wblk ZB Yv yK YK aval dOk za ev_t ev_c Zt zv yT Yy isIo hasIo sbin endR fin resL one outL out1 clo1 cloL coe coeL shut shut.shutL wantA weff cellsOf fillA deref natOf ρ0_app ZX plain plain.plainL ye Ze zj Yp Ym ZJ zw zk yi yJ Zp Yl nilA srcOf Yn Zq Yo renA rb
def sameF (n : ByteArray) (x : File) : Bool := x.path.toList == n.toList
def sameM (t : ByteArray) (m : Made) : Bool := m.task.toList == t.toList
def sameE (t : ByteArray) (m : Env) : Bool := m.name.toList == t.toList
def lessF (n : ByteArray) (x : File) : Bool := Op.bytesLess x.path.toList n.toList
def fIx (n : ByteArray) (l : List File) : Int := idx (sameF n) l 0
def mIx (n : ByteArray) (l : List Made) : Int := idx (sameM n) l 0
def getF (l : List File) (n : ByteArray) : ByteArray × Bool := match l.find? (sameF n) with | some x => (x.text, true) | none => (⟨#[]⟩, false)
def getE (l : List Env) (n : ByteArray) : ByteArray × Bool := match l.find? (sameE n) with | some x => (x.val, true) | none => (⟨#[]⟩, false)
def getM (l : List Made) (t n : ByteArray) : ByteArray × Bool := match l.find? (sameM t) with | some m => getF m.outs n | none => (⟨#[]⟩, false)
theorem zal {α : Type} {f : α → Bool} {pre rest : List α} {x : α} (h1 : ∀ y ∈ pre, f y = false) (h2 : f x = true) : (pre ++ x :: rest).find? f = some x := by
  induction pre with
  | nil => simp [h2]
  | cons y pre ih => rw [List.cons_append, List.find?_cons_of_neg (by simp [h1 y List.mem_cons_self]), ih fun z hz => h1 z (List.mem_cons_of_mem _ hz)]
theorem zP {α : Type} {f : α → Bool} {l : List α} (h1 : ∀ y ∈ l, f y = false) : l.find? f = none := List.find?_eq_none.2 fun y hy => by simp [h1 y hy]
def noF (n : ByteArray) (l : List File) : List File := l.filter fun y => !sameF n y
def insF (x : File) (o : List File) : List File := o.take (o.takeWhile (lessF x.path)).length ++ x :: o.drop (o.takeWhile (lessF x.path)).length
theorem zfZ (n : ByteArray) (l : List File) : (noF n l).length ≤ l.length := List.length_filter_le _ _
theorem zdn (x : File) (o : List File) : (insF x o).length = o.length + 1 := by
  have h : (o.takeWhile (lessF x.path)).length ≤ o.length := (List.takeWhile_prefix _).length_le
  simp [insF]; omega
theorem zez (x y : File) (o : List File) : insF x (y :: o) = if lessF x.path y = true then y :: insF x o else x :: y :: o := by
  unfold insF
  by_cases h : lessF x.path y = true
  · rw [if_pos h, List.takeWhile_cons_of_pos h]
    simp
  · rw [if_neg h, List.takeWhile_cons_of_neg h]
    simp
theorem zaV (f : File) : ∀ l : List File, putF f l true = noF f.path l
  | [] => rfl
  | x :: l => by
    unfold noF
    by_cases h : x.path.toList = f.path.toList
    · rw [putF, if_pos h, zaV f l, List.filter_cons_of_neg (by simp [sameF, h])]; rfl
    · rw [putF, if_neg h, if_neg (by simp), zaV f l, List.filter_cons_of_pos (by simp [sameF, h])]; rfl
theorem zM (f : File) : ∀ l : List File, putF f l false = insF f (noF f.path l)
  | [] => rfl
  | x :: l => by
    unfold noF
    by_cases h : x.path.toList = f.path.toList
    · rw [putF, if_pos h, zM f l, List.filter_cons_of_neg (by simp [sameF, h])]; rfl
    · rw [putF, if_neg h, List.filter_cons_of_pos (by simp [sameF, h]), zez]
      cases hl : Op.bytesLess x.path.toList f.path.toList with
      | true =>
        rw [if_neg (by simp [gtrP, hl]), if_pos (by simp [lessF, hl]), zM f l]; rfl
      | false =>
        rw [if_pos (by simp [gtrP, hl, h]), if_neg (by simp [lessF, hl]), zaV f l]; rfl
def A285 : AC := (.seq (.ops [wO 2 (.box (.t 0)), qO 3 (.mov (.c (.sc (.bool false))))])
  (.seq (.ops [qO 4 (.fadr 0 (.t 2)), qO 5 (.load false 1 (.t 4)), qO 6 (.load false 1 (.t 1)), qO 7 (.bin .eql (.t 5) (.t 6)), qO 3 (.mov (.t 7))])
  .ret))
theorem K285 : Kf Tryz.prog Tryz.f285 A285 8 [.mov (.t 3)] := ⟨by kernel_rfl, by kernel_rfl, by kernel_rfl⟩
theorem R285 (n : ByteArray) (x : File) : Ret Tryz.prog 285 [.agg (File.ty.cs x), .rp [.sc (.string n)] 0] (.sc (.bool (sameF n x))) [.un, .un] := by
  refine Ret.run Tryz.func285 K285 (by simp) rfl rfl 500 ?_
  simp [A285, iniρ, File.cse, sameF]
def A222 : AC := (.seq (.ops [wO 2 (.box (.t 0)), qO 3 (.mov (.c (.sc (.bool false))))])
  (.seq (.ops [qO 4 (.fadr 0 (.t 2)), qO 5 (.load false 1 (.t 4)), qO 6 (.fadr 0 (.t 1)), qO 7 (.load false 1 (.t 6)), qO 8 (.bin .eql (.t 5) (.t 7)), qO 3 (.mov (.t 8))])
  .ret))
theorem K222 : Kf Tryz.prog Tryz.f222 A222 9 [.mov (.t 3)] := ⟨by kernel_rfl, by kernel_rfl, by kernel_rfl⟩
theorem R222 (f : File) (x : File) : Ret Tryz.prog 222 [.agg (File.ty.cs x), .rp (File.ty.cs f) 0] (.sc (.bool (sameF f.path x))) [.un, .un] := by
  refine Ret.run Tryz.func222 K222 (by simp) rfl rfl 500 ?_
  simp [A222, iniρ, File.cse, sameF]
def A111 : AC := (.seq (.ops [wO 2 (.box (.t 0)), qO 3 (.mov (.c (.sc (.bool false))))])
  (.seq (.ops [qO 4 (.fadr 0 (.t 2)), qO 5 (.load false 1 (.t 4)), qO 6 (.load false 1 (.t 1)), qO 7 (.bin .eql (.t 5) (.t 6)), qO 3 (.mov (.t 7))])
  .ret))
theorem K111 : Kf Tryz.prog Tryz.f111 A111 8 [.mov (.t 3)] := ⟨by kernel_rfl, by kernel_rfl, by kernel_rfl⟩
theorem R111 (n : ByteArray) (x : Made) : Ret Tryz.prog 111 [.agg (Made.ty.cs x), .rp [.sc (.string n)] 0] (.sc (.bool (sameM n x))) [.un, .un] := by
  refine Ret.run Tryz.func111 K111 (by simp) rfl rfl 500 ?_
  simp [A111, iniρ, Made.cse, sameM]
theorem R255 (g : FuncId) (caps : List AV) (f : File → Bool) (hg : callB Tryz.prog g = true) (hsh : shut.shutL caps = true) (xs : List File) (hR : ∀ x ∈ xs, Ret Tryz.prog g (el true (File.ty.cs x) :: caps) (.sc (.bool (f x))) (.un :: caps.map fun _ => .un)) (hb : xs.length < 4611686018427387904) :
    Ret Tryz.prog 255 [.ro (rows File.ty.cs xs) xs.length, .clo g caps] (.sc (.int .i64 (idx f xs 0))) [.un, .un] :=
  Ret.indexFunc File.ty (agg := true) Tryz.func255 ⟨by kernel_rfl, by kernel_rfl, by kernel_rfl⟩ (fun h => by cases h) g caps f hg hsh xs hR hb
theorem R110 (g : FuncId) (caps : List AV) (f : Made → Bool) (hg : callB Tryz.prog g = true) (hsh : shut.shutL caps = true) (xs : List Made) (hR : ∀ x ∈ xs, Ret Tryz.prog g (el true (Made.ty.cs x) :: caps) (.sc (.bool (f x))) (.un :: caps.map fun _ => .un)) (hb : xs.length < 4611686018427387904) :
    Ret Tryz.prog 110 [.ro (rows Made.ty.cs xs) xs.length, .clo g caps] (.sc (.int .i64 (idx f xs 0))) [.un, .un] :=
  Ret.indexFunc Made.ty (agg := true) Tryz.func110 ⟨by kernel_rfl, by kernel_rfl, by kernel_rfl⟩ (fun h => by cases h) g caps f hg hsh xs hR hb
def A254 : AC := (.seq (.ops [wO 3 (.box (.t 1)), qO 4 (.mov (iC 0))])
  (.seq (.ops [qO 5 (.mov (.t 0)), qO 6 (.mkf 285 [.t 3]), cO 7 255 [.t 5, .t 6], qO 4 (.mov (.t 7))])
  .ret))
theorem K254 : Kf Tryz.prog Tryz.f254 A254 8 [.mov (.t 4)] := ⟨by kernel_rfl, by kernel_rfl, by kernel_rfl⟩
theorem R254 (xs : List File) (n : ByteArray) (hb : xs.length < 4611686018427387904) : Ret Tryz.prog 254 [.ro (rows File.ty.cs xs) xs.length, .sc (.string n)] (.sc (.int .i64 (fIx n xs))) [.un, .un] := by
  refine Ret.run Tryz.func254 K254 (by simp) rfl rfl 500 ?_
  simp [A254, iniρ]
  refine callK.ro 0 rfl (by kernel_rfl) (ys := [.ro (rows File.ty.cs xs) xs.length, .clo 285 [.rp [.sc (.string n)] 0]]) (by simp [zd, za, roc]) (R255 285 [.rp [.sc (.string n)] 0] (sameF n) (by kernel_rfl) rfl xs (fun x _ => R285 n x) hb) rfl rfl rfl ?_
  simp [fIx]
def A47 : AC := (.seq (.ops [wO 3 (.box (.t 1)), qO 4 (.mov (iC 0))])
  (.seq (.ops [qO 5 (.mov (.t 0)), qO 6 (.mkf 111 [.t 3]), cO 7 110 [.t 5, .t 6], qO 4 (.mov (.t 7))])
  .ret))
theorem K47 : Kf Tryz.prog Tryz.f47 A47 8 [.mov (.t 4)] := ⟨by kernel_rfl, by kernel_rfl, by kernel_rfl⟩
theorem R47 (xs : List Made) (n : ByteArray) (hb : xs.length < 4611686018427387904) : Ret Tryz.prog 47 [.ro (rows Made.ty.cs xs) xs.length, .sc (.string n)] (.sc (.int .i64 (mIx n xs))) [.un, .un] := by
  refine Ret.run Tryz.func47 K47 (by simp) rfl rfl 500 ?_
  simp [A47, iniρ]
  refine callK.ro 0 rfl (by kernel_rfl) (ys := [.ro (rows Made.ty.cs xs) xs.length, .clo 111 [.rp [.sc (.string n)] 0]]) (by simp [zd, za, roc]) (R110 111 [.rp [.sc (.string n)] 0] (sameM n) (by kernel_rfl) rfl xs (fun x _ => R111 n x) hb) rfl rfl rfl ?_
  simp [mIx]
def A220 : AC := (.seq (.ops [qO 4 (.mov (.c (.sc (.string ⟨#[]⟩)))), qO 5 (.mov (.c (.sc (.bool false))))])
  (.seq (.ops [qO 7 (.mov (.t 0)), qO 8 (.mov (.t 1)), cO 9 254 [.t 7, .t 8], qO 6 (.mov (.t 9))])
  (.seq (.seq (.ops [qO 10 (.mov (.t 6)), qO 11 (.bin .lss (.t 10) (iC 0))])
  (.cond (.t 11) (.seq (.ops [qO 4 (.mov (.c (.sc (.string ⟨#[]⟩)))), qO 5 (.mov (.c (.sc (.bool false))))])
  .ret)
  .skip))
  (.seq (.ops [qO 12 (.mov (.t 0)), qO 13 (.mov (.t 6)), qO 14 (.iadr 2 (.t 12) (.t 13)), qO 15 (.fadr 1 (.t 14)), qO 16 (.load false 1 (.t 15)), qO 4 (.mov (.t 16)), qO 5 (.mov (.c (.sc (.bool true))))])
  .ret))))
theorem K220 : Kf Tryz.prog Tryz.f220 A220 17 [.mov (.t 4), .mov (.t 5)] := ⟨by kernel_rfl, by kernel_rfl, by kernel_rfl⟩
theorem R220 (xs : List File) (n : ByteArray) (hb : xs.length < 4611686018427387904) : Ret Tryz.prog 220 [.ro (rows File.ty.cs xs) xs.length, .sc (.string n)] (.tup [.sc (.string (getF xs n).1), .sc (.bool (getF xs n).2)]) [.un, .un] := by
  refine Ret.run Tryz.func220 K220 (by simp) rfl rfl 500 ?_
  simp [A220, iniρ]
  refine callK.ro 0 rfl (by kernel_rfl) (by simp [zd, ya]) (R254 xs n hb) rfl rfl rfl ?_
  rcases YB (sameF n) xs 0 with ⟨pre, x, rest, e1, h2, h1, e2⟩ | ⟨h1, e2⟩
  · have e3 : fIx n xs = (pre.length : Int) := by unfold fIx; rw [e2]; omega
    have hG : getF xs n = (x.text, true) := by unfold getF; rw [e1, zal h1 h2]
    have hlt : (pre.length : Int) < xs.length := by rw [e1]; simp only [List.length_append, List.length_cons]; omega
    have hdr := Yd File.ty.csn pre (x :: rest)
    rw [← e1, Zc, File.cse] at hdr
    have hdr : List.drop (pre.length * 2) (rows File.ty.cs xs) = [.sc (.string x.path), .sc (.string x.text)] ++ rows File.ty.cs rest := hdr
    have hd1 : List.drop (pre.length * 2 + 1) (rows File.ty.cs xs) = [.sc (.string x.text)] ++ rows File.ty.cs rest := by rw [← List.drop_drop, hdr]; rfl
    have hp0 : ¬ ((pre.length : Int) < 0) := by omega
    rw [e3, hG]
    simp [hlt, hd1, hp0]
  · have e3 : fIx n xs = -1 := e2
    have hG : getF xs n = (⟨#[]⟩, false) := by unfold getF; rw [zP h1]
    rw [e3, hG]
    simp
def A219 : AC := (.seq (.ops [qO 6 (.mov (.c (.sc (.string ⟨#[]⟩)))), qO 7 (.mov (.c (.sc (.bool false))))])
  (.seq (.ops [qO 9 (.mov (.t 0)), qO 10 (.mov (.t 1)), cO 11 47 [.t 9, .t 10], qO 8 (.mov (.t 11))])
  (.seq (.seq (.ops [qO 12 (.mov (.t 8)), qO 13 (.bin .lss (.t 12) (iC 0))])
  (.cond (.t 13) (.seq (.ops [qO 6 (.mov (.c (.sc (.string ⟨#[]⟩)))), qO 7 (.mov (.c (.sc (.bool false))))])
  .ret)
  .skip))
  (.seq (.ops [qO 14 (.mov (.t 0)), qO 15 (.mov (.t 8)), qO 16 (.iadr 3 (.t 14) (.t 15)), qO 17 (.fadr 1 (.t 16)), qO 18 (.load false 1 (.t 17)), qO 19 (.mov (.t 2)), cO 20 220 [.t 18, .t 19], qO 21 (.ext (.t 20) 0), qO 22 (.ext (.t 20) 1), qO 6 (.mov (.t 21)), qO 7 (.mov (.t 22))])
  .ret))))
theorem K219 : Kf Tryz.prog Tryz.f219 A219 23 [.mov (.t 6), .mov (.t 7)] := ⟨by kernel_rfl, by kernel_rfl, by kernel_rfl⟩
theorem R219 (xs : List Made) (t n : ByteArray) (hb : xs.length < 4611686018427387904) (ho : ∀ m ∈ xs, m.outs.length < 4611686018427387904) : Ret Tryz.prog 219 [.ro (rows Made.ty.cs xs) xs.length, .sc (.string t), .sc (.string n)] (.tup [.sc (.string (getM xs t n).1), .sc (.bool (getM xs t n).2)]) [.un, .un, .un] := by
  refine Ret.run Tryz.func219 K219 (by simp) rfl rfl 500 ?_
  simp [A219, iniρ]
  refine callK.ro 0 rfl (by kernel_rfl) (by simp [zd, ya]) (R47 xs t hb) rfl rfl rfl ?_
  rcases YB (sameM t) xs 0 with ⟨pre, x, rest, e1, h2, h1, e2⟩ | ⟨h1, e2⟩
  · have e3 : mIx t xs = (pre.length : Int) := by unfold mIx; rw [e2]; omega
    have hG : getM xs t n = getF x.outs n := by unfold getM; rw [e1, zal h1 h2]
    have hlt : (pre.length : Int) < xs.length := by rw [e1]; simp only [List.length_append, List.length_cons]; omega
    have hdr := Yd Made.ty.csn pre (x :: rest)
    rw [← e1, Zc, Made.cse] at hdr
    have hdr : List.drop (pre.length * 3) (rows Made.ty.cs xs) = [.sc (.string x.task), .ro (rows File.ty.cs x.outs) x.outs.length, .sc (.string x.log)] ++ rows Made.ty.cs rest := hdr
    have hd1 : List.drop (pre.length * 3 + 1) (rows Made.ty.cs xs) = [.ro (rows File.ty.cs x.outs) x.outs.length, .sc (.string x.log)] ++ rows Made.ty.cs rest := by rw [← List.drop_drop, hdr]; rfl
    have hp0 : ¬ ((pre.length : Int) < 0) := by omega
    rw [e3, hG]
    simp [hlt, hd1, hp0]
    refine callK.ro 0 rfl (by kernel_rfl) (by simp [zd, ya]) (R220 x.outs n (ho x (by rw [e1]; simp))) rfl rfl rfl ?_
    simp
  · have e3 : mIx t xs = -1 := e2
    have hG : getM xs t n = (⟨#[]⟩, false) := by unfold getM; rw [zP h1]
    rw [e3, hG]
    simp
def A45 : AC := (.seq (.ops [qO 4 (.mov (.c (.sc (.string ⟨#[]⟩)))), qO 5 (.mov (.c (.sc (.bool false))))])
  (.seq (.seq (.ops [qO 8 (.mov (.t 0)), qO 9 (.llen (.t 8)), qO 10 (.mov (iC 0))])
  (.block 0 (.loop (.seq (.ops [qO 11 (.bin .lss (.t 10) (.t 9))])
  (.seq (.cond (.t 11) .skip
  (.exit 0))
  (.seq (.block 1 (.seq (.ops [qO 12 (.iadr 2 (.t 8) (.t 10)), qO 13 (.load true 2 (.t 12)), wO 7 (.alloc [(.sc (.string ⟨#[]⟩)), (.sc (.string ⟨#[]⟩))]), nO (.store 2 (.t 7) (.t 13))])
  (.seq (.ops [qO 14 (.fadr 0 (.t 7)), qO 15 (.load false 1 (.t 14)), qO 16 (.mov (.t 1)), qO 17 (.bin .eql (.t 15) (.t 16))])
  (.cond (.t 17) (.seq (.ops [qO 18 (.fadr 1 (.t 7)), qO 19 (.load false 1 (.t 18)), qO 4 (.mov (.t 19)), qO 5 (.mov (.c (.sc (.bool true))))])
  .ret)
  .skip))))
  (.ops [qO 20 (.bin .add (.t 10) (iC 1)), qO 10 (.mov (.t 20))])))))))
  (.seq (.ops [qO 4 (.mov (.c (.sc (.string ⟨#[]⟩)))), qO 5 (.mov (.c (.sc (.bool false))))])
  .ret)))
theorem K45 : Kf Tryz.prog Tryz.f45 A45 21 [.mov (.t 4), .mov (.t 5)] := ⟨by kernel_rfl, by kernel_rfl, by kernel_rfl⟩
theorem R45 (xs : List Env) (n : ByteArray) (hb : xs.length < 4611686018427387904) : Ret Tryz.prog 45 [.ro (rows Env.ty.cs xs) xs.length, .sc (.string n)] (.tup [.sc (.string (getE xs n).1), .sc (.bool (getE xs n).2)]) [.un, .un] := by
  refine Ret.run Tryz.func45 K45 (by simp) rfl rfl 500 ?_
  simp [A45, iniρ]
  refine T.rounds (μ := fun i : List Env × List Env => i.2.length)
    (fun i s => i.1 ++ i.2 = xs ∧ (∀ y ∈ i.1, sameE n y = false) ∧ s.ρ 1 = .sc (.string n) ∧ s.ρ 8 = .ro (rows Env.ty.cs xs) xs.length ∧ s.ρ 9 = .sc (.int .i64 xs.length) ∧ s.ρ 10 = .sc (.int .i64 i.1.length) ∧ s.h 7 = none ∧ s.n = 21) ([], xs) (by simp [za]) ?_
  rintro ⟨pre, rest⟩ ⟨ρ, hh, m⟩ ⟨hx, hpre, k1, k8, k9, k10, f7, rfl⟩
  simp only at hx hpre k1 k8 k9 k10 f7
  refine Zf (n := 400) ?_
  cases rest with
  | nil =>
    rw [List.append_nil] at hx
    subst hx
    have hG : getE pre n = (⟨#[]⟩, false) := by unfold getE; rw [zP hpre]
    simp [k9, k10, hG]
    refine T.on 400 ?_
    simp
  | cons x rest =>
    have hlt : (pre.length : Int) < xs.length := by rw [← hx]; simp only [List.length_append, List.length_cons]; omega
    have hle : pre.length + (rest.length + 1) = xs.length := by rw [← hx]; simp
    have hwr : IntKind.i64.wrap ((pre.length : Int) + 1) = pre.length + 1 := Ya (by omega) (by omega)
    have hd := Yd Env.ty.csn pre (x :: rest)
    rw [hx, Zc] at hd
    have hd : List.drop (pre.length * 2) (rows Env.ty.cs xs) = AV.sc (.string x.name) :: AV.sc (.string x.val) :: rows Env.ty.cs rest := hd
    simp [k1, k8, k9, k10, hlt, hd, f7, over]
    by_cases hs : x.name.toList = n.toList
    · have hG : getE xs n = (x.val, true) := by unfold getE; rw [← hx, zal hpre (by simp [sameE, hs])]
      simp [hs, hG]
    · simp [hs, k10, hwr]
      refine ⟨pre ++ [x], rest, by simp, _, Le.reset [1, 8, 9, 10] [] (by simp [za, menB, Yb, k1, k8, k9]) (by simp), ?_⟩
      simp [hx, za, k1, k8, k9, ye, Ze]
      intro y hy
      rcases hy with hy | rfl
      · exact hpre y hy
      · simp [sameE, hs]
theorem R112 (xs : List File) (hb : xs.length * 32 ≤ 140737488355328) : Ret Tryz.prog 112 [.ro (rows File.ty.cs xs) xs.length] (.own (rows File.ty.oc xs) xs.length 2) [.un] := Ret.clone File.ty rfl (bytes := 32) Tryz.func112 ⟨by kernel_rfl, by kernel_rfl, by kernel_rfl⟩ xs hb
def A48 : AC := (.seq (.ops [wO 1 (.box (.t 0)), wO 2 (.alloc [(.sc (.string ⟨#[]⟩)), .em, (.sc (.string ⟨#[]⟩))])])
  (.seq (.ops [qO 3 (.fadr 1 (.t 1)), qO 4 (.load false 1 (.t 3)), cO 5 112 [.t 4], qO 6 (.fadr 1 (.t 1)), nO (.store 1 (.t 6) (.t 5))])
  (.seq (.ops [qO 7 (.load true 3 (.t 1)), nO (.store 3 (.t 2) (.t 7))])
  .ret)))
theorem K48 : Kf Tryz.prog Tryz.f48 A48 8 [.load true 3 (.t 2)] := ⟨by kernel_rfl, by kernel_rfl, by kernel_rfl⟩
theorem R48 (m : Made) (hb : m.outs.length * 32 ≤ 140737488355328) : Ret Tryz.prog 48 [.agg (Made.ty.cs m)] (.agg (Made.ty.oc m)) [.un] := by
  refine Ret.run Tryz.func48 K48 (by simp) rfl rfl 500 ?_
  simp [A48, iniρ, Made.cse, over]
  refine callK.own 5 rfl (by kernel_rfl) (by simp [zd]) (R112 m.outs hb) (File.ty.flo m.outs) (by simp) rfl ?_
  simp [over, ex1, File.ocl, File.frL, Made.oce]
theorem R221 (g : FuncId) (caps : List AV) (f : File → Bool) (hg : callB Tryz.prog g = true) (hsh : shut.shutL caps = true) (xs : List File) (hR : ∀ x ∈ xs, Ret Tryz.prog g (.agg (File.ty.cs x) :: caps) (.sc (.bool (f x))) (.un :: caps.map fun _ => .un)) (hb : xs.length < 4611686018427387904) :
    Ret Tryz.prog 221 [.own (rows File.ty.oc xs) xs.length 2, .clo g caps] (.own (rows File.ty.oc (xs.filter fun x => !f x)) (xs.filter fun x => !f x).length 2) [.un, .un] :=
  Ret.deleteFunc File.ty rfl (ix := 255) Tryz.func221 ⟨by kernel_rfl, by kernel_rfl, by kernel_rfl⟩ g caps f hg (by kernel_rfl) hsh xs hR (R255 g caps f hg hsh xs hR hb) hb
theorem R223 (xs : List File) (i : Nat) (x : File) (hi : i ≤ xs.length) (hb : (xs.length + 1) * 32 ≤ 140737488355328) : Ret Tryz.prog 223 [.own (rows File.ty.oc xs) xs.length 2, .sc (.int .i64 i), .own (File.ty.oc x) 1 2] (.own (rows File.ty.oc (xs.take i ++ x :: xs.drop i)) (xs.length + 1) 2) [.un, .un, .un] :=
  Ret.insert mixed File.ty rfl (ov := 256) (rr := 257) (bytes := 32) Tryz.func223 ⟨by kernel_rfl, by kernel_rfl, by kernel_rfl⟩ (OvF.of Tryz.func256 (by kernel_rfl) (by kernel_rfl) (by kernel_rfl) (by kernel_rfl) (by kernel_rfl)) xs i x hi hb (by omega)
def A281 : AC := (.seq (.ops [qO 4 (.mov (iC 0))])
  (.seq (.seq (.ops [qO 5 (.mov (iC 0))])
  (.block 0 (.loop (.seq (.seq (.ops [qO 6 (.mov (.t 5)), qO 7 (.mov (.t 0)), qO 8 (.llen (.t 7)), qO 9 (.bin .lss (.t 6) (.t 8))])
  (.cond (.t 9) .skip
  (.exit 0)))
  (.seq (.block 1 (.seq (.ops [qO 12 (.mov (.t 0)), qO 13 (.mov (.t 5)), qO 14 (.iadr 2 (.t 12) (.t 13)), qO 15 (.fadr 0 (.t 14)), qO 16 (.load false 1 (.t 15)), qO 17 (.mov (.t 1)), qO 18 (.bin .eql (.t 16) (.t 17))])
  (.cond (.t 18) (.seq (.ops [qO 19 (.mov (.t 5)), qO 4 (.mov (.t 19))])
  .ret)
  .skip)))
  (.ops [qO 10 (.mov (.t 5)), qO 11 (.bin .add (.t 10) (iC 1)), qO 5 (.mov (.t 11))]))))))
  (.seq (.ops [qO 4 (.mov (iC (-1)))])
  .ret)))
theorem K281 : Kf Tryz.prog Tryz.f281 A281 20 [.mov (.t 4)] := ⟨by kernel_rfl, by kernel_rfl, by kernel_rfl⟩
theorem R281 (xs : List File) (n : ByteArray) (hb : xs.length < 4611686018427387904) : Ret Tryz.prog 281 [.ro (rows File.ty.cs xs) xs.length, .sc (.string n)] (.sc (.int .i64 (fIx n xs))) [.un, .un] := by
  refine Ret.run Tryz.func281 K281 (by simp) rfl rfl 500 ?_
  simp [A281, iniρ]
  refine T.rounds (μ := fun i : List File × List File => i.2.length)
    (fun i s => i.1 ++ i.2 = xs ∧ idx (sameF n) i.2 i.1.length = fIx n xs ∧ s.ρ 0 = .ro (rows File.ty.cs xs) xs.length ∧ s.ρ 1 = .sc (.string n) ∧ s.ρ 5 = .sc (.int .i64 i.1.length) ∧ s.h = h0 ∧ s.n = 20) ([], xs) (by simp [za, fIx]) ?_
  rintro ⟨pre, rest⟩ ⟨ρ, hh, m⟩ ⟨hx, hE, k0, k1, k5, rfl, rfl⟩
  simp only at hx hE k0 k1 k5
  refine Zf (n := 400) ?_
  cases rest with
  | nil =>
    simp at hx
    subst hx
    simp [k0, k5]
    refine T.on 400 ?_
    simp [← hE, idx]
  | cons x rest =>
    have hlt : (pre.length : Int) < xs.length := by rw [← hx]; simp only [List.length_append, List.length_cons]; omega
    have hd := Yd File.ty.csn pre (x :: rest)
    rw [hx, Zc] at hd
    have hd : List.drop (pre.length * 2) (rows File.ty.cs xs) = .sc (.string x.path) :: .sc (.string x.text) :: rows File.ty.cs rest := hd
    have hw : IntKind.i64.wrap ((pre.length : Int) + 1) = pre.length + 1 := Ya (by omega) (by omega)
    simp [k0, k1, k5, hlt, hd]
    by_cases hk : x.path.toList = n.toList
    · simp [hk, k5, ← hE, idx, sameF]
    · simp [hk, k5, hw]
      refine ⟨pre ++ [x], rest, by simp, _, Le.refl _, ?_⟩
      simp [hx, k0, k1, ← hE, idx, sameF, hk, za]
def A245 : AC := (.seq (.ops [qO 4 (.mov (.c (.sc (.string ⟨#[]⟩)))), qO 5 (.mov (.c (.sc (.bool false))))])
  (.seq (.ops [qO 7 (.mov (.t 0)), qO 8 (.mov (.t 1)), cO 9 281 [.t 7, .t 8], qO 6 (.mov (.t 9))])
  (.seq (.seq (.ops [qO 10 (.mov (.t 6)), qO 11 (.bin .lss (.t 10) (iC 0))])
  (.cond (.t 11) (.seq (.ops [qO 4 (.mov (.c (.sc (.string ⟨#[]⟩)))), qO 5 (.mov (.c (.sc (.bool false))))])
  .ret)
  .skip))
  (.seq (.ops [qO 12 (.mov (.t 0)), qO 13 (.mov (.t 6)), qO 14 (.iadr 2 (.t 12) (.t 13)), qO 15 (.fadr 1 (.t 14)), qO 16 (.load false 1 (.t 15)), qO 4 (.mov (.t 16)), qO 5 (.mov (.c (.sc (.bool true))))])
  .ret))))
theorem K245 : Kf Tryz.prog Tryz.f245 A245 17 [.mov (.t 4), .mov (.t 5)] := ⟨by kernel_rfl, by kernel_rfl, by kernel_rfl⟩
theorem R245 (xs : List File) (n : ByteArray) (hb : xs.length < 4611686018427387904) : Ret Tryz.prog 245 [.ro (rows File.ty.cs xs) xs.length, .sc (.string n)] (.tup [.sc (.string (getF xs n).1), .sc (.bool (getF xs n).2)]) [.un, .un] := by
  refine Ret.run Tryz.func245 K245 (by simp) rfl rfl 500 ?_
  simp [A245, iniρ]
  refine callK.ro 0 rfl (by kernel_rfl) (by simp [zd, ya]) (R281 xs n hb) rfl rfl rfl ?_
  rcases YB (sameF n) xs 0 with ⟨pre, x, rest, e1, h2, h1, e2⟩ | ⟨h1, e2⟩
  · have e3 : fIx n xs = (pre.length : Int) := by unfold fIx; rw [e2]; omega
    have hG : getF xs n = (x.text, true) := by unfold getF; rw [e1, zal h1 h2]
    have hlt : (pre.length : Int) < xs.length := by rw [e1]; simp only [List.length_append, List.length_cons]; omega
    have hdr := Yd File.ty.csn pre (x :: rest)
    rw [← e1, Zc, File.cse] at hdr
    have hdr : List.drop (pre.length * 2) (rows File.ty.cs xs) = [.sc (.string x.path), .sc (.string x.text)] ++ rows File.ty.cs rest := hdr
    have hd1 : List.drop (pre.length * 2 + 1) (rows File.ty.cs xs) = [.sc (.string x.text)] ++ rows File.ty.cs rest := by rw [← List.drop_drop, hdr]; rfl
    have hp0 : ¬ ((pre.length : Int) < 0) := by omega
    rw [e3, hG]
    simp [hlt, hd1, hp0]
  · have e3 : fIx n xs = -1 := e2
    have hG : getF xs n = (⟨#[]⟩, false) := by unfold getF; rw [zP h1]
    rw [e3, hG]
    simp
theorem zdm (f : File) (o : List File) : ∀ x ∈ insF f o, x = f ∨ x ∈ o := fun x hx => by
  unfold insF at hx
  rcases List.mem_append.1 hx with h | h
  · exact .inr (List.mem_of_mem_take h)
  · rcases List.mem_cons.1 h with h | h
    · exact .inl h
    · exact .inr (List.mem_of_mem_drop h)
def A162 : AC := (.seq (.ops [wO 3 (.box (.t 1)), qO 4 (.mov (.c .em)), qO 5 (.mov (.c (.sc (.bool false))))])
  (.seq (.ops [qO 8 (.mov (.t 0)), cO 9 112 [.t 8], qO 10 (.mkf 222 [.t 3]), cO 11 221 [.t 9, .t 10], qO 6 (.mov (.t 11))])
  (.seq (.ops [qO 7 (.mov (iC 0))])
  (.seq (.block 0 (.loop (.seq (.seq (.any [(qO 12 (.mov (.t 7)), []), (qO 13 (.mov (.t 6)), []), (qO 14 (.llen (.t 13)), [1]), (qO 15 (.bin .lss (.t 12) (.t 14)), [0, 2]), (qO 16 (.mov (.t 15)), [3]), (qG 17 16 true (.mov (.t 6)), [4]), (qG 18 16 true (.mov (.t 7)), [4]), (qG 19 16 true (.iadr 2 (.t 17) (.t 18)), [5, 6, 4]), (qG 20 16 true (.fadr 0 (.t 19)), [7, 4]), (qG 21 16 true (.load false 1 (.t 20)), [8, 4]), (qG 22 16 true (.fadr 0 (.t 3)), [4]), (qG 23 16 true (.load false 1 (.t 22)), [10, 4]), (qG 24 16 true (.bin .lss (.t 21) (.t 23)), [9, 11, 4]), (qO 25 (.pick (.t 16) (.t 24) (.c (.sc (.bool false)))), [4, 12])])
  (.cond (.t 25) .skip
  (.exit 0)))
  (.block 1 (.ops [qO 26 (.mov (.t 7)), qO 27 (.bin .add (.t 26) (iC 1)), qO 7 (.mov (.t 27))])))))
  (.seq (.ops [qO 28 (.mov (.t 6)), qO 29 (.mov (.t 7)), qO 30 (.load true 2 (.t 3)), wO 31 (.bsl 2 1 [(.sc (.string ⟨#[]⟩)), (.sc (.string ⟨#[]⟩))] [(0, 2, (.t 30))]), cO 32 223 [.t 28, .t 29, .t 31], qO 6 (.mov (.t 32))])
  (.seq (.seq (.ops [qO 33 (.mov (.t 6)), cO 34 224 [.t 33], qO 35 (.not (.t 34))])
  (.cond (.t 35) (.seq (.ops [qO 36 (.mov (.t 0)), cO 37 112 [.t 36], qO 4 (.mov (.t 37)), qO 5 (.mov (.c (.sc (.bool false))))])
  .ret)
  .skip))
  (.seq (.ops [qO 38 (.mov (.t 6)), qO 4 (.mov (.t 38)), qO 5 (.mov (.c (.sc (.bool true))))])
  .ret)))))))
theorem K162 : Kf Tryz.prog Tryz.f162 A162 39 [.mov (.t 4), .mov (.t 5)] := ⟨by kernel_rfl, by kernel_rfl, by kernel_rfl⟩
set_option maxHeartbeats 4000000 in
theorem R162 (xs : List File) (f : File) (hok : File.ty.slice.ok xs) (hp : ∀ x ∈ xs, x.path.size ≤ 1048576) (hf : f.path.size ≤ 1048576) : Ret Tryz.prog 162 [.ro (rows File.ty.cs xs) xs.length, .agg (File.ty.cs f)] (.tup [.own (rows File.ty.oc (yh xs f).1) (yh xs f).1.length 2, .sc (.bool (yh xs f).2)]) [.un, .un] := by
  have hb : xs.length * 32 ≤ 140737488351232 := hok.1
  obtain ⟨o, ho⟩ : ∃ o, o = noF f.path xs := ⟨_, rfl⟩
  have hlo : o.length ≤ xs.length := by rw [ho]; exact zfZ _ xs
  have hpo : ∀ x ∈ insF f o, x.path.size ≤ 1048576 := fun x hx => (zdm f o x hx).elim (fun e => e ▸ hf) fun h => hp x (by rw [ho] at h; exact (List.mem_filter.1 h).1)
  have rD := R221 222 [.rp (File.ty.cs f) 0] (sameF f.path) (by kernel_rfl) rfl xs (fun x _ => R222 f x) (by omega)
  have e : (xs.filter fun x => !sameF f.path x) = o := by rw [ho]; rfl
  rw [e] at rD
  refine Ret.run Tryz.func162 K162 (by simp) rfl rfl 900 ?_
  simp [A162, iniρ]
  refine callK.own 9 rfl (by kernel_rfl) (by simp [zd]) (R112 xs (by omega)) (File.ty.flo xs) (by simp [za]) rfl ?_
  simp
  refine callK.mv1 11 9 rfl (by kernel_rfl) (by simp [za]) (by simp [za]) (File.ocl xs) (File.frL xs) (vs := [.clo 222 [.rp (File.ty.cs f) 0]]) (by simp [roc, za, File.cse]) rD (File.ty.flo _) (by simp [inst, za]; exact ⟨rfl, rfl⟩) rfl ?_
  simp
  refine T.rounds (μ := fun i : List File × List File => i.2.length)
    (fun i s => i.1 ++ i.2 = o ∧ (∀ y ∈ i.1, lessF f.path y = true) ∧ s.ρ 0 = .ro (rows File.ty.cs xs) xs.length ∧ s.ρ 3 = .ref 3 0 ∧ s.ρ 6 = .sl 11 0 o.length 2 false ∧ s.ρ 7 = .sc (.int .i64 i.1.length) ∧ s.h 3 = some (some (File.ty.cs f)) ∧ s.h 11 = some (some (rows File.ty.oc o)) ∧ s.h 31 = none ∧ s.h 32 = none ∧ s.h 37 = none ∧ s.n = 39) ([], o) (by simp [za, File.cse]) ?_
  rintro ⟨pre, rest⟩ ⟨ρ, hh, m⟩ ⟨hx, hpre, k0, k3, k6, k7, g3, g11, f31, f32, f37, rfl⟩
  simp only at hx hpre k0 k3 k6 k7 g3 g11 f31 f32 f37
  refine Zf (n := 400) ?_
  have hpl : pre.length ≤ o.length := by rw [← hx]; simp
  have hins : ∀ z : List File, rest = z → (∀ y, z.head? = some y → lessF f.path y = false) → o.take pre.length ++ f :: o.drop pre.length = insF f o := by
    intro z hz hh
    have e : (o.takeWhile (lessF f.path)) = pre := by
      rw [← hx, hz, List.takeWhile_append_of_pos hpre]
      cases z with
      | nil => simp
      | cons y z => rw [List.takeWhile_cons_of_neg (by simp [hh y rfl]), List.append_nil]
    unfold insF
    rw [e]
  refine T.text 400 mixed (by kernel_rfl) (by kernel_rfl) ?_
  cases rest with
  | nil =>
    have hxl : pre.length = o.length := by rw [← hx]; simp
    have hI := hins [] rfl (by simp)
    have hil := zdn f o
    have hRI := R223 o pre.length f hpl (by omega)
    rw [hI] at hRI
    have hfI : flt (.own (rows File.ty.oc (insF f o)) (o.length + 1) 2) = true := by have := File.ty.flo (insF f o); rwa [hil] at this
    simp [k6, k7, hxl]
    refine T.on 400 ?_
    simp [k0, k3, k6, k7, g3, f31, over, File.cse]
    refine callK.mv2 32 11 31 rfl (by kernel_rfl) (by simp [za, k6]) (by simp [za, g11]) (File.ocl _) (File.frL _) (v := .int .i64 pre.length) (by simp [za]) (by simp [za]) (cs2 := File.ty.oc f) (by simp [za, File.oce]) rfl (by rfl) (by decide) hRI (hfI) (by simp [inst, za, f32]; exact ⟨rfl, rfl⟩) rfl ?_
    have hrc : ∀ h : Hp, h 32 = some (some (rows File.ty.oc (insF f o))) → roc h 8 (.sl 32 0 (o.length + 1) 2 false) = some (.ro (rows File.ty.cs (insF f o)) (insF f o).length) := fun h e => by rw [← hil]; exact File.roc8 e
    simp
    refine callK.ro 0 rfl (by kernel_rfl) (by simp [za, hrc]) (R224 (insF f o) (by omega) hpo) rfl rfl rfl ?_
    by_cases hfo : Yx (insF f o) = true
    · have hP : yh xs f = (insF f o, true) := by unfold yh; rw [zM, ← ho, if_pos hfo]
      rw [hP]
      simp [hfo, ex1, File.ocl, File.frL, hil]
    have hP : yh xs f = (xs, false) := by unfold yh; rw [zM, ← ho, if_neg hfo]
    rw [hP]
    have f37' := f37
    simp [hfo, k0]
    refine callK.own 37 rfl (by kernel_rfl) (by simp [zd, za, k0]) (R112 xs (by omega)) (File.ty.flo xs) (by simp [za, f37]) rfl ?_
    simp [ex1, File.ocl, File.frL]
  | cons x rest =>
    have hlt : (pre.length : Int) < o.length := by rw [← hx]; simp only [List.length_append, List.length_cons]; omega
    have hd := Yd File.ty.ocn pre (x :: rest)
    rw [hx, Zc, File.oce] at hd
    have hd : List.drop (pre.length * 2) (rows File.ty.oc o) = [.sc (.string x.path), .sc (.string x.text)] ++ rows File.ty.oc rest := hd
    have hw : IntKind.i64.wrap ((pre.length : Int) + 1) = pre.length + 1 := Ya (by omega) (by omega)
    cases hles : lessF f.path x with
    | true =>
      have hles' : Op.bytesLess x.path.toList f.path.toList = true := hles
      simp [k0, k3, k6, k7, hlt, g3, g11, hd, hles', hw, File.cse]
      refine ⟨pre ++ [x], rest, by simp, _, Le.refl _, ?_⟩
      simp [za, hx, k0, k3, k6, g3, g11, f31, f32, f37, File.cse]
      intro y hy
      rcases hy with hy | rfl
      · exact hpre y hy
      · exact hles
    | false =>
      have hles' : Op.bytesLess x.path.toList f.path.toList = false := hles
      have hI := hins (x :: rest) rfl (by simp [hles])
      have hil := zdn f o
      have hRI := R223 o pre.length f hpl (by omega)
      rw [hI] at hRI
      have hfI : flt (.own (rows File.ty.oc (insF f o)) (o.length + 1) 2) = true := by have := File.ty.flo (insF f o); rwa [hil] at this
      simp [k0, k3, k6, k7, hlt, g3, g11, hd, hles', File.cse]
      refine T.on 400 ?_
      simp [k0, k3, k6, k7, g3, f31, over, File.cse]
      refine callK.mv2 32 11 31 rfl (by kernel_rfl) (by simp [za, k6]) (by simp [za, g11]) (File.ocl _) (File.frL _) (v := .int .i64 pre.length) (by simp [za]) (by simp [za]) (cs2 := File.ty.oc f) (by simp [za, File.oce]) rfl (by rfl) (by decide) hRI (hfI) (by simp [inst, za, f32]; exact ⟨rfl, rfl⟩) rfl ?_
      have hrc : ∀ h : Hp, h 32 = some (some (rows File.ty.oc (insF f o))) → roc h 8 (.sl 32 0 (o.length + 1) 2 false) = some (.ro (rows File.ty.cs (insF f o)) (insF f o).length) := fun h e => by rw [← hil]; exact File.roc8 e
      simp
      refine callK.ro 0 rfl (by kernel_rfl) (by simp [za, hrc]) (R224 (insF f o) (by omega) hpo) rfl rfl rfl ?_
      by_cases hfo : Yx (insF f o) = true
      · have hP : yh xs f = (insF f o, true) := by unfold yh; rw [zM, ← ho, if_pos hfo]
        rw [hP]
        simp [hfo, ex1, File.ocl, File.frL, hil]
      have hP : yh xs f = (xs, false) := by unfold yh; rw [zM, ← ho, if_neg hfo]
      rw [hP]
      have f37' := f37
      simp [hfo, k0]
      refine callK.own 37 rfl (by kernel_rfl) (by simp [zd, za, k0]) (R112 xs (by omega)) (File.ty.flo xs) (by simp [za, f37]) rfl ?_
      simp [ex1, File.ocl, File.frL]
def yg (s : ByteArray) : List ByteArray := Zn s 32
def isW (x : ByteArray) (l : List UInt8) : Bool := x.toList == l
def atB (l : List ByteArray) (i : Nat) : ByteArray := l[i]?.getD ⟨#[]⟩
def Yu (l : List ByteArray) : Bool := decide (2 ≤ l.length) && isW (atB l (l.length - 2)) [62]
def l15W (s : ByteArray) : List ByteArray × ByteArray := if Yu (yg s) then ((yg s).take ((yg s).length - 2), atB (yg s) ((yg s).length - 1)) else (yg s, ⟨#[]⟩)
def fullB (l : List ByteArray) : Bool := l.all fun x => !isW x []
def kindS (w : ByteArray) (n : Nat) (out : ByteArray) (into : Bool) : Bool :=
  if isW w [112, 117, 116] then decide (2 ≤ n) && yk out
  else if isW w [99, 97, 116] then inR n 2 4 && yk out
  else if isW w [101, 110, 118] then n == 2 && yk out
  else if isW w [117, 115, 101] then n == 3 && yk out
  else if isW w [108, 111, 103] then decide (2 ≤ n) && (isW out [] && !into)
  else if isW w [102, 97, 105, 108] then n == 1 && (isW out [] && !into)
  else false
def yP (s : ByteArray) : Bool := fullB (l15W s).1 && (!((l15W s).1.length == 0) && kindS (atB (l15W s).1 0) (l15W s).1.length (l15W s).2 (Yu (yg s)))
theorem YU (l : List ByteArray) : (rows Ty.str.oc l).length = l.length := by rw [zb Ty.str.ocn]; exact Nat.mul_one _
theorem zcw (xs : List ByteArray) (i : Nat) (h : i < xs.length) : List.drop i (rows Ty.str.oc xs) = .sc (.string (atB xs i)) :: rows Ty.str.oc (xs.drop (i + 1)) := by
  have h2 := Yd Ty.str.ocn (xs.take i) (xs.drop i)
  rw [List.take_append_drop, List.length_take, Nat.min_eq_left (by omega), show i * Ty.str.n = i from Nat.mul_one i] at h2
  rw [h2, List.drop_eq_getElem_cons h, Zc]
  have e : atB xs i = xs[i] := by unfold atB; rw [List.getElem?_eq_getElem h]; rfl
  rw [e]
  rfl
theorem zD (xs : List ByteArray) (i : Nat) (h : i < xs.length) : List.drop i (rows Ty.str.cs xs) = .sc (.string (atB xs i)) :: rows Ty.str.cs (xs.drop (i + 1)) := zcw xs i h
theorem zd3 (xs : List ByteArray) (k : Nat) (h : k ≤ xs.length) : List.take k (rows Ty.str.oc xs) = rows Ty.str.oc (xs.take k) := by
  have h2 : rows Ty.str.oc xs = rows Ty.str.oc (xs.take k) ++ rows Ty.str.oc (xs.drop k) := by rw [← ze, List.take_append_drop]
  rw [h2, List.take_left' (by rw [YU, List.length_take, Nat.min_eq_left h])]
theorem YM (s : ByteArray) : 1 ≤ (yg s).length ∧ (yg s).length ≤ s.size + 1 := by
  have h : (yg s).length = s.data.toList.count 32 + 1 := zH s 32 _ _ _
  have h2 : s.data.toList.count 32 ≤ s.data.toList.length := List.count_le_length
  have h3 : s.data.toList.length = s.size := rfl
  omega
theorem zaN (s : ByteArray) (b : Int) : ∀ (l : List UInt8) (f i : Nat), ∀ x ∈ yu s b f i l, x.size ≤ s.size
  | [], f, i, x, h => by
    rw [yu, List.mem_singleton] at h
    subst h
    rw [ByteArray.size_extract]; omega
  | c :: l, f, i, x, h => by
    rw [yu] at h
    split at h
    · rcases List.mem_cons.1 h with rfl | h
      · rw [ByteArray.size_extract]; omega
      · exact zaN s b l _ _ x h
    · exact zaN s b l _ _ x h
theorem zag (s : ByteArray) : ∀ x ∈ yg s, x.size ≤ s.size := zaN s 32 _ _ _
theorem zdy {l : List ByteArray} {n : Nat} (h : ∀ x ∈ l, x.size ≤ n) (i : Nat) : (atB l i).size ≤ n := by
  unfold atB
  cases e : l[i]? with
  | none => exact Nat.zero_le _
  | some y => exact h y (List.mem_of_getElem? e)
theorem Z9 (s : ByteArray) {n : Nat} (hs : s.size ≤ n) : (l15W s).2.size ≤ n := by
  unfold l15W
  split
  · exact Nat.le_trans (zdy (zag s) _) hs
  · exact Nat.zero_le _
def A243 : AC := (.seq (.ops [qO 2 (.mov (.c (.sc (.bool false))))])
  (.seq (.seq (.ops [qO 3 (.mov (iC 0))])
  (.block 0 (.loop (.seq (.seq (.ops [qO 4 (.mov (.t 3)), qO 5 (.mov (.t 0)), qO 6 (.llen (.t 5)), qO 7 (.bin .lss (.t 4) (.t 6))])
  (.cond (.t 7) .skip
  (.exit 0)))
  (.seq (.block 1 (.seq (.ops [qO 10 (.mov (.t 0)), qO 11 (.mov (.t 3)), qO 12 (.iadr 1 (.t 10) (.t 11)), qO 13 (.load false 1 (.t 12)), qO 14 (.bin .eql (.t 13) (.c (.sc (.string ⟨#[]⟩))))])
  (.cond (.t 14) (.seq (.ops [qO 2 (.mov (.c (.sc (.bool false))))])
  .ret)
  .skip)))
  (.ops [qO 8 (.mov (.t 3)), qO 9 (.bin .add (.t 8) (iC 1)), qO 3 (.mov (.t 9))]))))))
  (.seq (.ops [qO 2 (.mov (.c (.sc (.bool true))))])
  .ret)))
theorem K243 : Kf Tryz.prog Tryz.f243 A243 15 [.mov (.t 2)] := ⟨by kernel_rfl, by kernel_rfl, by kernel_rfl⟩
theorem R243 (xs : List ByteArray) (hb : xs.length < 4611686018427387904) : Ret Tryz.prog 243 [.ro (rows Ty.str.cs xs) xs.length] (.sc (.bool (fullB xs))) [.un] := by
  refine Ret.run Tryz.func243 K243 (by simp) rfl rfl 500 ?_
  simp [A243, iniρ]
  refine T.rounds (μ := fun i : List ByteArray × List ByteArray => i.2.length)
    (fun i s => i.1 ++ i.2 = xs ∧ fullB i.2 = fullB xs ∧ s.ρ 0 = .ro (rows Ty.str.cs xs) xs.length ∧ s.ρ 3 = .sc (.int .i64 i.1.length) ∧ s.h = h0 ∧ s.n = 15) ([], xs) (by simp [za]) ?_
  rintro ⟨pre, rest⟩ ⟨ρ, hh, m⟩ ⟨hx, hE, k0, k3, rfl, rfl⟩
  simp only at hx hE k0 k3
  refine Zf (n := 400) ?_
  cases rest with
  | nil =>
    simp at hx
    subst hx
    have hf : fullB pre = true := hE.symm
    simp [k0, k3]
    refine T.on 400 ?_
    simp [hf]
  | cons x rest =>
    have hlt : (pre.length : Int) < xs.length := by rw [← hx]; simp only [List.length_append, List.length_cons]; omega
    have hlt2 : pre.length < xs.length := by omega
    have hd := zD xs pre.length hlt2
    have hat : atB xs pre.length = x := by unfold atB; rw [← hx, List.getElem?_append_right (Nat.le_refl _)]; simp
    rw [hat] at hd
    have hw : IntKind.i64.wrap ((pre.length : Int) + 1) = pre.length + 1 := Ya (by omega) (by omega)
    simp [k0, k3, hlt, hlt2, hd]
    by_cases hk : x.toList = []
    · have hf : fullB xs = false := by rw [← hE]; simp [fullB, isW, hk]
      simp [hk, hf]
    · have hf : fullB rest = fullB xs := by rw [← hE]; simp [fullB, isW, hk]
      simp [hk, k3, hw]
      refine ⟨pre ++ [x], rest, by simp, _, Le.refl _, ?_⟩
      simp [hx, k0, hf, za]
def A244 : AC := (.seq (.ops [qO 2 (.mov (.c (.sc (.bool false))))])
  (.seq (.ops [qO 4 (.mov (.t 0)), cO 5 113 [.t 4, (.c (.sc (.int .u8 32)))], qO 3 (.mov (.t 5))])
  (.seq (.ops [qO 6 (.mov (.t 3)), qO 7 (.llen (.t 6)), qO 8 (.bin .geq (.t 7) (iC 2)), qO 9 (.mov (.t 8)), qG 10 9 true (.mov (.t 3)), qG 11 9 true (.mov (.t 3)), qG 12 9 true (.llen (.t 11)), qG 13 9 true (.bin .sub (.t 12) (iC 2)), qG 14 9 true (.iadr 1 (.t 10) (.t 13)), qG 15 9 true (.load false 1 (.t 14)), qG 16 9 true (.bin .eql (.t 15) (.c (.sc (.string ⟨#[62]⟩)))), qO 17 (.pick (.t 9) (.t 16) (.c (.sc (.bool false)))), qO 2 (.mov (.t 17))])
  .ret)))
theorem K244 : Kf Tryz.prog Tryz.f244 A244 18 [.mov (.t 2)] := ⟨by kernel_rfl, by kernel_rfl, by kernel_rfl⟩
theorem R244 (s : ByteArray) (hs : s.size ≤ 1048576) : Ret Tryz.prog 244 [.sc (.string s)] (.sc (.bool (Yu (yg s)))) [.un] := by
  have rS : Ret Tryz.prog 113 [.sc (.string s), .sc (.int .u8 32)] (.own (rows Ty.str.oc (yg s)) (yg s).length 1) [.un, .un] := R113 s 32 hs
  obtain ⟨h1, h2⟩ := YM s
  obtain ⟨l, hl⟩ : ∃ l, l = yg s := ⟨_, rfl⟩
  rw [← hl] at rS h1 h2 ⊢
  refine Ret.run Tryz.func244 K244 (by simp) rfl rfl 500 ?_
  simp [A244, iniρ]
  refine callK.own 5 rfl (by kernel_rfl) (by simp [ya]) rS (Ty.str.flo _) (by simp) rfl ?_
  by_cases hg : 2 ≤ l.length
  case neg =>
    have hg2 : ¬ (2 : Int) ≤ l.length := by omega
    simp [Yu, hg, hg2]
  have hg2 : (2 : Int) ≤ l.length := by omega
  have hlt : l.length - 2 < l.length := by omega
  have e : (l.length : Int) - 2 = ((l.length - 2 : Nat) : Int) := by omega
  have hw : IntKind.i64.wrap ((l.length - 2 : Nat) : Int) = ((l.length - 2 : Nat) : Int) := Ya (by omega) (by omega)
  have hd := zcw l (l.length - 2) hlt
  have hlt3 : ((l.length - 2 : Nat) : Int) < l.length := by omega
  simp [Yu, isW, hg, hg2, e, hw, hd, hlt, hlt3]
def A198 : AC := (.seq (.ops [qO 2 (.mov (.c .em)), qO 3 (.mov (.c (.sc (.string ⟨#[]⟩))))])
  (.seq (.ops [qO 6 (.mov (.t 0)), cO 7 113 [.t 6, (.c (.sc (.int .u8 32)))], qO 4 (.mov (.t 7))])
  (.seq (.ops [qO 8 (.mov (.t 4)), qO 9 (.llen (.t 8)), qO 5 (.mov (.t 9))])
  (.seq (.seq (.ops [qO 10 (.mov (.t 5)), qO 11 (.bin .geq (.t 10) (iC 2)), qO 12 (.mov (.t 11)), qG 13 12 true (.mov (.t 4)), qG 14 12 true (.mov (.t 5)), qG 15 12 true (.bin .sub (.t 14) (iC 2)), qG 16 12 true (.iadr 1 (.t 13) (.t 15)), qG 17 12 true (.load false 1 (.t 16)), qG 18 12 true (.bin .eql (.t 17) (.c (.sc (.string ⟨#[62]⟩)))), qO 19 (.pick (.t 12) (.t 18) (.c (.sc (.bool false))))])
  (.cond (.t 19) (.seq (.any [(qO 20 (.mov (.t 4)), []), (qO 21 (.mov (.t 5)), []), (qO 22 (.bin .sub (.t 21) (iC 2)), [1]), (qO 23 (.subl 1 (.t 20) none (some (.t 22))), [0, 2]), (qO 24 (.mov (.t 4)), []), (qO 25 (.mov (.t 5)), []), (qO 26 (.bin .sub (.t 25) (iC 1)), [5]), (qO 27 (.iadr 1 (.t 24) (.t 26)), [4, 6]), (qO 28 (.load false 1 (.t 27)), [7]), (qO 2 (.mov (.t 23)), [3, 0, 1, 2, 3]), (qO 3 (.mov (.t 28)), [8, 9, 0, 1, 2, 3, 4, 5, 6, 7, 8, 9])])
  .ret)
  .skip))
  (.seq (.ops [qO 29 (.mov (.t 4)), qO 2 (.mov (.t 29)), qO 3 (.mov (.c (.sc (.string ⟨#[]⟩))))])
  .ret)))))
theorem K198 : Kf Tryz.prog Tryz.f198 A198 30 [.mov (.t 2), .mov (.t 3)] := ⟨by kernel_rfl, by kernel_rfl, by kernel_rfl⟩
theorem R198 (s : ByteArray) (hs : s.size ≤ 1048576) : Ret Tryz.prog 198 [.sc (.string s)] (.tup [.own (rows Ty.str.oc (l15W s).1) (l15W s).1.length 1, .sc (.string (l15W s).2)]) [.un] := by
  have rS : Ret Tryz.prog 113 [.sc (.string s), .sc (.int .u8 32)] (.own (rows Ty.str.oc (yg s)) (yg s).length 1) [.un, .un] := R113 s 32 hs
  obtain ⟨h1, h2⟩ := YM s
  have hL : l15W s = if Yu (yg s) then ((yg s).take ((yg s).length - 2), atB (yg s) ((yg s).length - 1)) else (yg s, ⟨#[]⟩) := rfl
  obtain ⟨l, hl⟩ : ∃ l, l = yg s := ⟨_, rfl⟩
  rw [← hl] at rS h1 h2 hL
  have hid := Ty.str.frL l
  have hln := YU l
  refine Ret.runT Tryz.func198 K198 (by simp) rfl rfl ?_
  refine Zf (n := 500) ?_
  simp [A198, iniρ, Zx]
  refine callK.own 7 rfl (by kernel_rfl) (by simp [ya]) rS (Ty.str.flo _) (by simp) rfl ?_
  by_cases hg : 2 ≤ l.length
  case neg =>
    have hg2 : ¬ (2 : Int) ≤ l.length := by omega
    have hI : Yu l = false := by simp [Yu, hg]
    rw [hL, hI]
    simp [hg2]
    rw [Zx]
    refine ⟨_, Le.refl _, ?_⟩
    simp [ex1, hid, hln]
  have hg2 : (2 : Int) ≤ l.length := by omega
  have hlt : l.length - 2 < l.length := by omega
  have hlt1 : l.length - 1 < l.length := by omega
  have e : (l.length : Int) - 2 = ((l.length - 2 : Nat) : Int) := by omega
  have e1 : (l.length : Int) - 1 = ((l.length - 1 : Nat) : Int) := by omega
  have hw : IntKind.i64.wrap ((l.length - 2 : Nat) : Int) = ((l.length - 2 : Nat) : Int) := Ya (by omega) (by omega)
  have hw1 : IntKind.i64.wrap ((l.length - 1 : Nat) : Int) = ((l.length - 1 : Nat) : Int) := Ya (by omega) (by omega)
  have hd := zcw l (l.length - 2) hlt
  have hd1 := zcw l (l.length - 1) hlt1
  have hlt3 : ((l.length - 2 : Nat) : Int) < l.length := by omega
  have hlt4 : ((l.length - 1 : Nat) : Int) < l.length := by omega
  by_cases hk : (atB l (l.length - 2)).toList = [62]
  case neg =>
    have hI : Yu l = false := by simp [Yu, isW, hk]
    rw [hL, hI]
    simp [hg2, e, hw, hd, hlt, hlt3, hk]
    rw [Zx]
    refine ⟨_, Le.refl _, ?_⟩
    simp [ex1, hid, hln]
  have hI : Yu l = true := by simp [Yu, isW, hg, hk]
  rw [hL, hI]
  simp [hg2, e, hw, hd, hlt, hlt3, hk]
  refine T.text 400 mixed (by kernel_rfl) (by kernel_rfl) ?_
  simp [hg2, e, e1, hw, hw1, hd1, hlt1, hlt4]
  rw [Zx]
  refine ⟨_, Le.trim 7 (l.length - 2) (cs := rows Ty.str.oc l) (by simp [za]), ?_⟩
  have ht := zd3 l (l.length - 2) (by omega)
  have hid2 := Ty.str.frL (l.take (l.length - 2))
  have hln2 := YU (l.take (l.length - 2))
  have hmin : (l.take (l.length - 2)).length = l.length - 2 := by rw [List.length_take, Nat.min_eq_left (by omega)]
  rw [hmin] at hln2
  simp [ex1, za, ht, hid2, hln2, hmin]
def A199 : AC := (.seq (.ops [qO 2 (.mov (.c (.sc (.bool false))))])
  (.seq (.ops [qO 8 (.mov (.t 0)), cO 9 198 [.t 8], qO 7 (.mov (.t 9)), qO 10 (.ext (.t 7) 0), qO 11 (.ext (.t 7) 1), qO 3 (.mov (.t 10)), qO 4 (.mov (.t 11))])
  (.seq (.ops [qO 12 (.mov (.t 3)), qO 13 (.llen (.t 12)), qO 5 (.mov (.t 13))])
  (.seq (.seq (.ops [qO 14 (.mov (.t 3)), cO 15 243 [.t 14], qO 16 (.not (.t 15)), qO 17 (.mov (.t 16)), qG 18 17 false (.mov (.t 5)), qG 19 17 false (.bin .eql (.t 18) (iC 0)), qO 20 (.pick (.t 17) (.c (.sc (.bool true))) (.t 19))])
  (.cond (.t 20) (.seq (.ops [qO 2 (.mov (.c (.sc (.bool false))))])
  .ret)
  .skip))
  (.seq (.ops [qO 21 (.mov (.t 4)), cO 22 203 [.t 21], qO 6 (.mov (.t 22))])
  (.seq (.seq (.ops [qO 23 (.mov (.t 3)), qO 24 (.iadr 1 (.t 23) (iC 0)), qO 25 (.load false 1 (.t 24))])
  (.block 0 (.seq (.ops [qO 27 (.bin .eql (.t 25) (.c (.sc (.string ⟨#[112, 117, 116]⟩)))), qO 26 (.mov (.t 27))])
  (.cond (.t 26) (.seq (.ops [qO 28 (.mov (.t 5)), qO 29 (.bin .geq (.t 28) (iC 2)), qO 30 (.mov (.t 29)), qG 31 30 true (.mov (.t 6)), qO 32 (.pick (.t 30) (.t 31) (.c (.sc (.bool false)))), qO 2 (.mov (.t 32))])
  .ret)
  (.seq (.ops [qO 34 (.bin .eql (.t 25) (.c (.sc (.string ⟨#[99, 97, 116]⟩)))), qO 33 (.mov (.t 34))])
  (.cond (.t 33) (.seq (.ops [qO 35 (.mov (.t 5)), cO 36 143 [.t 35, iC 2, iC 4], qO 37 (.mov (.t 36)), qG 38 37 true (.mov (.t 6)), qO 39 (.pick (.t 37) (.t 38) (.c (.sc (.bool false)))), qO 2 (.mov (.t 39))])
  .ret)
  (.seq (.ops [qO 41 (.bin .eql (.t 25) (.c (.sc (.string ⟨#[101, 110, 118]⟩)))), qO 40 (.mov (.t 41))])
  (.cond (.t 40) (.seq (.ops [qO 42 (.mov (.t 5)), qO 43 (.bin .eql (.t 42) (iC 2)), qO 44 (.mov (.t 43)), qG 45 44 true (.mov (.t 6)), qO 46 (.pick (.t 44) (.t 45) (.c (.sc (.bool false)))), qO 2 (.mov (.t 46))])
  .ret)
  (.seq (.ops [qO 48 (.bin .eql (.t 25) (.c (.sc (.string ⟨#[117, 115, 101]⟩)))), qO 47 (.mov (.t 48))])
  (.cond (.t 47) (.seq (.ops [qO 49 (.mov (.t 5)), qO 50 (.bin .eql (.t 49) (iC 3)), qO 51 (.mov (.t 50)), qG 52 51 true (.mov (.t 6)), qO 53 (.pick (.t 51) (.t 52) (.c (.sc (.bool false)))), qO 2 (.mov (.t 53))])
  .ret)
  (.seq (.ops [qO 55 (.bin .eql (.t 25) (.c (.sc (.string ⟨#[108, 111, 103]⟩)))), qO 54 (.mov (.t 55))])
  (.cond (.t 54) (.seq (.ops [qO 56 (.mov (.t 5)), qO 57 (.bin .geq (.t 56) (iC 2)), qO 58 (.mov (.t 57)), qG 59 58 true (.mov (.t 4)), qG 60 58 true (.bin .eql (.t 59) (.c (.sc (.string ⟨#[]⟩)))), qO 61 (.pick (.t 58) (.t 60) (.c (.sc (.bool false)))), qO 62 (.mov (.t 61)), qG 63 62 true (.mov (.t 0)), cG 64 62 true 244 [.t 63], qG 65 62 true (.not (.t 64)), qO 66 (.pick (.t 62) (.t 65) (.c (.sc (.bool false)))), qO 2 (.mov (.t 66))])
  .ret)
  (.seq (.ops [qO 68 (.bin .eql (.t 25) (.c (.sc (.string ⟨#[102, 97, 105, 108]⟩)))), qO 67 (.mov (.t 68))])
  (.cond (.t 67) (.seq (.ops [qO 69 (.mov (.t 5)), qO 70 (.bin .eql (.t 69) (iC 1)), qO 71 (.mov (.t 70)), qG 72 71 true (.mov (.t 4)), qG 73 71 true (.bin .eql (.t 72) (.c (.sc (.string ⟨#[]⟩)))), qO 74 (.pick (.t 71) (.t 73) (.c (.sc (.bool false)))), qO 75 (.mov (.t 74)), qG 76 75 true (.mov (.t 0)), cG 77 75 true 244 [.t 76], qG 78 75 true (.not (.t 77)), qO 79 (.pick (.t 75) (.t 78) (.c (.sc (.bool false)))), qO 2 (.mov (.t 79))])
  .ret)
  .skip))))))))))))))
  (.seq (.ops [qO 2 (.mov (.c (.sc (.bool false))))])
  .ret)))))))
theorem K199 : Kf Tryz.prog Tryz.f199 A199 80 [.mov (.t 2)] := ⟨by kernel_rfl, by kernel_rfl, by kernel_rfl⟩
set_option maxHeartbeats 4000000 in
theorem R199 (s : ByteArray) (hs : s.size ≤ 1048576) : Ret Tryz.prog 199 [.sc (.string s)] (.sc (.bool (yP s))) [.un] := by
  have rW := R198 s hs
  have rI := R244 s hs
  have hA : yP s = (fullB (l15W s).1 && (!((l15W s).1.length == 0) && kindS (atB (l15W s).1 0) (l15W s).1.length (l15W s).2 (Yu (yg s)))) := rfl
  obtain ⟨h1, h2⟩ := YM s
  have hll : (l15W s).1.length ≤ (yg s).length := by
    unfold l15W
    split
    · show (List.take _ _).length ≤ _
      rw [List.length_take]; omega
    · exact Nat.le_refl _
  have hp2 : (l15W s).2.size ≤ 1048576 := Z9 s hs
  obtain ⟨l, hl⟩ : ∃ l, l = (l15W s).1 := ⟨_, rfl⟩
  obtain ⟨o, ho⟩ : ∃ l, l = (l15W s).2 := ⟨_, rfl⟩
  obtain ⟨b, hb⟩ : ∃ b, b = Yu (yg s) := ⟨_, rfl⟩
  rw [← hl, ← ho] at rW hA
  rw [← hl] at hll
  rw [← ho] at hp2
  rw [← hb] at rI hA
  have hrw : ∀ (h : Hp) (k : Nat), h k = some (some (rows Ty.str.oc l)) → roc h 8 (.sl k 0 l.length 1 false) = some (.ro (rows Ty.str.cs l) l.length) := fun h k e => zbB e
  have hfl : flt (.tup [.own (rows Ty.str.oc l) l.length 1, .sc (.string o)]) = true := by
    have h1 := Ty.str.flo l
    simp only [flt, flt.fltL, Bool.and_eq_true] at h1 ⊢
    exact ⟨h1, trivial, trivial⟩
  refine Ret.run Tryz.func199 K199 (by simp) rfl rfl 900 ?_
  simp [A199, iniρ]
  refine callK.ro 9 rfl (by kernel_rfl) (by simp [ya]) rW hfl (by simp [inst, instL, shut, za]; exact ⟨rfl, rfl⟩) rfl ?_
  simp
  refine callK.ro 0 rfl (by kernel_rfl) (by simp [hrw, za]) (R243 l (by omega)) rfl rfl rfl ?_
  rw [hA]
  by_cases hf : fullB l = true
  case neg =>
    have hf : fullB l = false := by simpa using hf
    simp [hf]
  by_cases h0 : l.length = 0
  · simp [hf, h0]
  have h0' : ¬ ((l.length : Int) = 0) := by omega
  have hpos : 0 < l.length := by omega
  have hne : ¬ l = [] := fun e => h0 (by rw [e]; rfl)
  have hd := zcw l 0 hpos
  rw [List.drop_zero] at hd
  simp [hf, h0, h0']
  refine callK.ro 0 rfl (by kernel_rfl) (by simp [ya]) (R203 o (by omega)) rfl rfl rfl ?_
  simp [hd, hpos]
  obtain ⟨w, hw⟩ : ∃ w, w = atB l 0 := ⟨_, rfl⟩
  rw [← hw]
  by_cases k1 : w.toList = [112, 117, 116]
  · by_cases c1 : 2 ≤ l.length
    · have c2 : (2 : Int) ≤ l.length := by omega
      simp [kindS, isW, hne, k1, c1, c2]
    · have c2 : ¬ (2 : Int) ≤ l.length := by omega
      simp [kindS, isW, hne, k1, c1, c2]
  by_cases k2 : w.toList = [99, 97, 116]
  · simp [k1, k2]
    refine callK.ro 0 rfl (by kernel_rfl) (by simp [ya]) (R143 l.length 2 4) rfl rfl rfl ?_
    cases c1 : inR l.length 2 4 with
    | true => simp [kindS, isW, hne, k1, k2, c1]
    | false => simp [kindS, isW, hne, k1, k2, c1]
  by_cases k3 : w.toList = [101, 110, 118]
  · by_cases c1 : l.length = 2
    · have c2 : (l.length : Int) = 2 := by omega
      simp [kindS, isW, hne, k1, k2, k3, c1, c2]
    · have c2 : ¬ (l.length : Int) = 2 := by omega
      simp [kindS, isW, hne, k1, k2, k3, c1, c2]
  by_cases k4 : w.toList = [117, 115, 101]
  · by_cases c1 : l.length = 3
    · have c2 : (l.length : Int) = 3 := by omega
      simp [kindS, isW, hne, k1, k2, k3, k4, c1, c2]
    · have c2 : ¬ (l.length : Int) = 3 := by omega
      simp [kindS, isW, hne, k1, k2, k3, k4, c1, c2]
  by_cases k5 : w.toList = [108, 111, 103]
  · by_cases c1 : 2 ≤ l.length
    case neg =>
      have c2 : (l.length : Int) < 2 := by omega
      have c4 : ¬ (2 : Int) ≤ l.length := by omega
      simp [kindS, isW, hne, k1, k2, k3, k4, k5, c1, c2, c4]
    have c2 : (2 : Int) ≤ l.length := by omega
    by_cases c3 : o.toList = []
    case neg => simp [kindS, isW, hne, k1, k2, k3, k4, k5, c1, c2, c3]
    simp [k1, k2, k3, k4, k5, c2, c3]
    refine callK.ro 0 rfl (by kernel_rfl) (by simp [ya]) rI rfl rfl rfl ?_
    simp [kindS, isW, hne, k1, k2, k3, k4, k5, c1, c2, c3]
  by_cases k6 : w.toList = [102, 97, 105, 108]
  · by_cases c1 : l.length = 1
    case neg =>
      have c2 : ¬ (l.length : Int) = 1 := by omega
      simp [kindS, isW, hne, k1, k2, k3, k4, k5, k6, c1, c2]
    have c2 : (l.length : Int) = 1 := by omega
    by_cases c3 : o.toList = []
    case neg => simp [kindS, isW, hne, k1, k2, k3, k4, k5, k6, c1, c2, c3]
    simp [k1, k2, k3, k4, k5, k6, c2, c3]
    refine callK.ro 0 rfl (by kernel_rfl) (by simp [ya]) rI rfl rfl rfl ?_
    simp [kindS, isW, hne, k1, k2, k3, k4, k5, k6, c1, c2, c3]
  simp [kindS, isW, hne, k1, k2, k3, k4, k5, k6]
def aggA (w : ByteArray) (ws : List ByteArray) (o : ByteArray) : AV := .agg [.sc (.string w), .ro (rows Ty.str.cs ws) ws.length, .sc (.string o)]
def zeroA : AV := .agg [.sc (.string ⟨#[]⟩), .em, .sc (.string ⟨#[]⟩)]
def kindI (w : ByteArray) (n : Nat) (e : Bool) : Bool :=
  if isW w [112, 117, 116] then decide (0 < n) && !e
  else if isW w [99, 97, 116] then inR n 1 3 && !e
  else if isW w [101, 110, 118] then n == 1 && !e
  else if isW w [117, 115, 101] then n == 2 && !e
  else if isW w [108, 111, 103] then decide (0 < n) && e
  else if isW w [102, 97, 105, 108] then n == 0 && e
  else false
def signB (ws : List ByteArray) : Bool := decide (1 < ws.length) && isW (atB ws (ws.length - 2)) [62]
def actI : List ByteArray → AV × Bool
  | [] => (zeroA, false)
  | w :: ws => if hasT ⟨#[]⟩ (w :: ws) then (zeroA, false)
    else if signB ws then
      if yk (atB ws (ws.length - 1)) then (aggA w (ws.take (ws.length - 2)) (atB ws (ws.length - 1)), kindI w (ws.length - 2) false) else (zeroA, false)
    else (aggA w ws ⟨#[]⟩, kindI w ws.length true)
theorem zZ (w : ByteArray) (ws : List ByteArray) : actI (w :: ws) = if hasT ⟨#[]⟩ (w :: ws) then (zeroA, false)
    else if signB ws then
      if yk (atB ws (ws.length - 1)) then (aggA w (ws.take (ws.length - 2)) (atB ws (ws.length - 1)), kindI w (ws.length - 2) false) else (zeroA, false)
    else (aggA w ws ⟨#[]⟩, kindI w ws.length true) := rfl
theorem zcd {x : ByteArray} (h : yk x = true) : ¬ x.toList = [] := fun e => by
  have hz : x.size = 0 := by
    have h2 : x.data.toList = [] := by rw [← Lib.toList_data]; exact e
    show x.data.size = 0
    rw [← Array.length_toList, h2]; rfl
  unfold yk at h
  rw [hz] at h
  simp [inR] at h
def A159 : AC := (.seq (.ops [wO 2 (.alloc [(.sc (.string ⟨#[]⟩)), .em, (.sc (.string ⟨#[]⟩))]), qO 3 (.mov (.c (.sc (.bool false))))])
  (.seq (.ops [qO 8 (.mov (.t 0)), cO 9 130 [.t 8, (.c (.sc (.string ⟨#[32]⟩)))], qO 4 (.mov (.t 9))])
  (.seq (.seq (.ops [qO 10 (.mov (.t 4)), cO 11 215 [.t 10, (.c (.sc (.string ⟨#[]⟩)))]])
  (.cond (.t 11) (.seq (.ops [wO 12 (.build [(.sc (.string ⟨#[]⟩)), .em, (.sc (.string ⟨#[]⟩))] []), nO (.store 3 (.t 2) (.t 12)), qO 3 (.mov (.c (.sc (.bool false))))])
  .ret)
  .skip))
  (.seq (.any [(qO 13 (.mov (.t 4)), []), (qO 14 (.iadr 1 (.t 13) (iC 0)), [0]), (qO 15 (.load false 1 (.t 14)), [1]), (qO 16 (.mov (.t 4)), []), (qO 17 (.subl 1 (.t 16) (some (iC 1)) none), [3]), (wO 18 (.build [(.sc (.string ⟨#[]⟩)), .em, (.sc (.string ⟨#[]⟩))] [(0, 1, (.t 15)), (1, 1, (.t 17))]), [2, 4]), (wO 5 (.alloc [(.sc (.string ⟨#[]⟩)), .em, (.sc (.string ⟨#[]⟩))]), []), (nO (.store 3 (.t 5) (.t 18)), [6, 5, 0, 1, 2, 3, 4, 5, 6])])
  (.seq (.ops [qO 19 (.fadr 1 (.t 5)), qO 20 (.load false 1 (.t 19)), qO 21 (.llen (.t 20)), qO 6 (.mov (.t 21))])
  (.seq (.seq (.ops [qO 22 (.mov (.t 6)), qO 23 (.bin .gtr (.t 22) (iC 1)), qO 24 (.mov (.t 23)), qG 25 24 true (.fadr 1 (.t 5)), qG 26 24 true (.load false 1 (.t 25)), qG 27 24 true (.mov (.t 6)), qG 28 24 true (.bin .sub (.t 27) (iC 2)), qG 29 24 true (.iadr 1 (.t 26) (.t 28)), qG 30 24 true (.load false 1 (.t 29)), qG 31 24 true (.bin .eql (.t 30) (.c (.sc (.string ⟨#[62]⟩)))), qO 32 (.pick (.t 24) (.t 31) (.c (.sc (.bool false))))])
  (.cond (.t 32) (.seq (.ops [qO 33 (.fadr 1 (.t 5)), qO 34 (.load false 1 (.t 33)), qO 35 (.mov (.t 6)), qO 36 (.bin .sub (.t 35) (iC 1)), qO 37 (.iadr 1 (.t 34) (.t 36)), qO 38 (.load false 1 (.t 37)), qO 39 (.fadr 2 (.t 5)), nO (.store 1 (.t 39) (.t 38))])
  (.seq (.ops [qO 40 (.fadr 1 (.t 5)), qO 41 (.load false 1 (.t 40)), qO 42 (.mov (.t 6)), qO 43 (.bin .sub (.t 42) (iC 2)), qO 44 (.subl 1 (.t 41) none (some (.t 43))), qO 45 (.fadr 1 (.t 5)), nO (.store 1 (.t 45) (.t 44))])
  (.seq (.ops [qO 46 (.mov (.t 6)), qO 47 (.bin .sub (.t 46) (iC 2)), qO 6 (.mov (.t 47))])
  (.seq (.ops [qO 48 (.fadr 2 (.t 5)), qO 49 (.load false 1 (.t 48)), cO 50 195 [.t 49], qO 51 (.not (.t 50))])
  (.cond (.t 51) (.seq (.ops [wO 52 (.build [(.sc (.string ⟨#[]⟩)), .em, (.sc (.string ⟨#[]⟩))] []), nO (.store 3 (.t 2) (.t 52)), qO 3 (.mov (.c (.sc (.bool false))))])
  .ret)
  .skip)))))
  .skip))
  (.seq (.ops [qO 7 (.mov (.c (.sc (.bool false))))])
  (.seq (.seq (.ops [qO 53 (.fadr 0 (.t 5)), qO 54 (.load false 1 (.t 53))])
  (.block 0 (.seq (.ops [qO 56 (.bin .eql (.t 54) (.c (.sc (.string ⟨#[112, 117, 116]⟩)))), qO 55 (.mov (.t 56))])
  (.cond (.t 55) (.ops [qO 57 (.mov (.t 6)), qO 58 (.bin .gtr (.t 57) (iC 0)), qO 59 (.mov (.t 58)), qG 60 59 true (.fadr 2 (.t 5)), qG 61 59 true (.load false 1 (.t 60)), qG 62 59 true (.bin .neq (.t 61) (.c (.sc (.string ⟨#[]⟩)))), qO 63 (.pick (.t 59) (.t 62) (.c (.sc (.bool false)))), qO 7 (.mov (.t 63))])
  (.seq (.ops [qO 65 (.bin .eql (.t 54) (.c (.sc (.string ⟨#[99, 97, 116]⟩)))), qO 64 (.mov (.t 65))])
  (.cond (.t 64) (.ops [qO 66 (.mov (.t 6)), cO 67 126 [.t 66, iC 1, iC 3], qO 68 (.mov (.t 67)), qG 69 68 true (.fadr 2 (.t 5)), qG 70 68 true (.load false 1 (.t 69)), qG 71 68 true (.bin .neq (.t 70) (.c (.sc (.string ⟨#[]⟩)))), qO 72 (.pick (.t 68) (.t 71) (.c (.sc (.bool false)))), qO 7 (.mov (.t 72))])
  (.seq (.ops [qO 74 (.bin .eql (.t 54) (.c (.sc (.string ⟨#[101, 110, 118]⟩)))), qO 73 (.mov (.t 74))])
  (.cond (.t 73) (.ops [qO 75 (.mov (.t 6)), qO 76 (.bin .eql (.t 75) (iC 1)), qO 77 (.mov (.t 76)), qG 78 77 true (.fadr 2 (.t 5)), qG 79 77 true (.load false 1 (.t 78)), qG 80 77 true (.bin .neq (.t 79) (.c (.sc (.string ⟨#[]⟩)))), qO 81 (.pick (.t 77) (.t 80) (.c (.sc (.bool false)))), qO 7 (.mov (.t 81))])
  (.seq (.ops [qO 83 (.bin .eql (.t 54) (.c (.sc (.string ⟨#[117, 115, 101]⟩)))), qO 82 (.mov (.t 83))])
  (.cond (.t 82) (.ops [qO 84 (.mov (.t 6)), qO 85 (.bin .eql (.t 84) (iC 2)), qO 86 (.mov (.t 85)), qG 87 86 true (.fadr 2 (.t 5)), qG 88 86 true (.load false 1 (.t 87)), qG 89 86 true (.bin .neq (.t 88) (.c (.sc (.string ⟨#[]⟩)))), qO 90 (.pick (.t 86) (.t 89) (.c (.sc (.bool false)))), qO 7 (.mov (.t 90))])
  (.seq (.ops [qO 92 (.bin .eql (.t 54) (.c (.sc (.string ⟨#[108, 111, 103]⟩)))), qO 91 (.mov (.t 92))])
  (.cond (.t 91) (.ops [qO 93 (.mov (.t 6)), qO 94 (.bin .gtr (.t 93) (iC 0)), qO 95 (.mov (.t 94)), qG 96 95 true (.fadr 2 (.t 5)), qG 97 95 true (.load false 1 (.t 96)), qG 98 95 true (.bin .eql (.t 97) (.c (.sc (.string ⟨#[]⟩)))), qO 99 (.pick (.t 95) (.t 98) (.c (.sc (.bool false)))), qO 7 (.mov (.t 99))])
  (.seq (.ops [qO 101 (.bin .eql (.t 54) (.c (.sc (.string ⟨#[102, 97, 105, 108]⟩)))), qO 100 (.mov (.t 101))])
  (.cond (.t 100) (.ops [qO 102 (.mov (.t 6)), qO 103 (.bin .eql (.t 102) (iC 0)), qO 104 (.mov (.t 103)), qG 105 104 true (.fadr 2 (.t 5)), qG 106 104 true (.load false 1 (.t 105)), qG 107 104 true (.bin .eql (.t 106) (.c (.sc (.string ⟨#[]⟩)))), qO 108 (.pick (.t 104) (.t 107) (.c (.sc (.bool false)))), qO 7 (.mov (.t 108))])
  .skip))))))))))))))
  (.seq (.ops [qO 109 (.load true 3 (.t 5)), qO 110 (.mov (.t 7)), nO (.store 3 (.t 2) (.t 109)), qO 3 (.mov (.t 110))])
  .ret)))))))))
theorem K159 : Kf Tryz.prog Tryz.f159 A159 111 [.load true 3 (.t 2), .mov (.t 3)] := ⟨by kernel_rfl, by kernel_rfl, by kernel_rfl⟩
set_option maxHeartbeats 8000000 in
set_option maxRecDepth 20000 in
theorem R159 (s : ByteArray) (hs : s.size ≤ 1048576) : Ret Tryz.prog 159 [.sc (.string s)] (.tup [(actI (yg s)).1, .sc (.bool (actI (yg s)).2)]) [.un] := by
  have rS : Ret Tryz.prog 130 [.sc (.string s), .sc (.string ⟨#[32]⟩)] (.own (rows Ty.str.oc (yg s)) (yg s).length 1) [.un, .un] := R130 s 32 hs
  obtain ⟨h1, h2⟩ := YM s
  have hsz := zag s
  obtain ⟨l, hl⟩ : ∃ l, l = yg s := ⟨_, rfl⟩
  rw [← hl] at rS h1 h2 hsz ⊢
  cases l with
  | nil => simp at h1
  | cons w ws =>
  simp only [List.length_cons] at h2
  have hln := YU ws
  have htk : List.take ws.length (rows Ty.str.cs ws) = rows Ty.str.cs ws := List.take_of_length_le (Nat.le_of_eq hln)
  have hro : rows Ty.str.oc (w :: ws) = .sc (.string w) :: rows Ty.str.oc ws := rfl
  have hrc : rows Ty.str.cs (w :: ws) = .sc (.string w) :: rows Ty.str.cs ws := rfl
  have hfz : ∀ h : Hp, h 9 = some (some (rows Ty.str.oc (w :: ws))) → roc h 8 (.sl 9 0 (ws.length + 1) 1 false) = some (.ro (rows Ty.str.cs (w :: ws)) (ws.length + 1)) := fun h e => zbB (xs := w :: ws) e
  have rC : Ret Tryz.prog 215 [.ro (rows Ty.str.cs (w :: ws)) (ws.length + 1), .sc (.string ⟨#[]⟩)] (.sc (.bool (hasT ⟨#[]⟩ (w :: ws)))) [.un, .un] := R215 (w :: ws) ⟨#[]⟩ (by simp only [List.length_cons]; omega)
  refine Ret.run Tryz.func159 K159 (by simp) rfl rfl 900 ?_
  simp [A159, iniρ, over]
  refine callK.own 9 rfl (by kernel_rfl) (by simp [ya]) rS (Ty.str.flo _) (by simp) rfl ?_
  simp
  refine callK.le (Le.freeze 8 [2, 3] [2] [(4, .ro (rows Ty.str.cs (w :: ws)) (ws.length + 1)), (10, .ro (rows Ty.str.cs (w :: ws)) (ws.length + 1))] (by simp [za, menB, Yb]) (by simp [za, Yb]) (by
    intro t y hy
    simp at hy
    rcases hy with ⟨rfl, rfl⟩ | ⟨rfl, rfl⟩ <;> simp [za, Za, hfz])) ?_
  simp only [frz]
  refine callK.ro 0 rfl (by kernel_rfl) (by simp [za, ye, zd, ya]) rC rfl rfl rfl ?_
  by_cases hE : hasT ⟨#[]⟩ (w :: ws) = true
  · have hA : actI (w :: ws) = (zeroA, false) := by rw [zZ, if_pos hE]
    rw [hA]
    simp [hE, za, ye, Ze, over, zeroA]
  have hE0 : hasT ⟨#[]⟩ (w :: ws) = false := by simpa using hE
  simp [hE0, za, ye, Ze]
  by_cases hn : 1 < ws.length
  case neg =>
    have hS : signB ws = false := by simp [signB, hn]
    have hA : actI (w :: ws) = (aggA w ws ⟨#[]⟩, kindI w ws.length true) := by rw [zZ, if_neg hE, if_neg (by simp [hS])]
    have hn2 : ¬ (1 : Int) < ws.length := by omega
    rw [hA]
    refine T.textW 400 [([], [5]), ([], [5]), ([], [5]), ([], [5]), ([], [5]), ([], [5]), ([5], []), ([5], [])] mixed (by kernel_rfl) (by kernel_rfl) ?_
    simp [za, ye, Ze, over, hrc, htk, hln, Zb, yb, hn2]
    by_cases k1 : w.toList = [112, 117, 116]
    · by_cases c1 : 0 < ws.length
      · have c2 : (0 : Int) < (ws.length : Nat) := by omega
        have c4 : ¬ ws = [] := fun e => by rw [e] at c1; simp at c1
        simp [aggA, kindI, isW, c4, k1, c1, c2, za, ye, Ze, yc, Za, over]
      · have c2 : ¬ (0 : Int) < (ws.length : Nat) := by omega
        have c3 : ws.length = 0 := by omega
        have c4 : ws = [] := List.length_eq_zero_iff.1 (by omega)
        simp [aggA, kindI, isW, c4, k1, c1, c2, c3, za, ye, Ze, yc, Za, over]
    by_cases k2 : w.toList = [99, 97, 116]
    · simp [k1, k2]
      refine callK.ro 0 rfl (by kernel_rfl) (by simp [ya]) (R126 ws.length 1 3) rfl rfl rfl ?_
      cases c1 : inR ws.length 1 3 with
      | true => simp [aggA, kindI, isW, k1, k2, c1, za, ye, Ze, yc, Za, over]
      | false => simp [aggA, kindI, isW, k1, k2, c1, za, ye, Ze, yc, Za, over]
    by_cases k3 : w.toList = [101, 110, 118]
    · by_cases c1 : ws.length = 1
      · have c2 : ((ws.length : Nat) : Int) = 1 := by omega
        simp [aggA, kindI, isW, k1, k2, k3, c1, c2, za, ye, Ze, yc, Za, over]
      · have c2 : ¬ ((ws.length : Nat) : Int) = 1 := by omega
        simp [aggA, kindI, isW, k1, k2, k3, c1, c2, za, ye, Ze, yc, Za, over]
    by_cases k4 : w.toList = [117, 115, 101]
    · by_cases c1 : ws.length = 2
      · have c2 : ((ws.length : Nat) : Int) = 2 := by omega
        simp [aggA, kindI, isW, k1, k2, k3, k4, c1, c2, za, ye, Ze, yc, Za, over]
      · have c2 : ¬ ((ws.length : Nat) : Int) = 2 := by omega
        simp [aggA, kindI, isW, k1, k2, k3, k4, c1, c2, za, ye, Ze, yc, Za, over]
    by_cases k5 : w.toList = [108, 111, 103]
    · by_cases c1 : 0 < ws.length
      · have c2 : (0 : Int) < (ws.length : Nat) := by omega
        have c4 : ¬ ws = [] := fun e => by rw [e] at c1; simp at c1
        simp [aggA, kindI, isW, c4, k1, k2, k3, k4, k5, c1, c2, za, ye, Ze, yc, Za, over]
      · have c2 : ¬ (0 : Int) < (ws.length : Nat) := by omega
        have c3 : ws.length = 0 := by omega
        have c4 : ws = [] := List.length_eq_zero_iff.1 (by omega)
        simp [aggA, kindI, isW, c4, k1, k2, k3, k4, k5, c1, c2, c3, za, ye, Ze, yc, Za, over]
    by_cases k6 : w.toList = [102, 97, 105, 108]
    · by_cases c1 : ws.length = 0
      · have c2 : ((ws.length : Nat) : Int) = 0 := by omega
        have c4 : ws = [] := List.length_eq_zero_iff.1 (by omega)
        simp [aggA, kindI, isW, c4, k1, k2, k3, k4, k5, k6, c1, c2, za, ye, Ze, yc, Za, over]
      · have c2 : ¬ ((ws.length : Nat) : Int) = 0 := by omega
        have c4 : ¬ ws = [] := fun e => by rw [e] at c1; simp at c1
        simp [aggA, kindI, isW, c4, k1, k2, k3, k4, k5, k6, c1, c2, za, ye, Ze, yc, Za, over]
    simp [aggA, kindI, isW, k1, k2, k3, k4, k5, k6, za, ye, Ze, yc, Za, over]
  have hn2 : (1 : Int) < ws.length := by omega
  have e2 : (ws.length : Int) - 2 = ((ws.length - 2 : Nat) : Int) := by omega
  have e1 : (ws.length : Int) - 1 = ((ws.length - 1 : Nat) : Int) := by omega
  have w2 : IntKind.i64.wrap ((ws.length - 2 : Nat) : Int) = ((ws.length - 2 : Nat) : Int) := Ya (by omega) (by omega)
  have w1 : IntKind.i64.wrap ((ws.length - 1 : Nat) : Int) = ((ws.length - 1 : Nat) : Int) := Ya (by omega) (by omega)
  have l2 : ws.length - 2 < ws.length := by omega
  have l1 : ws.length - 1 < ws.length := by omega
  have i2 : ((ws.length - 2 : Nat) : Int) < ws.length := by omega
  have i1 : ((ws.length - 1 : Nat) : Int) < ws.length := by omega
  have d2 := zD ws (ws.length - 2) l2
  have d1 := zD ws (ws.length - 1) l1
  by_cases hk : (atB ws (ws.length - 2)).toList = [62]
  case neg =>
    have hS : signB ws = false := by simp [signB, isW, hk]
    have hA : actI (w :: ws) = (aggA w ws ⟨#[]⟩, kindI w ws.length true) := by rw [zZ, if_neg hE, if_neg (by simp [hS])]
    rw [hA]
    refine T.textW 400 [([], [5]), ([], [5]), ([], [5]), ([], [5]), ([], [5]), ([], [5]), ([5], []), ([5], [])] mixed (by kernel_rfl) (by kernel_rfl) ?_
    simp [za, ye, Ze, over, hrc, htk, hln, Zb, yb, hn2, e2, w2, l2, i2, d2, hk]
    by_cases k1 : w.toList = [112, 117, 116]
    · by_cases c1 : 0 < ws.length
      · have c2 : (0 : Int) < (ws.length : Nat) := by omega
        have c4 : ¬ ws = [] := fun e => by rw [e] at c1; simp at c1
        simp [aggA, kindI, isW, c4, k1, c1, c2, za, ye, Ze, yc, Za, over]
      · have c2 : ¬ (0 : Int) < (ws.length : Nat) := by omega
        have c3 : ws.length = 0 := by omega
        have c4 : ws = [] := List.length_eq_zero_iff.1 (by omega)
        simp [aggA, kindI, isW, c4, k1, c1, c2, c3, za, ye, Ze, yc, Za, over]
    by_cases k2 : w.toList = [99, 97, 116]
    · simp [k1, k2]
      refine callK.ro 0 rfl (by kernel_rfl) (by simp [ya]) (R126 ws.length 1 3) rfl rfl rfl ?_
      cases c1 : inR ws.length 1 3 with
      | true => simp [aggA, kindI, isW, k1, k2, c1, za, ye, Ze, yc, Za, over]
      | false => simp [aggA, kindI, isW, k1, k2, c1, za, ye, Ze, yc, Za, over]
    by_cases k3 : w.toList = [101, 110, 118]
    · by_cases c1 : ws.length = 1
      · have c2 : ((ws.length : Nat) : Int) = 1 := by omega
        simp [aggA, kindI, isW, k1, k2, k3, c1, c2, za, ye, Ze, yc, Za, over]
      · have c2 : ¬ ((ws.length : Nat) : Int) = 1 := by omega
        simp [aggA, kindI, isW, k1, k2, k3, c1, c2, za, ye, Ze, yc, Za, over]
    by_cases k4 : w.toList = [117, 115, 101]
    · by_cases c1 : ws.length = 2
      · have c2 : ((ws.length : Nat) : Int) = 2 := by omega
        simp [aggA, kindI, isW, k1, k2, k3, k4, c1, c2, za, ye, Ze, yc, Za, over]
      · have c2 : ¬ ((ws.length : Nat) : Int) = 2 := by omega
        simp [aggA, kindI, isW, k1, k2, k3, k4, c1, c2, za, ye, Ze, yc, Za, over]
    by_cases k5 : w.toList = [108, 111, 103]
    · by_cases c1 : 0 < ws.length
      · have c2 : (0 : Int) < (ws.length : Nat) := by omega
        have c4 : ¬ ws = [] := fun e => by rw [e] at c1; simp at c1
        simp [aggA, kindI, isW, c4, k1, k2, k3, k4, k5, c1, c2, za, ye, Ze, yc, Za, over]
      · have c2 : ¬ (0 : Int) < (ws.length : Nat) := by omega
        have c3 : ws.length = 0 := by omega
        have c4 : ws = [] := List.length_eq_zero_iff.1 (by omega)
        simp [aggA, kindI, isW, c4, k1, k2, k3, k4, k5, c1, c2, c3, za, ye, Ze, yc, Za, over]
    by_cases k6 : w.toList = [102, 97, 105, 108]
    · by_cases c1 : ws.length = 0
      · have c2 : ((ws.length : Nat) : Int) = 0 := by omega
        have c4 : ws = [] := List.length_eq_zero_iff.1 (by omega)
        simp [aggA, kindI, isW, c4, k1, k2, k3, k4, k5, k6, c1, c2, za, ye, Ze, yc, Za, over]
      · have c2 : ¬ ((ws.length : Nat) : Int) = 0 := by omega
        have c4 : ¬ ws = [] := fun e => by rw [e] at c1; simp at c1
        simp [aggA, kindI, isW, c4, k1, k2, k3, k4, k5, k6, c1, c2, za, ye, Ze, yc, Za, over]
    simp [aggA, kindI, isW, k1, k2, k3, k4, k5, k6, za, ye, Ze, yc, Za, over]
  have hS : signB ws = true := by simp [signB, isW, hk, hn]
  have ht2 : List.take (ws.length - 2) (rows Ty.str.cs ws) = rows Ty.str.cs (ws.take (ws.length - 2)) := zd3 ws _ (by omega)
  obtain ⟨into, hin⟩ : ∃ x, x = atB ws (ws.length - 1) := ⟨_, rfl⟩
  have his : into.size ≤ 1048576 := by rw [hin]; exact Nat.le_trans (zdy (fun x hx => hsz x (List.mem_cons_of_mem _ hx)) _) hs
  have hlm : (ws.take (ws.length - 2)).length = ws.length - 2 := by rw [List.length_take, Nat.min_eq_left (by omega)]
  have hA : actI (w :: ws) = if yk into then (aggA w (ws.take (ws.length - 2)) into, kindI w (ws.length - 2) false) else (zeroA, false) := by rw [zZ, if_neg hE, if_pos hS, ← hin]
  rw [← hin] at d1
  obtain ⟨n2, hn3⟩ : ∃ n, n = ws.length - 2 := ⟨_, rfl⟩
  rw [← hn3] at hlm hA e2 w2 l2 i2 d2 hk ht2
  have hsub : n2 ≤ ws.length := by omega
  rw [hA]
  refine T.textW 400 [([], [5]), ([], [5]), ([], [5]), ([], [5]), ([], [5]), ([], [5]), ([5], []), ([5], [])] mixed (by kernel_rfl) (by kernel_rfl) ?_
  simp [za, ye, Ze, over, hrc, htk, hln, Zb, yb, hn2, e2, w2, l2, i2, d2, hk, e1, w1, l1, i1, d1, ht2, hsub]
  refine callK.ro 0 rfl (by kernel_rfl) (by simp [ya, za]) (R195 into (by omega)) rfl rfl rfl ?_
  by_cases hp : yk into = true
  case neg =>
    have hp : yk into = false := by simpa using hp
    simp [hp, over, zeroA]
  have hne := zcd hp
  simp [hp]
  by_cases k1 : w.toList = [112, 117, 116]
  · by_cases c1 : 0 < n2
    · have c2 : (0 : Int) < (n2 : Nat) := by omega
      simp [aggA, kindI, isW, k1, c1, c2, hlm, hne, za, ye, Ze, yc, Za, over]
    · have c2 : ¬ (0 : Int) < (n2 : Nat) := by omega
      have c3 : n2 = 0 := by omega
      simp [aggA, kindI, isW, k1, c1, c2, c3, hlm, hne, za, ye, Ze, yc, Za, over]
  by_cases k2 : w.toList = [99, 97, 116]
  · simp [k1, k2]
    refine callK.ro 0 rfl (by kernel_rfl) (by simp [ya]) (R126 n2 1 3) rfl rfl rfl ?_
    cases c1 : inR n2 1 3 with
    | true => simp [aggA, kindI, isW, k1, k2, c1, hlm, hne, za, ye, Ze, yc, Za, over]
    | false => simp [aggA, kindI, isW, k1, k2, c1, hlm, hne, za, ye, Ze, yc, Za, over]
  by_cases k3 : w.toList = [101, 110, 118]
  · by_cases c1 : n2 = 1
    · have c2 : ((n2 : Nat) : Int) = 1 := by omega
      have c4 : min 1 ws.length = 1 := by omega
      simp [aggA, kindI, isW, k1, k2, k3, c1, c2, c4, hlm, hne, za, ye, Ze, yc, Za, over]
    · have c2 : ¬ ((n2 : Nat) : Int) = 1 := by omega
      simp [aggA, kindI, isW, k1, k2, k3, c1, c2, hlm, hne, za, ye, Ze, yc, Za, over]
  by_cases k4 : w.toList = [117, 115, 101]
  · by_cases c1 : n2 = 2
    · have c2 : ((n2 : Nat) : Int) = 2 := by omega
      have c4 : min 2 ws.length = 2 := by omega
      simp [aggA, kindI, isW, k1, k2, k3, k4, c1, c2, c4, hlm, hne, za, ye, Ze, yc, Za, over]
    · have c2 : ¬ ((n2 : Nat) : Int) = 2 := by omega
      simp [aggA, kindI, isW, k1, k2, k3, k4, c1, c2, hlm, hne, za, ye, Ze, yc, Za, over]
  by_cases k5 : w.toList = [108, 111, 103]
  · by_cases c1 : 0 < n2
    · have c2 : (0 : Int) < (n2 : Nat) := by omega
      simp [aggA, kindI, isW, k1, k2, k3, k4, k5, c1, c2, hlm, hne, za, ye, Ze, yc, Za, over]
    · have c2 : ¬ (0 : Int) < (n2 : Nat) := by omega
      have c3 : n2 = 0 := by omega
      simp [aggA, kindI, isW, k1, k2, k3, k4, k5, c1, c2, c3, hlm, hne, za, ye, Ze, yc, Za, over]
  by_cases k6 : w.toList = [102, 97, 105, 108]
  · by_cases c1 : n2 = 0
    · have c2 : ((n2 : Nat) : Int) = 0 := by omega
      simp [aggA, kindI, isW, k1, k2, k3, k4, k5, k6, c1, c2, hlm, hne, za, ye, Ze, yc, Za, over]
    · have c2 : ¬ ((n2 : Nat) : Int) = 0 := by omega
      simp [aggA, kindI, isW, k1, k2, k3, k4, k5, k6, c1, c2, hlm, hne, za, ye, Ze, yc, Za, over]
  simp [aggA, kindI, isW, k1, k2, k3, k4, k5, k6, hlm, hne, za, ye, Ze, yc, Za, over]
def sp : ByteArray := ⟨#[32]⟩
def nl : ByteArray := ⟨#[10]⟩
def catF (l : List File) : ByteArray → List ByteArray → ByteArray × Bool
  | acc, [] => (acc, true)
  | acc, p :: ps => if (getF l p).2 then catF l (acc ++ (getF l p).1) ps else (⟨#[]⟩, false)
def textI (j : Job) (w : ByteArray) (ws : List ByteArray) : ByteArray × Bool :=
  if isW w [112, 117, 116] then (joinB ws sp, true)
  else if isW w [101, 110, 118] then getE j.envs (atB ws 0)
  else if isW w [117, 115, 101] then getM j.deps (atB ws 0) (atB ws 1)
  else catF j.ins ⟨#[]⟩ ws
def logT (m : Made) (ws : List ByteArray) : ByteArray := m.log ++ joinB ws sp ++ nl
def doAct (j : Job) (m : Made) (w : ByteArray) (ws : List ByteArray) (o : ByteArray) : Made × Bool :=
  if isW w [102, 97, 105, 108] then (m, false)
  else if isW w [108, 111, 103] then (if 200 < (logT m ws).size then (m, false) else (⟨m.task, m.outs, logT m ws⟩, true))
  else if (textI j w ws).2 && ((yh m.outs ⟨o, (textI j w ws).1⟩).2 && decide ((yh m.outs ⟨o, (textI j w ws).1⟩).1.length ≤ 6)) then (⟨m.task, (yh m.outs ⟨o, (textI j w ws).1⟩).1, m.log⟩, true) else (m, false)
def actV (j : Job) (m : Made) (s : ByteArray) : Made × Bool := if yP s then doAct j m (atB (l15W s).1 0) ((l15W s).1.drop 1) (l15W s).2 else (m, false)
theorem za6 : ∀ {l : List File} {p : Option ByteArray}, Zz p l = true → ∀ x ∈ l, x.text.size ≤ 60
  | [], _, _, x, hx => by cases hx
  | y :: l, p, h, x, hx => by
    simp only [Zz, Bool.and_eq_true, decide_eq_true_eq] at h
    rcases List.mem_cons.1 hx with rfl | hx
    · exact h.2.1
    · exact za6 h.2.2.2 x hx
theorem zey (f : File) (o : List File) : f ∈ insF f o := by
  unfold insF
  exact List.mem_append.2 (.inr List.mem_cons_self)
theorem zaw {l : List File} {f : File} (h : (yh l f).2 = true) : f.text.size ≤ 60 := by
  unfold yh at h
  rw [zM] at h
  split at h
  · rename_i hf
    simp only [Yx, Bool.and_eq_true] at hf
    exact za6 hf.1 f (zey f _)
  · cases h
theorem zf9 (l : List UInt8) : (⟨l.toArray⟩ : ByteArray).size = l.length := by
  show Array.size _ = _
  rw [List.size_toArray]
theorem zb3 (k n : Nat) (sep : List UInt8) (hk : sep.length + k ≤ n) : ∀ r : List ByteArray, (∀ x ∈ r, x.size ≤ k) → (Lib.joinTail sep (r.map (·.data.toList))).length ≤ r.length * n
  | [], _ => Nat.zero_le _
  | x :: r, h => by
    have h1 : x.data.toList.length ≤ k := h x List.mem_cons_self
    have h2 := zb3 k n sep hk r fun y hy => h y (List.mem_cons_of_mem _ hy)
    simp only [Lib.joinTail, List.map_cons, List.flatten_cons, List.length_append] at h2 ⊢
    rw [List.length_cons, Nat.add_mul, Nat.one_mul]
    omega
theorem Z1 {k : Nat} (sep : ByteArray) : ∀ {xs : List ByteArray}, (∀ x ∈ xs, x.size ≤ k) → (joinB xs sep).size ≤ xs.length * (sep.size + k)
  | [], _ => Nat.zero_le _
  | x :: r, h => by
    have h1 : x.data.toList.length ≤ k := h x List.mem_cons_self
    have h2 := zb3 k (sep.size + k) sep.data.toList (Nat.le_refl _) r fun y hy => h y (List.mem_cons_of_mem _ hy)
    unfold joinB
    rw [zf9, List.map_cons, Lib.join_cons, List.length_append, List.length_cons, Nat.add_mul, Nat.one_mul]
    omega
theorem zcq {l : List File} {k : Nat} (hk : ∀ f ∈ l, f.text.size ≤ k) (p : ByteArray) : (getF l p).1.size ≤ k := by
  unfold getF
  split
  · rename_i x h
    exact hk x (List.mem_of_find?_eq_some h)
  · exact Nat.zero_le _
theorem zeq {w : ByteArray} {ws : List ByteArray} {s : ByteArray} (h : yg s = w :: ws) : l15W s = if Yu (w :: ws) then ((w :: ws).take (ws.length - 1), atB (w :: ws) ws.length) else (w :: ws, ⟨#[]⟩) := by
  unfold l15W
  rw [h]
  rfl
theorem zdL {l : List ByteArray} (h : hasT ⟨#[]⟩ l = false) : ∀ x ∈ l, isW x [] = false := fun x hx => by
  have h2 := List.any_eq_false.1 h x hx
  simp only [sameT, isW] at h2 ⊢
  simpa using h2
theorem zeF {l : List ByteArray} (h : ∀ x ∈ l, isW x [] = false) : fullB l = true := List.all_eq_true.2 fun x hx => by simp [h x hx]
theorem zdf {l : List ByteArray} {x : ByteArray} (hx : x ∈ l) (h : isW x [] = true) : fullB l = false := by
  rw [← Bool.not_eq_true]
  intro hf
  have := List.all_eq_true.1 hf x hx
  rw [h] at this
  cases this
theorem zdG {x : ByteArray} (h : isW x [] = true) : yk x = false := by
  rw [← Bool.not_eq_true]
  intro hp
  exact zcd hp (by simpa [isW] using h)
theorem zcl {w : ByteArray} {n : Nat} {o : ByteArray} {b : Bool} (hp : yk o = false) (h : isW o [] = false ∨ b = true) : kindS w n o b = false := by
  have h2 : (isW o [] && !b) = false := by rcases h with h | h <;> simp [h]
  unfold kindS
  simp only [hp, h2, Bool.and_false]
  repeat' split
  all_goals rfl
theorem zes {w : ByteArray} {n : Nat} {o : ByteArray} (hp : yk o = true) : kindS w (n + 1) o true = kindI w n false := by
  have e1 : ∀ a b : Nat, inR ((n + 1 : Nat) : Int) ((a + 1 : Nat) : Int) ((b + 1 : Nat) : Int) = inR n a b := fun a b => by unfold inR; simp
  have e2 := e1 1 3
  unfold kindS kindI
  simp only [hp]
  simp only [show ((1 + 1 : Nat) : Int) = 2 from rfl, show ((3 + 1 : Nat) : Int) = 4 from rfl, show ((1 : Nat) : Int) = 1 from rfl, show ((3 : Nat) : Int) = 3 from rfl] at e2
  have e3 : inR ((n : Int) + 1) 2 4 = inR n 1 3 := e2
  have h01 : decide (1 ≤ n) = decide (0 < n) := rfl
  simp [e3, h01]
theorem zer {w : ByteArray} {n : Nat} : kindS w (n + 1) ⟨#[]⟩ false = kindI w n true := by
  have hp : yk ⟨#[]⟩ = false := by decide
  have h01 : decide (1 ≤ n) = decide (0 < n) := rfl
  unfold kindS kindI
  simp [hp, isW, h01]
theorem zbe {w : ByteArray} {ws : List ByteArray} (h : 1 < ws.length) : (w :: ws).take (ws.length - 1) = w :: ws.take (ws.length - 2) := by
  have e : ws.length - 1 = (ws.length - 2) + 1 := by omega
  rw [e, List.take_succ_cons]
theorem zgb (s : ByteArray) : (actI (yg s)).2 = yP s ∧ (yP s = true → (actI (yg s)).1 = aggA (atB (l15W s).1 0) ((l15W s).1.drop 1) (l15W s).2) := by
  have hA : yP s = (fullB (l15W s).1 && (!((l15W s).1.length == 0) && kindS (atB (l15W s).1 0) (l15W s).1.length (l15W s).2 (Yu (yg s)))) := rfl
  obtain ⟨h1, _⟩ := YM s
  cases hl : yg s with
  | nil => rw [hl] at h1; simp at h1
  | cons w ws =>
  have hW := zeq hl
  rw [hl] at hA
  rw [zZ]
  by_cases hE : hasT ⟨#[]⟩ (w :: ws) = true
  · rw [if_pos hE]
    have hF : yP s = false := by
      obtain ⟨x, hx, hx2⟩ := List.any_eq_true.1 hE
      have hx2 : isW x [] = true := by simpa [sameT, isW] using hx2
      rw [hA]
      by_cases hI : Yu (w :: ws) = true
      · rw [hW, if_pos hI]
        simp only
        have hI2 : 2 ≤ (w :: ws).length ∧ isW (atB (w :: ws) ((w :: ws).length - 2)) [62] = true := by simpa [Yu] using hI
        simp only [List.length_cons] at hI2
        have hlast : x ∈ (w :: ws).take (ws.length - 1) ∨ x = atB (w :: ws) (ws.length - 1) ∨ x = atB (w :: ws) ws.length := by
          obtain ⟨i, hi, rfl⟩ := List.mem_iff_getElem.1 hx
          simp only [List.length_cons] at hi
          by_cases c1 : i < ws.length - 1
          · left
            exact List.mem_iff_getElem.2 ⟨i, by rw [List.length_take, List.length_cons]; omega, by rw [List.getElem_take]⟩
          · have ha : ∀ k (hk : k < (w :: ws).length), (w :: ws)[k] = atB (w :: ws) k := fun k hk => by unfold atB; rw [List.getElem?_eq_getElem hk]; rfl
            rw [ha i (by simpa using hi)]
            by_cases c2 : i = ws.length - 1
            · rw [c2]; exact .inr (.inl rfl)
            · have c3 : i = ws.length := by omega
              rw [c3]; exact .inr (.inr rfl)
        rcases hlast with h | h | h
        · rw [zdf h hx2]; rfl
        · have h3 := hI2.2
          rw [show ws.length + 1 - 2 = ws.length - 1 by omega, ← h] at h3
          simp [isW] at h3 hx2
          rw [hx2] at h3; cases h3
        · rw [← h, zcl (zdG hx2) (.inr hI)]
          simp
      · rw [hW, if_neg hI]
        simp only
        rw [zdf hx hx2]; rfl
    rw [hF]
    exact ⟨rfl, fun h => by cases h⟩
  rw [if_neg hE]
  have hE0 : hasT ⟨#[]⟩ (w :: ws) = false := by simpa using hE
  have hnb := zdL hE0
  by_cases hS : signB ws = true
  · have hS2 : 1 < ws.length ∧ isW (atB ws (ws.length - 2)) [62] = true := by simpa [signB] using hS
    have hat : ∀ k, atB (w :: ws) (k + 1) = atB ws k := fun k => by unfold atB; rw [List.getElem?_cons_succ]
    have hI : Yu (w :: ws) = true := by
      have e : (w :: ws).length - 2 = (ws.length - 2) + 1 := by simp only [List.length_cons]; omega
      unfold Yu
      rw [e, hat, hS2.2]
      simp only [List.length_cons, Bool.and_true, decide_eq_true_eq]
      omega
    have e2 : ws.length = (ws.length - 1) + 1 := by omega
    have hW2 : l15W s = (w :: ws.take (ws.length - 2), atB ws (ws.length - 1)) := by
      rw [hW, if_pos hI, zbe hS2.1]
      have : atB (w :: ws) ws.length = atB ws (ws.length - 1) := by rw [← hat, ← e2]
      rw [this]
    have hin : isW (atB ws (ws.length - 1)) [] = false := by
      refine hnb _ (List.mem_cons_of_mem _ ?_)
      unfold atB
      rw [List.getElem?_eq_getElem (show ws.length - 1 < ws.length by omega)]
      exact List.getElem_mem _
    have hfl : fullB (w :: ws.take (ws.length - 2)) = true := zeF fun x hx => hnb x (by
      rcases List.mem_cons.1 hx with rfl | hx
      · exact List.mem_cons_self
      · exact List.mem_cons_of_mem _ (List.mem_of_mem_take hx))
    have hlt : (ws.take (ws.length - 2)).length = ws.length - 2 := by rw [List.length_take, Nat.min_eq_left (by omega)]
    rw [if_pos hS, hA, hW2, hI]
    simp only [hfl, List.length_cons, hlt]
    by_cases hp : yk (atB ws (ws.length - 1)) = true
    · rw [if_pos hp, zes hp]
      refine ⟨by simp [atB], fun _ => rfl⟩
    · rw [if_neg hp, zcl (by simpa using hp) (.inl hin)]
      exact ⟨by simp, fun h => by simp at h⟩
  · rw [if_neg hS, hA]
    by_cases hI : Yu (w :: ws) = true
    · have hI2 : 2 ≤ (w :: ws).length ∧ isW (atB (w :: ws) ((w :: ws).length - 2)) [62] = true := by simpa [Yu] using hI
      simp only [List.length_cons] at hI2
      have hS2 : ¬ (1 < ws.length) := fun h => hS (by
        have e : ws.length + 1 - 2 = (ws.length - 2) + 1 := by omega
        have h3 := hI2.2
        rw [e] at h3
        unfold atB at h3
        rw [List.getElem?_cons_succ] at h3
        simp [signB, h, atB, h3])
      have h1l : ws.length = 1 := by omega
      have hw62 : w.toList = [62] := by
        have h3 := hI2.2
        rw [h1l] at h3
        simpa [atB, isW] using h3
      have hk : kindI w ws.length true = false := by simp [kindI, isW, hw62]
      rw [hW, if_pos hI, hk, h1l]
      exact ⟨by simp, fun h => by simp at h⟩
    · have hI0 : Yu (w :: ws) = false := by simpa using hI
      rw [hW, if_neg hI, hI0]
      simp only [zeF hnb, List.length_cons]
      have e0 : atB (w :: ws) 0 = w := rfl
      rw [e0, zer]
      refine ⟨by simp, fun _ => rfl⟩
structure JL (j : Job) : Prop where
  a : j.acts.length < 1048578
  i : j.ins.length < 4611686018427387904
  e : j.envs.length < 4611686018427387904
  d : j.deps.length < 4611686018427387904
  o : ∀ m ∈ j.deps, m.outs.length < 4611686018427387904
  t : ∀ f ∈ j.ins, f.text.size ≤ 1048576
structure Sm (m : Made) : Prop where
  n : m.outs.length ≤ 6
  f : ∀ x ∈ m.outs, x.path.size ≤ 1048576 ∧ x.text.size ≤ 60
  l : m.log.size ≤ 200
theorem Sm.ok {m : Made} (h : Sm m) : File.ty.slice.ok m.outs := ⟨show m.outs.length * 32 ≤ 140737488351232 by have := h.n; omega, fun x hx => ⟨show x.path.size ≤ 140737488351232 by have := (h.f x hx).1; omega, show x.text.size ≤ 140737488351232 by have := (h.f x hx).2; omega, trivial⟩⟩
theorem zcb (xs : List File) (f : File) : ∀ x ∈ (yh xs f).1, x = f ∨ x ∈ xs := fun x hx => by
  unfold yh at hx
  rw [zM] at hx
  split at hx
  · rcases zdm _ _ x hx with h | h
    · exact .inl h
    · exact .inr (List.mem_filter.1 h).1
  · exact .inr hx
theorem zfq {j : Job} {m : Made} (h : Sm m) {w o : ByteArray} {ws : List ByteArray} (ho : o.size ≤ 1048576) : Sm (doAct j m w ws o).1 := by
  unfold doAct
  split
  · exact h
  · split
    · split
      · exact h
      · exact ⟨h.n, h.f, by simp only; omega⟩
    · split
      · rename_i hc
        simp only [Bool.and_eq_true, decide_eq_true_eq] at hc
        refine ⟨hc.2.2, fun x hx => ?_, h.l⟩
        rcases zcb _ _ x hx with rfl | hx
        · exact ⟨ho, zaw hc.2.1⟩
        · exact h.f x hx
      · exact h
theorem zcV {j : Job} {m : Made} (h : Sm m) {s : ByteArray} (hs : s.size ≤ 1048576) : Sm (actV j m s).1 := by
  unfold actV
  split
  · exact zfq h (Z9 s hs)
  · exact h
theorem ze1 {j : Job} {m : Made} {s : ByteArray} (h : (actV j m s).2 = false) : (actV j m s).1 = m := by
  unfold actV doAct at h ⊢
  split at h
  · rename_i h1
    rw [if_pos h1]
    split at h
    · rename_i h2; rw [if_pos h2]
    · rename_i h2; rw [if_neg h2]
      split at h
      · rename_i h3; rw [if_pos h3]
        split at h
        · rename_i h4; rw [if_pos h4]
        · cases h
      · rename_i h3; rw [if_neg h3]
        split at h
        · cases h
        · rename_i h4; rw [if_neg h4]
  · rename_i h1
    rw [if_neg h1]
def makeF (j : Job) : Made → List ByteArray → Made × Bool
  | m, [] => (m, true)
  | m, s :: l => if (actV j m s).2 then makeF j (actV j m s).1 l else (m, false)
def makeV (j : Job) : Made × Bool := makeF j ⟨j.name, [], ⟨#[]⟩⟩ j.acts
theorem zdP (l : List ByteArray) : ((actI l).1 = zeroA ∧ (actI l).2 = false) ∨ ∃ w ws o, (actI l).1 = aggA w ws o := by
  unfold actI
  split
  · exact .inl ⟨rfl, rfl⟩
  · split
    · exact .inl ⟨rfl, rfl⟩
    · split
      · split
        · exact .inr ⟨_, _, _, rfl⟩
        · exact .inl ⟨rfl, rfl⟩
      · exact .inr ⟨_, _, _, rfl⟩
theorem zaL {s : ByteArray} (hs : s.size ≤ 1048576) : ((l15W s).1.drop 1).length ≤ 1048577 ∧ ∀ x ∈ (l15W s).1.drop 1, x.size ≤ 1048576 := by
  obtain ⟨_, h2⟩ := YM s
  have h3 := zag s
  have hsub : ∀ x ∈ (l15W s).1, x ∈ yg s := fun x hx => by
    unfold l15W at hx
    split at hx
    · exact List.mem_of_mem_take hx
    · exact hx
  have hl : (l15W s).1.length ≤ (yg s).length := by
    unfold l15W
    split
    · show (List.take _ _).length ≤ _
      rw [List.length_take]; omega
    · exact Nat.le_refl _
  refine ⟨by rw [List.length_drop]; omega, fun x hx => Nat.le_trans (h3 x (hsub x (List.mem_of_mem_drop hx))) hs⟩
theorem zbq {s : ByteArray} (h : yP s = true) : (isW (atB (l15W s).1 0) [101, 110, 118] = true → 1 ≤ ((l15W s).1.drop 1).length) ∧ (isW (atB (l15W s).1 0) [117, 115, 101] = true → 2 ≤ ((l15W s).1.drop 1).length) ∧ (isW (atB (l15W s).1 0) [112, 117, 116] = true ∨ isW (atB (l15W s).1 0) [99, 97, 116] = true ∨ isW (atB (l15W s).1 0) [101, 110, 118] = true ∨ isW (atB (l15W s).1 0) [117, 115, 101] = true ∨ isW (atB (l15W s).1 0) [108, 111, 103] = true ∨ isW (atB (l15W s).1 0) [102, 97, 105, 108] = true) ∧ 1 ≤ (l15W s).1.length := by
  unfold yP at h
  simp only [Bool.and_eq_true, Bool.not_eq_true', beq_eq_false_iff_ne] at h
  obtain ⟨_, h0, hk⟩ := h
  generalize atB (l15W s).1 0 = w at hk ⊢
  generalize Yu (yg s) = b at hk
  generalize (l15W s).2 = o at hk
  rw [List.length_drop]
  generalize (l15W s).1.length = n at h0 hk ⊢
  unfold kindS at hk
  have e : ∀ l : List UInt8, isW w l = true ↔ w.toList = l := fun l => by simp [isW]
  refine ⟨fun h => ?_, fun h => ?_, ?_, by omega⟩
  · rw [e] at h
    simp [isW, h] at hk
    omega
  · rw [e] at h
    simp [isW, h] at hk
    omega
  · by_cases k1 : isW w [112, 117, 116] = true
    · exact .inl k1
    by_cases k2 : isW w [99, 97, 116] = true
    · exact .inr (.inl k2)
    by_cases k3 : isW w [101, 110, 118] = true
    · exact .inr (.inr (.inl k3))
    by_cases k4 : isW w [117, 115, 101] = true
    · exact .inr (.inr (.inr (.inl k4)))
    by_cases k5 : isW w [108, 111, 103] = true
    · exact .inr (.inr (.inr (.inr (.inl k5))))
    by_cases k6 : isW w [102, 97, 105, 108] = true
    · exact .inr (.inr (.inr (.inr (.inr k6))))
    simp [k1, k2, k3, k4, k5, k6] at hk
theorem R160 (xs : List ByteArray) (sep : ByteArray) (hN : xs.length ≤ 140737488355328) (hlen : (joinB xs sep).size ≤ 140737488355328) : Ret Tryz.prog 160 [.ro (rows Ty.str.cs xs) xs.length, .sc (.string sep)] (.sc (.string (joinB xs sep))) [.un, .un] := Ret.joinOf Tryz.laysJoin Tryz.extraJoin rfl xs sep hN hlen
def A161 : AC := (.seq (.ops [wO 3 (.box (.t 1)), qO 4 (.mov (.c (.sc (.string ⟨#[]⟩)))), qO 5 (.mov (.c (.sc (.bool false))))])
  (.seq (.seq (.ops [qO 11 (.fadr 0 (.t 3)), qO 12 (.load false 1 (.t 11))])
  (.block 0 (.seq (.ops [qO 14 (.bin .eql (.t 12) (.c (.sc (.string ⟨#[112, 117, 116]⟩)))), qO 13 (.mov (.t 14))])
  (.cond (.t 13) (.seq (.ops [qO 15 (.fadr 1 (.t 3)), qO 16 (.load false 1 (.t 15)), cO 17 160 [.t 16, (.c (.sc (.string ⟨#[32]⟩)))], qO 4 (.mov (.t 17)), qO 5 (.mov (.c (.sc (.bool true))))])
  .ret)
  (.seq (.ops [qO 19 (.bin .eql (.t 12) (.c (.sc (.string ⟨#[101, 110, 118]⟩)))), qO 18 (.mov (.t 19))])
  (.cond (.t 18) (.seq (.any [(qO 20 (.mov (.t 0)), []), (qO 21 (.nilc (.t 20)), [0]), (qO 22 (.fadr 3 (.t 21)), [1]), (qO 23 (.load false 1 (.t 22)), [2]), (qO 24 (.fadr 1 (.t 3)), []), (qO 25 (.load false 1 (.t 24)), [4]), (qO 26 (.iadr 1 (.t 25) (iC 0)), [5]), (qO 27 (.load false 1 (.t 26)), [6]), (cO 28 45 [.t 23, .t 27], [3, 7]), (qO 29 (.ext (.t 28) 0), [8]), (qO 30 (.ext (.t 28) 1), [8]), (qO 4 (.mov (.t 29)), [9, 8, 0, 1, 2, 3, 4, 5, 6, 7, 8, 9, 10]), (qO 5 (.mov (.t 30)), [10, 11, 0, 1, 2, 3, 4, 5, 6, 7, 8, 9, 10, 11])])
  .ret)
  (.seq (.ops [qO 32 (.bin .eql (.t 12) (.c (.sc (.string ⟨#[117, 115, 101]⟩)))), qO 31 (.mov (.t 32))])
  (.cond (.t 31) (.seq (.any [(qO 33 (.mov (.t 0)), []), (qO 34 (.nilc (.t 33)), [0]), (qO 35 (.fadr 4 (.t 34)), [1]), (qO 36 (.load false 1 (.t 35)), [2]), (qO 37 (.fadr 1 (.t 3)), []), (qO 38 (.load false 1 (.t 37)), [4]), (qO 39 (.iadr 1 (.t 38) (iC 0)), [5]), (qO 40 (.load false 1 (.t 39)), [6]), (qO 41 (.fadr 1 (.t 3)), []), (qO 42 (.load false 1 (.t 41)), [8]), (qO 43 (.iadr 1 (.t 42) (iC 1)), [9]), (qO 44 (.load false 1 (.t 43)), [10]), (cO 45 219 [.t 36, .t 40, .t 44], [3, 7, 11]), (qO 46 (.ext (.t 45) 0), [12]), (qO 47 (.ext (.t 45) 1), [12]), (qO 4 (.mov (.t 46)), [13, 12, 0, 1, 2, 3, 4, 5, 6, 7, 8, 9, 10, 11, 12, 13, 14]), (qO 5 (.mov (.t 47)), [14, 15, 0, 1, 2, 3, 4, 5, 6, 7, 8, 9, 10, 11, 12, 13, 14, 15])])
  .ret)
  .skip))))))))
  (.seq (.ops [qO 6 (.mov (.c (.sc (.string ⟨#[]⟩))))])
  (.seq (.seq (.ops [qO 48 (.fadr 1 (.t 3)), qO 49 (.load false 1 (.t 48)), qO 50 (.llen (.t 49)), qO 51 (.mov (iC 0))])
  (.block 1 (.loop (.seq (.ops [qO 52 (.bin .lss (.t 51) (.t 50))])
  (.seq (.cond (.t 52) .skip
  (.exit 1))
  (.seq (.block 2 (.seq (.ops [qO 53 (.iadr 1 (.t 49) (.t 51)), qO 54 (.load false 1 (.t 53)), qO 8 (.mov (.t 54))])
  (.seq (.ops [qO 56 (.mov (.t 0)), qO 57 (.nilc (.t 56)), qO 58 (.fadr 2 (.t 57)), qO 59 (.load false 1 (.t 58)), qO 60 (.mov (.t 8)), cO 61 220 [.t 59, .t 60], qO 55 (.mov (.t 61)), qO 62 (.ext (.t 55) 0), qO 63 (.ext (.t 55) 1), qO 9 (.mov (.t 62)), qO 10 (.mov (.t 63))])
  (.seq (.seq (.ops [qO 64 (.mov (.t 10)), qO 65 (.not (.t 64))])
  (.cond (.t 65) (.seq (.ops [qO 4 (.mov (.c (.sc (.string ⟨#[]⟩)))), qO 5 (.mov (.c (.sc (.bool false))))])
  .ret)
  .skip))
  (.ops [qO 66 (.mov (.t 6)), qO 67 (.mov (.t 9)), qO 68 (.bin .add (.t 66) (.t 67)), qO 6 (.mov (.t 68))])))))
  (.ops [qO 69 (.bin .add (.t 51) (iC 1)), qO 51 (.mov (.t 69))])))))))
  (.seq (.ops [qO 70 (.mov (.t 6)), qO 4 (.mov (.t 70)), qO 5 (.mov (.c (.sc (.bool true))))])
  .ret)))))
theorem K161 : Kf Tryz.prog Tryz.f161 A161 71 [.mov (.t 4), .mov (.t 5)] := ⟨by kernel_rfl, by kernel_rfl, by kernel_rfl⟩
set_option maxHeartbeats 4000000 in
set_option maxRecDepth 20000 in
theorem R161 (j : Job) (hj : JL j) (w o : ByteArray) (ws : List ByteArray) (hl : ws.length ≤ 1048577) (hz : ∀ x ∈ ws, x.size ≤ 1048576) (he : isW w [101, 110, 118] = true → 1 ≤ ws.length) (hu : isW w [117, 115, 101] = true → 2 ≤ ws.length) :
    Ret Tryz.prog 161 [.rp (Job.ty.cs j) 0, aggA w ws o] (.tup [.sc (.string (textI j w ws).1), .sc (.bool (textI j w ws).2)]) [.un, .un] := by
  have hjs : (joinB ws sp).size ≤ 140737488355328 := by
    have h1 := Z1 sp hz
    have h2 : ws.length * (sp.size + 1048576) ≤ 1048577 * 1048577 := Nat.mul_le_mul hl (by decide)
    exact Nat.le_trans h1 (Nat.le_trans h2 (by decide))
  have rJ : Ret Tryz.prog 160 [.ro (rows Ty.str.cs ws) ws.length, .sc (.string ⟨#[32]⟩)] (.sc (.string (joinB ws sp))) [.un, .un] := R160 ws sp (by omega) hjs
  have hln := YU ws
  refine Ret.run Tryz.func161 K161 (by simp) rfl rfl 900 ?_
  by_cases k1 : w.toList = [112, 117, 116]
  · have hT : textI j w ws = (joinB ws sp, true) := by simp [textI, isW, k1]
    rw [hT]
    simp [A161, iniρ, aggA, k1]
    refine callK.ro 0 rfl (by kernel_rfl) (by simp [zd, ya]) rJ rfl rfl rfl ?_
    simp
  by_cases k2 : w.toList = [101, 110, 118]
  · have hT : textI j w ws = getE j.envs (atB ws 0) := by simp [textI, isW, k2]
    have h1 : 0 < ws.length := he (by simp [isW, k2])
    have hd := zD ws 0 h1
    rw [List.drop_zero] at hd
    rw [hT]
    simp [A161, iniρ, aggA, k1, k2]
    refine T.textW 400 [([], []), ([], []), ([], []), ([], []), ([], []), ([], []), ([], []), ([], []), ([], []), ([], []), ([], []), ([], []), ([], [])] mixed (by kernel_rfl) (by kernel_rfl) ?_
    simp [Job.cse, hd, h1]
    refine Yf.ro 0 rfl (by kernel_rfl) (by simp [zd, ya]) (R45 j.envs (atB ws 0) hj.e) rfl rfl (by rfl) ?_
    simp
  by_cases k3 : w.toList = [117, 115, 101]
  · have hT : textI j w ws = getM j.deps (atB ws 0) (atB ws 1) := by simp [textI, isW, k3]
    have h2 : 2 ≤ ws.length := hu (by simp [isW, k3])
    have h1 : 0 < ws.length := by omega
    have h11 : 1 < ws.length := by omega
    have h12 : (1 : Int) < ws.length := by omega
    have hd := zD ws 0 h1
    rw [List.drop_zero] at hd
    have hd1 := zD ws 1 h11
    rw [hd, List.drop_succ_cons, List.drop_zero] at hd1
    have hd1 : rows Ty.str.cs ws.tail = .sc (.string (atB ws 1)) :: rows Ty.str.cs (List.drop 2 ws) := by rw [← List.drop_one]; exact hd1
    rw [hT]
    simp [A161, iniρ, aggA, k1, k2, k3]
    refine T.textW 400 [([], []), ([], []), ([], []), ([], []), ([], []), ([], []), ([], []), ([], []), ([], []), ([], []), ([], []), ([], []), ([], []), ([], []), ([], []), ([], []), ([], [])] mixed (by kernel_rfl) (by kernel_rfl) ?_
    simp [Job.cse, hd, hd1, h1, h11, h12]
    refine Yf.ro 0 rfl (by kernel_rfl) (by simp [zd, ya]) (R219 j.deps (atB ws 0) (atB ws 1) hj.d hj.o) rfl rfl (by rfl) ?_
    simp
  have hT : textI j w ws = catF j.ins ⟨#[]⟩ ws := by simp [textI, isW, k1, k2, k3]
  rw [hT]
  simp [A161, iniρ, aggA, k1, k2, k3]
  refine T.rounds (μ := fun i : List ByteArray × List ByteArray × ByteArray => i.2.1.length)
    (fun i s => i.1 ++ i.2.1 = ws ∧ catF j.ins i.2.2 i.2.1 = catF j.ins ⟨#[]⟩ ws ∧ i.2.2.size ≤ i.1.length * 1048576 ∧ s.ρ 0 = .rp (Job.ty.cs j) 0 ∧ s.ρ 6 = .sc (.string i.2.2) ∧ s.ρ 49 = .ro (rows Ty.str.cs ws) ws.length ∧ s.ρ 50 = .sc (.int .i64 ws.length) ∧ s.ρ 51 = .sc (.int .i64 i.1.length) ∧ s.n = 71) ([], ws, ⟨#[]⟩) (by simp [za]; rfl) ?_
  rintro ⟨pre, rest, acc⟩ ⟨ρ, hh, n⟩ ⟨hx, hE, hz, k0, k6, k49, k50, k51, rfl⟩
  simp only at hx hE hz k0 k6 k49 k50 k51
  refine Zf (n := 400) ?_
  cases rest with
  | nil =>
    have hxl : pre.length = ws.length := by rw [← hx]; simp
    have hE : (acc, true) = catF j.ins ⟨#[]⟩ ws := hE
    rw [← hE]
    simp [k50, k51, hxl]
    refine T.on 400 ?_
    simp [k6]
  | cons x rest =>
    have hle : pre.length + (rest.length + 1) = ws.length := by rw [← hx]; simp
    have hlt : (pre.length : Int) < ws.length := by omega
    have hlt2 : pre.length < ws.length := by omega
    have hwr : IntKind.i64.wrap ((pre.length : Int) + 1) = pre.length + 1 := Ya (by omega) (by omega)
    have hat : atB ws pre.length = x := by unfold atB; rw [← hx, List.getElem?_append_right (Nat.le_refl _)]; simp
    have hd := zD ws pre.length hlt2
    rw [hat] at hd
    have hts := zcq hj.t x
    have hpm : pre.length * 1048576 ≤ 1048577 * 1048576 := Nat.mul_le_mul_right _ (by omega)
    have hadd : acc.size + (getF j.ins x).1.size ≤ 9223372036854775807 := by omega
    rw [catF] at hE
    simp [k0, k49, k50, k51, hlt, hlt2, hd, Job.cse]
    refine callK.ro 0 rfl (by kernel_rfl) (by simp [zd, ya, za]) (R220 j.ins x hj.i) rfl rfl rfl ?_
    by_cases hg : (getF j.ins x).2 = true
    · rw [if_pos hg] at hE
      simp [hg, k6, hadd, k51, hwr]
      refine ⟨pre ++ [x], rest, by simp, acc ++ (getF j.ins x).1, _, Le.refl _, by simpa using hx, hE, ?_, ?_⟩
      · rw [ByteArray.size_append, List.length_append, Nat.add_mul]
        simp only [List.length_cons, List.length_nil]
        omega
      · simp [za, k0, k49, k50, Job.cse]
    · have hg : (getF j.ins x).2 = false := by simpa using hg
      rw [hg] at hE
      have hE : (⟨#[]⟩, false) = catF j.ins ⟨#[]⟩ ws := hE
      rw [← hE]
      simp [hg]
def A78 : AC := (.seq (.ops [wO 3 (.box (.t 0)), wO 4 (.box (.t 1)), wO 6 (.alloc [(.sc (.string ⟨#[]⟩)), .em, (.sc (.string ⟨#[]⟩))]), qO 7 (.mov (.c (.sc (.bool false))))])
  (.seq (.ops [qO 16 (.load true 3 (.t 4)), cO 17 48 [.t 16], wO 8 (.alloc [(.sc (.string ⟨#[]⟩)), .em, (.sc (.string ⟨#[]⟩))]), nO (.store 3 (.t 8) (.t 17))])
  (.seq (.ops [qO 19 (.mov (.t 2)), cO 20 159 [.t 19], qO 18 (.mov (.t 20)), qO 21 (.ext (.t 18) 0), qO 22 (.ext (.t 18) 1), wO 9 (.alloc [(.sc (.string ⟨#[]⟩)), .em, (.sc (.string ⟨#[]⟩))]), nO (.store 3 (.t 9) (.t 21)), qO 10 (.mov (.t 22))])
  (.seq (.seq (.ops [qO 23 (.mov (.t 10)), qO 24 (.not (.t 23)), qO 25 (.mov (.t 24)), qG 26 25 false (.fadr 0 (.t 9)), qG 27 25 false (.load false 1 (.t 26)), qG 28 25 false (.bin .eql (.t 27) (.c (.sc (.string ⟨#[102, 97, 105, 108]⟩)))), qO 29 (.pick (.t 25) (.c (.sc (.bool true))) (.t 28))])
  (.cond (.t 29) (.seq (.ops [qO 30 (.load true 3 (.t 8)), nO (.store 3 (.t 6) (.t 30)), qO 7 (.mov (.c (.sc (.bool false))))])
  .ret)
  .skip))
  (.seq (.seq (.ops [qO 31 (.fadr 0 (.t 9)), qO 32 (.load false 1 (.t 31)), qO 33 (.bin .eql (.t 32) (.c (.sc (.string ⟨#[108, 111, 103]⟩))))])
  (.cond (.t 33) (.seq (.any [(qO 34 (.fadr 2 (.t 4)), []), (qO 35 (.load false 1 (.t 34)), [0]), (qO 36 (.fadr 1 (.t 9)), []), (qO 37 (.load false 1 (.t 36)), [2]), (cO 38 160 [.t 37, (.c (.sc (.string ⟨#[32]⟩)))], [3]), (qO 39 (.bin .add (.t 35) (.t 38)), [1, 4]), (qO 40 (.bin .add (.t 39) (.c (.sc (.string ⟨#[10]⟩)))), [5]), (qO 11 (.mov (.t 40)), [6, 4, 0, 1, 2, 3, 4, 5, 6])])
  (.seq (.seq (.ops [qO 41 (.mov (.t 11)), qO 42 (.slen (.t 41)), qO 43 (.bin .gtr (.t 42) (iC 200))])
  (.cond (.t 43) (.seq (.ops [qO 44 (.load true 3 (.t 8)), nO (.store 3 (.t 6) (.t 44)), qO 7 (.mov (.c (.sc (.bool false))))])
  .ret)
  .skip))
  (.seq (.ops [qO 45 (.mov (.t 11)), qO 46 (.fadr 2 (.t 8)), nO (.store 1 (.t 46) (.t 45))])
  (.seq (.ops [qO 47 (.load true 3 (.t 8)), nO (.store 3 (.t 6) (.t 47)), qO 7 (.mov (.c (.sc (.bool true))))])
  .ret))))
  .skip))
  (.seq (.ops [qO 49 (.load true 3 (.t 9)), cO 50 161 [.t 3, .t 49], qO 48 (.mov (.t 50)), qO 51 (.ext (.t 48) 0), qO 52 (.ext (.t 48) 1), qO 12 (.mov (.t 51)), qO 13 (.mov (.t 52))])
  (.seq (.seq (.ops [qO 53 (.mov (.t 13)), qO 54 (.not (.t 53)), qO 55 (.mov (.t 54)), qG 56 55 false (.mov (.t 12)), qG 57 55 false (.slen (.t 56)), qG 58 55 false (.bin .gtr (.t 57) (iC 60)), qO 59 (.pick (.t 55) (.c (.sc (.bool true))) (.t 58))])
  (.cond (.t 59) (.seq (.ops [qO 60 (.load true 3 (.t 8)), nO (.store 3 (.t 6) (.t 60)), qO 7 (.mov (.c (.sc (.bool false))))])
  .ret)
  .skip))
  (.seq (.ops [qO 62 (.fadr 1 (.t 4)), qO 63 (.load false 1 (.t 62)), qO 64 (.fadr 2 (.t 9)), qO 65 (.load false 1 (.t 64)), qO 66 (.mov (.t 12)), wO 67 (.build [(.sc (.string ⟨#[]⟩)), (.sc (.string ⟨#[]⟩))] [(0, 1, (.t 65)), (1, 1, (.t 66))]), cO 68 162 [.t 63, .t 67], qO 61 (.mov (.t 68)), qO 69 (.ext (.t 61) 0), qO 70 (.ext (.t 61) 1), qO 14 (.mov (.t 69)), qO 15 (.mov (.t 70))])
  (.seq (.seq (.ops [qO 71 (.mov (.t 15)), qO 72 (.not (.t 71)), qO 73 (.mov (.t 72)), qG 74 73 false (.mov (.t 14)), qG 75 73 false (.llen (.t 74)), qG 76 73 false (.bin .gtr (.t 75) (iC 6)), qO 77 (.pick (.t 73) (.c (.sc (.bool true))) (.t 76))])
  (.cond (.t 77) (.seq (.ops [qO 78 (.load true 3 (.t 8)), nO (.store 3 (.t 6) (.t 78)), qO 7 (.mov (.c (.sc (.bool false))))])
  .ret)
  .skip))
  (.seq (.ops [qO 79 (.mov (.t 14)), qO 80 (.fadr 1 (.t 8)), nO (.store 1 (.t 80) (.t 79))])
  (.seq (.ops [qO 81 (.load true 3 (.t 8)), nO (.store 3 (.t 6) (.t 81)), qO 7 (.mov (.c (.sc (.bool true))))])
  .ret)))))))))))
theorem K78 : Kf Tryz.prog Tryz.f78 A78 82 [.load true 3 (.t 6), .mov (.t 7)] := ⟨by kernel_rfl, by kernel_rfl, by kernel_rfl⟩
set_option maxHeartbeats 8000000 in
set_option maxRecDepth 20000 in
theorem R78 (j : Job) (hj : JL j) (m : Made) (hm : Sm m) (s : ByteArray) (hs : s.size ≤ 1048576) : Ret Tryz.prog 78 [.agg (Job.ty.cs j), .agg (Made.ty.cs m), .sc (.string s)] (.tup [.agg (Made.ty.oc (actV j m s).1), .sc (.bool (actV j m s).2)]) [.un, .un, .un] := by
  have hmn := hm.n
  have hml := hm.l
  have rA := R159 s hs
  obtain ⟨a1, a2⟩ := zgb s
  have ash := zdP (yg s)
  obtain ⟨A, hAA⟩ : ∃ A, A = (actI (yg s)).1 := ⟨_, rfl⟩
  rw [← hAA] at rA a2 ash
  rw [a1] at rA ash
  have hid := File.frL m.outs
  refine Ret.run Tryz.func78 K78 (by simp) rfl rfl 900 ?_
  simp [A78, iniρ, over, Job.cse, Made.cse]
  refine callK.ro 17 rfl (by kernel_rfl) (by simp [yd, zd, ya, za, Made.cse]) (R48 m (by omega)) (by simpa [flt] using Made.ty.flL m) (by simp [inst, instL, Made.oce, za]; exact ⟨rfl, rfl⟩) rfl ?_
  simp [over]
  by_cases hok : yP s = false
  case pos =>
   as_aux_lemma =>
    have hV : actV j m s = (m, false) := by unfold actV; rw [hok]; rfl
    rw [hok] at rA
    rw [hV]
    rcases ash with ⟨rfl, _⟩ | ⟨w, ws, o, rfl⟩
    · refine callK.cut [.ro] 50 (r := [(none, none)]) rfl (by kernel_rfl) rfl (by rfl) (by rfl) (by simp [Zs, shut, za]) (by simp [zg, ya, za]; rfl) (by rfl) rA (by rfl) (by rfl) (by rfl) rfl ?_
      simp [over, zeroA, ex1, File.ocl, hid, Made.oce]
    · refine callK.cut [.ro] 50 (r := [(none, none)]) rfl (by kernel_rfl) rfl (by rfl) (by rfl) (by simp [Zs, shut, za]) (by simp [zg, ya, za]; rfl) (by rfl) rA (by rfl) (by rfl) (by rfl) rfl ?_
      simp [over, aggA, ex1, File.ocl, hid, Made.oce]
  have hok : yP s = true := by simpa using hok
  obtain ⟨w, hw⟩ : ∃ w, w = atB (l15W s).1 0 := ⟨_, rfl⟩
  obtain ⟨ws, hws⟩ : ∃ w, w = (l15W s).1.drop 1 := ⟨_, rfl⟩
  obtain ⟨o, ho⟩ : ∃ w, w = (l15W s).2 := ⟨_, rfl⟩
  have hA2 := a2 hok
  obtain ⟨kw1, kw2, kw3, _⟩ := zbq hok
  obtain ⟨z1, z2⟩ := zaL hs
  have hos := Z9 s hs
  have hV : actV j m s = doAct j m w ws o := by unfold actV; rw [hok, hw, hws, ho]; rfl
  rw [← hw, ← hws, ← ho] at hA2
  rw [← hw, ← hws] at kw1 kw2
  rw [← hw] at kw3
  rw [← hws] at z1 z2
  rw [← ho] at hos
  rw [hok, hA2] at rA
  rw [hV]
  have hln := YU ws
  refine callK.cut [.ro] 50 (r := [(none, none)]) rfl (by kernel_rfl) rfl (by rfl) (by rfl) (by simp [Zs, shut, za]) (by simp [zg, ya, za]; rfl) (by rfl) rA (by rfl) (by rfl) (by rfl) rfl ?_
  have hjs : (joinB ws sp).size ≤ 140737488355328 := by
    have h1 := Z1 sp z2
    have h2 : ws.length * (sp.size + 1048576) ≤ 1048577 * 1048577 := Nat.mul_le_mul z1 (by decide)
    exact Nat.le_trans h1 (Nat.le_trans h2 (by decide))
  by_cases k1 : w.toList = [102, 97, 105, 108]
  · have hD : doAct j m w ws o = (m, false) := by simp [doAct, isW, k1]
    rw [hD]
    simp [over, aggA, k1, ex1, File.ocl, hid, Made.oce]
  by_cases k2 : w.toList = [108, 111, 103]
  · have rJ : Ret Tryz.prog 160 [.ro (rows Ty.str.cs ws) ws.length, .sc (.string ⟨#[32]⟩)] (.sc (.string (joinB ws sp))) [.un, .un] := R160 ws sp (by omega) hjs
    have hz1 : m.log.size + (joinB ws sp).size ≤ 9223372036854775807 := by omega
    have hz2 : m.log.size + (joinB ws sp).size + (⟨#[10]⟩ : ByteArray).size ≤ 9223372036854775807 := by
      show m.log.size + (joinB ws sp).size + 1 ≤ _
      omega
    simp [over, aggA, k1, k2, Made.cse]
    refine T.textW 400 [([], []), ([], []), ([], []), ([], []), ([], []), ([], []), ([], []), ([], [])] mixed (by kernel_rfl) (by kernel_rfl) ?_
    simp [over, Zb, yb]
    refine Yf.ro 0 rfl (by kernel_rfl) (by simp [zd, ya, za]) rJ rfl rfl (by rfl) ?_
    have hls : (logT m ws).size = m.log.size + (joinB ws sp).size + (⟨#[10]⟩ : ByteArray).size := by unfold logT; rw [ByteArray.size_append, ByteArray.size_append]; rfl
    by_cases h2 : 200 < (logT m ws).size
    · have hD : doAct j m w ws o = (m, false) := by simp [doAct, isW, k2, h2]
      have h2' : (200 : Int) < (m.log.size : Int) + (joinB ws sp).size + ((⟨#[10]⟩ : ByteArray).size : Int) := by rw [hls] at h2; omega
      rw [hD]
      simp [over, hz1, hz2, h2', Zb, yb, ex1, File.ocl, hid, Made.oce]
    · have hD : doAct j m w ws o = (⟨m.task, m.outs, logT m ws⟩, true) := by simp [doAct, isW, k2, h2]
      have h2' : ¬ (200 : Int) < (m.log.size : Int) + (joinB ws sp).size + ((⟨#[10]⟩ : ByteArray).size : Int) := by rw [hls] at h2; omega
      have hlt : logT m ws = m.log ++ joinB ws sp ++ (⟨#[10]⟩ : ByteArray) := rfl
      rw [hD]
      simp [over, hz1, hz2, h2', Zb, yb, ex1, File.ocl, hid, Made.oce, hlt]
  have rT := R161 j hj w o ws z1 z2 kw1 kw2
  obtain ⟨t, ht⟩ : ∃ t, t = textI j w ws := ⟨_, rfl⟩
  rw [← ht] at rT
  have hD : doAct j m w ws o = if t.2 && ((yh m.outs ⟨o, t.1⟩).2 && decide ((yh m.outs ⟨o, t.1⟩).1.length ≤ 6)) then (⟨m.task, (yh m.outs ⟨o, t.1⟩).1, m.log⟩, true) else (m, false) := by
    unfold doAct
    rw [if_neg (by simp [isW, k1]), if_neg (by simp [isW, k2]), ← ht]
  rw [hD]
  simp [over, aggA, k1, k2, Made.cse, Job.cse]
  refine callK.ro 0 rfl (by kernel_rfl) (ys := [.rp (Job.ty.cs j) 0, aggA w ws o]) (by simp [roc, yd, zd, ya, za, Job.cse, aggA]) rT rfl rfl rfl ?_
  cases h2 : t.2 with
  | false =>
    simp [over, h2, ex1, File.ocl, hid, Made.oce]
  | true =>
  by_cases h6 : 60 < t.1.size
  · have hp : (yh m.outs ⟨o, t.1⟩).2 = false := by
      rw [← Bool.not_eq_true]
      intro h
      have := zaw h
      simp only at this
      omega
    have h6' : (60 : Int) < t.1.size := by omega
    simp [over, h2, h6', hp, ex1, File.ocl, hid, Made.oce]
  have h6' : ¬ (60 : Int) < t.1.size := by omega
  have rP := R162 m.outs ⟨o, t.1⟩ hm.ok (fun x hx => (hm.f x hx).1) hos
  obtain ⟨p, hp⟩ : ∃ p, p = yh m.outs ⟨o, t.1⟩ := ⟨_, rfl⟩
  rw [← hp] at rP ⊢
  have hid2 := File.frL p.1
  simp [over, h2, h6', Made.cse]
  refine callK.ro 68 rfl (by kernel_rfl) (by simp [yd, zd, ya, za, File.cse]) rP (by simpa [flt, flt.fltL] using zbQ (Yj (q := flt) (fun x c hc => (File.ty.ow x c hc).fl) _)) (by simp [inst, instL, za]; exact ⟨rfl, rfl⟩) rfl ?_
  cases h3 : p.2 with
  | false => simp [over, h3, ex1, File.ocl, hid, Made.oce]
  | true =>
  by_cases h4 : p.1.length ≤ 6
  · have h4' : ¬ (6 : Int) < p.1.length := by omega
    simp [over, h3, h4, h4', ex1, File.ocl, hid2, Made.oce]
  · have h4' : (6 : Int) < p.1.length := by omega
    simp [over, h3, h4, h4', ex1, File.ocl, hid, Made.oce]
def A24 : AC := (.seq (.ops [wO 1 (.box (.t 0)), wO 2 (.alloc [(.sc (.string ⟨#[]⟩)), .em, (.sc (.string ⟨#[]⟩))]), qO 3 (.mov (.c (.sc (.bool false))))])
  (.seq (.ops [qO 9 (.fadr 0 (.t 1)), qO 10 (.load false 1 (.t 9)), wO 11 (.build [(.sc (.string ⟨#[]⟩)), .em, (.sc (.string ⟨#[]⟩))] [(0, 1, (.t 10))]), wO 4 (.alloc [(.sc (.string ⟨#[]⟩)), .em, (.sc (.string ⟨#[]⟩))]), nO (.store 3 (.t 4) (.t 11))])
  (.seq (.seq (.ops [qO 12 (.fadr 1 (.t 1)), qO 13 (.load false 1 (.t 12)), qO 14 (.llen (.t 13)), qO 15 (.mov (iC 0))])
  (.block 0 (.loop (.seq (.ops [qO 16 (.bin .lss (.t 15) (.t 14))])
  (.seq (.cond (.t 16) .skip
  (.exit 0))
  (.seq (.block 1 (.seq (.ops [qO 17 (.iadr 1 (.t 13) (.t 15)), qO 18 (.load false 1 (.t 17)), qO 6 (.mov (.t 18))])
  (.seq (.ops [qO 20 (.load true 5 (.t 1)), qO 21 (.load true 3 (.t 4)), qO 22 (.mov (.t 6)), cO 23 78 [.t 20, .t 21, .t 22], qO 19 (.mov (.t 23)), qO 24 (.ext (.t 19) 0), qO 25 (.ext (.t 19) 1), wO 7 (.alloc [(.sc (.string ⟨#[]⟩)), .em, (.sc (.string ⟨#[]⟩))]), nO (.store 3 (.t 7) (.t 24)), qO 8 (.mov (.t 25))])
  (.seq (.seq (.ops [qO 26 (.mov (.t 8)), qO 27 (.not (.t 26))])
  (.cond (.t 27) (.seq (.ops [qO 28 (.load true 3 (.t 4)), nO (.store 3 (.t 2) (.t 28)), qO 3 (.mov (.c (.sc (.bool false))))])
  .ret)
  .skip))
  (.ops [qO 29 (.load true 3 (.t 7)), nO (.store 3 (.t 4) (.t 29))])))))
  (.ops [qO 30 (.bin .add (.t 15) (iC 1)), qO 15 (.mov (.t 30))])))))))
  (.seq (.ops [qO 31 (.load true 3 (.t 4)), nO (.store 3 (.t 2) (.t 31)), qO 3 (.mov (.c (.sc (.bool true))))])
  .ret))))
theorem K24 : Kf Tryz.prog Tryz.f24 A24 32 [.load true 3 (.t 2), .mov (.t 3)] := ⟨by kernel_rfl, by kernel_rfl, by kernel_rfl⟩
set_option maxHeartbeats 4000000 in
theorem R24 (j : Job) (hj : JL j) (hs : ∀ s ∈ j.acts, s.size ≤ 1048576) : Ret Tryz.prog 24 [.agg (Job.ty.cs j)] (.tup [.agg (Made.ty.oc (makeV j).1), .sc (.bool (makeV j).2)]) [.un] := by
  have hja := hj.a
  refine Ret.run Tryz.func24 K24 (by simp) rfl rfl 900 ?_
  simp [A24, iniρ, over, Job.cse]
  refine T.le (Le.layC 4 1 2 (by simp [za]; rfl) rfl) ?_
  refine T.le (Le.told [(1, .ref 1 0), (2, .ref 2 0), (4, .ref 4 0), (13, .ro (rows Ty.str.cs j.acts) j.acts.length), (14, .sc (.int .i64 j.acts.length)), (15, .sc (.int .i64 0))] [(1, Job.ty.cs j), (2, [.sc (.string ⟨#[]⟩), .em, .sc (.string ⟨#[]⟩)]), (4, Made.ty.oc ⟨j.name, [], ⟨#[]⟩⟩)]
    (by simp [toldT, Y0, yF, YF, Yb, za]) (by simp [toldB, yO, Z0, yF, zaj, zaI, YF, Yb, Yb.idfreeL, zf, za, Job.cse, Made.oce])) ?_
  simp only [toldρ, toldH]
  refine T.rounds (μ := fun i : List ByteArray × List ByteArray × Made => i.2.1.length)
    (fun i s => i.1 ++ i.2.1 = j.acts ∧ makeF j i.2.2 i.2.1 = makeV j ∧ Sm i.2.2 ∧ s.ρ 1 = .ref 1 0 ∧ s.ρ 2 = .ref 2 0 ∧ s.ρ 4 = .ref 4 0 ∧ s.ρ 13 = .ro (rows Ty.str.cs j.acts) j.acts.length ∧ s.ρ 14 = .sc (.int .i64 j.acts.length) ∧ s.ρ 15 = .sc (.int .i64 i.1.length) ∧ s.h 1 = some (some (Job.ty.cs j)) ∧ s.h 2 = some (some [.sc (.string ⟨#[]⟩), .em, .sc (.string ⟨#[]⟩)]) ∧ s.h 4 = some (some (Made.ty.oc i.2.2)) ∧ s.h 60 = none ∧ s.h 7 = none ∧ s.h 24001001 = none ∧ s.n = 32) ([], j.acts, ⟨j.name, [], ⟨#[]⟩⟩) (by simp [za, makeV]; exact ⟨Nat.zero_le _, fun x hx => (by cases hx), Nat.zero_le _⟩) ?_
  rintro ⟨pre, rest, m⟩ ⟨ρ, hh, n⟩ ⟨hx, hE, hm, k1, k2, k4, k13, k14, k15, g1, g2, g4, f60, f7, fX, rfl⟩
  simp only at hx hE hm k1 k2 k4 k13 k14 k15 g1 g2 g4 f60 f7 fX
  have hid := File.frL m.outs
  refine T.le (Le.open 4 1 60 g4 (by rw [Made.oce]; rfl) f60 hid) ?_
  simp only [Made.oce]
  refine Zf (n := 400) ?_
  cases rest with
  | nil =>
    have hxl : pre.length = j.acts.length := by rw [← hx]; simp
    have hE : (m, true) = makeV j := hE
    rw [← hE]
    simp [k14, k15, hxl]
    refine T.on 400 ?_
    simp [k2, k4, g2, over, ex1, za, File.ocl, hid, Made.oce]
  | cons x rest =>
    have hle : pre.length + (rest.length + 1) = j.acts.length := by rw [← hx]; simp
    have hlt : (pre.length : Int) < j.acts.length := by omega
    have hlt2 : pre.length < j.acts.length := by omega
    have hwr : IntKind.i64.wrap ((pre.length : Int) + 1) = pre.length + 1 := Ya (by omega) (by omega)
    have hat : atB j.acts pre.length = x := by unfold atB; rw [← hx, List.getElem?_append_right (Nat.le_refl _)]; simp
    have hd := zD j.acts pre.length hlt2
    rw [hat] at hd
    have hxs : x.size ≤ 1048576 := hs x (by rw [← hx]; simp)
    have rA := R78 j hj m hm x hxs
    have hsm := zcV (j := j) hm hxs
    have hno := ze1 (j := j) (m := m) (s := x)
    rw [makeF] at hE
    obtain ⟨p, hp⟩ : ∃ p, p = actV j m x := ⟨_, rfl⟩
    rw [← hp] at rA hE hsm hno
    have hid2 := File.frL p.1.outs
    have hfl : flt (.tup [.agg (Made.ty.oc p.1), .sc (.bool p.2)]) = true := by
      have h1 := Made.ty.flL p.1
      simp only [flt, flt.fltL, Bool.and_eq_true] at h1 ⊢
      exact ⟨h1, trivial, trivial⟩
    simp [k1, k4, k13, k14, k15, g1, hlt, hlt2, hd, Job.cse, over]
    refine callK.ro 23 rfl (by kernel_rfl) (by simp [yd, Zk, List.mapM_cons, List.mapM_nil, zd, ya, za, Made.cse, Job.cse, File.roc7, k4, g1]) rA hfl (by simp [inst, instL, Made.oce, za, fX]; exact ⟨rfl, rfl⟩) rfl ?_
    cases hok : p.2 with
    | false =>
      rw [hok] at hE
      have hE : (m, false) = makeV j := hE
      rw [← hE]
      simp [k2, k4, g2, f7, over, hok, ex1, za, File.ocl, hid, Made.oce]
    | true =>
      rw [hok] at hE
      have hE : makeF j p.1 rest = makeV j := hE
      simp [k2, k4, g2, f7, over, hok, za, k15, hwr]
      refine ⟨pre ++ [x], rest, by simp, p.1, _, Le.trans (Le.pack 4 1 (i := 24001001) (len := p.1.outs.length) (sz := 2) (cs' := rows File.ty.oc p.1.outs) (by simp [za]; rfl) (by rfl) (by simp [za]) (by decide) (by simp [File.ocl]) hid2)
        (Le.told [(1, .ref 1 0), (2, .ref 2 0), (4, .ref 4 0), (13, .ro (rows Ty.str.cs j.acts) j.acts.length), (14, .sc (.int .i64 j.acts.length)), (15, .sc (.int .i64 ((pre ++ [x]).length : Nat)))] [(1, Job.ty.cs j), (2, [.sc (.string ⟨#[]⟩), .em, .sc (.string ⟨#[]⟩)]), (4, Made.ty.oc p.1)]
          (by simp [toldT, Y0, yF, YF, Yb, za, k1, k2, k4, k13, k14]) (by simp [toldB, yO, Z0, yF, zaj, zaI, YF, Yb, Yb.idfreeL, hid2, za, Job.cse, Made.oce, g1, g2])), by simpa using hx, hE, hsm, ?_⟩
      simp [toldρ, toldH, za, Job.cse, Made.oce]
theorem zeu (x sep : ByteArray) : joinB [x] sep = x := by
  apply ByteArray.ext
  apply Array.ext'
  simp [joinB, Lib.join_one]
theorem zdJ (a : ByteArray) (pre : List ByteArray) (x sep : ByteArray) : joinB (a :: (pre ++ [x])) sep = joinB (a :: pre) sep ++ sep ++ x := by
  apply ByteArray.ext
  apply Array.ext'
  simp [joinB, Lib.join_cons, Lib.joinTail, ByteArray.data_append]
def depA (l : List Made) (t : ByteArray) : AV × Bool := match l.find? (sameM t) with | some m => (.agg (Made.ty.cs m), true) | none => (zeroA, false)
def A200 : AC := (.seq (.ops [qO 4 (.mov (.c (.sc (.string ⟨#[]⟩))))])
  (.seq (.ops [qO 5 (.mov (.c (.sc (.string ⟨#[]⟩))))])
  (.seq (.seq (.ops [qO 6 (.mov (iC 0))])
  (.block 0 (.loop (.seq (.seq (.ops [qO 7 (.mov (.t 6)), qO 8 (.mov (.t 0)), qO 9 (.llen (.t 8)), qO 10 (.bin .lss (.t 7) (.t 9))])
  (.cond (.t 10) .skip
  (.exit 0)))
  (.seq (.block 1 (.seq (.seq (.ops [qO 13 (.mov (.t 6)), qO 14 (.bin .gtr (.t 13) (iC 0))])
  (.cond (.t 14) (.ops [qO 15 (.mov (.t 5)), qO 16 (.mov (.t 1)), qO 17 (.bin .add (.t 15) (.t 16)), qO 5 (.mov (.t 17))])
  .skip))
  (.ops [qO 18 (.mov (.t 5)), qO 19 (.mov (.t 0)), qO 20 (.mov (.t 6)), qO 21 (.iadr 1 (.t 19) (.t 20)), qO 22 (.load false 1 (.t 21)), qO 23 (.bin .add (.t 18) (.t 22)), qO 5 (.mov (.t 23))])))
  (.ops [qO 11 (.mov (.t 6)), qO 12 (.bin .add (.t 11) (iC 1)), qO 6 (.mov (.t 12))]))))))
  (.seq (.ops [qO 24 (.mov (.t 5)), qO 4 (.mov (.t 24))])
  .ret))))
theorem K200 : Kf Tryz.prog Tryz.f200 A200 25 [.mov (.t 4)] := ⟨by kernel_rfl, by kernel_rfl, by kernel_rfl⟩
set_option maxRecDepth 20000 in
theorem R200 (xs : List ByteArray) (sep : ByteArray) (hl : xs.length ≤ 1048577) (hz : ∀ x ∈ xs, x.size ≤ 1048576) (hs : sep.size ≤ 1048576) : Ret Tryz.prog 200 [.ro (rows Ty.str.cs xs) xs.length, .sc (.string sep)] (.sc (.string (joinB xs sep))) [.un, .un] := by
  refine Ret.run Tryz.func200 K200 (by simp) rfl rfl 500 ?_
  simp [A200, iniρ]
  refine T.rounds (μ := fun i : List ByteArray × List ByteArray => i.2.length)
    (fun i s => i.1 ++ i.2 = xs ∧ s.ρ 0 = .ro (rows Ty.str.cs xs) xs.length ∧ s.ρ 1 = .sc (.string sep) ∧ s.ρ 5 = .sc (.string (joinB i.1 sep)) ∧ s.ρ 6 = .sc (.int .i64 i.1.length) ∧ s.n = 25) ([], xs) (by simp [za]; rfl) ?_
  rintro ⟨pre, rest⟩ ⟨ρ, hh, n⟩ ⟨hx, k0, k1, k5, k6, rfl⟩
  simp only at hx k0 k1 k5 k6
  refine Zf (n := 400) ?_
  cases rest with
  | nil =>
    rw [List.append_nil] at hx
    subst hx
    simp [k0, k6]
    refine T.on 400 ?_
    simp [k5]
  | cons x rest =>
    have hle : pre.length + (rest.length + 1) = xs.length := by rw [← hx]; simp
    have hlt : (pre.length : Int) < xs.length := by omega
    have hlt2 : pre.length < xs.length := by omega
    have hwr : IntKind.i64.wrap ((pre.length : Int) + 1) = pre.length + 1 := Ya (by omega) (by omega)
    have hat : atB xs pre.length = x := by unfold atB; rw [← hx, List.getElem?_append_right (Nat.le_refl _)]; simp
    have hd := zD xs pre.length hlt2
    rw [hat] at hd
    have hzx := hz x (by rw [← hx]; simp)
    have hzp : ∀ y ∈ pre, y.size ≤ 1048576 := fun y hy => hz y (by rw [← hx]; simp [hy])
    have hj : (joinB pre sep).size ≤ 2199025352704 := by
      have hj1 := Z1 sep hzp
      have hj2 : pre.length * (sep.size + 1048576) ≤ 1048577 * 2097152 := Nat.mul_le_mul (by omega) (by omega)
      exact Nat.le_trans hj1 (Nat.le_trans hj2 (by decide))
    cases pre with
    | nil =>
      have hz0 : (joinB [] sep).size + x.size ≤ 9223372036854775807 := by omega
      have e0 : joinB [] sep = ⟨#[]⟩ := rfl
      have e1 : (⟨#[]⟩ : ByteArray) ++ x = x := by apply ByteArray.ext; simp [ByteArray.data_append]
      have hne : ¬ xs = [] := fun e => by rw [e] at hlt2; simp at hlt2
      have hl0 : 0 < xs.length := hlt2
      have hd : rows Ty.str.cs xs = .sc (.string x) :: rows Ty.str.cs (List.drop 1 xs) := hd
      have k6 : ρ 6 = .sc (.int .i64 0) := k6
      have hw1 : IntKind.i64.wrap 1 = 1 := Ya (by omega) (by omega)
      simp [k0, k1, k5, k6, hne, hl0, hd, hz0, hw1]
      refine ⟨[x], rest, by simp, _, Le.refl _, ?_⟩
      simp [za, k0, k1, zeu, e0, e1, hd]
      simpa using hx
    | cons a pre =>
      have hz1 : (joinB (a :: pre) sep).size + sep.size ≤ 9223372036854775807 := by omega
      have hz2 : (joinB (a :: pre) sep).size + sep.size + x.size ≤ 9223372036854775807 := by omega
      have hpos : (0 : Int) < (pre.length : Int) + 1 := by omega
      have hle : pre.length + 1 + (rest.length + 1) = xs.length := hle
      have hl1 : (pre.length : Int) + 1 < xs.length := by omega
      have hl2 : pre.length + 1 < xs.length := by omega
      have hw1 : IntKind.i64.wrap ((pre.length : Int) + 1 + 1) = pre.length + 1 + 1 := Ya (by omega) (by omega)
      have k6 : ρ 6 = .sc (.int .i64 (pre.length + 1 : Nat)) := k6
      have hd : List.drop (pre.length + 1) (rows Ty.str.cs xs) = .sc (.string x) :: rows Ty.str.cs (List.drop (pre.length + 1 + 1) xs) := hd
      have h01 : (0 : Int) ≤ (pre.length : Int) + 1 := by omega
      simp [k0, k1, k5, k6, hl1, hl2, hd, hz1, hz2, hpos, hw1, h01]
      refine ⟨a :: (pre ++ [x]), rest, by simp, _, Le.refl _, ?_⟩
      simp [za, k0, k1, zdJ]
      simpa using hx
def A246 : AC := (.seq (.ops [wO 2 (.box (.t 0)), wO 4 (.alloc [(.sc (.string ⟨#[]⟩)), .em, (.sc (.string ⟨#[]⟩))]), qO 5 (.mov (.c (.sc (.bool false))))])
  (.seq (.seq (.ops [qO 6 (.mov (iC 0))])
  (.block 0 (.loop (.seq (.seq (.ops [qO 7 (.mov (.t 6)), qO 8 (.fadr 4 (.t 2)), qO 9 (.load false 1 (.t 8)), qO 10 (.llen (.t 9)), qO 11 (.bin .lss (.t 7) (.t 10))])
  (.cond (.t 11) .skip
  (.exit 0)))
  (.seq (.block 1 (.seq (.ops [qO 14 (.fadr 4 (.t 2)), qO 15 (.load false 1 (.t 14)), qO 16 (.mov (.t 6)), qO 17 (.iadr 3 (.t 15) (.t 16)), qO 18 (.fadr 0 (.t 17)), qO 19 (.load false 1 (.t 18)), qO 20 (.mov (.t 1)), qO 21 (.bin .eql (.t 19) (.t 20))])
  (.cond (.t 21) (.seq (.ops [qO 22 (.fadr 4 (.t 2)), qO 23 (.load false 1 (.t 22)), qO 24 (.mov (.t 6)), qO 25 (.iadr 3 (.t 23) (.t 24)), qO 26 (.load true 3 (.t 25)), nO (.store 3 (.t 4) (.t 26)), qO 5 (.mov (.c (.sc (.bool true))))])
  .ret)
  .skip)))
  (.ops [qO 12 (.mov (.t 6)), qO 13 (.bin .add (.t 12) (iC 1)), qO 6 (.mov (.t 13))]))))))
  (.seq (.ops [wO 27 (.build [(.sc (.string ⟨#[]⟩)), .em, (.sc (.string ⟨#[]⟩))] []), nO (.store 3 (.t 4) (.t 27)), qO 5 (.mov (.c (.sc (.bool false))))])
  .ret)))
theorem K246 : Kf Tryz.prog Tryz.f246 A246 28 [.load true 3 (.t 4), .mov (.t 5)] := ⟨by kernel_rfl, by kernel_rfl, by kernel_rfl⟩
theorem R246 (j : Job) (hj : JL j) (t : ByteArray) : Ret Tryz.prog 246 [.agg (Job.ty.cs j), .sc (.string t)] (.tup [(depA j.deps t).1, .sc (.bool (depA j.deps t).2)]) [.un, .un] := by
  have hb := hj.d
  refine Ret.run Tryz.func246 K246 (by simp) rfl rfl 500 ?_
  simp [A246, iniρ, Job.cse]
  refine T.rounds (μ := fun i : List Made × List Made => i.2.length)
    (fun i s => i.1 ++ i.2 = j.deps ∧ (∀ y ∈ i.1, sameM t y = false) ∧ s.ρ 1 = .sc (.string t) ∧ s.ρ 2 = .ref 2 0 ∧ s.ρ 4 = .ref 4 0 ∧ s.ρ 6 = .sc (.int .i64 i.1.length) ∧ s.h 2 = some (some (Job.ty.cs j)) ∧ s.h 4 = some (some [.sc (.string ⟨#[]⟩), .em, .sc (.string ⟨#[]⟩)]) ∧ s.n = 28) ([], j.deps) (by simp [za, Job.cse]) ?_
  rintro ⟨pre, rest⟩ ⟨ρ, hh, n⟩ ⟨hx, hpre, k1, k2, k4, k6, g2, g4, rfl⟩
  simp only at hx hpre k1 k2 k4 k6 g2 g4
  refine Zf (n := 400) ?_
  cases rest with
  | nil =>
    have hxl : pre.length = j.deps.length := by rw [← hx]; simp
    rw [List.append_nil] at hx
    have hG : depA j.deps t = (zeroA, false) := by unfold depA; rw [zP (by rw [← hx]; exact hpre)]
    rw [hG]
    simp [k2, k6, g2, hxl, Job.cse]
    refine T.on 400 ?_
    simp [k4, g4, zeroA, za, over]
  | cons x rest =>
    have hlt : (pre.length : Int) < j.deps.length := by rw [← hx]; simp only [List.length_append, List.length_cons]; omega
    have hle : pre.length + (rest.length + 1) = j.deps.length := by rw [← hx]; simp
    have hwr : IntKind.i64.wrap ((pre.length : Int) + 1) = pre.length + 1 := Ya (by omega) (by omega)
    have hd := Yd Made.ty.csn pre (x :: rest)
    rw [hx, Zc] at hd
    have hd : List.drop (pre.length * 3) (rows Made.ty.cs j.deps) = AV.sc (.string x.task) :: .ro (rows File.ty.cs x.outs) x.outs.length :: .sc (.string x.log) :: rows Made.ty.cs rest := hd
    simp [k1, k2, k6, g2, hlt, hd, Job.cse]
    by_cases hs : x.task.toList = t.toList
    · have hG : depA j.deps t = (.agg (Made.ty.cs x), true) := by unfold depA; rw [← hx, zal hpre (by simp [sameM, hs])]
      rw [hG]
      simp [hs, k2, k4, k6, g2, g4, hlt, hd, za, over, Job.cse, Made.cse]
    · simp [hs, k6, hwr]
      refine ⟨pre ++ [x], rest, by simp, _, Le.refl _, ?_⟩
      simp [hx, za, k1, k2, k4, g2, g4, Job.cse]
      intro y hy
      rcases hy with hy | rfl
      · exact hpre y hy
      · simp [sameM, hs]
def A201 : AC := (.seq (.ops [wO 2 (.box (.t 0)), qO 4 (.mov (.c (.sc (.string ⟨#[]⟩)))), qO 5 (.mov (.c (.sc (.bool false))))])
  (.seq (.seq (.ops [qO 15 (.mov (.t 1)), qO 16 (.iadr 1 (.t 15) (iC 0)), qO 17 (.load false 1 (.t 16))])
  (.block 0 (.seq (.ops [qO 19 (.bin .eql (.t 17) (.c (.sc (.string ⟨#[99, 97, 116]⟩)))), qO 18 (.mov (.t 19))])
  (.cond (.t 18) (.seq (.ops [qO 6 (.mov (.c (.sc (.string ⟨#[]⟩))))])
  (.seq (.seq (.ops [qO 7 (.mov (iC 1))])
  (.block 1 (.loop (.seq (.seq (.ops [qO 20 (.mov (.t 7)), qO 21 (.mov (.t 1)), qO 22 (.llen (.t 21)), qO 23 (.bin .lss (.t 20) (.t 22))])
  (.cond (.t 23) .skip
  (.exit 1)))
  (.seq (.block 2 (.seq (.any [(qO 27 (.fadr 2 (.t 2)), []), (qO 28 (.load false 1 (.t 27)), [0]), (qO 29 (.mov (.t 1)), []), (qO 30 (.mov (.t 7)), []), (qO 31 (.iadr 1 (.t 29) (.t 30)), [2, 3]), (qO 32 (.load false 1 (.t 31)), [4]), (cO 33 245 [.t 28, .t 32], [1, 5]), (qO 26 (.mov (.t 33)), [6]), (qO 34 (.ext (.t 26) 0), [7]), (qO 35 (.ext (.t 26) 1), [7]), (qO 8 (.mov (.t 34)), [8, 6, 0, 1, 2, 3, 4, 5, 6, 7, 8]), (qO 9 (.mov (.t 35)), [9, 10, 0, 1, 2, 3, 4, 5, 6, 7, 8, 9, 10])])
  (.seq (.seq (.ops [qO 36 (.mov (.t 9)), qO 37 (.not (.t 36))])
  (.cond (.t 37) (.seq (.ops [qO 4 (.mov (.c (.sc (.string ⟨#[]⟩)))), qO 5 (.mov (.c (.sc (.bool false))))])
  .ret)
  .skip))
  (.ops [qO 38 (.mov (.t 6)), qO 39 (.mov (.t 8)), qO 40 (.bin .add (.t 38) (.t 39)), qO 6 (.mov (.t 40))]))))
  (.ops [qO 24 (.mov (.t 7)), qO 25 (.bin .add (.t 24) (iC 1)), qO 7 (.mov (.t 25))]))))))
  (.seq (.ops [qO 41 (.mov (.t 6)), qO 4 (.mov (.t 41)), qO 5 (.mov (.c (.sc (.bool true))))])
  .ret)))
  (.seq (.ops [qO 43 (.bin .eql (.t 17) (.c (.sc (.string ⟨#[101, 110, 118]⟩)))), qO 42 (.mov (.t 43))])
  (.cond (.t 42) (.seq (.seq (.ops [qO 10 (.mov (iC 0))])
  (.block 3 (.loop (.seq (.seq (.ops [qO 44 (.mov (.t 10)), qO 45 (.fadr 3 (.t 2)), qO 46 (.load false 1 (.t 45)), qO 47 (.llen (.t 46)), qO 48 (.bin .lss (.t 44) (.t 47))])
  (.cond (.t 48) .skip
  (.exit 3)))
  (.seq (.block 4 (.seq (.any [(qO 51 (.fadr 3 (.t 2)), []), (qO 52 (.load false 1 (.t 51)), [0]), (qO 53 (.mov (.t 10)), []), (qO 54 (.iadr 2 (.t 52) (.t 53)), [1, 2]), (qO 55 (.fadr 0 (.t 54)), [3]), (qO 56 (.load false 1 (.t 55)), [4]), (qO 57 (.mov (.t 1)), []), (qO 58 (.iadr 1 (.t 57) (iC 1)), [6]), (qO 59 (.load false 1 (.t 58)), [7]), (qO 60 (.bin .eql (.t 56) (.t 59)), [5, 8])])
  (.cond (.t 60) (.seq (.ops [qO 61 (.fadr 3 (.t 2)), qO 62 (.load false 1 (.t 61)), qO 63 (.mov (.t 10)), qO 64 (.iadr 2 (.t 62) (.t 63)), qO 65 (.fadr 1 (.t 64)), qO 66 (.load false 1 (.t 65)), qO 4 (.mov (.t 66)), qO 5 (.mov (.c (.sc (.bool true))))])
  .ret)
  .skip)))
  (.ops [qO 49 (.mov (.t 10)), qO 50 (.bin .add (.t 49) (iC 1)), qO 10 (.mov (.t 50))]))))))
  (.seq (.ops [qO 4 (.mov (.c (.sc (.string ⟨#[]⟩)))), qO 5 (.mov (.c (.sc (.bool false))))])
  .ret))
  (.seq (.ops [qO 68 (.bin .eql (.t 17) (.c (.sc (.string ⟨#[117, 115, 101]⟩)))), qO 67 (.mov (.t 68))])
  (.cond (.t 67) (.seq (.any [(qO 70 (.load true 5 (.t 2)), []), (qO 71 (.mov (.t 1)), []), (qO 72 (.iadr 1 (.t 71) (iC 1)), [1]), (qO 73 (.load false 1 (.t 72)), [2]), (cO 74 246 [.t 70, .t 73], [0, 3]), (qO 69 (.mov (.t 74)), [4]), (qO 75 (.ext (.t 69) 0), [5]), (qO 76 (.ext (.t 69) 1), [5]), (wO 11 (.alloc [(.sc (.string ⟨#[]⟩)), .em, (.sc (.string ⟨#[]⟩))]), []), (nO (.store 3 (.t 11) (.t 75)), [8, 6, 4, 0, 1, 2, 3, 4, 5, 6, 8]), (qO 12 (.mov (.t 76)), [7, 9, 0, 1, 2, 3, 4, 5, 6, 7, 8, 9])])
  (.seq (.any [(qO 78 (.fadr 1 (.t 11)), []), (qO 79 (.load false 1 (.t 78)), [0]), (qO 80 (.mov (.t 1)), []), (qO 81 (.iadr 1 (.t 80) (iC 2)), [2]), (qO 82 (.load false 1 (.t 81)), [3]), (cO 83 245 [.t 79, .t 82], [1, 4]), (qO 77 (.mov (.t 83)), [5]), (qO 84 (.ext (.t 77) 0), [6]), (qO 85 (.ext (.t 77) 1), [6]), (qO 13 (.mov (.t 84)), [7, 5, 0, 1, 2, 3, 4, 5, 6, 7]), (qO 14 (.mov (.t 85)), [8, 9, 0, 1, 2, 3, 4, 5, 6, 7, 8, 9])])
  (.seq (.ops [qO 86 (.mov (.t 13)), qO 87 (.mov (.t 12)), qO 88 (.mov (.t 87)), qG 89 88 true (.mov (.t 14)), qO 90 (.pick (.t 88) (.t 89) (.c (.sc (.bool false)))), qO 4 (.mov (.t 86)), qO 5 (.mov (.t 90))])
  .ret)))
  .skip))))))))
  (.seq (.ops [qO 91 (.mov (.t 1)), qO 92 (.subl 1 (.t 91) (some (iC 1)) none), cO 93 200 [.t 92, (.c (.sc (.string ⟨#[32]⟩)))], qO 4 (.mov (.t 93)), qO 5 (.mov (.c (.sc (.bool true))))])
  .ret)))
theorem K201 : Kf Tryz.prog Tryz.f201 A201 94 [.mov (.t 4), .mov (.t 5)] := ⟨by kernel_rfl, by kernel_rfl, by kernel_rfl⟩
set_option maxHeartbeats 4000000 in
set_option maxRecDepth 20000 in
theorem R201 (j : Job) (hj : JL j) (w : ByteArray) (ws : List ByteArray) (hl : ws.length ≤ 1048577) (hz : ∀ x ∈ ws, x.size ≤ 1048576) (he : isW w [101, 110, 118] = true → 1 ≤ ws.length) (hu : isW w [117, 115, 101] = true → 2 ≤ ws.length)
    (hk : isW w [112, 117, 116] = true ∨ isW w [99, 97, 116] = true ∨ isW w [101, 110, 118] = true ∨ isW w [117, 115, 101] = true) :
    Ret Tryz.prog 201 [.agg (Job.ty.cs j), .ro (rows Ty.str.cs (w :: ws)) (ws.length + 1)] (.tup [.sc (.string (textI j w ws).1), .sc (.bool (textI j w ws).2)]) [.un, .un] := by
  have hrc : rows Ty.str.cs (w :: ws) = .sc (.string w) :: rows Ty.str.cs ws := rfl
  have hln := YU ws
  have hp0 : (0 : Int) < (ws.length : Int) + 1 := by omega
  have htk : List.take ws.length (rows Ty.str.cs ws) = rows Ty.str.cs ws := List.take_of_length_le (Nat.le_of_eq hln)
  refine Ret.run Tryz.func201 K201 (by simp) rfl rfl 900 ?_
  by_cases k1 : w.toList = [99, 97, 116]
  · have hT : textI j w ws = catF j.ins ⟨#[]⟩ ws := by simp [textI, isW, k1]
    rw [hT]
    simp [A201, iniρ, hrc, hp0, k1, Job.cse]
    refine T.rounds (μ := fun i : List ByteArray × List ByteArray × ByteArray => i.2.1.length)
      (fun i s => i.1 ++ i.2.1 = ws ∧ catF j.ins i.2.2 i.2.1 = catF j.ins ⟨#[]⟩ ws ∧ i.2.2.size ≤ i.1.length * 1048576 ∧ s.ρ 1 = .ro (rows Ty.str.cs (w :: ws)) (ws.length + 1) ∧ s.ρ 2 = .ref 2 0 ∧ s.ρ 6 = .sc (.string i.2.2) ∧ s.ρ 7 = .sc (.int .i64 (i.1.length + 1 : Nat)) ∧ s.h 2 = some (some (Job.ty.cs j)) ∧ s.n = 94) ([], ws, ⟨#[]⟩) (by simp [za, Job.cse, hrc]; rfl) ?_
    rintro ⟨pre, rest, acc⟩ ⟨ρ, hh, n⟩ ⟨hx, hE, hz, q1, q2, q6, q7, g2, rfl⟩
    simp only at hx hE hz q1 q2 q6 q7 g2
    refine Zf (n := 400) ?_
    cases rest with
    | nil =>
      have hxl : pre.length = ws.length := by rw [← hx]; simp
      have hE : (acc, true) = catF j.ins ⟨#[]⟩ ws := hE
      rw [← hE]
      simp [q1, q7, hxl]
      refine T.on 400 ?_
      simp [q6]
    | cons x rest =>
      have hle : pre.length + (rest.length + 1) = ws.length := by rw [← hx]; simp
      have hlt : (pre.length : Int) < ws.length := by omega
      have hlt1 : (pre.length : Int) + 1 < (ws.length : Int) + 1 := by omega
      have hlt2 : pre.length < ws.length := by omega
      have hwr : IntKind.i64.wrap ((pre.length : Int) + 1 + 1) = pre.length + 1 + 1 := Ya (by omega) (by omega)
      have hat : atB ws pre.length = x := by unfold atB; rw [← hx, List.getElem?_append_right (Nat.le_refl _)]; simp
      have hd := zD ws pre.length hlt2
      rw [hat] at hd
      have hts := zcq hj.t x
      have hpm : pre.length * 1048576 ≤ 1048577 * 1048576 := Nat.mul_le_mul_right _ (by omega)
      have hadd : acc.size + (getF j.ins x).1.size ≤ 9223372036854775807 := by omega
      rw [catF] at hE
      simp [q1, q2, q7, g2, hlt, hlt1, hlt2, Job.cse]
      refine T.textW 400 [([], []), ([], []), ([], []), ([], []), ([], []), ([], []), ([], []), ([], []), ([], []), ([], []), ([], []), ([], [])] mixed (by kernel_rfl) (by kernel_rfl) ?_
      have h01 : (0 : Int) ≤ (pre.length : Int) + 1 := by omega
      simp [q1, q2, q7, g2, hrc, hlt, hlt1, hlt2, hd, h01, Job.cse]
      refine Yf.ro 0 rfl (by kernel_rfl) (by simp [zd, ya, za]) (R245 j.ins x hj.i) rfl rfl (by rfl) ?_
      by_cases hg : (getF j.ins x).2 = true
      · rw [if_pos hg] at hE
        simp [hg, q6, hadd, q7, hwr]
        refine ⟨pre ++ [x], rest, by simp, acc ++ (getF j.ins x).1, _, Le.refl _, by simpa using hx, hE, ?_, ?_⟩
        · rw [ByteArray.size_append, List.length_append, Nat.add_mul]
          simp only [List.length_cons, List.length_nil]
          omega
        · simp [za, q1, q2, g2, Job.cse, hrc]
      · have hg : (getF j.ins x).2 = false := by simpa using hg
        rw [hg] at hE
        have hE : (⟨#[]⟩, false) = catF j.ins ⟨#[]⟩ ws := hE
        rw [← hE]
        simp [hg]
  by_cases k2 : w.toList = [101, 110, 118]
  · have hT : textI j w ws = getE j.envs (atB ws 0) := by simp [textI, isW, k2]
    have h1 : 0 < ws.length := he (by simp [isW, k2])
    have h12 : (1 : Int) < (ws.length : Int) + 1 := by omega
    have hd := zD ws 0 h1
    rw [List.drop_zero] at hd
    have hb := hj.e
    rw [hT]
    simp [A201, iniρ, hrc, hp0, k1, k2, Job.cse]
    refine T.rounds (μ := fun i : List Env × List Env => i.2.length)
      (fun i s => i.1 ++ i.2 = j.envs ∧ (∀ y ∈ i.1, sameE (atB ws 0) y = false) ∧ s.ρ 1 = .ro (rows Ty.str.cs (w :: ws)) (ws.length + 1) ∧ s.ρ 2 = .ref 2 0 ∧ s.ρ 10 = .sc (.int .i64 i.1.length) ∧ s.h 2 = some (some (Job.ty.cs j)) ∧ s.n = 94) ([], j.envs) (by simp [za, Job.cse, hrc]) ?_
    rintro ⟨pre, rest⟩ ⟨ρ, hh, n⟩ ⟨hx, hpre, q1, q2, q10, g2, rfl⟩
    simp only at hx hpre q1 q2 q10 g2
    refine Zf (n := 400) ?_
    cases rest with
    | nil =>
      have hxl : pre.length = j.envs.length := by rw [← hx]; simp
      rw [List.append_nil] at hx
      have hG : getE j.envs (atB ws 0) = (⟨#[]⟩, false) := by unfold getE; rw [zP (by rw [← hx]; exact hpre)]
      rw [hG]
      simp [q2, q10, g2, hxl, Job.cse]
      refine T.on 400 ?_
      simp
    | cons x rest =>
      have hlt : (pre.length : Int) < j.envs.length := by rw [← hx]; simp only [List.length_append, List.length_cons]; omega
      have hle : pre.length + (rest.length + 1) = j.envs.length := by rw [← hx]; simp
      have hwr : IntKind.i64.wrap ((pre.length : Int) + 1) = pre.length + 1 := Ya (by omega) (by omega)
      have hde := Yd Env.ty.csn pre (x :: rest)
      rw [hx, Zc] at hde
      have hde : List.drop (pre.length * 2) (rows Env.ty.cs j.envs) = AV.sc (.string x.name) :: AV.sc (.string x.val) :: rows Env.ty.cs rest := hde
      have hde1 : List.drop (pre.length * 2 + 1) (rows Env.ty.cs j.envs) = AV.sc (.string x.val) :: rows Env.ty.cs rest := by rw [← List.drop_drop, hde]; rfl
      simp [q2, q10, g2, hlt, Job.cse]
      refine T.text 400 mixed (by kernel_rfl) (by kernel_rfl) ?_
      by_cases hs : x.name.toList = (atB ws 0).toList
      · have hG : getE j.envs (atB ws 0) = (x.val, true) := by unfold getE; rw [← hx, zal hpre (by simp [sameE, hs])]
        rw [hG]
        simp [q1, q2, q10, g2, hlt, hrc, hd, hde, hde1, h1, h12, hs, Job.cse]
      · simp [q1, q2, q10, g2, hlt, hrc, hd, hde, h1, h12, hs, hwr, Job.cse]
        refine ⟨pre ++ [x], rest, by simp, _, Le.refl _, ?_⟩
        simp [hx, za, q1, q2, g2, Job.cse, hrc, hd]
        intro y hy
        rcases hy with hy | rfl
        · exact hpre y hy
        · simp [sameE, hs]
  by_cases k3 : w.toList = [117, 115, 101]
  · have hT : textI j w ws = getM j.deps (atB ws 0) (atB ws 1) := by simp [textI, isW, k3]
    have h2 : 2 ≤ ws.length := hu (by simp [isW, k3])
    have h1 : 0 < ws.length := by omega
    have h11 : 1 < ws.length := by omega
    have i1 : (1 : Int) < (ws.length : Int) + 1 := by omega
    have i2 : (2 : Int) < (ws.length : Int) + 1 := by omega
    have hd := zD ws 0 h1
    rw [List.drop_zero] at hd
    have hd1 := zD ws 1 h11
    rw [hd, List.drop_succ_cons, List.drop_zero] at hd1
    have hd1 : rows Ty.str.cs ws.tail = .sc (.string (atB ws 1)) :: rows Ty.str.cs (List.drop 2 ws) := by rw [← List.drop_one]; exact hd1
    have rD := R246 j hj (atB ws 0)
    rw [hT]
    simp [A201, iniρ, hrc, hp0, k1, k2, k3, Job.cse]
    cases hfd : j.deps.find? (sameM (atB ws 0)) with
    | none =>
      have hDA : depA j.deps (atB ws 0) = (zeroA, false) := by unfold depA; rw [hfd]
      have hG : getM j.deps (atB ws 0) (atB ws 1) = (⟨#[]⟩, false) := by unfold getM; rw [hfd]
      rw [hDA] at rD
      rw [hG]
      have rG : Ret Tryz.prog 245 [.em, .sc (.string (atB ws 1))] (.tup [.sc (.string ⟨#[]⟩), .sc (.bool false)]) [.un, .un] := (R245 [] (atB ws 1) (by decide)).sub ⟨.inr ⟨rfl, rfl⟩, .inl rfl, trivial⟩
      refine T.textW 400 [([], [11]), ([], [11]), ([], [11]), ([], [11]), ([], [11]), ([], [11]), ([], [11]), ([], [11]), ([11], []), ([11], []), ([], [])] mixed (by kernel_rfl) (by kernel_rfl) ?_
      simp [hd, hd1, h1, h11, i1, i2, over, Job.cse]
      refine Yf.cut [.ro, .ro] 50 (r := [(none, none), (none, none)]) rfl (by kernel_rfl) rfl (by rfl) (by rfl) (by simp [Zs, shut, za]) (by simp [zg, yd, zd, ya, za, Job.cse]; rfl) (by rfl) rD (by rfl) (by rfl) (by rfl) (by rfl) ?_
      simp [over, zeroA, Zb, yb]
      refine T.textW 400 [([], []), ([], []), ([], []), ([], []), ([], []), ([], []), ([], []), ([], []), ([], []), ([], []), ([], [])] mixed (by kernel_rfl) (by kernel_rfl) ?_
      simp [hd, hd1, h1, h11, i1, i2, over, Job.cse]
      refine Yf.ro 0 rfl (by kernel_rfl) (by simp [roc, shut, za]) rG rfl rfl (by rfl) ?_
      simp
    | some m =>
      have hDA : depA j.deps (atB ws 0) = (.agg (Made.ty.cs m), true) := by unfold depA; rw [hfd]
      have hG : getM j.deps (atB ws 0) (atB ws 1) = getF m.outs (atB ws 1) := by unfold getM; rw [hfd]
      rw [hDA] at rD
      rw [hG]
      have rG := R245 m.outs (atB ws 1) (hj.o m (List.mem_of_find?_eq_some hfd))
      refine T.textW 400 [([], [11]), ([], [11]), ([], [11]), ([], [11]), ([], [11]), ([], [11]), ([], [11]), ([], [11]), ([11], []), ([11], []), ([], [])] mixed (by kernel_rfl) (by kernel_rfl) ?_
      simp [hd, hd1, h1, h11, i1, i2, over, Job.cse]
      refine Yf.cut [.ro, .ro] 50 (r := [(none, none), (none, none)]) rfl (by kernel_rfl) rfl (by rfl) (by rfl) (by simp [Zs, shut, za]) (by simp [zg, yd, zd, ya, za, Job.cse]; rfl) (by rfl) rD (by rfl) (by rfl) (by rfl) (by rfl) ?_
      simp [over, Made.cse, Zb, yb]
      refine T.textW 400 [([], []), ([], []), ([], []), ([], []), ([], []), ([], []), ([], []), ([], []), ([], []), ([], []), ([], [])] mixed (by kernel_rfl) (by kernel_rfl) ?_
      simp [hd, hd1, h1, h11, i1, i2, over, Job.cse]
      refine Yf.ro 0 rfl (by kernel_rfl) (by simp [zd, ya, za]) rG rfl rfl (by rfl) ?_
      simp
  have k4 : w.toList = [112, 117, 116] := by simpa [isW, k1, k2, k3] using hk
  have hT : textI j w ws = (joinB ws sp, true) := by simp [textI, isW, k4]
  have rJ : Ret Tryz.prog 200 [.ro (rows Ty.str.cs ws) ws.length, .sc (.string ⟨#[32]⟩)] (.sc (.string (joinB ws sp))) [.un, .un] := R200 ws sp hl hz (by decide)
  rw [hT]
  simp [A201, iniρ, hrc, hp0, k1, k2, k3, htk, Job.cse]
  refine callK.ro 0 rfl (by kernel_rfl) (by simp [zd, ya]) rJ rfl rfl rfl ?_
  simp
structure Cur where
  b : List Int
  i : Nat
  h : Int
def Cur.ok (c : Cur) : Prop := Ty.byte.slice.ok c.b ∧ c.i ≤ c.b.length
def Cur.cs (c : Cur) : List AV := [.ro (rows B c.b) c.b.length, .sc (.int .i64 c.i), .sc (.int .i64 c.h)]
def stepH (h : Int) : Int := IntKind.i64.wrap (IntKind.i64.wrap (h * 6364136223846793005) + 1442695040888963407)
def low8 (a : Int) : Int := IntKind.i64.wrap (((a % 2 ^ IntKind.i64.bits).toNat &&& 255 % 2 ^ IntKind.i64.bits : Nat) : Int)
def mixI (h : Int) : Int := IntKind.i64.wrap (((h.fdiv (2 ^ min 33 IntKind.i64.bits) % 2 ^ IntKind.i64.bits).toNat ^^^ (h.fdiv (2 ^ min 47 IntKind.i64.bits) % 2 ^ IntKind.i64.bits).toNat : Nat) : Int)
def byteV (c : Cur) : Int := if c.i < c.b.length then low8 (IntKind.i64.wrap (low8 (mixI (stepH c.h)) + IntKind.i64.wrap (c.b[c.i]?.getD 0))) else low8 (mixI (stepH c.h))
def byteC (c : Cur) : Cur := ⟨c.b, if c.i < c.b.length then c.i + 1 else c.i, stepH c.h⟩
def zbv (c : Cur) (n : Int) : Int := if n ≤ 0 then 0 else if n ≤ 256 then (byteV c).tmod n else (byteV c * 65536 + byteV (byteC c) * 256 + byteV (byteC (byteC c))).tmod n
def YY (c : Cur) (n : Int) : Cur := if n ≤ 0 then c else if n ≤ 256 then byteC c else byteC (byteC (byteC c))
def pickS (l : List ByteArray) (c : Cur) (n : Int) : ByteArray := l[(zbv c n).toNat]?.getD default
def digC (n : Int) : ByteArray := strOfNums [IntKind.u8.wrap (48 + n)]
theorem yY (n : Int) : (digC n).size = 1 := rfl
def numF : Nat → Nat → ByteArray → ByteArray
  | 0, _, a => a
  | k + 1, n, a => if 9 < n then numF k (n / 10) (digC ((n : Int) / 10 % 10) ++ a) else a
def numT (n : Nat) : ByteArray := numF n n (digC ((n : Int) % 10))
def A134 : AC := (.seq (.ops [qO 2 (.mov (.c (.sc (.string ⟨#[]⟩))))])
  (.seq (.seq (.ops [qO 4 (.mov (.t 0)), qO 5 (.bin .lss (.t 4) (iC 0))])
  (.cond (.t 5) (.ops [qO 0 (.mov (iC 0))])
  .skip))
  (.seq (.ops [qO 6 (.mov (.t 0)), qO 7 (.bin .rem (.t 6) (iC 10)), qO 8 (.bin .add (iC 48) (.t 7)), qO 9 (.cvi .u8 (.t 8)), wO 10 (.bsl 1 1 [(.sc (.int .u8 0))] [(0, 1, (.t 9))]), qO 11 (.bstr (.t 10)), qO 3 (.mov (.t 11))])
  (.seq (.block 0 (.loop (.seq (.seq (.ops [qO 12 (.mov (.t 0)), qO 13 (.bin .gtr (.t 12) (iC 9))])
  (.cond (.t 13) .skip
  (.exit 0)))
  (.block 1 (.seq (.ops [qO 14 (.mov (.t 0)), qO 15 (.bin .quo (.t 14) (iC 10)), qO 0 (.mov (.t 15))])
  (.ops [qO 16 (.mov (.t 0)), qO 17 (.bin .rem (.t 16) (iC 10)), qO 18 (.bin .add (iC 48) (.t 17)), qO 19 (.cvi .u8 (.t 18)), wO 20 (.bsl 1 1 [(.sc (.int .u8 0))] [(0, 1, (.t 19))]), qO 21 (.bstr (.t 20)), qO 22 (.mov (.t 3)), qO 23 (.bin .add (.t 21) (.t 22)), qO 3 (.mov (.t 23))]))))))
  (.seq (.ops [qO 24 (.mov (.t 3)), qO 2 (.mov (.t 24))])
  .ret)))))
theorem K134 : Kf Tryz.prog Tryz.f134 A134 25 [.mov (.t 2)] := ⟨by kernel_rfl, by kernel_rfl, by kernel_rfl⟩
theorem R134 (n : Nat) (hn : n < 4611686018427387904) : Ret Tryz.prog 134 [.sc (.int .i64 n)] (.sc (.string (numT n))) [.un] := by
  have hrem : (n : Int).tmod 10 = (n : Int) % 10 := rfl
  have hw0 : IntKind.i64.wrap (48 + (n : Int) % 10) = 48 + (n : Int) % 10 := Ya (by omega) (by omega)
  have hz0 : (digC ((n : Int) % 10)).size + n ≤ n + 1 := by rw [yY]; omega
  have h0n : ¬ ((n : Int) < 0) := by omega
  refine Ret.run Tryz.func134 K134 (by simp) rfl rfl 900 ?_
  simp only [A134, iniρ]
  simp [h0n, over, hrem, hw0, zL, num8]
  refine T.rounds (μ := fun i : Nat × Nat × ByteArray => i.1)
    (fun i s => i.2.1 ≤ i.1 ∧ i.2.2.size + i.2.1 ≤ n + 1 ∧ numF i.1 i.2.1 i.2.2 = numT n ∧ s.ρ 0 = .sc (.int .i64 i.2.1) ∧ s.ρ 3 = .sc (.string i.2.2) ∧ s.h 20 = none ∧ s.n = 25) (n, n, digC ((n : Int) % 10)) (by simp [za, numT, hz0]; rfl) ?_
  rintro ⟨k, m, a⟩ ⟨ρ, hh, n'⟩ ⟨hk, hs, hE, h0', h3', f1, rfl⟩
  simp only at hk hs hE h0' h3' f1
  refine Zf (n := 400) ?_
  by_cases h9 : 9 < m
  case neg =>
    have h9' : ¬ ((9 : Int) < m) := by omega
    have hE2 : a = numT n := by rw [← hE]; cases k <;> simp [numF, h9]
    simp [h0', h9']
    refine T.on 400 ?_
    simp [h3', hE2]
  have h9' : (9 : Int) < m := by omega
  obtain ⟨k, rfl⟩ : ∃ k', k = k' + 1 := ⟨k - 1, by omega⟩
  rw [numF, if_pos h9] at hE
  have hq1 : (m : Int).tdiv 10 = (m : Int) / 10 := rfl
  have hw1 : IntKind.i64.wrap ((m : Int) / 10) = (m : Int) / 10 := Ya (by omega) (by omega)
  have hr2 : ((m : Int) / 10).tmod 10 = (m : Int) / 10 % 10 := rfl
  have hw2 : IntKind.i64.wrap (48 + (m : Int) / 10 % 10) = 48 + (m : Int) / 10 % 10 := Ya (by omega) (by omega)
  have hsz : (strOfNums [IntKind.u8.wrap (48 + (m : Int) / 10 % 10)]).size + a.size ≤ 9223372036854775807 := by
    have := yY ((m : Int) / 10 % 10)
    rw [digC] at this
    rw [this]; omega
  simp [h0', h3', h9', f1, over, hq1, hw1, hr2, hw2, zL, num8, hsz]
  refine ⟨k, by omega, m / 10, digC ((m : Int) / 10 % 10) ++ a, _, Le.reset [0, 3] [] (by simp [za, menB, Yb]) (by simp), ?_⟩
  simp [za, hE, yY]
  exact ⟨by omega, by omega, rfl⟩
theorem zck : ∀ (k n : Nat) (a : ByteArray), (numF k n a).size ≤ a.size + n
  | 0, n, a => Nat.le_add_right _ _
  | k + 1, n, a => by
    rw [numF]
    split
    · have h := zck k (n / 10) (digC ((n : Int) / 10 % 10) ++ a)
      rw [ByteArray.size_append, yY] at h
      omega
    · exact Nat.le_add_right _ _
theorem Yi (n : Nat) : (numT n).size ≤ n + 1 := by
  have h := zck n n (digC ((n : Int) % 10))
  rw [yY] at h
  rw [numT]; omega
def A120 : AC := (.seq (.ops [wO 1 (.box (.t 0)), wO 2 (.alloc [(.sc (.string ⟨#[]⟩)), .em, (.sc (.string ⟨#[]⟩))])])
  (.seq (.any [(qO 3 (.fadr 0 (.t 1)), []), (qO 4 (.load false 1 (.t 3)), [0]), (wO 5 (.bsl 2 0 [] []), []), (qO 6 (.fadr 1 (.t 1)), []), (qO 7 (.load false 1 (.t 6)), [3]), (wO 8 (.app 2 32 false (.t 5) (.t 7)), [2, 4]), (qO 9 (.fadr 2 (.t 1)), []), (qO 10 (.load false 1 (.t 9)), [6]), (wO 11 (.build [(.sc (.string ⟨#[]⟩)), .em, (.sc (.string ⟨#[]⟩))] [(0, 1, (.t 4)), (1, 1, (.t 8)), (2, 1, (.t 10))]), [1, 5, 7]), (nO (.store 3 (.t 2) (.t 11)), [8, 5, 0, 1, 2, 3, 4, 5, 6, 7, 8])])
  .ret))
theorem K120 : Kf Tryz.prog Tryz.f120 A120 12 [.load true 3 (.t 2)] := ⟨by kernel_rfl, by kernel_rfl, by kernel_rfl⟩
theorem R120 (m : Made) (hm : Made.ty.ok m) : Ret Tryz.prog 120 [.agg (Made.ty.cs m)] (.agg (Made.ty.oc m)) [.un] := by
  have hb : m.outs.length * 32 ≤ 140737488351232 := hm.2.1.1
  have hcap : m.outs.length * 32 ≤ 140737488355328 := by omega
  have hsc := zfG m.outs
  have hfe : rows File.ty.cs m.outs = rows File.ty.oc m.outs := rfl
  refine Ret.run Tryz.func120 K120 (by simp) rfl rfl 900 ?_
  simp [A120, iniρ, Made.cse, over]
  refine T.textW 400 [([], [5, 8]), ([], [5, 8]), ([5], []), ([], [5]), ([], [5]), ([5, 8], []), ([], [5, 8]), ([], [5, 8]), ([], []), ([2], [])] mixed (by kernel_rfl) (by kernel_rfl) ?_
  simp [over, hcap, hsc, hfe, File.ocl, Zb, yb, ex1, File.frL, Made.oce]
def doneL : List ByteArray := [⟨#[]⟩, ⟨#[100, 111, 110, 101, 10]⟩, ⟨#[120, 32, 121, 10]⟩]
def opqL : List ByteArray := [⟨#[111]⟩, ⟨#[112]⟩, ⟨#[113]⟩]
def hiTL : List ByteArray := [⟨#[]⟩, ⟨#[104, 105]⟩, ⟨#[104, 101, 108, 108, 111]⟩]
def zgr (c : Cur) : File := ⟨pickS opqL c 3, pickS hiTL (YY c 3) 3⟩
def puts : Nat → Cur → List File → List File × Cur
  | 0, c, l => (l, c)
  | n + 1, c, l => puts n (YY (YY c 3) 3) (yh l (zgr c)).1
def madeP (c : Cur) : List File × Cur := puts (zbv (YY c 3) 3).toNat (YY (YY c 3) 3) []
def madeV (c : Cur) (t : ByteArray) : Made := ⟨t, (madeP c).1, pickS doneL c 3⟩
def madeC (c : Cur) : Cur := (madeP c).2
def abxL : List ByteArray := [⟨#[97, 35, 98, 117, 105, 108, 100]⟩, ⟨#[98, 35, 116, 101, 115, 116]⟩, ⟨#[120]⟩, ⟨#[]⟩]
def abzL : List ByteArray := [⟨#[97, 47, 98]⟩, ⟨#[]⟩, ⟨#[97]⟩, ⟨#[122, 122]⟩]
def zF (i : Nat) : File := ⟨⟨#[122]⟩ ++ numT i, ⟨#[]⟩⟩
def zFs : Nat → List File
  | 0 => []
  | n + 1 => zFs n ++ [zF n]
def anyP (c : Cur) : Made × Cur :=
  let t := pickS abxL c 4
  let m := madeV (YY c 4) t
  let c2 := madeC (YY c 4)
  let c3 := YY c2 8
  if zbv c2 8 = 0 then (⟨m.task, m.outs ++ [⟨pickS abzL c3 4, ⟨#[]⟩⟩], m.log⟩, YY c3 4)
  else if zbv c2 8 = 1 then (⟨m.task, m.outs, strOfNums (List.replicate (200 + zbv c3 2).toNat 0)⟩, YY c3 2)
  else if zbv c2 8 = 2 then (⟨m.task, m.outs ++ zFs 6, m.log⟩, c3)
  else (m, c3)
def A136 : AC := (.seq (.ops [wO 3 (.box (.t 0)), wO 4 (.box (.t 1)), wO 6 (.alloc [(.sc (.string ⟨#[]⟩)), .em, (.sc (.string ⟨#[]⟩))]), qO 7 (.mov (.c (.sc (.bool false))))])
  (.seq (.ops [qO 16 (.load true 3 (.t 4)), cO 17 120 [.t 16], wO 8 (.alloc [(.sc (.string ⟨#[]⟩)), .em, (.sc (.string ⟨#[]⟩))]), nO (.store 3 (.t 8) (.t 17))])
  (.seq (.ops [qO 19 (.mov (.t 2)), cO 20 198 [.t 19], qO 18 (.mov (.t 20)), qO 21 (.ext (.t 18) 0), qO 22 (.ext (.t 18) 1), qO 9 (.mov (.t 21)), qO 10 (.mov (.t 22))])
  (.seq (.seq (.ops [qO 23 (.mov (.t 2)), cO 24 199 [.t 23], qO 25 (.not (.t 24)), qO 26 (.mov (.t 25)), qG 27 26 false (.mov (.t 9)), qG 28 26 false (.iadr 1 (.t 27) (iC 0)), qG 29 26 false (.load false 1 (.t 28)), qG 30 26 false (.bin .eql (.t 29) (.c (.sc (.string ⟨#[102, 97, 105, 108]⟩)))), qO 31 (.pick (.t 26) (.c (.sc (.bool true))) (.t 30))])
  (.cond (.t 31) (.seq (.ops [qO 32 (.load true 3 (.t 8)), nO (.store 3 (.t 6) (.t 32)), qO 7 (.mov (.c (.sc (.bool false))))])
  .ret)
  .skip))
  (.seq (.seq (.ops [qO 33 (.mov (.t 9)), qO 34 (.iadr 1 (.t 33) (iC 0)), qO 35 (.load false 1 (.t 34)), qO 36 (.bin .eql (.t 35) (.c (.sc (.string ⟨#[108, 111, 103]⟩))))])
  (.cond (.t 36) (.seq (.any [(qO 37 (.fadr 2 (.t 4)), []), (qO 38 (.load false 1 (.t 37)), [0]), (qO 39 (.mov (.t 9)), []), (qO 40 (.subl 1 (.t 39) (some (iC 1)) none), [2]), (cO 41 200 [.t 40, (.c (.sc (.string ⟨#[32]⟩)))], [3]), (qO 42 (.bin .add (.t 38) (.t 41)), [1, 4]), (qO 43 (.bin .add (.t 42) (.c (.sc (.string ⟨#[10]⟩)))), [5]), (qO 11 (.mov (.t 43)), [6, 4, 0, 1, 2, 3, 4, 5, 6])])
  (.seq (.seq (.ops [qO 44 (.mov (.t 11)), qO 45 (.slen (.t 44)), qO 46 (.bin .gtr (.t 45) (iC 200))])
  (.cond (.t 46) (.seq (.ops [qO 47 (.load true 3 (.t 8)), nO (.store 3 (.t 6) (.t 47)), qO 7 (.mov (.c (.sc (.bool false))))])
  .ret)
  .skip))
  (.seq (.ops [qO 48 (.mov (.t 11)), qO 49 (.fadr 2 (.t 8)), nO (.store 1 (.t 49) (.t 48))])
  (.seq (.ops [qO 50 (.load true 3 (.t 8)), nO (.store 3 (.t 6) (.t 50)), qO 7 (.mov (.c (.sc (.bool true))))])
  .ret))))
  .skip))
  (.seq (.ops [qO 52 (.load true 5 (.t 3)), qO 53 (.mov (.t 9)), cO 54 201 [.t 52, .t 53], qO 51 (.mov (.t 54)), qO 55 (.ext (.t 51) 0), qO 56 (.ext (.t 51) 1), qO 12 (.mov (.t 55)), qO 13 (.mov (.t 56))])
  (.seq (.ops [qO 58 (.fadr 1 (.t 4)), qO 59 (.load false 1 (.t 58)), qO 60 (.mov (.t 10)), qO 61 (.mov (.t 12)), wO 62 (.build [(.sc (.string ⟨#[]⟩)), (.sc (.string ⟨#[]⟩))] [(0, 1, (.t 60)), (1, 1, (.t 61))]), cO 63 105 [.t 59, .t 62], qO 57 (.mov (.t 63)), qO 64 (.ext (.t 57) 0), qO 65 (.ext (.t 57) 1), qO 14 (.mov (.t 64)), qO 15 (.mov (.t 65))])
  (.seq (.seq (.ops [qO 66 (.mov (.t 13)), qO 67 (.not (.t 66)), qO 68 (.mov (.t 67)), qG 69 68 false (.mov (.t 15)), qG 70 68 false (.not (.t 69)), qO 71 (.pick (.t 68) (.c (.sc (.bool true))) (.t 70)), qO 72 (.mov (.t 71)), qG 73 72 false (.mov (.t 14)), qG 74 72 false (.llen (.t 73)), qG 75 72 false (.bin .gtr (.t 74) (iC 6)), qO 76 (.pick (.t 72) (.c (.sc (.bool true))) (.t 75))])
  (.cond (.t 76) (.seq (.ops [qO 77 (.load true 3 (.t 8)), nO (.store 3 (.t 6) (.t 77)), qO 7 (.mov (.c (.sc (.bool false))))])
  .ret)
  .skip))
  (.seq (.ops [qO 78 (.mov (.t 14)), qO 79 (.fadr 1 (.t 8)), nO (.store 1 (.t 79) (.t 78))])
  (.seq (.ops [qO 80 (.load true 3 (.t 8)), nO (.store 3 (.t 6) (.t 80)), qO 7 (.mov (.c (.sc (.bool true))))])
  .ret))))))))))
theorem K136 : Kf Tryz.prog Tryz.f136 A136 81 [.load true 3 (.t 6), .mov (.t 7)] := ⟨by kernel_rfl, by kernel_rfl, by kernel_rfl⟩
set_option maxHeartbeats 8000000 in
set_option maxRecDepth 20000 in
theorem R136 (j : Job) (hj : JL j) (m : Made) (hm : Sm m) (hmo : Made.ty.ok m) (s : ByteArray) (hs : s.size ≤ 1048576) : Ret Tryz.prog 136 [.agg (Job.ty.cs j), .agg (Made.ty.cs m), .sc (.string s)] (.tup [.agg (Made.ty.oc (actV j m s).1), .sc (.bool (actV j m s).2)]) [.un, .un, .un] := by
  have hmn := hm.n
  have hml := hm.l
  have rW := R198 s hs
  have rO := R199 s hs
  have hid := File.frL m.outs
  obtain ⟨l, hl⟩ : ∃ l, l = (l15W s).1 := ⟨_, rfl⟩
  obtain ⟨o, ho⟩ : ∃ l, l = (l15W s).2 := ⟨_, rfl⟩
  rw [← hl, ← ho] at rW
  have hfl : flt (.tup [.own (rows Ty.str.oc l) l.length 1, .sc (.string o)]) = true := by
    have h1 := Ty.str.flo l
    simp only [flt, flt.fltL, Bool.and_eq_true] at h1 ⊢
    exact ⟨h1, trivial, trivial⟩
  refine Ret.run Tryz.func136 K136 (by simp) rfl rfl 900 ?_
  simp [A136, iniρ, over, Job.cse, Made.cse]
  refine callK.ro 17 rfl (by kernel_rfl) (by simp [yd, zd, ya, za, Made.cse]) (R120 m hmo) (by simpa [flt] using Made.ty.flL m) (by simp [inst, instL, Made.oce, za]; exact ⟨rfl, rfl⟩) rfl ?_
  simp [over]
  refine callK.ro 20 rfl (by kernel_rfl) (by simp [ya, za]) rW hfl (by simp [inst, instL, shut, za]; exact ⟨rfl, rfl⟩) rfl ?_
  simp
  refine callK.ro 0 rfl (by kernel_rfl) (by simp [ya, za]) rO rfl rfl rfl ?_
  by_cases hok : yP s = false
  case pos =>
   as_aux_lemma =>
    have hV : actV j m s = (m, false) := by unfold actV; rw [hok]; rfl
    rw [hV]
    simp [hok, over, ex1, File.ocl, hid, Made.oce]
  have hok : yP s = true := by simpa using hok
  obtain ⟨kw1, kw2, kw3, kw4⟩ := zbq hok
  obtain ⟨z1, z2⟩ := zaL hs
  have hos := Z9 s hs
  have hV : actV j m s = doAct j m (atB l 0) (l.drop 1) o := by unfold actV; rw [hok, hl, ho]; rfl
  rw [← hl] at kw1 kw2 kw3 kw4 z1 z2
  rw [← ho] at hos
  rw [hV]
  clear hV hl ho rO rW
  cases l with
  | nil => simp at kw4
  | cons w ws =>
  have z1 : ws.length ≤ 1048577 := z1
  have z2 : ∀ x ∈ ws, x.size ≤ 1048576 := z2
  have kw1 : isW w [101, 110, 118] = true → 1 ≤ ws.length := kw1
  have kw2 : isW w [117, 115, 101] = true → 2 ≤ ws.length := kw2
  have kw3 : isW w [112, 117, 116] = true ∨ isW w [99, 97, 116] = true ∨ isW w [101, 110, 118] = true ∨ isW w [117, 115, 101] = true ∨ isW w [108, 111, 103] = true ∨ isW w [102, 97, 105, 108] = true := kw3
  have hro : rows Ty.str.oc (w :: ws) = .sc (.string w) :: rows Ty.str.oc ws := rfl
  have hln := YU ws
  have hp0 : (0 : Int) < (ws.length : Int) + 1 := by omega
  have htk : List.take ws.length (rows Ty.str.oc ws) = rows Ty.str.oc ws := List.take_of_length_le (Nat.le_of_eq hln)
  have hrj : ∀ h : Hp, h 21000 = some (some (.sc (.string w) :: rows Ty.str.oc ws)) → roc h 8 (.sl 21000 1 ws.length 1 false) = some (.ro (rows Ty.str.cs ws) ws.length) := fun h e => by
    have hsh : shut.shutL (rows Ty.str.oc ws) = true := YQ (Yj Ty.str.sh ws)
    simp [roc, shut, e, hln, htk, hsh]
    exact ⟨by omega, rfl⟩
  have hrl : ∀ h : Hp, h 21000 = some (some (.sc (.string w) :: rows Ty.str.oc ws)) → roc h 8 (.sl 21000 0 (ws.length + 1) 1 false) = some (.ro (rows Ty.str.cs (w :: ws)) (ws.length + 1)) := fun h e => zbB (xs := w :: ws) e
  have e0 : atB (w :: ws) 0 = w := rfl
  have e1 : (w :: ws).drop 1 = ws := rfl
  rw [e0, e1]
  by_cases k1 : w.toList = [102, 97, 105, 108]
  · have hD : doAct j m w ws o = (m, false) := by simp [doAct, isW, k1]
    rw [hD]
    simp [hok, over, hro, hp0, k1, ex1, File.ocl, hid, Made.oce]
  by_cases k2 : w.toList = [108, 111, 103]
  · have hjs : (joinB ws sp).size ≤ 2199025352704 := by
      have h1 := Z1 sp z2
      have h2 : ws.length * (sp.size + 1048576) ≤ 1048577 * 1048577 := Nat.mul_le_mul z1 (by decide)
      exact Nat.le_trans h1 (Nat.le_trans h2 (by decide))
    have rJ : Ret Tryz.prog 200 [.ro (rows Ty.str.cs ws) ws.length, .sc (.string ⟨#[32]⟩)] (.sc (.string (joinB ws sp))) [.un, .un] := R200 ws sp z1 z2 (by decide)
    have hz1 : m.log.size + (joinB ws sp).size ≤ 9223372036854775807 := by omega
    have hz2 : m.log.size + (joinB ws sp).size + (⟨#[10]⟩ : ByteArray).size ≤ 9223372036854775807 := by
      show m.log.size + (joinB ws sp).size + 1 ≤ _
      omega
    simp [hok, over, hro, hp0, k1, k2, Made.cse]
    refine T.textW 400 [([], []), ([], []), ([], []), ([], []), ([], []), ([], []), ([], []), ([], [])] mixed (by kernel_rfl) (by kernel_rfl) ?_
    simp [over, hro, Zb, yb]
    refine Yf.ro 0 rfl (by kernel_rfl) (by simp [hrj, ya, za, hro]) rJ rfl rfl (by rfl) ?_
    have hls : (logT m ws).size = m.log.size + (joinB ws sp).size + (⟨#[10]⟩ : ByteArray).size := by unfold logT; rw [ByteArray.size_append, ByteArray.size_append]; rfl
    by_cases h2 : 200 < (logT m ws).size
    · have hD : doAct j m w ws o = (m, false) := by simp [doAct, isW, k2, h2]
      have h2' : (200 : Int) < (m.log.size : Int) + (joinB ws sp).size + ((⟨#[10]⟩ : ByteArray).size : Int) := by rw [hls] at h2; omega
      rw [hD]
      simp [over, hz1, hz2, h2', Zb, yb, ex1, File.ocl, hid, Made.oce]
    · have hD : doAct j m w ws o = (⟨m.task, m.outs, logT m ws⟩, true) := by simp [doAct, isW, k2, h2]
      have h2' : ¬ (200 : Int) < (m.log.size : Int) + (joinB ws sp).size + ((⟨#[10]⟩ : ByteArray).size : Int) := by rw [hls] at h2; omega
      have hlt : logT m ws = m.log ++ joinB ws sp ++ (⟨#[10]⟩ : ByteArray) := rfl
      rw [hD]
      simp [over, hz1, hz2, h2', Zb, yb, ex1, File.ocl, hid, Made.oce, hlt]
  have hk4 : isW w [112, 117, 116] = true ∨ isW w [99, 97, 116] = true ∨ isW w [101, 110, 118] = true ∨ isW w [117, 115, 101] = true := by
    rcases kw3 with h | h | h | h | h | h
    · exact .inl h
    · exact .inr (.inl h)
    · exact .inr (.inr (.inl h))
    · exact .inr (.inr (.inr h))
    · exact absurd (by simpa [isW] using h) k2
    · exact absurd (by simpa [isW] using h) k1
  have rT := R201 j hj w ws z1 z2 kw1 kw2 hk4
  obtain ⟨t, ht⟩ : ∃ t, t = textI j w ws := ⟨_, rfl⟩
  rw [← ht] at rT
  have hD : doAct j m w ws o = if t.2 && ((yh m.outs ⟨o, t.1⟩).2 && decide ((yh m.outs ⟨o, t.1⟩).1.length ≤ 6)) then (⟨m.task, (yh m.outs ⟨o, t.1⟩).1, m.log⟩, true) else (m, false) := by
    unfold doAct
    rw [if_neg (by simp [isW, k1]), if_neg (by simp [isW, k2]), ← ht]
  rw [hD]
  simp [hok, over, hro, hp0, k1, k2, Made.cse, Job.cse]
  refine callK.ro 0 rfl (by kernel_rfl) (by simp [hrl, yd, zd, ya, za, hro, Job.cse]) rT rfl rfl rfl ?_
  have rP := R105 m.outs ⟨o, t.1⟩ hm.ok (fun x hx => (hm.f x hx).1) hos
  obtain ⟨p, hp⟩ : ∃ p, p = yh m.outs ⟨o, t.1⟩ := ⟨_, rfl⟩
  rw [← hp] at rP ⊢
  have hid2 := File.frL p.1
  simp [over, Made.cse]
  refine callK.ro 63 rfl (by kernel_rfl) (by simp [yd, zd, ya, za, File.cse]) rP (by simpa [flt, flt.fltL] using zbQ (Yj (q := flt) (fun x c hc => (File.ty.ow x c hc).fl) _)) (by simp [inst, instL, za]; exact ⟨rfl, rfl⟩) rfl ?_
  cases h2 : t.2 with
  | false => simp [over, h2, ex1, File.ocl, hid, Made.oce]
  | true =>
  cases h3 : p.2 with
  | false => simp [over, h2, h3, ex1, File.ocl, hid, Made.oce]
  | true =>
  by_cases h4 : p.1.length ≤ 6
  · have h4' : ¬ (6 : Int) < p.1.length := by omega
    simp [over, h2, h3, h4, h4', ex1, File.ocl, hid2, Made.oce]
  · have h4' : (6 : Int) < p.1.length := by omega
    simp [over, h2, h3, h4, h4', ex1, File.ocl, hid, Made.oce]
theorem Sm.made {m : Made} (h : Sm m) (ht : m.task.size ≤ 140737488351232) : Made.ty.ok m := ⟨ht, h.ok, show m.log.size ≤ 140737488351232 by have := h.l; omega, trivial⟩
theorem zcx {j : Job} {m : Made} {s : ByteArray} : (actV j m s).1.task = m.task := by
  unfold actV doAct
  split
  · split
    · rfl
    · split
      · split <;> rfl
      · split <;> rfl
  · rfl
def A67 : AC := (.seq (.ops [wO 1 (.box (.t 0)), wO 2 (.alloc [(.sc (.string ⟨#[]⟩)), .em, (.sc (.string ⟨#[]⟩))]), qO 3 (.mov (.c (.sc (.bool false))))])
  (.seq (.ops [qO 8 (.fadr 0 (.t 1)), qO 9 (.load false 1 (.t 8)), wO 10 (.bsl 2 0 [] []), wO 11 (.build [(.sc (.string ⟨#[]⟩)), .em, (.sc (.string ⟨#[]⟩))] [(0, 1, (.t 9)), (1, 1, (.t 10))]), wO 4 (.alloc [(.sc (.string ⟨#[]⟩)), .em, (.sc (.string ⟨#[]⟩))]), nO (.store 3 (.t 4) (.t 11))])
  (.seq (.seq (.ops [qO 5 (.mov (iC 0))])
  (.block 0 (.loop (.seq (.seq (.ops [qO 12 (.mov (.t 5)), qO 13 (.fadr 1 (.t 1)), qO 14 (.load false 1 (.t 13)), qO 15 (.llen (.t 14)), qO 16 (.bin .lss (.t 12) (.t 15))])
  (.cond (.t 16) .skip
  (.exit 0)))
  (.seq (.block 1 (.seq (.any [(qO 20 (.load true 5 (.t 1)), []), (qO 21 (.load true 3 (.t 4)), []), (qO 22 (.fadr 1 (.t 1)), []), (qO 23 (.load false 1 (.t 22)), [2]), (qO 24 (.mov (.t 5)), []), (qO 25 (.iadr 1 (.t 23) (.t 24)), [3, 4]), (qO 26 (.load false 1 (.t 25)), [5]), (cO 27 136 [.t 20, .t 21, .t 26], [0, 1, 6]), (qO 19 (.mov (.t 27)), [7]), (qO 28 (.ext (.t 19) 0), [8]), (qO 29 (.ext (.t 19) 1), [8]), (wO 6 (.alloc [(.sc (.string ⟨#[]⟩)), .em, (.sc (.string ⟨#[]⟩))]), []), (nO (.store 3 (.t 6) (.t 28)), [11, 9, 7, 0, 1, 2, 3, 4, 5, 6, 7, 8, 9, 11]), (qO 7 (.mov (.t 29)), [10, 12, 0, 1, 2, 3, 4, 5, 6, 7, 8, 9, 10, 11, 12])])
  (.seq (.ops [qO 30 (.load true 3 (.t 6)), nO (.store 3 (.t 4) (.t 30))])
  (.seq (.ops [qO 31 (.mov (.t 7)), qO 32 (.not (.t 31))])
  (.cond (.t 32) (.seq (.ops [qO 33 (.load true 3 (.t 4)), nO (.store 3 (.t 2) (.t 33)), qO 3 (.mov (.c (.sc (.bool false))))])
  .ret)
  .skip)))))
  (.ops [qO 17 (.mov (.t 5)), qO 18 (.bin .add (.t 17) (iC 1)), qO 5 (.mov (.t 18))]))))))
  (.seq (.ops [qO 34 (.load true 3 (.t 4)), nO (.store 3 (.t 2) (.t 34)), qO 3 (.mov (.c (.sc (.bool true))))])
  .ret))))
theorem K67 : Kf Tryz.prog Tryz.f67 A67 35 [.load true 3 (.t 2), .mov (.t 3)] := ⟨by kernel_rfl, by kernel_rfl, by kernel_rfl⟩
set_option maxHeartbeats 4000000 in
theorem R67 (j : Job) (hj : JL j) (hs : ∀ s ∈ j.acts, s.size ≤ 1048576) (hn : j.name.size ≤ 140737488351232) : Ret Tryz.prog 67 [.agg (Job.ty.cs j)] (.tup [.agg (Made.ty.oc (makeV j).1), .sc (.bool (makeV j).2)]) [.un] := by
  have hja := hj.a
  refine Ret.run Tryz.func67 K67 (by simp) rfl rfl 900 ?_
  simp [A67, iniρ, over, Job.cse]
  refine T.le (Le.pack 4 1 (i := 10) (len := 0) (sz := 2) (cs' := []) (by simp [za]; rfl) (by rfl) (by simp [za]) (by decide) (by rfl) (by rfl)) ?_
  refine T.le (Le.told [(1, .ref 1 0), (2, .ref 2 0), (4, .ref 4 0), (5, .sc (.int .i64 0))] [(1, Job.ty.cs j), (2, [.sc (.string ⟨#[]⟩), .em, .sc (.string ⟨#[]⟩)]), (4, Made.ty.oc ⟨j.name, [], ⟨#[]⟩⟩)]
    (by simp [toldT, Y0, yF, YF, Yb, za]) (by simp [toldB, yO, Z0, yF, zaj, zaI, YF, Yb, Yb.idfreeL, zf, za, Job.cse, Made.oce])) ?_
  simp only [toldρ, toldH]
  refine T.rounds (μ := fun i : List ByteArray × List ByteArray × Made => i.2.1.length)
    (fun i s => i.1 ++ i.2.1 = j.acts ∧ makeF j i.2.2 i.2.1 = makeV j ∧ Sm i.2.2 ∧ i.2.2.task.size ≤ 140737488351232 ∧ s.ρ 1 = .ref 1 0 ∧ s.ρ 2 = .ref 2 0 ∧ s.ρ 4 = .ref 4 0 ∧ s.ρ 5 = .sc (.int .i64 i.1.length) ∧ s.h 1 = some (some (Job.ty.cs j)) ∧ s.h 2 = some (some [.sc (.string ⟨#[]⟩), .em, .sc (.string ⟨#[]⟩)]) ∧ s.h 4 = some (some (Made.ty.oc i.2.2)) ∧ s.h 60 = none ∧ s.h 6 = none ∧ s.h 28001001 = none ∧ s.n = 35) ([], j.acts, ⟨j.name, [], ⟨#[]⟩⟩) (by simp [za, makeV]; exact ⟨⟨Nat.zero_le _, fun x hx => (by cases hx), Nat.zero_le _⟩, hn⟩) ?_
  rintro ⟨pre, rest, m⟩ ⟨ρ, hh, n⟩ ⟨hx, hE, hm, hmt, k1, k2, k4, k5, g1, g2, g4, f60, f6, fX, rfl⟩
  simp only at hx hE hm hmt k1 k2 k4 k5 g1 g2 g4 f60 f6 fX
  have hid := File.frL m.outs
  refine T.le (Le.open 4 1 60 g4 (by rw [Made.oce]; rfl) f60 hid) ?_
  simp only [Made.oce]
  refine Zf (n := 400) ?_
  cases rest with
  | nil =>
    have hxl : pre.length = j.acts.length := by rw [← hx]; simp
    have hE : (m, true) = makeV j := hE
    rw [← hE]
    simp [k1, k5, g1, hxl, Job.cse]
    refine T.on 400 ?_
    simp [k2, k4, g2, over, ex1, za, File.ocl, hid, Made.oce]
  | cons x rest =>
    have hle : pre.length + (rest.length + 1) = j.acts.length := by rw [← hx]; simp
    have hlt : (pre.length : Int) < j.acts.length := by omega
    have hlt2 : pre.length < j.acts.length := by omega
    have hwr : IntKind.i64.wrap ((pre.length : Int) + 1) = pre.length + 1 := Ya (by omega) (by omega)
    have hat : atB j.acts pre.length = x := by unfold atB; rw [← hx, List.getElem?_append_right (Nat.le_refl _)]; simp
    have hd := zD j.acts pre.length hlt2
    rw [hat] at hd
    have hxs : x.size ≤ 1048576 := hs x (by rw [← hx]; simp)
    have rA := R136 j hj m hm (hm.made hmt) x hxs
    have hsm := zcV (j := j) hm hxs
    have hno := ze1 (j := j) (m := m) (s := x)
    have htk := zcx (j := j) (m := m) (s := x)
    rw [makeF] at hE
    obtain ⟨p, hp⟩ : ∃ p, p = actV j m x := ⟨_, rfl⟩
    rw [← hp] at rA hE hsm hno htk
    have hid2 := File.frL p.1.outs
    have hfl : flt (.tup [.agg (Made.ty.oc p.1), .sc (.bool p.2)]) = true := by
      have h1 := Made.ty.flL p.1
      simp only [flt, flt.fltL, Bool.and_eq_true] at h1 ⊢
      exact ⟨h1, trivial, trivial⟩
    simp [k1, k5, g1, hlt, Job.cse]
    refine T.textW 400 [([], [6]), ([], [6]), ([], [6]), ([], [6]), ([], [6]), ([], [6]), ([], [6]), ([28001001], [6]), ([], [6]), ([], [6]), ([], [6]), ([6], [28001001]), ([6], []), ([], [])] mixed (by kernel_rfl) (by kernel_rfl) ?_
    simp [k1, k4, k5, g1, hlt, hlt2, hd, Job.cse, over, Zb, yb]
    refine Yf.ro 27 rfl (by kernel_rfl) (by simp [yd, Zk, List.mapM_cons, List.mapM_nil, zd, ya, za, Za, Made.cse, Job.cse, File.roc7, k4, g1]) rA hfl (by simp [inst, instL, Made.oce, za, Za, fX]; exact ⟨rfl, rfl⟩) (by rfl) ?_
    cases hok : p.2 with
    | false =>
      rw [hok] at hE
      have hE : (m, false) = makeV j := hE
      have hpm : p.1 = m := hno hok
      rw [← hE, ← hpm]
      simp [k2, k4, g2, f6, over, hok, ex1, za, yc, Za, Zb, yb, File.ocl, hid2, Made.oce]
    | true =>
      rw [hok] at hE
      have hE : makeF j p.1 rest = makeV j := hE
      simp [k2, k4, g2, f6, over, hok, za, yc, Za, Zb, yb, k5, hwr]
      refine ⟨pre ++ [x], rest, by simp, p.1, _, Le.trans (Le.pack 4 1 (i := 28001001) (len := p.1.outs.length) (sz := 2) (cs' := rows File.ty.oc p.1.outs) (by simp [za, yc, Za]; rfl) (by rfl) (by simp [za, yc, Za]) (by decide) (by simp [File.ocl]) hid2)
        (Le.told [(1, .ref 1 0), (2, .ref 2 0), (4, .ref 4 0), (5, .sc (.int .i64 ((pre ++ [x]).length : Nat)))] [(1, Job.ty.cs j), (2, [.sc (.string ⟨#[]⟩), .em, .sc (.string ⟨#[]⟩)]), (4, Made.ty.oc p.1)]
          (by simp [toldT, Y0, yF, YF, Yb, za, k1, k2, k4]) (by simp [toldB, yO, Z0, yF, zaj, zaI, YF, Yb, Yb.idfreeL, hid2, za, yc, Za, Job.cse, Made.oce, g1, g2])), by simpa using hx, hE, hsm, by rw [htk]; exact hmt, ?_⟩
      simp [toldρ, toldH, za, Job.cse, Made.oce]
end Go.Proofs.YtopofpihpnjmbaaGreatDoor.Am
