/- The small machine and the contracts of the functions, part 2 (ActOf, Make, MakeI, MakeS, Draw, DrawMarks, Num, DrawMades, MakeS2, Texts, Itoa, Parse); no condition. -/
import Derived.Test.YtopofpihpnjmbaaGreatDoorProg
import Derived.Test.YtopofpihpnjmbaaGreatDoorAmZ
import Derived.Test.YtopofpihpnjmbaaGreatDoorAmP
import Derived.Test.YtopofpihpnjmbaaGreatDoorB1
import Derived.KernelRfl
import Derived.Test.YtopofpihpnjmbaaGreatDoorAmJ
import Derived.Test.YtopofpihpnjmbaaGreatDoorAmV
import Derived.Test.YtopofpihpnjmbaaGreatDoorAmM
import Derived.Test.YtopofpihpnjmbaaGreatDoorAmD
import Derived.Test.YtopofpihpnjmbaaGreatDoorAmL
namespace Go.Proofs.YtopofpihpnjmbaaGreatDoor.Am
open Go Go.Proofs
set_option linter.unusedSimpArgs false
set_option linter.unusedVariables false
attribute [local congr] yP yt zq
attribute [local simp] yM ZM zM yL zC Zy YL ZB zk Zo YB Zk Yo yB YM YC yC ZC zJ YI yI y1 Z1 Z2 Y1 ZW zW yW ZD Za Ya wblk zD yy YO zP aval dOk za ev_t ev_c zw zy yZ yA isIo hasIo sbin endR fin resL one outL out1 clo1 cloL coe coeL shut shut.shutL wantA weff cellsOf fillA deref natOf ρ0_app Y0 plain plain.plainL Zf Ye Yk Yt Zq yH Zw Zn yk ZN zt Zp nilA srcOf Zr Yp yn renA rb
def aggA (w : ByteArray) (ws : List ByteArray) (o : ByteArray) : AV := .agg [.sc (.string w), .ro (rows Ty.str.cs ws) ws.length, .sc (.string o)]
def zeroA : AV := .agg [.sc (.string ⟨#[]⟩), .em, .sc (.string ⟨#[]⟩)]
def kindI (w : ByteArray) (n : Nat) (e : Bool) : Bool :=
  if isW w [112, 117, 116] then decide (0 < n) && !e
  else if isW w [99, 97, 116] then inR n 1 3 && !e
  else if isW w [101, 110, 118] then n == 1 && !e
  else if isW w [117, 115, 101] then n == 2 && !e
  else if isW w [108, 111, 103] then decide (0 < n) && e
  else if isW w [102, 97, 105, 108] then n == 0 && e
  else false
def signB (ws : List ByteArray) : Bool := decide (1 < ws.length) && isW (atB ws (ws.length - 2)) [62]
def actI : List ByteArray → AV × Bool
  | [] => (zeroA, false)
  | w :: ws => if hasT ⟨#[]⟩ (w :: ws) then (zeroA, false)
    else if signB ws then
      if Zl (atB ws (ws.length - 1)) then (aggA w (ws.take (ws.length - 2)) (atB ws (ws.length - 1)), kindI w (ws.length - 2) false) else (zeroA, false)
    else (aggA w ws ⟨#[]⟩, kindI w ws.length true)
theorem Z3 (w : ByteArray) (ws : List ByteArray) : actI (w :: ws) = if hasT ⟨#[]⟩ (w :: ws) then (zeroA, false)
    else if signB ws then
      if Zl (atB ws (ws.length - 1)) then (aggA w (ws.take (ws.length - 2)) (atB ws (ws.length - 1)), kindI w (ws.length - 2) false) else (zeroA, false)
    else (aggA w ws ⟨#[]⟩, kindI w ws.length true) := rfl
theorem zcz {x : ByteArray} (h : Zl x = true) : ¬ x.toList = [] := fun e => by
  have hz : x.size = 0 := by
    have h2 : x.data.toList = [] := by rw [← Lib.toList_data]; exact e
    show x.data.size = 0
    rw [← Array.length_toList, h2]; rfl
  unfold Zl at h
  rw [hz] at h
  simp [inR] at h
def A159 : AC := (.seq (.ops [wO 2 (.alloc [(.sc (.string ⟨#[]⟩)), .em, (.sc (.string ⟨#[]⟩))]), qO 3 (.mov (.c (.sc (.bool false))))])
  (.seq (.ops [qO 8 (.mov (.t 0)), cO 9 130 [.t 8, (.c (.sc (.string ⟨#[32]⟩)))], qO 4 (.mov (.t 9))])
  (.seq (.seq (.ops [qO 10 (.mov (.t 4)), cO 11 215 [.t 10, (.c (.sc (.string ⟨#[]⟩)))]])
  (.cond (.t 11) (.seq (.ops [wO 12 (.build [(.sc (.string ⟨#[]⟩)), .em, (.sc (.string ⟨#[]⟩))] []), nO (.store 3 (.t 2) (.t 12)), qO 3 (.mov (.c (.sc (.bool false))))])
  .ret)
  .skip))
  (.seq (.any [(qO 13 (.mov (.t 4)), []), (qO 14 (.iadr 1 (.t 13) (iC 0)), [0]), (qO 15 (.load false 1 (.t 14)), [1]), (qO 16 (.mov (.t 4)), []), (qO 17 (.subl 1 (.t 16) (some (iC 1)) none), [3]), (wO 18 (.build [(.sc (.string ⟨#[]⟩)), .em, (.sc (.string ⟨#[]⟩))] [(0, 1, (.t 15)), (1, 1, (.t 17))]), [2, 4]), (wO 5 (.alloc [(.sc (.string ⟨#[]⟩)), .em, (.sc (.string ⟨#[]⟩))]), []), (nO (.store 3 (.t 5) (.t 18)), [6, 5, 0, 1, 2, 3, 4, 5, 6])])
  (.seq (.ops [qO 19 (.fadr 1 (.t 5)), qO 20 (.load false 1 (.t 19)), qO 21 (.llen (.t 20)), qO 6 (.mov (.t 21))])
  (.seq (.seq (.ops [qO 22 (.mov (.t 6)), qO 23 (.bin .gtr (.t 22) (iC 1)), qO 24 (.mov (.t 23)), qG 25 24 true (.fadr 1 (.t 5)), qG 26 24 true (.load false 1 (.t 25)), qG 27 24 true (.mov (.t 6)), qG 28 24 true (.bin .sub (.t 27) (iC 2)), qG 29 24 true (.iadr 1 (.t 26) (.t 28)), qG 30 24 true (.load false 1 (.t 29)), qG 31 24 true (.bin .eql (.t 30) (.c (.sc (.string ⟨#[62]⟩)))), qO 32 (.pick (.t 24) (.t 31) (.c (.sc (.bool false))))])
  (.cond (.t 32) (.seq (.ops [qO 33 (.fadr 1 (.t 5)), qO 34 (.load false 1 (.t 33)), qO 35 (.mov (.t 6)), qO 36 (.bin .sub (.t 35) (iC 1)), qO 37 (.iadr 1 (.t 34) (.t 36)), qO 38 (.load false 1 (.t 37)), qO 39 (.fadr 2 (.t 5)), nO (.store 1 (.t 39) (.t 38))])
  (.seq (.ops [qO 40 (.fadr 1 (.t 5)), qO 41 (.load false 1 (.t 40)), qO 42 (.mov (.t 6)), qO 43 (.bin .sub (.t 42) (iC 2)), qO 44 (.subl 1 (.t 41) none (some (.t 43))), qO 45 (.fadr 1 (.t 5)), nO (.store 1 (.t 45) (.t 44))])
  (.seq (.ops [qO 46 (.mov (.t 6)), qO 47 (.bin .sub (.t 46) (iC 2)), qO 6 (.mov (.t 47))])
  (.seq (.ops [qO 48 (.fadr 2 (.t 5)), qO 49 (.load false 1 (.t 48)), cO 50 195 [.t 49], qO 51 (.not (.t 50))])
  (.cond (.t 51) (.seq (.ops [wO 52 (.build [(.sc (.string ⟨#[]⟩)), .em, (.sc (.string ⟨#[]⟩))] []), nO (.store 3 (.t 2) (.t 52)), qO 3 (.mov (.c (.sc (.bool false))))])
  .ret)
  .skip)))))
  .skip))
  (.seq (.ops [qO 7 (.mov (.c (.sc (.bool false))))])
  (.seq (.seq (.ops [qO 53 (.fadr 0 (.t 5)), qO 54 (.load false 1 (.t 53))])
  (.block 0 (.seq (.ops [qO 56 (.bin .eql (.t 54) (.c (.sc (.string ⟨#[112, 117, 116]⟩)))), qO 55 (.mov (.t 56))])
  (.cond (.t 55) (.ops [qO 57 (.mov (.t 6)), qO 58 (.bin .gtr (.t 57) (iC 0)), qO 59 (.mov (.t 58)), qG 60 59 true (.fadr 2 (.t 5)), qG 61 59 true (.load false 1 (.t 60)), qG 62 59 true (.bin .neq (.t 61) (.c (.sc (.string ⟨#[]⟩)))), qO 63 (.pick (.t 59) (.t 62) (.c (.sc (.bool false)))), qO 7 (.mov (.t 63))])
  (.seq (.ops [qO 65 (.bin .eql (.t 54) (.c (.sc (.string ⟨#[99, 97, 116]⟩)))), qO 64 (.mov (.t 65))])
  (.cond (.t 64) (.ops [qO 66 (.mov (.t 6)), cO 67 126 [.t 66, iC 1, iC 3], qO 68 (.mov (.t 67)), qG 69 68 true (.fadr 2 (.t 5)), qG 70 68 true (.load false 1 (.t 69)), qG 71 68 true (.bin .neq (.t 70) (.c (.sc (.string ⟨#[]⟩)))), qO 72 (.pick (.t 68) (.t 71) (.c (.sc (.bool false)))), qO 7 (.mov (.t 72))])
  (.seq (.ops [qO 74 (.bin .eql (.t 54) (.c (.sc (.string ⟨#[101, 110, 118]⟩)))), qO 73 (.mov (.t 74))])
  (.cond (.t 73) (.ops [qO 75 (.mov (.t 6)), qO 76 (.bin .eql (.t 75) (iC 1)), qO 77 (.mov (.t 76)), qG 78 77 true (.fadr 2 (.t 5)), qG 79 77 true (.load false 1 (.t 78)), qG 80 77 true (.bin .neq (.t 79) (.c (.sc (.string ⟨#[]⟩)))), qO 81 (.pick (.t 77) (.t 80) (.c (.sc (.bool false)))), qO 7 (.mov (.t 81))])
  (.seq (.ops [qO 83 (.bin .eql (.t 54) (.c (.sc (.string ⟨#[117, 115, 101]⟩)))), qO 82 (.mov (.t 83))])
  (.cond (.t 82) (.ops [qO 84 (.mov (.t 6)), qO 85 (.bin .eql (.t 84) (iC 2)), qO 86 (.mov (.t 85)), qG 87 86 true (.fadr 2 (.t 5)), qG 88 86 true (.load false 1 (.t 87)), qG 89 86 true (.bin .neq (.t 88) (.c (.sc (.string ⟨#[]⟩)))), qO 90 (.pick (.t 86) (.t 89) (.c (.sc (.bool false)))), qO 7 (.mov (.t 90))])
  (.seq (.ops [qO 92 (.bin .eql (.t 54) (.c (.sc (.string ⟨#[108, 111, 103]⟩)))), qO 91 (.mov (.t 92))])
  (.cond (.t 91) (.ops [qO 93 (.mov (.t 6)), qO 94 (.bin .gtr (.t 93) (iC 0)), qO 95 (.mov (.t 94)), qG 96 95 true (.fadr 2 (.t 5)), qG 97 95 true (.load false 1 (.t 96)), qG 98 95 true (.bin .eql (.t 97) (.c (.sc (.string ⟨#[]⟩)))), qO 99 (.pick (.t 95) (.t 98) (.c (.sc (.bool false)))), qO 7 (.mov (.t 99))])
  (.seq (.ops [qO 101 (.bin .eql (.t 54) (.c (.sc (.string ⟨#[102, 97, 105, 108]⟩)))), qO 100 (.mov (.t 101))])
  (.cond (.t 100) (.ops [qO 102 (.mov (.t 6)), qO 103 (.bin .eql (.t 102) (iC 0)), qO 104 (.mov (.t 103)), qG 105 104 true (.fadr 2 (.t 5)), qG 106 104 true (.load false 1 (.t 105)), qG 107 104 true (.bin .eql (.t 106) (.c (.sc (.string ⟨#[]⟩)))), qO 108 (.pick (.t 104) (.t 107) (.c (.sc (.bool false)))), qO 7 (.mov (.t 108))])
  .skip))))))))))))))
  (.seq (.ops [qO 109 (.load true 3 (.t 5)), qO 110 (.mov (.t 7)), nO (.store 3 (.t 2) (.t 109)), qO 3 (.mov (.t 110))])
  .ret)))))))))
theorem K159 : Kf Tryz.prog Tryz.f159 A159 111 [.load true 3 (.t 2), .mov (.t 3)] := ⟨by kernel_rfl, by kernel_rfl, by kernel_rfl⟩
set_option maxHeartbeats 8000000 in
set_option maxRecDepth 20000 in
theorem R159 (s : ByteArray) (hs : s.size ≤ 1048576) : Ret Tryz.prog 159 [.sc (.string s)] (.tup [(actI (yi s)).1, .sc (.bool (actI (yi s)).2)]) [.un] := by
  have rS : Ret Tryz.prog 130 [.sc (.string s), .sc (.string ⟨#[32]⟩)] (.own (rows Ty.str.oc (yi s)) (yi s).length 1) [.un, .un] := R130 s 32 hs
  obtain ⟨h1, h2⟩ := zR s
  have hsz := zau s
  obtain ⟨l, hl⟩ : ∃ l, l = yi s := ⟨_, rfl⟩
  rw [← hl] at rS h1 h2 hsz ⊢
  cases l with
  | nil => simp at h1
  | cons w ws =>
  simp only [List.length_cons] at h2
  have hln := zU ws
  have htk : List.take ws.length (rows Ty.str.cs ws) = rows Ty.str.cs ws := List.take_of_length_le (Nat.le_of_eq hln)
  have hro : rows Ty.str.oc (w :: ws) = .sc (.string w) :: rows Ty.str.oc ws := rfl
  have hrc : rows Ty.str.cs (w :: ws) = .sc (.string w) :: rows Ty.str.cs ws := rfl
  have hfz : ∀ h : Hp, h 9 = some (some (rows Ty.str.oc (w :: ws))) → roc h 8 (.sl 9 0 (ws.length + 1) 1 false) = some (.ro (rows Ty.str.cs (w :: ws)) (ws.length + 1)) := fun h e => zbV (xs := w :: ws) e
  have rC : Ret Tryz.prog 215 [.ro (rows Ty.str.cs (w :: ws)) (ws.length + 1), .sc (.string ⟨#[]⟩)] (.sc (.bool (hasT ⟨#[]⟩ (w :: ws)))) [.un, .un] := R215 (w :: ws) ⟨#[]⟩ (by simp only [List.length_cons]; omega)
  refine Ret.run Tryz.func159 K159 (by simp) rfl rfl 900 ?_
  simp [A159, iniρ, over]
  refine callK.own 9 rfl (by kernel_rfl) (by simp [Yc]) rS (Ty.str.flo _) (by simp) rfl ?_
  simp
  refine callK.le (Le.freeze 8 [2, 3] [2] [(4, .ro (rows Ty.str.cs (w :: ws)) (ws.length + 1)), (10, .ro (rows Ty.str.cs (w :: ws)) (ws.length + 1))] (by simp [za, menB, zb]) (by simp [za, zb]) (by
    intro t y hy
    simp at hy
    rcases hy with ⟨rfl, rfl⟩ | ⟨rfl, rfl⟩ <;> simp [za, Za, hfz])) ?_
  simp only [frz]
  refine callK.ro 0 rfl (by kernel_rfl) (by simp [za, Zf, ze, Yc]) rC rfl rfl rfl ?_
  by_cases hE : hasT ⟨#[]⟩ (w :: ws) = true
  · have hA : actI (w :: ws) = (zeroA, false) := by rw [Z3, if_pos hE]
    rw [hA]
    simp [hE, za, Zf, Ye, over, zeroA]
  have hE0 : hasT ⟨#[]⟩ (w :: ws) = false := by simpa using hE
  simp [hE0, za, Zf, Ye]
  by_cases hn : 1 < ws.length
  case neg =>
    have hS : signB ws = false := by simp [signB, hn]
    have hA : actI (w :: ws) = (aggA w ws ⟨#[]⟩, kindI w ws.length true) := by rw [Z3, if_neg hE, if_neg (by simp [hS])]
    have hn2 : ¬ (1 : Int) < ws.length := by omega
    rw [hA]
    refine T.textW 400 [([], [5]), ([], [5]), ([], [5]), ([], [5]), ([], [5]), ([], [5]), ([5], []), ([5], [])] mixed (by kernel_rfl) (by kernel_rfl) ?_
    simp [za, Zf, Ye, over, hrc, htk, hln, Zb, yb, hn2]
    by_cases k1 : w.toList = [112, 117, 116]
    · by_cases c1 : 0 < ws.length
      · have c2 : (0 : Int) < (ws.length : Nat) := by omega
        have c4 : ¬ ws = [] := fun e => by rw [e] at c1; simp at c1
        simp [aggA, kindI, isW, c4, k1, c1, c2, za, Zf, Ye, Ya, Za, over]
      · have c2 : ¬ (0 : Int) < (ws.length : Nat) := by omega
        have c3 : ws.length = 0 := by omega
        have c4 : ws = [] := List.length_eq_zero_iff.1 (by omega)
        simp [aggA, kindI, isW, c4, k1, c1, c2, c3, za, Zf, Ye, Ya, Za, over]
    by_cases k2 : w.toList = [99, 97, 116]
    · simp [k1, k2]
      refine callK.ro 0 rfl (by kernel_rfl) (by simp [Yc]) (R126 ws.length 1 3) rfl rfl rfl ?_
      cases c1 : inR ws.length 1 3 with
      | true => simp [aggA, kindI, isW, k1, k2, c1, za, Zf, Ye, Ya, Za, over]
      | false => simp [aggA, kindI, isW, k1, k2, c1, za, Zf, Ye, Ya, Za, over]
    by_cases k3 : w.toList = [101, 110, 118]
    · by_cases c1 : ws.length = 1
      · have c2 : ((ws.length : Nat) : Int) = 1 := by omega
        simp [aggA, kindI, isW, k1, k2, k3, c1, c2, za, Zf, Ye, Ya, Za, over]
      · have c2 : ¬ ((ws.length : Nat) : Int) = 1 := by omega
        simp [aggA, kindI, isW, k1, k2, k3, c1, c2, za, Zf, Ye, Ya, Za, over]
    by_cases k4 : w.toList = [117, 115, 101]
    · by_cases c1 : ws.length = 2
      · have c2 : ((ws.length : Nat) : Int) = 2 := by omega
        simp [aggA, kindI, isW, k1, k2, k3, k4, c1, c2, za, Zf, Ye, Ya, Za, over]
      · have c2 : ¬ ((ws.length : Nat) : Int) = 2 := by omega
        simp [aggA, kindI, isW, k1, k2, k3, k4, c1, c2, za, Zf, Ye, Ya, Za, over]
    by_cases k5 : w.toList = [108, 111, 103]
    · by_cases c1 : 0 < ws.length
      · have c2 : (0 : Int) < (ws.length : Nat) := by omega
        have c4 : ¬ ws = [] := fun e => by rw [e] at c1; simp at c1
        simp [aggA, kindI, isW, c4, k1, k2, k3, k4, k5, c1, c2, za, Zf, Ye, Ya, Za, over]
      · have c2 : ¬ (0 : Int) < (ws.length : Nat) := by omega
        have c3 : ws.length = 0 := by omega
        have c4 : ws = [] := List.length_eq_zero_iff.1 (by omega)
        simp [aggA, kindI, isW, c4, k1, k2, k3, k4, k5, c1, c2, c3, za, Zf, Ye, Ya, Za, over]
    by_cases k6 : w.toList = [102, 97, 105, 108]
    · by_cases c1 : ws.length = 0
      · have c2 : ((ws.length : Nat) : Int) = 0 := by omega
        have c4 : ws = [] := List.length_eq_zero_iff.1 (by omega)
        simp [aggA, kindI, isW, c4, k1, k2, k3, k4, k5, k6, c1, c2, za, Zf, Ye, Ya, Za, over]
      · have c2 : ¬ ((ws.length : Nat) : Int) = 0 := by omega
        have c4 : ¬ ws = [] := fun e => by rw [e] at c1; simp at c1
        simp [aggA, kindI, isW, c4, k1, k2, k3, k4, k5, k6, c1, c2, za, Zf, Ye, Ya, Za, over]
    simp [aggA, kindI, isW, k1, k2, k3, k4, k5, k6, za, Zf, Ye, Ya, Za, over]
  have hn2 : (1 : Int) < ws.length := by omega
  have e2 : (ws.length : Int) - 2 = ((ws.length - 2 : Nat) : Int) := by omega
  have e1 : (ws.length : Int) - 1 = ((ws.length - 1 : Nat) : Int) := by omega
  have w2 : IntKind.i64.wrap ((ws.length - 2 : Nat) : Int) = ((ws.length - 2 : Nat) : Int) := zc (by omega) (by omega)
  have w1 : IntKind.i64.wrap ((ws.length - 1 : Nat) : Int) = ((ws.length - 1 : Nat) : Int) := zc (by omega) (by omega)
  have l2 : ws.length - 2 < ws.length := by omega
  have l1 : ws.length - 1 < ws.length := by omega
  have i2 : ((ws.length - 2 : Nat) : Int) < ws.length := by omega
  have i1 : ((ws.length - 1 : Nat) : Int) < ws.length := by omega
  have d2 := ZF ws (ws.length - 2) l2
  have d1 := ZF ws (ws.length - 1) l1
  by_cases hk : (atB ws (ws.length - 2)).toList = [62]
  case neg =>
    have hS : signB ws = false := by simp [signB, isW, hk]
    have hA : actI (w :: ws) = (aggA w ws ⟨#[]⟩, kindI w ws.length true) := by rw [Z3, if_neg hE, if_neg (by simp [hS])]
    rw [hA]
    refine T.textW 400 [([], [5]), ([], [5]), ([], [5]), ([], [5]), ([], [5]), ([], [5]), ([5], []), ([5], [])] mixed (by kernel_rfl) (by kernel_rfl) ?_
    simp [za, Zf, Ye, over, hrc, htk, hln, Zb, yb, hn2, e2, w2, l2, i2, d2, hk]
    by_cases k1 : w.toList = [112, 117, 116]
    · by_cases c1 : 0 < ws.length
      · have c2 : (0 : Int) < (ws.length : Nat) := by omega
        have c4 : ¬ ws = [] := fun e => by rw [e] at c1; simp at c1
        simp [aggA, kindI, isW, c4, k1, c1, c2, za, Zf, Ye, Ya, Za, over]
      · have c2 : ¬ (0 : Int) < (ws.length : Nat) := by omega
        have c3 : ws.length = 0 := by omega
        have c4 : ws = [] := List.length_eq_zero_iff.1 (by omega)
        simp [aggA, kindI, isW, c4, k1, c1, c2, c3, za, Zf, Ye, Ya, Za, over]
    by_cases k2 : w.toList = [99, 97, 116]
    · simp [k1, k2]
      refine callK.ro 0 rfl (by kernel_rfl) (by simp [Yc]) (R126 ws.length 1 3) rfl rfl rfl ?_
      cases c1 : inR ws.length 1 3 with
      | true => simp [aggA, kindI, isW, k1, k2, c1, za, Zf, Ye, Ya, Za, over]
      | false => simp [aggA, kindI, isW, k1, k2, c1, za, Zf, Ye, Ya, Za, over]
    by_cases k3 : w.toList = [101, 110, 118]
    · by_cases c1 : ws.length = 1
      · have c2 : ((ws.length : Nat) : Int) = 1 := by omega
        simp [aggA, kindI, isW, k1, k2, k3, c1, c2, za, Zf, Ye, Ya, Za, over]
      · have c2 : ¬ ((ws.length : Nat) : Int) = 1 := by omega
        simp [aggA, kindI, isW, k1, k2, k3, c1, c2, za, Zf, Ye, Ya, Za, over]
    by_cases k4 : w.toList = [117, 115, 101]
    · by_cases c1 : ws.length = 2
      · have c2 : ((ws.length : Nat) : Int) = 2 := by omega
        simp [aggA, kindI, isW, k1, k2, k3, k4, c1, c2, za, Zf, Ye, Ya, Za, over]
      · have c2 : ¬ ((ws.length : Nat) : Int) = 2 := by omega
        simp [aggA, kindI, isW, k1, k2, k3, k4, c1, c2, za, Zf, Ye, Ya, Za, over]
    by_cases k5 : w.toList = [108, 111, 103]
    · by_cases c1 : 0 < ws.length
      · have c2 : (0 : Int) < (ws.length : Nat) := by omega
        have c4 : ¬ ws = [] := fun e => by rw [e] at c1; simp at c1
        simp [aggA, kindI, isW, c4, k1, k2, k3, k4, k5, c1, c2, za, Zf, Ye, Ya, Za, over]
      · have c2 : ¬ (0 : Int) < (ws.length : Nat) := by omega
        have c3 : ws.length = 0 := by omega
        have c4 : ws = [] := List.length_eq_zero_iff.1 (by omega)
        simp [aggA, kindI, isW, c4, k1, k2, k3, k4, k5, c1, c2, c3, za, Zf, Ye, Ya, Za, over]
    by_cases k6 : w.toList = [102, 97, 105, 108]
    · by_cases c1 : ws.length = 0
      · have c2 : ((ws.length : Nat) : Int) = 0 := by omega
        have c4 : ws = [] := List.length_eq_zero_iff.1 (by omega)
        simp [aggA, kindI, isW, c4, k1, k2, k3, k4, k5, k6, c1, c2, za, Zf, Ye, Ya, Za, over]
      · have c2 : ¬ ((ws.length : Nat) : Int) = 0 := by omega
        have c4 : ¬ ws = [] := fun e => by rw [e] at c1; simp at c1
        simp [aggA, kindI, isW, c4, k1, k2, k3, k4, k5, k6, c1, c2, za, Zf, Ye, Ya, Za, over]
    simp [aggA, kindI, isW, k1, k2, k3, k4, k5, k6, za, Zf, Ye, Ya, Za, over]
  have hS : signB ws = true := by simp [signB, isW, hk, hn]
  have ht2 : List.take (ws.length - 2) (rows Ty.str.cs ws) = rows Ty.str.cs (ws.take (ws.length - 2)) := zeG ws _ (by omega)
  obtain ⟨into, hin⟩ : ∃ x, x = atB ws (ws.length - 1) := ⟨_, rfl⟩
  have his : into.size ≤ 1048576 := by rw [hin]; exact Nat.le_trans (zd7 (fun x hx => hsz x (List.mem_cons_of_mem _ hx)) _) hs
  have hlm : (ws.take (ws.length - 2)).length = ws.length - 2 := by rw [List.length_take, Nat.min_eq_left (by omega)]
  have hA : actI (w :: ws) = if Zl into then (aggA w (ws.take (ws.length - 2)) into, kindI w (ws.length - 2) false) else (zeroA, false) := by rw [Z3, if_neg hE, if_pos hS, ← hin]
  rw [← hin] at d1
  obtain ⟨n2, hn3⟩ : ∃ n, n = ws.length - 2 := ⟨_, rfl⟩
  rw [← hn3] at hlm hA e2 w2 l2 i2 d2 hk ht2
  have hsub : n2 ≤ ws.length := by omega
  rw [hA]
  refine T.textW 400 [([], [5]), ([], [5]), ([], [5]), ([], [5]), ([], [5]), ([], [5]), ([5], []), ([5], [])] mixed (by kernel_rfl) (by kernel_rfl) ?_
  simp [za, Zf, Ye, over, hrc, htk, hln, Zb, yb, hn2, e2, w2, l2, i2, d2, hk, e1, w1, l1, i1, d1, ht2, hsub]
  refine callK.ro 0 rfl (by kernel_rfl) (by simp [Yc, za]) (R195 into (by omega)) rfl rfl rfl ?_
  by_cases hp : Zl into = true
  case neg =>
    have hp : Zl into = false := by simpa using hp
    simp [hp, over, zeroA]
  have hne := zcz hp
  simp [hp]
  by_cases k1 : w.toList = [112, 117, 116]
  · by_cases c1 : 0 < n2
    · have c2 : (0 : Int) < (n2 : Nat) := by omega
      simp [aggA, kindI, isW, k1, c1, c2, hlm, hne, za, Zf, Ye, Ya, Za, over]
    · have c2 : ¬ (0 : Int) < (n2 : Nat) := by omega
      have c3 : n2 = 0 := by omega
      simp [aggA, kindI, isW, k1, c1, c2, c3, hlm, hne, za, Zf, Ye, Ya, Za, over]
  by_cases k2 : w.toList = [99, 97, 116]
  · simp [k1, k2]
    refine callK.ro 0 rfl (by kernel_rfl) (by simp [Yc]) (R126 n2 1 3) rfl rfl rfl ?_
    cases c1 : inR n2 1 3 with
    | true => simp [aggA, kindI, isW, k1, k2, c1, hlm, hne, za, Zf, Ye, Ya, Za, over]
    | false => simp [aggA, kindI, isW, k1, k2, c1, hlm, hne, za, Zf, Ye, Ya, Za, over]
  by_cases k3 : w.toList = [101, 110, 118]
  · by_cases c1 : n2 = 1
    · have c2 : ((n2 : Nat) : Int) = 1 := by omega
      have c4 : min 1 ws.length = 1 := by omega
      simp [aggA, kindI, isW, k1, k2, k3, c1, c2, c4, hlm, hne, za, Zf, Ye, Ya, Za, over]
    · have c2 : ¬ ((n2 : Nat) : Int) = 1 := by omega
      simp [aggA, kindI, isW, k1, k2, k3, c1, c2, hlm, hne, za, Zf, Ye, Ya, Za, over]
  by_cases k4 : w.toList = [117, 115, 101]
  · by_cases c1 : n2 = 2
    · have c2 : ((n2 : Nat) : Int) = 2 := by omega
      have c4 : min 2 ws.length = 2 := by omega
      simp [aggA, kindI, isW, k1, k2, k3, k4, c1, c2, c4, hlm, hne, za, Zf, Ye, Ya, Za, over]
    · have c2 : ¬ ((n2 : Nat) : Int) = 2 := by omega
      simp [aggA, kindI, isW, k1, k2, k3, k4, c1, c2, hlm, hne, za, Zf, Ye, Ya, Za, over]
  by_cases k5 : w.toList = [108, 111, 103]
  · by_cases c1 : 0 < n2
    · have c2 : (0 : Int) < (n2 : Nat) := by omega
      simp [aggA, kindI, isW, k1, k2, k3, k4, k5, c1, c2, hlm, hne, za, Zf, Ye, Ya, Za, over]
    · have c2 : ¬ (0 : Int) < (n2 : Nat) := by omega
      have c3 : n2 = 0 := by omega
      simp [aggA, kindI, isW, k1, k2, k3, k4, k5, c1, c2, c3, hlm, hne, za, Zf, Ye, Ya, Za, over]
  by_cases k6 : w.toList = [102, 97, 105, 108]
  · by_cases c1 : n2 = 0
    · have c2 : ((n2 : Nat) : Int) = 0 := by omega
      simp [aggA, kindI, isW, k1, k2, k3, k4, k5, k6, c1, c2, hlm, hne, za, Zf, Ye, Ya, Za, over]
    · have c2 : ¬ ((n2 : Nat) : Int) = 0 := by omega
      simp [aggA, kindI, isW, k1, k2, k3, k4, k5, k6, c1, c2, hlm, hne, za, Zf, Ye, Ya, Za, over]
  simp [aggA, kindI, isW, k1, k2, k3, k4, k5, k6, hlm, hne, za, Zf, Ye, Ya, Za, over]
def sp : ByteArray := ⟨#[32]⟩
def nl : ByteArray := ⟨#[10]⟩
def catF (l : List File) : ByteArray → List ByteArray → ByteArray × Bool
  | acc, [] => (acc, true)
  | acc, p :: ps => if (getF l p).2 then catF l (acc ++ (getF l p).1) ps else (⟨#[]⟩, false)
def textI (j : Job) (w : ByteArray) (ws : List ByteArray) : ByteArray × Bool :=
  if isW w [112, 117, 116] then (joinB ws sp, true)
  else if isW w [101, 110, 118] then getE j.envs (atB ws 0)
  else if isW w [117, 115, 101] then getM j.deps (atB ws 0) (atB ws 1)
  else catF j.ins ⟨#[]⟩ ws
def logT (m : Made) (ws : List ByteArray) : ByteArray := m.log ++ joinB ws sp ++ nl
def doAct (j : Job) (m : Made) (w : ByteArray) (ws : List ByteArray) (o : ByteArray) : Made × Bool :=
  if isW w [102, 97, 105, 108] then (m, false)
  else if isW w [108, 111, 103] then (if 200 < (logT m ws).size then (m, false) else (⟨m.task, m.outs, logT m ws⟩, true))
  else if (textI j w ws).2 && ((yh m.outs ⟨o, (textI j w ws).1⟩).2 && decide ((yh m.outs ⟨o, (textI j w ws).1⟩).1.length ≤ 6)) then (⟨m.task, (yh m.outs ⟨o, (textI j w ws).1⟩).1, m.log⟩, true) else (m, false)
def actV (j : Job) (m : Made) (s : ByteArray) : Made × Bool := if yQ s then doAct j m (atB (l15W s).1 0) ((l15W s).1.drop 1) (l15W s).2 else (m, false)
theorem zbl : ∀ {l : List File} {p : Option ByteArray}, YA p l = true → ∀ x ∈ l, x.text.size ≤ 60
  | [], _, _, x, hx => by cases hx
  | y :: l, p, h, x, hx => by
    simp only [YA, Bool.and_eq_true, decide_eq_true_eq] at h
    rcases List.mem_cons.1 hx with rfl | hx
    · exact h.2.1
    · exact zbl h.2.2.2 x hx
theorem zff (f : File) (o : List File) : f ∈ insF f o := by
  unfold insF
  exact List.mem_append.2 (.inr List.mem_cons_self)
theorem zaJ {l : List File} {f : File} (h : (yh l f).2 = true) : f.text.size ≤ 60 := by
  unfold yh at h
  rw [ZQ] at h
  split at h
  · rename_i hf
    simp only [Yw, Bool.and_eq_true] at hf
    exact zbl hf.1 f (zff f _)
  · cases h
theorem zg1 (l : List UInt8) : (⟨l.toArray⟩ : ByteArray).size = l.length := by
  show Array.size _ = _
  rw [List.size_toArray]
theorem zcp (k n : Nat) (sep : List UInt8) (hk : sep.length + k ≤ n) : ∀ r : List ByteArray, (∀ x ∈ r, x.size ≤ k) → (Lib.joinTail sep (r.map (·.data.toList))).length ≤ r.length * n
  | [], _ => Nat.zero_le _
  | x :: r, h => by
    have h1 : x.data.toList.length ≤ k := h x List.mem_cons_self
    have h2 := zcp k n sep hk r fun y hy => h y (List.mem_cons_of_mem _ hy)
    simp only [Lib.joinTail, List.map_cons, List.flatten_cons, List.length_append] at h2 ⊢
    rw [List.length_cons, Nat.add_mul, Nat.one_mul]
    omega
theorem Y5 {k : Nat} (sep : ByteArray) : ∀ {xs : List ByteArray}, (∀ x ∈ xs, x.size ≤ k) → (joinB xs sep).size ≤ xs.length * (sep.size + k)
  | [], _ => Nat.zero_le _
  | x :: r, h => by
    have h1 : x.data.toList.length ≤ k := h x List.mem_cons_self
    have h2 := zcp k (sep.size + k) sep.data.toList (Nat.le_refl _) r fun y hy => h y (List.mem_cons_of_mem _ hy)
    unfold joinB
    rw [zg1, List.map_cons, Lib.join_cons, List.length_append, List.length_cons, Nat.add_mul, Nat.one_mul]
    omega
theorem zcN {l : List File} {k : Nat} (hk : ∀ f ∈ l, f.text.size ≤ k) (p : ByteArray) : (getF l p).1.size ≤ k := by
  unfold getF
  split
  · rename_i x h
    exact hk x (List.mem_of_find?_eq_some h)
  · exact Nat.zero_le _
theorem ze6 {w : ByteArray} {ws : List ByteArray} {s : ByteArray} (h : yi s = w :: ws) : l15W s = if yx (w :: ws) then ((w :: ws).take (ws.length - 1), atB (w :: ws) ws.length) else (w :: ws, ⟨#[]⟩) := by
  unfold l15W
  rw [h]
  rfl
theorem zen {l : List ByteArray} (h : hasT ⟨#[]⟩ l = false) : ∀ x ∈ l, isW x [] = false := fun x hx => by
  have h2 := List.any_eq_false.1 h x hx
  simp only [sameT, isW] at h2 ⊢
  simpa using h2
theorem zfn {l : List ByteArray} (h : ∀ x ∈ l, isW x [] = false) : fullB l = true := List.all_eq_true.2 fun x hx => by simp [h x hx]
theorem zdK {l : List ByteArray} {x : ByteArray} (hx : x ∈ l) (h : isW x [] = true) : fullB l = false := by
  rw [← Bool.not_eq_true]
  intro hf
  have := List.all_eq_true.1 hf x hx
  rw [h] at this
  cases this
theorem zeh {x : ByteArray} (h : isW x [] = true) : Zl x = false := by
  rw [← Bool.not_eq_true]
  intro hp
  exact zcz hp (by simpa [isW] using h)
theorem zcI {w : ByteArray} {n : Nat} {o : ByteArray} {b : Bool} (hp : Zl o = false) (h : isW o [] = false ∨ b = true) : kindS w n o b = false := by
  have h2 : (isW o [] && !b) = false := by rcases h with h | h <;> simp [h]
  unfold kindS
  simp only [hp, h2, Bool.and_false]
  repeat' split
  all_goals rfl
theorem ze9 {w : ByteArray} {n : Nat} {o : ByteArray} (hp : Zl o = true) : kindS w (n + 1) o true = kindI w n false := by
  have e1 : ∀ a b : Nat, inR ((n + 1 : Nat) : Int) ((a + 1 : Nat) : Int) ((b + 1 : Nat) : Int) = inR n a b := fun a b => by unfold inR; simp
  have e2 := e1 1 3
  unfold kindS kindI
  simp only [hp]
  simp only [show ((1 + 1 : Nat) : Int) = 2 from rfl, show ((3 + 1 : Nat) : Int) = 4 from rfl, show ((1 : Nat) : Int) = 1 from rfl, show ((3 : Nat) : Int) = 3 from rfl] at e2
  have e3 : inR ((n : Int) + 1) 2 4 = inR n 1 3 := e2
  have h01 : decide (1 ≤ n) = decide (0 < n) := rfl
  simp [e3, h01]
theorem ze8 {w : ByteArray} {n : Nat} : kindS w (n + 1) ⟨#[]⟩ false = kindI w n true := by
  have hp : Zl ⟨#[]⟩ = false := by decide
  have h01 : decide (1 ≤ n) = decide (0 < n) := rfl
  unfold kindS kindI
  simp [hp, isW, h01]
theorem zbt {w : ByteArray} {ws : List ByteArray} (h : 1 < ws.length) : (w :: ws).take (ws.length - 1) = w :: ws.take (ws.length - 2) := by
  have e : ws.length - 1 = (ws.length - 2) + 1 := by omega
  rw [e, List.take_succ_cons]
theorem zg4 (s : ByteArray) : (actI (yi s)).2 = yQ s ∧ (yQ s = true → (actI (yi s)).1 = aggA (atB (l15W s).1 0) ((l15W s).1.drop 1) (l15W s).2) := by
  have hA : yQ s = (fullB (l15W s).1 && (!((l15W s).1.length == 0) && kindS (atB (l15W s).1 0) (l15W s).1.length (l15W s).2 (yx (yi s)))) := rfl
  obtain ⟨h1, _⟩ := zR s
  cases hl : yi s with
  | nil => rw [hl] at h1; simp at h1
  | cons w ws =>
  have hW := ze6 hl
  rw [hl] at hA
  rw [Z3]
  by_cases hE : hasT ⟨#[]⟩ (w :: ws) = true
  · rw [if_pos hE]
    have hF : yQ s = false := by
      obtain ⟨x, hx, hx2⟩ := List.any_eq_true.1 hE
      have hx2 : isW x [] = true := by simpa [sameT, isW] using hx2
      rw [hA]
      by_cases hI : yx (w :: ws) = true
      · rw [hW, if_pos hI]
        simp only
        have hI2 : 2 ≤ (w :: ws).length ∧ isW (atB (w :: ws) ((w :: ws).length - 2)) [62] = true := by simpa [yx] using hI
        simp only [List.length_cons] at hI2
        have hlast : x ∈ (w :: ws).take (ws.length - 1) ∨ x = atB (w :: ws) (ws.length - 1) ∨ x = atB (w :: ws) ws.length := by
          obtain ⟨i, hi, rfl⟩ := List.mem_iff_getElem.1 hx
          simp only [List.length_cons] at hi
          by_cases c1 : i < ws.length - 1
          · left
            exact List.mem_iff_getElem.2 ⟨i, by rw [List.length_take, List.length_cons]; omega, by rw [List.getElem_take]⟩
          · have ha : ∀ k (hk : k < (w :: ws).length), (w :: ws)[k] = atB (w :: ws) k := fun k hk => by unfold atB; rw [List.getElem?_eq_getElem hk]; rfl
            rw [ha i (by simpa using hi)]
            by_cases c2 : i = ws.length - 1
            · rw [c2]; exact .inr (.inl rfl)
            · have c3 : i = ws.length := by omega
              rw [c3]; exact .inr (.inr rfl)
        rcases hlast with h | h | h
        · rw [zdK h hx2]; rfl
        · have h3 := hI2.2
          rw [show ws.length + 1 - 2 = ws.length - 1 by omega, ← h] at h3
          simp [isW] at h3 hx2
          rw [hx2] at h3; cases h3
        · rw [← h, zcI (zeh hx2) (.inr hI)]
          simp
      · rw [hW, if_neg hI]
        simp only
        rw [zdK hx hx2]; rfl
    rw [hF]
    exact ⟨rfl, fun h => by cases h⟩
  rw [if_neg hE]
  have hE0 : hasT ⟨#[]⟩ (w :: ws) = false := by simpa using hE
  have hnb := zen hE0
  by_cases hS : signB ws = true
  · have hS2 : 1 < ws.length ∧ isW (atB ws (ws.length - 2)) [62] = true := by simpa [signB] using hS
    have hat : ∀ k, atB (w :: ws) (k + 1) = atB ws k := fun k => by unfold atB; rw [List.getElem?_cons_succ]
    have hI : yx (w :: ws) = true := by
      have e : (w :: ws).length - 2 = (ws.length - 2) + 1 := by simp only [List.length_cons]; omega
      unfold yx
      rw [e, hat, hS2.2]
      simp only [List.length_cons, Bool.and_true, decide_eq_true_eq]
      omega
    have e2 : ws.length = (ws.length - 1) + 1 := by omega
    have hW2 : l15W s = (w :: ws.take (ws.length - 2), atB ws (ws.length - 1)) := by
      rw [hW, if_pos hI, zbt hS2.1]
      have : atB (w :: ws) ws.length = atB ws (ws.length - 1) := by rw [← hat, ← e2]
      rw [this]
    have hin : isW (atB ws (ws.length - 1)) [] = false := by
      refine hnb _ (List.mem_cons_of_mem _ ?_)
      unfold atB
      rw [List.getElem?_eq_getElem (show ws.length - 1 < ws.length by omega)]
      exact List.getElem_mem _
    have hfl : fullB (w :: ws.take (ws.length - 2)) = true := zfn fun x hx => hnb x (by
      rcases List.mem_cons.1 hx with rfl | hx
      · exact List.mem_cons_self
      · exact List.mem_cons_of_mem _ (List.mem_of_mem_take hx))
    have hlt : (ws.take (ws.length - 2)).length = ws.length - 2 := by rw [List.length_take, Nat.min_eq_left (by omega)]
    rw [if_pos hS, hA, hW2, hI]
    simp only [hfl, List.length_cons, hlt]
    by_cases hp : Zl (atB ws (ws.length - 1)) = true
    · rw [if_pos hp, ze9 hp]
      refine ⟨by simp [atB], fun _ => rfl⟩
    · rw [if_neg hp, zcI (by simpa using hp) (.inl hin)]
      exact ⟨by simp, fun h => by simp at h⟩
  · rw [if_neg hS, hA]
    by_cases hI : yx (w :: ws) = true
    · have hI2 : 2 ≤ (w :: ws).length ∧ isW (atB (w :: ws) ((w :: ws).length - 2)) [62] = true := by simpa [yx] using hI
      simp only [List.length_cons] at hI2
      have hS2 : ¬ (1 < ws.length) := fun h => hS (by
        have e : ws.length + 1 - 2 = (ws.length - 2) + 1 := by omega
        have h3 := hI2.2
        rw [e] at h3
        unfold atB at h3
        rw [List.getElem?_cons_succ] at h3
        simp [signB, h, atB, h3])
      have h1l : ws.length = 1 := by omega
      have hw62 : w.toList = [62] := by
        have h3 := hI2.2
        rw [h1l] at h3
        simpa [atB, isW] using h3
      have hk : kindI w ws.length true = false := by simp [kindI, isW, hw62]
      rw [hW, if_pos hI, hk, h1l]
      exact ⟨by simp, fun h => by simp at h⟩
    · have hI0 : yx (w :: ws) = false := by simpa using hI
      rw [hW, if_neg hI, hI0]
      simp only [zfn hnb, List.length_cons]
      have e0 : atB (w :: ws) 0 = w := rfl
      rw [e0, ze8]
      refine ⟨by simp, fun _ => rfl⟩
structure JL (j : Job) : Prop where
  a : j.acts.length < 1048578
  i : j.ins.length < 4611686018427387904
  e : j.envs.length < 4611686018427387904
  d : j.deps.length < 4611686018427387904
  o : ∀ m ∈ j.deps, m.outs.length < 4611686018427387904
  t : ∀ f ∈ j.ins, f.text.size ≤ 1048576
structure Sm (m : Made) : Prop where
  n : m.outs.length ≤ 6
  f : ∀ x ∈ m.outs, x.path.size ≤ 1048576 ∧ x.text.size ≤ 60
  l : m.log.size ≤ 200
theorem Sm.ok {m : Made} (h : Sm m) : File.ty.slice.ok m.outs := ⟨show m.outs.length * 32 ≤ 140737488351232 by have := h.n; omega, fun x hx => ⟨show x.path.size ≤ 140737488351232 by have := (h.f x hx).1; omega, show x.text.size ≤ 140737488351232 by have := (h.f x hx).2; omega, trivial⟩⟩
theorem zaK (xs : List File) (f : File) : ∀ x ∈ (yh xs f).1, x = f ∨ x ∈ xs := fun x hx => by
  unfold yh at hx
  rw [ZQ] at hx
  split at hx
  · rcases zdR _ _ x hx with h | h
    · exact .inl h
    · exact .inr (List.mem_filter.1 h).1
  · exact .inr hx
theorem zga {j : Job} {m : Made} (h : Sm m) {w o : ByteArray} {ws : List ByteArray} (ho : o.size ≤ 1048576) : Sm (doAct j m w ws o).1 := by
  unfold doAct
  split
  · exact h
  · split
    · split
      · exact h
      · exact ⟨h.n, h.f, by simp only; omega⟩
    · split
      · rename_i hc
        simp only [Bool.and_eq_true, decide_eq_true_eq] at hc
        refine ⟨hc.2.2, fun x hx => ?_, h.l⟩
        rcases zaK _ _ x hx with rfl | hx
        · exact ⟨ho, zaJ hc.2.1⟩
        · exact h.f x hx
      · exact h
theorem zdo {j : Job} {m : Made} (h : Sm m) {s : ByteArray} (hs : s.size ≤ 1048576) : Sm (actV j m s).1 := by
  unfold actV
  split
  · exact zga h (zan s hs)
  · exact h
theorem zfM {j : Job} {m : Made} {s : ByteArray} (h : (actV j m s).2 = false) : (actV j m s).1 = m := by
  unfold actV doAct at h ⊢
  split at h
  · rename_i h1
    rw [if_pos h1]
    split at h
    · rename_i h2; rw [if_pos h2]
    · rename_i h2; rw [if_neg h2]
      split at h
      · rename_i h3; rw [if_pos h3]
        split at h
        · rename_i h4; rw [if_pos h4]
        · cases h
      · rename_i h3; rw [if_neg h3]
        split at h
        · cases h
        · rename_i h4; rw [if_neg h4]
  · rename_i h1
    rw [if_neg h1]
def makeF (j : Job) : Made → List ByteArray → Made × Bool
  | m, [] => (m, true)
  | m, s :: l => if (actV j m s).2 then makeF j (actV j m s).1 l else (m, false)
def makeV (j : Job) : Made × Bool := makeF j ⟨j.name, [], ⟨#[]⟩⟩ j.acts
theorem zer (l : List ByteArray) : ((actI l).1 = zeroA ∧ (actI l).2 = false) ∨ ∃ w ws o, (actI l).1 = aggA w ws o := by
  unfold actI
  split
  · exact .inl ⟨rfl, rfl⟩
  · split
    · exact .inl ⟨rfl, rfl⟩
    · split
      · split
        · exact .inr ⟨_, _, _, rfl⟩
        · exact .inl ⟨rfl, rfl⟩
      · exact .inr ⟨_, _, _, rfl⟩
theorem zaX {s : ByteArray} (hs : s.size ≤ 1048576) : ((l15W s).1.drop 1).length ≤ 1048577 ∧ ∀ x ∈ (l15W s).1.drop 1, x.size ≤ 1048576 := by
  obtain ⟨_, h2⟩ := zR s
  have h3 := zau s
  have hsub : ∀ x ∈ (l15W s).1, x ∈ yi s := fun x hx => by
    unfold l15W at hx
    split at hx
    · exact List.mem_of_mem_take hx
    · exact hx
  have hl : (l15W s).1.length ≤ (yi s).length := by
    unfold l15W
    split
    · show (List.take _ _).length ≤ _
      rw [List.length_take]; omega
    · exact Nat.le_refl _
  refine ⟨by rw [List.length_drop]; omega, fun x hx => Nat.le_trans (h3 x (hsub x (List.mem_of_mem_drop hx))) hs⟩
theorem zbK {s : ByteArray} (h : yQ s = true) : (isW (atB (l15W s).1 0) [101, 110, 118] = true → 1 ≤ ((l15W s).1.drop 1).length) ∧ (isW (atB (l15W s).1 0) [117, 115, 101] = true → 2 ≤ ((l15W s).1.drop 1).length) ∧ (isW (atB (l15W s).1 0) [112, 117, 116] = true ∨ isW (atB (l15W s).1 0) [99, 97, 116] = true ∨ isW (atB (l15W s).1 0) [101, 110, 118] = true ∨ isW (atB (l15W s).1 0) [117, 115, 101] = true ∨ isW (atB (l15W s).1 0) [108, 111, 103] = true ∨ isW (atB (l15W s).1 0) [102, 97, 105, 108] = true) ∧ 1 ≤ (l15W s).1.length := by
  unfold yQ at h
  simp only [Bool.and_eq_true, Bool.not_eq_true', beq_eq_false_iff_ne] at h
  obtain ⟨_, h0, hk⟩ := h
  generalize atB (l15W s).1 0 = w at hk ⊢
  generalize yx (yi s) = b at hk
  generalize (l15W s).2 = o at hk
  rw [List.length_drop]
  generalize (l15W s).1.length = n at h0 hk ⊢
  unfold kindS at hk
  have e : ∀ l : List UInt8, isW w l = true ↔ w.toList = l := fun l => by simp [isW]
  refine ⟨fun h => ?_, fun h => ?_, ?_, by omega⟩
  · rw [e] at h
    simp [isW, h] at hk
    omega
  · rw [e] at h
    simp [isW, h] at hk
    omega
  · by_cases k1 : isW w [112, 117, 116] = true
    · exact .inl k1
    by_cases k2 : isW w [99, 97, 116] = true
    · exact .inr (.inl k2)
    by_cases k3 : isW w [101, 110, 118] = true
    · exact .inr (.inr (.inl k3))
    by_cases k4 : isW w [117, 115, 101] = true
    · exact .inr (.inr (.inr (.inl k4)))
    by_cases k5 : isW w [108, 111, 103] = true
    · exact .inr (.inr (.inr (.inr (.inl k5))))
    by_cases k6 : isW w [102, 97, 105, 108] = true
    · exact .inr (.inr (.inr (.inr (.inr k6))))
    simp [k1, k2, k3, k4, k5, k6] at hk
theorem R160 (xs : List ByteArray) (sep : ByteArray) (hN : xs.length ≤ 140737488355328) (hlen : (joinB xs sep).size ≤ 140737488355328) : Ret Tryz.prog 160 [.ro (rows Ty.str.cs xs) xs.length, .sc (.string sep)] (.sc (.string (joinB xs sep))) [.un, .un] := Ret.joinOf Tryz.laysJoin Tryz.extraJoin rfl xs sep hN hlen
def A161 : AC := (.seq (.ops [wO 3 (.box (.t 1)), qO 4 (.mov (.c (.sc (.string ⟨#[]⟩)))), qO 5 (.mov (.c (.sc (.bool false))))])
  (.seq (.seq (.ops [qO 11 (.fadr 0 (.t 3)), qO 12 (.load false 1 (.t 11))])
  (.block 0 (.seq (.ops [qO 14 (.bin .eql (.t 12) (.c (.sc (.string ⟨#[112, 117, 116]⟩)))), qO 13 (.mov (.t 14))])
  (.cond (.t 13) (.seq (.ops [qO 15 (.fadr 1 (.t 3)), qO 16 (.load false 1 (.t 15)), cO 17 160 [.t 16, (.c (.sc (.string ⟨#[32]⟩)))], qO 4 (.mov (.t 17)), qO 5 (.mov (.c (.sc (.bool true))))])
  .ret)
  (.seq (.ops [qO 19 (.bin .eql (.t 12) (.c (.sc (.string ⟨#[101, 110, 118]⟩)))), qO 18 (.mov (.t 19))])
  (.cond (.t 18) (.seq (.any [(qO 20 (.mov (.t 0)), []), (qO 21 (.nilc (.t 20)), [0]), (qO 22 (.fadr 3 (.t 21)), [1]), (qO 23 (.load false 1 (.t 22)), [2]), (qO 24 (.fadr 1 (.t 3)), []), (qO 25 (.load false 1 (.t 24)), [4]), (qO 26 (.iadr 1 (.t 25) (iC 0)), [5]), (qO 27 (.load false 1 (.t 26)), [6]), (cO 28 45 [.t 23, .t 27], [3, 7]), (qO 29 (.ext (.t 28) 0), [8]), (qO 30 (.ext (.t 28) 1), [8]), (qO 4 (.mov (.t 29)), [9, 8, 0, 1, 2, 3, 4, 5, 6, 7, 8, 9, 10]), (qO 5 (.mov (.t 30)), [10, 11, 0, 1, 2, 3, 4, 5, 6, 7, 8, 9, 10, 11])])
  .ret)
  (.seq (.ops [qO 32 (.bin .eql (.t 12) (.c (.sc (.string ⟨#[117, 115, 101]⟩)))), qO 31 (.mov (.t 32))])
  (.cond (.t 31) (.seq (.any [(qO 33 (.mov (.t 0)), []), (qO 34 (.nilc (.t 33)), [0]), (qO 35 (.fadr 4 (.t 34)), [1]), (qO 36 (.load false 1 (.t 35)), [2]), (qO 37 (.fadr 1 (.t 3)), []), (qO 38 (.load false 1 (.t 37)), [4]), (qO 39 (.iadr 1 (.t 38) (iC 0)), [5]), (qO 40 (.load false 1 (.t 39)), [6]), (qO 41 (.fadr 1 (.t 3)), []), (qO 42 (.load false 1 (.t 41)), [8]), (qO 43 (.iadr 1 (.t 42) (iC 1)), [9]), (qO 44 (.load false 1 (.t 43)), [10]), (cO 45 219 [.t 36, .t 40, .t 44], [3, 7, 11]), (qO 46 (.ext (.t 45) 0), [12]), (qO 47 (.ext (.t 45) 1), [12]), (qO 4 (.mov (.t 46)), [13, 12, 0, 1, 2, 3, 4, 5, 6, 7, 8, 9, 10, 11, 12, 13, 14]), (qO 5 (.mov (.t 47)), [14, 15, 0, 1, 2, 3, 4, 5, 6, 7, 8, 9, 10, 11, 12, 13, 14, 15])])
  .ret)
  .skip))))))))
  (.seq (.ops [qO 6 (.mov (.c (.sc (.string ⟨#[]⟩))))])
  (.seq (.seq (.ops [qO 48 (.fadr 1 (.t 3)), qO 49 (.load false 1 (.t 48)), qO 50 (.llen (.t 49)), qO 51 (.mov (iC 0))])
  (.block 1 (.loop (.seq (.ops [qO 52 (.bin .lss (.t 51) (.t 50))])
  (.seq (.cond (.t 52) .skip
  (.exit 1))
  (.seq (.block 2 (.seq (.ops [qO 53 (.iadr 1 (.t 49) (.t 51)), qO 54 (.load false 1 (.t 53)), qO 8 (.mov (.t 54))])
  (.seq (.ops [qO 56 (.mov (.t 0)), qO 57 (.nilc (.t 56)), qO 58 (.fadr 2 (.t 57)), qO 59 (.load false 1 (.t 58)), qO 60 (.mov (.t 8)), cO 61 220 [.t 59, .t 60], qO 55 (.mov (.t 61)), qO 62 (.ext (.t 55) 0), qO 63 (.ext (.t 55) 1), qO 9 (.mov (.t 62)), qO 10 (.mov (.t 63))])
  (.seq (.seq (.ops [qO 64 (.mov (.t 10)), qO 65 (.not (.t 64))])
  (.cond (.t 65) (.seq (.ops [qO 4 (.mov (.c (.sc (.string ⟨#[]⟩)))), qO 5 (.mov (.c (.sc (.bool false))))])
  .ret)
  .skip))
  (.ops [qO 66 (.mov (.t 6)), qO 67 (.mov (.t 9)), qO 68 (.bin .add (.t 66) (.t 67)), qO 6 (.mov (.t 68))])))))
  (.ops [qO 69 (.bin .add (.t 51) (iC 1)), qO 51 (.mov (.t 69))])))))))
  (.seq (.ops [qO 70 (.mov (.t 6)), qO 4 (.mov (.t 70)), qO 5 (.mov (.c (.sc (.bool true))))])
  .ret)))))
theorem K161 : Kf Tryz.prog Tryz.f161 A161 71 [.mov (.t 4), .mov (.t 5)] := ⟨by kernel_rfl, by kernel_rfl, by kernel_rfl⟩
set_option maxHeartbeats 4000000 in
set_option maxRecDepth 20000 in
theorem R161 (j : Job) (hj : JL j) (w o : ByteArray) (ws : List ByteArray) (hl : ws.length ≤ 1048577) (hz : ∀ x ∈ ws, x.size ≤ 1048576) (he : isW w [101, 110, 118] = true → 1 ≤ ws.length) (hu : isW w [117, 115, 101] = true → 2 ≤ ws.length) :
    Ret Tryz.prog 161 [.rp (Job.ty.cs j) 0, aggA w ws o] (.tup [.sc (.string (textI j w ws).1), .sc (.bool (textI j w ws).2)]) [.un, .un] := by
  have hjs : (joinB ws sp).size ≤ 140737488355328 := by
    have h1 := Y5 sp hz
    have h2 : ws.length * (sp.size + 1048576) ≤ 1048577 * 1048577 := Nat.mul_le_mul hl (by decide)
    exact Nat.le_trans h1 (Nat.le_trans h2 (by decide))
  have rJ : Ret Tryz.prog 160 [.ro (rows Ty.str.cs ws) ws.length, .sc (.string ⟨#[32]⟩)] (.sc (.string (joinB ws sp))) [.un, .un] := R160 ws sp (by omega) hjs
  have hln := zU ws
  refine Ret.run Tryz.func161 K161 (by simp) rfl rfl 900 ?_
  by_cases k1 : w.toList = [112, 117, 116]
  · have hT : textI j w ws = (joinB ws sp, true) := by simp [textI, isW, k1]
    rw [hT]
    simp [A161, iniρ, aggA, k1]
    refine callK.ro 0 rfl (by kernel_rfl) (by simp [ze, Yc]) rJ rfl rfl rfl ?_
    simp
  by_cases k2 : w.toList = [101, 110, 118]
  · have hT : textI j w ws = getE j.envs (atB ws 0) := by simp [textI, isW, k2]
    have h1 : 0 < ws.length := he (by simp [isW, k2])
    have hd := ZF ws 0 h1
    rw [List.drop_zero] at hd
    rw [hT]
    simp [A161, iniρ, aggA, k1, k2]
    refine T.textW 400 [([], []), ([], []), ([], []), ([], []), ([], []), ([], []), ([], []), ([], []), ([], []), ([], []), ([], []), ([], []), ([], [])] mixed (by kernel_rfl) (by kernel_rfl) ?_
    simp [Job.cse, hd, h1]
    refine yf.ro 0 rfl (by kernel_rfl) (by simp [ze, Yc]) (R45 j.envs (atB ws 0) hj.e) rfl rfl (by rfl) ?_
    simp
  by_cases k3 : w.toList = [117, 115, 101]
  · have hT : textI j w ws = getM j.deps (atB ws 0) (atB ws 1) := by simp [textI, isW, k3]
    have h2 : 2 ≤ ws.length := hu (by simp [isW, k3])
    have h1 : 0 < ws.length := by omega
    have h11 : 1 < ws.length := by omega
    have h12 : (1 : Int) < ws.length := by omega
    have hd := ZF ws 0 h1
    rw [List.drop_zero] at hd
    have hd1 := ZF ws 1 h11
    rw [hd, List.drop_succ_cons, List.drop_zero] at hd1
    have hd1 : rows Ty.str.cs ws.tail = .sc (.string (atB ws 1)) :: rows Ty.str.cs (List.drop 2 ws) := by rw [← List.drop_one]; exact hd1
    rw [hT]
    simp [A161, iniρ, aggA, k1, k2, k3]
    refine T.textW 400 [([], []), ([], []), ([], []), ([], []), ([], []), ([], []), ([], []), ([], []), ([], []), ([], []), ([], []), ([], []), ([], []), ([], []), ([], []), ([], []), ([], [])] mixed (by kernel_rfl) (by kernel_rfl) ?_
    simp [Job.cse, hd, hd1, h1, h11, h12]
    refine yf.ro 0 rfl (by kernel_rfl) (by simp [ze, Yc]) (R219 j.deps (atB ws 0) (atB ws 1) hj.d hj.o) rfl rfl (by rfl) ?_
    simp
  have hT : textI j w ws = catF j.ins ⟨#[]⟩ ws := by simp [textI, isW, k1, k2, k3]
  rw [hT]
  simp [A161, iniρ, aggA, k1, k2, k3]
  refine T.rounds (μ := fun i : List ByteArray × List ByteArray × ByteArray => i.2.1.length)
    (fun i s => i.1 ++ i.2.1 = ws ∧ catF j.ins i.2.2 i.2.1 = catF j.ins ⟨#[]⟩ ws ∧ i.2.2.size ≤ i.1.length * 1048576 ∧ s.ρ 0 = .rp (Job.ty.cs j) 0 ∧ s.ρ 6 = .sc (.string i.2.2) ∧ s.ρ 49 = .ro (rows Ty.str.cs ws) ws.length ∧ s.ρ 50 = .sc (.int .i64 ws.length) ∧ s.ρ 51 = .sc (.int .i64 i.1.length) ∧ s.n = 71) ([], ws, ⟨#[]⟩) (by simp [za]; rfl) ?_
  rintro ⟨pre, rest, acc⟩ ⟨ρ, hh, n⟩ ⟨hx, hE, hz, k0, k6, k49, k50, k51, rfl⟩
  simp only at hx hE hz k0 k6 k49 k50 k51
  refine yg (n := 400) ?_
  cases rest with
  | nil =>
    have hxl : pre.length = ws.length := by rw [← hx]; simp
    have hE : (acc, true) = catF j.ins ⟨#[]⟩ ws := hE
    rw [← hE]
    simp [k50, k51, hxl]
    refine T.on 400 ?_
    simp [k6]
  | cons x rest =>
    have hle : pre.length + (rest.length + 1) = ws.length := by rw [← hx]; simp
    have hlt : (pre.length : Int) < ws.length := by omega
    have hlt2 : pre.length < ws.length := by omega
    have hwr : IntKind.i64.wrap ((pre.length : Int) + 1) = pre.length + 1 := zc (by omega) (by omega)
    have hat : atB ws pre.length = x := by unfold atB; rw [← hx, List.getElem?_append_right (Nat.le_refl _)]; simp
    have hd := ZF ws pre.length hlt2
    rw [hat] at hd
    have hts := zcN hj.t x
    have hpm : pre.length * 1048576 ≤ 1048577 * 1048576 := Nat.mul_le_mul_right _ (by omega)
    have hadd : acc.size + (getF j.ins x).1.size ≤ 9223372036854775807 := by omega
    rw [catF] at hE
    simp [k0, k49, k50, k51, hlt, hlt2, hd, Job.cse]
    refine callK.ro 0 rfl (by kernel_rfl) (by simp [ze, Yc, za]) (R220 j.ins x hj.i) rfl rfl rfl ?_
    by_cases hg : (getF j.ins x).2 = true
    · rw [if_pos hg] at hE
      simp [hg, k6, hadd, k51, hwr]
      refine ⟨pre ++ [x], rest, by simp, acc ++ (getF j.ins x).1, _, Le.refl _, by simpa using hx, hE, ?_, ?_⟩
      · rw [ByteArray.size_append, List.length_append, Nat.add_mul]
        simp only [List.length_cons, List.length_nil]
        omega
      · simp [za, k0, k49, k50, Job.cse]
    · have hg : (getF j.ins x).2 = false := by simpa using hg
      rw [hg] at hE
      have hE : (⟨#[]⟩, false) = catF j.ins ⟨#[]⟩ ws := hE
      rw [← hE]
      simp [hg]
def A78 : AC := (.seq (.ops [wO 3 (.box (.t 0)), wO 4 (.box (.t 1)), wO 6 (.alloc [(.sc (.string ⟨#[]⟩)), .em, (.sc (.string ⟨#[]⟩))]), qO 7 (.mov (.c (.sc (.bool false))))])
  (.seq (.ops [qO 16 (.load true 3 (.t 4)), cO 17 48 [.t 16], wO 8 (.alloc [(.sc (.string ⟨#[]⟩)), .em, (.sc (.string ⟨#[]⟩))]), nO (.store 3 (.t 8) (.t 17))])
  (.seq (.ops [qO 19 (.mov (.t 2)), cO 20 159 [.t 19], qO 18 (.mov (.t 20)), qO 21 (.ext (.t 18) 0), qO 22 (.ext (.t 18) 1), wO 9 (.alloc [(.sc (.string ⟨#[]⟩)), .em, (.sc (.string ⟨#[]⟩))]), nO (.store 3 (.t 9) (.t 21)), qO 10 (.mov (.t 22))])
  (.seq (.seq (.ops [qO 23 (.mov (.t 10)), qO 24 (.not (.t 23)), qO 25 (.mov (.t 24)), qG 26 25 false (.fadr 0 (.t 9)), qG 27 25 false (.load false 1 (.t 26)), qG 28 25 false (.bin .eql (.t 27) (.c (.sc (.string ⟨#[102, 97, 105, 108]⟩)))), qO 29 (.pick (.t 25) (.c (.sc (.bool true))) (.t 28))])
  (.cond (.t 29) (.seq (.ops [qO 30 (.load true 3 (.t 8)), nO (.store 3 (.t 6) (.t 30)), qO 7 (.mov (.c (.sc (.bool false))))])
  .ret)
  .skip))
  (.seq (.seq (.ops [qO 31 (.fadr 0 (.t 9)), qO 32 (.load false 1 (.t 31)), qO 33 (.bin .eql (.t 32) (.c (.sc (.string ⟨#[108, 111, 103]⟩))))])
  (.cond (.t 33) (.seq (.any [(qO 34 (.fadr 2 (.t 4)), []), (qO 35 (.load false 1 (.t 34)), [0]), (qO 36 (.fadr 1 (.t 9)), []), (qO 37 (.load false 1 (.t 36)), [2]), (cO 38 160 [.t 37, (.c (.sc (.string ⟨#[32]⟩)))], [3]), (qO 39 (.bin .add (.t 35) (.t 38)), [1, 4]), (qO 40 (.bin .add (.t 39) (.c (.sc (.string ⟨#[10]⟩)))), [5]), (qO 11 (.mov (.t 40)), [6, 4, 0, 1, 2, 3, 4, 5, 6])])
  (.seq (.seq (.ops [qO 41 (.mov (.t 11)), qO 42 (.slen (.t 41)), qO 43 (.bin .gtr (.t 42) (iC 200))])
  (.cond (.t 43) (.seq (.ops [qO 44 (.load true 3 (.t 8)), nO (.store 3 (.t 6) (.t 44)), qO 7 (.mov (.c (.sc (.bool false))))])
  .ret)
  .skip))
  (.seq (.ops [qO 45 (.mov (.t 11)), qO 46 (.fadr 2 (.t 8)), nO (.store 1 (.t 46) (.t 45))])
  (.seq (.ops [qO 47 (.load true 3 (.t 8)), nO (.store 3 (.t 6) (.t 47)), qO 7 (.mov (.c (.sc (.bool true))))])
  .ret))))
  .skip))
  (.seq (.ops [qO 49 (.load true 3 (.t 9)), cO 50 161 [.t 3, .t 49], qO 48 (.mov (.t 50)), qO 51 (.ext (.t 48) 0), qO 52 (.ext (.t 48) 1), qO 12 (.mov (.t 51)), qO 13 (.mov (.t 52))])
  (.seq (.seq (.ops [qO 53 (.mov (.t 13)), qO 54 (.not (.t 53)), qO 55 (.mov (.t 54)), qG 56 55 false (.mov (.t 12)), qG 57 55 false (.slen (.t 56)), qG 58 55 false (.bin .gtr (.t 57) (iC 60)), qO 59 (.pick (.t 55) (.c (.sc (.bool true))) (.t 58))])
  (.cond (.t 59) (.seq (.ops [qO 60 (.load true 3 (.t 8)), nO (.store 3 (.t 6) (.t 60)), qO 7 (.mov (.c (.sc (.bool false))))])
  .ret)
  .skip))
  (.seq (.ops [qO 62 (.fadr 1 (.t 4)), qO 63 (.load false 1 (.t 62)), qO 64 (.fadr 2 (.t 9)), qO 65 (.load false 1 (.t 64)), qO 66 (.mov (.t 12)), wO 67 (.build [(.sc (.string ⟨#[]⟩)), (.sc (.string ⟨#[]⟩))] [(0, 1, (.t 65)), (1, 1, (.t 66))]), cO 68 162 [.t 63, .t 67], qO 61 (.mov (.t 68)), qO 69 (.ext (.t 61) 0), qO 70 (.ext (.t 61) 1), qO 14 (.mov (.t 69)), qO 15 (.mov (.t 70))])
  (.seq (.seq (.ops [qO 71 (.mov (.t 15)), qO 72 (.not (.t 71)), qO 73 (.mov (.t 72)), qG 74 73 false (.mov (.t 14)), qG 75 73 false (.llen (.t 74)), qG 76 73 false (.bin .gtr (.t 75) (iC 6)), qO 77 (.pick (.t 73) (.c (.sc (.bool true))) (.t 76))])
  (.cond (.t 77) (.seq (.ops [qO 78 (.load true 3 (.t 8)), nO (.store 3 (.t 6) (.t 78)), qO 7 (.mov (.c (.sc (.bool false))))])
  .ret)
  .skip))
  (.seq (.ops [qO 79 (.mov (.t 14)), qO 80 (.fadr 1 (.t 8)), nO (.store 1 (.t 80) (.t 79))])
  (.seq (.ops [qO 81 (.load true 3 (.t 8)), nO (.store 3 (.t 6) (.t 81)), qO 7 (.mov (.c (.sc (.bool true))))])
  .ret)))))))))))
theorem K78 : Kf Tryz.prog Tryz.f78 A78 82 [.load true 3 (.t 6), .mov (.t 7)] := ⟨by kernel_rfl, by kernel_rfl, by kernel_rfl⟩
set_option maxHeartbeats 8000000 in
set_option maxRecDepth 20000 in
theorem R78 (j : Job) (hj : JL j) (m : Made) (hm : Sm m) (s : ByteArray) (hs : s.size ≤ 1048576) : Ret Tryz.prog 78 [.agg (Job.ty.cs j), .agg (Made.ty.cs m), .sc (.string s)] (.tup [.agg (Made.ty.oc (actV j m s).1), .sc (.bool (actV j m s).2)]) [.un, .un, .un] := by
  have hmn := hm.n
  have hml := hm.l
  have rA := R159 s hs
  obtain ⟨a1, a2⟩ := zg4 s
  have ash := zer (yi s)
  obtain ⟨A, hAA⟩ : ∃ A, A = (actI (yi s)).1 := ⟨_, rfl⟩
  rw [← hAA] at rA a2 ash
  rw [a1] at rA ash
  have hid := File.frL m.outs
  refine Ret.run Tryz.func78 K78 (by simp) rfl rfl 900 ?_
  simp [A78, iniρ, over, Job.cse, Made.cse]
  refine callK.ro 17 rfl (by kernel_rfl) (by simp [Zg, ze, Yc, za, Made.cse]) (R48 m (by omega)) (by simpa [flt] using Made.ty.flL m) (by simp [inst, instL, Made.oce, za]; exact ⟨rfl, rfl⟩) rfl ?_
  simp [over]
  by_cases hok : yQ s = false
  case pos =>
   as_aux_lemma =>
    have hV : actV j m s = (m, false) := by unfold actV; rw [hok]; rfl
    rw [hok] at rA
    rw [hV]
    rcases ash with ⟨rfl, _⟩ | ⟨w, ws, o, rfl⟩
    · refine callK.cut [.ro] 50 (r := [(none, none)]) rfl (by kernel_rfl) rfl (by rfl) (by rfl) (by simp [Zt, shut, za]) (by simp [Yg, Yc, za]; rfl) (by rfl) rA (by rfl) (by rfl) (by rfl) rfl ?_
      simp [over, zeroA, ex1, File.ocl, hid, Made.oce]
    · refine callK.cut [.ro] 50 (r := [(none, none)]) rfl (by kernel_rfl) rfl (by rfl) (by rfl) (by simp [Zt, shut, za]) (by simp [Yg, Yc, za]; rfl) (by rfl) rA (by rfl) (by rfl) (by rfl) rfl ?_
      simp [over, aggA, ex1, File.ocl, hid, Made.oce]
  have hok : yQ s = true := by simpa using hok
  obtain ⟨w, hw⟩ : ∃ w, w = atB (l15W s).1 0 := ⟨_, rfl⟩
  obtain ⟨ws, hws⟩ : ∃ w, w = (l15W s).1.drop 1 := ⟨_, rfl⟩
  obtain ⟨o, ho⟩ : ∃ w, w = (l15W s).2 := ⟨_, rfl⟩
  have hA2 := a2 hok
  obtain ⟨kw1, kw2, kw3, _⟩ := zbK hok
  obtain ⟨z1, z2⟩ := zaX hs
  have hos := zan s hs
  have hV : actV j m s = doAct j m w ws o := by unfold actV; rw [hok, hw, hws, ho]; rfl
  rw [← hw, ← hws, ← ho] at hA2
  rw [← hw, ← hws] at kw1 kw2
  rw [← hw] at kw3
  rw [← hws] at z1 z2
  rw [← ho] at hos
  rw [hok, hA2] at rA
  rw [hV]
  have hln := zU ws
  refine callK.cut [.ro] 50 (r := [(none, none)]) rfl (by kernel_rfl) rfl (by rfl) (by rfl) (by simp [Zt, shut, za]) (by simp [Yg, Yc, za]; rfl) (by rfl) rA (by rfl) (by rfl) (by rfl) rfl ?_
  have hjs : (joinB ws sp).size ≤ 140737488355328 := by
    have h1 := Y5 sp z2
    have h2 : ws.length * (sp.size + 1048576) ≤ 1048577 * 1048577 := Nat.mul_le_mul z1 (by decide)
    exact Nat.le_trans h1 (Nat.le_trans h2 (by decide))
  by_cases k1 : w.toList = [102, 97, 105, 108]
  · have hD : doAct j m w ws o = (m, false) := by simp [doAct, isW, k1]
    rw [hD]
    simp [over, aggA, k1, ex1, File.ocl, hid, Made.oce]
  by_cases k2 : w.toList = [108, 111, 103]
  · have rJ : Ret Tryz.prog 160 [.ro (rows Ty.str.cs ws) ws.length, .sc (.string ⟨#[32]⟩)] (.sc (.string (joinB ws sp))) [.un, .un] := R160 ws sp (by omega) hjs
    have hz1 : m.log.size + (joinB ws sp).size ≤ 9223372036854775807 := by omega
    have hz2 : m.log.size + (joinB ws sp).size + (⟨#[10]⟩ : ByteArray).size ≤ 9223372036854775807 := by
      show m.log.size + (joinB ws sp).size + 1 ≤ _
      omega
    simp [over, aggA, k1, k2, Made.cse]
    refine T.textW 400 [([], []), ([], []), ([], []), ([], []), ([], []), ([], []), ([], []), ([], [])] mixed (by kernel_rfl) (by kernel_rfl) ?_
    simp [over, Zb, yb]
    refine yf.ro 0 rfl (by kernel_rfl) (by simp [ze, Yc, za]) rJ rfl rfl (by rfl) ?_
    have hls : (logT m ws).size = m.log.size + (joinB ws sp).size + (⟨#[10]⟩ : ByteArray).size := by unfold logT; rw [ByteArray.size_append, ByteArray.size_append]; rfl
    by_cases h2 : 200 < (logT m ws).size
    · have hD : doAct j m w ws o = (m, false) := by simp [doAct, isW, k2, h2]
      have h2' : (200 : Int) < (m.log.size : Int) + (joinB ws sp).size + ((⟨#[10]⟩ : ByteArray).size : Int) := by rw [hls] at h2; omega
      rw [hD]
      simp [over, hz1, hz2, h2', Zb, yb, ex1, File.ocl, hid, Made.oce]
    · have hD : doAct j m w ws o = (⟨m.task, m.outs, logT m ws⟩, true) := by simp [doAct, isW, k2, h2]
      have h2' : ¬ (200 : Int) < (m.log.size : Int) + (joinB ws sp).size + ((⟨#[10]⟩ : ByteArray).size : Int) := by rw [hls] at h2; omega
      have hlt : logT m ws = m.log ++ joinB ws sp ++ (⟨#[10]⟩ : ByteArray) := rfl
      rw [hD]
      simp [over, hz1, hz2, h2', Zb, yb, ex1, File.ocl, hid, Made.oce, hlt]
  have rT := R161 j hj w o ws z1 z2 kw1 kw2
  obtain ⟨t, ht⟩ : ∃ t, t = textI j w ws := ⟨_, rfl⟩
  rw [← ht] at rT
  have hD : doAct j m w ws o = if t.2 && ((yh m.outs ⟨o, t.1⟩).2 && decide ((yh m.outs ⟨o, t.1⟩).1.length ≤ 6)) then (⟨m.task, (yh m.outs ⟨o, t.1⟩).1, m.log⟩, true) else (m, false) := by
    unfold doAct
    rw [if_neg (by simp [isW, k1]), if_neg (by simp [isW, k2]), ← ht]
  rw [hD]
  simp [over, aggA, k1, k2, Made.cse, Job.cse]
  refine callK.ro 0 rfl (by kernel_rfl) (ys := [.rp (Job.ty.cs j) 0, aggA w ws o]) (by simp [roc, Zg, ze, Yc, za, Job.cse, aggA]) rT rfl rfl rfl ?_
  cases h2 : t.2 with
  | false =>
    simp [over, h2, ex1, File.ocl, hid, Made.oce]
  | true =>
  by_cases h6 : 60 < t.1.size
  · have hp : (yh m.outs ⟨o, t.1⟩).2 = false := by
      rw [← Bool.not_eq_true]
      intro h
      have := zaJ h
      simp only at this
      omega
    have h6' : (60 : Int) < t.1.size := by omega
    simp [over, h2, h6', hp, ex1, File.ocl, hid, Made.oce]
  have h6' : ¬ (60 : Int) < t.1.size := by omega
  have rP := R162 m.outs ⟨o, t.1⟩ hm.ok (fun x hx => (hm.f x hx).1) hos
  obtain ⟨p, hp⟩ : ∃ p, p = yh m.outs ⟨o, t.1⟩ := ⟨_, rfl⟩
  rw [← hp] at rP ⊢
  have hid2 := File.frL p.1
  simp [over, h2, h6', Made.cse]
  refine callK.ro 68 rfl (by kernel_rfl) (by simp [Zg, ze, Yc, za, File.cse]) rP (by simpa [flt, flt.fltL] using zbi (Ym (q := flt) (fun x c hc => (File.ty.ow x c hc).fl) _)) (by simp [inst, instL, za]; exact ⟨rfl, rfl⟩) rfl ?_
  cases h3 : p.2 with
  | false => simp [over, h3, ex1, File.ocl, hid, Made.oce]
  | true =>
  by_cases h4 : p.1.length ≤ 6
  · have h4' : ¬ (6 : Int) < p.1.length := by omega
    simp [over, h3, h4, h4', ex1, File.ocl, hid2, Made.oce]
  · have h4' : (6 : Int) < p.1.length := by omega
    simp [over, h3, h4, h4', ex1, File.ocl, hid, Made.oce]
def A24 : AC := (.seq (.ops [wO 1 (.box (.t 0)), wO 2 (.alloc [(.sc (.string ⟨#[]⟩)), .em, (.sc (.string ⟨#[]⟩))]), qO 3 (.mov (.c (.sc (.bool false))))])
  (.seq (.ops [qO 9 (.fadr 0 (.t 1)), qO 10 (.load false 1 (.t 9)), wO 11 (.build [(.sc (.string ⟨#[]⟩)), .em, (.sc (.string ⟨#[]⟩))] [(0, 1, (.t 10))]), wO 4 (.alloc [(.sc (.string ⟨#[]⟩)), .em, (.sc (.string ⟨#[]⟩))]), nO (.store 3 (.t 4) (.t 11))])
  (.seq (.seq (.ops [qO 12 (.fadr 1 (.t 1)), qO 13 (.load false 1 (.t 12)), qO 14 (.llen (.t 13)), qO 15 (.mov (iC 0))])
  (.block 0 (.loop (.seq (.ops [qO 16 (.bin .lss (.t 15) (.t 14))])
  (.seq (.cond (.t 16) .skip
  (.exit 0))
  (.seq (.block 1 (.seq (.ops [qO 17 (.iadr 1 (.t 13) (.t 15)), qO 18 (.load false 1 (.t 17)), qO 6 (.mov (.t 18))])
  (.seq (.ops [qO 20 (.load true 5 (.t 1)), qO 21 (.load true 3 (.t 4)), qO 22 (.mov (.t 6)), cO 23 78 [.t 20, .t 21, .t 22], qO 19 (.mov (.t 23)), qO 24 (.ext (.t 19) 0), qO 25 (.ext (.t 19) 1), wO 7 (.alloc [(.sc (.string ⟨#[]⟩)), .em, (.sc (.string ⟨#[]⟩))]), nO (.store 3 (.t 7) (.t 24)), qO 8 (.mov (.t 25))])
  (.seq (.seq (.ops [qO 26 (.mov (.t 8)), qO 27 (.not (.t 26))])
  (.cond (.t 27) (.seq (.ops [qO 28 (.load true 3 (.t 4)), nO (.store 3 (.t 2) (.t 28)), qO 3 (.mov (.c (.sc (.bool false))))])
  .ret)
  .skip))
  (.ops [qO 29 (.load true 3 (.t 7)), nO (.store 3 (.t 4) (.t 29))])))))
  (.ops [qO 30 (.bin .add (.t 15) (iC 1)), qO 15 (.mov (.t 30))])))))))
  (.seq (.ops [qO 31 (.load true 3 (.t 4)), nO (.store 3 (.t 2) (.t 31)), qO 3 (.mov (.c (.sc (.bool true))))])
  .ret))))
theorem K24 : Kf Tryz.prog Tryz.f24 A24 32 [.load true 3 (.t 2), .mov (.t 3)] := ⟨by kernel_rfl, by kernel_rfl, by kernel_rfl⟩
set_option maxHeartbeats 4000000 in
theorem R24 (j : Job) (hj : JL j) (hs : ∀ s ∈ j.acts, s.size ≤ 1048576) : Ret Tryz.prog 24 [.agg (Job.ty.cs j)] (.tup [.agg (Made.ty.oc (makeV j).1), .sc (.bool (makeV j).2)]) [.un] := by
  have hja := hj.a
  refine Ret.run Tryz.func24 K24 (by simp) rfl rfl 900 ?_
  simp [A24, iniρ, over, Job.cse]
  refine T.le (Le.layC 4 1 2 (by simp [za]; rfl) rfl) ?_
  refine T.le (Le.told [(1, .ref 1 0), (2, .ref 2 0), (4, .ref 4 0), (13, .ro (rows Ty.str.cs j.acts) j.acts.length), (14, .sc (.int .i64 j.acts.length)), (15, .sc (.int .i64 0))] [(1, Job.ty.cs j), (2, [.sc (.string ⟨#[]⟩), .em, .sc (.string ⟨#[]⟩)]), (4, Made.ty.oc ⟨j.name, [], ⟨#[]⟩⟩)]
    (by simp [toldT, yJ, zA, YH, zb, za]) (by simp [toldB, yD, ZJ, zA, zO, zal, YH, zb, zb.idfreeL, Yf, za, Job.cse, Made.oce])) ?_
  simp only [toldρ, toldH]
  refine T.rounds (μ := fun i : List ByteArray × List ByteArray × Made => i.2.1.length)
    (fun i s => i.1 ++ i.2.1 = j.acts ∧ makeF j i.2.2 i.2.1 = makeV j ∧ Sm i.2.2 ∧ s.ρ 1 = .ref 1 0 ∧ s.ρ 2 = .ref 2 0 ∧ s.ρ 4 = .ref 4 0 ∧ s.ρ 13 = .ro (rows Ty.str.cs j.acts) j.acts.length ∧ s.ρ 14 = .sc (.int .i64 j.acts.length) ∧ s.ρ 15 = .sc (.int .i64 i.1.length) ∧ s.h 1 = some (some (Job.ty.cs j)) ∧ s.h 2 = some (some [.sc (.string ⟨#[]⟩), .em, .sc (.string ⟨#[]⟩)]) ∧ s.h 4 = some (some (Made.ty.oc i.2.2)) ∧ s.h 60 = none ∧ s.h 7 = none ∧ s.h 24001001 = none ∧ s.n = 32) ([], j.acts, ⟨j.name, [], ⟨#[]⟩⟩) (by simp [za, makeV]; exact ⟨Nat.zero_le _, fun x hx => (by cases hx), Nat.zero_le _⟩) ?_
  rintro ⟨pre, rest, m⟩ ⟨ρ, hh, n⟩ ⟨hx, hE, hm, k1, k2, k4, k13, k14, k15, g1, g2, g4, f60, f7, fX, rfl⟩
  simp only at hx hE hm k1 k2 k4 k13 k14 k15 g1 g2 g4 f60 f7 fX
  have hid := File.frL m.outs
  refine T.le (Le.open 4 1 60 g4 (by rw [Made.oce]; rfl) f60 hid) ?_
  simp only [Made.oce]
  refine yg (n := 400) ?_
  cases rest with
  | nil =>
    have hxl : pre.length = j.acts.length := by rw [← hx]; simp
    have hE : (m, true) = makeV j := hE
    rw [← hE]
    simp [k14, k15, hxl]
    refine T.on 400 ?_
    simp [k2, k4, g2, over, ex1, za, File.ocl, hid, Made.oce]
  | cons x rest =>
    have hle : pre.length + (rest.length + 1) = j.acts.length := by rw [← hx]; simp
    have hlt : (pre.length : Int) < j.acts.length := by omega
    have hlt2 : pre.length < j.acts.length := by omega
    have hwr : IntKind.i64.wrap ((pre.length : Int) + 1) = pre.length + 1 := zc (by omega) (by omega)
    have hat : atB j.acts pre.length = x := by unfold atB; rw [← hx, List.getElem?_append_right (Nat.le_refl _)]; simp
    have hd := ZF j.acts pre.length hlt2
    rw [hat] at hd
    have hxs : x.size ≤ 1048576 := hs x (by rw [← hx]; simp)
    have rA := R78 j hj m hm x hxs
    have hsm := zdo (j := j) hm hxs
    have hno := zfM (j := j) (m := m) (s := x)
    rw [makeF] at hE
    obtain ⟨p, hp⟩ : ∃ p, p = actV j m x := ⟨_, rfl⟩
    rw [← hp] at rA hE hsm hno
    have hid2 := File.frL p.1.outs
    have hfl : flt (.tup [.agg (Made.ty.oc p.1), .sc (.bool p.2)]) = true := by
      have h1 := Made.ty.flL p.1
      simp only [flt, flt.fltL, Bool.and_eq_true] at h1 ⊢
      exact ⟨h1, trivial, trivial⟩
    simp [k1, k4, k13, k14, k15, g1, hlt, hlt2, hd, Job.cse, over]
    refine callK.ro 23 rfl (by kernel_rfl) (by simp [Zg, Yh, List.mapM_cons, List.mapM_nil, ze, Yc, za, Made.cse, Job.cse, File.roc7, k4, g1]) rA hfl (by simp [inst, instL, Made.oce, za, fX]; exact ⟨rfl, rfl⟩) rfl ?_
    cases hok : p.2 with
    | false =>
      rw [hok] at hE
      have hE : (m, false) = makeV j := hE
      rw [← hE]
      simp [k2, k4, g2, f7, over, hok, ex1, za, File.ocl, hid, Made.oce]
    | true =>
      rw [hok] at hE
      have hE : makeF j p.1 rest = makeV j := hE
      simp [k2, k4, g2, f7, over, hok, za, k15, hwr]
      refine ⟨pre ++ [x], rest, by simp, p.1, _, Le.trans (Le.pack 4 1 (i := 24001001) (len := p.1.outs.length) (sz := 2) (cs' := rows File.ty.oc p.1.outs) (by simp [za]; rfl) (by rfl) (by simp [za]) (by decide) (by simp [File.ocl]) hid2)
        (Le.told [(1, .ref 1 0), (2, .ref 2 0), (4, .ref 4 0), (13, .ro (rows Ty.str.cs j.acts) j.acts.length), (14, .sc (.int .i64 j.acts.length)), (15, .sc (.int .i64 ((pre ++ [x]).length : Nat)))] [(1, Job.ty.cs j), (2, [.sc (.string ⟨#[]⟩), .em, .sc (.string ⟨#[]⟩)]), (4, Made.ty.oc p.1)]
          (by simp [toldT, yJ, zA, YH, zb, za, k1, k2, k4, k13, k14]) (by simp [toldB, yD, ZJ, zA, zO, zal, YH, zb, zb.idfreeL, hid2, za, Job.cse, Made.oce, g1, g2])), by simpa using hx, hE, hsm, ?_⟩
      simp [toldρ, toldH, za, Job.cse, Made.oce]
theorem zfb (x sep : ByteArray) : joinB [x] sep = x := by
  apply ByteArray.ext
  apply Array.ext'
  simp [joinB, Lib.join_one]
theorem zel (a : ByteArray) (pre : List ByteArray) (x sep : ByteArray) : joinB (a :: (pre ++ [x])) sep = joinB (a :: pre) sep ++ sep ++ x := by
  apply ByteArray.ext
  apply Array.ext'
  simp [joinB, Lib.join_cons, Lib.joinTail, ByteArray.data_append]
def depO (l : List Made) (t : ByteArray) : AV × Bool := match l.find? (sameM t) with | some m => (.agg (Made.ty.cs m), true) | none => (zeroA, false)
def A200 : AC := (.seq (.ops [qO 4 (.mov (.c (.sc (.string ⟨#[]⟩))))])
  (.seq (.ops [qO 5 (.mov (.c (.sc (.string ⟨#[]⟩))))])
  (.seq (.seq (.ops [qO 6 (.mov (iC 0))])
  (.block 0 (.loop (.seq (.seq (.ops [qO 7 (.mov (.t 6)), qO 8 (.mov (.t 0)), qO 9 (.llen (.t 8)), qO 10 (.bin .lss (.t 7) (.t 9))])
  (.cond (.t 10) .skip
  (.exit 0)))
  (.seq (.block 1 (.seq (.seq (.ops [qO 13 (.mov (.t 6)), qO 14 (.bin .gtr (.t 13) (iC 0))])
  (.cond (.t 14) (.ops [qO 15 (.mov (.t 5)), qO 16 (.mov (.t 1)), qO 17 (.bin .add (.t 15) (.t 16)), qO 5 (.mov (.t 17))])
  .skip))
  (.ops [qO 18 (.mov (.t 5)), qO 19 (.mov (.t 0)), qO 20 (.mov (.t 6)), qO 21 (.iadr 1 (.t 19) (.t 20)), qO 22 (.load false 1 (.t 21)), qO 23 (.bin .add (.t 18) (.t 22)), qO 5 (.mov (.t 23))])))
  (.ops [qO 11 (.mov (.t 6)), qO 12 (.bin .add (.t 11) (iC 1)), qO 6 (.mov (.t 12))]))))))
  (.seq (.ops [qO 24 (.mov (.t 5)), qO 4 (.mov (.t 24))])
  .ret))))
theorem K200 : Kf Tryz.prog Tryz.f200 A200 25 [.mov (.t 4)] := ⟨by kernel_rfl, by kernel_rfl, by kernel_rfl⟩
set_option maxRecDepth 20000 in
theorem R200 (xs : List ByteArray) (sep : ByteArray) (hl : xs.length ≤ 1048577) (hz : ∀ x ∈ xs, x.size ≤ 1048576) (hs : sep.size ≤ 1048576) : Ret Tryz.prog 200 [.ro (rows Ty.str.cs xs) xs.length, .sc (.string sep)] (.sc (.string (joinB xs sep))) [.un, .un] := by
  refine Ret.run Tryz.func200 K200 (by simp) rfl rfl 500 ?_
  simp [A200, iniρ]
  refine T.rounds (μ := fun i : List ByteArray × List ByteArray => i.2.length)
    (fun i s => i.1 ++ i.2 = xs ∧ s.ρ 0 = .ro (rows Ty.str.cs xs) xs.length ∧ s.ρ 1 = .sc (.string sep) ∧ s.ρ 5 = .sc (.string (joinB i.1 sep)) ∧ s.ρ 6 = .sc (.int .i64 i.1.length) ∧ s.n = 25) ([], xs) (by simp [za]; rfl) ?_
  rintro ⟨pre, rest⟩ ⟨ρ, hh, n⟩ ⟨hx, k0, k1, k5, k6, rfl⟩
  simp only at hx k0 k1 k5 k6
  refine yg (n := 400) ?_
  cases rest with
  | nil =>
    rw [List.append_nil] at hx
    subst hx
    simp [k0, k6]
    refine T.on 400 ?_
    simp [k5]
  | cons x rest =>
    have hle : pre.length + (rest.length + 1) = xs.length := by rw [← hx]; simp
    have hlt : (pre.length : Int) < xs.length := by omega
    have hlt2 : pre.length < xs.length := by omega
    have hwr : IntKind.i64.wrap ((pre.length : Int) + 1) = pre.length + 1 := zc (by omega) (by omega)
    have hat : atB xs pre.length = x := by unfold atB; rw [← hx, List.getElem?_append_right (Nat.le_refl _)]; simp
    have hd := ZF xs pre.length hlt2
    rw [hat] at hd
    have hzx := hz x (by rw [← hx]; simp)
    have hzp : ∀ y ∈ pre, y.size ≤ 1048576 := fun y hy => hz y (by rw [← hx]; simp [hy])
    have hj : (joinB pre sep).size ≤ 2199025352704 := by
      have hj1 := Y5 sep hzp
      have hj2 : pre.length * (sep.size + 1048576) ≤ 1048577 * 2097152 := Nat.mul_le_mul (by omega) (by omega)
      exact Nat.le_trans hj1 (Nat.le_trans hj2 (by decide))
    cases pre with
    | nil =>
      have hz0 : (joinB [] sep).size + x.size ≤ 9223372036854775807 := by omega
      have e0 : joinB [] sep = ⟨#[]⟩ := rfl
      have e1 : (⟨#[]⟩ : ByteArray) ++ x = x := by apply ByteArray.ext; simp [ByteArray.data_append]
      have hne : ¬ xs = [] := fun e => by rw [e] at hlt2; simp at hlt2
      have hl0 : 0 < xs.length := hlt2
      have hd : rows Ty.str.cs xs = .sc (.string x) :: rows Ty.str.cs (List.drop 1 xs) := hd
      have k6 : ρ 6 = .sc (.int .i64 0) := k6
      have hw1 : IntKind.i64.wrap 1 = 1 := zc (by omega) (by omega)
      simp [k0, k1, k5, k6, hne, hl0, hd, hz0, hw1]
      refine ⟨[x], rest, by simp, _, Le.refl _, ?_⟩
      simp [za, k0, k1, zfb, e0, e1, hd]
      simpa using hx
    | cons a pre =>
      have hz1 : (joinB (a :: pre) sep).size + sep.size ≤ 9223372036854775807 := by omega
      have hz2 : (joinB (a :: pre) sep).size + sep.size + x.size ≤ 9223372036854775807 := by omega
      have hpos : (0 : Int) < (pre.length : Int) + 1 := by omega
      have hle : pre.length + 1 + (rest.length + 1) = xs.length := hle
      have hl1 : (pre.length : Int) + 1 < xs.length := by omega
      have hl2 : pre.length + 1 < xs.length := by omega
      have hw1 : IntKind.i64.wrap ((pre.length : Int) + 1 + 1) = pre.length + 1 + 1 := zc (by omega) (by omega)
      have k6 : ρ 6 = .sc (.int .i64 (pre.length + 1 : Nat)) := k6
      have hd : List.drop (pre.length + 1) (rows Ty.str.cs xs) = .sc (.string x) :: rows Ty.str.cs (List.drop (pre.length + 1 + 1) xs) := hd
      have h01 : (0 : Int) ≤ (pre.length : Int) + 1 := by omega
      simp [k0, k1, k5, k6, hl1, hl2, hd, hz1, hz2, hpos, hw1, h01]
      refine ⟨a :: (pre ++ [x]), rest, by simp, _, Le.refl _, ?_⟩
      simp [za, k0, k1, zel]
      simpa using hx
def A246 : AC := (.seq (.ops [wO 2 (.box (.t 0)), wO 4 (.alloc [(.sc (.string ⟨#[]⟩)), .em, (.sc (.string ⟨#[]⟩))]), qO 5 (.mov (.c (.sc (.bool false))))])
  (.seq (.seq (.ops [qO 6 (.mov (iC 0))])
  (.block 0 (.loop (.seq (.seq (.ops [qO 7 (.mov (.t 6)), qO 8 (.fadr 4 (.t 2)), qO 9 (.load false 1 (.t 8)), qO 10 (.llen (.t 9)), qO 11 (.bin .lss (.t 7) (.t 10))])
  (.cond (.t 11) .skip
  (.exit 0)))
  (.seq (.block 1 (.seq (.ops [qO 14 (.fadr 4 (.t 2)), qO 15 (.load false 1 (.t 14)), qO 16 (.mov (.t 6)), qO 17 (.iadr 3 (.t 15) (.t 16)), qO 18 (.fadr 0 (.t 17)), qO 19 (.load false 1 (.t 18)), qO 20 (.mov (.t 1)), qO 21 (.bin .eql (.t 19) (.t 20))])
  (.cond (.t 21) (.seq (.ops [qO 22 (.fadr 4 (.t 2)), qO 23 (.load false 1 (.t 22)), qO 24 (.mov (.t 6)), qO 25 (.iadr 3 (.t 23) (.t 24)), qO 26 (.load true 3 (.t 25)), nO (.store 3 (.t 4) (.t 26)), qO 5 (.mov (.c (.sc (.bool true))))])
  .ret)
  .skip)))
  (.ops [qO 12 (.mov (.t 6)), qO 13 (.bin .add (.t 12) (iC 1)), qO 6 (.mov (.t 13))]))))))
  (.seq (.ops [wO 27 (.build [(.sc (.string ⟨#[]⟩)), .em, (.sc (.string ⟨#[]⟩))] []), nO (.store 3 (.t 4) (.t 27)), qO 5 (.mov (.c (.sc (.bool false))))])
  .ret)))
theorem K246 : Kf Tryz.prog Tryz.f246 A246 28 [.load true 3 (.t 4), .mov (.t 5)] := ⟨by kernel_rfl, by kernel_rfl, by kernel_rfl⟩
theorem R246 (j : Job) (hj : JL j) (t : ByteArray) : Ret Tryz.prog 246 [.agg (Job.ty.cs j), .sc (.string t)] (.tup [(depO j.deps t).1, .sc (.bool (depO j.deps t).2)]) [.un, .un] := by
  have hb := hj.d
  refine Ret.run Tryz.func246 K246 (by simp) rfl rfl 500 ?_
  simp [A246, iniρ, Job.cse]
  refine T.rounds (μ := fun i : List Made × List Made => i.2.length)
    (fun i s => i.1 ++ i.2 = j.deps ∧ (∀ y ∈ i.1, sameM t y = false) ∧ s.ρ 1 = .sc (.string t) ∧ s.ρ 2 = .ref 2 0 ∧ s.ρ 4 = .ref 4 0 ∧ s.ρ 6 = .sc (.int .i64 i.1.length) ∧ s.h 2 = some (some (Job.ty.cs j)) ∧ s.h 4 = some (some [.sc (.string ⟨#[]⟩), .em, .sc (.string ⟨#[]⟩)]) ∧ s.n = 28) ([], j.deps) (by simp [za, Job.cse]) ?_
  rintro ⟨pre, rest⟩ ⟨ρ, hh, n⟩ ⟨hx, hpre, k1, k2, k4, k6, g2, g4, rfl⟩
  simp only at hx hpre k1 k2 k4 k6 g2 g4
  refine yg (n := 400) ?_
  cases rest with
  | nil =>
    have hxl : pre.length = j.deps.length := by rw [← hx]; simp
    rw [List.append_nil] at hx
    have hG : depO j.deps t = (zeroA, false) := by unfold depO; rw [ZT (by rw [← hx]; exact hpre)]
    rw [hG]
    simp [k2, k6, g2, hxl, Job.cse]
    refine T.on 400 ?_
    simp [k4, g4, zeroA, za, over]
  | cons x rest =>
    have hlt : (pre.length : Int) < j.deps.length := by rw [← hx]; simp only [List.length_append, List.length_cons]; omega
    have hle : pre.length + (rest.length + 1) = j.deps.length := by rw [← hx]; simp
    have hwr : IntKind.i64.wrap ((pre.length : Int) + 1) = pre.length + 1 := zc (by omega) (by omega)
    have hd := ye Made.ty.csn pre (x :: rest)
    rw [hx, yc] at hd
    have hd : List.drop (pre.length * 3) (rows Made.ty.cs j.deps) = AV.sc (.string x.task) :: .ro (rows File.ty.cs x.outs) x.outs.length :: .sc (.string x.log) :: rows Made.ty.cs rest := hd
    simp [k1, k2, k6, g2, hlt, hd, Job.cse]
    by_cases hs : x.task.toList = t.toList
    · have hG : depO j.deps t = (.agg (Made.ty.cs x), true) := by unfold depO; rw [← hx, zax hpre (by simp [sameM, hs])]
      rw [hG]
      simp [hs, k2, k4, k6, g2, g4, hlt, hd, za, over, Job.cse, Made.cse]
    · simp [hs, k6, hwr]
      refine ⟨pre ++ [x], rest, by simp, _, Le.refl _, ?_⟩
      simp [hx, za, k1, k2, k4, g2, g4, Job.cse]
      intro y hy
      rcases hy with hy | rfl
      · exact hpre y hy
      · simp [sameM, hs]
def A201 : AC := (.seq (.ops [wO 2 (.box (.t 0)), qO 4 (.mov (.c (.sc (.string ⟨#[]⟩)))), qO 5 (.mov (.c (.sc (.bool false))))])
  (.seq (.seq (.ops [qO 15 (.mov (.t 1)), qO 16 (.iadr 1 (.t 15) (iC 0)), qO 17 (.load false 1 (.t 16))])
  (.block 0 (.seq (.ops [qO 19 (.bin .eql (.t 17) (.c (.sc (.string ⟨#[99, 97, 116]⟩)))), qO 18 (.mov (.t 19))])
  (.cond (.t 18) (.seq (.ops [qO 6 (.mov (.c (.sc (.string ⟨#[]⟩))))])
  (.seq (.seq (.ops [qO 7 (.mov (iC 1))])
  (.block 1 (.loop (.seq (.seq (.ops [qO 20 (.mov (.t 7)), qO 21 (.mov (.t 1)), qO 22 (.llen (.t 21)), qO 23 (.bin .lss (.t 20) (.t 22))])
  (.cond (.t 23) .skip
  (.exit 1)))
  (.seq (.block 2 (.seq (.any [(qO 27 (.fadr 2 (.t 2)), []), (qO 28 (.load false 1 (.t 27)), [0]), (qO 29 (.mov (.t 1)), []), (qO 30 (.mov (.t 7)), []), (qO 31 (.iadr 1 (.t 29) (.t 30)), [2, 3]), (qO 32 (.load false 1 (.t 31)), [4]), (cO 33 245 [.t 28, .t 32], [1, 5]), (qO 26 (.mov (.t 33)), [6]), (qO 34 (.ext (.t 26) 0), [7]), (qO 35 (.ext (.t 26) 1), [7]), (qO 8 (.mov (.t 34)), [8, 6, 0, 1, 2, 3, 4, 5, 6, 7, 8]), (qO 9 (.mov (.t 35)), [9, 10, 0, 1, 2, 3, 4, 5, 6, 7, 8, 9, 10])])
  (.seq (.seq (.ops [qO 36 (.mov (.t 9)), qO 37 (.not (.t 36))])
  (.cond (.t 37) (.seq (.ops [qO 4 (.mov (.c (.sc (.string ⟨#[]⟩)))), qO 5 (.mov (.c (.sc (.bool false))))])
  .ret)
  .skip))
  (.ops [qO 38 (.mov (.t 6)), qO 39 (.mov (.t 8)), qO 40 (.bin .add (.t 38) (.t 39)), qO 6 (.mov (.t 40))]))))
  (.ops [qO 24 (.mov (.t 7)), qO 25 (.bin .add (.t 24) (iC 1)), qO 7 (.mov (.t 25))]))))))
  (.seq (.ops [qO 41 (.mov (.t 6)), qO 4 (.mov (.t 41)), qO 5 (.mov (.c (.sc (.bool true))))])
  .ret)))
  (.seq (.ops [qO 43 (.bin .eql (.t 17) (.c (.sc (.string ⟨#[101, 110, 118]⟩)))), qO 42 (.mov (.t 43))])
  (.cond (.t 42) (.seq (.seq (.ops [qO 10 (.mov (iC 0))])
  (.block 3 (.loop (.seq (.seq (.ops [qO 44 (.mov (.t 10)), qO 45 (.fadr 3 (.t 2)), qO 46 (.load false 1 (.t 45)), qO 47 (.llen (.t 46)), qO 48 (.bin .lss (.t 44) (.t 47))])
  (.cond (.t 48) .skip
  (.exit 3)))
  (.seq (.block 4 (.seq (.any [(qO 51 (.fadr 3 (.t 2)), []), (qO 52 (.load false 1 (.t 51)), [0]), (qO 53 (.mov (.t 10)), []), (qO 54 (.iadr 2 (.t 52) (.t 53)), [1, 2]), (qO 55 (.fadr 0 (.t 54)), [3]), (qO 56 (.load false 1 (.t 55)), [4]), (qO 57 (.mov (.t 1)), []), (qO 58 (.iadr 1 (.t 57) (iC 1)), [6]), (qO 59 (.load false 1 (.t 58)), [7]), (qO 60 (.bin .eql (.t 56) (.t 59)), [5, 8])])
  (.cond (.t 60) (.seq (.ops [qO 61 (.fadr 3 (.t 2)), qO 62 (.load false 1 (.t 61)), qO 63 (.mov (.t 10)), qO 64 (.iadr 2 (.t 62) (.t 63)), qO 65 (.fadr 1 (.t 64)), qO 66 (.load false 1 (.t 65)), qO 4 (.mov (.t 66)), qO 5 (.mov (.c (.sc (.bool true))))])
  .ret)
  .skip)))
  (.ops [qO 49 (.mov (.t 10)), qO 50 (.bin .add (.t 49) (iC 1)), qO 10 (.mov (.t 50))]))))))
  (.seq (.ops [qO 4 (.mov (.c (.sc (.string ⟨#[]⟩)))), qO 5 (.mov (.c (.sc (.bool false))))])
  .ret))
  (.seq (.ops [qO 68 (.bin .eql (.t 17) (.c (.sc (.string ⟨#[117, 115, 101]⟩)))), qO 67 (.mov (.t 68))])
  (.cond (.t 67) (.seq (.any [(qO 70 (.load true 5 (.t 2)), []), (qO 71 (.mov (.t 1)), []), (qO 72 (.iadr 1 (.t 71) (iC 1)), [1]), (qO 73 (.load false 1 (.t 72)), [2]), (cO 74 246 [.t 70, .t 73], [0, 3]), (qO 69 (.mov (.t 74)), [4]), (qO 75 (.ext (.t 69) 0), [5]), (qO 76 (.ext (.t 69) 1), [5]), (wO 11 (.alloc [(.sc (.string ⟨#[]⟩)), .em, (.sc (.string ⟨#[]⟩))]), []), (nO (.store 3 (.t 11) (.t 75)), [8, 6, 4, 0, 1, 2, 3, 4, 5, 6, 8]), (qO 12 (.mov (.t 76)), [7, 9, 0, 1, 2, 3, 4, 5, 6, 7, 8, 9])])
  (.seq (.any [(qO 78 (.fadr 1 (.t 11)), []), (qO 79 (.load false 1 (.t 78)), [0]), (qO 80 (.mov (.t 1)), []), (qO 81 (.iadr 1 (.t 80) (iC 2)), [2]), (qO 82 (.load false 1 (.t 81)), [3]), (cO 83 245 [.t 79, .t 82], [1, 4]), (qO 77 (.mov (.t 83)), [5]), (qO 84 (.ext (.t 77) 0), [6]), (qO 85 (.ext (.t 77) 1), [6]), (qO 13 (.mov (.t 84)), [7, 5, 0, 1, 2, 3, 4, 5, 6, 7]), (qO 14 (.mov (.t 85)), [8, 9, 0, 1, 2, 3, 4, 5, 6, 7, 8, 9])])
  (.seq (.ops [qO 86 (.mov (.t 13)), qO 87 (.mov (.t 12)), qO 88 (.mov (.t 87)), qG 89 88 true (.mov (.t 14)), qO 90 (.pick (.t 88) (.t 89) (.c (.sc (.bool false)))), qO 4 (.mov (.t 86)), qO 5 (.mov (.t 90))])
  .ret)))
  .skip))))))))
  (.seq (.ops [qO 91 (.mov (.t 1)), qO 92 (.subl 1 (.t 91) (some (iC 1)) none), cO 93 200 [.t 92, (.c (.sc (.string ⟨#[32]⟩)))], qO 4 (.mov (.t 93)), qO 5 (.mov (.c (.sc (.bool true))))])
  .ret)))
theorem K201 : Kf Tryz.prog Tryz.f201 A201 94 [.mov (.t 4), .mov (.t 5)] := ⟨by kernel_rfl, by kernel_rfl, by kernel_rfl⟩
set_option maxHeartbeats 4000000 in
set_option maxRecDepth 20000 in
theorem R201 (j : Job) (hj : JL j) (w : ByteArray) (ws : List ByteArray) (hl : ws.length ≤ 1048577) (hz : ∀ x ∈ ws, x.size ≤ 1048576) (he : isW w [101, 110, 118] = true → 1 ≤ ws.length) (hu : isW w [117, 115, 101] = true → 2 ≤ ws.length)
    (hk : isW w [112, 117, 116] = true ∨ isW w [99, 97, 116] = true ∨ isW w [101, 110, 118] = true ∨ isW w [117, 115, 101] = true) :
    Ret Tryz.prog 201 [.agg (Job.ty.cs j), .ro (rows Ty.str.cs (w :: ws)) (ws.length + 1)] (.tup [.sc (.string (textI j w ws).1), .sc (.bool (textI j w ws).2)]) [.un, .un] := by
  have hrc : rows Ty.str.cs (w :: ws) = .sc (.string w) :: rows Ty.str.cs ws := rfl
  have hln := zU ws
  have hp0 : (0 : Int) < (ws.length : Int) + 1 := by omega
  have htk : List.take ws.length (rows Ty.str.cs ws) = rows Ty.str.cs ws := List.take_of_length_le (Nat.le_of_eq hln)
  refine Ret.run Tryz.func201 K201 (by simp) rfl rfl 900 ?_
  by_cases k1 : w.toList = [99, 97, 116]
  · have hT : textI j w ws = catF j.ins ⟨#[]⟩ ws := by simp [textI, isW, k1]
    rw [hT]
    simp [A201, iniρ, hrc, hp0, k1, Job.cse]
    refine T.rounds (μ := fun i : List ByteArray × List ByteArray × ByteArray => i.2.1.length)
      (fun i s => i.1 ++ i.2.1 = ws ∧ catF j.ins i.2.2 i.2.1 = catF j.ins ⟨#[]⟩ ws ∧ i.2.2.size ≤ i.1.length * 1048576 ∧ s.ρ 1 = .ro (rows Ty.str.cs (w :: ws)) (ws.length + 1) ∧ s.ρ 2 = .ref 2 0 ∧ s.ρ 6 = .sc (.string i.2.2) ∧ s.ρ 7 = .sc (.int .i64 (i.1.length + 1 : Nat)) ∧ s.h 2 = some (some (Job.ty.cs j)) ∧ s.n = 94) ([], ws, ⟨#[]⟩) (by simp [za, Job.cse, hrc]; rfl) ?_
    rintro ⟨pre, rest, acc⟩ ⟨ρ, hh, n⟩ ⟨hx, hE, hz, q1, q2, q6, q7, g2, rfl⟩
    simp only at hx hE hz q1 q2 q6 q7 g2
    refine yg (n := 400) ?_
    cases rest with
    | nil =>
      have hxl : pre.length = ws.length := by rw [← hx]; simp
      have hE : (acc, true) = catF j.ins ⟨#[]⟩ ws := hE
      rw [← hE]
      simp [q1, q7, hxl]
      refine T.on 400 ?_
      simp [q6]
    | cons x rest =>
      have hle : pre.length + (rest.length + 1) = ws.length := by rw [← hx]; simp
      have hlt : (pre.length : Int) < ws.length := by omega
      have hlt1 : (pre.length : Int) + 1 < (ws.length : Int) + 1 := by omega
      have hlt2 : pre.length < ws.length := by omega
      have hwr : IntKind.i64.wrap ((pre.length : Int) + 1 + 1) = pre.length + 1 + 1 := zc (by omega) (by omega)
      have hat : atB ws pre.length = x := by unfold atB; rw [← hx, List.getElem?_append_right (Nat.le_refl _)]; simp
      have hd := ZF ws pre.length hlt2
      rw [hat] at hd
      have hts := zcN hj.t x
      have hpm : pre.length * 1048576 ≤ 1048577 * 1048576 := Nat.mul_le_mul_right _ (by omega)
      have hadd : acc.size + (getF j.ins x).1.size ≤ 9223372036854775807 := by omega
      rw [catF] at hE
      simp [q1, q2, q7, g2, hlt, hlt1, hlt2, Job.cse]
      refine T.textW 400 [([], []), ([], []), ([], []), ([], []), ([], []), ([], []), ([], []), ([], []), ([], []), ([], []), ([], []), ([], [])] mixed (by kernel_rfl) (by kernel_rfl) ?_
      have h01 : (0 : Int) ≤ (pre.length : Int) + 1 := by omega
      simp [q1, q2, q7, g2, hrc, hlt, hlt1, hlt2, hd, h01, Job.cse]
      refine yf.ro 0 rfl (by kernel_rfl) (by simp [ze, Yc, za]) (R245 j.ins x hj.i) rfl rfl (by rfl) ?_
      by_cases hg : (getF j.ins x).2 = true
      · rw [if_pos hg] at hE
        simp [hg, q6, hadd, q7, hwr]
        refine ⟨pre ++ [x], rest, by simp, acc ++ (getF j.ins x).1, _, Le.refl _, by simpa using hx, hE, ?_, ?_⟩
        · rw [ByteArray.size_append, List.length_append, Nat.add_mul]
          simp only [List.length_cons, List.length_nil]
          omega
        · simp [za, q1, q2, g2, Job.cse, hrc]
      · have hg : (getF j.ins x).2 = false := by simpa using hg
        rw [hg] at hE
        have hE : (⟨#[]⟩, false) = catF j.ins ⟨#[]⟩ ws := hE
        rw [← hE]
        simp [hg]
  by_cases k2 : w.toList = [101, 110, 118]
  · have hT : textI j w ws = getE j.envs (atB ws 0) := by simp [textI, isW, k2]
    have h1 : 0 < ws.length := he (by simp [isW, k2])
    have h12 : (1 : Int) < (ws.length : Int) + 1 := by omega
    have hd := ZF ws 0 h1
    rw [List.drop_zero] at hd
    have hb := hj.e
    rw [hT]
    simp [A201, iniρ, hrc, hp0, k1, k2, Job.cse]
    refine T.rounds (μ := fun i : List Env × List Env => i.2.length)
      (fun i s => i.1 ++ i.2 = j.envs ∧ (∀ y ∈ i.1, sameE (atB ws 0) y = false) ∧ s.ρ 1 = .ro (rows Ty.str.cs (w :: ws)) (ws.length + 1) ∧ s.ρ 2 = .ref 2 0 ∧ s.ρ 10 = .sc (.int .i64 i.1.length) ∧ s.h 2 = some (some (Job.ty.cs j)) ∧ s.n = 94) ([], j.envs) (by simp [za, Job.cse, hrc]) ?_
    rintro ⟨pre, rest⟩ ⟨ρ, hh, n⟩ ⟨hx, hpre, q1, q2, q10, g2, rfl⟩
    simp only at hx hpre q1 q2 q10 g2
    refine yg (n := 400) ?_
    cases rest with
    | nil =>
      have hxl : pre.length = j.envs.length := by rw [← hx]; simp
      rw [List.append_nil] at hx
      have hG : getE j.envs (atB ws 0) = (⟨#[]⟩, false) := by unfold getE; rw [ZT (by rw [← hx]; exact hpre)]
      rw [hG]
      simp [q2, q10, g2, hxl, Job.cse]
      refine T.on 400 ?_
      simp
    | cons x rest =>
      have hlt : (pre.length : Int) < j.envs.length := by rw [← hx]; simp only [List.length_append, List.length_cons]; omega
      have hle : pre.length + (rest.length + 1) = j.envs.length := by rw [← hx]; simp
      have hwr : IntKind.i64.wrap ((pre.length : Int) + 1) = pre.length + 1 := zc (by omega) (by omega)
      have hde := ye Env.ty.csn pre (x :: rest)
      rw [hx, yc] at hde
      have hde : List.drop (pre.length * 2) (rows Env.ty.cs j.envs) = AV.sc (.string x.name) :: AV.sc (.string x.val) :: rows Env.ty.cs rest := hde
      have hde1 : List.drop (pre.length * 2 + 1) (rows Env.ty.cs j.envs) = AV.sc (.string x.val) :: rows Env.ty.cs rest := by rw [← List.drop_drop, hde]; rfl
      simp [q2, q10, g2, hlt, Job.cse]
      refine T.text 400 mixed (by kernel_rfl) (by kernel_rfl) ?_
      by_cases hs : x.name.toList = (atB ws 0).toList
      · have hG : getE j.envs (atB ws 0) = (x.val, true) := by unfold getE; rw [← hx, zax hpre (by simp [sameE, hs])]
        rw [hG]
        simp [q1, q2, q10, g2, hlt, hrc, hd, hde, hde1, h1, h12, hs, Job.cse]
      · simp [q1, q2, q10, g2, hlt, hrc, hd, hde, h1, h12, hs, hwr, Job.cse]
        refine ⟨pre ++ [x], rest, by simp, _, Le.refl _, ?_⟩
        simp [hx, za, q1, q2, g2, Job.cse, hrc, hd]
        intro y hy
        rcases hy with hy | rfl
        · exact hpre y hy
        · simp [sameE, hs]
  by_cases k3 : w.toList = [117, 115, 101]
  · have hT : textI j w ws = getM j.deps (atB ws 0) (atB ws 1) := by simp [textI, isW, k3]
    have h2 : 2 ≤ ws.length := hu (by simp [isW, k3])
    have h1 : 0 < ws.length := by omega
    have h11 : 1 < ws.length := by omega
    have i1 : (1 : Int) < (ws.length : Int) + 1 := by omega
    have i2 : (2 : Int) < (ws.length : Int) + 1 := by omega
    have hd := ZF ws 0 h1
    rw [List.drop_zero] at hd
    have hd1 := ZF ws 1 h11
    rw [hd, List.drop_succ_cons, List.drop_zero] at hd1
    have hd1 : rows Ty.str.cs ws.tail = .sc (.string (atB ws 1)) :: rows Ty.str.cs (List.drop 2 ws) := by rw [← List.drop_one]; exact hd1
    have rD := R246 j hj (atB ws 0)
    rw [hT]
    simp [A201, iniρ, hrc, hp0, k1, k2, k3, Job.cse]
    cases hfd : j.deps.find? (sameM (atB ws 0)) with
    | none =>
      have hDA : depO j.deps (atB ws 0) = (zeroA, false) := by unfold depO; rw [hfd]
      have hG : getM j.deps (atB ws 0) (atB ws 1) = (⟨#[]⟩, false) := by unfold getM; rw [hfd]
      rw [hDA] at rD
      rw [hG]
      have rG : Ret Tryz.prog 245 [.em, .sc (.string (atB ws 1))] (.tup [.sc (.string ⟨#[]⟩), .sc (.bool false)]) [.un, .un] := (R245 [] (atB ws 1) (by decide)).sub ⟨.inr ⟨rfl, rfl⟩, .inl rfl, trivial⟩
      refine T.textW 400 [([], [11]), ([], [11]), ([], [11]), ([], [11]), ([], [11]), ([], [11]), ([], [11]), ([], [11]), ([11], []), ([11], []), ([], [])] mixed (by kernel_rfl) (by kernel_rfl) ?_
      simp [hd, hd1, h1, h11, i1, i2, over, Job.cse]
      refine yf.cut [.ro, .ro] 50 (r := [(none, none), (none, none)]) rfl (by kernel_rfl) rfl (by rfl) (by rfl) (by simp [Zt, shut, za]) (by simp [Yg, Zg, ze, Yc, za, Job.cse]; rfl) (by rfl) rD (by rfl) (by rfl) (by rfl) (by rfl) ?_
      simp [over, zeroA, Zb, yb]
      refine T.textW 400 [([], []), ([], []), ([], []), ([], []), ([], []), ([], []), ([], []), ([], []), ([], []), ([], []), ([], [])] mixed (by kernel_rfl) (by kernel_rfl) ?_
      simp [hd, hd1, h1, h11, i1, i2, over, Job.cse]
      refine yf.ro 0 rfl (by kernel_rfl) (by simp [roc, shut, za]) rG rfl rfl (by rfl) ?_
      simp
    | some m =>
      have hDA : depO j.deps (atB ws 0) = (.agg (Made.ty.cs m), true) := by unfold depO; rw [hfd]
      have hG : getM j.deps (atB ws 0) (atB ws 1) = getF m.outs (atB ws 1) := by unfold getM; rw [hfd]
      rw [hDA] at rD
      rw [hG]
      have rG := R245 m.outs (atB ws 1) (hj.o m (List.mem_of_find?_eq_some hfd))
      refine T.textW 400 [([], [11]), ([], [11]), ([], [11]), ([], [11]), ([], [11]), ([], [11]), ([], [11]), ([], [11]), ([11], []), ([11], []), ([], [])] mixed (by kernel_rfl) (by kernel_rfl) ?_
      simp [hd, hd1, h1, h11, i1, i2, over, Job.cse]
      refine yf.cut [.ro, .ro] 50 (r := [(none, none), (none, none)]) rfl (by kernel_rfl) rfl (by rfl) (by rfl) (by simp [Zt, shut, za]) (by simp [Yg, Zg, ze, Yc, za, Job.cse]; rfl) (by rfl) rD (by rfl) (by rfl) (by rfl) (by rfl) ?_
      simp [over, Made.cse, Zb, yb]
      refine T.textW 400 [([], []), ([], []), ([], []), ([], []), ([], []), ([], []), ([], []), ([], []), ([], []), ([], []), ([], [])] mixed (by kernel_rfl) (by kernel_rfl) ?_
      simp [hd, hd1, h1, h11, i1, i2, over, Job.cse]
      refine yf.ro 0 rfl (by kernel_rfl) (by simp [ze, Yc, za]) rG rfl rfl (by rfl) ?_
      simp
  have k4 : w.toList = [112, 117, 116] := by simpa [isW, k1, k2, k3] using hk
  have hT : textI j w ws = (joinB ws sp, true) := by simp [textI, isW, k4]
  have rJ : Ret Tryz.prog 200 [.ro (rows Ty.str.cs ws) ws.length, .sc (.string ⟨#[32]⟩)] (.sc (.string (joinB ws sp))) [.un, .un] := R200 ws sp hl hz (by decide)
  rw [hT]
  simp [A201, iniρ, hrc, hp0, k1, k2, k3, htk, Job.cse]
  refine callK.ro 0 rfl (by kernel_rfl) (by simp [ze, Yc]) rJ rfl rfl rfl ?_
  simp
structure Cur where
  b : List Int
  i : Nat
  h : Int
def Cur.ok (c : Cur) : Prop := Ty.byte.slice.ok c.b ∧ c.i ≤ c.b.length
def Cur.cs (c : Cur) : List AV := [.ro (rows B c.b) c.b.length, .sc (.int .i64 c.i), .sc (.int .i64 c.h)]
def stepH (h : Int) : Int := IntKind.i64.wrap (IntKind.i64.wrap (h * 6364136223846793005) + 1442695040888963407)
def low8 (a : Int) : Int := IntKind.i64.wrap (((a % 2 ^ IntKind.i64.bits).toNat &&& 255 % 2 ^ IntKind.i64.bits : Nat) : Int)
def mixI (h : Int) : Int := IntKind.i64.wrap (((h.fdiv (2 ^ min 33 IntKind.i64.bits) % 2 ^ IntKind.i64.bits).toNat ^^^ (h.fdiv (2 ^ min 47 IntKind.i64.bits) % 2 ^ IntKind.i64.bits).toNat : Nat) : Int)
def byteV (c : Cur) : Int := if c.i < c.b.length then low8 (IntKind.i64.wrap (low8 (mixI (stepH c.h)) + IntKind.i64.wrap (c.b[c.i]?.getD 0))) else low8 (mixI (stepH c.h))
def byteC (c : Cur) : Cur := ⟨c.b, if c.i < c.b.length then c.i + 1 else c.i, stepH c.h⟩
theorem zf3 (a : Int) : 0 ≤ low8 a ∧ low8 a ≤ 255 := by
  have h : (a % 2 ^ IntKind.i64.bits).toNat &&& 255 % 2 ^ IntKind.i64.bits ≤ 255 := Nat.le_trans Nat.and_le_right (Nat.mod_le _ _)
  unfold low8
  rw [zc (by omega) (by omega)]
  omega
theorem ZH (c : Cur) : 0 ≤ byteV c ∧ byteV c ≤ 255 := by
  unfold byteV
  split <;> exact zf3 _
theorem ZK {c : Cur} (h : c.ok) : (byteC c).ok := by
  refine ⟨h.1, ?_⟩
  have := h.2
  simp only [byteC]
  split <;> omega
theorem zcv : ∀ (xs : List Int) (i : Nat), i < xs.length → ∃ br, List.drop i (rows B xs) = .sc (.int .u8 (xs[i]?.getD 0)) :: br
  | [], i, h => by simp at h
  | x :: xs, 0, h => ⟨rows B xs, by rw [yc]; simp [B]⟩
  | x :: xs, i + 1, h => by
    obtain ⟨br, e⟩ := zcv xs i (by simpa using h)
    exact ⟨br, by rw [yc]; simpa [B] using e⟩
def A104 : AC := (.seq (.ops [qO 2 (.mov (iC 0))])
  (.seq (.ops [qO 4 (.mov (.t 0)), qO 5 (.mov (.t 0)), qO 6 (.nilc (.t 5)), qO 7 (.fadr 2 (.t 6)), qO 8 (.load false 1 (.t 7)), qO 9 (.bin .mul (.t 8) (iC 6364136223846793005)), qO 10 (.bin .add (.t 9) (iC 1442695040888963407)), qO 11 (.nilc (.t 4)), qO 12 (.fadr 2 (.t 11)), nO (.store 1 (.t 12) (.t 10))])
  (.seq (.any [(qO 13 (.mov (.t 0)), []), (qO 14 (.nilc (.t 13)), [0]), (qO 15 (.fadr 2 (.t 14)), [1]), (qO 16 (.load false 1 (.t 15)), [2]), (qO 17 (.bin .shr (.t 16) (.c (.sc (.int .u64 33)))), [3]), (qO 18 (.mov (.t 0)), []), (qO 19 (.nilc (.t 18)), [5]), (qO 20 (.fadr 2 (.t 19)), [6]), (qO 21 (.load false 1 (.t 20)), [7]), (qO 22 (.bin .shr (.t 21) (.c (.sc (.int .u64 47)))), [8]), (qO 23 (.bin .xor (.t 17) (.t 22)), [4, 9]), (qO 24 (.bin .and (.t 23) (iC 255)), [10]), (qO 3 (.mov (.t 24)), [11, 0, 1, 2, 3, 4, 5, 6, 7, 8, 9, 10, 11])])
  (.seq (.seq (.any [(qO 25 (.mov (.t 0)), []), (qO 26 (.nilc (.t 25)), [0]), (qO 27 (.fadr 1 (.t 26)), [1]), (qO 28 (.load false 1 (.t 27)), [2]), (qO 29 (.mov (.t 0)), []), (qO 30 (.nilc (.t 29)), [4]), (qO 31 (.fadr 0 (.t 30)), [5]), (qO 32 (.load false 1 (.t 31)), [6]), (qO 33 (.llen (.t 32)), [7]), (qO 34 (.bin .lss (.t 28) (.t 33)), [3, 8])])
  (.cond (.t 34) (.seq (.any [(qO 35 (.mov (.t 3)), []), (qO 36 (.mov (.t 0)), []), (qO 37 (.nilc (.t 36)), [1]), (qO 38 (.fadr 0 (.t 37)), [2]), (qO 39 (.load false 1 (.t 38)), [3]), (qO 40 (.mov (.t 0)), []), (qO 41 (.nilc (.t 40)), [5]), (qO 42 (.fadr 1 (.t 41)), [6]), (qO 43 (.load false 1 (.t 42)), [7]), (qO 44 (.iadr 1 (.t 39) (.t 43)), [4, 8]), (qO 45 (.load false 1 (.t 44)), [9]), (qO 46 (.cvi .i64 (.t 45)), [10]), (qO 47 (.bin .add (.t 35) (.t 46)), [0, 11]), (qO 48 (.bin .and (.t 47) (iC 255)), [12]), (qO 3 (.mov (.t 48)), [13, 0, 1, 2, 3, 4, 5, 6, 7, 8, 9, 10, 11, 12, 13])])
  (.ops [qO 49 (.mov (.t 0)), qO 50 (.mov (.t 0)), qO 51 (.nilc (.t 50)), qO 52 (.fadr 1 (.t 51)), qO 53 (.load false 1 (.t 52)), qO 54 (.bin .add (.t 53) (iC 1)), qO 55 (.nilc (.t 49)), qO 56 (.fadr 1 (.t 55)), nO (.store 1 (.t 56) (.t 54))]))
  .skip))
  (.seq (.ops [qO 57 (.mov (.t 3)), qO 2 (.mov (.t 57))])
  .ret)))))
theorem K104 : Kf Tryz.prog Tryz.f104 A104 58 [.mov (.t 2)] := ⟨by kernel_rfl, by kernel_rfl, by kernel_rfl⟩
theorem R104 (c : Cur) (hc : c.ok) : Ret Tryz.prog 104 [.bx c.cs] (.sc (.int .i64 (byteV c))) [.bx (byteC c).cs] := by
  have hb : c.b.length * 1 ≤ 140737488351232 := hc.1.1
  refine Ret.run Tryz.func104 K104 (by simp) rfl rfl 900 ?_
  simp [A104, iniρ, Cur.cs, over]
  refine T.text 400 mixed (by kernel_rfl) (by kernel_rfl) ?_
  simp
  refine T.text 400 mixed (by kernel_rfl) (by kernel_rfl) ?_
  by_cases hlt : c.i < c.b.length
  case neg =>
    have hlt2 : ¬ ((c.i : Int) < c.b.length) := by omega
    simp [hlt2, ex1, byteV, byteC, low8, mixI, stepH, Cur.cs, hlt, zb.idfreeL, zb, yj]
  have hlt2 : (c.i : Int) < c.b.length := by omega
  have hw : IntKind.i64.wrap ((c.i : Int) + 1) = c.i + 1 := zc (by omega) (by omega)
  obtain ⟨br, hd⟩ := zcv c.b c.i hlt
  simp [hlt2]
  refine T.textW 400 [([], []), ([], []), ([], []), ([], []), ([], []), ([], []), ([], []), ([], []), ([], []), ([], []), ([], []), ([], []), ([], []), ([], []), ([], [])] mixed (by kernel_rfl) (by kernel_rfl) ?_
  simp [hlt, hlt2, hd, hw, over, Zb, yb, ex1, byteV, byteC, low8, mixI, stepH, Cur.cs, zb.idfreeL, zb, yj]
def zf (c : Cur) (n : Int) : Int := if n ≤ 0 then 0 else if n ≤ 256 then (byteV c).tmod n else (byteV c * 65536 + byteV (byteC c) * 256 + byteV (byteC (byteC c))).tmod n
def ya (c : Cur) (n : Int) : Cur := if n ≤ 0 then c else if n ≤ 256 then byteC c else byteC (byteC (byteC c))
theorem Ze {c : Cur} (h : c.ok) (n : Int) : (ya c n).ok := by
  unfold ya
  split
  · exact h
  · split
    · exact ZK h
    · exact ZK (ZK (ZK h))
theorem zj (c : Cur) {n : Int} (h : 0 < n) : 0 ≤ zf c n ∧ zf c n < n := by
  have h1 := ZH c
  have h2 := ZH (byteC c)
  have h3 := ZH (byteC (byteC c))
  unfold zf
  rw [if_neg (by omega)]
  split
  · exact ⟨Int.tmod_nonneg _ (by omega), Int.tmod_lt_of_pos _ h⟩
  · exact ⟨Int.tmod_nonneg _ (by omega), Int.tmod_lt_of_pos _ h⟩
def A39 : AC := (.seq (.ops [qO 4 (.mov (iC 0))])
  (.seq (.seq (.ops [qO 8 (.mov (.t 1)), qO 9 (.bin .leq (.t 8) (iC 0))])
  (.cond (.t 9) (.seq (.ops [qO 4 (.mov (iC 0))])
  .ret)
  .skip))
  (.seq (.seq (.ops [qO 10 (.mov (.t 1)), qO 11 (.bin .leq (.t 10) (iC 256))])
  (.cond (.t 11) (.seq (.ops [qO 12 (.mov (.t 0)), cO 13 104 [.t 12], qO 14 (.mov (.t 1)), qO 15 (.bin .rem (.t 13) (.t 14)), qO 4 (.mov (.t 15))])
  .ret)
  .skip))
  (.seq (.ops [qO 16 (.mov (.t 0)), cO 17 104 [.t 16], qO 5 (.mov (.t 17))])
  (.seq (.ops [qO 18 (.mov (.t 0)), cO 19 104 [.t 18], qO 6 (.mov (.t 19))])
  (.seq (.ops [qO 20 (.mov (.t 0)), cO 21 104 [.t 20], qO 7 (.mov (.t 21))])
  (.seq (.ops [qO 22 (.mov (.t 5)), qO 23 (.bin .mul (.t 22) (iC 65536)), qO 24 (.mov (.t 6)), qO 25 (.bin .mul (.t 24) (iC 256)), qO 26 (.bin .add (.t 23) (.t 25)), qO 27 (.mov (.t 7)), qO 28 (.bin .add (.t 26) (.t 27)), qO 29 (.mov (.t 1)), qO 30 (.bin .rem (.t 28) (.t 29)), qO 4 (.mov (.t 30))])
  .ret)))))))
theorem K39 : Kf Tryz.prog Tryz.f39 A39 31 [.mov (.t 4)] := ⟨by kernel_rfl, by kernel_rfl, by kernel_rfl⟩
theorem R39 (c : Cur) (hc : c.ok) (n : Int) : Ret Tryz.prog 39 [.bx c.cs, .sc (.int .i64 n)] (.sc (.int .i64 (zf c n))) [.bx (ya c n).cs, .un] := by
  refine Ret.run Tryz.func39 K39 (by simp) rfl rfl 900 ?_
  have fr : ∀ c : Cur, zb.idfreeL c.cs = true := fun c => rfl
  by_cases h0 : n ≤ 0
  · simp [A39, iniρ, h0, zf, ya, ex1, fr, yj]
  by_cases h1 : n ≤ 256
  · have hn : ¬ n = 0 := by omega
    simp [A39, iniρ, h0, h1]
    refine callK.bx (b := 100000) 0 rfl (by kernel_rfl) (by simp [za]) (by simp [za]) (fr c) rfl (by simp) (R104 c hc) rfl (by rfl) rfl ?_
    simp [h0, h1, hn, zf, ya, ex1, fr, yj]
  simp [A39, iniρ, h0, h1]
  refine callK.bx (b := 100000) 0 rfl (by kernel_rfl) (by simp [za]) (by simp [za]) (fr c) rfl (by simp) (R104 c hc) rfl (by rfl) rfl ?_
  simp
  refine callK.bx (b := 100000) 0 rfl (by kernel_rfl) (by simp [za]) (by simp [za]) (fr _) rfl (by simp) (R104 _ (ZK hc)) rfl (by rfl) rfl ?_
  simp
  refine callK.bx (b := 100000) 0 rfl (by kernel_rfl) (by simp [za]) (by simp [za]) (fr _) rfl (by simp) (R104 _ (ZK (ZK hc))) rfl (by rfl) rfl ?_
  have q1 := ZH c
  have q2 := ZH (byteC c)
  have q3 := ZH (byteC (byteC c))
  have w1 : IntKind.i64.wrap (byteV c * 65536) = byteV c * 65536 := zc (by omega) (by omega)
  have w2 : IntKind.i64.wrap (byteV (byteC c) * 256) = byteV (byteC c) * 256 := zc (by omega) (by omega)
  have w3 : IntKind.i64.wrap (byteV c * 65536 + byteV (byteC c) * 256) = byteV c * 65536 + byteV (byteC c) * 256 := zc (by omega) (by omega)
  have w4 : IntKind.i64.wrap (byteV c * 65536 + byteV (byteC c) * 256 + byteV (byteC (byteC c))) = byteV c * 65536 + byteV (byteC c) * 256 + byteV (byteC (byteC c)) := zc (by omega) (by omega)
  have hn : ¬ n = 0 := by omega
  simp [h0, h1, hn, w1, w2, w3, w4, zf, ya, ex1, fr, yj]
def A66 : AC := (.seq (.ops [qO 4 (.mov (.c (.sc (.bool false))))])
  (.seq (.ops [qO 5 (.mov (.t 0)), qO 6 (.mov (.t 1)), cO 7 39 [.t 5, .t 6], qO 8 (.bin .eql (.t 7) (iC 0)), qO 4 (.mov (.t 8))])
  .ret))
theorem K66 : Kf Tryz.prog Tryz.f66 A66 9 [.mov (.t 4)] := ⟨by kernel_rfl, by kernel_rfl, by kernel_rfl⟩
theorem R66 (c : Cur) (hc : c.ok) (n : Int) : Ret Tryz.prog 66 [.bx c.cs, .sc (.int .i64 n)] (.sc (.bool (zf c n == 0))) [.bx (ya c n).cs, .un] := by
  have fr : ∀ c : Cur, zb.idfreeL c.cs = true := fun c => rfl
  refine Ret.run Tryz.func66 K66 (by simp) rfl rfl 900 ?_
  simp [A66, iniρ]
  refine callK.bx (b := 100000) 0 rfl (by kernel_rfl) (by simp [za]) (by simp [za]) (fr c) (by simp [za]) (by simp) (R39 c hc n) rfl (by rfl) rfl ?_
  simp [ex1, fr, yj]
def A41 : AC := (.seq (.ops [qO 4 (.mov (.c (.sc (.string ⟨#[]⟩))))])
  (.seq (.ops [qO 5 (.mov (.t 1)), qO 6 (.mov (.t 0)), qO 7 (.mov (.t 1)), qO 8 (.llen (.t 7)), cO 9 39 [.t 6, .t 8], qO 10 (.iadr 1 (.t 5) (.t 9)), qO 11 (.load false 1 (.t 10)), qO 4 (.mov (.t 11))])
  .ret))
theorem K41 : Kf Tryz.prog Tryz.f41 A41 12 [.mov (.t 4)] := ⟨by kernel_rfl, by kernel_rfl, by kernel_rfl⟩
theorem R41 (c : Cur) (hc : c.ok) (xs : List ByteArray) (hx : 0 < xs.length) : Ret Tryz.prog 41 [.bx c.cs, .own (rows Ty.str.oc xs) xs.length 1] (.sc (.string (xs[(zf c xs.length).toNat]?.getD default))) [.bx (ya c xs.length).cs, .un] := by
  have fr : ∀ c : Cur, zb.idfreeL c.cs = true := fun c => rfl
  refine Ret.run Tryz.func41 K41 (by simp) rfl rfl 900 ?_
  simp [A41, iniρ]
  refine callK.bx (b := 100000) 0 rfl (by kernel_rfl) (by simp [za]) (by simp [za]) (fr c) (by simp [za]) (by simp) (R39 c hc xs.length) rfl (by rfl) rfl ?_
  obtain ⟨r1, r2⟩ := zj c (n := xs.length) (by omega)
  obtain ⟨m, hm⟩ : ∃ m : Nat, zf c xs.length = m := ⟨(zf c xs.length).toNat, by omega⟩
  rw [hm] at r1 r2 ⊢
  have r3 : m < xs.length := by omega
  have hd : List.drop m (rows Ty.str.oc xs) = .sc (.string (xs[m]?.getD default)) :: rows Ty.str.oc (xs.drop (m + 1)) := by
    have h := ye Ty.str.ocn (xs.take m) (xs.drop m)
    rw [List.take_append_drop, List.length_take, Nat.min_eq_left (by omega)] at h
    have h : List.drop m (rows Ty.str.oc xs) = rows Ty.str.oc (xs.drop m) := by
      have h2 := h
      rwa [show m * Ty.str.n = m from Nat.mul_one m] at h2
    rw [h, List.drop_eq_getElem_cons r3, yc]
    simp [r3]
    rfl
  simp [r2, r3, hd, ex1, fr, yj]
def low30 (a : Int) : Int := IntKind.i64.wrap (((a % 2 ^ IntKind.i64.bits).toNat &&& 1073741823 % 2 ^ IntKind.i64.bits : Nat) : Int)
def newS (h y : Int) : Int := low30 (IntKind.i64.wrap (IntKind.i64.wrap (IntKind.i64.wrap (h * 137) + IntKind.i64.wrap y) + 11))
def newH : Nat → List Int → Int → Int
  | 0, _, h => h
  | _ + 1, [], h => h
  | n + 1, y :: l, h => newH n l (newS h y)
def newC (b : List Int) : Cur := ⟨b, 0, newH 4000 b (778778 + b.length)⟩
theorem zdb {b : List Int} (h : Ty.byte.slice.ok b) : (newC b).ok := ⟨h, Nat.zero_le _⟩
def A37 : AC := (.seq (.ops [qO 2 (.mov (.c (.sc (.pointer none))))])
  (.seq (.ops [qO 5 (.mov (.t 0)), qO 6 (.llen (.t 5)), qO 7 (.bin .add (iC 778778) (.t 6)), qO 3 (.mov (.t 7))])
  (.seq (.seq (.ops [qO 4 (.mov (iC 0))])
  (.block 0 (.loop (.seq (.seq (.ops [qO 8 (.mov (.t 4)), qO 9 (.mov (.t 0)), qO 10 (.llen (.t 9)), qO 11 (.bin .lss (.t 8) (.t 10)), qO 12 (.mov (.t 11)), qG 13 12 true (.mov (.t 4)), qG 14 12 true (.bin .lss (.t 13) (iC 4000)), qO 15 (.pick (.t 12) (.t 14) (.c (.sc (.bool false))))])
  (.cond (.t 15) .skip
  (.exit 0)))
  (.seq (.block 1 (.ops [qO 18 (.mov (.t 3)), qO 19 (.bin .mul (.t 18) (iC 137)), qO 20 (.mov (.t 0)), qO 21 (.mov (.t 4)), qO 22 (.iadr 1 (.t 20) (.t 21)), qO 23 (.load false 1 (.t 22)), qO 24 (.cvi .i64 (.t 23)), qO 25 (.bin .add (.t 19) (.t 24)), qO 26 (.bin .add (.t 25) (iC 11)), qO 27 (.bin .and (.t 26) (iC 1073741823)), qO 3 (.mov (.t 27))]))
  (.ops [qO 16 (.mov (.t 4)), qO 17 (.bin .add (.t 16) (iC 1)), qO 4 (.mov (.t 17))]))))))
  (.seq (.ops [qO 28 (.mov (.t 0)), qO 29 (.mov (.t 3)), wO 30 (.build [.em, (.sc (.int .i64 0)), (.sc (.int .i64 0))] [(0, 1, (.t 28)), (2, 1, (.t 29))]), wO 31 (.box (.t 30)), qO 2 (.mov (.t 31))])
  .ret))))
theorem K37 : Kf Tryz.prog Tryz.f37 A37 32 [.mov (.t 2)] := ⟨by kernel_rfl, by kernel_rfl, by kernel_rfl⟩
theorem R37 (b : List Int) (hx : Ty.byte.slice.ok b) : Ret Tryz.prog 37 [.ro (rows B b) b.length] (.bx (newC b).cs) [.un] := by
  have hb : b.length * 1 ≤ 140737488351232 := hx.1
  have hw0 : IntKind.i64.wrap (778778 + (b.length : Int)) = 778778 + b.length := zc (by omega) (by omega)
  refine Ret.run Tryz.func37 K37 (by simp) rfl rfl 900 ?_
  simp [A37, iniρ, hw0]
  refine T.rounds (μ := fun i : List Int × List Int × Int => i.2.1.length)
    (fun i s => i.1 ++ i.2.1 = b ∧ i.1.length ≤ 4000 ∧ newH (4000 - i.1.length) i.2.1 i.2.2 = newH 4000 b (778778 + b.length) ∧ s.ρ 0 = .ro (rows B b) b.length ∧ s.ρ 3 = .sc (.int .i64 i.2.2) ∧ s.ρ 4 = .sc (.int .i64 i.1.length) ∧ s.h 31 = none ∧ s.n = 32) ([], b, 778778 + b.length) (by simp [za]) ?_
  rintro ⟨pre, rest, h⟩ ⟨ρ, hh, n⟩ ⟨hx, hp, hE, h0', h3', h4', hf, rfl⟩
  simp only at hx hp hE h0' h3' h4' hf
  refine yg (n := 400) ?_
  cases rest with
  | nil =>
    have hl : pre.length = b.length := by rw [← hx]; simp
    have hE2 : h = newH 4000 b (778778 + b.length) := by rw [← hE]; cases 4000 - pre.length <;> rfl
    simp [h0', h4', hl]
    refine T.on 400 ?_
    simp [h0', h3', hf, over, ex1, Cur.cs, newC, ← hE2, zb.idfreeL, zb]
  | cons y rest =>
    have hle : pre.length + (rest.length + 1) = b.length := by rw [← hx]; simp
    have hlt : (pre.length : Int) < b.length := by omega
    by_cases h4k : pre.length = 4000
    · have hE2 : h = newH 4000 b (778778 + b.length) := by rw [← hE, h4k]; rfl
      have h4l : ¬ ((pre.length : Int) < 4000) := by omega
      simp [h0', h4', hlt, h4l]
      refine T.on 400 ?_
      simp [h0', h3', hf, over, ex1, Cur.cs, newC, ← hE2, zb.idfreeL, zb]
    have h4l : (pre.length : Int) < 4000 := by omega
    have hd := ye B.len pre (y :: rest)
    rw [hx, yc, Nat.mul_one] at hd
    have hw : IntKind.i64.wrap ((pre.length : Int) + 1) = pre.length + 1 := zc (by omega) (by omega)
    have hs : 4000 - pre.length = (4000 - (pre.length + 1)) + 1 := by omega
    rw [hs] at hE
    simp [h0', h3', h4', hlt, h4l, hd, B, hw]
    refine ⟨pre ++ [y], rest, by simp, newS h y, _, Le.refl _, ?_⟩
    simp [hx, h0', hf, za, ← hE, newH, newS, low30]
    omega
def pickS (l : List ByteArray) (c : Cur) (n : Int) : ByteArray := l[(zf c n).toNat]?.getD default
theorem Yy {l : List ByteArray} {n : Nat} (h : ∀ x ∈ l, x.size ≤ n) (c : Cur) (k : Int) : (pickS l c k).size ≤ n := by
  unfold pickS
  cases e : l[(zf c k).toNat]? with
  | none => exact Nat.zero_le _
  | some y => exact h y (List.mem_of_getElem? e)
theorem zeK : ∀ n : Nat, rows B (List.replicate n 0) = List.replicate n (AV.sc (.int .u8 0))
  | 0 => rfl
  | n + 1 => by rw [List.replicate_succ, yc, zeK n, List.replicate_succ]; rfl
def digC (n : Int) : ByteArray := strOfNums [IntKind.u8.wrap (48 + n)]
theorem Y2 (n : Int) : (digC n).size = 1 := rfl
def numF : Nat → Nat → ByteArray → ByteArray
  | 0, _, a => a
  | k + 1, n, a => if 9 < n then numF k (n / 10) (digC ((n : Int) / 10 % 10) ++ a) else a
def numT (n : Nat) : ByteArray := numF n n (digC ((n : Int) % 10))
def A134 : AC := (.seq (.ops [qO 2 (.mov (.c (.sc (.string ⟨#[]⟩))))])
  (.seq (.seq (.ops [qO 4 (.mov (.t 0)), qO 5 (.bin .lss (.t 4) (iC 0))])
  (.cond (.t 5) (.ops [qO 0 (.mov (iC 0))])
  .skip))
  (.seq (.ops [qO 6 (.mov (.t 0)), qO 7 (.bin .rem (.t 6) (iC 10)), qO 8 (.bin .add (iC 48) (.t 7)), qO 9 (.cvi .u8 (.t 8)), wO 10 (.bsl 1 1 [(.sc (.int .u8 0))] [(0, 1, (.t 9))]), qO 11 (.bstr (.t 10)), qO 3 (.mov (.t 11))])
  (.seq (.block 0 (.loop (.seq (.seq (.ops [qO 12 (.mov (.t 0)), qO 13 (.bin .gtr (.t 12) (iC 9))])
  (.cond (.t 13) .skip
  (.exit 0)))
  (.block 1 (.seq (.ops [qO 14 (.mov (.t 0)), qO 15 (.bin .quo (.t 14) (iC 10)), qO 0 (.mov (.t 15))])
  (.ops [qO 16 (.mov (.t 0)), qO 17 (.bin .rem (.t 16) (iC 10)), qO 18 (.bin .add (iC 48) (.t 17)), qO 19 (.cvi .u8 (.t 18)), wO 20 (.bsl 1 1 [(.sc (.int .u8 0))] [(0, 1, (.t 19))]), qO 21 (.bstr (.t 20)), qO 22 (.mov (.t 3)), qO 23 (.bin .add (.t 21) (.t 22)), qO 3 (.mov (.t 23))]))))))
  (.seq (.ops [qO 24 (.mov (.t 3)), qO 2 (.mov (.t 24))])
  .ret)))))
theorem K134 : Kf Tryz.prog Tryz.f134 A134 25 [.mov (.t 2)] := ⟨by kernel_rfl, by kernel_rfl, by kernel_rfl⟩
theorem R134 (n : Nat) (hn : n < 4611686018427387904) : Ret Tryz.prog 134 [.sc (.int .i64 n)] (.sc (.string (numT n))) [.un] := by
  have hrem : (n : Int).tmod 10 = (n : Int) % 10 := rfl
  have hw0 : IntKind.i64.wrap (48 + (n : Int) % 10) = 48 + (n : Int) % 10 := zc (by omega) (by omega)
  have hz0 : (digC ((n : Int) % 10)).size + n ≤ n + 1 := by rw [Y2]; omega
  have h0n : ¬ ((n : Int) < 0) := by omega
  refine Ret.run Tryz.func134 K134 (by simp) rfl rfl 900 ?_
  simp only [A134, iniρ]
  simp [h0n, over, hrem, hw0, ZP, num8]
  refine T.rounds (μ := fun i : Nat × Nat × ByteArray => i.1)
    (fun i s => i.2.1 ≤ i.1 ∧ i.2.2.size + i.2.1 ≤ n + 1 ∧ numF i.1 i.2.1 i.2.2 = numT n ∧ s.ρ 0 = .sc (.int .i64 i.2.1) ∧ s.ρ 3 = .sc (.string i.2.2) ∧ s.h 20 = none ∧ s.n = 25) (n, n, digC ((n : Int) % 10)) (by simp [za, numT, hz0]; rfl) ?_
  rintro ⟨k, m, a⟩ ⟨ρ, hh, n'⟩ ⟨hk, hs, hE, h0', h3', f1, rfl⟩
  simp only at hk hs hE h0' h3' f1
  refine yg (n := 400) ?_
  by_cases h9 : 9 < m
  case neg =>
    have h9' : ¬ ((9 : Int) < m) := by omega
    have hE2 : a = numT n := by rw [← hE]; cases k <;> simp [numF, h9]
    simp [h0', h9']
    refine T.on 400 ?_
    simp [h3', hE2]
  have h9' : (9 : Int) < m := by omega
  obtain ⟨k, rfl⟩ : ∃ k', k = k' + 1 := ⟨k - 1, by omega⟩
  rw [numF, if_pos h9] at hE
  have hq1 : (m : Int).tdiv 10 = (m : Int) / 10 := rfl
  have hw1 : IntKind.i64.wrap ((m : Int) / 10) = (m : Int) / 10 := zc (by omega) (by omega)
  have hr2 : ((m : Int) / 10).tmod 10 = (m : Int) / 10 % 10 := rfl
  have hw2 : IntKind.i64.wrap (48 + (m : Int) / 10 % 10) = 48 + (m : Int) / 10 % 10 := zc (by omega) (by omega)
  have hsz : (strOfNums [IntKind.u8.wrap (48 + (m : Int) / 10 % 10)]).size + a.size ≤ 9223372036854775807 := by
    have := Y2 ((m : Int) / 10 % 10)
    rw [digC] at this
    rw [this]; omega
  simp [h0', h3', h9', f1, over, hq1, hw1, hr2, hw2, ZP, num8, hsz]
  refine ⟨k, by omega, m / 10, digC ((m : Int) / 10 % 10) ++ a, _, Le.reset [0, 3] [] (by simp [za, menB, zb]) (by simp), ?_⟩
  simp [za, hE, Y2]
  exact ⟨by omega, by omega, rfl⟩
theorem zcH : ∀ (k n : Nat) (a : ByteArray), (numF k n a).size ≤ a.size + n
  | 0, n, a => Nat.le_add_right _ _
  | k + 1, n, a => by
    rw [numF]
    split
    · have h := zcH k (n / 10) (digC ((n : Int) / 10 % 10) ++ a)
      rw [ByteArray.size_append, Y2] at h
      omega
    · exact Nat.le_add_right _ _
theorem Zi (n : Nat) : (numT n).size ≤ n + 1 := by
  have h := zcH n n (digC ((n : Int) % 10))
  rw [Y2] at h
  rw [numT]; omega
def A120 : AC := (.seq (.ops [wO 1 (.box (.t 0)), wO 2 (.alloc [(.sc (.string ⟨#[]⟩)), .em, (.sc (.string ⟨#[]⟩))])])
  (.seq (.any [(qO 3 (.fadr 0 (.t 1)), []), (qO 4 (.load false 1 (.t 3)), [0]), (wO 5 (.bsl 2 0 [] []), []), (qO 6 (.fadr 1 (.t 1)), []), (qO 7 (.load false 1 (.t 6)), [3]), (wO 8 (.app 2 32 false (.t 5) (.t 7)), [2, 4]), (qO 9 (.fadr 2 (.t 1)), []), (qO 10 (.load false 1 (.t 9)), [6]), (wO 11 (.build [(.sc (.string ⟨#[]⟩)), .em, (.sc (.string ⟨#[]⟩))] [(0, 1, (.t 4)), (1, 1, (.t 8)), (2, 1, (.t 10))]), [1, 5, 7]), (nO (.store 3 (.t 2) (.t 11)), [8, 5, 0, 1, 2, 3, 4, 5, 6, 7, 8])])
  .ret))
theorem K120 : Kf Tryz.prog Tryz.f120 A120 12 [.load true 3 (.t 2)] := ⟨by kernel_rfl, by kernel_rfl, by kernel_rfl⟩
theorem R120 (m : Made) (hm : Made.ty.ok m) : Ret Tryz.prog 120 [.agg (Made.ty.cs m)] (.agg (Made.ty.oc m)) [.un] := by
  have hb : m.outs.length * 32 ≤ 140737488351232 := hm.2.1.1
  have hcap : m.outs.length * 32 ≤ 140737488355328 := by omega
  have hsc := zgt m.outs
  have hfe : rows File.ty.cs m.outs = rows File.ty.oc m.outs := rfl
  refine Ret.run Tryz.func120 K120 (by simp) rfl rfl 900 ?_
  simp [A120, iniρ, Made.cse, over]
  refine T.textW 400 [([], [5, 8]), ([], [5, 8]), ([5], []), ([], [5]), ([], [5]), ([5, 8], []), ([], [5, 8]), ([], [5, 8]), ([], []), ([2], [])] mixed (by kernel_rfl) (by kernel_rfl) ?_
  simp [over, hcap, hsc, hfe, File.ocl, Zb, yb, ex1, File.frL, Made.oce]
def doneL : List ByteArray := [⟨#[]⟩, ⟨#[100, 111, 110, 101, 10]⟩, ⟨#[120, 32, 121, 10]⟩]
def opqL : List ByteArray := [⟨#[111]⟩, ⟨#[112]⟩, ⟨#[113]⟩]
def hiTL : List ByteArray := [⟨#[]⟩, ⟨#[104, 105]⟩, ⟨#[104, 101, 108, 108, 111]⟩]
def YN (c : Cur) : File := ⟨pickS opqL c 3, pickS hiTL (ya c 3) 3⟩
def puts : Nat → Cur → List File → List File × Cur
  | 0, c, l => (l, c)
  | n + 1, c, l => puts n (ya (ya c 3) 3) (yh l (YN c)).1
def madeP (c : Cur) : List File × Cur := puts (zf (ya c 3) 3).toNat (ya (ya c 3) 3) []
def madeV (c : Cur) (t : ByteArray) : Made := ⟨t, (madeP c).1, pickS doneL c 3⟩
def madeC (c : Cur) : Cur := (madeP c).2
theorem YU (xs : List File) (f : File) : (yh xs f).1.length ≤ xs.length + 1 := by
  unfold yh
  split
  · exact zb4 f xs false
  · exact Nat.le_succ _
theorem yU (xs : List File) (f : File) : ∀ x ∈ (yh xs f).1, x = f ∨ x ∈ xs := by
  unfold yh
  split
  · exact zak f xs false
  · exact fun x h => .inr h
theorem y8 (c : Cur) : (YN c).path.size ≤ 5 ∧ (YN c).text.size ≤ 5 := ⟨Yy (by decide) _ _, Yy (by decide) _ _⟩
def A40 : AC := (.seq (.ops [wO 4 (.alloc [(.sc (.string ⟨#[]⟩)), .em, (.sc (.string ⟨#[]⟩))])])
  (.seq (.ops [qO 7 (.mov (.t 1)), qO 8 (.mov (.t 0)), wO 9 (.bsl 1 3 [(.sc (.string ⟨#[]⟩)), (.sc (.string ⟨#[]⟩)), (.sc (.string ⟨#[]⟩))] [(0, 1, (.c (.sc (.string ⟨#[]⟩)))), (1, 1, (.c (.sc (.string ⟨#[100, 111, 110, 101, 10]⟩)))), (2, 1, (.c (.sc (.string ⟨#[120, 32, 121, 10]⟩))))]), cO 10 41 [.t 8, .t 9], wO 11 (.build [(.sc (.string ⟨#[]⟩)), .em, (.sc (.string ⟨#[]⟩))] [(0, 1, (.t 7)), (2, 1, (.t 10))]), wO 5 (.alloc [(.sc (.string ⟨#[]⟩)), .em, (.sc (.string ⟨#[]⟩))]), nO (.store 3 (.t 5) (.t 11))])
  (.seq (.seq (.ops [qO 12 (.mov (.t 0)), cO 13 39 [.t 12, iC 3], qO 6 (.mov (.t 13))])
  (.block 0 (.loop (.seq (.seq (.ops [qO 14 (.mov (.t 6)), qO 15 (.bin .gtr (.t 14) (iC 0))])
  (.cond (.t 15) .skip
  (.exit 0)))
  (.seq (.block 1 (.any [(qO 19 (.fadr 1 (.t 5)), []), (qO 20 (.load false 1 (.t 19)), [0]), (qO 21 (.mov (.t 0)), []), (wO 22 (.bsl 1 3 [(.sc (.string ⟨#[]⟩)), (.sc (.string ⟨#[]⟩)), (.sc (.string ⟨#[]⟩))] [(0, 1, (.c (.sc (.string ⟨#[111]⟩)))), (1, 1, (.c (.sc (.string ⟨#[112]⟩)))), (2, 1, (.c (.sc (.string ⟨#[113]⟩))))]), []), (cO 23 41 [.t 21, .t 22], [2, 3]), (qO 24 (.mov (.t 0)), []), (wO 25 (.bsl 1 3 [(.sc (.string ⟨#[]⟩)), (.sc (.string ⟨#[]⟩)), (.sc (.string ⟨#[]⟩))] [(0, 1, (.c (.sc (.string ⟨#[]⟩)))), (1, 1, (.c (.sc (.string ⟨#[104, 105]⟩)))), (2, 1, (.c (.sc (.string ⟨#[104, 101, 108, 108, 111]⟩))))]), []), (cO 26 41 [.t 24, .t 25], [5, 6, 4]), (wO 27 (.build [(.sc (.string ⟨#[]⟩)), (.sc (.string ⟨#[]⟩))] [(0, 1, (.t 23)), (1, 1, (.t 26))]), [4, 7]), (cO 28 105 [.t 20, .t 27], [1, 8, 7]), (qO 18 (.mov (.t 28)), [9]), (qO 29 (.ext (.t 18) 0), [10]), (qO 30 (.ext (.t 18) 1), [10]), (qO 31 (.fadr 1 (.t 5)), [0, 1, 2, 3, 4, 5, 6, 7, 8, 9, 10, 11]), (nO (.store 1 (.t 31) (.t 29)), [13, 11, 9, 0, 1, 2, 3, 4, 5, 6, 7, 8, 9, 10, 11])]))
  (.ops [qO 16 (.mov (.t 6)), qO 17 (.bin .sub (.t 16) (iC 1)), qO 6 (.mov (.t 17))]))))))
  (.seq (.ops [qO 32 (.load true 3 (.t 5)), nO (.store 3 (.t 4) (.t 32))])
  .ret))))
theorem K40 : Kf Tryz.prog Tryz.f40 A40 33 [.load true 3 (.t 4)] := ⟨by kernel_rfl, by kernel_rfl, by kernel_rfl⟩
set_option maxHeartbeats 2000000 in
theorem R40 (c : Cur) (hc : c.ok) (t : ByteArray) : Ret Tryz.prog 40 [.bx c.cs, .sc (.string t)] (.agg (Made.ty.oc (madeV c t))) [.bx (madeC c).cs, .un] := by
  have fr : ∀ c : Cur, zb.idfreeL c.cs = true := fun c => rfl
  have r1 : Ret Tryz.prog 41 [.bx c.cs, .own (rows Ty.str.oc doneL) 3 1] (.sc (.string (pickS doneL c 3))) [.bx (ya c 3).cs, .un] := R41 c hc doneL (by decide)
  refine Ret.run Tryz.func40 K40 (by simp) rfl rfl 900 ?_
  simp [A40, iniρ, over]
  refine callK.bm 100000 9 (len := 3) (sz := 1) rfl (by kernel_rfl) (by simp [za]) (by simp [za]) (fr c) (by simp [za]) (by simp [za]; rfl) (by rfl) (by rfl) (by decide) r1 rfl rfl ?_
  simp [over]
  refine callK.bx (b := 100000) 0 rfl (by kernel_rfl) (by simp [za]) (by simp [za]) (fr _) (by simp [za]) (by simp) (R39 _ (Ze hc 3) 3) rfl (by rfl) rfl ?_
  obtain ⟨q1, q2⟩ := zj (ya c 3) (n := 3) (by omega)
  obtain ⟨m, hm⟩ : ∃ m : Nat, zf (ya c 3) 3 = m := ⟨(zf (ya c 3) 3).toNat, by omega⟩
  have hP : puts m (ya (ya c 3) 3) [] = ((madeV c t).outs, madeC c) := by simp [madeV, madeC, madeP, hm]
  rw [hm] at q2 ⊢
  simp
  refine T.le (Le.layC 5 1 2 (by simp [za]; rfl) rfl) ?_
  refine T.rounds (μ := fun i : Nat × Cur × List File => i.1)
    (fun i s => i.2.1.ok ∧ i.2.2.length + i.1 ≤ 3 ∧ (∀ x ∈ i.2.2, x.path.size ≤ 5 ∧ x.text.size ≤ 5) ∧ puts i.1 i.2.1 i.2.2 = ((madeV c t).outs, madeC c) ∧ s.ρ 0 = .ref 100000 0 ∧ s.ρ 4 = .ref 4 0 ∧ s.ρ 5 = .ref 5 0 ∧ s.ρ 6 = .sc (.int .i64 i.1) ∧ s.h 100000 = some (some i.2.1.cs) ∧
      s.h 4 = some (some [.sc (.string ⟨#[]⟩), .em, .sc (.string ⟨#[]⟩)]) ∧ s.h 5 = some (some [.sc (.string t), .own (rows File.ty.oc i.2.2) i.2.2.length 2, .sc (.string (pickS doneL c 3))]) ∧ s.h 60 = none ∧ s.h 22 = none ∧ s.h 25 = none ∧ s.h 29000 = none ∧ s.n = 33) (m, ya (ya c 3) 3, []) (by simp [za, Yf, hP, Ze, hc]; omega) ?_
  rintro ⟨j, d, out⟩ ⟨ρ, hh, n⟩ ⟨hd, hj, hs, hE, h0', h4', h5', h6', kc, k4, k5, f1, f2, f3, f4, rfl⟩
  simp only at hd hj hs hE h0' h4' h5' h6' kc k4 k5 f1 f2 f3 f4
  refine T.le (Le.open 5 1 60 k5 rfl f1 (File.frL _)) ?_
  refine yg (n := 400) ?_
  cases j with
  | zero =>
    simp only [puts] at hE
    have hE1 : out = (madeV c t).outs := by rw [← (Prod.mk.inj hE).1]
    have hE2 : d = madeC c := (Prod.mk.inj hE).2
    simp [h6']
    refine T.on 400 ?_
    simp [h0', h4', h5', k4, kc, over, ex1, File.ocl, File.frL, fr, yj, Made.oce, hE1, hE2]
    exact ⟨rfl, rfl⟩
  | succ j =>
    have hw : IntKind.i64.wrap (j : Int) = j := zc (by omega) (by omega)
    have hpos : (0 : Int) < (j : Int) + 1 := by omega
    have ra : Ret Tryz.prog 41 [.bx d.cs, .own (rows Ty.str.oc opqL) 3 1] (.sc (.string (YN d).path)) [.bx (ya d 3).cs, .un] := R41 d hd opqL (by decide)
    have rb : Ret Tryz.prog 41 [.bx (ya d 3).cs, .own (rows Ty.str.oc hiTL) 3 1] (.sc (.string (YN d).text)) [.bx (ya (ya d 3) 3).cs, .un] := R41 _ (Ze hd 3) hiTL (by decide)
    have hok : File.ty.slice.ok out := ⟨show out.length * 32 ≤ 140737488351232 by omega, fun x hx => ⟨show x.path.size ≤ 140737488351232 by have := hs x hx; omega, show x.text.size ≤ 140737488351232 by have := hs x hx; omega, trivial⟩⟩
    have rp := R105 out (YN d) hok (fun x hx => by have := hs x hx; omega) (by have := y8 d; omega)
    simp [h6', hpos]
    refine T.textW 400 [([], [22, 25, 100000]), ([], [22, 25, 100000]), ([], [22, 25]), ([22], [25]), ([100000, 22], [25]), ([], [22, 25, 100000]), ([25], [22, 100000]), ([100000, 25], []), ([], []), ([29000], []), ([], []), ([], []), ([], [5]), ([], []), ([5], [])] mixed (by kernel_rfl) (by kernel_rfl) ?_
    simp [h0', h5', f2, f3, over]
    refine yf.bm 100000 22 (len := 3) (sz := 1) rfl (by kernel_rfl) (by simp [za, h0']) (by simp [za, kc]) (fr d) (by simp [za]) (by simp [za]; rfl) (by rfl) (by rfl) (by decide) ra rfl (by decide) ?_
    simp [h0', h5', f2, f3, over, Zb, yb]
    refine yf.bm 100000 25 (len := 3) (sz := 1) rfl (by kernel_rfl) (by simp [za, h0']) (by simp [za, kc]) (fr _) (by simp [za]) (by simp [za]; rfl) (by rfl) (by rfl) (by decide) rb rfl (by decide) ?_
    simp [h0', h5', f2, f3, over, Zb, yb]
    refine yf.ro 28 rfl (by kernel_rfl) (by simp [Zg, File.roc8, File.cse, za]) rp (by simpa [flt, flt.fltL] using zbi (Ym (q := flt) (fun x c hc => (File.ty.ow x c hc).fl) _)) (by simp [inst, instL, za, f4]; exact ⟨rfl, rfl⟩) (by rfl) ?_
    simp [h0', h5', h6', f2, f3, f4, over, Zb, yb, hw]
    refine ⟨j, by omega, ya (ya d 3) 3, (yh out (YN d)).1, _, Le.trans (Le.pack 5 1 (i := 29000) (len := (yh out (YN d)).1.length) (sz := 2) (cs' := rows File.ty.oc (yh out (YN d)).1) (by simp [za, Ya]; rfl) (by rfl) (by simp [za, Ya]) (by decide) (by simp [File.ocl]) (File.frL _)) (Le.reseat [0, 4, 5, 6] [(100000, 100000), (4, 4), (5, 5)] (by simp) (by simp [za, menB, zb, h0', h4', h5']) ?_), ?_⟩
    · intro b hb cs hcs
      simp at hb
      rcases hb with rfl | rfl | rfl
      · simp [za, Ya] at hcs
        subst hcs
        intro y hy
        simp [Cur.cs] at hy
        rcases hy with rfl | rfl | rfl <;> rfl
      · simp [za, Ya, Za, k4] at hcs
        subst hcs
        simp [zb]
      · simp [za, Ya] at hcs
        subst hcs
        have hf := File.frL (yh out (YN d)).1
        simp [zb, hf]
    · have hl := YU out (YN d)
      have hz := y8 d
      simp [za, Ya, Za, h0', h4', h5', k4, Ze, hd]
      refine ⟨by omega, fun x hx => (yU out (YN d) x hx).elim (fun e => e ▸ hz) (hs x), hE⟩
theorem zeO : ∀ (n : Nat) (c : Cur) (l : List File), c.ok → (∀ x ∈ l, x.path.size ≤ 5 ∧ x.text.size ≤ 5) → (puts n c l).2.ok ∧ (puts n c l).1.length ≤ l.length + n ∧ ∀ x ∈ (puts n c l).1, x.path.size ≤ 5 ∧ x.text.size ≤ 5
  | 0, c, l, hc, h => ⟨hc, Nat.le_refl _, h⟩
  | n + 1, c, l, hc, h => by
    have hl := YU l (YN c)
    obtain ⟨h1, h2, h3⟩ := zeO n (ya (ya c 3) 3) (yh l (YN c)).1 (Ze (Ze hc 3) 3) (fun x hx => (yU l (YN c) x hx).elim (fun e => e ▸ y8 c) (h x))
    exact ⟨h1, Nat.le_trans h2 (by omega), h3⟩
theorem zV {c : Cur} (hc : c.ok) : (madeC c).ok ∧ (madeP c).1.length ≤ 2 ∧ ∀ x ∈ (madeP c).1, x.path.size ≤ 5 ∧ x.text.size ≤ 5 := by
  obtain ⟨q1, q2⟩ := zj (ya c 3) (n := 3) (by omega)
  obtain ⟨h1, h2, h3⟩ := zeO (zf (ya c 3) 3).toNat (ya (ya c 3) 3) [] (Ze (Ze hc 3) 3) (by simp)
  refine ⟨h1, Nat.le_trans h2 ?_, h3⟩
  simp only [List.length_nil]
  omega
def abxL : List ByteArray := [⟨#[97, 35, 98, 117, 105, 108, 100]⟩, ⟨#[98, 35, 116, 101, 115, 116]⟩, ⟨#[120]⟩, ⟨#[]⟩]
def abzL : List ByteArray := [⟨#[97, 47, 98]⟩, ⟨#[]⟩, ⟨#[97]⟩, ⟨#[122, 122]⟩]
def zF (i : Nat) : File := ⟨⟨#[122]⟩ ++ numT i, ⟨#[]⟩⟩
def zFs : Nat → List File
  | 0 => []
  | n + 1 => zFs n ++ [zF n]
def anyP (c : Cur) : Made × Cur :=
  let t := pickS abxL c 4
  let m := madeV (ya c 4) t
  let c2 := madeC (ya c 4)
  let c3 := ya c2 8
  if zf c2 8 = 0 then (⟨m.task, m.outs ++ [⟨pickS abzL c3 4, ⟨#[]⟩⟩], m.log⟩, ya c3 4)
  else if zf c2 8 = 1 then (⟨m.task, m.outs, strOfNums (List.replicate (200 + zf c3 2).toNat 0)⟩, ya c3 2)
  else if zf c2 8 = 2 then (⟨m.task, m.outs ++ zFs 6, m.log⟩, c3)
  else (m, c3)
def A136 : AC := (.seq (.ops [wO 3 (.box (.t 0)), wO 4 (.box (.t 1)), wO 6 (.alloc [(.sc (.string ⟨#[]⟩)), .em, (.sc (.string ⟨#[]⟩))]), qO 7 (.mov (.c (.sc (.bool false))))])
  (.seq (.ops [qO 16 (.load true 3 (.t 4)), cO 17 120 [.t 16], wO 8 (.alloc [(.sc (.string ⟨#[]⟩)), .em, (.sc (.string ⟨#[]⟩))]), nO (.store 3 (.t 8) (.t 17))])
  (.seq (.ops [qO 19 (.mov (.t 2)), cO 20 198 [.t 19], qO 18 (.mov (.t 20)), qO 21 (.ext (.t 18) 0), qO 22 (.ext (.t 18) 1), qO 9 (.mov (.t 21)), qO 10 (.mov (.t 22))])
  (.seq (.seq (.ops [qO 23 (.mov (.t 2)), cO 24 199 [.t 23], qO 25 (.not (.t 24)), qO 26 (.mov (.t 25)), qG 27 26 false (.mov (.t 9)), qG 28 26 false (.iadr 1 (.t 27) (iC 0)), qG 29 26 false (.load false 1 (.t 28)), qG 30 26 false (.bin .eql (.t 29) (.c (.sc (.string ⟨#[102, 97, 105, 108]⟩)))), qO 31 (.pick (.t 26) (.c (.sc (.bool true))) (.t 30))])
  (.cond (.t 31) (.seq (.ops [qO 32 (.load true 3 (.t 8)), nO (.store 3 (.t 6) (.t 32)), qO 7 (.mov (.c (.sc (.bool false))))])
  .ret)
  .skip))
  (.seq (.seq (.ops [qO 33 (.mov (.t 9)), qO 34 (.iadr 1 (.t 33) (iC 0)), qO 35 (.load false 1 (.t 34)), qO 36 (.bin .eql (.t 35) (.c (.sc (.string ⟨#[108, 111, 103]⟩))))])
  (.cond (.t 36) (.seq (.any [(qO 37 (.fadr 2 (.t 4)), []), (qO 38 (.load false 1 (.t 37)), [0]), (qO 39 (.mov (.t 9)), []), (qO 40 (.subl 1 (.t 39) (some (iC 1)) none), [2]), (cO 41 200 [.t 40, (.c (.sc (.string ⟨#[32]⟩)))], [3]), (qO 42 (.bin .add (.t 38) (.t 41)), [1, 4]), (qO 43 (.bin .add (.t 42) (.c (.sc (.string ⟨#[10]⟩)))), [5]), (qO 11 (.mov (.t 43)), [6, 4, 0, 1, 2, 3, 4, 5, 6])])
  (.seq (.seq (.ops [qO 44 (.mov (.t 11)), qO 45 (.slen (.t 44)), qO 46 (.bin .gtr (.t 45) (iC 200))])
  (.cond (.t 46) (.seq (.ops [qO 47 (.load true 3 (.t 8)), nO (.store 3 (.t 6) (.t 47)), qO 7 (.mov (.c (.sc (.bool false))))])
  .ret)
  .skip))
  (.seq (.ops [qO 48 (.mov (.t 11)), qO 49 (.fadr 2 (.t 8)), nO (.store 1 (.t 49) (.t 48))])
  (.seq (.ops [qO 50 (.load true 3 (.t 8)), nO (.store 3 (.t 6) (.t 50)), qO 7 (.mov (.c (.sc (.bool true))))])
  .ret))))
  .skip))
  (.seq (.ops [qO 52 (.load true 5 (.t 3)), qO 53 (.mov (.t 9)), cO 54 201 [.t 52, .t 53], qO 51 (.mov (.t 54)), qO 55 (.ext (.t 51) 0), qO 56 (.ext (.t 51) 1), qO 12 (.mov (.t 55)), qO 13 (.mov (.t 56))])
  (.seq (.ops [qO 58 (.fadr 1 (.t 4)), qO 59 (.load false 1 (.t 58)), qO 60 (.mov (.t 10)), qO 61 (.mov (.t 12)), wO 62 (.build [(.sc (.string ⟨#[]⟩)), (.sc (.string ⟨#[]⟩))] [(0, 1, (.t 60)), (1, 1, (.t 61))]), cO 63 105 [.t 59, .t 62], qO 57 (.mov (.t 63)), qO 64 (.ext (.t 57) 0), qO 65 (.ext (.t 57) 1), qO 14 (.mov (.t 64)), qO 15 (.mov (.t 65))])
  (.seq (.seq (.ops [qO 66 (.mov (.t 13)), qO 67 (.not (.t 66)), qO 68 (.mov (.t 67)), qG 69 68 false (.mov (.t 15)), qG 70 68 false (.not (.t 69)), qO 71 (.pick (.t 68) (.c (.sc (.bool true))) (.t 70)), qO 72 (.mov (.t 71)), qG 73 72 false (.mov (.t 14)), qG 74 72 false (.llen (.t 73)), qG 75 72 false (.bin .gtr (.t 74) (iC 6)), qO 76 (.pick (.t 72) (.c (.sc (.bool true))) (.t 75))])
  (.cond (.t 76) (.seq (.ops [qO 77 (.load true 3 (.t 8)), nO (.store 3 (.t 6) (.t 77)), qO 7 (.mov (.c (.sc (.bool false))))])
  .ret)
  .skip))
  (.seq (.ops [qO 78 (.mov (.t 14)), qO 79 (.fadr 1 (.t 8)), nO (.store 1 (.t 79) (.t 78))])
  (.seq (.ops [qO 80 (.load true 3 (.t 8)), nO (.store 3 (.t 6) (.t 80)), qO 7 (.mov (.c (.sc (.bool true))))])
  .ret))))))))))
theorem K136 : Kf Tryz.prog Tryz.f136 A136 81 [.load true 3 (.t 6), .mov (.t 7)] := ⟨by kernel_rfl, by kernel_rfl, by kernel_rfl⟩
set_option maxHeartbeats 8000000 in
set_option maxRecDepth 20000 in
theorem R136 (j : Job) (hj : JL j) (m : Made) (hm : Sm m) (hmo : Made.ty.ok m) (s : ByteArray) (hs : s.size ≤ 1048576) : Ret Tryz.prog 136 [.agg (Job.ty.cs j), .agg (Made.ty.cs m), .sc (.string s)] (.tup [.agg (Made.ty.oc (actV j m s).1), .sc (.bool (actV j m s).2)]) [.un, .un, .un] := by
  have hmn := hm.n
  have hml := hm.l
  have rW := R198 s hs
  have rO := R199 s hs
  have hid := File.frL m.outs
  obtain ⟨l, hl⟩ : ∃ l, l = (l15W s).1 := ⟨_, rfl⟩
  obtain ⟨o, ho⟩ : ∃ l, l = (l15W s).2 := ⟨_, rfl⟩
  rw [← hl, ← ho] at rW
  have hfl : flt (.tup [.own (rows Ty.str.oc l) l.length 1, .sc (.string o)]) = true := by
    have h1 := Ty.str.flo l
    simp only [flt, flt.fltL, Bool.and_eq_true] at h1 ⊢
    exact ⟨h1, trivial, trivial⟩
  refine Ret.run Tryz.func136 K136 (by simp) rfl rfl 900 ?_
  simp [A136, iniρ, over, Job.cse, Made.cse]
  refine callK.ro 17 rfl (by kernel_rfl) (by simp [Zg, ze, Yc, za, Made.cse]) (R120 m hmo) (by simpa [flt] using Made.ty.flL m) (by simp [inst, instL, Made.oce, za]; exact ⟨rfl, rfl⟩) rfl ?_
  simp [over]
  refine callK.ro 20 rfl (by kernel_rfl) (by simp [Yc, za]) rW hfl (by simp [inst, instL, shut, za]; exact ⟨rfl, rfl⟩) rfl ?_
  simp
  refine callK.ro 0 rfl (by kernel_rfl) (by simp [Yc, za]) rO rfl rfl rfl ?_
  by_cases hok : yQ s = false
  case pos =>
   as_aux_lemma =>
    have hV : actV j m s = (m, false) := by unfold actV; rw [hok]; rfl
    rw [hV]
    simp [hok, over, ex1, File.ocl, hid, Made.oce]
  have hok : yQ s = true := by simpa using hok
  obtain ⟨kw1, kw2, kw3, kw4⟩ := zbK hok
  obtain ⟨z1, z2⟩ := zaX hs
  have hos := zan s hs
  have hV : actV j m s = doAct j m (atB l 0) (l.drop 1) o := by unfold actV; rw [hok, hl, ho]; rfl
  rw [← hl] at kw1 kw2 kw3 kw4 z1 z2
  rw [← ho] at hos
  rw [hV]
  clear hV hl ho rO rW
  cases l with
  | nil => simp at kw4
  | cons w ws =>
  have z1 : ws.length ≤ 1048577 := z1
  have z2 : ∀ x ∈ ws, x.size ≤ 1048576 := z2
  have kw1 : isW w [101, 110, 118] = true → 1 ≤ ws.length := kw1
  have kw2 : isW w [117, 115, 101] = true → 2 ≤ ws.length := kw2
  have kw3 : isW w [112, 117, 116] = true ∨ isW w [99, 97, 116] = true ∨ isW w [101, 110, 118] = true ∨ isW w [117, 115, 101] = true ∨ isW w [108, 111, 103] = true ∨ isW w [102, 97, 105, 108] = true := kw3
  have hro : rows Ty.str.oc (w :: ws) = .sc (.string w) :: rows Ty.str.oc ws := rfl
  have hln := zU ws
  have hp0 : (0 : Int) < (ws.length : Int) + 1 := by omega
  have htk : List.take ws.length (rows Ty.str.oc ws) = rows Ty.str.oc ws := List.take_of_length_le (Nat.le_of_eq hln)
  have hrj : ∀ h : Hp, h 21000 = some (some (.sc (.string w) :: rows Ty.str.oc ws)) → roc h 8 (.sl 21000 1 ws.length 1 false) = some (.ro (rows Ty.str.cs ws) ws.length) := fun h e => by
    have hsh : shut.shutL (rows Ty.str.oc ws) = true := zB (Ym Ty.str.sh ws)
    simp [roc, shut, e, hln, htk, hsh]
    exact ⟨by omega, rfl⟩
  have hrl : ∀ h : Hp, h 21000 = some (some (.sc (.string w) :: rows Ty.str.oc ws)) → roc h 8 (.sl 21000 0 (ws.length + 1) 1 false) = some (.ro (rows Ty.str.cs (w :: ws)) (ws.length + 1)) := fun h e => zbV (xs := w :: ws) e
  have e0 : atB (w :: ws) 0 = w := rfl
  have e1 : (w :: ws).drop 1 = ws := rfl
  rw [e0, e1]
  by_cases k1 : w.toList = [102, 97, 105, 108]
  · have hD : doAct j m w ws o = (m, false) := by simp [doAct, isW, k1]
    rw [hD]
    simp [hok, over, hro, hp0, k1, ex1, File.ocl, hid, Made.oce]
  by_cases k2 : w.toList = [108, 111, 103]
  · have hjs : (joinB ws sp).size ≤ 2199025352704 := by
      have h1 := Y5 sp z2
      have h2 : ws.length * (sp.size + 1048576) ≤ 1048577 * 1048577 := Nat.mul_le_mul z1 (by decide)
      exact Nat.le_trans h1 (Nat.le_trans h2 (by decide))
    have rJ : Ret Tryz.prog 200 [.ro (rows Ty.str.cs ws) ws.length, .sc (.string ⟨#[32]⟩)] (.sc (.string (joinB ws sp))) [.un, .un] := R200 ws sp z1 z2 (by decide)
    have hz1 : m.log.size + (joinB ws sp).size ≤ 9223372036854775807 := by omega
    have hz2 : m.log.size + (joinB ws sp).size + (⟨#[10]⟩ : ByteArray).size ≤ 9223372036854775807 := by
      show m.log.size + (joinB ws sp).size + 1 ≤ _
      omega
    simp [hok, over, hro, hp0, k1, k2, Made.cse]
    refine T.textW 400 [([], []), ([], []), ([], []), ([], []), ([], []), ([], []), ([], []), ([], [])] mixed (by kernel_rfl) (by kernel_rfl) ?_
    simp [over, hro, Zb, yb]
    refine yf.ro 0 rfl (by kernel_rfl) (by simp [hrj, Yc, za, hro]) rJ rfl rfl (by rfl) ?_
    have hls : (logT m ws).size = m.log.size + (joinB ws sp).size + (⟨#[10]⟩ : ByteArray).size := by unfold logT; rw [ByteArray.size_append, ByteArray.size_append]; rfl
    by_cases h2 : 200 < (logT m ws).size
    · have hD : doAct j m w ws o = (m, false) := by simp [doAct, isW, k2, h2]
      have h2' : (200 : Int) < (m.log.size : Int) + (joinB ws sp).size + ((⟨#[10]⟩ : ByteArray).size : Int) := by rw [hls] at h2; omega
      rw [hD]
      simp [over, hz1, hz2, h2', Zb, yb, ex1, File.ocl, hid, Made.oce]
    · have hD : doAct j m w ws o = (⟨m.task, m.outs, logT m ws⟩, true) := by simp [doAct, isW, k2, h2]
      have h2' : ¬ (200 : Int) < (m.log.size : Int) + (joinB ws sp).size + ((⟨#[10]⟩ : ByteArray).size : Int) := by rw [hls] at h2; omega
      have hlt : logT m ws = m.log ++ joinB ws sp ++ (⟨#[10]⟩ : ByteArray) := rfl
      rw [hD]
      simp [over, hz1, hz2, h2', Zb, yb, ex1, File.ocl, hid, Made.oce, hlt]
  have hk4 : isW w [112, 117, 116] = true ∨ isW w [99, 97, 116] = true ∨ isW w [101, 110, 118] = true ∨ isW w [117, 115, 101] = true := by
    rcases kw3 with h | h | h | h | h | h
    · exact .inl h
    · exact .inr (.inl h)
    · exact .inr (.inr (.inl h))
    · exact .inr (.inr (.inr h))
    · exact absurd (by simpa [isW] using h) k2
    · exact absurd (by simpa [isW] using h) k1
  have rT := R201 j hj w ws z1 z2 kw1 kw2 hk4
  obtain ⟨t, ht⟩ : ∃ t, t = textI j w ws := ⟨_, rfl⟩
  rw [← ht] at rT
  have hD : doAct j m w ws o = if t.2 && ((yh m.outs ⟨o, t.1⟩).2 && decide ((yh m.outs ⟨o, t.1⟩).1.length ≤ 6)) then (⟨m.task, (yh m.outs ⟨o, t.1⟩).1, m.log⟩, true) else (m, false) := by
    unfold doAct
    rw [if_neg (by simp [isW, k1]), if_neg (by simp [isW, k2]), ← ht]
  rw [hD]
  simp [hok, over, hro, hp0, k1, k2, Made.cse, Job.cse]
  refine callK.ro 0 rfl (by kernel_rfl) (by simp [hrl, Zg, ze, Yc, za, hro, Job.cse]) rT rfl rfl rfl ?_
  have rP := R105 m.outs ⟨o, t.1⟩ hm.ok (fun x hx => (hm.f x hx).1) hos
  obtain ⟨p, hp⟩ : ∃ p, p = yh m.outs ⟨o, t.1⟩ := ⟨_, rfl⟩
  rw [← hp] at rP ⊢
  have hid2 := File.frL p.1
  simp [over, Made.cse]
  refine callK.ro 63 rfl (by kernel_rfl) (by simp [Zg, ze, Yc, za, File.cse]) rP (by simpa [flt, flt.fltL] using zbi (Ym (q := flt) (fun x c hc => (File.ty.ow x c hc).fl) _)) (by simp [inst, instL, za]; exact ⟨rfl, rfl⟩) rfl ?_
  cases h2 : t.2 with
  | false => simp [over, h2, ex1, File.ocl, hid, Made.oce]
  | true =>
  cases h3 : p.2 with
  | false => simp [over, h2, h3, ex1, File.ocl, hid, Made.oce]
  | true =>
  by_cases h4 : p.1.length ≤ 6
  · have h4' : ¬ (6 : Int) < p.1.length := by omega
    simp [over, h2, h3, h4, h4', ex1, File.ocl, hid2, Made.oce]
  · have h4' : (6 : Int) < p.1.length := by omega
    simp [over, h2, h3, h4, h4', ex1, File.ocl, hid, Made.oce]
theorem Sm.made {m : Made} (h : Sm m) (ht : m.task.size ≤ 140737488351232) : Made.ty.ok m := ⟨ht, h.ok, show m.log.size ≤ 140737488351232 by have := h.l; omega, trivial⟩
theorem zcW {j : Job} {m : Made} {s : ByteArray} : (actV j m s).1.task = m.task := by
  unfold actV doAct
  split
  · split
    · rfl
    · split
      · split <;> rfl
      · split <;> rfl
  · rfl
def A67 : AC := (.seq (.ops [wO 1 (.box (.t 0)), wO 2 (.alloc [(.sc (.string ⟨#[]⟩)), .em, (.sc (.string ⟨#[]⟩))]), qO 3 (.mov (.c (.sc (.bool false))))])
  (.seq (.ops [qO 8 (.fadr 0 (.t 1)), qO 9 (.load false 1 (.t 8)), wO 10 (.bsl 2 0 [] []), wO 11 (.build [(.sc (.string ⟨#[]⟩)), .em, (.sc (.string ⟨#[]⟩))] [(0, 1, (.t 9)), (1, 1, (.t 10))]), wO 4 (.alloc [(.sc (.string ⟨#[]⟩)), .em, (.sc (.string ⟨#[]⟩))]), nO (.store 3 (.t 4) (.t 11))])
  (.seq (.seq (.ops [qO 5 (.mov (iC 0))])
  (.block 0 (.loop (.seq (.seq (.ops [qO 12 (.mov (.t 5)), qO 13 (.fadr 1 (.t 1)), qO 14 (.load false 1 (.t 13)), qO 15 (.llen (.t 14)), qO 16 (.bin .lss (.t 12) (.t 15))])
  (.cond (.t 16) .skip
  (.exit 0)))
  (.seq (.block 1 (.seq (.any [(qO 20 (.load true 5 (.t 1)), []), (qO 21 (.load true 3 (.t 4)), []), (qO 22 (.fadr 1 (.t 1)), []), (qO 23 (.load false 1 (.t 22)), [2]), (qO 24 (.mov (.t 5)), []), (qO 25 (.iadr 1 (.t 23) (.t 24)), [3, 4]), (qO 26 (.load false 1 (.t 25)), [5]), (cO 27 136 [.t 20, .t 21, .t 26], [0, 1, 6]), (qO 19 (.mov (.t 27)), [7]), (qO 28 (.ext (.t 19) 0), [8]), (qO 29 (.ext (.t 19) 1), [8]), (wO 6 (.alloc [(.sc (.string ⟨#[]⟩)), .em, (.sc (.string ⟨#[]⟩))]), []), (nO (.store 3 (.t 6) (.t 28)), [11, 9, 7, 0, 1, 2, 3, 4, 5, 6, 7, 8, 9, 11]), (qO 7 (.mov (.t 29)), [10, 12, 0, 1, 2, 3, 4, 5, 6, 7, 8, 9, 10, 11, 12])])
  (.seq (.ops [qO 30 (.load true 3 (.t 6)), nO (.store 3 (.t 4) (.t 30))])
  (.seq (.ops [qO 31 (.mov (.t 7)), qO 32 (.not (.t 31))])
  (.cond (.t 32) (.seq (.ops [qO 33 (.load true 3 (.t 4)), nO (.store 3 (.t 2) (.t 33)), qO 3 (.mov (.c (.sc (.bool false))))])
  .ret)
  .skip)))))
  (.ops [qO 17 (.mov (.t 5)), qO 18 (.bin .add (.t 17) (iC 1)), qO 5 (.mov (.t 18))]))))))
  (.seq (.ops [qO 34 (.load true 3 (.t 4)), nO (.store 3 (.t 2) (.t 34)), qO 3 (.mov (.c (.sc (.bool true))))])
  .ret))))
theorem K67 : Kf Tryz.prog Tryz.f67 A67 35 [.load true 3 (.t 2), .mov (.t 3)] := ⟨by kernel_rfl, by kernel_rfl, by kernel_rfl⟩
set_option maxHeartbeats 4000000 in
theorem R67 (j : Job) (hj : JL j) (hs : ∀ s ∈ j.acts, s.size ≤ 1048576) (hn : j.name.size ≤ 140737488351232) : Ret Tryz.prog 67 [.agg (Job.ty.cs j)] (.tup [.agg (Made.ty.oc (makeV j).1), .sc (.bool (makeV j).2)]) [.un] := by
  have hja := hj.a
  refine Ret.run Tryz.func67 K67 (by simp) rfl rfl 900 ?_
  simp [A67, iniρ, over, Job.cse]
  refine T.le (Le.pack 4 1 (i := 10) (len := 0) (sz := 2) (cs' := []) (by simp [za]; rfl) (by rfl) (by simp [za]) (by decide) (by rfl) (by rfl)) ?_
  refine T.le (Le.told [(1, .ref 1 0), (2, .ref 2 0), (4, .ref 4 0), (5, .sc (.int .i64 0))] [(1, Job.ty.cs j), (2, [.sc (.string ⟨#[]⟩), .em, .sc (.string ⟨#[]⟩)]), (4, Made.ty.oc ⟨j.name, [], ⟨#[]⟩⟩)]
    (by simp [toldT, yJ, zA, YH, zb, za]) (by simp [toldB, yD, ZJ, zA, zO, zal, YH, zb, zb.idfreeL, Yf, za, Job.cse, Made.oce])) ?_
  simp only [toldρ, toldH]
  refine T.rounds (μ := fun i : List ByteArray × List ByteArray × Made => i.2.1.length)
    (fun i s => i.1 ++ i.2.1 = j.acts ∧ makeF j i.2.2 i.2.1 = makeV j ∧ Sm i.2.2 ∧ i.2.2.task.size ≤ 140737488351232 ∧ s.ρ 1 = .ref 1 0 ∧ s.ρ 2 = .ref 2 0 ∧ s.ρ 4 = .ref 4 0 ∧ s.ρ 5 = .sc (.int .i64 i.1.length) ∧ s.h 1 = some (some (Job.ty.cs j)) ∧ s.h 2 = some (some [.sc (.string ⟨#[]⟩), .em, .sc (.string ⟨#[]⟩)]) ∧ s.h 4 = some (some (Made.ty.oc i.2.2)) ∧ s.h 60 = none ∧ s.h 6 = none ∧ s.h 28001001 = none ∧ s.n = 35) ([], j.acts, ⟨j.name, [], ⟨#[]⟩⟩) (by simp [za, makeV]; exact ⟨⟨Nat.zero_le _, fun x hx => (by cases hx), Nat.zero_le _⟩, hn⟩) ?_
  rintro ⟨pre, rest, m⟩ ⟨ρ, hh, n⟩ ⟨hx, hE, hm, hmt, k1, k2, k4, k5, g1, g2, g4, f60, f6, fX, rfl⟩
  simp only at hx hE hm hmt k1 k2 k4 k5 g1 g2 g4 f60 f6 fX
  have hid := File.frL m.outs
  refine T.le (Le.open 4 1 60 g4 (by rw [Made.oce]; rfl) f60 hid) ?_
  simp only [Made.oce]
  refine yg (n := 400) ?_
  cases rest with
  | nil =>
    have hxl : pre.length = j.acts.length := by rw [← hx]; simp
    have hE : (m, true) = makeV j := hE
    rw [← hE]
    simp [k1, k5, g1, hxl, Job.cse]
    refine T.on 400 ?_
    simp [k2, k4, g2, over, ex1, za, File.ocl, hid, Made.oce]
  | cons x rest =>
    have hle : pre.length + (rest.length + 1) = j.acts.length := by rw [← hx]; simp
    have hlt : (pre.length : Int) < j.acts.length := by omega
    have hlt2 : pre.length < j.acts.length := by omega
    have hwr : IntKind.i64.wrap ((pre.length : Int) + 1) = pre.length + 1 := zc (by omega) (by omega)
    have hat : atB j.acts pre.length = x := by unfold atB; rw [← hx, List.getElem?_append_right (Nat.le_refl _)]; simp
    have hd := ZF j.acts pre.length hlt2
    rw [hat] at hd
    have hxs : x.size ≤ 1048576 := hs x (by rw [← hx]; simp)
    have rA := R136 j hj m hm (hm.made hmt) x hxs
    have hsm := zdo (j := j) hm hxs
    have hno := zfM (j := j) (m := m) (s := x)
    have htk := zcW (j := j) (m := m) (s := x)
    rw [makeF] at hE
    obtain ⟨p, hp⟩ : ∃ p, p = actV j m x := ⟨_, rfl⟩
    rw [← hp] at rA hE hsm hno htk
    have hid2 := File.frL p.1.outs
    have hfl : flt (.tup [.agg (Made.ty.oc p.1), .sc (.bool p.2)]) = true := by
      have h1 := Made.ty.flL p.1
      simp only [flt, flt.fltL, Bool.and_eq_true] at h1 ⊢
      exact ⟨h1, trivial, trivial⟩
    simp [k1, k5, g1, hlt, Job.cse]
    refine T.textW 400 [([], [6]), ([], [6]), ([], [6]), ([], [6]), ([], [6]), ([], [6]), ([], [6]), ([28001001], [6]), ([], [6]), ([], [6]), ([], [6]), ([6], [28001001]), ([6], []), ([], [])] mixed (by kernel_rfl) (by kernel_rfl) ?_
    simp [k1, k4, k5, g1, hlt, hlt2, hd, Job.cse, over, Zb, yb]
    refine yf.ro 27 rfl (by kernel_rfl) (by simp [Zg, Yh, List.mapM_cons, List.mapM_nil, ze, Yc, za, Za, Made.cse, Job.cse, File.roc7, k4, g1]) rA hfl (by simp [inst, instL, Made.oce, za, Za, fX]; exact ⟨rfl, rfl⟩) (by rfl) ?_
    cases hok : p.2 with
    | false =>
      rw [hok] at hE
      have hE : (m, false) = makeV j := hE
      have hpm : p.1 = m := hno hok
      rw [← hE, ← hpm]
      simp [k2, k4, g2, f6, over, hok, ex1, za, Ya, Za, Zb, yb, File.ocl, hid2, Made.oce]
    | true =>
      rw [hok] at hE
      have hE : makeF j p.1 rest = makeV j := hE
      simp [k2, k4, g2, f6, over, hok, za, Ya, Za, Zb, yb, k5, hwr]
      refine ⟨pre ++ [x], rest, by simp, p.1, _, Le.trans (Le.pack 4 1 (i := 28001001) (len := p.1.outs.length) (sz := 2) (cs' := rows File.ty.oc p.1.outs) (by simp [za, Ya, Za]; rfl) (by rfl) (by simp [za, Ya, Za]) (by decide) (by simp [File.ocl]) hid2)
        (Le.told [(1, .ref 1 0), (2, .ref 2 0), (4, .ref 4 0), (5, .sc (.int .i64 ((pre ++ [x]).length : Nat)))] [(1, Job.ty.cs j), (2, [.sc (.string ⟨#[]⟩), .em, .sc (.string ⟨#[]⟩)]), (4, Made.ty.oc p.1)]
          (by simp [toldT, yJ, zA, YH, zb, za, k1, k2, k4]) (by simp [toldB, yD, ZJ, zA, zO, zal, YH, zb, zb.idfreeL, hid2, za, Ya, Za, Job.cse, Made.oce, g1, g2])), by simpa using hx, hE, hsm, by rw [htk]; exact hmt, ?_⟩
      simp [toldρ, toldH, za, Job.cse, Made.oce]
def sB (s : ByteArray) : List Int := s.data.toList.map fun b => (b.toNat : Int)
theorem zad (s : ByteArray) : (sB s).length = s.size := by rw [sB, List.length_map, Array.length_toList]; rfl
theorem ZI (s : ByteArray) : yG s = rows B (sB s) := by
  unfold yG sB
  induction s.data.toList with
  | nil => rfl
  | cons x xs ih => rw [List.map_cons, List.map_cons, yc, ih]; rfl
def hiL (n : Nat) : List Int := [(n : Int) / 256, (n : Int) % 256]
def putT (b : List Int) (s : ByteArray) : List Int := if s.size ≤ 60000 then b ++ (hiL s.size ++ sB s) else b
theorem zdx (n : Nat) : [AV.sc (.int .u8 ((n : Int) / 256)), AV.sc (.int .u8 ((n : Int) % 256))] = rows B (hiL n) := rfl
theorem zev {n : Nat} (h : n ≤ 60000) : IntKind.u8.wrap ((n : Int).fdiv (2 ^ min 8 IntKind.i64.bits)) = (n : Int) / 256 := by
  have e : (n : Int).fdiv (2 ^ min 8 IntKind.i64.bits) = (n : Int) / 256 := by
    rw [Int.fdiv_eq_ediv_of_nonneg _ (by decide)]; rfl
  rw [e]
  simp [IntKind.wrap, IntKind.bits, IntKind.signed]
  omega
theorem zeu (n : Nat) : IntKind.u8.wrap (n : Int) = (n : Int) % 256 := rfl
def A147 : AC := (.seq (.ops [qO 4 (.mov (.c .em))])
  (.seq (.seq (.ops [qO 5 (.mov (.t 1)), qO 6 (.slen (.t 5)), qO 7 (.bin .gtr (.t 6) (iC 60000))])
  (.cond (.t 7) (.seq (.ops [qO 8 (.mov (.t 0)), qO 4 (.mov (.t 8))])
  .ret)
  .skip))
  (.seq (.ops [qO 9 (.mov (.t 0)), qO 10 (.mov (.t 1)), qO 11 (.slen (.t 10)), qO 12 (.bin .shr (.t 11) (.c (.sc (.int .u64 8)))), qO 13 (.cvi .u8 (.t 12)), qO 14 (.mov (.t 1)), qO 15 (.slen (.t 14)), qO 16 (.cvi .u8 (.t 15)), wO 17 (.bsl 1 2 [(.sc (.int .u8 0)), (.sc (.int .u8 0))] [(0, 1, (.t 13)), (1, 1, (.t 16))]), wO 18 (.app 1 1 false (.t 9) (.t 17)), qO 19 (.mov (.t 1)), wO 20 (.app 1 1 true (.t 18) (.t 19)), qO 4 (.mov (.t 20))])
  .ret)))
theorem K147 : Kf Tryz.prog Tryz.f147 A147 21 [.mov (.t 4)] := ⟨by kernel_rfl, by kernel_rfl, by kernel_rfl⟩
theorem R147 (b : List Int) (s : ByteArray) (hb : b.length + s.size ≤ 140737488350000) : Ret Tryz.prog 147 [.own (rows B b) b.length 1, .sc (.string s)] (.own (rows B (putT b s)) (putT b s).length 1) [.un, .un] := by
  have hl := zad s
  refine Ret.run Tryz.func147 K147 (by simp) rfl rfl 500 ?_
  simp [A147, iniρ]
  by_cases h : s.size ≤ 60000
  case neg =>
    have h2 : (60000 : Int) < s.size := by omega
    have e : putT b s = b := if_neg h
    simp [h2, e, ex1, B.count, Zd B.fr]
  have h2 : ¬ (60000 : Int) < s.size := by omega
  have e : putT b s = b ++ (hiL s.size ++ sB s) := if_pos h
  have hw := zev h
  have hw2 := zeu s.size
  have c1 : b.length + 2 ≤ 140737488355328 := by omega
  have c2 : b.length + 2 + s.size ≤ 140737488355328 := by omega
  have e2 : (putT b s).length = b.length + 2 + s.size := by rw [e]; simp [hiL, hl]; omega
  have e3 : rows B (putT b s) = rows B b ++ (AV.sc (.int .u8 ((s.size : Int) / 256)) :: AV.sc (.int .u8 ((s.size : Int) % 256)) :: rows B (sB s)) := by rw [e, Yd, Yd, ← zdx]; rfl
  have hid := Zd B.fr (putT b s)
  have c3 : b.length + (s.size + 1 + 1) = b.length + 2 + s.size := by omega
  rw [e3] at hid
  rw [e2, e3]
  simp [h2, hw, hw2, over, ex1, B.count, c1, c2, c3, ZI, hl, hid]
def A141 : AC := (.seq (.ops [qO 4 (.mov (.c .em))])
  (.seq (.ops [wO 6 (.bsl 1 0 [] []), qO 7 (.mov (.t 0)), wO 8 (.app 1 1 false (.t 6) (.t 7)), qO 5 (.mov (.t 8))])
  (.seq (.seq (.ops [qO 9 (.mov (.t 1)), qO 10 (.slen (.t 9)), qO 11 (.bin .gtr (.t 10) (iC 60000))])
  (.cond (.t 11) (.seq (.ops [qO 12 (.mov (.t 5)), qO 4 (.mov (.t 12))])
  .ret)
  .skip))
  (.seq (.ops [qO 13 (.mov (.t 5)), qO 14 (.mov (.t 1)), qO 15 (.slen (.t 14)), qO 16 (.bin .shr (.t 15) (.c (.sc (.int .u64 8)))), qO 17 (.cvi .u8 (.t 16)), qO 18 (.mov (.t 1)), qO 19 (.slen (.t 18)), qO 20 (.cvi .u8 (.t 19)), wO 21 (.bsl 1 2 [(.sc (.int .u8 0)), (.sc (.int .u8 0))] [(0, 1, (.t 17)), (1, 1, (.t 20))]), wO 22 (.app 1 1 false (.t 13) (.t 21)), qO 5 (.mov (.t 22))])
  (.seq (.ops [qO 23 (.mov (.t 5)), qO 24 (.mov (.t 1)), wO 25 (.app 1 1 true (.t 23) (.t 24)), qO 4 (.mov (.t 25))])
  .ret)))))
theorem K141 : Kf Tryz.prog Tryz.f141 A141 26 [.mov (.t 4)] := ⟨by kernel_rfl, by kernel_rfl, by kernel_rfl⟩
theorem R141 (b : List Int) (s : ByteArray) (hb : b.length + s.size ≤ 140737488350000) : Ret Tryz.prog 141 [.ro (rows B b) b.length, .sc (.string s)] (.own (rows B (putT b s)) (putT b s).length 1) [.un, .un] := by
  have hl := zad s
  have c0 : b.length ≤ 140737488355328 := by omega
  refine Ret.run Tryz.func141 K141 (by simp) rfl rfl 500 ?_
  simp [A141, iniρ, over]
  by_cases h : s.size ≤ 60000
  case neg =>
    have h2 : (60000 : Int) < s.size := by omega
    have e : putT b s = b := if_neg h
    simp [h2, e, ex1, B.count, Zd B.fr, c0]
  have h2 : ¬ (60000 : Int) < s.size := by omega
  have e : putT b s = b ++ (hiL s.size ++ sB s) := if_pos h
  have hw := zev h
  have hw2 := zeu s.size
  have c1 : b.length + 2 ≤ 140737488355328 := by omega
  have c2 : b.length + 2 + s.size ≤ 140737488355328 := by omega
  have e2 : (putT b s).length = b.length + 2 + s.size := by rw [e]; simp [hiL, hl]; omega
  have e3 : rows B (putT b s) = rows B b ++ (AV.sc (.int .u8 ((s.size : Int) / 256)) :: AV.sc (.int .u8 ((s.size : Int) % 256)) :: rows B (sB s)) := by rw [e, Yd, Yd, ← zdx]; rfl
  have hid := Zd B.fr (putT b s)
  have c3 : b.length + (s.size + 1 + 1) = b.length + 2 + s.size := by omega
  rw [e3] at hid
  rw [e2, e3]
  simp [h2, hw, hw2, over, ex1, B.count, c0, c1, c2, c3, ZI, hl, hid]
def lenAt (b : List Int) (a : Nat) : Nat := (b[a]?.getD 0).toNat * 256 + (b[a + 1]?.getD 0).toNat
def getT (b : List Int) (a : Int) : Option (ByteArray × Int) :=
  if 0 ≤ a ∧ a ≤ b.length - 2 then
    if lenAt b a.toNat ≤ 60000 ∧ (lenAt b a.toNat : Int) ≤ b.length - a - 2 then some (strOfNums ((b.drop (a.toNat + 2)).take (lenAt b a.toNat)), a + 2 + lenAt b a.toNat) else none
  else none
def gotA : Option (ByteArray × Int) → AV
  | some (s, n) => .tup [.sc (.string s), .sc (.int .i64 n), .sc (.bool true)]
  | none => .tup [.sc (.string ⟨#[]⟩), .sc (.int .i64 0), .sc (.bool false)]
theorem zb6 {x y : Int} (hx : 0 ≤ x ∧ x ≤ 255) (hy : 0 ≤ y ∧ y ≤ 255) : IntKind.i64.wrap (((x * 256 % 2 ^ IntKind.i64.bits).toNat ||| (y % 2 ^ IntKind.i64.bits).toNat : Nat) : Int) = x * 256 + y := by
  have e1 : (x * 256 % 2 ^ IntKind.i64.bits).toNat = x.toNat <<< 8 := by
    rw [Nat.shiftLeft_eq]
    simp only [IntKind.bits]
    omega
  have e2 : (y % 2 ^ IntKind.i64.bits).toNat = y.toNat := by simp only [IntKind.bits]; omega
  rw [e1, e2, ← Nat.shiftLeft_add_eq_or_of_lt (by omega : y.toNat < 2 ^ 8), Nat.shiftLeft_eq]
  rw [zc (by omega) (by omega)]
  omega
def A248 : AC := (.seq (.ops [qO 4 (.mov (.c (.sc (.string ⟨#[]⟩)))), qO 5 (.mov (iC 0)), qO 6 (.mov (.c (.sc (.bool false))))])
  (.seq (.seq (.ops [qO 9 (.mov (.t 1)), qO 10 (.bin .lss (.t 9) (iC 0)), qO 11 (.mov (.t 10)), qG 12 11 false (.mov (.t 1)), qG 13 11 false (.mov (.t 0)), qG 14 11 false (.llen (.t 13)), qG 15 11 false (.bin .sub (.t 14) (iC 2)), qG 16 11 false (.bin .gtr (.t 12) (.t 15)), qO 17 (.pick (.t 11) (.c (.sc (.bool true))) (.t 16))])
  (.cond (.t 17) (.seq (.ops [qO 4 (.mov (.c (.sc (.string ⟨#[]⟩)))), qO 5 (.mov (iC 0)), qO 6 (.mov (.c (.sc (.bool false))))])
  .ret)
  .skip))
  (.seq (.any [(qO 18 (.mov (.t 0)), []), (qO 19 (.mov (.t 1)), []), (qO 20 (.iadr 1 (.t 18) (.t 19)), [0, 1]), (qO 21 (.load false 1 (.t 20)), [2]), (qO 22 (.cvi .i64 (.t 21)), [3]), (qO 23 (.bin .shl (.t 22) (.c (.sc (.int .u64 8)))), [4]), (qO 24 (.mov (.t 0)), []), (qO 25 (.mov (.t 1)), []), (qO 26 (.bin .add (.t 25) (iC 1)), [7]), (qO 27 (.iadr 1 (.t 24) (.t 26)), [6, 8]), (qO 28 (.load false 1 (.t 27)), [9]), (qO 29 (.cvi .i64 (.t 28)), [10]), (qO 30 (.bin .or (.t 23) (.t 29)), [5, 11]), (qO 7 (.mov (.t 30)), [12, 0, 1, 2, 3, 4, 5, 6, 7, 8, 9, 10, 11, 12])])
  (.seq (.ops [qO 31 (.mov (.t 1)), qO 32 (.bin .add (.t 31) (iC 2)), qO 8 (.mov (.t 32))])
  (.seq (.seq (.ops [qO 33 (.mov (.t 7)), qO 34 (.bin .gtr (.t 33) (iC 60000)), qO 35 (.mov (.t 34)), qG 36 35 false (.mov (.t 7)), qG 37 35 false (.mov (.t 0)), qG 38 35 false (.llen (.t 37)), qG 39 35 false (.mov (.t 8)), qG 40 35 false (.bin .sub (.t 38) (.t 39)), qG 41 35 false (.bin .gtr (.t 36) (.t 40)), qO 42 (.pick (.t 35) (.c (.sc (.bool true))) (.t 41))])
  (.cond (.t 42) (.seq (.ops [qO 4 (.mov (.c (.sc (.string ⟨#[]⟩)))), qO 5 (.mov (iC 0)), qO 6 (.mov (.c (.sc (.bool false))))])
  .ret)
  .skip))
  (.seq (.ops [qO 43 (.mov (.t 0)), qO 44 (.mov (.t 8)), qO 45 (.mov (.t 8)), qO 46 (.mov (.t 7)), qO 47 (.bin .add (.t 45) (.t 46)), qO 48 (.subl 1 (.t 43) (some (.t 44)) (some (.t 47))), qO 49 (.bstr (.t 48)), qO 50 (.mov (.t 8)), qO 51 (.mov (.t 7)), qO 52 (.bin .add (.t 50) (.t 51)), qO 4 (.mov (.t 49)), qO 5 (.mov (.t 52)), qO 6 (.mov (.c (.sc (.bool true))))])
  .ret))))))
theorem K248 : Kf Tryz.prog Tryz.f248 A248 53 [.mov (.t 4), .mov (.t 5), .mov (.t 6)] := ⟨by kernel_rfl, by kernel_rfl, by kernel_rfl⟩
set_option maxHeartbeats 1000000 in
theorem R248 (b : List Int) (a : Int) (ha : Ty.int.ok a) (hb : ∀ x ∈ b, 0 ≤ x ∧ x ≤ 255) (hl : b.length ≤ 140737488355328) : Ret Tryz.prog 248 [.ro (rows B b) b.length, .sc (.int .i64 a)] (gotA (getT b a)) [.un, .un] := by
  have hw0 : IntKind.i64.wrap ((b.length : Int) - 2) = b.length - 2 := zc (by omega) (by omega)
  by_cases h0 : a < 0
  · have e : getT b a = none := by unfold getT; rw [if_neg (by omega)]
    refine Ret.run Tryz.func248 K248 (by simp) rfl rfl 500 ?_
    simp [A248, iniρ, h0, e, gotA]
  by_cases h1 : (b.length : Int) - 2 < a
  · have e : getT b a = none := by unfold getT; rw [if_neg (by omega)]
    have h0' : 0 ≤ a := by omega
    refine Ret.run Tryz.func248 K248 (by simp) rfl rfl 500 ?_
    simp [A248, iniρ, h0, h0', h1, hw0, e, gotA]
  have h0' : 0 ≤ a := by omega
  obtain ⟨k, rfl⟩ : ∃ k : Nat, a = k := ⟨a.toNat, by omega⟩
  have k1 : k + 1 < b.length := by omega
  have d0 : List.drop k (rows B b) = .sc (.int .u8 b[k]) :: rows B (b.drop (k + 1)) := by
    have h := ye B.len (b.take k) (b.drop k)
    rw [List.take_append_drop, List.length_take, Nat.mul_one, Nat.min_eq_left (by omega), List.drop_eq_getElem_cons (by omega : k < b.length), yc] at h
    exact h
  have d1 : List.drop (k + 1) (rows B b) = .sc (.int .u8 b[k + 1]) :: rows B (b.drop (k + 2)) := by
    have h := ye B.len (b.take (k + 1)) (b.drop (k + 1))
    rw [List.take_append_drop, List.length_take, Nat.mul_one, Nat.min_eq_left (by omega), List.drop_eq_getElem_cons (by omega : k + 1 < b.length), yc] at h
    exact h
  have r0 := hb b[k] (List.getElem_mem _)
  have r1 := hb b[k + 1] (List.getElem_mem _)
  obtain ⟨x, hx⟩ : ∃ x, x = b[k] := ⟨_, rfl⟩
  obtain ⟨y, hy⟩ : ∃ y, y = b[k + 1] := ⟨_, rfl⟩
  rw [← hx] at d0 r0
  rw [← hy] at d1 r1
  have hn : lenAt b k = x.toNat * 256 + y.toNat := by
    unfold lenAt
    rw [List.getElem?_eq_getElem (by omega : k < b.length), List.getElem?_eq_getElem (by omega : k + 1 < b.length), ← hx, ← hy]; rfl
  obtain ⟨m, hm⟩ : ∃ m, m = lenAt b k := ⟨_, rfl⟩
  have hor := zb6 r0 r1
  have hxy : x * 256 + y = (m : Int) := by rw [hm, hn]; omega
  rw [hxy] at hor
  have wx : IntKind.i64.wrap x = x := zc (by omega) (by omega)
  have wy : IntKind.i64.wrap y = y := zc (by omega) (by omega)
  have ws : IntKind.i64.wrap (x * 2 ^ min 8 IntKind.i64.bits) = x * 256 := by
    have : (2 : Int) ^ min 8 IntKind.i64.bits = 256 := rfl
    rw [this]; exact zc (by omega) (by omega)
  have wk : IntKind.i64.wrap ((k : Int) + 1) = k + 1 := zc (by omega) (by omega)
  have wk2 : IntKind.i64.wrap ((k : Int) + 2) = k + 2 := zc (by omega) (by omega)
  have lt0 : k < b.length := by omega
  have nk : (0 : Int) ≤ (k : Int) + 1 := by omega
  have nk0 : ¬ ((k : Int) < 0) := by omega
  have ilt0 : (k : Int) < b.length := by omega
  have ilt1 : (k : Int) + 1 < b.length := by omega
  have wl : IntKind.i64.wrap ((b.length : Int) - (k + 2)) = b.length - (k + 2) := zc (by omega) (by omega)
  have wm : IntKind.i64.wrap ((k : Int) + 2 + m) = k + 2 + m := zc (by omega) (by omega)
  have key : getT b k = if m ≤ 60000 ∧ (m : Int) ≤ b.length - (k + 2) then some (strOfNums ((b.drop (k + 2)).take m), (k : Int) + 2 + m) else none := by
    unfold getT
    rw [if_pos ⟨by omega, by omega⟩, show (k : Int).toNat = k from rfl, ← hm]
    by_cases c : m ≤ 60000 ∧ (m : Int) ≤ b.length - (k + 2)
    · rw [if_pos c, if_pos ⟨c.1, by omega⟩]
    · rw [if_neg c, if_neg (fun h => c ⟨h.1, by omega⟩)]
  rw [key]
  by_cases g1 : m ≤ 60000
  case neg =>
    have g1' : (60000 : Int) < m := by omega
    rw [if_neg (fun h => g1 h.1)]
    refine Ret.run Tryz.func248 K248 (by simp) rfl rfl 500 ?_
    simp [A248, iniρ, h1, hw0, nk0]
    refine T.text 400 mixed (by kernel_rfl) (by kernel_rfl) ?_
    simp [nk, nk0, lt0, ilt0, ilt1, k1, d0, d1, wk, wx, wy, ws, hor, wk2, g1', gotA]
  have g1' : ¬ (60000 : Int) < m := by omega
  by_cases g2 : (m : Int) ≤ b.length - (k + 2)
  case neg =>
    have g2' : (b.length : Int) - (k + 2) < m := by omega
    rw [if_neg (fun h => g2 h.2)]
    refine Ret.run Tryz.func248 K248 (by simp) rfl rfl 500 ?_
    simp [A248, iniρ, h1, hw0, nk0]
    refine T.text 400 mixed (by kernel_rfl) (by kernel_rfl) ?_
    simp [nk, nk0, lt0, ilt0, ilt1, k1, d0, d1, wk, wx, wy, ws, hor, wk2, wl, g1', g2', gotA]
  have g2' : ¬ (b.length : Int) - (k + 2) < m := by omega
  rw [if_pos ⟨g1, g2⟩]
  have c1 : (k : Int) + 2 + m ≤ b.length := by omega
  have c2 : (k : Int) + 2 ≤ k + 2 + m := by omega
  have c0 : ¬ ((k : Int) + 2 < 0) := by omega
  have nk2 : (0 : Int) ≤ (k : Int) + 2 := by omega
  have nk3 : (0 : Int) ≤ (k : Int) + 2 + m := by omega
  have t2 : ((k : Int) + 2).toNat = k + 2 := by omega
  have t3 : ((k : Int) + 2 + m).toNat = k + 2 + m := by omega
  have c3 : k + 2 + m ≤ b.length := by omega
  have c4 : k + 2 + m - (k + 2) = m := by omega
  have dl : ((b.drop (k + 2)).take m).length = m := by rw [List.length_take, List.length_drop]; omega
  have ds : List.take m (List.drop (k + 2) (rows B b)) = rows B ((b.drop (k + 2)).take m) := by
    have h1 := ye B.len (b.take (k + 2)) (b.drop (k + 2))
    rw [List.take_append_drop, List.length_take, Nat.mul_one, Nat.min_eq_left (by omega)] at h1
    have h2 := ZR B.len (b.drop (k + 2)) m (by rw [List.length_drop]; omega)
    rw [Nat.mul_one] at h2
    rw [h1, h2]
  refine Ret.run Tryz.func248 K248 (by simp) rfl rfl 500 ?_
  simp [A248, iniρ, h1, hw0, nk0]
  refine T.text 400 mixed (by kernel_rfl) (by kernel_rfl) ?_
  simp [nk, nk0, lt0, ilt0, ilt1, k1, d0, d1, wk, wx, wy, ws, hor, wk2, wl, wm, g1', g2', gotA, c0, c1, c2, nk2, nk3, t2, t3, c3, c4, ds, dl, ZP, B.count, B.num]
def A250 : AC := (.seq (.ops [qO 4 (.mov (.c (.sc (.string ⟨#[]⟩)))), qO 5 (.mov (iC 0)), qO 6 (.mov (.c (.sc (.bool false))))])
  (.seq (.seq (.ops [qO 8 (.mov (.t 1)), qO 9 (.mov (.t 0)), qO 10 (.llen (.t 9)), qO 11 (.bin .sub (.t 10) (iC 2)), cO 12 143 [.t 8, iC 0, .t 11], qO 13 (.not (.t 12))])
  (.cond (.t 13) (.seq (.ops [qO 4 (.mov (.c (.sc (.string ⟨#[]⟩)))), qO 5 (.mov (iC 0)), qO 6 (.mov (.c (.sc (.bool false))))])
  .ret)
  .skip))
  (.seq (.any [(qO 14 (.mov (.t 0)), []), (qO 15 (.mov (.t 1)), []), (qO 16 (.iadr 1 (.t 14) (.t 15)), [0, 1]), (qO 17 (.load false 1 (.t 16)), [2]), (qO 18 (.cvi .i64 (.t 17)), [3]), (qO 19 (.bin .shl (.t 18) (.c (.sc (.int .u64 8)))), [4]), (qO 20 (.mov (.t 0)), []), (qO 21 (.mov (.t 1)), []), (qO 22 (.bin .add (.t 21) (iC 1)), [7]), (qO 23 (.iadr 1 (.t 20) (.t 22)), [6, 8]), (qO 24 (.load false 1 (.t 23)), [9]), (qO 25 (.cvi .i64 (.t 24)), [10]), (qO 26 (.bin .or (.t 19) (.t 25)), [5, 11]), (qO 7 (.mov (.t 26)), [12, 0, 1, 2, 3, 4, 5, 6, 7, 8, 9, 10, 11, 12])])
  (.seq (.seq (.ops [qO 27 (.mov (.t 7)), qO 28 (.mov (.t 0)), qO 29 (.llen (.t 28)), qO 30 (.mov (.t 1)), qO 31 (.bin .sub (.t 29) (.t 30)), qO 32 (.bin .sub (.t 31) (iC 2)), qO 33 (.bin .gtr (.t 27) (.t 32)), qO 34 (.mov (.t 33)), qG 35 34 false (.mov (.t 7)), qG 36 34 false (.bin .gtr (.t 35) (iC 60000)), qO 37 (.pick (.t 34) (.c (.sc (.bool true))) (.t 36))])
  (.cond (.t 37) (.seq (.ops [qO 4 (.mov (.c (.sc (.string ⟨#[]⟩)))), qO 5 (.mov (iC 0)), qO 6 (.mov (.c (.sc (.bool false))))])
  .ret)
  .skip))
  (.seq (.ops [qO 38 (.mov (.t 0)), qO 39 (.mov (.t 1)), qO 40 (.bin .add (.t 39) (iC 2)), qO 41 (.mov (.t 1)), qO 42 (.bin .add (.t 41) (iC 2)), qO 43 (.mov (.t 7)), qO 44 (.bin .add (.t 42) (.t 43)), qO 45 (.subl 1 (.t 38) (some (.t 40)) (some (.t 44))), qO 46 (.bstr (.t 45)), qO 47 (.mov (.t 1)), qO 48 (.bin .add (.t 47) (iC 2)), qO 49 (.mov (.t 7)), qO 50 (.bin .add (.t 48) (.t 49)), qO 4 (.mov (.t 46)), qO 5 (.mov (.t 50)), qO 6 (.mov (.c (.sc (.bool true))))])
  .ret)))))
theorem K250 : Kf Tryz.prog Tryz.f250 A250 51 [.mov (.t 4), .mov (.t 5), .mov (.t 6)] := ⟨by kernel_rfl, by kernel_rfl, by kernel_rfl⟩
set_option maxHeartbeats 1000000 in
theorem R250 (b : List Int) (a : Int) (ha : Ty.int.ok a) (hb : ∀ x ∈ b, 0 ≤ x ∧ x ≤ 255) (hl : b.length ≤ 140737488355328) : Ret Tryz.prog 250 [.ro (rows B b) b.length, .sc (.int .i64 a)] (gotA (getT b a)) [.un, .un] := by
  have hw0 : IntKind.i64.wrap ((b.length : Int) - 2) = b.length - 2 := zc (by omega) (by omega)
  by_cases h0 : a < 0
  · have e : getT b a = none := by unfold getT; rw [if_neg (by omega)]
    refine Ret.run Tryz.func250 K250 (by simp) rfl rfl 500 ?_
    simp [A250, iniρ]
    refine callK.ro 0 rfl (by kernel_rfl) (by simp [Yc, hw0]) (R143 a 0 (b.length - 2)) rfl rfl rfl ?_
    simp [inR, h0, e, gotA]
  by_cases h1 : (b.length : Int) - 2 < a
  · have e : getT b a = none := by unfold getT; rw [if_neg (by omega)]
    have h0' : 0 ≤ a := by omega
    refine Ret.run Tryz.func250 K250 (by simp) rfl rfl 500 ?_
    simp [A250, iniρ]
    refine callK.ro 0 rfl (by kernel_rfl) (by simp [Yc, hw0]) (R143 a 0 (b.length - 2)) rfl rfl rfl ?_
    simp [inR, h0, h1, e, gotA]
  have h0' : 0 ≤ a := by omega
  obtain ⟨k, rfl⟩ : ∃ k : Nat, a = k := ⟨a.toNat, by omega⟩
  have k1 : k + 1 < b.length := by omega
  have d0 : List.drop k (rows B b) = .sc (.int .u8 b[k]) :: rows B (b.drop (k + 1)) := by
    have h := ye B.len (b.take k) (b.drop k)
    rw [List.take_append_drop, List.length_take, Nat.mul_one, Nat.min_eq_left (by omega), List.drop_eq_getElem_cons (by omega : k < b.length), yc] at h
    exact h
  have d1 : List.drop (k + 1) (rows B b) = .sc (.int .u8 b[k + 1]) :: rows B (b.drop (k + 2)) := by
    have h := ye B.len (b.take (k + 1)) (b.drop (k + 1))
    rw [List.take_append_drop, List.length_take, Nat.mul_one, Nat.min_eq_left (by omega), List.drop_eq_getElem_cons (by omega : k + 1 < b.length), yc] at h
    exact h
  have r0 := hb b[k] (List.getElem_mem _)
  have r1 := hb b[k + 1] (List.getElem_mem _)
  obtain ⟨x, hx⟩ : ∃ x, x = b[k] := ⟨_, rfl⟩
  obtain ⟨y, hy⟩ : ∃ y, y = b[k + 1] := ⟨_, rfl⟩
  rw [← hx] at d0 r0
  rw [← hy] at d1 r1
  have hn : lenAt b k = x.toNat * 256 + y.toNat := by
    unfold lenAt
    rw [List.getElem?_eq_getElem (by omega : k < b.length), List.getElem?_eq_getElem (by omega : k + 1 < b.length), ← hx, ← hy]; rfl
  obtain ⟨m, hm⟩ : ∃ m, m = lenAt b k := ⟨_, rfl⟩
  have hor := zb6 r0 r1
  have hxy : x * 256 + y = (m : Int) := by rw [hm, hn]; omega
  rw [hxy] at hor
  have wx : IntKind.i64.wrap x = x := zc (by omega) (by omega)
  have wy : IntKind.i64.wrap y = y := zc (by omega) (by omega)
  have ws : IntKind.i64.wrap (x * 2 ^ min 8 IntKind.i64.bits) = x * 256 := by
    have : (2 : Int) ^ min 8 IntKind.i64.bits = 256 := rfl
    rw [this]; exact zc (by omega) (by omega)
  have wk : IntKind.i64.wrap ((k : Int) + 1) = k + 1 := zc (by omega) (by omega)
  have wk2 : IntKind.i64.wrap ((k : Int) + 2) = k + 2 := zc (by omega) (by omega)
  have lt0 : k < b.length := by omega
  have nk : (0 : Int) ≤ (k : Int) + 1 := by omega
  have nk0 : ¬ ((k : Int) < 0) := by omega
  have ilt0 : (k : Int) < b.length := by omega
  have ilt1 : (k : Int) + 1 < b.length := by omega
  have wl : IntKind.i64.wrap ((b.length : Int) - k) = b.length - k := zc (by omega) (by omega)
  have wl2 : IntKind.i64.wrap ((b.length : Int) - k - 2) = b.length - k - 2 := zc (by omega) (by omega)
  have wm : IntKind.i64.wrap ((k : Int) + 2 + m) = k + 2 + m := zc (by omega) (by omega)
  have key : getT b k = if m ≤ 60000 ∧ (m : Int) ≤ b.length - (k + 2) then some (strOfNums ((b.drop (k + 2)).take m), (k : Int) + 2 + m) else none := by
    unfold getT
    rw [if_pos ⟨by omega, by omega⟩, show (k : Int).toNat = k from rfl, ← hm]
    by_cases c : m ≤ 60000 ∧ (m : Int) ≤ b.length - (k + 2)
    · rw [if_pos c, if_pos ⟨c.1, by omega⟩]
    · rw [if_neg c, if_neg (fun h => c ⟨h.1, by omega⟩)]
  rw [key]
  by_cases g1 : m ≤ 60000
  case neg =>
    have g1' : (60000 : Int) < m := by omega
    rw [if_neg (fun h => g1 h.1)]
    by_cases g2' : (b.length : Int) - k - 2 < m
    · refine Ret.run Tryz.func250 K250 (by simp) rfl rfl 500 ?_
      simp [A250, iniρ]
      refine callK.ro 0 rfl (by kernel_rfl) (by simp [Yc, hw0]) (R143 k 0 (b.length - 2)) rfl rfl rfl ?_
      simp [inR, nk0, h1]
      refine T.text 400 mixed (by kernel_rfl) (by kernel_rfl) ?_
      simp [nk, nk0, lt0, ilt0, ilt1, k1, d0, d1, wk, wx, wy, ws, hor, wk2, wl, wl2, g1', g2', gotA]
    · refine Ret.run Tryz.func250 K250 (by simp) rfl rfl 500 ?_
      simp [A250, iniρ]
      refine callK.ro 0 rfl (by kernel_rfl) (by simp [Yc, hw0]) (R143 k 0 (b.length - 2)) rfl rfl rfl ?_
      simp [inR, nk0, h1]
      refine T.text 400 mixed (by kernel_rfl) (by kernel_rfl) ?_
      simp [nk, nk0, lt0, ilt0, ilt1, k1, d0, d1, wk, wx, wy, ws, hor, wk2, wl, wl2, g1', g2', gotA]
  have g1' : ¬ (60000 : Int) < m := by omega
  by_cases g2 : (m : Int) ≤ b.length - (k + 2)
  case neg =>
    have g2' : (b.length : Int) - k - 2 < m := by omega
    rw [if_neg (fun h => g2 h.2)]
    refine Ret.run Tryz.func250 K250 (by simp) rfl rfl 500 ?_
    simp [A250, iniρ]
    refine callK.ro 0 rfl (by kernel_rfl) (by simp [Yc, hw0]) (R143 k 0 (b.length - 2)) rfl rfl rfl ?_
    simp [inR, nk0, h1]
    refine T.text 400 mixed (by kernel_rfl) (by kernel_rfl) ?_
    simp [nk, nk0, lt0, ilt0, ilt1, k1, d0, d1, wk, wx, wy, ws, hor, wk2, wl, wl2, g1', g2', gotA]
  have g2' : ¬ (b.length : Int) - k - 2 < m := by omega
  rw [if_pos ⟨g1, g2⟩]
  have c1 : (k : Int) + 2 + m ≤ b.length := by omega
  have c2 : (k : Int) + 2 ≤ k + 2 + m := by omega
  have c0 : ¬ ((k : Int) + 2 < 0) := by omega
  have nk2 : (0 : Int) ≤ (k : Int) + 2 := by omega
  have nk3 : (0 : Int) ≤ (k : Int) + 2 + m := by omega
  have t2 : ((k : Int) + 2).toNat = k + 2 := by omega
  have t3 : ((k : Int) + 2 + m).toNat = k + 2 + m := by omega
  have c3 : k + 2 + m ≤ b.length := by omega
  have c4 : k + 2 + m - (k + 2) = m := by omega
  have dl : ((b.drop (k + 2)).take m).length = m := by rw [List.length_take, List.length_drop]; omega
  have ds : List.take m (List.drop (k + 2) (rows B b)) = rows B ((b.drop (k + 2)).take m) := by
    have h1 := ye B.len (b.take (k + 2)) (b.drop (k + 2))
    rw [List.take_append_drop, List.length_take, Nat.mul_one, Nat.min_eq_left (by omega)] at h1
    have h2 := ZR B.len (b.drop (k + 2)) m (by rw [List.length_drop]; omega)
    rw [Nat.mul_one] at h2
    rw [h1, h2]
  refine Ret.run Tryz.func250 K250 (by simp) rfl rfl 500 ?_
  simp [A250, iniρ]
  refine callK.ro 0 rfl (by kernel_rfl) (by simp [Yc, hw0]) (R143 k 0 (b.length - 2)) rfl rfl rfl ?_
  simp [inR, nk0, h1]
  refine T.text 400 mixed (by kernel_rfl) (by kernel_rfl) ?_
  simp [nk, nk0, lt0, ilt0, ilt1, k1, d0, d1, wk, wx, wy, ws, hor, wk2, wl, wl2, wm, g1', g2', gotA, c0, c1, c2, nk2, nk3, t2, t3, c3, c4, ds, dl, ZP, B.count, B.num]
theorem zfA (m : Nat) (h : m < 10) : digC (m : Int) = ⟨#[UInt8.ofNat (48 + m)]⟩ := by
  have : m = 0 ∨ m = 1 ∨ m = 2 ∨ m = 3 ∨ m = 4 ∨ m = 5 ∨ m = 6 ∨ m = 7 ∨ m = 8 ∨ m = 9 := by omega
  rcases this with rfl | rfl | rfl | rfl | rfl | rfl | rfl | rfl | rfl | rfl <;> rfl
theorem zht (a b : List UInt8) : (⟨a.toArray⟩ : ByteArray) ++ (⟨b.toArray⟩ : ByteArray) = ⟨(a ++ b).toArray⟩ := by
  apply ByteArray.ext
  simp [ByteArray.data_append]
theorem zfZ : ∀ (k n : Nat) (b : ByteArray), n ≤ k → numF k n (digC ((n : Int) % 10) ++ b) = ⟨(Lib.decDigits n).toArray⟩ ++ b := by
  intro k
  induction k with
  | zero =>
    intro n b h
    obtain rfl : n = 0 := by omega
    rw [Lib.decDigits]; rfl
  | succ k ih =>
    intro n b h
    by_cases h9 : 9 < n
    · rw [numF, if_pos h9]
      have e1 : ((n : Int) / 10 % 10) = ((n / 10 : Nat) : Int) % 10 := by omega
      have hd : Lib.decDigits n = Lib.decDigits (n / 10) ++ [UInt8.ofNat (48 + n % 10)] := by rw [Lib.decDigits, dif_neg (by omega)]
      rw [e1, ih (n / 10) _ (by omega), hd]
      have e2 : ((n : Int) % 10) = ((n % 10 : Nat) : Int) := by omega
      rw [e2, zfA _ (by omega), ← zht, ByteArray.append_assoc]
    · rw [numF, if_neg h9, Lib.decDigits, dif_pos (by omega)]
      have e2 : ((n : Int) % 10) = (n : Int) := by omega
      rw [e2, zfA _ (by omega)]
theorem zdJ (n : Nat) : (⟨(Lib.itoa n).toArray⟩ : ByteArray) = numT n := by
  have h := zfZ n n ⟨#[]⟩ (Nat.le_refl _)
  have e : ∀ a : ByteArray, a ++ (⟨#[]⟩ : ByteArray) = a := fun a => by apply ByteArray.ext; simp [ByteArray.data_append]
  rw [e, e] at h
  rw [numT, h, Lib.itoa, if_neg (by omega)]
  rfl
theorem R211 (n : Int) (h0 : -9223372036854775808 ≤ n) (h1 : n ≤ 9223372036854775807) : Ret Tryz.prog 211 [.sc (.int .i64 n)] (.sc (.string ⟨(Lib.itoa n).toArray⟩)) [.un] :=
  Ret.itoaOf (fun n w h0 h1 ht => Any.strconv_Itoa Tryz.laysM171 n h0 h1 w ht) n h0 h1
def A148 : AC := (.seq (.ops [qO 2 (.mov (.c (.sc (.string ⟨#[]⟩))))])
  (.seq (.ops [qO 3 (.mov (.t 0)), qO 4 (.mm false (.t 3) (iC 0)), cO 5 211 [.t 4], qO 2 (.mov (.t 5))])
  .ret))
theorem K148 : Kf Tryz.prog Tryz.f148 A148 6 [.mov (.t 2)] := ⟨by kernel_rfl, by kernel_rfl, by kernel_rfl⟩
theorem R148 (n : Nat) (hn : n < 4611686018427387904) : Ret Tryz.prog 148 [.sc (.int .i64 n)] (.sc (.string (numT n))) [.un] := by
  have h0 : ¬ ((n : Int) < 0) := by omega
  have r := R211 n (by omega) (by omega)
  rw [zdJ] at r
  refine Ret.run Tryz.func148 K148 (by simp) rfl rfl 500 ?_
  simp [A148, iniρ, h0]
  refine callK.ro 0 rfl (by kernel_rfl) (by simp [Yc, za]) r rfl rfl rfl ?_
  simp
def YR (s : ByteArray) : Option (ByteArray × ByteArray) :=
  if Zz (cutF s 35).1 = true ∧ Zz (cutF s 35).2.1 = true then some ((cutF s 35).1, (cutF s 35).2.1) else none
def taskA : Option (ByteArray × ByteArray) → AV
  | some (a, b) => .tup [.sc (.string a), .sc (.string b), .sc (.bool true)]
  | none => .tup [.sc (.string ⟨#[]⟩), .sc (.string ⟨#[]⟩), .sc (.bool false)]
theorem zfD (s : ByteArray) (c : UInt8) : (cutF s c).1.size ≤ s.size ∧ (cutF s c).2.1.size ≤ s.size := by
  unfold cutF
  split
  · exact ⟨by rw [ByteArray.size_extract]; omega, by rw [ByteArray.size_extract]; omega⟩
  · exact ⟨Nat.le_refl _, Nat.zero_le _⟩
theorem zgP (i : Nat) : nameC i 35 = false := by
  have e : ((35 : UInt8).toNat : Int) = 35 := rfl
  simp [nameC, e, ZY, figI]
theorem ze3 : ∀ (l : List UInt8) (i : Nat), (35 : UInt8) ∈ l → nameL l i = false
  | [], i, h => by simp at h
  | x :: l, i, h => by
    rcases List.mem_cons.1 h with rfl | h
    · rw [nameL, zgP]; rfl
    · rw [nameL, ze3 l _ h, Bool.and_false]
theorem zhm {s : ByteArray} (h : (35 : UInt8) ∈ s.data.toList) : Zz s = false := by
  rw [Zz, ze3 _ _ h]; rfl
theorem nameE : Zz ⟨#[]⟩ = false := rfl
theorem zcC (s : ByteArray) : YR s = match Yq s 35 with
    | [a, b] => if Zz a = true ∧ Zz b = true then some (a, b) else none
    | _ => none := by
  have e35 : ((35 : UInt8).toNat : Int) = 35 := rfl
  unfold YR Yq
  rcases Z0 35 s.data.toList with ⟨e, hn⟩ | ⟨p, q, e, hn, e2⟩
  · have h := ZU s 35 0 s.data.toList 0 hn
    rw [e35] at h
    rw [h]
    have hc : (cutF s 35).2.1 = ⟨#[]⟩ := by unfold cutF; rw [e]; rfl
    rw [hc, nameE]
    simp
  · have h := Z4 s 35 0 q p 0 hn
    rw [← e, e35] at h
    rw [h]
    have hsz := zL e.symm
    simp only [List.length_append, List.length_cons] at hsz
    have hc : cutF s 35 = (s.extract 0 p.length, s.extract (p.length + 1) s.size, true) := by unfold cutF; rw [e2]; simp
    have hq : (s.extract (p.length + 1) s.size).data.toList = q := by
      rw [zd2, e, show p.length + 1 = (p ++ [(35 : UInt8)]).length by simp, show p ++ (35 : UInt8) :: q = (p ++ [35]) ++ q by simp, List.drop_left]
    rw [hc]
    simp only [Nat.zero_add]
    by_cases hm : (35 : UInt8) ∈ q
    · have hf : Zz (s.extract (p.length + 1) s.size) = false := zhm (by rw [hq]; exact hm)
      rw [hf]
      obtain ⟨p2, q2, e3, hn2⟩ : ∃ p2 q2, q = p2 ++ (35 : UInt8) :: q2 ∧ (35 : UInt8) ∉ p2 := by
        rcases Z0 35 q with ⟨_, h⟩ | ⟨p2, q2, h, h2, _⟩
        · exact absurd hm h
        · exact ⟨p2, q2, h, h2⟩
      have h2 := Z4 s 35 (p.length + 1) q2 p2 (p.length + 1) hn2
      rw [e35] at h2
      rw [e3, h2]
      cases q3 : Zx s 35 (p.length + 1 + p2.length + 1) (p.length + 1 + p2.length + 1) q2 with
      | nil =>
        have h3 := yK s 35 q2 (p.length + 1 + p2.length + 1) (p.length + 1 + p2.length + 1)
        rw [e35, q3] at h3
        simp at h3
      | cons x l => simp
    · have h2 := ZU s 35 (p.length + 1) q (p.length + 1) hm
      rw [e35] at h2
      rw [h2, show p.length + 1 + q.length = s.size by omega]
def A11 : AC := (.seq (.ops [qO 2 (.mov (.c (.sc (.string ⟨#[]⟩)))), qO 3 (.mov (.c (.sc (.string ⟨#[]⟩)))), qO 4 (.mov (.c (.sc (.bool false))))])
  (.seq (.ops [qO 9 (.mov (.t 0)), cO 10 60 [.t 9, (.c (.sc (.string ⟨#[35]⟩)))], qO 8 (.mov (.t 10)), qO 11 (.ext (.t 8) 0), qO 12 (.ext (.t 8) 1), qO 13 (.ext (.t 8) 2), qO 5 (.mov (.t 11)), qO 6 (.mov (.t 12)), qO 7 (.mov (.t 13))])
  (.seq (.seq (.ops [qO 14 (.mov (.t 5)), cO 15 61 [.t 14], qO 16 (.not (.t 15)), qO 17 (.mov (.t 16)), qG 18 17 false (.mov (.t 6)), cG 19 17 false 61 [.t 18], qG 20 17 false (.not (.t 19)), qO 21 (.pick (.t 17) (.c (.sc (.bool true))) (.t 20))])
  (.cond (.t 21) (.seq (.ops [qO 2 (.mov (.c (.sc (.string ⟨#[]⟩)))), qO 3 (.mov (.c (.sc (.string ⟨#[]⟩)))), qO 4 (.mov (.c (.sc (.bool false))))])
  .ret)
  .skip))
  (.seq (.ops [qO 22 (.mov (.t 5)), qO 23 (.mov (.t 6)), qO 2 (.mov (.t 22)), qO 3 (.mov (.t 23)), qO 4 (.mov (.c (.sc (.bool true))))])
  .ret))))
theorem K11 : Kf Tryz.prog Tryz.f11 A11 24 [.mov (.t 2), .mov (.t 3), .mov (.t 4)] := ⟨by kernel_rfl, by kernel_rfl, by kernel_rfl⟩
theorem R11 (s : ByteArray) (hs : s.size ≤ 140737488351232) : Ret Tryz.prog 11 [.sc (.string s)] (taskA (YR s)) [.un] := by
  obtain ⟨c1, c2⟩ := zfD s 35
  have hp : YR s = if Zz (cutF s 35).1 = true ∧ Zz (cutF s 35).2.1 = true then some ((cutF s 35).1, (cutF s 35).2.1) else none := rfl
  obtain ⟨x, hx⟩ : ∃ x, x = cutF s 35 := ⟨_, rfl⟩
  have rc := R60 s 35 hs
  rw [← hx] at c1 c2 hp rc
  rw [hp]
  refine Ret.run Tryz.func11 K11 (by simp) rfl rfl 500 ?_
  simp [A11, iniρ]
  refine callK.ro 0 rfl (by kernel_rfl) (by simp [Yc]) rc rfl (by simp [zbn, inst, instL, shut]; exact ⟨rfl, rfl⟩) rfl ?_
  simp
  refine callK.ro 0 rfl (by kernel_rfl) (by simp [Yc]) (R61 x.1 (by omega)) rfl rfl rfl ?_
  cases h1 : Zz x.1
  case false => simp [taskA]
  simp
  refine callK.ro 0 rfl (by kernel_rfl) (by simp [Yc]) (R61 x.2.1 (by omega)) rfl rfl rfl ?_
  cases h2 : Zz x.2.1
  case false => simp [taskA]
  simp [taskA]
def A209 : AC := (.seq (.ops [qO 2 (.mov (.c (.sc (.bool false))))])
  (.seq (.ops [qO 7 (.mov (.t 0)), cO 8 11 [.t 7], qO 6 (.mov (.t 8)), qO 9 (.ext (.t 6) 0), qO 10 (.ext (.t 6) 1), qO 11 (.ext (.t 6) 2), qO 3 (.mov (.t 9)), qO 4 (.mov (.t 10)), qO 5 (.mov (.t 11))])
  (.seq (.ops [qO 12 (.mov (.t 5)), qO 2 (.mov (.t 12))])
  .ret)))
theorem K209 : Kf Tryz.prog Tryz.f209 A209 13 [.mov (.t 2)] := ⟨by kernel_rfl, by kernel_rfl, by kernel_rfl⟩
theorem R209 (s : ByteArray) (hs : s.size ≤ 140737488351232) : Ret Tryz.prog 209 [.sc (.string s)] (.sc (.bool (YR s).isSome)) [.un] := by
  have rp := R11 s hs
  obtain ⟨x, hx⟩ : ∃ x, x = YR s := ⟨_, rfl⟩
  rw [← hx] at rp ⊢
  refine Ret.run Tryz.func209 K209 (by simp) rfl rfl 500 ?_
  simp [A209, iniρ]
  cases x with
  | none =>
    refine callK.ro 0 rfl (by kernel_rfl) (by simp [Yc]) rp rfl (by simp [taskA, inst, instL, shut]; exact ⟨rfl, rfl⟩) rfl ?_
    simp
  | some x =>
    refine callK.ro 0 rfl (by kernel_rfl) (by simp [Yc]) rp rfl (by simp [taskA, inst, instL, shut]; exact ⟨rfl, rfl⟩) rfl ?_
    simp
def A49 : AC := (.seq (.ops [qO 2 (.mov (.c (.sc (.string ⟨#[]⟩)))), qO 3 (.mov (.c (.sc (.string ⟨#[]⟩)))), qO 4 (.mov (.c (.sc (.bool false))))])
  (.seq (.ops [qO 6 (.mov (.t 0)), cO 7 113 [.t 6, (.c (.sc (.int .u8 35)))], qO 5 (.mov (.t 7))])
  (.seq (.seq (.ops [qO 8 (.mov (.t 5)), qO 9 (.llen (.t 8)), qO 10 (.bin .neq (.t 9) (iC 2)), qO 11 (.mov (.t 10)), qG 12 11 false (.mov (.t 5)), qG 13 11 false (.iadr 1 (.t 12) (iC 0)), qG 14 11 false (.load false 1 (.t 13)), cG 15 11 false 114 [.t 14], qG 16 11 false (.not (.t 15)), qO 17 (.pick (.t 11) (.c (.sc (.bool true))) (.t 16)), qO 18 (.mov (.t 17)), qG 19 18 false (.mov (.t 5)), qG 20 18 false (.iadr 1 (.t 19) (iC 1)), qG 21 18 false (.load false 1 (.t 20)), cG 22 18 false 114 [.t 21], qG 23 18 false (.not (.t 22)), qO 24 (.pick (.t 18) (.c (.sc (.bool true))) (.t 23))])
  (.cond (.t 24) (.seq (.ops [qO 2 (.mov (.c (.sc (.string ⟨#[]⟩)))), qO 3 (.mov (.c (.sc (.string ⟨#[]⟩)))), qO 4 (.mov (.c (.sc (.bool false))))])
  .ret)
  .skip))
  (.seq (.any [(qO 25 (.mov (.t 5)), []), (qO 26 (.iadr 1 (.t 25) (iC 0)), [0]), (qO 27 (.load false 1 (.t 26)), [1]), (qO 28 (.mov (.t 5)), []), (qO 29 (.iadr 1 (.t 28) (iC 1)), [3]), (qO 30 (.load false 1 (.t 29)), [4]), (qO 2 (.mov (.t 27)), [2, 0, 1, 2]), (qO 3 (.mov (.t 30)), [5, 6, 0, 1, 2, 3, 4, 5, 6]), (qO 4 (.mov (.c (.sc (.bool true)))), [7, 0, 1, 2, 3, 4, 5, 6, 7])])
  .ret))))
theorem K49 : Kf Tryz.prog Tryz.f49 A49 31 [.mov (.t 2), .mov (.t 3), .mov (.t 4)] := ⟨by kernel_rfl, by kernel_rfl, by kernel_rfl⟩
set_option maxHeartbeats 1000000 in
theorem R49 (s : ByteArray) (hs : s.size ≤ 1048576) : Ret Tryz.prog 49 [.sc (.string s)] (taskA (YR s)) [.un] := by
  have hp := zcC s
  have hz : ∀ x ∈ Yq s 35, x.size ≤ s.size := ZL s 35 _ 0 0
  obtain ⟨ps, hps⟩ : ∃ ps, ps = Yq s 35 := ⟨_, rfl⟩
  have rs := R113 s 35 hs
  rw [← hps] at hz rs hp
  have rest : ∀ (l : List ByteArray), ps = l → l.length ≠ 2 → YR s = none := fun l h1 h2 => by
    rw [hp, h1]
    match l, h2 with
    | [], _ => rfl
    | [_], _ => rfl
    | _ :: _ :: _ :: _, _ => rfl
    | [_, _], h2 => exact absurd rfl h2
  refine Ret.run Tryz.func49 K49 (by simp) rfl rfl 500 ?_
  simp [A49, iniρ]
  refine callK.own 7 rfl (by kernel_rfl) (by simp [Yc]) rs (Ty.str.flo ps) (by simp) rfl ?_
  by_cases hl : ps.length = 2
  case neg =>
    have hl' : ¬ ((ps.length : Int) = 2) := by omega
    rw [rest ps rfl hl]
    simp [hl, hl', taskA]
  obtain ⟨a, b, rfl⟩ : ∃ a b, ps = [a, b] := by
    match ps, hl with
    | [a, b], _ => exact ⟨a, b, rfl⟩
  have ha := hz a (by simp)
  have hb := hz b (by simp)
  have er : rows Ty.str.oc [a, b] = [.sc (.string a), .sc (.string b)] := rfl
  simp only at hp
  rw [hp]
  simp [er]
  refine callK.ro 0 rfl (by kernel_rfl) (by simp [Yc, za]) (R114 a (by omega)) rfl rfl rfl ?_
  cases h1 : Zz a
  case false => simp [taskA]
  simp [er]
  refine callK.ro 0 rfl (by kernel_rfl) (by simp [Yc, za]) (R114 b (by omega)) rfl rfl rfl ?_
  cases h2 : Zz b
  case false => simp [taskA]
  simp
  refine T.text 400 mixed (by kernel_rfl) (by kernel_rfl) ?_
  simp [er, taskA]
def YD (m : Made) : Bool := (YR m.task).isSome && (zS m.outs && decide (m.log.size ≤ 200))
def A146 : AC := (.seq (.ops [wO 1 (.box (.t 0)), qO 2 (.mov (.c (.sc (.bool false))))])
  (.seq (.ops [qO 3 (.fadr 0 (.t 1)), qO 4 (.load false 1 (.t 3)), cO 5 209 [.t 4], qO 6 (.mov (.t 5)), qG 7 6 true (.fadr 1 (.t 1)), qG 8 6 true (.load false 1 (.t 7)), cG 9 6 true 210 [.t 8], qO 10 (.pick (.t 6) (.t 9) (.c (.sc (.bool false)))), qO 11 (.mov (.t 10)), qG 12 11 true (.fadr 2 (.t 1)), qG 13 11 true (.load false 1 (.t 12)), qG 14 11 true (.slen (.t 13)), qG 15 11 true (.bin .leq (.t 14) (iC 200)), qO 16 (.pick (.t 11) (.t 15) (.c (.sc (.bool false)))), qO 2 (.mov (.t 16))])
  .ret))
theorem K146 : Kf Tryz.prog Tryz.f146 A146 17 [.mov (.t 2)] := ⟨by kernel_rfl, by kernel_rfl, by kernel_rfl⟩
theorem R146 (m : Made) (h1 : m.task.size ≤ 1048576) (hb : m.outs.length < 4611686018427387904) (hp : ∀ x ∈ m.outs, x.path.size ≤ 1048576) : Ret Tryz.prog 146 [.agg (Made.ty.cs m)] (.sc (.bool (YD m))) [.un] := by
  refine Ret.run Tryz.func146 K146 (by simp) rfl rfl 500 ?_
  simp [A146, iniρ, Made.cse]
  refine callK.ro 0 rfl (by kernel_rfl) (by simp [Yc, za]) (R209 m.task (by omega)) rfl rfl rfl ?_
  cases h1 : (YR m.task).isSome
  case false => simp [YD, h1]
  simp
  refine callK.ro 0 rfl (by kernel_rfl) (by simp [ze, za]) (R210 m.outs hb hp) rfl rfl rfl ?_
  cases h2 : zS m.outs
  case false => simp [YD, h2]
  by_cases h3 : m.log.size ≤ 200
  · have h3' : (m.log.size : Int) ≤ 200 := by omega
    simp [YD, h1, h2, h3, h3']
  · have h3' : ¬ (m.log.size : Int) ≤ 200 := by omega
    simp [YD, h3, h3']
def A138 : AC := (.seq (.ops [wO 1 (.box (.t 0)), qO 2 (.mov (.c (.sc (.bool false))))])
  (.seq (.ops [qO 8 (.fadr 0 (.t 1)), qO 9 (.load false 1 (.t 8)), cO 10 49 [.t 9], qO 7 (.mov (.t 10)), qO 11 (.ext (.t 7) 0), qO 12 (.ext (.t 7) 1), qO 13 (.ext (.t 7) 2), qO 3 (.mov (.t 11)), qO 4 (.mov (.t 12)), qO 5 (.mov (.t 13))])
  (.seq (.seq (.ops [qO 6 (.mov (iC 0))])
  (.block 0 (.loop (.seq (.seq (.ops [qO 14 (.mov (.t 6)), qO 15 (.fadr 1 (.t 1)), qO 16 (.load false 1 (.t 15)), qO 17 (.llen (.t 16)), qO 18 (.bin .lss (.t 14) (.t 17))])
  (.cond (.t 18) .skip
  (.exit 0)))
  (.seq (.block 1 (.seq (.ops [qO 21 (.fadr 1 (.t 1)), qO 22 (.load false 1 (.t 21)), qO 23 (.mov (.t 6)), qO 24 (.iadr 2 (.t 22) (.t 23)), qO 25 (.fadr 0 (.t 24)), qO 26 (.load false 1 (.t 25)), cO 27 203 [.t 26], qO 28 (.not (.t 27))])
  (.cond (.t 28) (.seq (.ops [qO 2 (.mov (.c (.sc (.bool false))))])
  .ret)
  .skip)))
  (.ops [qO 19 (.mov (.t 6)), qO 20 (.bin .add (.t 19) (iC 1)), qO 6 (.mov (.t 20))]))))))
  (.seq (.ops [qO 29 (.mov (.t 5)), qO 30 (.mov (.t 29)), qG 31 30 true (.fadr 1 (.t 1)), qG 32 30 true (.load false 1 (.t 31)), qG 33 30 true (.llen (.t 32)), qG 34 30 true (.bin .leq (.t 33) (iC 6)), qO 35 (.pick (.t 30) (.t 34) (.c (.sc (.bool false)))), qO 36 (.mov (.t 35)), qG 37 36 true (.fadr 1 (.t 1)), qG 38 36 true (.load false 1 (.t 37)), cG 39 36 true 179 [.t 38], qO 40 (.pick (.t 36) (.t 39) (.c (.sc (.bool false)))), qO 41 (.mov (.t 40)), qG 42 41 true (.fadr 2 (.t 1)), qG 43 41 true (.load false 1 (.t 42)), qG 44 41 true (.slen (.t 43)), qG 45 41 true (.bin .leq (.t 44) (iC 200)), qO 46 (.pick (.t 41) (.t 45) (.c (.sc (.bool false)))), qO 2 (.mov (.t 46))])
  .ret))))
theorem K138 : Kf Tryz.prog Tryz.f138 A138 47 [.mov (.t 2)] := ⟨by kernel_rfl, by kernel_rfl, by kernel_rfl⟩
set_option maxHeartbeats 1000000 in
theorem R138 (m : Made) (h1 : m.task.size ≤ 1048576) (hb : m.outs.length < 4611686018427387904) (hp : ∀ x ∈ m.outs, x.path.size ≤ 1048576) : Ret Tryz.prog 138 [.agg (Made.ty.cs m)] (.sc (.bool (YD m))) [.un] := by
  have rp := R49 m.task h1
  have hcs := Made.cse m
  obtain ⟨xs, hxs⟩ : ∃ xs, xs = m.outs := ⟨_, rfl⟩
  have hM : YD m = ((YR m.task).isSome && (zS xs && decide (m.log.size ≤ 200))) := by rw [hxs]; rfl
  obtain ⟨t, ht⟩ : ∃ t, t = YR m.task := ⟨_, rfl⟩
  rw [← ht] at rp hM
  rw [hM]
  rw [← hxs] at hb hp hcs
  have fin : ∀ (tk : ByteArray × ByteArray × Bool), taskA t = .tup [.sc (.string tk.1), .sc (.string tk.2.1), .sc (.bool tk.2.2)] → tk.2.2 = t.isSome → Ret Tryz.prog 138 [.agg (Made.ty.cs m)] (.sc (.bool (t.isSome && (zS xs && decide (m.log.size ≤ 200))))) [.un] := by
    rintro ⟨ta, tb, tc⟩ e1 e2
    simp only at e1 e2
    rw [e1] at rp
    rw [← e2]
    refine Ret.run Tryz.func138 K138 (by simp) rfl rfl 500 ?_
    simp [A138, iniρ, hcs]
    refine callK.ro 0 rfl (by kernel_rfl) (by simp [Yc, za]) rp rfl (by simp [inst, instL, shut]; exact ⟨rfl, rfl⟩) rfl ?_
    simp
    refine T.rounds (μ := fun i : List File × List File => i.2.length)
      (fun i s => i.1 ++ i.2 = xs ∧ zH i.2 = zH xs ∧ s.ρ 1 = .ref 1 0 ∧ s.ρ 5 = .sc (.bool tc) ∧ s.ρ 6 = .sc (.int .i64 i.1.length) ∧ s.h 1 = some (some (Made.ty.cs m)) ∧ s.n = 47) ([], xs) (by simp [za, hcs, hxs, Made.cse]) ?_
    rintro ⟨pre, rest⟩ ⟨ρ, hh, n⟩ ⟨hx, hE, k1, k5, k6, b1, rfl⟩
    simp only at hx hE k1 k5 k6 b1
    rw [hcs] at b1
    refine yg (n := 400) ?_
    cases rest with
    | nil =>
      have hxl : pre.length = xs.length := by rw [← hx]; simp
      have hA : zH xs = true := by rw [← hE]; rfl
      simp [k1, k6, b1, hxl]
      refine T.on 400 ?_
      cases tc with
      | false => simp [k5]
      | true =>
        by_cases h6 : xs.length ≤ 6
        · have h6' : (xs.length : Int) ≤ 6 := by omega
          simp [k1, k5, b1, h6']
          refine callK.ro 0 rfl (by kernel_rfl) (by simp [ze, za]) (R179 xs hb hp) rfl rfl rfl ?_
          cases h2 : Yw xs
          case false => simp [zS, h2]
          by_cases h3 : m.log.size ≤ 200
          · have h3' : (m.log.size : Int) ≤ 200 := by omega
            simp [k1, b1, zS, hA, h6, h2, h3, h3']
          · have h3' : ¬ (m.log.size : Int) ≤ 200 := by omega
            simp [k1, b1, h3, h3']
        · have h6' : ¬ (xs.length : Int) ≤ 6 := by omega
          simp [k1, k5, b1, h6', zS, h6]
    | cons x rest =>
      have hle : pre.length + (rest.length + 1) = xs.length := by rw [← hx]; simp
      have hlt : (pre.length : Int) < xs.length := by omega
      have hw : IntKind.i64.wrap ((pre.length : Int) + 1) = pre.length + 1 := zc (by omega) (by omega)
      have hd := ye File.ty.csn pre (x :: rest)
      rw [hx, yc] at hd
      have hd : List.drop (pre.length * 2) (rows File.ty.cs xs) = AV.sc (.string x.path) :: AV.sc (.string x.text) :: rows File.ty.cs rest := hd
      have hxp := hp x (by rw [← hx]; simp)
      simp [k1, k6, b1, hlt, hd]
      refine callK.ro 0 rfl (by kernel_rfl) (by simp [Yc, za]) (R203 x.path (by omega)) rfl rfl rfl ?_
      cases h1 : Zl x.path
      · have h2 : zH xs = false := by rw [← hE, zH, h1]; rfl
        simp [zS, h2]
      · simp [k6, hw]
        refine ⟨pre ++ [x], rest, by simp, _, Le.refl _, ?_⟩
        simp [hx, za, k1, k5, b1, hcs, ← hE, zH, h1]
  cases t with
  | none => exact fin (⟨#[]⟩, ⟨#[]⟩, false) rfl rfl
  | some t => exact fin (t.1, t.2, true) rfl rfl
end Go.Proofs.YtopofpihpnjmbaaGreatDoor.Am
