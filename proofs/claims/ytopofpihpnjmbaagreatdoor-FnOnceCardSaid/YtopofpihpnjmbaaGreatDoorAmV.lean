/- A state told anew, slot by slot and block by block; no condition. -/
import Derived.Test.YtopofpihpnjmbaaGreatDoorAmN
namespace Go.Proofs.YtopofpihpnjmbaaGreatDoor.Am
open Go
set_option linter.unusedSimpArgs false
set_option linter.unusedVariables false
attribute [local congr] yP yt zq
attribute [local simp] yM ZM zM yL zC Zy YL ZB zk Zo YB Zk Yo yB YM YC yC ZC zJ YI yI y1 Z1 Z2 Y1 ZW zW yW ZD Za Ya wblk zD yy YO zP aval dOk za ev_t ev_c zw zy yZ yA isIo hasIo sbin endR fin resL one outL out1 clo1 cloL coe coeL shut shut.shutL wantA weff cellsOf fillA deref natOf ρ0_app Y0 plain plain.plainL Zf Ye Yk Yt Zq yH Zw Zn yk ZN zt Zp nilA srcOf Zr Yp yn renA rb dstA lenA cutA
def mens (q : Nat → Bool) (cs : List AV) : Bool := cs.all (menQ q)
theorem ZJ {q : Nat → Bool} : mens q [] = true := rfl
theorem yD {q : Nat → Bool} {c : AV} {cs : List AV} : mens q (c :: cs) = (menQ q c && mens q cs) := rfl
theorem zgQ {q : Nat → Bool} {x : AV} (h : zb x = true) : menQ q x = true := by cases x <;> first | exact h | (simp [zb] at h)
theorem zb9 {q : Nat → Bool} {cs : List AV} (h : zb.idfreeL cs = true) : mens q cs = true := by
  refine List.all_eq_true.2 fun x hx => zgQ (yd h x hx)
theorem za9 {q : Nat → Bool} {b off len sz : Nat} {lim : Bool} : menQ q (.sl b off len sz lim) = q b := rfl
theorem yJ {q : Nat → Bool} {b off : Nat} : menQ q (.ref b off) = q b := rfl
theorem zA {q : Nat → Bool} {v : Value} : menQ q (.sc v) = true := rfl
theorem zO {q : Nat → Bool} : menQ q .em = true := rfl
theorem YH {q : Nat → Bool} {cs : List AV} {n : Nat} : menQ q (.ro cs n) = zb (.ro cs n) := rfl
theorem zal {q : Nat → Bool} {cs : List AV} {n sz : Nat} : menQ q (.own cs n sz) = zb.idfreeL cs := rfl
def toldρ : List (Nat × AV) → Nat → AV
  | [] => fun _ => .un
  | (t, v) :: l => upd (toldρ l) t v
def toldH : List (Nat × List AV) → Hp
  | [] => fun _ => none
  | (b, cs) :: l => upd (toldH l) b (some (some cs))
def toldT (ρ : Nat → AV) (ks : List Nat) : List (Nat × AV) → Prop
  | [] => True
  | (t, v) :: l => ρ t = v ∧ menQ ks.elem v = true ∧ toldT ρ ks l
def toldB (h : Hp) (ks : List Nat) : List (Nat × List AV) → Prop
  | [] => True
  | (b, cs) :: l => h b = some (some cs) ∧ mens ks.elem cs = true ∧ toldB h ks l
theorem zfx {x b : Nat} {l : List Nat} (e : ¬x = b) : List.elem x (b :: l) = List.elem x l := by
  rw [List.elem_cons, beq_eq_false_iff_ne.2 e]
theorem zcm {ρ : Nat → AV} {ks : List Nat} : ∀ {ts : List (Nat × AV)}, toldT ρ ks ts → (∀ t, t ∈ ts.map (·.1) → menQ ks.elem (ρ t) = true) ∧ keep (ts.map (·.1)) ρ = toldρ ts
  | [], _ => ⟨fun t h => (by cases h), (by funext t; rfl)⟩
  | (t, v) :: l, h => by
    obtain ⟨h1, h2, h3⟩ := h
    obtain ⟨i1, i2⟩ := zcm h3
    refine ⟨fun x hx => ?_, ?_⟩
    · rcases List.mem_cons.1 hx with rfl | hx
      · rw [h1]; exact h2
      · exact i1 x hx
    · funext x
      have i3 := congrFun i2 x
      rw [toldρ, za, ← i3]
      unfold keep
      by_cases e : x = t
      · subst e; simp [h1]
      · rw [if_neg e]
        exact congrArg (fun z : Bool => if z = true then ρ x else AV.un) (zfx e)
theorem zcn {h : Hp} {ks : List Nat} : ∀ {bs : List (Nat × List AV)}, toldB h ks bs → (∀ b, b ∈ bs.map (·.1) → ∀ cs, h b = some (some cs) → ∀ x ∈ cs, menQ ks.elem x = true) ∧ keepQ (bs.map (·.1)).elem h = toldH bs
  | [], _ => ⟨fun t h => (by cases h), (by funext t; rfl)⟩
  | (b, cs) :: l, hh => by
    obtain ⟨h1, h2, h3⟩ := hh
    obtain ⟨i1, i2⟩ := zcn h3
    refine ⟨fun x hx => ?_, ?_⟩
    · rcases List.mem_cons.1 hx with rfl | hx
      · intro ds hd
        rw [h1] at hd
        cases hd
        exact List.all_eq_true.1 h2
      · exact i1 x hx
    · funext x
      have i3 := congrFun i2 x
      rw [toldH, za, ← i3]
      unfold keepQ
      by_cases e : x = b
      · subst e; simp [h1]
      · rw [if_neg e]
        exact congrArg (fun z : Bool => if z = true then h x else none) (zfx e)
theorem Le.told {st : St} (ts : List (Nat × AV)) (bs : List (Nat × List AV)) (h1 : toldT st.ρ (bs.map (·.1)) ts) (h2 : toldB st.h (bs.map (·.1)) bs) : Le st ⟨toldρ ts, toldH bs, st.n⟩ := by
  obtain ⟨a1, a2⟩ := zcm h1
  obtain ⟨b1, b2⟩ := zcn h2
  rw [← a2, ← b2]
  exact Le.resetQ _ _ a1 fun b hb cs hc x hx => b1 b (by simpa using hb) cs hc x hx
end Go.Proofs.YtopofpihpnjmbaaGreatDoor.Am
