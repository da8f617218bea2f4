/- Lists of rows, of bytes, compared and searched: no program in sight; no condition. -/
import Derived.Test.YtopofpihpnjmbaaGreatDoorAm12
namespace Go.Proofs.YtopofpihpnjmbaaGreatDoor.Am
open Go
def szL {α : Type} (f : α → Int → Int) : List α → Int → Int
  | [], l => l
  | x :: xs, l => if f x l < 0 then -1 else szL f xs (f x l)
def eqBy {α β : Type} (f : α → β → Bool) : List α → List β → Bool
  | [], [] => true
  | x :: xs, y :: ys => f x y && eqBy f xs ys
  | _, _ => false
theorem zcf {α β : Type} {f : α → β → Bool} : ∀ {xs : List α} {ys : List β}, xs.length ≠ ys.length → eqBy f xs ys = false
  | [], [], h => absurd rfl h
  | [], _ :: _, _ => rfl
  | _ :: _, [], _ => rfl
  | x :: xs, y :: ys, h => by simp only [eqBy, zcf (f := f) (xs := xs) (ys := ys) (by simpa using h), Bool.and_false]
def idx {α : Type} (f : α → Bool) : List α → Int → Int
  | [], _ => -1
  | x :: xs, i => if f x then i else idx f xs (i + 1)
theorem zbA {α : Type} {f z : α → List AV} {n : Nat} (hf : ∀ x, (f x).length = n) (hz : ∀ x, (z x).length = n) (pre rest : List α) (x : α) (ys : List AV) (hy : ys.length = n) : over (rows f pre ++ rows z (x :: rest)) (pre.length * n) ys = rows f pre ++ (ys ++ rows z rest) := by
  rw [← Yb hf, zdG, yc, zb5 _ _ _ (by rw [hy, hz])]
theorem zeT {α : Type} {f : α → List AV} {n : Nat} (hf : ∀ x, (f x).length = n) (pre : List α) (ys : List AV) (j : Nat) (y : AV) : (rows f pre ++ ys).set (pre.length * n + j) y = rows f pre ++ ys.set j y := by
  rw [← Yb hf, List.set_append_right _ _ (by omega)]
  congr 2; omega
theorem zgq {α : Type} {f : α → List AV} {n : Nat} (hf : ∀ x, (f x).length = n) (pre : List α) (ys : List AV) (j : Nat) : (rows f pre ++ ys)[pre.length * n + j]? = ys[j]? := by
  rw [← Yb hf, List.getElem?_append_right (by omega)]
  congr 1; omega
def B (n : Int) : List AV := [.sc (.int .u8 n)]
def Bz (_ : Int) : List AV := [.sc (.int .u8 0)]
theorem B.len (n : Int) : (B n).length = 1 := rfl
theorem Bz.len (n : Int) : (Bz n).length = 1 := rfl
theorem B.fr (n : Int) : ∀ c ∈ B n, zb c = true := by simp [B, zb]
theorem B.sh (n : Int) : ∀ c ∈ B n, shut c = true := by simp [B, shut]
theorem B.fl (n : Int) : ∀ c ∈ B n, flt c = true := by simp [B, flt]
theorem B.count (xs : List Int) : (rows B xs).length = xs.length := by rw [Yb B.len, Nat.mul_one]
theorem B.flo (xs : List Int) : flt (.own (rows B xs) xs.length 1) = true := by simpa [flt] using zcO B.fl xs
theorem B.roc {h : Nat → Option (Option (List AV))} {b k : Nat} {xs : List Int} {lim : Bool} (hb : h b = some (some (rows B xs))) : Am.roc h (k + 1) (.sl b 0 xs.length 1 lim) = some (.ro (rows B xs) xs.length) :=
  zcw hb (Yb B.len xs) (zed B.sh xs)
theorem B.num (xs : List Int) : (rows B xs).mapM num8 = some xs := by
  induction xs with
  | nil => rfl
  | cons x xs ih => rw [yc]; simp [B, num8, ih]
def bEq (a b : List Int) : Bool := (strOfNums a).toList == (strOfNums b).toList
end Go.Proofs.YtopofpihpnjmbaaGreatDoor.Am
