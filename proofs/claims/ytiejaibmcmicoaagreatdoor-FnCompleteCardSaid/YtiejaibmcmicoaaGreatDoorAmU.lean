/- Lists of rows, of bytes, compared and searched: no program in sight; no condition. -/
import Derived.Test.YtiejaibmcmicoaaGreatDoorAm12
namespace Go.Proofs.YtiejaibmcmicoaaGreatDoor.Am
open Go
def szL {α : Type} (f : α → Int → Int) : List α → Int → Int
  | [], l => l
  | x :: xs, l => if f x l < 0 then -1 else szL f xs (f x l)
def eqBy {α β : Type} (f : α → β → Bool) : List α → List β → Bool
  | [], [] => true
  | x :: xs, y :: ys => f x y && eqBy f xs ys
  | _, _ => false
theorem eqBy_len {α β : Type} {f : α → β → Bool} : ∀ {xs : List α} {ys : List β}, xs.length ≠ ys.length → eqBy f xs ys = false
  | [], [], h => absurd rfl h
  | [], _ :: _, _ => rfl
  | _ :: _, [], _ => rfl
  | x :: xs, y :: ys, h => by simp only [eqBy, eqBy_len (f := f) (xs := xs) (ys := ys) (by simpa using h), Bool.and_false]
def idx {α : Type} (f : α → Bool) : List α → Int → Int
  | [], _ => -1
  | x :: xs, i => if f x then i else idx f xs (i + 1)
def B (n : Int) : List AV := [.sc (.int .u8 n)]
def Bz (_ : Int) : List AV := [.sc (.int .u8 0)]
theorem B.len (n : Int) : (B n).length = 1 := rfl
theorem Bz.len (n : Int) : (Bz n).length = 1 := rfl
theorem B.fr (n : Int) : ∀ c ∈ B n, idfree c = true := by simp [B, idfree]
theorem B.sh (n : Int) : ∀ c ∈ B n, shut c = true := by simp [B, shut]
theorem B.fl (n : Int) : ∀ c ∈ B n, flt c = true := by simp [B, flt]
theorem B.count (xs : List Int) : (rows B xs).length = xs.length := by rw [rows_length B.len, Nat.mul_one]
theorem B.flo (xs : List Int) : flt (.own (rows B xs) xs.length 1) = true := by simpa [flt] using fltL_rows B.fl xs
theorem B.roc {h : Nat → Option (Option (List AV))} {b k : Nat} {xs : List Int} {lim : Bool} (hb : h b = some (some (rows B xs))) : Am.roc h (k + 1) (.sl b 0 xs.length 1 lim) = some (.ro (rows B xs) xs.length) :=
  roc_sl hb (rows_length B.len xs) (shutL_rows B.sh xs)
end Go.Proofs.YtiejaibmcmicoaaGreatDoor.Am
