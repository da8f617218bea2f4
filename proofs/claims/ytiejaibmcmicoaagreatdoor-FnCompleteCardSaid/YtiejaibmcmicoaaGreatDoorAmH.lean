/- Regions in any order with writes: what each operation touches is told, the rest is reckoned; no condition. -/
import Derived.Test.YtiejaibmcmicoaaGreatDoorAmG
namespace Go.Proofs.YtiejaibmcmicoaaGreatDoor.Am
open Go
set_option linter.unusedVariables false
def insN (x : Nat) : List Nat → List Nat
  | [] => [x]
  | y :: l => bif Nat.beq x y then y :: l else y :: insN x l
def unN : List Nat → List Nat → List Nat
  | [], l => l
  | x :: k, l => unN k (insN x l)
def memN (x : Nat) : List Nat → Bool
  | [] => false
  | y :: l => bif Nat.beq x y then true else memN x l
def nthN : List (List Nat) → Nat → List Nat
  | [], _ => []
  | x :: _, 0 => x
  | _ :: l, n + 1 => nthN l n
def unAll (acc : List (List Nat)) : List Nat → List Nat → List Nat
  | [], l => l
  | j :: p, l => unAll acc p (unN (nthN acc j) l)
def closP (acc : List (List Nat)) : List (List Nat) → List (List Nat)
  | [] => acc
  | p :: ps => closP (acc ++ [unAll acc p (unN p [])]) ps
def lookE (k : Nat) : List (Nat × List Nat) → List Nat
  | [] => []
  | (i, b) :: l => bif Nat.beq i k then b else lookE k l
def hidE (b : List (List Nat)) (k : Nat) (bk : List Nat) : List (Nat × List Nat) → List Nat → List Nat
  | [], l => l
  | (j, e) :: E, l => bif Nat.beq j k || memN j bk || memN k (nthN b j) then hidE b k bk E l else hidE b k bk E (unN e l)
def esF (b : List (List Nat)) (E : List (Nat × List Nat)) : Nat → List (List Nat) → List (List Nat × List Nat)
  | _, [] => []
  | k, bk :: l => (lookE k E, hidE b k bk E []) :: esF b E (k + 1) l
theorem T.textE {P : Program} {p : List Nat} {l : List (AOp × List Nat)} {k : List KI} {st : St} {Q : AE → St → Prop} {es : List (List Nat × List Nat)} {ps : List (List Nat)} (E : List (Nat × List Nat))
    (h : runW P p 900 (l.map (·.1)) es k Q st) (hm : P.follows .mixedOrders = true) (hp : closP [] (l.map (·.2)) = ps := by conv => lhs; cbv) (he : esF ps E 0 ps = es := by conv => lhs; cbv) (hs : ordB l ps es = true := by kernel_rfl) (hd : (l.all fun x => dOk p x.1.d st.n) = true := by kernel_rfl) : T P p (.any l) st (pop P p k Q) :=
  T.textP 900 ps es hm hs hd h
theorem str_n : Ty.str.n = 1 := rfl
theorem rowsS_len (xs : List ByteArray) : (rows Ty.str.oc xs).length = xs.length := by rw [rows_length Ty.str.ocn]; exact Nat.mul_one _
theorem rowsC_len (xs : List ByteArray) : (rows Ty.str.cs xs).length = xs.length := rowsS_len xs
theorem rowsS_fr (xs : List ByteArray) : idfree.idfreeL (rows Ty.str.oc xs) = true := Ty.str.frL xs
theorem rowsC_fr (xs : List ByteArray) : idfree.idfreeL (rows Ty.str.cs xs) = true := Ty.str.frL xs
section
variable {P : Program} {fx : AX} {xs : List AX} {dst : Option Nat} {E A : List Nat} {st : St} {K : St → Prop} {f : FuncId} {caps ys : List AV} {ret : AV} {st3 : St} {y : AV}
theorem cW (d : Nat) (hR : Ret P f ys ret (ys.map fun _ => .un)) (hK : K ((⟨st.ρ, merge A st.h st3.h, st.n⟩ : St).setO dst y)) (hfl : flt ret = true := by rfl) (hf : fx.ev st.ρ = .clo f caps := by rfl) (hc : callB P f = true := by kernel_rfl)
    (hys : (xs.map (·.ev st.ρ) ++ caps).mapM (roc (hideH A st.h) 8) = some ys := by simp [roc_sc, roc_ro, roc_agg, mk_bs]) (hi : inst 64 d ret ⟨st.ρ, hideH A st.h, st.n⟩ = some (y, st3) := by rfl) (hE : (instB 64 d ret).all (fun b => E.elem b) = true := by rfl) : callWK P fx xs dst (E, A) st K :=
  callWK.ro d hf hc hys hR hfl hi hE hK
end
end Go.Proofs.YtiejaibmcmicoaaGreatDoor.Am
