/- Blocks of one's own that nobody writes any more: they are read only from here on; no condition. -/
import Derived.Test.YtaknfalbmblagaaGreatDoorAmD
namespace Go.Proofs.YtaknfalbmblagaaGreatDoor.Am
open Go
section
variable {φ : Nat → Option Loc} {M : Nat → Prop} {L : Nat → List Nat} {w : World} {E : Ent} {tm : Array Value}
/-- A call from a state that says less. -/
theorem callK.le {P : Program} {p : List Nat} {fx : AX} {xs : List AX} {d : Option Nat} {st st' : St} {K : St → Prop} (hl : Le st st') (h : callK P p fx xs d st' K) : callK P p fx xs d st K := by
  rcases h with h | h | ⟨st2, h2, h⟩
  · exact .inr (.inr ⟨st', hl, .inl h⟩)
  · exact .inr (.inr ⟨st', hl, .inr h⟩)
  · exact .inr (.inr ⟨st2, fun E tm w hs => h2 E tm w (hl E tm w hs), h⟩)
end
end Go.Proofs.YtaknfalbmblagaaGreatDoor.Am
