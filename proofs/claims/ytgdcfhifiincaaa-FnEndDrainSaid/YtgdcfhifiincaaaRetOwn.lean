/-
  A call hands back a slice of its own, nil or not.
-/
import Derived.Test.YtgdcfhifiincaaaBase
namespace Go.Proofs.Ytgdcfhifiincaaa
open Go.RowKit
set_option linter.unusedVariables false

/-- A call hands back a slice that it owns, and leaves old memory as it was. -/
def RetOwn (w : World) (T : TypeId) (size n : Nat) (xs : List Value) (e : Ending) (w' : World) : Prop := ∃ v, e = .returned v ∧ w'.ownsRow w.heap.size T size v n xs ∧ Below w.heap.size w w'
theorem RetOwn.mk {w w' : World} {T : TypeId} {size n : Nat} {xs : List Value} {v : Value} (h : w'.ownsRow w.heap.size T size v n xs) (hb : Below w.heap.size w w') : RetOwn w T size n xs (.returned v) w' := ⟨v, rfl, h, hb⟩
theorem RetOwn.form {w w' : World} {T : TypeId} {size n : Nat} {xs : List Value} {e : Ending} (h : RetOwn w T size n xs e w') : ∃ A c, e = .returned (.slice A n c) ∧ w'.ownsRow w.heap.size T size (.slice A n c) n xs ∧ Below w.heap.size w w' := by
  obtain ⟨v, rfl, hown, hb⟩ := h
  rcases hown.2 with ⟨rfl, rfl⟩ | ⟨g, cap, cur, rfl, _⟩
  · exact ⟨none, 0, rfl, hown, hb⟩
  · exact ⟨_, _, rfl, hown, hb⟩
end Go.Proofs.Ytgdcfhifiincaaa
