/-
  Slices of records: each one's cells, one behind the other.
-/
import Derived.Test.YtgdcfhifiincaaaBase
namespace Go.Proofs.Ytgdcfhifiincaaa
open Go.RowKit
set_option linter.unusedVariables false

/-- A slice of records: each one's cells, one behind the other. -/
def recV {α : Type} (f : α → List Value) : List α → List Value
  | [] => []
  | x :: r => f x ++ recV f r
section
variable {α : Type} {f : α → List Value} {s : Nat}
theorem recV_append (a b : List α) : recV f (a ++ b) = recV f a ++ recV f b := by
  induction a with
  | nil => rfl
  | cons x r ih => simp [recV, ih]
theorem recV_length (hf : ∀ x, (f x).length = s) (xs : List α) : (recV f xs).length = xs.length * s := by
  induction xs with
  | nil => simp [recV]
  | cons x r ih => simp [recV, hf, ih, Nat.succ_mul]; omega
theorem recV_at (hf : ∀ x, (f x).length = s) : ∀ (xs : List α) (k j : Nat) (h : k < xs.length), j < s → (recV f xs)[k * s + j]? = (f xs[k])[j]?
  | [], k, j, h, _ => by simp at h
  | x :: r, 0, j, h, hj => by simp [recV]; rw [List.getElem?_append_left (by rw [hf]; exact hj)]
  | x :: r, k + 1, j, h, hj => by
    rw [recV, List.getElem?_append_right (by rw [hf, Nat.succ_mul]; omega), hf, show (k + 1) * s + j - s = k * s + j from by rw [Nat.succ_mul]; omega, recV_at hf r k j (by simpa using h) hj]
    rfl
theorem recV_take (hf : ∀ x, (f x).length = s) : ∀ (xs : List α) (k : Nat), (recV f xs).take (k * s) = recV f (xs.take k)
  | [], k => by simp [recV]
  | x :: r, 0 => by simp [recV]
  | x :: r, k + 1 => by
    rw [recV, List.take_append, hf, List.take_succ_cons, recV, show (k + 1) * s - s = k * s from by rw [Nat.succ_mul]; omega, recV_take hf r k, List.take_of_length_le (by rw [hf, Nat.succ_mul]; omega)]
theorem recV_drop (hf : ∀ x, (f x).length = s) : ∀ (xs : List α) (k : Nat), (recV f xs).drop (k * s) = recV f (xs.drop k)
  | [], k => by simp [recV]
  | x :: r, 0 => by simp [recV]
  | x :: r, k + 1 => by
    rw [recV, List.drop_append, hf, List.drop_succ_cons, show (k + 1) * s - s = k * s from by rw [Nat.succ_mul]; omega, recV_drop hf r k, List.drop_eq_nil_of_le (by rw [hf, Nat.succ_mul]; omega), List.nil_append]
theorem recV_replicate (n : Nat) (x : α) (z : Value) (hx : f x = List.replicate s z) : recV f (List.replicate n x) = List.replicate (n * s) z := by
  induction n with
  | zero => simp [recV]
  | succ n ih => rw [List.replicate_succ, recV, ih, hx, List.replicate_append_replicate]; congr 1; rw [Nat.succ_mul]; omega
end

end Go.Proofs.Ytgdcfhifiincaaa
