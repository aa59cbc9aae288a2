/-
  Words for the laws' own copies of slices: the list that a copying loop has filled so far.
-/
import Derived.Test.YtgdcfhifiincaaaBase
import Derived.Deep.OwnRows
namespace Go.Proofs.Ytgdcfhifiincaaa
open Go.RowKit
set_option linter.unusedVariables false

/-- A row of n places, the first k filled from xs, the others z. -/
def fillL (xs : List Value) (z : Value) (n k : Nat) : List Value := xs.take k ++ List.replicate (n - k) z
theorem fillL_zero (xs : List Value) (z : Value) (n : Nat) : fillL xs z n 0 = List.replicate n z := by simp [fillL]
theorem fillL_full {xs : List Value} (z : Value) {n : Nat} (h : xs.length = n) : fillL xs z n n = xs := by subst h; simp [fillL]
theorem fillL_set {xs : List Value} {z u : Value} {n k : Nat} (hk : k < n) (hl : xs.length = n) (hu : xs[k]? = some u) : (fillL xs z n k).set k u = fillL xs z n (k + 1) := by
  unfold fillL
  have hkl : k < xs.length := by omega
  have he : xs[k] = u := by rw [List.getElem?_eq_getElem hkl] at hu; injection hu
  apply List.ext_getElem?
  intro j
  rw [List.getElem?_set]
  have hlen : (xs.take k ++ List.replicate (n - k) z).length = n := by simp; omega
  by_cases hj : k = j
  · subst hj
    rw [if_pos rfl, if_pos (by omega), List.getElem?_append_left (by simp; omega), List.getElem?_take, if_pos (by omega), hu]
  · rw [if_neg hj]
    by_cases hjk : j < k
    · rw [List.getElem?_append_left (by simp; omega), List.getElem?_append_left (by simp; omega), List.getElem?_take, List.getElem?_take, if_pos hjk, if_pos (by omega)]
    · rw [List.getElem?_append_right (by simp; omega), List.getElem?_append_right (by simp; omega), List.getElem?_replicate, List.getElem?_replicate]
      simp only [List.length_take]
      have e1 : min k xs.length = k := by omega
      have e2 : min (k + 1) xs.length = k + 1 := by omega
      rw [e1, e2]
      by_cases hjn : j < n
      · rw [if_pos (by omega), if_pos (by omega)]
      · rw [if_neg (by omega), if_neg (by omega)]
theorem fillL_at {xs : List Value} {z : Value} {n k : Nat} (hk : k < n) (hl : xs.length = n) : (fillL xs z n k)[k]? = some z := by
  unfold fillL
  rw [List.getElem?_append_right (by simp; omega), List.getElem?_replicate]
  simp
  omega
theorem own_made (w : World) (z : Value) (e : TypeId) (n : Nat) (hm : n ≤ maxLen) :
    (w.alloc (.cells (madeCells #[z] n) e)).ownsRow w.heap.size e 1 (.slice (some ⟨w.heap.size, 0, none⟩) n n) n (List.replicate n z) := by
  have := World.ownsRow_lit (base := w.heap.size) (e := e) (size := 1) w (madeCells #[z] n) n (Nat.le_refl _) hm (by simp [size_madeCells])
  rwa [toList_madeCells_one] at this
end Go.Proofs.Ytgdcfhifiincaaa
