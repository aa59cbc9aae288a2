/-
  Arguments opened: what the walk is told of a number, a bool, a slice of numbers or bools, a struct of numbers that came in.
-/
import Derived.Test.YtgdcfhifiincaaaBase
import Derived.Deep.Slices
import Derived.Deep.Fields
import Derived.Deep.Grids
import Derived.Lib.SmallJoins
import Derived.ChangeOld
namespace Go.Proofs.Ytgdcfhifiincaaa
open Go.RowKit Go.ChangeShapes Go.WideShapes Go.Deep Go.Joins
set_option linter.unusedVariables false

theorem own : ownKnob Try.prog.godebug = none := by kernel_rfl
theorem laidOut : laidOutB Try.prog = true := by kernel_rfl

section
variable {H : Type} {enc : TypeId × Value → H} {P : Program} {w : World}

/-- From the cells at 'a.add i' to a slice that reads as a list. -/
theorem sl_of_cells {a : Addr} {n : Nat} {xs : List Value} (hl : xs.length = n) (hc : ∀ i u, xs[i]? = some u → w.cell? (a.add i) = some u) : Sl w 0 w.heap.size 1 (some a) n xs := by
  refine ⟨by omega, fun hn => ?_⟩
  obtain ⟨b, off, spot⟩ := a
  have h0 := hc 0 (xs[0]'(by omega)) (List.getElem?_eq_getElem (by omega))
  have hspot : spot = none := by simpa [Addr.add] using World.cell?_spot h0
  subst hspot
  have hb : b < w.heap.size := by simpa [Addr.add] using block_lt_of_cell h0
  refine ⟨b, off, rfl, Nat.zero_le _, hb, fun j u hu => ?_⟩
  have := hc j u hu
  have e : (⟨b, off, none⟩ : Addr).add j = ⟨b, off + j, none⟩ := by unfold Addr.add; split <;> simp_all
  rwa [e] at this

theorem open_nums_cells {t e : TypeId} {k : IntKind} {fuel : Nat} {base : Nat} {held : Bool} {A : Option Addr} {n c : Nat} {x : DataW H × List MemPlace} (ht : P.underlying t = some (.slice e)) (he : P.underlying e = some (.int k)) (hC : P.cellsOf e = 1)
    (hf : DataW.trod enc P w base (fun _ => true) held fuel t [.slice A n c] = some x) : ∃ zs : List Int, Sl w 0 w.heap.size 1 A n (zs.map (Value.int k)) ∧ n ≤ c ∧ c ≤ maxLen ∧ ∀ z ∈ zs, (Lit.int k z).wf = true := by
  rcases open_ints ht he hC hf with ⟨hcs, _⟩ | ⟨a, l, cp, zs, hcs, _, hl, hm, hz, _, hcell, hwz⟩
  · simp at hcs
    obtain ⟨rfl, rfl, rfl⟩ := hcs
    exact ⟨[], Sl.nil_, Nat.le_refl _, by unfold maxLen; omega, by simp⟩
  · simp at hcs
    obtain ⟨rfl, rfl, rfl⟩ := hcs
    have hzl : zs.length = c := by simpa using hz
    refine ⟨zs.take n, ?_, hl, hm, fun z hz => hwz z (List.mem_of_mem_take hz)⟩
    refine sl_of_cells (by simp; omega) fun i u hu => ?_
    simp only [List.getElem?_map, List.getElem?_take] at hu
    split at hu
    · rename_i hi
      have hil : i < zs.length := by omega
      rw [List.getElem?_eq_getElem hil] at hu
      simp at hu
      rw [hcell i hil, ← hu]
      simp [List.getD, List.getElem?_eq_getElem hil]
    · simp at hu

theorem open_nums {t e : TypeId} {k : IntKind} {v : Value} {d : DataW H} {p : List MemPlace} {b0 : Nat} (ht : P.underlying t = some (.slice e)) (he : P.underlying e = some (.int k)) (hC : P.cellsOf e = 1)
    (hval : Value.okWide P w .any b0 t v) (h : DataW.Trod enc P w 0 (fun _ => true) true t v d p) :
    ∃ A n c, ∃ zs : List Int, v = .slice A n c ∧ Sl w 0 w.heap.size 1 A n (zs.map (Value.int k)) ∧ n ≤ c ∧ c ≤ maxLen ∧ ∀ z ∈ zs, (Lit.int k z).wf = true := by
  obtain ⟨A, n, c, rfl⟩ := okWide_slice ht hval
  obtain ⟨fuel, hf⟩ := h
  obtain ⟨zs, h1⟩ := open_nums_cells ht he hC (by simpa [Value.cells] using hf)
  exact ⟨A, n, c, zs, rfl, h1⟩

theorem open_flags {t e : TypeId} {v : Value} {d : DataW H} {p : List MemPlace} {b0 : Nat} (ht : P.underlying t = some (.slice e)) (he : P.underlying e = some .bool) (hC : P.cellsOf e = 1)
    (hval : Value.okWide P w .any b0 t v) (h : DataW.Trod enc P w 0 (fun _ => true) true t v d p) :
    ∃ A n c, ∃ bs : List Bool, v = .slice A n c ∧ Sl w 0 w.heap.size 1 A n (bs.map Value.bool) ∧ n ≤ c ∧ c ≤ maxLen := by
  obtain ⟨A, n, c, rfl⟩ := okWide_slice ht hval
  obtain ⟨fuel, hf⟩ := h
  rcases open_bools ht he hC (by simpa [Value.cells] using hf) with ⟨hcs, _⟩ | ⟨a, l, cp, B, hcs, _, hl, hm, _, hcell⟩
  · simp at hcs
    obtain ⟨rfl, rfl, rfl⟩ := hcs
    exact ⟨none, 0, 0, [], rfl, Sl.nil_, Nat.le_refl _, by unfold maxLen; omega⟩
  · simp at hcs
    obtain ⟨rfl, rfl, rfl⟩ := hcs
    refine ⟨some a, n, c, (List.range n).map B, rfl, ?_, hl, hm⟩
    refine sl_of_cells (by simp) fun i u hu => ?_
    simp only [List.getElem?_map] at hu
    by_cases hi : i < n
    · rw [List.getElem?_range hi] at hu
      simp at hu
      rw [hcell i (by omega), hu]
    · rw [List.getElem?_eq_none (by simpa using hi)] at hu
      simp at hu

theorem open_int_cell {t : TypeId} {k : IntKind} {n base : Nat} {held : Bool} {c : Value} {y : DataW H × List MemPlace} (ht : P.underlying t = some (.int k))
    (h : DataW.trod enc P w base (fun _ => true) held n t [c] = some y) : ∃ a, c = .int k a ∧ (Lit.int k a).wf = true := by
  obtain ⟨a, e, _, wa⟩ := DataW.trod_int ht h
  simp at e
  exact ⟨a, e, wa⟩
theorem open_bool_cell {t : TypeId} {n base : Nat} {held : Bool} {c : Value} {y : DataW H × List MemPlace} (ht : P.underlying t = some .bool)
    (h : DataW.trod enc P w base (fun _ => true) held n t [c] = some y) : ∃ a, c = .bool a := by
  obtain ⟨a, e, _⟩ := DataW.trod_bool ht h
  simp at e
  exact ⟨a, e⟩
end
end Go.Proofs.Ytgdcfhifiincaaa
