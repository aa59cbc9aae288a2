/-
  A block of five cells, written anew; a row of one's own lies in no block of another type.
-/
import Derived.Test.YtleammkpfknngaaBase
namespace Go.Proofs.Ytleammkpfknngaa
open Go.RowKit
set_option linter.unusedVariables false

theorem infoP : (Try.prog.info? 27).map (fun i => (i.zero, i.size, i.bytes)) = some (some (.agg #[.int .i64 0, .int .i64 0, .int .i64 0, .int .i64 0, .slice none 0 0]), 5, 56) := by kernel_rfl
theorem Blk.five_ {w : World} {g : Nat} {t : TypeId} {a b c d e : Value} (h : Blk w g t #[a, b, c, d, e]) : w.cell? ⟨g, 0, none⟩ = some a ∧ w.cell? ⟨g, 1, none⟩ = some b ∧ w.cell? ⟨g, 2, none⟩ = some c ∧ w.cell? ⟨g, 3, none⟩ = some d ∧ w.cell? ⟨g, 4, none⟩ = some e ∧ (∀ i, w.frozen? ⟨g, i, none⟩ = false) :=
  ⟨(h.cell 0).trans rfl, (h.cell 1).trans rfl, (h.cell 2).trans rfl, (h.cell 3).trans rfl, (h.cell 4).trans rfl, h.frozen⟩
/-- The five cells of a block, written. -/
abbrev set5 (w : World) (k : Nat) (x0 x1 x2 x3 x4 : Value) : World := ((((w.setCell ⟨k, 0, none⟩ x0).setCell ⟨k, 1, none⟩ x1).setCell ⟨k, 2, none⟩ x2).setCell ⟨k, 3, none⟩ x3).setCell ⟨k, 4, none⟩ x4
theorem Blk.setFive {w : World} {g : Nat} {t : TypeId} {a b c d e : Value} (h : Blk w g t #[a, b, c, d, e]) (x0 x1 x2 x3 x4 : Value) : Blk (set5 w g x0 x1 x2 x3 x4) g t #[x0, x1, x2, x3, x4] := ((((h.set_ 0 x0).set_ 1 x1).set_ 2 x2).set_ 3 x3).set_ 4 x4
theorem Blk.farFive {w : World} {g k : Nat} {t : TypeId} {cs : Array Value} (h : Blk w g t cs) (hk : g ≠ k) (x0 x1 x2 x3 x4 : Value) : Blk (set5 w k x0 x1 x2 x3 x4) g t cs :=
  ((((h.far (p := ⟨k, 0, none⟩) hk x0).far (p := ⟨k, 1, none⟩) hk x1).far (p := ⟨k, 2, none⟩) hk x2).far (p := ⟨k, 3, none⟩) hk x3).far (p := ⟨k, 4, none⟩) hk x4
/-- A row of one's own lies in no block of another type. -/
theorem own_ne {w : World} {B q : Nat} {e t : TypeId} {n : Nat} {v : Value} {xs : List Value} {cs : Array Value} (h : w.ownsRow B e 1 v n xs) (hq : Blk w q t cs) (hne : e ≠ t) : v.ownBlock ≠ some q := by
  rcases h.2 with ⟨rfl, _⟩ | ⟨g, cap, cur, rfl, e2, e3, e4⟩
  · simp [Value.ownBlock]
  · intro hh
    simp [Value.ownBlock] at hh
    subst hh
    have := e3.symm.trans hq
    simp at this
    exact hne this.2
theorem own_set {w : World} {B k i : Nat} {e : TypeId} {n : Nat} {v : Value} {xs : List Value} (h : w.ownsRow B e 1 v n xs) (hk : v.ownBlock ≠ some k) (x : Value) : (w.setCell ⟨k, i, none⟩ x).ownsRow B e 1 v n xs := by
  refine ⟨h.1, ?_⟩
  rcases h.2 with h | ⟨g, cap, cur, e1, e2, e3, e4⟩
  · exact .inl h
  · exact .inr ⟨g, cap, cur, e1, e2, (Below.heap_setCell w ⟨k, i, none⟩ x g (by subst e1; simpa [Value.ownBlock] using hk)).trans e3, e4⟩
theorem own_set5 {w : World} {B k : Nat} {e : TypeId} {n : Nat} {v : Value} {xs : List Value} (h : w.ownsRow B e 1 v n xs) (hk : v.ownBlock ≠ some k) (x0 x1 x2 x3 x4 : Value) : (set5 w k x0 x1 x2 x3 x4).ownsRow B e 1 v n xs :=
  own_set (own_set (own_set (own_set (own_set h hk x0) hk x1) hk x2) hk x3) hk x4
end Go.Proofs.Ytleammkpfknngaa
