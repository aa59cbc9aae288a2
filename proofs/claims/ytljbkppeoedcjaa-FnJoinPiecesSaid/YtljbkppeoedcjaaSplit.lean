/-
  SplitBody of both packages.
-/
import Derived.Test.YtljbkppeoedcjaaPcsC
import Derived.Test.YtljbkppeoedcjaaAppend
import Derived.Test.YtljbkppeoedcjaaIn
namespace Go.Proofs.Ytljbkppeoedcjaa
open Go.RowKit
set_option linter.unusedVariables false

theorem pcs_last {zs : List Int} {size f a : Nat} (h : zs.length ≤ a + size) : pcsFrom zs size (f + 1) a = [⟨(a : Int), false, (zs.drop a).take size⟩] := by
  simp only [pcsFrom]
  rw [if_pos h, decide_eq_false (by omega)]
theorem pcs_more_ {zs : List Int} {size f a : Nat} (h : ¬ zs.length ≤ a + size) : pcsFrom zs size (f + 1) a = ⟨(a : Int), true, (zs.drop a).take size⟩ :: pcsFrom zs size f (a + size) := by
  simp only [pcsFrom]
  rw [if_neg h, decide_eq_true (by omega)]
theorem pcsSnoc {qs : List Pv} {p : Pv} {rest all : List Pc} (h : qs.map Pv.pc ++ p.pc :: rest = all) : (qs ++ [p]).map Pv.pc ++ rest = all := by
  rw [← h]; simp

theorem sl_part {w : World} {lo hi n b off : Nat} {zs : List Int} (h : Sl w lo hi 1 (some ⟨b, off, none⟩) n (zs.map (Value.int .u8))) (a m : Nat) (hm : a + m ≤ n) : Sl w lo hi 1 (some ⟨b, off + a, none⟩) m (((zs.drop a).take m).map (Value.int .u8)) := by
  have hl := h.len
  refine ⟨by simp; omega, fun h0 => ?_⟩
  obtain ⟨b', off', e, h1, h2, hc⟩ := h.2 (by omega)
  cases e
  refine ⟨b, off + a, rfl, h1, h2, fun j u hu => ?_⟩
  have := hc (a + j) u (by
    rw [← hu, List.getElem?_map, List.getElem?_map, List.getElem?_take]
    have hj : j < m := by
      rcases Nat.lt_or_ge j m with h | h
      · exact h
      · rw [List.getElem?_eq_none (by simp; omega)] at hu; cases hu
    rw [if_pos hj, List.getElem?_drop])
  rwa [← Nat.add_assoc] at this

/-- Pieces of one's own, a new body, a block with the new piece, the row with it behind. -/
theorem OwnPcs.more1 {w w1 w3 : World} {base n m c1 mc : Nat} {a : Int} {mo : Bool} {A1 B B3 : Option Addr} {mc3 : Nat} {qs : List Pv} {zs : List Int} (h : OwnPcs w base (.slice B n mc) n qs) (N1 : New w w1) (own1 : w1.ownsRow base 5 1 (.slice A1 m c1) m ([] ++ zs.map (Value.int .u8)))
    (hf : ∀ g, (Value.slice A1 m c1).ownBlock = some g → w.heap.size ≤ g) (hb : AllByte zs)
    (own3 : w3.ownsRow base 35 3 (.slice B3 (n + 1) mc3) (n + 1) (pvs qs ++ [.int .i64 a, .bool mo, .slice A1 m c1])) (g3 : (w1.alloc (.cells #[.int .i64 a, .bool mo, .slice A1 m c1] 35)).grownBy w3 (Value.slice B n mc).ownBlock) :
    OwnPcs w3 base (.slice B3 (n + 1) mc3) (n + 1) (qs ++ [⟨a, mo, A1, m, c1, zs⟩]) :=
  h.snoc (N1.trans (GrF.alloc _ _ _)) ⟨a, mo, A1, m, c1, zs⟩ (own1.alloc _) hf hb own3 g3
theorem below_more1 {W w w1 w3 : World} {n mc : Nat} {B : Option Addr} {qs : List Pv} {o : Obj} (hb : Below W.heap.size W w) (h : OwnPcs w W.heap.size (.slice B n mc) n qs) (N1 : New w w1) (g3 : (w1.alloc o).grownBy w3 (Value.slice B n mc).ownBlock) : Below W.heap.size W w3 := by
  have b1 := New.below N1 hb hb.size
  exact below_append (b1.alloc b1.size o) ((h.new N1).row.alloc o) g3
theorem fresh_nil {w : World} {v : Value} (h : v.ownBlock = (Value.slice none 0 0).ownBlock ∨ v.ownBlock = some w.heap.size) : ∀ g, v.ownBlock = some g → w.heap.size ≤ g := by
  intro g hg
  rcases h with h | h <;> rw [h] at hg <;> cases hg
  exact Nat.le_refl _
theorem fresh_lit {w : World} {o : Obj} {v : Value} {k : Nat} (h : v.ownBlock = (Value.slice (some ⟨w.heap.size, 0, none⟩) 0 k).ownBlock ∨ v.ownBlock = some (w.alloc o).heap.size) : ∀ g, v.ownBlock = some g → w.heap.size ≤ g := by
  intro g hg
  rcases h with h | h <;> rw [h] at hg <;> cases hg
  · exact Nat.le_refl _
  · simp
theorem new_lit {w w1 : World} {o : Obj} {k : Nat} (h : (w.alloc o).grownBy w1 (Value.slice (some ⟨w.heap.size, 0, none⟩) 0 k).ownBlock) : New w w1 :=
  ⟨h.os, h.tape, h.output, Nat.le_trans (by simp) h.size, fun i hi _ => (h.block i (by simp; omega) (by intro he; simp [Value.ownBlock] at he; omega)).trans (Below.heap_alloc w o i hi)⟩
theorem sl_zero (w : World) (A : Option Addr) : Sl w 0 0 1 A 0 (([] : List Int).map (Value.int .u8)) := ⟨by simp, fun h => absurd h (by omega)⟩
theorem ones_u8 (zs : List Int) : ∀ u ∈ zs.map (Value.int .u8), u.oneCell' = true := by
  intro u hu
  obtain ⟨z, _, rfl⟩ := List.mem_map.1 hu
  rfl
theorem one_piece (a : Int) (mo : Bool) (A : Option Addr) (n c : Nat) : ∀ u ∈ [Value.int .i64 a, .bool mo, .slice A n c], u.oneCell' = true := by
  intro u hu
  simp at hu
  rcases hu with rfl | rfl | rfl <;> rfl
theorem own_cap5 {w : World} {base : Nat} {e : TypeId} {size n c : Nat} {A : Option Addr} {xs : List Value} (h : w.ownsRow base e size (.slice A n c) n xs) : n ≤ c ∧ c ≤ maxLen := by
  obtain ⟨A', c', e, h1, h2⟩ := own_is_slice h
  cases e
  exact ⟨h1, h2⟩

end Go.Proofs.Ytljbkppeoedcjaa
