/-
  What a drawing function does to memory, in words that its walk can carry: the reader's block and new blocks alone.
-/
import Derived.Test.YtgdcfhifiincaaaPick
import Derived.Test.YtgdcfhifiincaaaAppend
import Derived.Test.YtgdcfhifiincaaaRetOwn
namespace Go.Proofs.Ytgdcfhifiincaaa
open Go.RowKit
set_option linter.unusedVariables false

theorem grown_trans {a w w1 : World} {g : Nat} {row : Option Nat} (h : a.grownBy w (some g)) (h1 : w.grownBy w1 row) (hr : ∀ k, row = some k → k = g ∨ a.heap.size ≤ k) : a.grownBy w1 (some g) :=
  ⟨h1.os.trans h.os, h1.tape.trans h.tape, h1.output.trans h.output, Nat.le_trans h.size h1.size, fun i hi hn =>
    (h1.block i (Nat.lt_of_lt_of_le hi h.size) (fun e => by
      rcases hr i e.symm with hk | hk
      · exact hn (by rw [hk])
      · omega)).trans (h.block i hi hn)⟩

/-- Since W the reader (block g, older than W's end) was read, and new blocks were made; nothing else. -/
structure Dw (W : World) (g P : Nat) (w : World) : Prop where
  rd : Rd w g P
  gr : W.grownBy w (some g)
  lt : g < W.heap.size
  c0 : w.cell? ⟨g, 0, none⟩ = W.cell? ⟨g, 0, none⟩
section
variable {W w w' : World} {g P P' : Nat} {e : TypeId} {size n : Nat} {v : Value} {xs : List Value}
theorem Dw.start (h : Rd W g P) : Dw W g P W := ⟨h, World.grownBy.refl _ _, h.lt, rfl⟩
theorem Dw.picked (h : Dw W g P w) (hr : RdC w w' g P') (hg : w.grownBy w' (some g)) : Dw W g P' w' := ⟨hr.1, grown_trans h.gr hg (fun k hk => .inl (by cases hk; rfl)), h.lt, hr.2.trans h.c0⟩
theorem Dw.alloc (h : Dw W g P w) (o : Obj) : Dw W g P (w.alloc o) := ⟨h.rd.alloc o, grown_trans h.gr (World.grownBy_alloc w o none) (fun k hk => by cases hk), h.lt, (World.cell?_alloc_lt w o ⟨g, 0, none⟩ h.rd.lt).trans h.c0⟩
theorem Dw.drewN (h : Dw W g P w) (k : Nat) : Dw W g P (w.drewN k) := ⟨h.rd, ⟨h.gr.os, h.gr.tape, h.gr.output, h.gr.size, h.gr.block⟩, h.lt, h.c0⟩
theorem Dw.more (h : Dw W g P w) (hp : P ≤ P') : Dw W g P' w := ⟨h.rd.more hp, h.gr, h.lt, h.c0⟩
theorem Dw.append (h : Dw W g P w) (hown : w.ownsRow W.heap.size e size v n xs) (hg : w.grownBy w' v.ownBlock) : Dw W g P w' := by
  have hr := fun k hk => (hown.lt k hk).1
  exact ⟨h.rd.grown hg (fun k hk => Nat.lt_of_lt_of_le h.lt (hr k hk)), grown_trans h.gr hg (fun k hk => .inr (hr k hk)), h.lt, (World.cell?_of_block (a := ⟨g, 0, none⟩) (hg.block g h.rd.lt (fun e => by have := hr g e.symm; have := h.lt; omega))).trans h.c0⟩
theorem Dw.below {B : Nat} (h : Dw W g P w) (hb : Below B w w') (hB : W.heap.size ≤ B) : Dw W g P w' :=
  ⟨h.rd.below hb (Nat.lt_of_lt_of_le h.lt hB), ⟨hb.os.trans h.gr.os, hb.tape.trans h.gr.tape, hb.output.trans h.gr.output, Nat.le_trans h.gr.size hb.size, fun i hi hn => (hb.block i (Nat.lt_of_lt_of_le hi hB)).trans (h.gr.block i hi hn)⟩, h.lt, (hb.cell (p := ⟨g, 0, none⟩) (Nat.lt_of_lt_of_le h.lt hB)).trans h.c0⟩
theorem Dw.size_ (h : Dw W g P w) : W.heap.size ≤ w.heap.size := h.gr.size
theorem Dw.out {W0 : World} (h : Dw W g P w) (hb : Below W0.heap.size W0 W) (hg : W0.heap.size ≤ g) : Below W0.heap.size W0 w := hb.grown h.gr hb.size fun k hk => by cases hk; exact hg
/-- A row of the drawing function's own stays its own where the reader is read. -/
theorem own_picked {B : Nat} (h : w.ownsRow B e size v n xs) (hg : w.grownBy w' (some g)) (hB : g < B) : w'.ownsRow B e size v n xs :=
  h.kept hg (by
    cases hv : v.ownBlock with
    | none => exact .inl rfl
    | some k => exact .inr (fun e => by cases e; have := (h.lt g hv).1; omega))
/-- A value that owns a row is a slice. -/
theorem own_is_slice (h : w.ownsRow g e size v n xs) : ∃ A c, v = .slice A n c ∧ n ≤ c ∧ c ≤ maxLen := by
  rcases h.2 with ⟨rfl, rfl⟩ | ⟨k, cap, cur, rfl, _, _, h1, h2, _⟩
  · exact ⟨none, 0, rfl, Nat.le_refl _, by unfold maxLen; omega⟩
  · exact ⟨_, _, rfl, h1, h2⟩
end

/-- A draw hands back a list of numbers in a slice of its own. -/
def DrewInts (W : World) (g P : Nat) (T : TypeId) (k : IntKind) (most : Nat) (lo hi : Int) (e : Ending) (w' : World) : Prop :=
  ∃ (A : Option Addr) (n c : Nat) (zs : List Int), e = .returned (.slice A n c) ∧ n ≤ most ∧ n ≤ c ∧ c ≤ maxLen ∧ (∀ z ∈ zs, lo ≤ z ∧ z ≤ hi) ∧ w'.ownsRow W.heap.size T 1 (.slice A n c) n (zs.map (Value.int k)) ∧ Dw W g P w'
/-- .. of a function that opens its own reader. -/
def DrawnInts (W : World) (T : TypeId) (k : IntKind) (most : Nat) (lo hi : Int) (e : Ending) (w' : World) : Prop :=
  ∃ (A : Option Addr) (n c : Nat) (zs : List Int), e = .returned (.slice A n c) ∧ n ≤ most ∧ n ≤ c ∧ c ≤ maxLen ∧ (∀ z ∈ zs, lo ≤ z ∧ z ≤ hi) ∧ w'.ownsRow W.heap.size T 1 (.slice A n c) n (zs.map (Value.int k)) ∧ Below W.heap.size W w'
theorem ints_snoc {zs : List Int} {lo hi z : Int} (h : ∀ z ∈ zs, lo ≤ z ∧ z ≤ hi) (hz : lo ≤ z ∧ z ≤ hi) : ∀ y ∈ zs ++ [z], lo ≤ y ∧ y ≤ hi := by
  intro y hy
  rcases List.mem_append.1 hy with hy | hy
  · exact h y hy
  · simp at hy; subst hy; exact hz
theorem one_int (k : IntKind) (z : Int) : ∀ u ∈ [Value.int k z], u.oneCell' = true := by intro u hu; simp at hu; subst hu; rfl
theorem ints_one (k : IntKind) (l : List Int) : ∀ u ∈ l.map (Value.int k), u.oneCell' = true := by intro u hu; obtain ⟨z, _, rfl⟩ := List.mem_map.1 hu; rfl
theorem own_more {w : World} {B B' : Nat} {e : TypeId} {size n : Nat} {v : Value} {xs : List Value} (h : w.ownsRow B e size v n xs) (hB : B' ≤ B) : w.ownsRow B' e size v n xs := by
  refine ⟨h.1, ?_⟩
  rcases h.2 with h | ⟨g, cap, cur, h1, h2, h3⟩
  · exact .inl h
  · exact .inr ⟨g, cap, cur, h1, Nat.le_trans hB h2, h3⟩
end Go.Proofs.Ytgdcfhifiincaaa
