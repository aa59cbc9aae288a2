/-
  Plain words for memory that all texts of this seat share: a slice that reads as a list, and how the reading is kept. No function of the program.
-/
import Derived.Test.YtgdcfhifiincaaaRows
import Derived.WalkKit
import Derived.ProofKit
import Derived.OpenShut
import Derived.Deep.LoopGhost
import Derived.Deep.Draws
import Derived.Deep.AppendLies
import Derived.Deep.QuietTactic
import Derived.BigQuiet
import Derived.BigGuardPart
import Derived.WalkSpells
import Derived.WalkLawsBesides
import Derived.Lib.Hide
import Derived.Deep.RegionWith
namespace Go.Proofs.Ytgdcfhifiincaaa
open Go.RowKit
set_option linter.unusedVariables false

theorem ret_bool {a b : Bool} (h : a = b) : Ending.returned (.bool a) = .returned (.bool b) := by rw [h]
theorem ret_int {k : IntKind} {a b : Int} (h : a = b) : Ending.returned (.int k a) = .returned (.int k b) := by rw [h]

/-- The slice with address A and n elements of 'size' cells reads as the cells xs; its block lies in lo .. hi-1. -/
def Sl (w : World) (lo hi size : Nat) (A : Option Addr) (n : Nat) (xs : List Value) : Prop :=
  xs.length = n * size ∧ (0 < n → ∃ b off, A = some ⟨b, off, none⟩ ∧ lo ≤ b ∧ b < hi ∧ ∀ j u, xs[j]? = some u → w.cell? ⟨b, off + j, none⟩ = some u)

section
variable {w w' : World} {lo hi lo' hi' size n : Nat} {A : Option Addr} {xs : List Value}
theorem Sl.nil_ : Sl w lo hi size A 0 [] := ⟨by simp, fun h => absurd h (by omega)⟩
theorem Sl.at_ {k : Nat} (h : Sl w lo hi 1 A n xs) (hk : k < n) : ∃ b off u, A = some ⟨b, off, none⟩ ∧ lo ≤ b ∧ b < hi ∧ xs[k]? = some u ∧ w.cell? ⟨b, off + k, none⟩ = some u := by
  obtain ⟨b, off, e, hl, hb, hc⟩ := h.2 (by omega)
  have hl' : k < xs.length := by have := h.1; omega
  exact ⟨b, off, xs[k], e, hl, hb, List.getElem?_eq_getElem hl', hc k _ (List.getElem?_eq_getElem hl')⟩
theorem Sl.keep (h : Sl w lo hi size A n xs) (hk : ∀ b o, lo ≤ b → b < hi → w'.cell? ⟨b, o, none⟩ = w.cell? ⟨b, o, none⟩) : Sl w' lo hi size A n xs :=
  ⟨h.1, fun hn => by
    obtain ⟨b, off, e, hl, hb, hc⟩ := h.2 hn
    exact ⟨b, off, e, hl, hb, fun j u hu => (hk _ _ hl hb).trans (hc j u hu)⟩⟩
theorem Sl.more (h : Sl w lo hi size A n xs) (h1 : lo' ≤ lo) (h2 : hi ≤ hi') : Sl w lo' hi' size A n xs :=
  ⟨h.1, fun hn => by
    obtain ⟨b, off, e, hl, hb, hc⟩ := h.2 hn
    exact ⟨b, off, e, by omega, by omega, hc⟩⟩
theorem Sl.below (h : Sl w lo hi size A n xs) {B : Nat} (hb : Below B w w') (hB : hi ≤ B) : Sl w' lo hi size A n xs :=
  h.keep fun b o _ hb' => hb.cell (p := ⟨b, o, none⟩) (show b < B by omega)
theorem Sl.alloc (h : Sl w lo hi size A n xs) (hB : hi ≤ w.heap.size) (o : Obj) : Sl (w.alloc o) lo hi size A n xs :=
  h.keep fun b i _ hb => World.cell?_alloc_lt w o ⟨b, i, none⟩ (show b < w.heap.size by omega)
theorem Sl.drewN (h : Sl w lo hi size A n xs) (k : Nat) : Sl (w.drewN k) lo hi size A n xs := h
theorem Sl.drew (h : Sl w lo hi size A n xs) : Sl w.drew lo hi size A n xs := h
theorem Sl.setCell (h : Sl w lo hi size A n xs) {p : Addr} (hB : hi ≤ p.block ∨ p.block < lo) (u : Value) : Sl (w.setCell p u) lo hi size A n xs :=
  h.keep fun b o _ hb => World.cell?_setCell_other w p ⟨b, o, none⟩ u (fun e => by subst e; rcases hB with hB | hB <;> (simp at hB; omega))
theorem Sl.grown (h : Sl w lo hi size A n xs) {row : Option Nat} (hg : w.grownBy w' row) (hB : hi ≤ w.heap.size) (hr : ∀ g, row = some g → hi ≤ g ∨ g < lo) : Sl w' lo hi size A n xs :=
  h.keep fun b o _ hb => World.cell?_of_block (a := ⟨b, o, none⟩) (hg.block b (by omega) (fun e => by have := hr _ e.symm; omega))
theorem Sl.of_own {base : Nat} {e : TypeId} {c : Nat} (h : w.ownsRow base e size (.slice A n c) n xs) : Sl w base w.heap.size size A n xs := by
  refine ⟨h.1, fun hn => ?_⟩
  obtain ⟨g, cap, hv, hb, hlt⟩ := h.form hn
  have hA : A = some ⟨g, 0, none⟩ := by injection hv
  subst hA
  refine ⟨g, 0, rfl, hb, hlt, fun j u hu => ?_⟩
  have := h.cells (g := g) rfl j u hu
  have e : (⟨g, 0, none⟩ : Addr).add j = ⟨g, 0 + j, none⟩ := by unfold Addr.add; split <;> simp_all
  rwa [e] at this
theorem Sl.cut (h : Sl w lo hi size A n xs) {k cap : Nat} (hk : k ≤ n) (hc : n ≤ cap) :
    Sl w lo hi size (if cap = k then A else A.map (·.add (k * size))) (n - k) (xs.drop (k * size)) := by
  refine ⟨by rw [List.length_drop, h.1, Nat.sub_mul], fun hn => ?_⟩
  obtain ⟨b, off, rfl, hl, hb, hcell⟩ := h.2 (by omega)
  rw [if_neg (by omega)]
  refine ⟨b, off + k * size, by unfold Option.map Addr.add; split <;> simp_all, hl, hb, fun j u hu => ?_⟩
  have := hcell (k * size + j) u (by rw [← hu, List.getElem?_drop])
  rwa [← Nat.add_assoc] at this
theorem Sl.take (h : Sl w lo hi size A n xs) {k : Nat} (hk : k ≤ n) : Sl w lo hi size A k (xs.take (k * size)) := by
  refine ⟨by rw [List.length_take, h.1]; exact Nat.min_eq_left (Nat.mul_le_mul_right _ hk), fun hn => ?_⟩
  obtain ⟨b, off, e, hl, hb, hc⟩ := h.2 (by omega)
  refine ⟨b, off, e, hl, hb, fun j u hu => hc j u ?_⟩
  rw [List.getElem?_take] at hu
  split at hu
  · exact hu
  · cases hu
end

/-- One number of a slice of numbers: the address, and the cell in the walk's spelling. -/
theorem Sl.num {w : World} {lo hi n : Nat} {A : Option Addr} {k : IntKind} {zs : List Int} (h : Sl w lo hi 1 A n (zs.map (Value.int k))) {i : Nat} (hi' : i < n) :
    ∃ b off, A = some ⟨b, off, none⟩ ∧ lo ≤ b ∧ b < hi ∧ w.cell? ⟨b, off + i, none⟩ = some (.int k (zs[i]?.getD 0)) := by
  obtain ⟨b, off, u, hA, h1, h2, hx, hc⟩ := h.at_ hi'
  refine ⟨b, off, hA, h1, h2, ?_⟩
  rw [hc]
  have hl : i < zs.length := by have := h.1; simp at this; omega
  simp [List.getElem?_eq_getElem hl] at hx ⊢
  exact hx.symm
theorem Sl.len {w : World} {lo hi n : Nat} {A : Option Addr} {k : IntKind} {zs : List Int} (h : Sl w lo hi 1 A n (zs.map (Value.int k))) : zs.length = n := by
  have := h.1; simpa using this

/-- Whatever lies below the heap's old size reads as it did: cells and marks, for the walk. -/
theorem bcell {W w1 : World} (hb : Below W.heap.size W w1) : (∀ b o, b < W.heap.size → w1.cell? ⟨b, o, none⟩ = W.cell? ⟨b, o, none⟩) ∧ (∀ b o, b < W.heap.size → w1.frozen? ⟨b, o, none⟩ = W.frozen? ⟨b, o, none⟩) :=
  ⟨fun b o h => hb.cell (p := ⟨b, o, none⟩) h, fun b o h => hb.frozen (p := ⟨b, o, none⟩) h⟩
theorem below_drewN {B : Nat} {a w : World} (h : Below B a w) (n : Nat) : Below B a (w.drewN n) := ⟨h.os, h.tape, h.output, h.size, h.block⟩
theorem take_succ_getD (zs : List Int) (k : Nat) (h : k < zs.length) : zs.take (k + 1) = zs.take k ++ [zs[k]?.getD 0] := by
  rw [List.take_succ_eq_append_getElem h]; simp [List.getElem?_eq_getElem h]

/-- Block g is just the cells cs of element type t, none frozen. -/
def Blk (w : World) (g : Nat) (t : TypeId) (cs : Array Value) : Prop := w.heap[g]? = some (.cells cs t (0, 0))
section
variable {w w' : World} {g : Nat} {t : TypeId} {cs : Array Value}
theorem Blk.lt (h : Blk w g t cs) : g < w.heap.size := by
  rcases Nat.lt_or_ge g w.heap.size with hlt | hge
  · exact hlt
  · unfold Blk at h; rw [Array.getElem?_eq_none hge] at h; cases h
theorem Blk.cell (h : Blk w g t cs) (i : Nat) : w.cell? ⟨g, i, none⟩ = cs[i]? := cell_of_row w g i cs t (0, 0) h
theorem Blk.frozen (h : Blk w g t cs) (i : Nat) : w.frozen? ⟨g, i, none⟩ = false := by
  unfold Blk at h
  simp [World.frozen?, h]
theorem Blk.two {a b : Value} (h : Blk w g t #[a, b]) : w.cell? ⟨g, 0, none⟩ = some a ∧ w.cell? ⟨g, 1, none⟩ = some b ∧ (∀ i, w.frozen? ⟨g, i, none⟩ = false) :=
  ⟨by rw [h.cell]; rfl, by rw [h.cell]; rfl, h.frozen⟩
theorem Blk.new (w : World) (t : TypeId) (cs : Array Value) : Blk (w.alloc (.cells cs t)) w.heap.size t cs := heap_alloc_new w _
theorem Blk.four {a b c d : Value} (h : Blk w g t #[a, b, c, d]) : w.cell? ⟨g, 0, none⟩ = some a ∧ w.cell? ⟨g, 1, none⟩ = some b ∧ w.cell? ⟨g, 2, none⟩ = some c ∧ w.cell? ⟨g, 3, none⟩ = some d ∧ (∀ i, w.frozen? ⟨g, i, none⟩ = false) :=
  ⟨by rw [h.cell]; rfl, by rw [h.cell]; rfl, by rw [h.cell]; rfl, by rw [h.cell]; rfl, h.frozen⟩
theorem Blk.of_made {o : Array Value} (hb : Below ((w.alloc (.cells o t)).drew).heap.size ((w.alloc (.cells o t)).drew) w') : Blk w' w.heap.size t o :=
  (hb.block w.heap.size (by show w.heap.size < (w.alloc (.cells o t)).heap.size; simp)).trans (heap_alloc_new w _)
theorem Blk.drew (h : Blk w g t cs) : Blk w.drew g t cs := h
theorem Blk.drewN (h : Blk w g t cs) (n : Nat) : Blk (w.drewN n) g t cs := h
theorem Blk.alloc (h : Blk w g t cs) (o : Obj) : Blk (w.alloc o) g t cs := (Below.heap_alloc w o g h.lt).trans h
theorem Blk.set_ (h : Blk w g t cs) (i : Nat) (u : Value) : Blk (w.setCell ⟨g, i, none⟩ u) g t (cs.setIfInBounds i u) := by
  unfold Blk at h ⊢
  simp [World.setCell, Array.getElem?_modify, h]
theorem Blk.far (h : Blk w g t cs) {p : Addr} (hp : g ≠ p.block) (u : Value) : Blk (w.setCell p u) g t cs := (Below.heap_setCell w p u g hp).trans h
theorem Blk.below {B : Nat} (h : Blk w g t cs) (hb : Below B w w') (hg : g < B) : Blk w' g t cs := (hb.block g hg).trans h
theorem Blk.grown {row : Option Nat} (h : Blk w g t cs) (hb : w.grownBy w' row) (hg : some g ≠ row) : Blk w' g t cs := (hb.block g h.lt hg).trans h
end

/-- All numbers are bytes. -/
def AllByte (zs : List Int) : Prop := ∀ z ∈ zs, 0 ≤ z ∧ z ≤ 255
theorem AllByte.take {zs : List Int} (h : AllByte zs) (k : Nat) : AllByte (zs.take k) := fun z hz => h z (List.mem_of_mem_take hz)
theorem AllByte.at_ {zs : List Int} (h : AllByte zs) (k : Nat) : 0 ≤ zs[k]?.getD 0 ∧ zs[k]?.getD 0 ≤ 255 := by
  by_cases hk : k < zs.length
  · rw [List.getElem?_eq_getElem hk]; exact h _ (List.getElem_mem hk)
  · rw [List.getElem?_eq_none (by omega)]; simp
theorem AllByte.of_wf {zs : List Int} (h : ∀ z ∈ zs, (Lit.int .u8 z).wf = true) : AllByte zs := fun z hz => bounds_u8 (h z hz)
end Go.Proofs.Ytgdcfhifiincaaa
