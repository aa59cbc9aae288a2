/-
  The memory of a slot table under way: the table, the places, the hosts and their orders, each in blocks of its own.
-/
import Derived.Test.YtfobcggcilbgbaaSlotL
namespace Go.Proofs.Ytfobcggcilbgbaa
open Go.RowKit
set_option linter.unusedVariables false

theorem wp_genS {P : Program} {c : Code} {Q : Exit → Act → World → Prop} {a : Act} {w : World} (F : World → Prop) (hF : F w) (h : ∀ w', F w' → c.wp P Q a w') : c.wp P Q a w := h w hF
theorem grown_step {W1 wr w' : World} {g0 : Nat} {row : Option Nat} (h : W1.grownBy wr (some g0)) (hg : wr.grownBy w' row) (hrow : ∀ g, row = some g → g = g0 ∨ W1.heap.size ≤ g) : W1.grownBy w' (some g0) :=
  ⟨hg.os.trans h.os, hg.tape.trans h.tape, hg.output.trans h.output, Nat.le_trans h.size hg.size, fun i hi hne => (hg.block i (Nat.lt_of_lt_of_le hi h.size) (fun e => by
    rcases hrow i e.symm with h' | h'
    · exact hne (by rw [h'])
    · omega)).trans (h.block i hi hne)⟩
/-- The orders of the hosts: row gr holds them, blocks between g0 and S1. -/
def OrdOk (wr : World) (gr g0 S1 : Nat) (us : List H3) (k : Nat) : Prop := ∀ j, j < k → ∃ b c, wr.cell? ⟨gr, j, none⟩ = some (.slice (some ⟨b, 0, none⟩) 31 c) ∧ 31 ≤ c ∧ c ≤ maxLen ∧ g0 < b ∧ b < S1 ∧ ∀ i, i < 31 → wr.cell? ⟨b, i, none⟩ = some (.int .i64 (slotK (hAt us j).1 i))
/-- Places: behind them nothing that is free was passed. -/
def PlOk (us : List H3) (T : List Int) (P : List Nat) : Prop := P.length = us.length ∧ ∀ j, j < us.length → P[j]?.getD 0 ≤ 31 ∧ ∀ i, i < P[j]?.getD 0 → freeB T (slotK (hAt us j).1 i) = false
def natV (P : List Nat) : List Value := P.map fun (p : Nat) => Value.int .i64 (p : Int)
structure SSt (B g0 S1 : Nat) (w : World) (go co gr rc gp : Nat) (A2 : Option Addr) (us : List H3) (m : Nat) (T : List Int) (P : List Nat) (wr : World) : Prop where
  tab : wr.ownsRow B 3 1 (.slice (some ⟨go, 0, none⟩) 31 co) 31 (T.map (Value.int .i64))
  plc : wr.ownsRow B 3 1 (.slice (some ⟨gp, 0, none⟩) m m) m (natV P)
  hst : Sl wr (g0 + 1) S1 3 A2 m (hostsV us)
  ord : OrdOk wr gr g0 S1 us m
  gr1 : g0 < gr ∧ gr < S1
  go1 : go ≤ g0 ∨ S1 ≤ go
  gp1 : S1 ≤ gp
  ne : go ≠ gp
  bel : Below B w wr
section
variable {B g0 S1 : Nat} {w wr : World} {go co gr rc gp : Nat} {A2 : Option Addr} {us : List H3} {m : Nat} {T : List Int} {P : List Nat}
theorem OrdOk.keep {w' : World} {k : Nat} (h : OrdOk wr gr g0 S1 us k) (hg : g0 < gr ∧ gr < S1) (hk : ∀ b o, g0 < b → b < S1 → w'.cell? ⟨b, o, none⟩ = wr.cell? ⟨b, o, none⟩) : OrdOk w' gr g0 S1 us k := fun j hj => by
  obtain ⟨b, c, h1, h2, h2', h3, h4, h5⟩ := h j hj
  exact ⟨b, c, (hk _ _ hg.1 hg.2).trans h1, h2, h2', h3, h4, fun i hi => (hk _ _ h3 h4).trans (h5 i hi)⟩
theorem SSt.drew (h : SSt B g0 S1 w go co gr rc gp A2 us m T P wr) : SSt B g0 S1 w go co gr rc gp A2 us m T P wr.drew := ⟨h.tab, h.plc, h.hst, h.ord, h.gr1, h.go1, h.gp1, h.ne, h.bel.drew⟩
theorem SSt.drewN (h : SSt B g0 S1 w go co gr rc gp A2 us m T P wr) (n : Nat) : SSt B g0 S1 w go co gr rc gp A2 us m T P (wr.drewN n) := ⟨h.tab, h.plc, h.hst, h.ord, h.gr1, h.go1, h.gp1, h.ne, below_drewN h.bel n⟩
theorem SSt.far (h : SSt B g0 S1 w go co gr rc gp A2 us m T P wr) {g o : Nat} (hg : g ≤ g0 ∨ S1 ≤ g) (u : Value) : ∀ b o', g0 < b → b < S1 → (wr.setCell ⟨g, o, none⟩ u).cell? ⟨b, o', none⟩ = wr.cell? ⟨b, o', none⟩ := fun b o' h1 h2 =>
  World.cell?_setCell_other wr ⟨g, o, none⟩ ⟨b, o', none⟩ u (fun e => by injection e with e; omega)
theorem SSt.setTab (h : SSt B g0 S1 w go co gr rc gp A2 us m T P wr) (s : Nat) (z : Int) : SSt B g0 S1 w go co gr rc gp A2 us m (T.set s z) P (wr.setCell ⟨go, s, none⟩ (.int .i64 z)) where
  tab := by have := (h.tab.stored s (.int .i64 z)).1; rwa [← List.map_set] at this
  plc := h.plc.kept (h.tab.stored s (.int .i64 z)).2 (.inr (by simp [Value.ownBlock]; exact fun e => h.ne e.symm))
  hst := h.hst.keep fun b o h1 h2 => h.far (o := s) h.go1 (.int .i64 z) b o (by omega) h2
  ord := h.ord.keep h.gr1 fun b o h1 h2 => h.far (o := s) h.go1 (.int .i64 z) b o h1 h2
  gr1 := h.gr1
  go1 := h.go1
  gp1 := h.gp1
  ne := h.ne
  bel := h.bel.setCell (p := ⟨go, s, none⟩) (h.tab.lt go rfl).1 _
theorem SSt.setPlc (h : SSt B g0 S1 w go co gr rc gp A2 us m T P wr) (j p : Nat) : SSt B g0 S1 w go co gr rc gp A2 us m T (P.set j p) (wr.setCell ⟨gp, j, none⟩ (.int .i64 (p : Int))) where
  tab := h.tab.kept (h.plc.stored j (.int .i64 (p : Int))).2 (.inr (by simp [Value.ownBlock]; exact h.ne))
  plc := by have := (h.plc.stored j (.int .i64 (p : Int))).1; unfold natV at *; rwa [← List.map_set (f := fun p : Nat => Value.int .i64 (p : Int))] at this
  hst := h.hst.keep fun b o h1 h2 => h.far (o := j) (.inr h.gp1) (.int .i64 (p : Int)) b o (by omega) h2
  ord := h.ord.keep h.gr1 fun b o h1 h2 => h.far (o := j) (.inr h.gp1) (.int .i64 (p : Int)) b o h1 h2
  gr1 := h.gr1
  go1 := h.go1
  gp1 := h.gp1
  ne := h.ne
  bel := h.bel.setCell (p := ⟨gp, j, none⟩) (h.plc.lt gp rfl).1 _
theorem SSt.tabAt (h : SSt B g0 S1 w go co gr rc gp A2 us m T P wr) {s : Nat} (hs : s < 31) : wr.cell? ⟨go, s, none⟩ = some (.int .i64 (sltAt T (s : Int))) := by
  have hl : T.length = 31 := by have := h.tab.1; simpa using this
  rw [h.tab.cellAt s (by omega)]
  unfold sltAt
  simp [List.getElem?_eq_getElem (show s < T.length by omega)]
theorem SSt.plcAt (h : SSt B g0 S1 w go co gr rc gp A2 us m T P wr) {j : Nat} (hj : j < m) : wr.cell? ⟨gp, j, none⟩ = some (.int .i64 ((P[j]?.getD 0 : Nat) : Int)) := by
  have hl : P.length = m := by have := h.plc.1; simpa [natV] using this
  rw [h.plc.cellAt j (by omega)]
  unfold natV
  simp [List.getElem?_eq_getElem (show j < P.length by omega)]
theorem SSt.tabOk (h : SSt B g0 S1 w go co gr rc gp A2 us m T P wr) : TabOk T := by
  have := h.tab.1; unfold TabOk; simpa using this
end
/-- A place goes on over a slot that is taken. -/
theorem PlOk.next {us : List H3} {T : List Int} {P : List Nat} (h : PlOk us T P) {j p : Nat} (hj : j < us.length) (hp : P[j]?.getD 0 = p) (hp31 : p < 31) (ht : freeB T (slotK (hAt us j).1 p) = false) : PlOk us T (P.set j (p + 1)) := by
  refine ⟨by rw [List.length_set]; exact h.1, fun i hi => ?_⟩
  rw [List.getElem?_set]
  by_cases e : j = i
  · subst e
    have hl : j < P.length := by rw [h.1]; exact hj
    rw [if_pos rfl, if_pos hl, Option.getD_some]
    refine ⟨by omega, fun x hx => ?_⟩
    rcases Nat.lt_or_ge x p with h1 | h1
    · exact (h.2 j hj).2 x (by omega)
    · obtain rfl : x = p := by omega
      exact ht
  · rw [if_neg e]
    exact h.2 i hi
theorem PlOk.to {us : List H3} {T : List Int} {P : List Nat} (h : PlOk us T P) {j p : Nat} (hj : j < us.length) (hp : p ≤ 31) (ht : ∀ i, i < p → freeB T (slotK (hAt us j).1 i) = false) : PlOk us T (P.set j p) := by
  refine ⟨by rw [List.length_set]; exact h.1, fun i hi => ?_⟩
  rw [List.getElem?_set]
  by_cases e : j = i
  · subst e
    have hl : j < P.length := by rw [h.1]; exact hj
    rw [if_pos rfl, if_pos hl, Option.getD_some]
    exact ⟨hp, ht⟩
  · rw [if_neg e]
    exact h.2 i hi
theorem PlOk.set {us : List H3} {T : List Int} {P : List Nat} (h : PlOk us T P) (s : Nat) {n : Int} (hn : 0 ≤ n) : PlOk us (T.set s n) P := ⟨h.1, fun j hj => ⟨(h.2 j hj).1, fun i hi => set_taken hn ((h.2 j hj).2 i hi)⟩⟩
theorem PlOk.zero (us : List H3) (T : List Int) : PlOk us T (List.replicate us.length 0) := by
  refine ⟨by simp, fun j hj => ?_⟩
  have : (List.replicate us.length 0)[j]?.getD 0 = 0 := by simp [hj]
  rw [this]
  exact ⟨by omega, fun i hi => absurd hi (by omega)⟩
end Go.Proofs.Ytfobcggcilbgbaa
