/-
  The reader of the drawing functions: l20Open makes it, pick and odd read on. What a draw changes: the reader's block alone, and new blocks.
-/
import Derived.Test.YtgdcfhifiincaaaIn
namespace Go.Proofs.Ytgdcfhifiincaaa
open Go.RowKit
set_option linter.unusedVariables false

/-- The reader lies in block g: bytes of older blocks, and how many were picked (at most P). -/
def Rd (w : World) (g P : Nat) : Prop :=
  ∃ (A : Option Addr) (n c p : Nat) (zs : List Int), n ≤ 2000 ∧ n ≤ c ∧ c ≤ 9223372036854775807 ∧ p ≤ P ∧ AllByte zs ∧ Sl w 0 g 1 A n (zs.map (Value.int .u8)) ∧ Blk w g 85 #[.slice A n c, .int .i64 p]

theorem Rd.lt {w : World} {g P : Nat} (h : Rd w g P) : g < w.heap.size := by
  obtain ⟨A, n, c, p, zs, _, _, _, _, _, _, hb⟩ := h
  exact hb.lt
theorem Rd.more {w : World} {g P P' : Nat} (h : Rd w g P) (hp : P ≤ P') : Rd w g P' := by
  obtain ⟨A, n, c, p, zs, h1, h2, h3, h4, h5, h6, hb⟩ := h
  exact ⟨A, n, c, p, zs, h1, h2, h3, by omega, h5, h6, hb⟩
theorem Rd.grown {w w' : World} {g P : Nat} {row : Option Nat} (h : Rd w g P) (hg : w.grownBy w' row) (hr : ∀ k, row = some k → g < k) : Rd w' g P := by
  obtain ⟨A, n, c, p, zs, h1, h2, h3, h4, h5, h6, hb⟩ := h
  exact ⟨A, n, c, p, zs, h1, h2, h3, h4, h5, h6.grown hg (Nat.le_of_lt hb.lt) (fun k hk => .inl (Nat.le_of_lt (hr k hk))), hb.grown hg (fun e => by have := hr _ e.symm; omega)⟩
theorem Rd.below {w w' : World} {g P B : Nat} (h : Rd w g P) (hb : Below B w w') (hB : g < B) : Rd w' g P := by
  obtain ⟨A, n, c, p, zs, h1, h2, h3, h4, h5, h6, hk⟩ := h
  exact ⟨A, n, c, p, zs, h1, h2, h3, h4, h5, h6.below hb (Nat.le_of_lt hB), hk.below hb hB⟩
theorem Rd.alloc {w : World} {g P : Nat} (h : Rd w g P) (o : Obj) : Rd (w.alloc o) g P := h.grown (World.grownBy_alloc w o none) (fun k hk => by cases hk)

/-- The reader's own slice is as it was. -/
def RdC (w w' : World) (g P : Nat) : Prop := Rd w' g P ∧ w'.cell? ⟨g, 0, none⟩ = w.cell? ⟨g, 0, none⟩
/-- What a draw of one number says. -/
def Picked (w : World) (g P : Nat) (lo hi : Int) (e : Ending) (w' : World) : Prop :=
  ∃ v : Int, lo ≤ v ∧ v ≤ hi ∧ e = .returned (.int .i64 v) ∧ RdC w w' g P ∧ w.grownBy w' (some g)

/-- What the opening says. -/
def Opened (w : World) (e : Ending) (w' : World) : Prop :=
  ∃ g : Nat, w.heap.size ≤ g ∧ e = .returned (.pointer (some ⟨g, 0, none⟩)) ∧ Rd w' g 0 ∧ Below w.heap.size w w'

/-- .. and where the reader's bytes lie. -/
def OpenedX (L : Nat) (w : World) (e : Ending) (w' : World) : Prop :=
  ∃ g : Nat, w.heap.size ≤ g ∧ e = .returned (.pointer (some ⟨g, 0, none⟩)) ∧ Rd w' g 0 ∧ Below w.heap.size w w' ∧
    ∃ (A : Option Addr) (n c : Nat) (zs : List Int), AllByte zs ∧ w'.cell? ⟨g, 0, none⟩ = some (.slice A n c) ∧ Sl w' 0 L 1 A n (zs.map (Value.int .u8))
theorem OpenedX.opened {L : Nat} {w w' : World} {e : Ending} (h : OpenedX L w e w') : Opened w e w' := by
  obtain ⟨g, h1, h2, h3, h4, _⟩ := h
  exact ⟨g, h1, h2, h3, h4⟩
theorem Opened.mk {w w' : World} {A : Option Addr} {n c : Nat} {zs : List Int} {L : Nat} (hL : L ≤ w.heap.size) (hn : n ≤ 2000) (hnc : n ≤ c) (hc : c ≤ 9223372036854775807) (hz : AllByte zs) (hs : Sl w 0 L 1 A n (zs.map (Value.int .u8)))
    (h : w.alloc (.cells #[.slice A n c, .int .i64 0] 85) = w') : OpenedX L w (.returned (.pointer (some ⟨w.heap.size, 0, none⟩))) w' := by
  subst h
  exact ⟨w.heap.size, Nat.le_refl _, rfl, ⟨A, n, c, 0, zs, hn, hnc, hc, Nat.le_refl _, hz, (hs.more (Nat.le_refl _) hL).alloc (Nat.le_refl _) _, Blk.new _ _ _⟩, (Below.refl _ _).alloc (Nat.le_refl _) _, A, n, c, zs, hz, (Blk.new w 85 #[.slice A n c, .int .i64 0]).two.1, hs.alloc hL _⟩

theorem open_anyX (L : Nat) (A : Option Addr) (n c : Nat) (zs : List Int) (w : World) (hL : L ≤ w.heap.size) (hs : Sl w 0 L 1 A n (zs.map (Value.int .u8))) (hnc : n ≤ c) (hc : c ≤ 9223372036854775807) (hz : AllByte zs) :
    Calls Try.prog 42 #[.slice A n c] w (OpenedX L w) := by
  by_cases h : 2000 < n
  · have h2 : (2000 : Int) < (n : Int) := by omega
    go_enter Try.func42, Try.ntmps42
    go_wp2
    go_ret
    refine Opened.mk hL (A := A) (n := 2000) (c := c) (zs := zs.take 2000) (Nat.le_refl _) (by omega) hc (fun z hzz => hz z (List.mem_of_mem_take hzz)) ?_ rfl
    have := hs.take (k := 2000) (by omega)
    rwa [← List.map_take] at this
  · have h2 : ¬ (2000 : Int) < (n : Int) := by omega
    go_enter Try.func42, Try.ntmps42
    go_wp2
    go_ret
    exact Opened.mk hL (by omega) hnc hc hz hs rfl
theorem open_any (A : Option Addr) (n c : Nat) (zs : List Int) (w : World) (hs : Sl w 0 w.heap.size 1 A n (zs.map (Value.int .u8))) (hnc : n ≤ c) (hc : c ≤ 9223372036854775807) (hz : AllByte zs) :
    Calls Try.prog 42 #[.slice A n c] w (Opened w) := (open_anyX w.heap.size A n c zs w (Nat.le_refl _) hs hnc hc hz).mono fun _ _ h => h.opened
end Go.Proofs.Ytgdcfhifiincaaa
