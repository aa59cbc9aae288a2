/-
  Draws that end in numbers alone: DrawStayOf, DrawStreamStep.
-/
import Derived.Test.YtahpnlnplngafaaPick
import Derived.Test.YtahpnlnplngafaaStreamA
namespace Go.Proofs.Ytahpnlnplngafaa
open Go.RowKit
set_option linter.unusedVariables false

theorem below_picked {W w w' : World} {g : Nat} (hb : Below W.heap.size W w) (hg : w.grownBy w' (some g)) (h : W.heap.size ≤ g) : Below W.heap.size W w' :=
  hb.grown hg hb.size fun k hk => by cases hk; exact h

def DrawnInt (w : World) (lo hi : Int) (e : Ending) (w' : World) : Prop := ∃ v : Int, lo ≤ v ∧ v ≤ hi ∧ e = .returned (.int .i64 v) ∧ Below w.heap.size w w'
def DrawnInt2 (w : World) (lo hi lo' hi' : Int) (e : Ending) (w' : World) : Prop := ∃ v u : Int, lo ≤ v ∧ v ≤ hi ∧ lo' ≤ u ∧ u ≤ hi' ∧ e = .returned (.tuple #[.int .i64 v, .int .i64 u]) ∧ Below w.heap.size w w'

section
variable (A : Option Addr) (n c : Nat) (zs : List Int) (w : World) (hs : Sl w 0 w.heap.size 1 A n (zs.map (Value.int .u8))) (hnc : n ≤ c) (hc : c ≤ 9223372036854775807) (hz : AllByte zs)
include hs hnc hc hz

theorem drawStayOf_any : Calls Try.prog 22 #[.slice A n c] w (DrawnInt w (-1) 4) := by
  go_enter Try.func22, Try.ntmps22
  go_wp2_with fail
  refine (open_any _ _ _ zs _ hs hnc hc hz).mono ?_
  rintro e w1 ⟨g, hg, rfl, hr, hb⟩
  go_wp2_with fail
  refine (pick_any _ _ _ _ hr (by omega) (by omega) (by omega)).mono ?_
  rintro e w2 ⟨v, hv0, hv1, rfl, hr2, hg2⟩
  go_wp2_with fail
  go_ret
  exact ⟨v - 1, by omega, by omega, rfl, below_picked hb hg2 hg⟩
theorem drawStreamStep_any : Calls Try.prog 21 #[.slice A n c] w (DrawnInt2 w (-1) 4 0 5) := by
  go_enter Try.func21, Try.ntmps21
  go_wp2_with fail
  refine (open_any _ _ _ zs _ hs hnc hc hz).mono ?_
  rintro e w1 ⟨g, hg, rfl, hr, hb⟩
  go_wp2_with fail
  refine (pick_any _ _ _ _ hr (by omega) (by omega) (by omega)).mono ?_
  rintro e w2 ⟨v, hv0, hv1, rfl, hr2, hg2⟩
  go_wp2_with fail
  refine (pick_any _ _ _ _ hr2 (by omega) (by omega) (by omega)).mono ?_
  rintro e w3 ⟨u, hu0, hu1, rfl, hr3, hg3⟩
  go_wp2_with fail
  go_ret2
  exact ⟨v - 1, u, by omega, by omega, by omega, by omega, rfl, below_picked (below_picked hb hg2 hg) hg3 hg⟩
end
end Go.Proofs.Ytahpnlnplngafaa
