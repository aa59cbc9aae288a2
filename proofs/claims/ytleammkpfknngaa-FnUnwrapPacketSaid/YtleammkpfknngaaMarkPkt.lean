/-
  markPacket; markByteS of a row of the call's own, nil or not.
-/
import Derived.Test.YtleammkpfknngaaMarkByte
namespace Go.Proofs.Ytleammkpfknngaa
open Go.RowKit
set_option linter.unusedVariables false

theorem only_of_alloc {w w' : World} {o : Obj} {row : Option Nat} (h : (w.alloc o).grownBy w' row) : w.grownBy w' row :=
  ⟨h.os, h.tape, h.output, Nat.le_trans (by simp) h.size, fun i hi hn => (h.block i (by simp; omega) hn).trans (Below.heap_alloc w o i hi)⟩

theorem markByteS_nil (k0 : Int) (w : World) :
    Calls Try.prog 23 #[.slice none 0 0, .int .i64 k0] w fun e w' => e = .returned (.int .i64 k0) ∧ w = w' := by
  go_enter Try.func23, Try.ntmps23
  go_wp2
  go_loop [1, 5] (fun q i => i = .int .i64 0 ∧ q = .int .i64 k0) (fun _ _ => 0)
  case atStart => exact ⟨rfl, rfl⟩
  case round =>
    obtain ⟨rfl, rfl⟩ := hrel
    go_wp2
    go_ret
    exact ⟨rfl, rfl⟩

theorem markByteS_own (A : Option Addr) (n c : Nat) (k0 : Int) (xs : List Value) (base : Nat) (w : World) (hown : w.ownsRow base 5 1 (.slice A n c) n xs) (hn : n ≤ 1048576) (h0 : 0 ≤ k0) (h1 : k0 ≤ 100000000) :
    Calls Try.prog 23 #[.slice A n c, .int .i64 k0] w fun e w' => e = .returned (.int .i64 (k0 + n)) ∧ (∃ ys, w'.ownsRow base 5 1 (.slice A n c) n ys ∧ MarkedB k0 n ys) ∧ w.grownBy w' (Value.ownBlock (.slice A n c)) := by
  rcases hown.2 with ⟨hv, hx⟩ | ⟨g, cap, cur, hv, _⟩
  · injection hv with h1 h2 h3
    subst h1 h2 h3
    refine (markByteS_nil k0 w).mono ?_
    rintro e w' ⟨rfl, rfl⟩
    refine ⟨by simp, ⟨xs, hown, fun j hj => absurd hj (by omega)⟩, World.grownBy.refl _ _⟩
  · injection hv with h1' h2 h3
    subst h1'
    refine (markByteS_any g n c k0 xs base w hown hn h0 h1).mono ?_
    rintro e w' ⟨rfl, ⟨ys, ho, hm⟩, hg⟩
    exact ⟨rfl, ⟨ys, ho, hm⟩, hg⟩

theorem markPacket_own (f t k l : Int) (A : Option Addr) (n c : Nat) (k0 : Int) (xs : List Value) (base : Nat) (w : World) (hown : w.ownsRow base 5 1 (.slice A n c) n xs) (hn : n ≤ 1048576) (h0 : 0 ≤ k0) (h1 : k0 ≤ 100000000) :
    Calls Try.prog 22 #[.agg #[.int .i64 f, .int .i64 t, .int .i64 k, .int .i64 l, .slice A n c], .int .i64 k0] w fun e w' => e = .returned (.int .i64 (k0 + n)) ∧ (∃ ys, w'.ownsRow base 5 1 (.slice A n c) n ys ∧ MarkedB k0 n ys) ∧ w.grownBy w' (Value.ownBlock (.slice A n c)) := by
  go_enter Try.func22, Try.ntmps22
  go_wp2_with fail
  refine (markByteS_own A n c k0 xs base _ (hown.alloc _) hn h0 h1).mono ?_
  rintro e w1 ⟨rfl, hy, hg⟩
  go_wp2_with fail
  go_ret
  exact ⟨rfl, hy, only_of_alloc hg⟩
end Go.Proofs.Ytleammkpfknngaa
