/-
  markIntS of a row nil or not, heldIntS.
-/
import Derived.Test.YtgdcfhifiincaaaMark
namespace Go.Proofs.Ytgdcfhifiincaaa
open Go.RowKit
set_option linter.unusedVariables false
theorem markIntS_nil (k0 : Int) (w : World) :
    Calls Try.prog 18 #[.slice none 0 0, .int .i64 k0] w fun e w' => e = .returned (.int .i64 k0) ∧ w = w' := by
  go_enter Try.func18, Try.ntmps18
  go_wp2
  go_loop [1, 5] (fun q i => i = .int .i64 0 ∧ q = .int .i64 k0) (fun _ _ => 0)
  case atStart => exact ⟨rfl, rfl⟩
  case round =>
    obtain ⟨rfl, rfl⟩ := hrel
    go_wp2
    go_ret
    exact ⟨rfl, rfl⟩
theorem markIntS_own (A : Option Addr) (n c : Nat) (k0 : Int) (xs : List Value) (base : Nat) (w : World) (hown : w.ownsRow base 3 1 (.slice A n c) n xs) (hn : n ≤ 1048576) (h0 : 0 ≤ k0) (h1 : k0 ≤ 100000000) :
    Calls Try.prog 18 #[.slice A n c, .int .i64 k0] w fun e w' => e = .returned (.int .i64 (k0 + n)) ∧ (∃ ys, w'.ownsRow base 3 1 (.slice A n c) n ys ∧ Marked k0 n ys) ∧ w.grownBy w' (Value.ownBlock (.slice A n c)) := by
  have hh := hown
  rcases hown.2 with ⟨h, rfl⟩ | ⟨g, cap, cur, h, _⟩
  · injection h with e1 e2 e3
    subst e1 e3
    refine (markIntS_nil k0 w).mono ?_
    rintro e w' ⟨rfl, rfl⟩
    exact ⟨by simp, ⟨xs, hh, Marked.zero _ _⟩, World.grownBy.refl _ _⟩
  · injection h with e1 e2 e3
    subst e1 e3
    exact (markIntS_any g n c k0 xs base w hh hn h0 h1).mono fun e w' ⟨h1, h2, h3⟩ => ⟨h1, h2, h3⟩
theorem heldIntS_any (A : Option Addr) (n c : Nat) (k0 : Int) (xs : List Value) (w : World) {lo hi : Nat} (hS : Sl w lo hi 1 A n xs) (hm : Marked k0 n xs) (hn : n ≤ 1048576) (h0 : 0 ≤ k0) (h1 : k0 ≤ 100000000) :
    Calls Try.prog 19 #[.slice A n c, .int .i64 k0] w fun e w' => e = .returned (.int .i64 (k0 + n)) ∧ w = w' := by
  go_enter Try.func19, Try.ntmps19
  go_wp2
  go_loop [1, 5] (fun q i => ∃ k : Nat, k ≤ n ∧ i = .int .i64 k ∧ q = .int .i64 (k0 + k)) (fun _ i => n - (intOf i).toNat)
  case atStart => exact ⟨0, Nat.zero_le _, rfl, by go_num⟩
  case round =>
    obtain ⟨k, hk, rfl, rfl⟩ := hrel
    by_cases hlt : k < n
    · obtain ⟨b, off, rfl, _, _, hc⟩ := hS.2 (by omega)
      have c0 := hc _ _ (hm k hlt)
      clear hc
      go_wp2
      go_round
      case rel => exact ⟨k + 1, by omega, by go_num, by go_num⟩
      case measure => simp [intOf]; omega
    · obtain rfl : n = k := by omega
      go_wp2
      go_ret
      exact ⟨rfl, rfl⟩
end Go.Proofs.Ytgdcfhifiincaaa
