/-
  markIntS; markHostS of a row of the call's own, nil or not.
-/
import Derived.Test.YtgdcfhifiincaaaHost1
import Derived.Test.YtgdcfhifiincaaaCopyInt
namespace Go.Proofs.Ytgdcfhifiincaaa
open Go.RowKit
set_option linter.unusedVariables false

theorem markIntS_any (g n c : Nat) (k0 : Int) (xs : List Value) (base : Nat) (w : World) (hown : w.ownsRow base 3 1 (.slice (some ⟨g, 0, none⟩) n c) n xs) (hn : n ≤ 1048576) (h0 : 0 ≤ k0) (h1 : k0 ≤ 100000000) :
    Calls Try.prog 18 #[.slice (some ⟨g, 0, none⟩) n c, .int .i64 k0] w fun e w' => e = .returned (.int .i64 (k0 + n)) ∧ (∃ ys, w'.ownsRow base 3 1 (.slice (some ⟨g, 0, none⟩) n c) n ys ∧ Marked k0 n ys) ∧ w.grownBy w' (some g) := by
  go_enter Try.func18, Try.ntmps18
  go_wp2
  go_loopw [1, 5] (fun q i wr => ∃ (k : Nat) (ys : List Value), k ≤ n ∧ i = .int .i64 k ∧ q = .int .i64 (k0 + k) ∧ wr.ownsRow base 3 1 (.slice (some ⟨g, 0, none⟩) n c) n ys ∧ Marked k0 k ys ∧ w.grownBy wr (some g)) (fun _ i _ => n - (intOf i).toNat)
  case atStart => exact ⟨0, xs, Nat.zero_le _, rfl, by go_num, hown, Marked.zero _ _, World.grownBy.refl _ _⟩
  case round =>
    obtain ⟨k, ys, hk, rfl, rfl, ho, hm, hg⟩ := hrel
    have hyl : ys.length = n := by have := ho.1; omega
    by_cases hlt : k < n
    · obtain ⟨u0, e0⟩ : ∃ u, ys[k]? = some u := ⟨_, List.getElem?_eq_getElem (by omega)⟩
      have d0 := (ho.cellAt k (by omega)).trans e0
      have df := ho.frozenAt
      go_wp2
      have o1 := (ho.stored k (.int .i64 (k0 + (k : Int)))).1
      have m1 := hm.step (by omega)
      have g1 := only_setCell hg (p := ⟨g, k, none⟩) (.inl rfl) (.int .i64 (k0 + (k : Int)))
      go_roundw
      case rel => exact ⟨k + 1, _, by omega, by go_num, by go_num, o1, m1, g1⟩
      case measure => simp [intOf]; omega
    · obtain rfl : n = k := by omega
      go_wp2
      go_ret
      exact ⟨rfl, ⟨ys, ho, hm⟩, hg⟩

/-- What a mark leaves. -/
def MarkedRow (w : World) (T : TypeId) (size base : Nat) (A : Option Addr) (n c : Nat) (k0 : Int) (w' : World) : Prop := ∃ ys, w'.ownsRow base T size (.slice A n c) n ys ∧ Marked k0 (n * size) ys

theorem markHostS_nil (k0 : Int) (w : World) :
    Calls Try.prog 16 #[.slice none 0 0, .int .i64 k0] w fun e w' => e = .returned (.int .i64 k0) ∧ w = w' := by
  go_enter Try.func16, Try.ntmps16
  go_wp2
  go_loop [1, 5] (fun q i => i = .int .i64 0 ∧ q = .int .i64 k0) (fun _ _ => 0)
  case atStart => exact ⟨rfl, rfl⟩
  case round =>
    obtain ⟨rfl, rfl⟩ := hrel
    go_wp2
    go_ret
    exact ⟨rfl, rfl⟩

theorem markHostS_own (A : Option Addr) (n c : Nat) (k0 : Int) (xs : List Value) (base : Nat) (w : World) (hown : w.ownsRow base 50 3 (.slice A n c) n xs) (hn : n ≤ 1048576) (h0 : 0 ≤ k0) (h1 : k0 ≤ 100000000) :
    Calls Try.prog 16 #[.slice A n c, .int .i64 k0] w fun e w' => e = .returned (.int .i64 (k0 + 3 * n)) ∧ MarkedRow w 50 3 base A n c k0 w' ∧ w.grownBy w' (Value.ownBlock (.slice A n c)) := by
  rcases hown.2 with ⟨hv, hx⟩ | ⟨g, cap, cur, hv, _⟩
  · injection hv with h1 h2 h3
    subst h1 h2 h3
    refine (markHostS_nil k0 w).mono ?_
    rintro e w' ⟨rfl, rfl⟩
    refine ⟨by simp, ⟨xs, hown, fun j hj => absurd hj (by omega)⟩, World.grownBy.refl _ _⟩
  · injection hv with h1' h2 h3
    subst h1'
    refine (markHostS_any g n c k0 xs base w hown hn h0 h1).mono ?_
    rintro e w' ⟨rfl, ⟨ys, ho, hm⟩, hg⟩
    exact ⟨rfl, ⟨ys, ho, hm⟩, hg⟩
end Go.Proofs.Ytgdcfhifiincaaa
