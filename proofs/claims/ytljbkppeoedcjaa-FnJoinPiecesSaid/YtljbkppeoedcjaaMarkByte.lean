/-
  markByteS, heldByteS; markByteS of a row of the call's own, nil or not.
-/
import Derived.Test.YtljbkppeoedcjaaHost0
import Derived.Test.YtljbkppeoedcjaaCopyByte
namespace Go.Proofs.Ytljbkppeoedcjaa
open Go.RowKit
set_option linter.unusedVariables false

/-- The first m cells hold k0, k0 + 1 .. as bytes. -/
def MarkedB (k0 : Int) (m : Nat) (xs : List Value) : Prop := ∀ j, j < m → xs[j]? = some (.int .u8 (IntKind.u8.wrap (k0 + j)))
theorem MarkedB.zero (k0 : Int) (xs : List Value) : MarkedB k0 0 xs := fun j h => absurd h (by omega)
theorem MarkedB.step {k0 : Int} {m : Nat} {xs : List Value} (h : MarkedB k0 m xs) (hm : m < xs.length) {x : Int} (hx : IntKind.u8.wrap (k0 + m) = x) : MarkedB k0 (m + 1) (xs.set m (.int .u8 x)) := fun j hj => by
  subst hx
  rw [List.getElem?_set]
  by_cases e : m = j
  · subst e; simp [hm]
  · rw [if_neg e]; exact h j (by omega)

theorem markByteS_any (g n c : Nat) (k0 : Int) (xs : List Value) (base : Nat) (w : World) (hown : w.ownsRow base 5 1 (.slice (some ⟨g, 0, none⟩) n c) n xs) (hn : n ≤ 1048576) (h0 : 0 ≤ k0) (h1 : k0 ≤ 100000000) :
    Calls Try.prog 12 #[.slice (some ⟨g, 0, none⟩) n c, .int .i64 k0] w fun e w' => e = .returned (.int .i64 (k0 + n)) ∧ (∃ ys, w'.ownsRow base 5 1 (.slice (some ⟨g, 0, none⟩) n c) n ys ∧ MarkedB k0 n ys) ∧ w.grownBy w' (some g) := by
  go_enter Try.func12, Try.ntmps12
  go_wp2
  go_loopw [1, 5] (fun q i wr => ∃ (k : Nat) (ys : List Value), k ≤ n ∧ i = .int .i64 k ∧ q = .int .i64 (k0 + k) ∧ wr.ownsRow base 5 1 (.slice (some ⟨g, 0, none⟩) n c) n ys ∧ MarkedB k0 k ys ∧ w.grownBy wr (some g)) (fun _ i _ => n - (intOf i).toNat)
  case atStart => exact ⟨0, xs, Nat.zero_le _, rfl, by go_num, hown, MarkedB.zero _ _, World.grownBy.refl _ _⟩
  case round =>
    obtain ⟨k, ys, hk, rfl, rfl, ho, hm, hg⟩ := hrel
    have hyl : ys.length = n := by have := ho.1; omega
    by_cases hlt : k < n
    · obtain ⟨u0, e0⟩ : ∃ u, ys[k]? = some u := ⟨_, List.getElem?_eq_getElem (by omega)⟩
      have d0 := (ho.cellAt k (by omega)).trans e0
      have df := ho.frozenAt
      obtain ⟨x, hx⟩ : ∃ x, IntKind.u8.wrap (k0 + (k : Int)) = x := ⟨_, rfl⟩
      have m1 := hm.step (by omega) hx
      have o1 := (ho.stored k (.int .u8 x)).1
      have g1 := only_setCell hg (p := ⟨g, k, none⟩) (.inl rfl) (.int .u8 x)
      go_wp2
      go_roundw
      case rel => exact ⟨k + 1, _, by omega, by go_num, by go_num, o1, m1, g1⟩
      case measure => simp [intOf]; omega
    · obtain rfl : n = k := by omega
      go_wp2
      go_ret
      exact ⟨rfl, ⟨ys, ho, hm⟩, hg⟩

theorem heldByteS_any (A : Option Addr) (n c : Nat) (k0 : Int) (xs : List Value) (w : World) {lo hi : Nat} (hS : Sl w lo hi 1 A n xs) (hm : MarkedB k0 n xs) (hn : n ≤ 1048576) (h0 : 0 ≤ k0) (h1 : k0 ≤ 100000000) :
    Calls Try.prog 23 #[.slice A n c, .int .i64 k0] w fun e w' => e = .returned (.int .i64 (k0 + n)) ∧ w = w' := by
  go_enter Try.func23, Try.ntmps23
  go_wp2
  go_loop [1, 5] (fun q i => ∃ k : Nat, k ≤ n ∧ i = .int .i64 k ∧ q = .int .i64 (k0 + k)) (fun _ i => n - (intOf i).toNat)
  case atStart => exact ⟨0, Nat.zero_le _, rfl, by go_num⟩
  case round =>
    obtain ⟨k, hk, rfl, rfl⟩ := hrel
    by_cases hlt : k < n
    · obtain ⟨b, off, rfl, _, _, hc⟩ := hS.2 (by omega)
      have c0 := hc _ _ (hm k (by omega))
      obtain ⟨x, hx⟩ : ∃ x, IntKind.u8.wrap (k0 + (k : Int)) = x := ⟨_, rfl⟩
      rw [hx] at c0
      clear hc
      go_wp2
      go_round
      case rel => exact ⟨k + 1, by omega, by go_num, by go_num⟩
      case measure => simp [intOf]; omega
    · obtain rfl : n = k := by omega
      go_wp2
      go_ret
      exact ⟨rfl, rfl⟩
end Go.Proofs.Ytljbkppeoedcjaa
