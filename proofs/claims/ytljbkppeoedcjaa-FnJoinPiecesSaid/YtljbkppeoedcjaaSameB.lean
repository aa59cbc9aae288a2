/-
  sameBytes of the laws.
-/
import Derived.Test.YtljbkppeoedcjaaCopyByte
namespace Go.Proofs.Ytljbkppeoedcjaa
open Go.RowKit
set_option linter.unusedVariables false

/-- Do two lists read alike? -/
theorem sameBytes_any (A A' : Option Addr) (n n' c c' : Nat) (xs ys : List Int) (w : World) {lo hi lo' hi' : Nat} (hs : Sl w lo hi 1 A n (xs.map (Value.int .u8))) (hs' : Sl w lo' hi' 1 A' n' (ys.map (Value.int .u8))) (hn : n ≤ 1048576) (hn' : n' ≤ 1048576) :
    Calls Try.prog 19 #[.slice A n c, .slice A' n' c'] w fun e w' => e = .returned (.bool (xs == ys)) ∧ Below w.heap.size w w' := by
  have HX := Lib.hid hs.len
  have HY := Lib.hid hs'.len
  by_cases hnn : n = n'
  · subst hnn
    go_enter Try.func19, Try.ntmps19
    go_wp2
    go_loopw [5] (fun i wr => ∃ (k m : Nat), k ≤ n ∧ i = .int .i64 k ∧ AlikeByte xs ys k ∧ wr = w.drewN m) (fun i _ => n - (intOf i).toNat)
    case atStart => exact ⟨0, 0, Nat.zero_le _, rfl, fun i h => absurd h (by omega), rfl⟩
    case round =>
      obtain ⟨k, m, hk, rfl, hal, rfl⟩ := hrel
      have HA := Lib.hid hal
      clear hal
      by_cases hlt : k < n
      · obtain ⟨b, off, rfl, _, _, hc, _⟩ := hs.Byte hlt
        obtain ⟨b', off', rfl, _, _, hc', _⟩ := hs'.Byte hlt
        obtain ⟨x, hx⟩ : ∃ x, xs[k]?.getD 0 = x := ⟨_, rfl⟩
        obtain ⟨y, hy⟩ : ∃ y, ys[k]?.getD 0 = y := ⟨_, rfl⟩
        rw [hx] at hc
        rw [hy] at hc'
        have HXX := Lib.hid hx
        have HYY := Lib.hid hy
        clear hx hy
        by_cases hxy : x = y
        · subst hxy
          go_wp2
          go_region
          all_goals
            go_wp2
            go_roundw
            case rel => exact ⟨k + 1, m + 1, by omega, by go_num, fun i hi' => by
              rcases Nat.lt_or_ge i k with h | h
              · exact HA.out i h
              · obtain rfl : i = k := by omega
                rw [HXX.out, HYY.out], rfl⟩
            case measure => simp [intOf]; omega
        · have hne : ((x : Int) != y) = true := by simpa using hxy
          go_wp2
          go_region
          all_goals
            go_wp2
            go_ret
            refine ⟨ret_bool ?_, below_drewN (Below.refl _ _) (m + 1)⟩
            symm
            rw [beq_eq_false_iff_ne]
            intro e
            rw [e, HYY.out] at HXX
            exact hxy HXX.out.symm
      · obtain rfl : n = k := by omega
        go_wp2
        go_ret
        refine ⟨ret_bool ?_, below_drewN (Below.refl _ _) _⟩
        symm
        rw [beq_iff_eq]
        exact HA.out.all HX.out HY.out
  · have hne : ((n : Int) != (n' : Int)) = true := by simp; omega
    go_enter Try.func19, Try.ntmps19
    go_wp2
    go_ret
    refine ⟨ret_bool ?_, Below.refl _ _⟩
    symm
    rw [beq_eq_false_iff_ne]
    intro e
    have := congrArg List.length e
    rw [HX.out, HY.out] at this
    exact hnn this
end Go.Proofs.Ytljbkppeoedcjaa
