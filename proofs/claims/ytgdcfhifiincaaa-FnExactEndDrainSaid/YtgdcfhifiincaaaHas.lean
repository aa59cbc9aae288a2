/-
  slices.Index and slices.Contains at numbers.
-/
import Derived.Test.YtgdcfhifiincaaaHost1
namespace Go.Proofs.Ytgdcfhifiincaaa
open Go.RowKit
set_option linter.unusedVariables false

set_option maxHeartbeats 800000 in
theorem indexI_any (A : Option Addr) (n c : Nat) (zs : List Int) (x : Int) (w : World) {lo hi : Nat} (hS : Sl w lo hi 1 A n (zs.map (Value.int .i64))) (hn : n ≤ 1048576) :
    Calls Try.prog 66 #[.slice A n c, .int .i64 x] w fun e w' => (∃ r : Int, e = .returned (.int .i64 r) ∧ (0 ≤ r ↔ x ∈ zs)) ∧ Below w.heap.size w w' := by
  have HL := Lib.hid hS.len
  go_enter Try.func66, Try.ntmps66
  go_wp2
  go_loopw [8] (fun i wr => ∃ k : Nat, k ≤ n ∧ i = .int .i64 k ∧ (∀ j, j < k → zs[j]?.getD 0 ≠ x) ∧ wr = w) (fun i _ => n - (intOf i).toNat)
  case atStart => exact ⟨0, Nat.zero_le _, rfl, fun j hj => absurd hj (by omega), rfl⟩
  case round =>
    obtain ⟨k, hk, rfl, hj, rfl⟩ := hrel
    have HJ := Lib.hid hj
    clear hj
    by_cases hlt : k < n
    · obtain ⟨b, off, rfl, _, _, c0⟩ := hS.num hlt
      have hlk : k < zs.length := by rw [HL.out]; exact hlt
      have HM : RowKit.Hid (zs[k]?.getD 0 ∈ zs) := Lib.hid (by rw [List.getElem?_eq_getElem hlk]; exact List.getElem_mem hlk)
      obtain ⟨z, hz⟩ : ∃ z, zs[k]?.getD 0 = z := ⟨_, rfl⟩
      rw [hz] at c0 HM
      have HZ := Lib.hid hz
      clear hz
      have hki : (0 : Int) ≤ (k : Int) := by omega
      have hki2 : (k : Int) < (n : Int) := by omega
      by_cases he : z = x
      · subst he
        go_wp2
        go_ret
        exact ⟨⟨_, rfl, fun _ => HM.out, fun _ => by omega⟩, Below.refl _ _⟩
      · have hbb : (x == z) = false := by simpa using fun h => he h.symm
        have HN : RowKit.Hid (z ≠ x) := Lib.hid he
        clear he
        go_wp2
        go_roundw
        case rel => exact ⟨k + 1, by omega, by go_num, fun j hj => by
          rcases Nat.lt_or_ge j k with h | h
          · exact HJ.out j h
          · obtain rfl : j = k := by omega
            rw [HZ.out]; exact HN.out, by first | trivial | rfl⟩
        case measure => simp [intOf]; omega
    · obtain rfl : n = k := by omega
      have HE : RowKit.Hid (x ∉ zs) := Lib.hid (fun h => by
        obtain ⟨j, hj, rfl⟩ := List.mem_iff_getElem.1 h
        exact HJ.out j (by rw [← HL.out]; exact hj) (by rw [List.getElem?_eq_getElem hj]; rfl))
      go_wp2
      go_ret
      exact ⟨⟨_, rfl, fun h => absurd h (by omega), fun h => absurd h HE.out⟩, Below.refl _ _⟩
theorem containsI_any (A : Option Addr) (n c : Nat) (zs : List Int) (x : Int) (w : World) {lo hi : Nat} (hS : Sl w lo hi 1 A n (zs.map (Value.int .i64))) (hn : n ≤ 1048576) :
    Calls Try.prog 50 #[.slice A n c, .int .i64 x] w fun e w' => e = .returned (.bool (decide (x ∈ zs))) ∧ Below w.heap.size w w' := by
  go_enter Try.func50, Try.ntmps50
  go_wp2_with (go_at_call 66; refine (indexI_any _ _ _ zs _ _ hS hn).mono ?_; rintro e w1 ⟨⟨r, rfl, hr⟩, hb1⟩)
  go_ret
  refine ⟨ret_bool ?_, hb1⟩
  simp only [← hr]
end Go.Proofs.Ytgdcfhifiincaaa
