/-
  sameInts, samePool of the laws: true where both slices read alike.
-/
import Derived.Test.YtgdcfhifiincaaaHost1
import Derived.Test.YtgdcfhifiincaaaCopyInt
namespace Go.Proofs.Ytgdcfhifiincaaa
open Go.RowKit
set_option linter.unusedVariables false

set_option maxHeartbeats 1600000 in
theorem sameInts_yes (A A' : Option Addr) (n c c' : Nat) (ks : List Int) (w : World) {lo hi lo' hi' : Nat} (hS : Sl w lo hi 1 A n (ks.map (Value.int .i64))) (hS' : Sl w lo' hi' 1 A' n (ks.map (Value.int .i64))) (hhi : hi ≤ w.heap.size) (hhi' : hi' ≤ w.heap.size) (hn : n ≤ 1048576) :
    Calls Try.prog 21 #[.slice A n c, .slice A' n c'] w fun e w' => e = .returned (.bool true) ∧ Below w.heap.size w w' := by
  go_enter Try.func21, Try.ntmps21
  go_wp2
  go_loopw [5] (fun i wr => ∃ k : Nat, k ≤ n ∧ i = .int .i64 k ∧ Below w.heap.size w wr) (fun i _ => n - (intOf i).toNat)
  case atStart => exact ⟨0, Nat.zero_le _, rfl, Below.refl _ _⟩
  case round =>
    obtain ⟨k, hk, rfl, hb⟩ := hrel
    by_cases hlt : k < n
    · obtain ⟨b, off, rfl, _, hbh, c0⟩ := (hS.below hb hhi).num hlt
      obtain ⟨b', off', rfl, _, hbh', c0'⟩ := (hS'.below hb hhi').num hlt
      obtain ⟨h0, hh⟩ : ∃ p, ks[k]?.getD 0 = p := ⟨_, rfl⟩
      rw [hh] at c0 c0'
      clear hh
      have hki : (0 : Int) ≤ (k : Int) := by omega
      have hki2 : (k : Int) < (n : Int) := by omega
      go_wp2
      go_quiet (fail)
      go_wp2
      go_roundw
      case rel => exact ⟨k + 1, by omega, by go_num, below_drewN hb _⟩
      case measure => simp [intOf]; omega
    · obtain rfl : n = k := by omega
      go_wp2
      go_ret
      exact ⟨rfl, hb⟩

set_option maxHeartbeats 1600000 in
theorem samePool_yes (A A' : Option Addr) (n c c' : Nat) (hs : List H3) (w : World) {lo hi lo' hi' : Nat} (hS : Sl w lo hi 3 A n (hostsV hs)) (hS' : Sl w lo' hi' 3 A' n (hostsV hs)) (hhi : hi ≤ w.heap.size) (hhi' : hi' ≤ w.heap.size) (hn : n ≤ 1048576) :
    Calls Try.prog 31 #[.slice A n c, .slice A' n c'] w fun e w' => e = .returned (.bool true) ∧ Below w.heap.size w w' := by
  go_enter Try.func31, Try.ntmps31
  go_wp2
  go_loopw [5] (fun i wr => ∃ k : Nat, k ≤ n ∧ i = .int .i64 k ∧ Below w.heap.size w wr) (fun i _ => n - (intOf i).toNat)
  case atStart => exact ⟨0, Nat.zero_le _, rfl, Below.refl _ _⟩
  case round =>
    obtain ⟨k, hk, rfl, hb⟩ := hrel
    by_cases hlt : k < n
    · obtain ⟨b, off, rfl, _, hbh, c0, c1, c2⟩ := (hS.below hb hhi).host hlt
      obtain ⟨b', off', rfl, _, hbh', c0', c1', c2'⟩ := (hS'.below hb hhi').host hlt
      obtain ⟨⟨h0, h1, h2⟩, hh⟩ : ∃ p, hAt hs k = p := ⟨_, rfl⟩
      rw [hh] at c0 c1 c2 c0' c1' c2'
      clear hh
      have hki : (0 : Int) ≤ (k : Int) := by omega
      have hki2 : (k : Int) < (n : Int) := by omega
      go_wp2
      go_quiet (fail)
      go_wp2
      go_roundw
      case rel => exact ⟨k + 1, by omega, by go_num, below_drewN hb _⟩
      case measure => simp [intOf]; omega
    · obtain rfl : n = k := by omega
      go_wp2
      go_ret
      exact ⟨rfl, hb⟩

end Go.Proofs.Ytgdcfhifiincaaa
