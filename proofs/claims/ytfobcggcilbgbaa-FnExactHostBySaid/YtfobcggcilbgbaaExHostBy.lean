/-
  The walk of FnExactHostBy.
-/
import Derived.Test.YtfobcggcilbgbaaHostBy
import Derived.Test.YtfobcggcilbgbaaOpenHost
namespace Go.Proofs.Ytfobcggcilbgbaa
open Go.RowKit
set_option linter.unusedVariables false

set_option maxRecDepth 100000 in
set_option maxHeartbeats 1600000 in
theorem wFnExactHostBy (way : Int) (A : Option Addr) (n c : Nat) (hs : List H3) (key : Int) (w : World) (_ : -9223372036854775808 ≤ way ∧ way ≤ 9223372036854775807) (hS : Sl w 0 w.heap.size 3 A n (hostsV hs)) (hnc : n ≤ c) (hm : c ≤ maxLen) (_ : -9223372036854775808 ≤ key ∧ key ≤ 9223372036854775807) :
    Calls Try.prog 3 #[.int .i64 way, .slice A n c, .int .i64 key] w fun e w' => e = .returned (.bool true) ∧ Below w.heap.size w w' := by
  unfold maxLen at hm
  by_cases hn : n ≤ 1048576
  · obtain ⟨r, hr⟩ : ∃ r, hostBy way hs key = r := ⟨_, rfl⟩
    have HR := Lib.hid hr
    clear hr
    go_enter Try.func3, Try.ntmps3
    go_wp2_with fail
    refine (szHostS_any _ _ _ _ _ (by omega) (by omega) (by omega)).mono ?_
    rw [if_neg (by omega)]
    rintro e w0 ⟨rfl, rfl⟩
    go_wp2_with fail
    refine (toHostS_any _ _ _ hs _ hS (Nat.le_refl _) hn).mono ?_
    rintro e w1 ⟨rfl, s1, b1⟩
    go_wp2_with fail
    refine (sHostBy_any _ _ _ _ _ hs _ (Sl.of_own s1) (Nat.le_refl _) hn).mono ?_
    rw [HR.out]
    rintro e w2 ⟨rfl, b2⟩
    have d2 := b1.trans (b2.mono b1.size)
    go_wp2_with fail
    refine (toHostS_any _ _ _ hs _ (hS.below d2 (Nat.le_refl _)) d2.size hn).mono ?_
    rintro e w3 ⟨rfl, s3, b3⟩
    have d3 := d2.trans (b3.mono d2.size)
    go_wp2_with fail
    refine (iHostBy_any _ _ _ _ _ hs _ (Sl.of_own s3) (Nat.le_refl _) hn).mono ?_
    rw [HR.out]
    rintro e w4 ⟨rfl, b4⟩
    have d4 := d3.trans (b4.mono d3.size)
    have s4 := own_below s3 b4
    have hrr : (r != r) = false := by simp
    go_wp2_with fail
    refine (toHostS_any _ _ _ hs _ (hS.below d4 (Nat.le_refl _)) d4.size hn).mono ?_
    rintro e w5 ⟨rfl, s5, b5⟩
    have d5 := d4.trans (b5.mono d4.size)
    have s45 := own_below s4 b5
    go_wp2_with fail
    refine (eqHostS_yes _ _ _ _ _ hs _ (Sl.of_own s45) (Sl.of_own s5) (Nat.le_refl _) (Nat.le_refl _) hn).mono ?_
    rintro e w6 ⟨rfl, b6⟩
    have d6 := d5.trans (b6.mono d5.size)
    go_wp2_with fail
    go_ret
    exact ⟨rfl, d6⟩
  · go_enter Try.func3, Try.ntmps3
    go_wp2_with fail
    refine (szHostS_any _ _ _ _ _ (by omega) (by omega) (by omega)).mono ?_
    rw [if_pos (by omega)]
    rintro e w0 ⟨rfl, rfl⟩
    go_wp2_with fail
    go_ret
    exact ⟨rfl, Below.refl _ _⟩
end Go.Proofs.Ytfobcggcilbgbaa
