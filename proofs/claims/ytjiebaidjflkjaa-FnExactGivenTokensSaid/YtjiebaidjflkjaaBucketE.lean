/-
  The walk of the law FnExactGivenTokens.
-/
import Derived.Test.YtjiebaidjflkjaaBucketD
namespace Go.Proofs.Ytjiebaidjflkjaa
open Go.RowKit
set_option linter.unusedVariables false
set_option maxHeartbeats 800000 in
theorem wFnExactGivenTokens (r m h l : Int) (A : Option Addr) (n c : Nat) (ts : List Int) (A' : Option Addr) (n' c' : Nat) (qs : List Int) (w : World) (_ : -9223372036854775808 ≤ r ∧ r ≤ 9223372036854775807) (_ : -9223372036854775808 ≤ m ∧ m ≤ 9223372036854775807) (_ : -9223372036854775808 ≤ h ∧ h ≤ 9223372036854775807) (_ : -9223372036854775808 ≤ l ∧ l ≤ 9223372036854775807)
    (hs : Sl w 0 w.heap.size 1 A n (ts.map (Value.int .i64))) (hnc : n ≤ c) (hm : c ≤ maxLen) (_ : ∀ z ∈ ts, (Lit.int .i64 z).wf = true)
    (hs' : Sl w 0 w.heap.size 1 A' n' (qs.map (Value.int .i64))) (hnc' : n' ≤ c') (hm' : c' ≤ maxLen) (_ : ∀ z ∈ qs, (Lit.int .i64 z).wf = true) :
    Calls Try.prog 12 #[.agg #[.int .i64 r, .int .i64 m, .int .i64 h, .int .i64 l], .slice A n c, .slice A' n' c'] w fun e w' => e = .returned (.bool true) ∧ Below w.heap.size w w' := by
  unfold maxLen at hm hm'
  have e0 := (Below.refl w.heap.size w).alloc (Nat.le_refl _) (.cells #[.int .i64 r, .int .i64 m, .int .i64 h, .int .i64 l] 37)
  by_cases hn : n ≤ 1048576
  · by_cases hn' : n' ≤ 1048576
    · go_enter Try.func12, Try.ntmps12
      go_wp2_with fail
      refine (toBucket_any _ _ _ _ _).mono ?_
      rintro e w1 ⟨rfl, b1⟩
      have d1 := e0.trans (b1.mono (by simp))
      go_wp2_with fail
      refine (toIntS_any _ _ _ ts _ (hs.below d1 (Nat.le_refl _)) d1.size hn).mono ?_
      rintro e w2 ⟨rfl, own2, b2⟩
      have d2 := d1.trans (b2.mono d1.size)
      go_wp2_with fail
      refine (toIntS_any _ _ _ qs _ (hs'.below d2 (Nat.le_refl _)) d2.size hn').mono ?_
      rintro e w3 ⟨rfl, own3, b3⟩
      have d3 := d2.trans (b3.mono d2.size)
      go_wp2_with fail
      refine (sGiven_any _ _ _ _ _ _ _ _ _ _ ts qs _ ((Sl.of_own own2).below b3 (Nat.le_refl _)) (Sl.of_own own3) b3.size (Nat.le_refl _) (by omega) (by omega)).mono ?_
      rintro e w4 ⟨rfl, b4⟩
      have d4 := d3.trans (b4.mono d3.size)
      go_wp2_with fail
      refine (toIntS_any _ _ _ ts _ (hs.below d4 (Nat.le_refl _)) d4.size hn).mono ?_
      rintro e w5 ⟨rfl, own5, b5⟩
      have d5 := d4.trans (b5.mono d4.size)
      go_wp2_with fail
      refine (toIntS_any _ _ _ qs _ (hs'.below d5 (Nat.le_refl _)) d5.size hn').mono ?_
      rintro e w6 ⟨rfl, own6, b6⟩
      have d6 := d5.trans (b6.mono d5.size)
      have b16 := ((((b1.trans (b2.mono b1.size)).trans (b3.mono (Nat.le_trans b1.size b2.size))).trans (b4.mono (Nat.le_trans (Nat.le_trans b1.size b2.size) b3.size))).trans (b5.mono (Nat.le_trans (Nat.le_trans (Nat.le_trans b1.size b2.size) b3.size) b4.size))).trans (b6.mono (Nat.le_trans (Nat.le_trans (Nat.le_trans (Nat.le_trans b1.size b2.size) b3.size) b4.size) b5.size))
      have c16 := (bcell b16).1
      simp only [World.size_alloc] at c16
      go_wp2_with fail
      refine (toBucket_any _ _ _ _ _).mono ?_
      rintro e w7 ⟨rfl, b7⟩
      have d7 := d6.trans (b7.mono d6.size)
      go_wp2_with fail
      have s5 := (((Sl.of_own own5).below b6 (Nat.le_refl _)).below b7 b6.size)
      have s6 := ((Sl.of_own own6).below b7 (Nat.le_refl _))
      refine (iGiven_any _ _ _ _ _ _ _ _ _ _ ts qs _ s5 s6 (Nat.le_trans b6.size b7.size) b7.size (by omega) (by omega)).mono ?_
      rintro e w8 ⟨rfl, b8⟩
      have d8 := d7.trans (b8.mono d7.size)
      go_wp2_with fail
      refine (toIntS_any _ _ _ ts _ (hs.below d8 (Nat.le_refl _)) d8.size hn).mono ?_
      rintro e w9 ⟨rfl, own9, b9⟩
      have d9 := d8.trans (b9.mono d8.size)
      go_wp2_with fail
      refine (eqIntS_yes _ _ _ _ _ ts _ ((s5.below b8 (Nat.le_trans b6.size b7.size)).below b9 (Nat.le_trans (Nat.le_trans b6.size b7.size) b8.size)) (Sl.of_own own9) hn).mono ?_
      rintro e w10 ⟨rfl, b10⟩
      have d10 := d9.trans (b10.mono d9.size)
      go_wp2_with fail
      refine (toIntS_any _ _ _ qs _ (hs'.below d10 (Nat.le_refl _)) d10.size hn').mono ?_
      rintro e w11 ⟨rfl, own11, b11⟩
      have d11 := d10.trans (b11.mono d10.size)
      go_wp2_with fail
      have z7 := b7.size
      have z8 := b8.size
      have z9 := b9.size
      have z10 := b10.size
      refine (eqIntS_yes _ _ _ _ _ qs _ ((((s6.below b8 b7.size).below b9 (by omega)).below b10 (by omega)).below b11 (by omega)) (Sl.of_own own11) hn').mono ?_
      rintro e w12 ⟨rfl, b12⟩
      go_wp2_with fail
      go_ret
      exact ⟨rfl, d11.trans (b12.mono d11.size)⟩
    · go_enter Try.func12, Try.ntmps12
      go_wp2
      go_ret
      exact ⟨rfl, e0⟩
  · go_enter Try.func12, Try.ntmps12
    go_wp2
    go_ret
    exact ⟨rfl, e0⟩
end Go.Proofs.Ytjiebaidjflkjaa
