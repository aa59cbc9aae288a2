/-
  The walks of the laws FnExactPathValid, FnExactSendPath and FnExactFindPathSize.
-/
import Derived.Test.YtjiebaidjflkjaaPathA
namespace Go.Proofs.Ytjiebaidjflkjaa
open Go.RowKit
set_option linter.unusedVariables false

theorem wFnExactPathValid (A : Option Addr) (n c : Nat) (zs : List Int) (w : World) (hs : Sl w 0 w.heap.size 1 A n (zs.map (Value.int .i64))) (hnc : n ≤ c) (hm : c ≤ maxLen) (_hw : ∀ z ∈ zs, (Lit.int .i64 z).wf = true) :
    Calls Try.prog 3 #[.slice A n c] w fun e w' => e = .returned (.bool true) ∧ Below w.heap.size w w' := by
  unfold maxLen at hm
  clear _hw
  by_cases hn : n ≤ 1048576
  · go_enter Try.func3, Try.ntmps3
    go_wp2_with fail
    refine (toIntS_any _ _ _ zs _ hs (Nat.le_refl _) hn).mono ?_
    rintro e w1 ⟨rfl, own1, b1⟩
    go_wp2_with fail
    refine (sPathValid_any _ _ _ zs _ (Sl.of_own own1) (by omega)).mono ?_
    rintro e w' ⟨rfl, rfl⟩
    go_wp2_with fail
    refine (toIntS_any _ _ _ zs _ (hs.below b1 (Nat.le_refl _)) b1.size hn).mono ?_
    rintro e w2 ⟨rfl, own2, b2⟩
    go_wp2_with fail
    refine (iPathValid_any _ _ _ zs _ (Sl.of_own own2) (by omega)).mono ?_
    rintro e w' ⟨rfl, rfl⟩
    go_wp2_with fail
    have b12 := b1.trans (b2.mono b1.size)
    refine (toIntS_any _ _ _ zs _ (hs.below b12 (Nat.le_refl _)) b12.size hn).mono ?_
    rintro e w3 ⟨rfl, own3, b3⟩
    go_wp2_with fail
    refine (eqIntS_yes _ _ _ _ _ zs _ ((Sl.of_own own2).below b3 (Nat.le_refl _)) (Sl.of_own own3) hn).mono ?_
    rintro e w4 ⟨rfl, b4⟩
    go_wp2_with fail
    go_ret
    exact ⟨rfl, (b12.trans (b3.mono b12.size)).trans (b4.mono (b12.trans (b3.mono b12.size)).size)⟩
  · go_enter Try.func3, Try.ntmps3
    go_wp2
    go_ret
    exact ⟨rfl, Below.refl _ _⟩

theorem wFnExactSendPath (A : Option Addr) (n c : Nat) (zs : List Int) (s : Int) (w : World) (hs : Sl w 0 w.heap.size 1 A n (zs.map (Value.int .i64))) (hnc : n ≤ c) (hm : c ≤ maxLen) (_hw : ∀ z ∈ zs, (Lit.int .i64 z).wf = true) (_hs : -9223372036854775808 ≤ s ∧ s ≤ 9223372036854775807) :
    Calls Try.prog 5 #[.slice A n c, .int .i64 s] w fun e w' => e = .returned (.bool true) ∧ Below w.heap.size w w' := by
  unfold maxLen at hm
  clear _hw
  by_cases hn : n ≤ 1048576
  · go_enter Try.func5, Try.ntmps5
    go_wp2_with fail
    refine (toIntS_any _ _ _ zs _ hs (Nat.le_refl _) hn).mono ?_
    rintro e w1 ⟨rfl, own1, b1⟩
    go_wp2_with fail
    refine (sSend_any _ _ _ zs _ _ (Sl.of_own own1) (by omega)).mono ?_
    rintro e w' ⟨rfl, rfl⟩
    go_wp2_with fail
    refine (toIntS_any _ _ _ zs _ (hs.below b1 (Nat.le_refl _)) b1.size hn).mono ?_
    rintro e w2 ⟨rfl, own2, b2⟩
    go_wp2_with fail
    refine (iSend_any _ _ _ zs _ _ (Sl.of_own own2) (by omega)).mono ?_
    rintro e w' ⟨rfl, rfl⟩
    go_wp2_with fail
    have b12 := b1.trans (b2.mono b1.size)
    refine (toIntS_any _ _ _ zs _ (hs.below b12 (Nat.le_refl _)) b12.size hn).mono ?_
    rintro e w3 ⟨rfl, own3, b3⟩
    go_wp2_with fail
    refine (eqIntS_yes _ _ _ _ _ zs _ ((Sl.of_own own2).below b3 (Nat.le_refl _)) (Sl.of_own own3) hn).mono ?_
    rintro e w4 ⟨rfl, b4⟩
    go_wp2_with fail
    go_ret
    exact ⟨rfl, (b12.trans (b3.mono b12.size)).trans (b4.mono (b12.trans (b3.mono b12.size)).size)⟩
  · go_enter Try.func5, Try.ntmps5
    go_wp2
    go_ret
    exact ⟨rfl, Below.refl _ _⟩

theorem wFnExactFindPathSize (A : Option Addr) (n c : Nat) (zs : List Int) (s : Int) (w : World) (hs : Sl w 0 w.heap.size 1 A n (zs.map (Value.int .i64))) (hnc : n ≤ c) (hm : c ≤ maxLen) (_hw : ∀ z ∈ zs, (Lit.int .i64 z).wf = true) (_hs : -9223372036854775808 ≤ s ∧ s ≤ 9223372036854775807) :
    Calls Try.prog 7 #[.slice A n c, .int .i64 s] w fun e w' => e = .returned (.bool true) ∧ Below w.heap.size w w' := by
  unfold maxLen at hm
  clear _hw
  by_cases hn : n ≤ 1048576
  · go_enter Try.func7, Try.ntmps7
    go_wp2_with fail
    refine (toIntS_any _ _ _ zs _ hs (Nat.le_refl _) hn).mono ?_
    rintro e w1 ⟨rfl, own1, b1⟩
    go_wp2_with fail
    refine (sFind_any _ _ _ zs _ _ (Sl.of_own own1) (by omega)).mono ?_
    rintro e w' ⟨rfl, rfl⟩
    go_wp2_with fail
    refine (toIntS_any _ _ _ zs _ (hs.below b1 (Nat.le_refl _)) b1.size hn).mono ?_
    rintro e w2 ⟨rfl, own2, b2⟩
    go_wp2_with fail
    refine (iFind_any _ _ _ zs _ _ (Sl.of_own own2) (by omega)).mono ?_
    rintro e w' ⟨rfl, rfl⟩
    go_wp2_with fail
    have b12 := b1.trans (b2.mono b1.size)
    refine (toIntS_any _ _ _ zs _ (hs.below b12 (Nat.le_refl _)) b12.size hn).mono ?_
    rintro e w3 ⟨rfl, own3, b3⟩
    go_wp2_with fail
    refine (eqIntS_yes _ _ _ _ _ zs _ ((Sl.of_own own2).below b3 (Nat.le_refl _)) (Sl.of_own own3) hn).mono ?_
    rintro e w4 ⟨rfl, b4⟩
    go_wp2_with fail
    go_ret
    exact ⟨rfl, (b12.trans (b3.mono b12.size)).trans (b4.mono (b12.trans (b3.mono b12.size)).size)⟩
  · go_enter Try.func7, Try.ntmps7
    go_wp2
    go_ret
    exact ⟨rfl, Below.refl _ _⟩
end Go.Proofs.Ytjiebaidjflkjaa
