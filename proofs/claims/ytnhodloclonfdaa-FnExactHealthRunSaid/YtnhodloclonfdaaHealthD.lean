/-
  The walks of the laws FnExactHealthStep, FnExactHealthRun and FnExactHealthChanges.
-/
import Derived.Test.YtnhodloclonfdaaHealthC
namespace Go.Proofs.Ytnhodloclonfdaa
open Go.RowKit
set_option linter.unusedVariables false

theorem toHealth_any (u : Bool) (c : Int) (w : World) :
    Calls Try.prog 12 #[.agg #[.bool u, .int .i64 c]] w fun e w' => e = .returned (.agg #[.bool u, .int .i64 c]) ∧ Below w.heap.size w w' := by
  go_enter Try.func12, Try.ntmps12
  go_wp2
  refine bodyPost_ret (v := .agg #[.bool u, .int .i64 c]) (by simp [results, Try.results12, go_sem]) rfl ⟨rfl, ?_⟩
  repeat' first | exact Below.refl _ _ | refine Below.alloc ?_ (by simp; try omega) _
theorem eqHealth_yes (u : Bool) (c : Int) (w : World) :
    Calls Try.prog 14 #[.agg #[.bool u, .int .i64 c], .agg #[.bool u, .int .i64 c]] w fun e w' => e = .returned (.bool true) ∧ Below w.heap.size w w' := by
  go_enter Try.func14, Try.ntmps14
  go_wp2
  go_ret
  refine ⟨rfl, ?_⟩
  repeat' first | exact Below.refl _ _ | refine Below.alloc ?_ (by simp; try omega) _

theorem wFnExactHealthStep (u : Bool) (c : Int) (a : Bool) (r f : Int) (w : World) (_ : -9223372036854775808 ≤ c ∧ c ≤ 9223372036854775807) (_ : -9223372036854775808 ≤ r ∧ r ≤ 9223372036854775807) (_ : -9223372036854775808 ≤ f ∧ f ≤ 9223372036854775807) :
    Calls Try.prog 3 #[.agg #[.bool u, .int .i64 c], .bool a, .int .i64 r, .int .i64 f] w fun e w' => e = .returned (.bool true) ∧ Below w.heap.size w w' := by
  obtain ⟨⟨u1, c1⟩, hx⟩ : ∃ p, stepH u c a r f = p := ⟨_, rfl⟩
  have HX := Lib.hid hx
  clear hx
  go_enter Try.func3, Try.ntmps3
  go_wp2_with fail
  refine (toHealth_any _ _ _).mono ?_
  rintro e w1 ⟨rfl, b1⟩
  go_wp2_with fail
  refine (sHealthStep_is HX.out _).mono ?_
  rintro e w2 ⟨rfl, b2⟩
  have b12 := b1.trans (b2.mono b1.size)
  have c12 := (bcell b12).1
  have z12 := b12.size
  simp only [World.size_alloc] at c12 z12
  have y12 : w.heap.size < w2.heap.size := by omega
  go_wp2_with fail
  refine (toHealth_any _ _ _).mono ?_
  rintro e w3 ⟨rfl, b3⟩
  go_wp2_with fail
  refine (iHealthStep_is HX.out _).mono ?_
  rintro e w4 ⟨rfl, b4⟩
  have b34 := b3.trans (b4.mono b3.size)
  have c34 := (bcell b34).1
  have z34 := b34.size
  simp only [World.size_alloc] at c34 z34
  have y34 : w2.heap.size < w4.heap.size := by omega
  go_wp2_with fail
  refine (eqHealth_yes _ _ _).mono ?_
  rintro e w5 ⟨rfl, b5⟩
  go_wp2_with fail
  go_ret
  have e1 := ((Below.refl w.heap.size w).alloc (Nat.le_refl _) _).trans (b12.mono (by simp))
  have e2 := (e1.alloc e1.size _).trans (b34.mono (by simp; omega))
  have e3 := (e2.alloc e2.size _).trans (b5.mono (by simp; omega))
  exact ⟨rfl, e3⟩

theorem wFnExactHealthRun (A : Option Addr) (n c : Nat) (zs : List Bool) (r f : Int) (w : World) (hs : Sl w 0 w.heap.size 1 A n (zs.map Value.bool)) (hnc : n ≤ c) (hm : c ≤ maxLen)
    (_ : -9223372036854775808 ≤ r ∧ r ≤ 9223372036854775807) (_ : -9223372036854775808 ≤ f ∧ f ≤ 9223372036854775807) :
    Calls Try.prog 5 #[.slice A n c, .int .i64 r, .int .i64 f] w fun e w' => e = .returned (.bool true) ∧ Below w.heap.size w w' := by
  unfold maxLen at hm
  by_cases hn : n ≤ 1048576
  · obtain ⟨⟨u1, c1⟩, hx⟩ : ∃ p, runH zs r f = p := ⟨_, rfl⟩
    have HX := Lib.hid (show hV (runH zs r f) = .agg #[.bool u1, .int .i64 c1] by rw [hx]; rfl)
    clear hx
    go_enter Try.func5, Try.ntmps5
    go_wp2_with fail
    refine (toBoolS_any _ _ _ zs _ hs (Nat.le_refl _) hn).mono ?_
    rintro e w1 ⟨rfl, own1, b1⟩
    go_wp2_with fail
    refine (sHealthRun_any _ _ _ zs _ _ _ (Sl.of_own own1) (Nat.le_refl _) (by omega)).mono ?_
    rw [HX.out]
    rintro e w2 ⟨rfl, b2⟩
    have b12 := b1.trans (b2.mono b1.size)
    go_wp2_with fail
    have d1 := b12.alloc b12.size (.cells #[.bool u1, .int .i64 c1] 24)
    refine (toBoolS_any _ _ _ zs _ (hs.below d1 (Nat.le_refl _)) d1.size hn).mono ?_
    rintro e w3 ⟨rfl, own3, b3⟩
    have d2 := d1.trans (b3.mono d1.size)
    simp only [World.size_alloc] at own3
    go_wp2_with fail
    refine (iHealthRun_any _ _ _ zs _ _ _ (Sl.of_own own3) (Nat.le_refl _) (by omega)).mono ?_
    rw [HX.out]
    rintro e w4 ⟨rfl, b4⟩
    have d3 := d2.trans (b4.mono d2.size)
    have b34 := b3.trans (b4.mono b3.size)
    have c34 := (bcell b34).1
    have z34 := b34.size
    simp only [World.size_alloc] at c34 z34
    have y34 : w2.heap.size < w4.heap.size := by omega
    go_wp2_with fail
    refine (eqHealth_yes _ _ _).mono ?_
    rintro e w5 ⟨rfl, b5⟩
    go_wp2_with fail
    have d4 := d3.alloc d3.size (.cells #[.bool u1, .int .i64 c1] 24)
    have d5 := d4.trans (b5.mono d4.size)
    refine (toBoolS_any _ _ _ zs _ (hs.below d5 (Nat.le_refl _)) d5.size hn).mono ?_
    rintro e w6 ⟨rfl, own6, b6⟩
    go_wp2_with fail
    have s3 := ((((Sl.of_own own3).below b4 (Nat.le_refl _)).alloc b4.size (.cells #[.bool u1, .int .i64 c1] 24)).below b5 (by have := b4.size; simp; omega)).below b6 (by have := b5.size; have := b4.size; simp at *; omega)
    refine (eqBoolS_yes _ _ _ _ _ zs _ s3 (Sl.of_own own6) hn).mono ?_
    rintro e w7 ⟨rfl, b7⟩
    go_wp2_with fail
    go_ret
    have d6 := d5.trans (b6.mono d5.size)
    exact ⟨rfl, d6.trans (b7.mono d6.size)⟩
  · go_enter Try.func5, Try.ntmps5
    go_wp2
    go_ret
    exact ⟨rfl, Below.refl _ _⟩

theorem wFnExactHealthChanges (A : Option Addr) (n c : Nat) (zs : List Bool) (r f : Int) (w : World) (hs : Sl w 0 w.heap.size 1 A n (zs.map Value.bool)) (hnc : n ≤ c) (hm : c ≤ maxLen)
    (_ : -9223372036854775808 ≤ r ∧ r ≤ 9223372036854775807) (_ : -9223372036854775808 ≤ f ∧ f ≤ 9223372036854775807) :
    Calls Try.prog 7 #[.slice A n c, .int .i64 r, .int .i64 f] w fun e w' => e = .returned (.bool true) ∧ Below w.heap.size w w' := by
  unfold maxLen at hm
  by_cases hn : n ≤ 1048576
  · go_enter Try.func7, Try.ntmps7
    go_wp2_with fail
    refine (toBoolS_any _ _ _ zs _ hs (Nat.le_refl _) hn).mono ?_
    rintro e w1 ⟨rfl, own1, b1⟩
    go_wp2_with fail
    refine (sHealthChanges_any _ _ _ zs _ _ _ (Sl.of_own own1) (Nat.le_refl _) (by omega)).mono ?_
    rintro e w2 ⟨rfl, b2⟩
    have d1 := b1.trans (b2.mono b1.size)
    go_wp2_with fail
    refine (toBoolS_any _ _ _ zs _ (hs.below d1 (Nat.le_refl _)) d1.size hn).mono ?_
    rintro e w3 ⟨rfl, own3, b3⟩
    have d2 := d1.trans (b3.mono d1.size)
    go_wp2_with fail
    refine (iHealthChanges_any _ _ _ zs _ _ _ (Sl.of_own own3) (Nat.le_refl _) (by omega)).mono ?_
    rintro e w4 ⟨rfl, b4⟩
    have d3 := d2.trans (b4.mono d2.size)
    go_wp2_with fail
    refine (toBoolS_any _ _ _ zs _ (hs.below d3 (Nat.le_refl _)) d3.size hn).mono ?_
    rintro e w6 ⟨rfl, own6, b6⟩
    go_wp2_with fail
    refine (eqBoolS_yes _ _ _ _ _ zs _ (((Sl.of_own own3).below b4 (Nat.le_refl _)).below b6 b4.size) (Sl.of_own own6) hn).mono ?_
    rintro e w7 ⟨rfl, b7⟩
    go_wp2_with fail
    go_ret
    have d6 := d3.trans (b6.mono d3.size)
    exact ⟨rfl, d6.trans (b7.mono d6.size)⟩
  · go_enter Try.func7, Try.ntmps7
    go_wp2
    go_ret
    exact ⟨rfl, Below.refl _ _⟩
end Go.Proofs.Ytnhodloclonfdaa
