/-
  RampWeight of both packages: one Lean function.
-/
import Derived.Test.YtnhodloclonfdaaTime
namespace Go.Proofs.Ytnhodloclonfdaa
open Go.RowKit
set_option linter.unusedVariables false

def rampOk (a0 a1 a2 : Int) : Bool := inB a0 1 5 && inB a1 0 100000 && inB a2 1 100000
def rampW (a0 a1 a2 : Int) : Int := if rampOk a0 a1 a2 then max 1 (a0 * min a1 a2 / a2) else -1

theorem mul_bd {x y : Int} {a b : Int} (hx : 0 ≤ x ∧ x ≤ a) (hy : 0 ≤ y ∧ y ≤ b) : 0 ≤ x * y ∧ x * y ≤ a * b :=
  ⟨Int.mul_nonneg hx.1 hy.1, Int.mul_le_mul hx.2 hy.2 hy.1 (by omega)⟩
theorem div_bd {x y a : Int} (hx : 0 ≤ x ∧ x ≤ a) (hy : 1 ≤ y) : 0 ≤ x / y ∧ x / y ≤ a := by
  refine ⟨Int.ediv_nonneg hx.1 (by omega), ?_⟩
  have := Int.ediv_le_self y hx.1
  omega

theorem sRamp_any (a0 a1 a2 : Int) (w : World) :
    Calls Try.prog 46 #[.int .i64 a0, .int .i64 a1, .int .i64 a2] w fun e w' => e = .returned (.int .i64 (rampW a0 a1 a2)) ∧ w = w' := by
  by_cases hv : rampOk a0 a1 a2 = true
  · have hr : rampW a0 a1 a2 = max 1 (a0 * min a1 a2 / a2) := by unfold rampW; rw [if_pos hv]
    unfold rampOk at hv
    simp only [Bool.and_eq_true] at hv
    obtain ⟨⟨v0, v1⟩, v2⟩ := hv
    have b0 := inB_iff.1 v0
    have b1 := inB_iff.1 v1
    have b2 := inB_iff.1 v2
    rw [hr]
    clear hr
    rcases Int.lt_trichotomy a1 a2 with hlt | hlt | hlt
    · have e : min a1 a2 = a1 := by omega
      rw [e]
      have b3 := mul_bd (x := a0) (y := a1) (a := 5) (b := 100000) (by omega) (by omega)
      have b4 := div_bd (y := a2) b3 (by omega)
      clear e
      by_cases h1 : 1 < a0 * a1 / a2
      all_goals
        go_enter Try.func46, Try.ntmps46
        go_wp2_with (first | (go_at_call 38; refine (l1In_any _ _ _ _).mono ?_; rintro e w' ⟨rfl, rfl⟩) | (go_at_call 48; refine (isTime_any _ _).mono ?_; rintro e w' ⟨rfl, rfl⟩))
        go_ret
        exact ⟨ret_int (by omega), rfl⟩
    · subst hlt
      have e : min a1 a1 = a1 := by omega
      rw [e]
      have b3 := mul_bd (x := a0) (y := a1) (a := 5) (b := 100000) (by omega) (by omega)
      have b4 := div_bd (y := a1) b3 (by omega)
      clear e
      by_cases h1 : 1 < a0 * a1 / a1
      all_goals
        go_enter Try.func46, Try.ntmps46
        go_wp2_with (first | (go_at_call 38; refine (l1In_any _ _ _ _).mono ?_; rintro e w' ⟨rfl, rfl⟩) | (go_at_call 48; refine (isTime_any _ _).mono ?_; rintro e w' ⟨rfl, rfl⟩))
        go_ret
        exact ⟨ret_int (by omega), rfl⟩
    · have e : min a1 a2 = a2 := by omega
      rw [e]
      have b3 := mul_bd (x := a0) (y := a2) (a := 5) (b := 100000) (by omega) (by omega)
      have b4 := div_bd (y := a2) b3 (by omega)
      clear e
      by_cases h1 : 1 < a0 * a2 / a2
      all_goals
        go_enter Try.func46, Try.ntmps46
        go_wp2_with (first | (go_at_call 38; refine (l1In_any _ _ _ _).mono ?_; rintro e w' ⟨rfl, rfl⟩) | (go_at_call 48; refine (isTime_any _ _).mono ?_; rintro e w' ⟨rfl, rfl⟩))
        go_ret
        exact ⟨ret_int (by omega), rfl⟩
  · have hr : rampW a0 a1 a2 = -1 := by unfold rampW; rw [if_neg hv]
    rw [hr]
    clear hr
    unfold rampOk at hv
    have HV := Lib.hid hv
    clear hv
    go_enter Try.func46, Try.ntmps46
    go_wp2_with (first | (go_at_call 38; refine (l1In_any _ _ _ _).mono ?_; rintro e w' ⟨rfl, rfl⟩) | (go_at_call 48; refine (isTime_any _ _).mono ?_; rintro e w' ⟨rfl, rfl⟩))
    all_goals first | (go_ret; exact ⟨rfl, rfl⟩) | (exfalso; have hv := HV.out; simp_all)
theorem iRamp_any (a0 a1 a2 : Int) (w : World) :
    Calls Try.prog 49 #[.int .i64 a0, .int .i64 a1, .int .i64 a2] w fun e w' => e = .returned (.int .i64 (rampW a0 a1 a2)) ∧ w = w' := by
  by_cases hv : rampOk a0 a1 a2 = true
  · have hr : rampW a0 a1 a2 = max 1 (a0 * min a1 a2 / a2) := by unfold rampW; rw [if_pos hv]
    unfold rampOk at hv
    simp only [Bool.and_eq_true] at hv
    obtain ⟨⟨v0, v1⟩, v2⟩ := hv
    have b0 := inB_iff.1 v0
    have b1 := inB_iff.1 v1
    have b2 := inB_iff.1 v2
    rw [hr]
    clear hr
    rcases Int.lt_trichotomy a1 a2 with hlt | hlt | hlt
    · have e : min a1 a2 = a1 := by omega
      rw [e]
      have b3 := mul_bd (x := a0) (y := a1) (a := 5) (b := 100000) (by omega) (by omega)
      have b4 := div_bd (y := a2) b3 (by omega)
      clear e
      by_cases h1 : 1 < a0 * a1 / a2
      all_goals
        go_enter Try.func49, Try.ntmps49
        go_wp2_with (first | (go_at_call 40; refine (in_any _ _ _ _).mono ?_; rintro e w' ⟨rfl, rfl⟩) | (go_at_call 48; refine (isTime_any _ _).mono ?_; rintro e w' ⟨rfl, rfl⟩))
        go_ret
        exact ⟨ret_int (by omega), rfl⟩
    · subst hlt
      have e : min a1 a1 = a1 := by omega
      rw [e]
      have b3 := mul_bd (x := a0) (y := a1) (a := 5) (b := 100000) (by omega) (by omega)
      have b4 := div_bd (y := a1) b3 (by omega)
      clear e
      by_cases h1 : 1 < a0 * a1 / a1
      all_goals
        go_enter Try.func49, Try.ntmps49
        go_wp2_with (first | (go_at_call 40; refine (in_any _ _ _ _).mono ?_; rintro e w' ⟨rfl, rfl⟩) | (go_at_call 48; refine (isTime_any _ _).mono ?_; rintro e w' ⟨rfl, rfl⟩))
        go_ret
        exact ⟨ret_int (by omega), rfl⟩
    · have e : min a1 a2 = a2 := by omega
      rw [e]
      have b3 := mul_bd (x := a0) (y := a2) (a := 5) (b := 100000) (by omega) (by omega)
      have b4 := div_bd (y := a2) b3 (by omega)
      clear e
      by_cases h1 : 1 < a0 * a2 / a2
      all_goals
        go_enter Try.func49, Try.ntmps49
        go_wp2_with (first | (go_at_call 40; refine (in_any _ _ _ _).mono ?_; rintro e w' ⟨rfl, rfl⟩) | (go_at_call 48; refine (isTime_any _ _).mono ?_; rintro e w' ⟨rfl, rfl⟩))
        go_ret
        exact ⟨ret_int (by omega), rfl⟩
  · have hr : rampW a0 a1 a2 = -1 := by unfold rampW; rw [if_neg hv]
    rw [hr]
    clear hr
    unfold rampOk at hv
    have HV := Lib.hid hv
    clear hv
    go_enter Try.func49, Try.ntmps49
    go_wp2_with (first | (go_at_call 40; refine (in_any _ _ _ _).mono ?_; rintro e w' ⟨rfl, rfl⟩) | (go_at_call 48; refine (isTime_any _ _).mono ?_; rintro e w' ⟨rfl, rfl⟩))
    all_goals first | (go_ret; exact ⟨rfl, rfl⟩) | (exfalso; have hv := HV.out; simp_all)
end Go.Proofs.Ytnhodloclonfdaa
