/-
  HealthStep of both packages: one Lean function.
-/
import Derived.Test.YtnhodloclonfdaaIn
namespace Go.Proofs.Ytnhodloclonfdaa
open Go.RowKit
set_option linter.unusedVariables false

def healthOk (r f c : Int) : Bool := inB r 1 10 && inB f 1 10 && inB c 0 10
def stepH (u : Bool) (c : Int) (a : Bool) (r f : Int) : Bool × Int :=
  if healthOk r f c then (if a = u then (u, 0) else if (if u then f else r) ≤ c + 1 then (!u, 0) else (u, c + 1)) else (false, 0)
/-- A health's value. -/
def hV (h : Bool × Int) : Value := .agg #[.bool h.1, .int .i64 h.2]
theorem ret_h {x : Bool × Int} {u : Bool} {c : Int} (h : x = (u, c)) : Ending.returned (.agg #[.bool u, .int .i64 c]) = .returned (hV x) := by rw [h]; rfl
theorem stepH_same {u : Bool} {c r f : Int} (h : healthOk r f c = true) : stepH u c u r f = (u, 0) := by unfold stepH; simp [h]
theorem stepH_up {c r f : Int} (h : healthOk r f c = true) (hn : r ≤ c + 1) : stepH false c true r f = (true, 0) := by unfold stepH; simp [h, hn]
theorem stepH_notup {c r f : Int} (h : healthOk r f c = true) (hn : ¬ r ≤ c + 1) : stepH false c true r f = (false, c + 1) := by unfold stepH; simp [h, hn]
theorem stepH_down {c r f : Int} (h : healthOk r f c = true) (hn : f ≤ c + 1) : stepH true c false r f = (false, 0) := by unfold stepH; simp [h, hn]
theorem stepH_notdown {c r f : Int} (h : healthOk r f c = true) (hn : ¬ f ≤ c + 1) : stepH true c false r f = (true, c + 1) := by unfold stepH; simp [h, hn]
theorem stepH_bad {u a : Bool} {c r f : Int} (h : ¬ healthOk r f c = true) : stepH u c a r f = (false, 0) := by unfold stepH; rw [if_neg h]

theorem needed_any (r f : Int) (w : World) :
    Calls Try.prog 39 #[.int .i64 r, .int .i64 f] w fun e w' => e = .returned (.bool (inB r 1 10 && inB f 1 10)) ∧ w = w' := by
  go_enter Try.func39, Try.ntmps39
  go_wp2_with (go_at_call 40; refine (in_any _ _ _ _).mono ?_; rintro e w' ⟨rfl, rfl⟩)
  all_goals
    go_ret
    refine ⟨ret_bool ?_, rfl⟩
    simp [*]

theorem sHealthStep_any (u : Bool) (c : Int) (a : Bool) (r f : Int) (w : World) :
    Calls Try.prog 11 #[.agg #[.bool u, .int .i64 c], .bool a, .int .i64 r, .int .i64 f] w fun e w' => e = .returned (hV (stepH u c a r f)) ∧ Below w.heap.size w w' := by
  by_cases hv : healthOk r f c = true
  · have hv' := hv
    unfold healthOk at hv'
    simp only [Bool.and_eq_true] at hv'
    obtain ⟨⟨v0, v1⟩, v2⟩ := hv'
    have b0 := inB_iff.1 v0
    have b1 := inB_iff.1 v1
    have b2 := inB_iff.1 v2
    cases u <;> cases a
    · have HE := Lib.hid (stepH_same (u := false) hv)
      clear hv
      go_enter Try.func11, Try.ntmps11
      go_wp2_with (first | (go_at_call 38; refine (l1In_any _ _ _ _).mono ?_; rintro e w' ⟨rfl, rfl⟩))
      exact bodyPost_ret (v := .agg #[.bool false, .int .i64 0]) (by simp [results, Try.results11, go_sem]) rfl ⟨ret_h HE.out, by (repeat' first | exact Below.refl _ _ | refine Below.alloc ?_ (by simp; try omega) _)⟩
    · by_cases hn : r ≤ c + 1
      · have HE := Lib.hid (stepH_up (c := c) hv hn)
        clear hv
        go_enter Try.func11, Try.ntmps11
        go_wp2_with (first | (go_at_call 38; refine (l1In_any _ _ _ _).mono ?_; rintro e w' ⟨rfl, rfl⟩))
        exact bodyPost_ret (v := .agg #[.bool true, .int .i64 0]) (by simp [results, Try.results11, go_sem]) rfl ⟨ret_h HE.out, by (repeat' first | exact Below.refl _ _ | refine Below.alloc ?_ (by simp; try omega) _)⟩
      · have HE := Lib.hid (stepH_notup (c := c) hv hn)
        clear hv
        go_enter Try.func11, Try.ntmps11
        go_wp2_with (first | (go_at_call 38; refine (l1In_any _ _ _ _).mono ?_; rintro e w' ⟨rfl, rfl⟩))
        exact bodyPost_ret (v := .agg #[.bool false, .int .i64 (c + 1)]) (by simp [results, Try.results11, go_sem]) rfl ⟨ret_h HE.out, by (repeat' first | exact Below.refl _ _ | refine Below.alloc ?_ (by simp; try omega) _)⟩
    · by_cases hn : f ≤ c + 1
      · have HE := Lib.hid (stepH_down (c := c) hv hn)
        clear hv
        go_enter Try.func11, Try.ntmps11
        go_wp2_with (first | (go_at_call 38; refine (l1In_any _ _ _ _).mono ?_; rintro e w' ⟨rfl, rfl⟩))
        exact bodyPost_ret (v := .agg #[.bool false, .int .i64 0]) (by simp [results, Try.results11, go_sem]) rfl ⟨ret_h HE.out, by (repeat' first | exact Below.refl _ _ | refine Below.alloc ?_ (by simp; try omega) _)⟩
      · have HE := Lib.hid (stepH_notdown (c := c) hv hn)
        clear hv
        go_enter Try.func11, Try.ntmps11
        go_wp2_with (first | (go_at_call 38; refine (l1In_any _ _ _ _).mono ?_; rintro e w' ⟨rfl, rfl⟩))
        exact bodyPost_ret (v := .agg #[.bool true, .int .i64 (c + 1)]) (by simp [results, Try.results11, go_sem]) rfl ⟨ret_h HE.out, by (repeat' first | exact Below.refl _ _ | refine Below.alloc ?_ (by simp; try omega) _)⟩
    · have HE := Lib.hid (stepH_same (u := true) hv)
      clear hv
      go_enter Try.func11, Try.ntmps11
      go_wp2_with (first | (go_at_call 38; refine (l1In_any _ _ _ _).mono ?_; rintro e w' ⟨rfl, rfl⟩))
      exact bodyPost_ret (v := .agg #[.bool true, .int .i64 0]) (by simp [results, Try.results11, go_sem]) rfl ⟨ret_h HE.out, by (repeat' first | exact Below.refl _ _ | refine Below.alloc ?_ (by simp; try omega) _)⟩
  · have HE := Lib.hid (stepH_bad (u := u) (a := a) hv)
    by_cases v0 : inB r 1 10 = true
    · by_cases v1 : inB f 1 10 = true
      · have v2 : inB c 0 10 = false := by unfold healthOk at hv; simp_all
        clear hv
        go_enter Try.func11, Try.ntmps11
        go_wp2_with (first | (go_at_call 38; refine (l1In_any _ _ _ _).mono ?_; rintro e w' ⟨rfl, rfl⟩))
        exact bodyPost_ret (v := .agg #[.bool false, .int .i64 0]) (by simp [results, Try.results11, go_sem]) rfl ⟨ret_h HE.out, by (repeat' first | exact Below.refl _ _ | refine Below.alloc ?_ (by simp; try omega) _)⟩
      · have v1' := Bool.eq_false_iff.2 v1
        clear hv v1
        go_enter Try.func11, Try.ntmps11
        go_wp2_with (first | (go_at_call 38; refine (l1In_any _ _ _ _).mono ?_; rintro e w' ⟨rfl, rfl⟩))
        exact bodyPost_ret (v := .agg #[.bool false, .int .i64 0]) (by simp [results, Try.results11, go_sem]) rfl ⟨ret_h HE.out, by (repeat' first | exact Below.refl _ _ | refine Below.alloc ?_ (by simp; try omega) _)⟩
    · have v0' := Bool.eq_false_iff.2 v0
      clear hv v0
      go_enter Try.func11, Try.ntmps11
      go_wp2_with (first | (go_at_call 38; refine (l1In_any _ _ _ _).mono ?_; rintro e w' ⟨rfl, rfl⟩))
      exact bodyPost_ret (v := .agg #[.bool false, .int .i64 0]) (by simp [results, Try.results11, go_sem]) rfl ⟨ret_h HE.out, by (repeat' first | exact Below.refl _ _ | refine Below.alloc ?_ (by simp; try omega) _)⟩

theorem iHealthStep_any (u : Bool) (c : Int) (a : Bool) (r f : Int) (w : World) :
    Calls Try.prog 13 #[.agg #[.bool u, .int .i64 c], .bool a, .int .i64 r, .int .i64 f] w fun e w' => e = .returned (hV (stepH u c a r f)) ∧ Below w.heap.size w w' := by
  by_cases hv : healthOk r f c = true
  · have hv' := hv
    unfold healthOk at hv'
    simp only [Bool.and_eq_true] at hv'
    obtain ⟨⟨v0, v1⟩, v2⟩ := hv'
    have b0 := inB_iff.1 v0
    have b1 := inB_iff.1 v1
    have b2 := inB_iff.1 v2
    cases u <;> cases a
    · have HE := Lib.hid (stepH_same (u := false) hv)
      clear hv
      go_enter Try.func13, Try.ntmps13
      go_wp2_with (first | (go_at_call 40; refine (in_any _ _ _ _).mono ?_; rintro e w' ⟨rfl, rfl⟩) | (go_at_call 39; refine (needed_any _ _ _).mono ?_; rintro e w' ⟨rfl, rfl⟩))
      exact bodyPost_ret (v := .agg #[.bool false, .int .i64 0]) (by simp [results, Try.results13, go_sem]) rfl ⟨ret_h HE.out, by (repeat' first | exact Below.refl _ _ | refine Below.alloc ?_ (by simp; try omega) _)⟩
    · by_cases hn : r ≤ c + 1
      · have HE := Lib.hid (stepH_up (c := c) hv hn)
        clear hv
        go_enter Try.func13, Try.ntmps13
        go_wp2_with (first | (go_at_call 40; refine (in_any _ _ _ _).mono ?_; rintro e w' ⟨rfl, rfl⟩) | (go_at_call 39; refine (needed_any _ _ _).mono ?_; rintro e w' ⟨rfl, rfl⟩))
        exact bodyPost_ret (v := .agg #[.bool true, .int .i64 0]) (by simp [results, Try.results13, go_sem]) rfl ⟨ret_h HE.out, by (repeat' first | exact Below.refl _ _ | refine Below.alloc ?_ (by simp; try omega) _)⟩
      · have HE := Lib.hid (stepH_notup (c := c) hv hn)
        clear hv
        go_enter Try.func13, Try.ntmps13
        go_wp2_with (first | (go_at_call 40; refine (in_any _ _ _ _).mono ?_; rintro e w' ⟨rfl, rfl⟩) | (go_at_call 39; refine (needed_any _ _ _).mono ?_; rintro e w' ⟨rfl, rfl⟩))
        exact bodyPost_ret (v := .agg #[.bool false, .int .i64 (c + 1)]) (by simp [results, Try.results13, go_sem]) rfl ⟨ret_h HE.out, by (repeat' first | exact Below.refl _ _ | refine Below.alloc ?_ (by simp; try omega) _)⟩
    · by_cases hn : f ≤ c + 1
      · have HE := Lib.hid (stepH_down (c := c) hv hn)
        clear hv
        go_enter Try.func13, Try.ntmps13
        go_wp2_with (first | (go_at_call 40; refine (in_any _ _ _ _).mono ?_; rintro e w' ⟨rfl, rfl⟩) | (go_at_call 39; refine (needed_any _ _ _).mono ?_; rintro e w' ⟨rfl, rfl⟩))
        exact bodyPost_ret (v := .agg #[.bool false, .int .i64 0]) (by simp [results, Try.results13, go_sem]) rfl ⟨ret_h HE.out, by (repeat' first | exact Below.refl _ _ | refine Below.alloc ?_ (by simp; try omega) _)⟩
      · have HE := Lib.hid (stepH_notdown (c := c) hv hn)
        clear hv
        go_enter Try.func13, Try.ntmps13
        go_wp2_with (first | (go_at_call 40; refine (in_any _ _ _ _).mono ?_; rintro e w' ⟨rfl, rfl⟩) | (go_at_call 39; refine (needed_any _ _ _).mono ?_; rintro e w' ⟨rfl, rfl⟩))
        exact bodyPost_ret (v := .agg #[.bool true, .int .i64 (c + 1)]) (by simp [results, Try.results13, go_sem]) rfl ⟨ret_h HE.out, by (repeat' first | exact Below.refl _ _ | refine Below.alloc ?_ (by simp; try omega) _)⟩
    · have HE := Lib.hid (stepH_same (u := true) hv)
      clear hv
      go_enter Try.func13, Try.ntmps13
      go_wp2_with (first | (go_at_call 40; refine (in_any _ _ _ _).mono ?_; rintro e w' ⟨rfl, rfl⟩) | (go_at_call 39; refine (needed_any _ _ _).mono ?_; rintro e w' ⟨rfl, rfl⟩))
      exact bodyPost_ret (v := .agg #[.bool true, .int .i64 0]) (by simp [results, Try.results13, go_sem]) rfl ⟨ret_h HE.out, by (repeat' first | exact Below.refl _ _ | refine Below.alloc ?_ (by simp; try omega) _)⟩
  · have HE := Lib.hid (stepH_bad (u := u) (a := a) hv)
    by_cases v0 : inB r 1 10 = true
    · by_cases v1 : inB f 1 10 = true
      · have v2 : inB c 0 10 = false := by unfold healthOk at hv; simp_all
        clear hv
        go_enter Try.func13, Try.ntmps13
        go_wp2_with (first | (go_at_call 40; refine (in_any _ _ _ _).mono ?_; rintro e w' ⟨rfl, rfl⟩) | (go_at_call 39; refine (needed_any _ _ _).mono ?_; rintro e w' ⟨rfl, rfl⟩))
        exact bodyPost_ret (v := .agg #[.bool false, .int .i64 0]) (by simp [results, Try.results13, go_sem]) rfl ⟨ret_h HE.out, by (repeat' first | exact Below.refl _ _ | refine Below.alloc ?_ (by simp; try omega) _)⟩
      · have v1' := Bool.eq_false_iff.2 v1
        clear hv v1
        go_enter Try.func13, Try.ntmps13
        go_wp2_with (first | (go_at_call 40; refine (in_any _ _ _ _).mono ?_; rintro e w' ⟨rfl, rfl⟩) | (go_at_call 39; refine (needed_any _ _ _).mono ?_; rintro e w' ⟨rfl, rfl⟩))
        exact bodyPost_ret (v := .agg #[.bool false, .int .i64 0]) (by simp [results, Try.results13, go_sem]) rfl ⟨ret_h HE.out, by (repeat' first | exact Below.refl _ _ | refine Below.alloc ?_ (by simp; try omega) _)⟩
    · have v0' := Bool.eq_false_iff.2 v0
      clear hv v0
      go_enter Try.func13, Try.ntmps13
      go_wp2_with (first | (go_at_call 40; refine (in_any _ _ _ _).mono ?_; rintro e w' ⟨rfl, rfl⟩) | (go_at_call 39; refine (needed_any _ _ _).mono ?_; rintro e w' ⟨rfl, rfl⟩))
      exact bodyPost_ret (v := .agg #[.bool false, .int .i64 0]) (by simp [results, Try.results13, go_sem]) rfl ⟨ret_h HE.out, by (repeat' first | exact Below.refl _ _ | refine Below.alloc ?_ (by simp; try omega) _)⟩
end Go.Proofs.Ytnhodloclonfdaa
