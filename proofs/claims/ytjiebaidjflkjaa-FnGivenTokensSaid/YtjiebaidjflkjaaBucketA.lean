/-
  BucketValid of both packages: one Lean function; the walk of the law FnExactBucketValid.
-/
import Derived.Test.YtjiebaidjflkjaaTime
namespace Go.Proofs.Ytjiebaidjflkjaa
open Go.RowKit
set_option linter.unusedVariables false

/-- A bucket's value: rate, most, have, last. -/
def bkt (r m h l : Int) : Value := .agg #[.int .i64 r, .int .i64 m, .int .i64 h, .int .i64 l]
def bucketV (r m h l : Int) : Bool := inB r 1 1000 && inB m 1 10000 && inB h 0 m && inB l 0 100000
theorem bucketV_iff {r m h l : Int} : bucketV r m h l = true ↔ (1 ≤ r ∧ r ≤ 1000) ∧ (1 ≤ m ∧ m ≤ 10000) ∧ (0 ≤ h ∧ h ≤ m) ∧ 0 ≤ l ∧ l ≤ 100000 := by
  unfold bucketV
  simp only [Bool.and_eq_true, inB_iff, and_assoc]

theorem sBucketValid_at (r m h l : Int) (w : World) :
    Calls Try.prog 46 #[.agg #[.int .i64 r, .int .i64 m, .int .i64 h, .int .i64 l]] w fun e w' => e = .returned (.bool (bucketV r m h l)) ∧ w.alloc (.cells #[.int .i64 r, .int .i64 m, .int .i64 h, .int .i64 l] 38) = w' := by
  go_enter Try.func46, Try.ntmps46
  go_wp2_with (go_at_call 39; refine (l1In_any _ _ _ _).mono ?_; rintro e w' ⟨rfl, rfl⟩)
  all_goals
    go_ret
    refine ⟨ret_bool ?_, rfl⟩
    unfold bucketV
    simp [*]
theorem iBucketValid_at (r m h l : Int) (w : World) :
    Calls Try.prog 32 #[.agg #[.int .i64 r, .int .i64 m, .int .i64 h, .int .i64 l]] w fun e w' => e = .returned (.bool (bucketV r m h l)) ∧ w.alloc (.cells #[.int .i64 r, .int .i64 m, .int .i64 h, .int .i64 l] 38) = w' := by
  go_enter Try.func32, Try.ntmps32
  go_wp2_with (first | (go_at_call 40; refine (in_any _ _ _ _).mono ?_; rintro e w' ⟨rfl, rfl⟩) | (go_at_call 44; refine (isTime_any _ _).mono ?_; rintro e w' ⟨rfl, rfl⟩))
  all_goals
    go_ret
    refine ⟨ret_bool ?_, rfl⟩
    unfold bucketV
    simp [*]
theorem sBucketValid_any (r m h l : Int) (w : World) :
    Calls Try.prog 46 #[.agg #[.int .i64 r, .int .i64 m, .int .i64 h, .int .i64 l]] w fun e w' => e = .returned (.bool (bucketV r m h l)) ∧ Below w.heap.size w w' :=
  (sBucketValid_at r m h l w).mono fun _ _ ⟨he, hw⟩ => ⟨he, hw ▸ (Below.refl _ _).alloc (Nat.le_refl _) _⟩
theorem iBucketValid_any (r m h l : Int) (w : World) :
    Calls Try.prog 32 #[.agg #[.int .i64 r, .int .i64 m, .int .i64 h, .int .i64 l]] w fun e w' => e = .returned (.bool (bucketV r m h l)) ∧ Below w.heap.size w w' :=
  (iBucketValid_at r m h l w).mono fun _ _ ⟨he, hw⟩ => ⟨he, hw ▸ (Below.refl _ _).alloc (Nat.le_refl _) _⟩
end Go.Proofs.Ytjiebaidjflkjaa
