/-
  toBucket of the laws: the same four numbers; the walk of the law FnExactBucketValid.
-/
import Derived.Test.YtahpnlnplngafaaBucketA
namespace Go.Proofs.Ytahpnlnplngafaa
open Go.RowKit
set_option linter.unusedVariables false
theorem toBucket_any (r m h l : Int) (w : World) :
    Calls Try.prog 36 #[.agg #[.int .i64 r, .int .i64 m, .int .i64 h, .int .i64 l]] w fun e w' => e = .returned (.agg #[.int .i64 r, .int .i64 m, .int .i64 h, .int .i64 l]) ∧ Below w.heap.size w w' := by
  go_enter Try.func36, Try.ntmps36
  go_wp2
  refine bodyPost_ret (v := .agg #[.int .i64 r, .int .i64 m, .int .i64 h, .int .i64 l]) (by simp [results, Try.results36, go_sem]) rfl ⟨rfl, ?_⟩
  repeat' first | exact Below.refl _ _ | refine Below.alloc ?_ (by simp; try omega) _
theorem wExactBucketValid (r m h l : Int) (w : World) (_ : -9223372036854775808 ≤ r ∧ r ≤ 9223372036854775807) (_ : -9223372036854775808 ≤ m ∧ m ≤ 9223372036854775807) (_ : -9223372036854775808 ≤ h ∧ h ≤ 9223372036854775807) (_ : -9223372036854775808 ≤ l ∧ l ≤ 9223372036854775807) :
    Calls Try.prog 13 #[.agg #[.int .i64 r, .int .i64 m, .int .i64 h, .int .i64 l]] w fun e w' => e = .returned (.bool true) ∧ Below w.heap.size w w' := by
  go_enter Try.func13, Try.ntmps13
  go_wp2_with fail
  refine (toBucket_any _ _ _ _ _).mono ?_
  rintro e w1 ⟨rfl, b1⟩
  go_wp2_with fail
  refine (sBucketValid_any _ _ _ _ _).mono ?_
  rintro e w2 ⟨rfl, b2⟩
  have b12 := b1.trans (b2.mono b1.size)
  have c12 := (bcell b12).1
  simp only [World.size_alloc] at c12
  go_wp2_with fail
  refine (toBucket_any _ _ _ _ _).mono ?_
  rintro e w3 ⟨rfl, b3⟩
  go_wp2_with fail
  refine (iBucketValid_any _ _ _ _ _).mono ?_
  rintro e w4 ⟨rfl, b4⟩
  go_wp2_with fail
  go_ret
  have b14 := (b12.trans (b3.mono b12.size)).trans (b4.mono (b12.trans (b3.mono b12.size)).size)
  exact ⟨rfl, ((Below.refl _ _).alloc (Nat.le_refl _) _).trans (b14.mono (by simp))⟩
end Go.Proofs.Ytahpnlnplngafaa
