/-
  toBucket of the laws: the same four numbers; the walk of the law FnExactBucketValid.
-/
import Derived.Test.YtjiebaidjflkjaaBucketA
namespace Go.Proofs.Ytjiebaidjflkjaa
open Go.RowKit
set_option linter.unusedVariables false
theorem toBucket_any (r m h l : Int) (w : World) :
    Calls Try.prog 28 #[.agg #[.int .i64 r, .int .i64 m, .int .i64 h, .int .i64 l]] w fun e w' => e = .returned (.agg #[.int .i64 r, .int .i64 m, .int .i64 h, .int .i64 l]) ∧ Below w.heap.size w w' := by
  go_enter Try.func28, Try.ntmps28
  go_wp2
  refine bodyPost_ret (v := .agg #[.int .i64 r, .int .i64 m, .int .i64 h, .int .i64 l]) (by simp [results, Try.results28, go_sem]) rfl ⟨rfl, ?_⟩
  repeat' first | exact Below.refl _ _ | refine Below.alloc ?_ (by simp; try omega) _
end Go.Proofs.Ytjiebaidjflkjaa
