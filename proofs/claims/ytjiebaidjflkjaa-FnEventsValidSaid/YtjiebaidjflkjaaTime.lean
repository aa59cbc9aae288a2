/-
  'isTime': its contract.
-/
import Derived.Test.YtjiebaidjflkjaaIn
namespace Go.Proofs.Ytjiebaidjflkjaa
open Go.RowKit
set_option linter.unusedVariables false
theorem isTime_any (n : Int) (w : World) :
    Calls Try.prog 44 #[.int .i64 n] w fun e w' => e = .returned (.bool (inB n 0 100000)) ∧ w = w' := by
  go_enter Try.func44, Try.ntmps44
  go_wp2_with (go_at_call 40; refine (in_any _ _ _ _).mono ?_; rintro e w' ⟨rfl, rfl⟩)
  go_ret
  exact ⟨rfl, rfl⟩
end Go.Proofs.Ytjiebaidjflkjaa
