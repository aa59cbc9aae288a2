/-
  heldPacket of the laws.
-/
import Derived.Test.YtleammkpfknngaaMarkPkt
import Derived.Test.YtleammkpfknngaaGet0
namespace Go.Proofs.Ytleammkpfknngaa
open Go.RowKit
set_option linter.unusedVariables false

theorem heldPacket_any (f t k l : Int) (A : Option Addr) (n c : Nat) (k0 : Int) (xs : List Value) (w : World) {lo hi : Nat} (hS : Sl w lo hi 1 A n xs) (hh : hi ≤ w.heap.size) (hm : MarkedB k0 n xs) (hn : n ≤ 1048576) (h0 : 0 ≤ k0) (h1 : k0 ≤ 100000000) :
    Calls Try.prog 31 #[.agg #[.int .i64 f, .int .i64 t, .int .i64 k, .int .i64 l, .slice A n c], .int .i64 k0] w fun e w' => e = .returned (.int .i64 (k0 + n)) ∧ Below w.heap.size w w' := by
  go_enter Try.func31, Try.ntmps31
  go_wp2_with fail
  refine (heldByteS_any A n c k0 xs _ (hS.alloc hh _) hm hn h0 h1).mono ?_
  rintro e w1 ⟨rfl, rfl⟩
  go_wp2_with fail
  go_ret
  exact ⟨rfl, (Below.refl _ _).alloc (Nat.le_refl _) _⟩
theorem getB_len (zs : List Int) : (getB zs).length ≤ zs.length := by
  unfold getB
  split
  · simp
  · simp

end Go.Proofs.Ytleammkpfknngaa
