/-
  Packets: PacketValid of both packages; szPacket, toPacket, eqPacket of the laws.
-/
import Derived.Test.YtleammkpfknngaaIn
import Derived.Test.YtleammkpfknngaaCopyByte
import Derived.Deep.DrawnRows
import Derived.Deep.RegionHeld3
namespace Go.Proofs.Ytleammkpfknngaa
open Go.RowKit
set_option linter.unusedVariables false

def pktV (f t k l : Int) (n : Nat) : Bool := inB f 0 255 && inB t 0 255 && inB k 1 3 && inB l 0 64 && decide (n ≤ 80)

theorem iPacketValid_any (f t k l : Int) (A : Option Addr) (n c : Nat) (w : World) :
    Calls Try.prog 15 #[.agg #[.int .i64 f, .int .i64 t, .int .i64 k, .int .i64 l, .slice A n c]] w fun e w' => e = .returned (.bool (pktV f t k l n)) ∧ w.alloc (.cells #[.int .i64 f, .int .i64 t, .int .i64 k, .int .i64 l, .slice A n c] 27) = w' := by
  go_enter Try.func15, Try.ntmps15
  go_wp2_with (go_at_call 40; refine (in_any _ _ _ _).mono ?_; rintro e w' ⟨rfl, rfl⟩)
  all_goals
    go_ret
    refine ⟨ret_bool ?_, rfl⟩
    unfold pktV
    simp [*]
  all_goals omega
theorem sPacketValid_any (f t k l : Int) (A : Option Addr) (n c : Nat) (w : World) :
    Calls Try.prog 13 #[.agg #[.int .i64 f, .int .i64 t, .int .i64 k, .int .i64 l, .slice A n c]] w fun e w' => e = .returned (.bool (pktV f t k l n)) ∧ w.alloc (.cells #[.int .i64 f, .int .i64 t, .int .i64 k, .int .i64 l, .slice A n c] 27) = w' := by
  go_enter Try.func13, Try.ntmps13
  go_wp2_with (go_at_call 39; refine (l1In_any _ _ _ _).mono ?_; rintro e w' ⟨rfl, rfl⟩)
  all_goals
    go_ret
    refine ⟨ret_bool ?_, rfl⟩
    unfold pktV
    simp [*]
  all_goals omega

theorem szByteS_any (A : Option Addr) (n c : Nat) (z : Int) (w : World) (hn : n ≤ 9223372036854775807) (h0 : 0 ≤ z) (h1 : z ≤ 1048576) :
    Calls Try.prog 38 #[.slice A n c, .int .i64 z] w fun e w' => e = .returned (.int .i64 (if z < (n : Int) then -1 else z - n)) ∧ w = w' := by
  by_cases hz : z < (n : Int)
  · rw [if_pos hz]
    go_enter Try.func38, Try.ntmps38
    go_wp2
    go_ret
    exact ⟨rfl, rfl⟩
  · rw [if_neg hz]
    go_enter Try.func38, Try.ntmps38
    go_wp2
    go_ret
    exact ⟨rfl, rfl⟩
theorem szPacket_any (f t k l : Int) (A : Option Addr) (n c : Nat) (z : Int) (w : World) (hn : n ≤ 9223372036854775807) (h0 : 0 ≤ z) (h1 : z ≤ 1048576) :
    Calls Try.prog 12 #[.agg #[.int .i64 f, .int .i64 t, .int .i64 k, .int .i64 l, .slice A n c], .int .i64 z] w fun e w' => e = .returned (.int .i64 (if z < (n : Int) then -1 else z - n)) ∧ Below w.heap.size w w' := by
  by_cases hz : z < (n : Int)
  · rw [if_pos hz]
    go_enter Try.func12, Try.ntmps12
    go_wp2_with (go_at_call 38; refine (szByteS_any _ _ _ _ _ hn h0 h1).mono ?_; rw [if_pos hz]; rintro e w' ⟨rfl, rfl⟩)
    go_ret
    exact ⟨rfl, (Below.refl _ _).alloc (Nat.le_refl _) _⟩
  · rw [if_neg hz]
    go_enter Try.func12, Try.ntmps12
    go_wp2_with (go_at_call 38; refine (szByteS_any _ _ _ _ _ hn h0 h1).mono ?_; rw [if_neg hz]; rintro e w' ⟨rfl, rfl⟩)
    go_ret
    exact ⟨rfl, (Below.refl _ _).alloc (Nat.le_refl _) _⟩
end Go.Proofs.Ytleammkpfknngaa
