/-
  The walk of the drawn law FnPacketValid.
-/
import Derived.Test.YtleammkpfknngaaDrawPkt
import Derived.Test.YtleammkpfknngaaPktA
namespace Go.Proofs.Ytleammkpfknngaa
open Go.RowKit
set_option linter.unusedVariables false

set_option maxHeartbeats 1600000 in
theorem wFnPacketValid (A : Option Addr) (n c : Nat) (zs : List Int) (w : World) (hs : Sl w 0 w.heap.size 1 A n (zs.map (Value.int .u8))) (hnc : n ≤ c) (hm : c ≤ maxLen) (hw : ∀ z ∈ zs, (Lit.int .u8 z).wf = true) :
    Calls Try.prog 4 #[.slice A n c] w fun e w' => e = .returned (.bool true) ∧ Below w.heap.size w w' := by
  unfold maxLen at hm
  have hz := AllByte.of_wf hw
  clear hw
  by_cases hn : n ≤ 1048576
  · have hn1 : ¬ ((1048576 : Int) < (n : Int)) := by omega
    go_enter Try.func4, Try.ntmps4
    go_wp2_with fail
    refine (drawPacketValid_any _ _ _ zs _ hs hnc (by omega) hz).mono ?_
    rintro e w1 ⟨f, t, k, l, B, m, mc, ps, rfl, h1, h2, h3, h4, own, b1⟩
    have h4f : pktV f t 4 l m = false := by unfold pktV; rw [show inB 4 1 3 = false from rfl]; simp
    by_cases hv : pktV f t k l m = true
    · have h0 : pktV f t k l 0 = true := by
        unfold pktV at hv ⊢
        simp only [Bool.and_eq_true, decide_eq_true_eq] at hv ⊢
        exact ⟨hv.1, by omega⟩
      go_wp2_with (first
        | (go_at_call 15; refine (iPacketValid_any _ _ _ _ _ _ _ _).mono ?_; (first | rw [hv] | rw [h4f] | rw [h0]); rintro e w' ⟨rfl, rfl⟩)
        | (go_at_call 13; refine (sPacketValid_any _ _ _ _ _ _ _ _).mono ?_; rw [hv]; rintro e w' ⟨rfl, rfl⟩)
        | (go_at_call 18; refine (alive_any _).mono ?_; rintro e wz ⟨rfl, bz⟩))
      go_ret
      have z1 := b1.size
      refine ⟨rfl, Below.trans ?_ (bz.mono (by simp; omega))⟩
      repeat (first | exact b1 | exact b1.alloc z1 _ | refine Below.alloc ?_ (by simp; omega) _ | refine Below.setCell ?_ (by simp; omega) _)
    · have hv := Bool.eq_false_iff.2 hv
      go_wp2_with (first
        | (go_at_call 15; refine (iPacketValid_any _ _ _ _ _ _ _ _).mono ?_; (first | rw [hv] | rw [h4f]); rintro e w' ⟨rfl, rfl⟩)
        | (go_at_call 13; refine (sPacketValid_any _ _ _ _ _ _ _ _).mono ?_; rw [hv]; rintro e w' ⟨rfl, rfl⟩)
        | (go_at_call 18; refine (alive_any _).mono ?_; rintro e wz ⟨rfl, bz⟩))
      go_ret
      have z1 := b1.size
      refine ⟨rfl, Below.trans ?_ (bz.mono (by simp; omega))⟩
      repeat (first | exact b1 | exact b1.alloc z1 _ | refine Below.alloc ?_ (by simp; omega) _ | refine Below.setCell ?_ (by simp; omega) _)
  · go_enter Try.func4, Try.ntmps4
    go_wp2
    go_ret
    exact ⟨rfl, Below.refl _ _⟩
end Go.Proofs.Ytleammkpfknngaa
