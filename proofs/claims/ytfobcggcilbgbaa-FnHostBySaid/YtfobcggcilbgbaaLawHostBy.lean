/-
  The walk of the drawn law FnHostBy.
-/
import Derived.Test.YtfobcggcilbgbaaDrawHost
import Derived.Test.YtfobcggcilbgbaaHostL
namespace Go.Proofs.Ytfobcggcilbgbaa
open Go.RowKit
set_option linter.unusedVariables false

set_option maxRecDepth 100000 in
set_option maxHeartbeats 1600000 in
theorem wFnHostBy (A : Option Addr) (n c : Nat) (zs : List Int) (w : World) (hs : Sl w 0 w.heap.size 1 A n (zs.map (Value.int .u8))) (hnc : n ≤ c) (hm : c ≤ maxLen) (hw : ∀ z ∈ zs, (Lit.int .u8 z).wf = true) :
    Calls Try.prog 4 #[.slice A n c] w fun e w' => e = .returned (.bool true) ∧ Below w.heap.size w w' := by
  unfold maxLen at hm
  have hz := AllByte.of_wf hw
  clear hw
  by_cases hn : n ≤ 1048576
  · have hn1 : ¬ ((1048576 : Int) < (n : Int)) := by omega
    go_enter Try.func4, Try.ntmps4
    go_wp2_with fail
    refine (drawHostBy_any _ _ _ zs _ hs hnc (by omega) hz).mono ?_
    rintro e w1 ⟨way, B, k, kc, ps, key, rfl, y0, y1, h1, h2, h3, q0, q1, sP, b1⟩
    have HL := hostBy_law way ps key
    obtain ⟨x, hx⟩ : ∃ x, hostBy way ps key = x := ⟨_, rfl⟩
    have HX := Lib.hid hx
    rw [hx] at HL
    clear hx
    go_wp2_with fail
    refine (iHostBy_any _ _ _ _ _ ps _ sP (Nat.le_refl _) (by omega)).mono ?_
    rw [HX.out]
    rintro e w2 ⟨rfl, b2⟩
    have sP2 := sP.below b2 (Nat.le_refl _)
    have z2 := b2.size
    go_wp2_with fail
    refine (sHostBy_any _ _ _ _ _ ps _ sP2 z2 (by omega)).mono ?_
    rw [HX.out]
    rintro e w3 ⟨rfl, b3⟩
    have b13 := b2.trans (b3.mono z2)
    have sP3 := sP.below b13 (Nat.le_refl _)
    have z3 := b13.size
    have d3 := b1.trans (b13.mono b1.size)
    clear sP sP2 b2 b3 b13
    rcases HL with rfl | ⟨p0, p1, pa⟩
    · go_wp2_with (go_at_call 17; refine (alive_any _).mono ?_; rintro e w5 ⟨rfl, b5⟩)
      go_ret
      exact ⟨rfl, d3.trans (b5.mono d3.size)⟩
    · have hx0 : ¬ x < 0 := by omega
      go_wp2_with fail
      go_loopw [7] (fun i wr => ∃ j : Nat, 1 ≤ j ∧ j ≤ 5 ∧ i = .int .i64 j ∧ Below w3.heap.size w3 wr) (fun i _ => 5 - (intOf i).toNat)
      case atStart => exact ⟨1, by omega, by omega, rfl, Below.refl _ _⟩
      case round =>
        obtain ⟨j, hj1, hj, rfl, hb⟩ := hrel
        by_cases hlt : j ≤ 4
        · have hji : (j : Int) ≤ 4 := by omega
          have hbz := hb.size
          go_wp2_with fail
          refine (iHostBy_any _ _ _ _ _ ps _ (sP3.below hb z3) (by omega) (by omega)).mono ?_
          rintro e w5 ⟨rfl, b5⟩
          have hb5 := hb.trans (b5.mono hbz)
          have hbz5 := hb5.size
          go_wp2_with fail
          refine (iHostState_any _ _ _ ps _ _ (sP3.below hb5 z3) (by omega) (by omega)).mono ?_
          rw [pa j (by omega) (by omega)]
          rintro e w6 ⟨rfl, b6⟩
          go_wp2
          go_roundw
          case rel => exact ⟨j + 1, by omega, by omega, by go_num, hb5.trans (b6.mono hbz5)⟩
          case measure => simp [intOf]; omega
        · obtain rfl : j = 5 := by omega
          have hbz := hb.size
          go_wp2_with fail
          refine (iHostState_any _ _ _ ps _ _ (sP3.below hb z3) (by omega) (by omega)).mono ?_
          rw [p1]
          rintro e w6 ⟨rfl, b6⟩
          go_wp2
          go_ret
          exact ⟨rfl, (d3.trans (hb.mono d3.size)).trans (b6.mono (Nat.le_trans d3.size hb.size))⟩
  · go_enter Try.func4, Try.ntmps4
    go_wp2
    go_ret
    exact ⟨rfl, Below.refl _ _⟩
end Go.Proofs.Ytfobcggcilbgbaa
