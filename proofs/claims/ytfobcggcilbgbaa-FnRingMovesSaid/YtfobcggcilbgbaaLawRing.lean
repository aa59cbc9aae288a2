/-
  The walk of the drawn law FnRingMoves.
-/
import Derived.Test.YtfobcggcilbgbaaSetSt
namespace Go.Proofs.Ytfobcggcilbgbaa
open Go.RowKit
set_option linter.unusedVariables false

set_option maxRecDepth 100000 in
set_option maxHeartbeats 3200000 in
theorem wFnRingMoves (A : Option Addr) (n c : Nat) (zs : List Int) (w : World) (hs : Sl w 0 w.heap.size 1 A n (zs.map (Value.int .u8))) (hnc : n ≤ c) (hm : c ≤ maxLen) (hw : ∀ z ∈ zs, (Lit.int .u8 z).wf = true) :
    Calls Try.prog 6 #[.slice A n c] w fun e w' => e = .returned (.bool true) ∧ Below w.heap.size w w' := by
  unfold maxLen at hm
  have hz := AllByte.of_wf hw
  clear hw
  by_cases hn : n ≤ 1048576
  · have hn1 : ¬ ((1048576 : Int) < (n : Int)) := by omega
    go_enter Try.func6, Try.ntmps6
    go_wp2_with fail
    refine (drawHostBy_any _ _ _ zs _ hs hnc (by omega) hz).mono ?_
    rintro e w1 ⟨way, B, k, kc, ps, key, rfl, y0, y1, h1, h2, h3, q0, q1, sP, b1⟩
    have hP := Lib.hid sP.hlen
    obtain ⟨x, hx⟩ : ∃ x, hostBy way ps key = x := ⟨_, rfl⟩
    have HX := Lib.hid hx
    clear hx
    go_wp2_with fail
    refine (iHostBy_any _ _ _ _ _ ps _ sP (Nat.le_refl _) (by omega)).mono ?_
    rw [HX.out]
    rintro e w2 ⟨rfl, b2⟩
    have sP2 := sP.below b2 (Nat.le_refl _)
    have z2 := b2.size
    go_wp2_with fail
    refine (sHostBy_any _ _ _ _ _ ps _ sP2 z2 (by omega)).mono ?_
    rw [HX.out]
    rintro e w3 ⟨rfl, b3⟩
    have b13 := b2.trans (b3.mono z2)
    have sP3 := sP.below b13 (Nat.le_refl _)
    have z3 := b13.size
    have d3 := b1.trans (b13.mono b1.size)
    clear sP sP2 b2 b3 b13 HX
    have HL := hostBy_cases 2 ps key
    obtain ⟨y, hy⟩ : ∃ y, hostBy 2 ps key = y := ⟨_, rfl⟩
    have HY := Lib.hid hy
    rw [hy] at HL
    clear hy
    go_wp2_with fail
    refine (iHostBy_any _ _ _ _ _ ps _ sP3 z3 (by omega)).mono ?_
    rw [HY.out]
    rintro e w4 ⟨rfl, b4⟩
    have d4 := d3.trans (b4.mono d3.size)
    have sP4 := sP3.below b4 z3
    have z4 := Nat.le_trans z3 b4.size
    clear b4 sP3 d3 z3
    go_wp2_with fail
    go_loopw [7] (fun i wr => ∃ j : Nat, j ≤ k ∧ i = .int .i64 j ∧ Below w4.heap.size w4 wr) (fun i _ => k - (intOf i).toNat)
    case atStart => exact ⟨0, Nat.zero_le _, rfl, Below.refl _ _⟩
    case round =>
      obtain ⟨j, hj, rfl, hb⟩ := hrel
      have hbz := hb.size
      by_cases hlt : j < k
      · have hji : (j : Int) < (k : Int) := by omega
        by_cases h0 : 0 ≤ y
        · obtain ⟨hv, _⟩ := HL.resolve_left (by omega)
          have sPr := sP4.below hb z4
          obtain ⟨b, off, rfl, _, _, c0, c1, c2⟩ := sPr.host hlt
          obtain ⟨z, hz⟩ : ∃ z, (hAt ps j).1 = z := ⟨_, rfl⟩
          have HM : RowKit.Hid (z ≠ y → hostBy 2 (setSt ps z 0) key = y) := Lib.hid fun h => (moves_law (by rw [HY.out]; exact h0) (by rw [HY.out]; exact h)).trans HY.out
          have HZ := Lib.hid hz
          rw [hz] at c0
          clear hz c1 c2 HL
          have hj0 : (0 : Int) ≤ (j : Int) := by omega
          by_cases hzy : z = y
          · subst hzy
            go_wp2_with fail
            refine (iSetState_yes _ _ _ ps _ _ _ sPr (by omega) (by omega) hv hlt HZ.out rfl).mono ?_
            rintro e w5 ⟨A5, c5, rfl, own5, b5⟩
            have c0' := (b5.cell (World.block_lt_of_cell? _ _ c0)).trans c0
            go_wp2
            go_roundw
            case rel => exact ⟨j + 1, by omega, by go_num, hb.trans (b5.mono hbz)⟩
            case measure => simp [intOf]; omega
          · have HM2 := Lib.hid (HM.out hzy)
            have hzb : (z != y) = true := by simpa using hzy
            go_wp2_with fail
            refine (iSetState_yes _ _ _ ps _ _ _ sPr (by omega) (by omega) hv hlt HZ.out rfl).mono ?_
            rintro e w5 ⟨A5, c5, rfl, own5, b5⟩
            have c0' := (b5.cell (World.block_lt_of_cell? _ _ c0)).trans c0
            have s5 := Sl.of_own own5
            go_wp2_with fail
            refine (iHostBy_any _ _ _ _ _ _ _ s5 (Nat.le_refl _) (by omega)).mono ?_
            rw [HM2.out]
            rintro e w6 ⟨rfl, b6⟩
            have b56 := b5.trans (b6.mono b5.size)
            go_wp2
            go_roundw
            case rel => exact ⟨j + 1, by omega, by go_num, hb.trans (b56.mono hbz)⟩
            case measure => simp [intOf]; omega
        · go_wp2_with (go_at_call 17; refine (alive_any _).mono ?_; rintro e w5 ⟨rfl, b5⟩)
          go_ret
          exact ⟨rfl, (d4.trans (hb.mono d4.size)).trans (b5.mono (Nat.le_trans d4.size hbz))⟩
      · obtain rfl : k = j := by omega
        go_wp2_with (go_at_call 17; refine (alive_any _).mono ?_; rintro e w5 ⟨rfl, b5⟩)
        go_ret
        exact ⟨rfl, (d4.trans (hb.mono d4.size)).trans (b5.mono (Nat.le_trans d4.size hbz))⟩
  · go_enter Try.func6, Try.ntmps6
    go_wp2
    go_ret
    exact ⟨rfl, Below.refl _ _⟩
end Go.Proofs.Ytfobcggcilbgbaa
