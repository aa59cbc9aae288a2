/-
  The walk of the drawn law FnNewHost.
-/
import Derived.Test.YtfobcggcilbgbaaSetSt
namespace Go.Proofs.Ytfobcggcilbgbaa
open Go.RowKit
set_option linter.unusedVariables false

set_option maxRecDepth 100000 in
set_option maxHeartbeats 3200000 in
theorem wFnNewHost (A : Option Addr) (n c : Nat) (zs : List Int) (w : World) (hs : Sl w 0 w.heap.size 1 A n (zs.map (Value.int .u8))) (hnc : n ≤ c) (hm : c ≤ maxLen) (hw : ∀ z ∈ zs, (Lit.int .u8 z).wf = true) :
    Calls Try.prog 5 #[.slice A n c] w fun e w' => e = .returned (.bool true) ∧ Below w.heap.size w w' := by
  unfold maxLen at hm
  have hz := AllByte.of_wf hw
  clear hw
  by_cases hn : n ≤ 1048576
  · have hn1 : ¬ ((1048576 : Int) < (n : Int)) := by omega
    go_enter Try.func5, Try.ntmps5
    go_wp2_with fail
    refine (drawHostBy_any _ _ _ zs _ hs hnc (by omega) hz).mono ?_
    rintro e w1 ⟨way, B, k, kc, ps, key, rfl, y0, y1, h1, h2, h3, q0, q1, sP, b1⟩
    have hP := Lib.hid sP.hlen
    obtain ⟨x, hx⟩ : ∃ x, hostBy way ps key = x := ⟨_, rfl⟩
    have HX := Lib.hid hx
    clear hx
    go_wp2_with fail
    refine (iHostBy_any _ _ _ _ _ ps _ sP (Nat.le_refl _) (by omega)).mono ?_
    rw [HX.out]
    rintro e w2 ⟨rfl, b2⟩
    have sP2 := sP.below b2 (Nat.le_refl _)
    have z2 := b2.size
    go_wp2_with fail
    refine (sHostBy_any _ _ _ _ _ ps _ sP2 z2 (by omega)).mono ?_
    rw [HX.out]
    rintro e w3 ⟨rfl, b3⟩
    have b13 := b2.trans (b3.mono z2)
    have sP3 := sP.below b13 (Nat.le_refl _)
    have z3 := b13.size
    have d3 := b1.trans (b13.mono b1.size)
    clear sP sP2 b2 b3 b13 HX
    go_wp2_with fail
    go_loopw [6] (fun i wr => ∃ j : Nat, j ≤ k ∧ i = .int .i64 j ∧ Below w3.heap.size w3 wr) (fun i _ => k - (intOf i).toNat)
    case atStart => exact ⟨0, Nat.zero_le _, rfl, Below.refl _ _⟩
    case round =>
      obtain ⟨j, hj, rfl, hb⟩ := hrel
      have hbz := hb.size
      by_cases hlt : j < k
      · have hji : (j : Int) < (k : Int) := by omega
        have sPr0 := sP3.below hb z3
        go_wp2_with fail
        refine (iPoolValid_any _ _ _ ps _ sPr0 (by omega) (by omega)).mono ?_
        rintro e wp ⟨rfl, bp⟩
        have hbp := hb.trans (bp.mono hbz)
        have hbpz := hbp.size
        by_cases hv : poolV ps = true
        · rw [hv]
          have sPr := sP3.below hbp z3
          obtain ⟨b, off, rfl, _, _, c0, c1, c2⟩ := sPr.host hlt
          obtain ⟨z, hz⟩ : ∃ z, (hAt ps j).1 = z := ⟨_, rfl⟩
          have LA := new_law (key := key) hv (by rw [hP.out]; exact hlt) hz 1 (.inl rfl)
          have LB := new_law (key := key) hv (by rw [hP.out]; exact hlt) hz 2 (.inr rfl)
          obtain ⟨p, hp⟩ : ∃ a, hostBy 1 (setSt ps z 1) key = a := ⟨_, rfl⟩
          obtain ⟨p0, hp0⟩ : ∃ a, hostBy 1 ps key = a := ⟨_, rfl⟩
          obtain ⟨q, hq⟩ : ∃ a, hostBy 2 (setSt ps z 1) key = a := ⟨_, rfl⟩
          obtain ⟨r0, hr0⟩ : ∃ a, hostBy 2 ps key = a := ⟨_, rfl⟩
          rw [hp, hp0] at LA
          rw [hq, hr0] at LB
          have KA : p = p0 ∨ (p ≠ p0 ∧ p = z) := by omega
          have KB : q = r0 ∨ (q ≠ r0 ∧ q = z) := by omega
          rw [hz] at c0
          have HA := Lib.hid hp
          have HA0 := Lib.hid hp0
          have HB := Lib.hid hq
          have HB0 := Lib.hid hr0
          have HZ := Lib.hid hz
          clear LA LB hp hp0 hq hr0 hz c1 c2
          have hj0 : (0 : Int) ≤ (j : Int) := by omega
          obtain ⟨u, hu⟩ : ∃ u : Bool, (p != p0) = u := ⟨_, rfl⟩
          obtain ⟨v, hvv⟩ : ∃ u : Bool, (q != r0) = u := ⟨_, rfl⟩
          have KA' : u = false ∨ (u = true ∧ (p != z) = false) := by
            rcases KA with e | ⟨e1, e2⟩
            · left; rw [← hu, e]; simp
            · right; rw [← hu, e2]; simp; omega
          have KB' : v = false ∨ (v = true ∧ (q != z) = false) := by
            rcases KB with e | ⟨e1, e2⟩
            · left; rw [← hvv, e]; simp
            · right; rw [← hvv, e2]; simp; omega
          clear KA KB
          rcases KA' with rfl | ⟨rfl, na⟩ <;> rcases KB' with rfl | ⟨rfl, nb⟩
          all_goals
            go_wp2_with fail
            refine (iSetState_yes _ _ _ ps _ _ _ sPr (by omega) (by omega) hv hlt HZ.out rfl).mono ?_
            rintro e w5 ⟨A5, c5, rfl, own5, b5⟩
            have hb5 := hbp.trans (b5.mono hbpz)
            have hb5z := hb5.size
            have s5 := Sl.of_own own5
            go_wp2_with fail
            refine (iHostBy_any _ _ _ _ _ _ _ s5 (by omega) (by omega)).mono ?_
            rw [HA.out]
            rintro e w6 ⟨rfl, b6⟩
            have hb6 := hb5.trans (b6.mono hb5z)
            have hb6z := hb6.size
            have s6 := s5.below b6 (Nat.le_refl _)
            go_wp2_with fail
            refine (iHostBy_any _ _ _ _ _ _ _ s6 b6.size (by omega)).mono ?_
            rw [HB.out]
            rintro e w7 ⟨rfl, b7⟩
            have hb7 := hb6.trans (b7.mono hb6z)
            have hb7z := hb7.size
            have c07 := ((b5.trans ((b6.trans (b7.mono b6.size)).mono b5.size)).cell (World.block_lt_of_cell? _ _ c0)).trans c0
            go_wp2_with fail
            refine (iHostBy_any _ _ _ _ _ _ _ (sP3.below hb7 z3) (by omega) (by omega)).mono ?_
            rw [HA0.out]
            rintro e w8 ⟨rfl, b8⟩
            have hb8 := hb7.trans (b8.mono hb7z)
            have hb8z := hb8.size
            have c08 := (b8.cell (World.block_lt_of_cell? _ _ c07)).trans c07
            go_wp2_with fail
            refine (iHostBy_any _ _ _ _ _ _ _ (sP3.below hb8 z3) (by omega) (by omega)).mono ?_
            rw [HB0.out]
            rintro e w9 ⟨rfl, b9⟩
            have hb9 := hb8.trans (b9.mono hb8z)
            have c09 := (b9.cell (World.block_lt_of_cell? _ _ c08)).trans c08
            go_wp2
            go_roundw
            case rel => exact ⟨j + 1, by omega, by go_num, hb9⟩
            case measure => simp [intOf]; omega
        · rw [Bool.eq_false_iff.2 hv]
          go_wp2_with (go_at_call 17; refine (alive_any _).mono ?_; rintro e w5 ⟨rfl, b5⟩)
          go_ret
          exact ⟨rfl, (d3.trans (hbp.mono d3.size)).trans (b5.mono (Nat.le_trans d3.size hbpz))⟩
      · obtain rfl : k = j := by omega
        go_wp2_with (go_at_call 17; refine (alive_any _).mono ?_; rintro e w5 ⟨rfl, b5⟩)
        go_ret
        exact ⟨rfl, (d3.trans (hb.mono d3.size)).trans (b5.mono (Nat.le_trans d3.size hbz))⟩
  · go_enter Try.func5, Try.ntmps5
    go_wp2
    go_ret
    exact ⟨rfl, Below.refl _ _⟩
end Go.Proofs.Ytfobcggcilbgbaa
