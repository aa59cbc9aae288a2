/-
  The walk of the law FnExactRampPool.
-/
import Derived.Test.YtnhodloclonfdaaMark
import Derived.Test.YtnhodloclonfdaaOpenHost
import Derived.Test.YtnhodloclonfdaaRampPool
import Derived.Test.YtnhodloclonfdaaRampPoolS
namespace Go.Proofs.Ytnhodloclonfdaa
open Go.RowKit
set_option linter.unusedVariables false

theorem rampP_len {hs : List H3} {ss : List Int} {now ramp : Int} : (rampP hs ss now ramp).length ≤ hs.length := by
  unfold rampP
  split
  · rw [List.length_zipWith]; omega
  · simp
theorem own_apart {w w1 : World} {base : Nat} {e : TypeId} {size n : Nat} {v : Value} {xs : List Value} {row : Option Nat} (h : w.ownsRow base e size v n xs) (hg : w.grownBy w1 row) (hne : ∀ k, v.ownBlock = some k → row ≠ some k) : w1.ownsRow base e size v n xs := by
  refine h.kept hg ?_
  cases hv : v.ownBlock with
  | none => exact .inl rfl
  | some k => exact .inr fun e => hne k hv e.symm

set_option maxHeartbeats 1600000 in
theorem wFnExactRampPool (A : Option Addr) (n c : Nat) (hs : List H3) (A' : Option Addr) (n' c' : Nat) (ss : List Int) (now ramp : Int) (w : World) (hS : Sl w 0 w.heap.size 3 A n (hostsV hs)) (hnc : n ≤ c) (hm : c ≤ maxLen)
    (hS' : Sl w 0 w.heap.size 1 A' n' (ss.map (Value.int .i64))) (hnc' : n' ≤ c') (hm' : c' ≤ maxLen) (_ : ∀ z ∈ ss, (Lit.int .i64 z).wf = true)
    (_ : -9223372036854775808 ≤ now ∧ now ≤ 9223372036854775807) (_ : -9223372036854775808 ≤ ramp ∧ ramp ≤ 9223372036854775807) :
    Calls Try.prog 9 #[.slice A n c, .slice A' n' c', .int .i64 now, .int .i64 ramp] w fun e w' => e = .returned (.bool true) ∧ Below w.heap.size w w' := by
  unfold maxLen at hm hm'
  by_cases hn' : n' ≤ 1048576
  · by_cases hn : n ≤ 1048576
    · obtain ⟨rs, hrs⟩ : ∃ rs, rampP hs ss now ramp = rs := ⟨_, rfl⟩
      have HR := Lib.hid hrs
      have hl : rs.length ≤ 1048576 := by rw [← hrs]; have := rampP_len (hs := hs) (ss := ss) (now := now) (ramp := ramp); have := hS.hlen; omega
      clear hrs
      obtain ⟨m, hml⟩ : ∃ m, rs.length = m := ⟨_, rfl⟩
      have HM := Lib.hid hml
      rw [hml] at hl
      clear hml
      go_enter Try.func9, Try.ntmps9
      go_wp2_with fail
      refine (szHostS_any _ _ _ _ _ (by omega) (by omega) (by omega)).mono ?_
      rw [if_neg (by omega)]
      rintro e w0 ⟨rfl, rfl⟩
      go_wp2_with fail
      refine (toHostS_any _ _ _ hs _ hS (Nat.le_refl _) hn).mono ?_
      rintro e w1 ⟨rfl, s0_w1, b_w1⟩
      have d_w1 := b_w1
      go_wp2_with fail
      refine (toIntS_any _ _ _ ss _ (hS'.below d_w1 (Nat.le_refl _)) d_w1.size hn').mono ?_
      rintro e w2 ⟨rfl, s1_w2, b_w2⟩
      have d_w2 := d_w1.trans (b_w2.mono d_w1.size)
      have s0_w2 := own_below s0_w1 b_w2
      go_wp2_with fail
      refine (sRampPool_any _ _ _ hs _ _ _ ss _ _ _ (Sl.of_own s0_w2) (Sl.of_own s1_w2) (Nat.le_refl _) (Nat.le_refl _) hn hn').mono ?_
      rw [HR.out, HM.out]
      intro e w3 hr
      obtain ⟨Aw, cow, rfl, ow_w3, b_w3⟩ := hr.form
      clear hr
      have d_w3 := d_w2.trans (b_w3.mono d_w2.size)
      have s0_w3 := own_below s0_w2 b_w3
      have s1_w3 := own_below s1_w2 b_w3
      go_wp2_with fail
      refine (toHostS_any _ _ _ hs _ (hS.below d_w3 (Nat.le_refl _)) d_w3.size hn).mono ?_
      rintro e w4 ⟨rfl, ox_w4, b_w4⟩
      have d_w4 := d_w3.trans (b_w4.mono d_w3.size)
      have ow_w4 := own_below ow_w3 b_w4
      go_wp2_with fail
      refine (toIntS_any _ _ _ ss _ (hS'.below d_w4 (Nat.le_refl _)) d_w4.size hn').mono ?_
      rintro e w5 ⟨rfl, oy_w5, b_w5⟩
      have d_w5 := d_w4.trans (b_w5.mono d_w4.size)
      have ow_w5 := own_below ow_w4 b_w5
      have ox_w5 := own_below ox_w4 b_w5
      go_wp2_with fail
      refine (iRampPool_any _ _ _ hs _ _ _ ss _ _ _ (Sl.of_own ox_w5) (Sl.of_own oy_w5) (Nat.le_refl _) (Nat.le_refl _) hn hn').mono ?_
      rw [HR.out, HM.out]
      intro e w6 hr
      obtain ⟨Ag, cog, rfl, og_w6, b_w6⟩ := hr.form
      clear hr
      have d_w6 := d_w5.trans (b_w6.mono d_w5.size)
      have ow_w6 := own_below ow_w5 b_w6
      have ox_w6 := own_below ox_w5 b_w6
      have oy_w6 := own_below oy_w5 b_w6
      go_wp2_with fail
      refine (eqHostS_yes _ _ _ _ _ rs _ (Sl.of_own og_w6) (Sl.of_own ow_w6) (Nat.le_refl _) (Nat.le_refl _) hl).mono ?_
      rintro e w7 ⟨rfl, b_w7⟩
      have d_w7 := d_w6.trans (b_w7.mono d_w6.size)
      have ow_w7 := own_below ow_w6 b_w7
      have ox_w7 := own_below ox_w6 b_w7
      have oy_w7 := own_below oy_w6 b_w7
      have og_w7 := own_below og_w6 b_w7
      go_wp2_with fail
      refine (toHostS_any _ _ _ hs _ (hS.below d_w7 (Nat.le_refl _)) d_w7.size hn).mono ?_
      rintro e w8 ⟨rfl, t0_w8, b_w8⟩
      have d_w8 := d_w7.trans (b_w8.mono d_w7.size)
      have ow_w8 := own_below ow_w7 b_w8
      have ox_w8 := own_below ox_w7 b_w8
      have oy_w8 := own_below oy_w7 b_w8
      have og_w8 := own_below og_w7 b_w8
      go_wp2_with fail
      refine (eqHostS_yes _ _ _ _ _ hs _ (Sl.of_own ox_w8) (Sl.of_own t0_w8) (Nat.le_refl _) (Nat.le_refl _) hn).mono ?_
      rintro e w9 ⟨rfl, b_w9⟩
      have d_w9 := d_w8.trans (b_w9.mono d_w8.size)
      have ow_w9 := own_below ow_w8 b_w9
      have ox_w9 := own_below ox_w8 b_w9
      have oy_w9 := own_below oy_w8 b_w9
      have og_w9 := own_below og_w8 b_w9
      have t0_w9 := own_below t0_w8 b_w9
      go_wp2_with fail
      refine (toIntS_any _ _ _ ss _ (hS'.below d_w9 (Nat.le_refl _)) d_w9.size hn').mono ?_
      rintro e w10 ⟨rfl, t1_w10, b_w10⟩
      have d_w10 := d_w9.trans (b_w10.mono d_w9.size)
      have ow_w10 := own_below ow_w9 b_w10
      have ox_w10 := own_below ox_w9 b_w10
      have oy_w10 := own_below oy_w9 b_w10
      have og_w10 := own_below og_w9 b_w10
      go_wp2_with fail
      refine (eqIntS_yes _ _ _ _ _ ss _ (Sl.of_own oy_w10) (Sl.of_own t1_w10) hn').mono ?_
      rintro e w11 ⟨rfl, b_w11⟩
      have d_w11 := d_w10.trans (b_w11.mono d_w10.size)
      have ow_w11 := own_below ow_w10 b_w11
      have ox_w11 := own_below ox_w10 b_w11
      have oy_w11 := own_below oy_w10 b_w11
      have og_w11 := own_below og_w10 b_w11
      have t1_w11 := own_below t1_w10 b_w11
      have x4 := (ox_w4.lt _ rfl).2
      have y5 := (oy_w5.lt _ rfl).2
      have z4 := b_w4.size
      have z5 := b_w5.size
      have z3 := d_w3.size
      go_wp2_with fail
      refine (markHostS_any _ _ _ _ _ _ _ ox_w11 hn (by omega) (by omega)).mono ?_
      rintro e w12 ⟨rfl, _, g12⟩
      have d_w12 := d_w11.grown g12 d_w11.size fun k hk => by cases hk; exact d_w3.size
      have oy_w12 := own_apart oy_w11 g12 (fun k hk he => by have := (oy_w5.lt _ hk).1; injection he with he; subst he; have := (oy_w5.lt _ hk).1; omega)
      have ow_w12 := own_apart ow_w11 g12 (fun k hk he => by injection he with he; subst he; have := (ow_w3.lt _ hk).2; omega)
      have og_w12 := own_apart og_w11 g12 (fun k hk he => by injection he with he; subst he; have := (og_w6.lt _ hk).1; omega)
      go_wp2_with fail
      refine (markIntS_any _ _ _ _ _ _ _ oy_w12 hn' (by omega) (by omega)).mono ?_
      rintro e w13 ⟨rfl, _, g13⟩
      have d_w13 := d_w12.grown g13 d_w12.size fun k hk => by cases hk; exact d_w4.size
      have ow_w13 := own_apart ow_w12 g13 (fun k hk he => by injection he with he; subst he; have := (ow_w3.lt _ hk).2; omega)
      have og_w13 := own_apart og_w12 g13 (fun k hk he => by injection he with he; subst he; have := (og_w6.lt _ hk).1; omega)
      obtain ⟨K, hK⟩ : ∃ K : Int, 1 + 3 * (n : Int) + (n' : Int) = K := ⟨_, rfl⟩
      rw [hK]
      have hK0 : 0 ≤ K := by omega
      have hK1 : decide (K < (0 : Int)) = false := decide_eq_false (by omega)
      clear hK
      go_wp2_with fail
      refine (eqHostS_yes _ _ _ _ _ rs _ (Sl.of_own og_w13) (Sl.of_own ow_w13) (Nat.le_refl _) (Nat.le_refl _) hl).mono ?_
      rintro e w14 ⟨rfl, b_w14⟩
      have d_w14 := d_w13.trans (b_w14.mono d_w13.size)
      have ow_w14 := own_below ow_w13 b_w14
      have og_w14 := own_below og_w13 b_w14
      go_wp2_with fail
      refine (markHostS_own _ _ _ _ _ _ _ og_w14 hl (by omega) (by omega)).mono ?_
      rintro e w15 ⟨rfl, ⟨ys, om_w15, hmk⟩, g15⟩
      have d_w15 := d_w14.grown g15 d_w14.size fun k hk => Nat.le_trans d_w5.size (og_w6.lt _ hk).1
      have ow_w15 := own_apart ow_w14 g15 (fun k hk he => by have := (ow_w3.lt _ hk).2; have := (og_w6.lt _ he).1; omega)
      obtain ⟨M, hM⟩ : ∃ M : Int, 1 + 3 * (m : Int) = M := ⟨_, rfl⟩
      rw [hM]
      have hM0 : 0 ≤ M := by omega
      have HMM := Lib.hid hM
      clear hM
      go_wp2_with fail
      refine (heldHostS_any _ _ _ 1 ys _ (Sl.of_own om_w15) hmk hl (by omega) (by omega)).mono ?_
      rw [HMM.out]
      rintro e w16 ⟨rfl, rfl⟩
      go_wp2_with fail
      refine (toHostS_any _ _ _ hs _ (hS.below d_w15 (Nat.le_refl _)) d_w15.size hn).mono ?_
      rintro e w17 ⟨rfl, u0_w17, b_w17⟩
      have d_w17 := d_w15.trans (b_w17.mono d_w15.size)
      have ow_w17 := own_below ow_w15 b_w17
      have om_w17 := own_below om_w15 b_w17
      go_wp2_with fail
      refine (toIntS_any _ _ _ ss _ (hS'.below d_w17 (Nat.le_refl _)) d_w17.size hn').mono ?_
      rintro e w18 ⟨rfl, u1_w18, b_w18⟩
      have d_w18 := d_w17.trans (b_w18.mono d_w17.size)
      have ow_w18 := own_below ow_w17 b_w18
      have om_w18 := own_below om_w17 b_w18
      have u0_w18 := own_below u0_w17 b_w18
      go_wp2_with fail
      refine (iRampPool_any _ _ _ hs _ _ _ ss _ _ _ (Sl.of_own u0_w18) (Sl.of_own u1_w18) (Nat.le_refl _) (Nat.le_refl _) hn hn').mono ?_
      rw [HR.out, HM.out]
      intro e w19 hr
      obtain ⟨Ah, coh, rfl, oh_w19, b_w19⟩ := hr.form
      clear hr
      have d_w19 := d_w18.trans (b_w19.mono d_w18.size)
      have ow_w19 := own_below ow_w18 b_w19
      have om_w19 := own_below om_w18 b_w19
      have u0_w19 := own_below u0_w18 b_w19
      have u1_w19 := own_below u1_w18 b_w19
      go_wp2_with fail
      refine (eqHostS_yes _ _ _ _ _ rs _ (Sl.of_own oh_w19) (Sl.of_own ow_w19) (Nat.le_refl _) (Nat.le_refl _) hl).mono ?_
      rintro e w20 ⟨rfl, b_w20⟩
      have d_w20 := d_w19.trans (b_w20.mono d_w19.size)
      have ow_w20 := own_below ow_w19 b_w20
      have om_w20 := own_below om_w19 b_w20
      have u0_w20 := own_below u0_w19 b_w20
      have u1_w20 := own_below u1_w19 b_w20
      have oh_w20 := own_below oh_w19 b_w20
      go_wp2_with fail
      refine (heldHostS_any _ _ _ 1 ys _ (Sl.of_own om_w20) hmk hl (by omega) (by omega)).mono ?_
      rw [HMM.out]
      rintro e w21 ⟨rfl, rfl⟩
      go_wp2_with fail
      go_ret
      exact ⟨rfl, d_w20⟩
    · go_enter Try.func9, Try.ntmps9
      go_wp2_with fail
      refine (szHostS_any _ _ _ _ _ (by omega) (by omega) (by omega)).mono ?_
      rw [if_pos (by omega)]
      rintro e w0 ⟨rfl, rfl⟩
      go_wp2_with fail
      go_ret
      exact ⟨rfl, Below.refl _ _⟩
  · go_enter Try.func9, Try.ntmps9
    go_wp2
    go_ret
    exact ⟨rfl, Below.refl _ _⟩
end Go.Proofs.Ytnhodloclonfdaa
