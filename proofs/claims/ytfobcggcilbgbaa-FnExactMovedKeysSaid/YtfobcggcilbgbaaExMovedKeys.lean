/-
  The walk of FnExactMovedKeys.
-/
import Derived.Test.YtfobcggcilbgbaaMoved
import Derived.Test.YtfobcggcilbgbaaMarkInt
import Derived.Test.YtfobcggcilbgbaaOpenHost
namespace Go.Proofs.Ytfobcggcilbgbaa
open Go.RowKit
set_option linter.unusedVariables false

theorem own_apartFnExactMovedKeys {w w1 : World} {base : Nat} {e : TypeId} {size n : Nat} {v : Value} {xs : List Value} {row : Option Nat} (h : w.ownsRow base e size v n xs) (hg : w.grownBy w1 row) (hne : ∀ k, v.ownBlock = some k → row ≠ some k) : w1.ownsRow base e size v n xs := by
  refine h.kept hg ?_
  cases hv : v.ownBlock with
  | none => exact .inl rfl
  | some k => exact .inr fun e => hne k hv e.symm
set_option maxRecDepth 100000 in
set_option maxHeartbeats 3200000 in
theorem wFnExactMovedKeys (way : Int) (B0 : Option Addr) (m0 c0 : Nat) (bs : List H3) (B1 : Option Addr) (m1 c1 : Nat) (as_ : List H3) (A : Option Addr) (n c : Nat) (ks : List Int) (w : World) (_ : -9223372036854775808 ≤ way ∧ way ≤ 9223372036854775807) (hP0 : Sl w 0 w.heap.size 3 B0 m0 (hostsV bs)) (_ : m0 ≤ c0) (hz0m : c0 ≤ maxLen) (hP1 : Sl w 0 w.heap.size 3 B1 m1 (hostsV as_)) (_ : m1 ≤ c1) (hz1m : c1 ≤ maxLen) (hK : Sl w 0 w.heap.size 1 A n (ks.map (Value.int .i64))) (hnc : n ≤ c) (hm : c ≤ maxLen) (_ : ∀ z ∈ ks, (Lit.int .i64 z).wf = true) :
    Calls Try.prog 7 #[.int .i64 way, .slice B0 m0 c0, .slice B1 m1 c1, .slice A n c] w fun e w' => e = .returned (.bool true) ∧ Below w.heap.size w w' := by
  unfold maxLen at hm hz0m hz1m
  by_cases hn : n ≤ 1048576
  · have hn' : ¬ (1048576 : Int) < (n : Int) := by omega
    by_cases s0 : m0 ≤ 1048576
    · skip
      by_cases s1 : m0 + m1 ≤ 1048576
      · skip
        obtain ⟨rs, hrs⟩ : ∃ rs, movedL way bs as_ ks = rs := ⟨_, rfl⟩
        have HR := Lib.hid hrs
        have HLK := Lib.hid hK.len
        have HL0 := Lib.hid hP0.hlen
        have HL1 := Lib.hid hP1.hlen
        have hl : rs.length ≤ 1048576 := by rw [← hrs]; have := movedL_len way bs as_ ks; have := HLK.out; omega
        clear hrs
        obtain ⟨m, hml⟩ : ∃ m, rs.length = m := ⟨_, rfl⟩
        have HM := Lib.hid hml
        rw [hml] at hl
        clear hml
        go_enter Try.func7, Try.ntmps7
        go_wp2_with fail
        refine (szHostS_any _ _ _ _ _ (by omega) (by omega) (by omega)).mono ?_
        rw [if_neg (by omega)]
        rintro e w0 ⟨rfl, rfl⟩
        go_wp2_with fail
        refine (szHostS_any _ _ _ _ _ (by omega) (by omega) (by omega)).mono ?_
        rw [if_neg (by omega)]
        rintro e w0 ⟨rfl, rfl⟩
        go_wp2_with fail
        refine (toHostS_any _ _ _ bs _ hP0 (Nat.le_refl _) (by omega)).mono ?_
        rintro e w1 ⟨rfl, s0x_w1, b_w1⟩
        have d_w1 := b_w1
        go_wp2_with fail
        refine (toHostS_any _ _ _ as_ _ (hP1.below d_w1 (Nat.le_refl _)) d_w1.size (by omega)).mono ?_
        rintro e w2 ⟨rfl, s1x_w2, b_w2⟩
        have d_w2 := d_w1.trans (b_w2.mono d_w1.size)
        have s0x_w2 := own_below s0x_w1 b_w2
        go_wp2_with fail
        refine (toIntS_any _ _ _ ks _ (hK.below d_w2 (Nat.le_refl _)) d_w2.size hn).mono ?_
        rintro e w3 ⟨rfl, sk_w3, b_w3⟩
        have d_w3 := d_w2.trans (b_w3.mono d_w2.size)
        have s0x_w3 := own_below s0x_w2 b_w3
        have s1x_w3 := own_below s1x_w2 b_w3
        go_wp2_with fail
        refine (sMoved_any way _ _ _ bs _ _ _ as_ _ _ _ ks _ (Sl.of_own s0x_w3) (Sl.of_own s1x_w3) (Sl.of_own sk_w3) (Nat.le_refl _) (Nat.le_refl _) (Nat.le_refl _) (by omega) (by omega) (by omega)).mono ?_
        rw [HR.out, HM.out]
        intro e w4 hr
        obtain ⟨Aw, cow, rfl, ow_w4, b_w4⟩ := hr.form
        clear hr
        have d_w4 := d_w3.trans (b_w4.mono d_w3.size)
        have s0x_w4 := own_below s0x_w3 b_w4
        have s1x_w4 := own_below s1x_w3 b_w4
        have sk_w4 := own_below sk_w3 b_w4
        go_wp2_with fail
        refine (toHostS_any _ _ _ bs _ (hP0.below d_w4 (Nat.le_refl _)) d_w4.size (by omega)).mono ?_
        rintro e w5 ⟨rfl, x0x_w5, b_w5⟩
        have d_w5 := d_w4.trans (b_w5.mono d_w4.size)
        have ow_w5 := own_below ow_w4 b_w5
        go_wp2_with fail
        refine (toHostS_any _ _ _ as_ _ (hP1.below d_w5 (Nat.le_refl _)) d_w5.size (by omega)).mono ?_
        rintro e w6 ⟨rfl, x1x_w6, b_w6⟩
        have d_w6 := d_w5.trans (b_w6.mono d_w5.size)
        have ow_w6 := own_below ow_w5 b_w6
        have x0x_w6 := own_below x0x_w5 b_w6
        go_wp2_with fail
        refine (toIntS_any _ _ _ ks _ (hK.below d_w6 (Nat.le_refl _)) d_w6.size hn).mono ?_
        rintro e w7 ⟨rfl, xk_w7, b_w7⟩
        have d_w7 := d_w6.trans (b_w7.mono d_w6.size)
        have ow_w7 := own_below ow_w6 b_w7
        have x0x_w7 := own_below x0x_w6 b_w7
        have x1x_w7 := own_below x1x_w6 b_w7
        go_wp2_with fail
        refine (iMoved_any way _ _ _ bs _ _ _ as_ _ _ _ ks _ (Sl.of_own x0x_w7) (Sl.of_own x1x_w7) (Sl.of_own xk_w7) (Nat.le_refl _) (Nat.le_refl _) (Nat.le_refl _) (by omega) (by omega) (by omega)).mono ?_
        rw [HR.out, HM.out]
        intro e w8 hr
        obtain ⟨Ag, cog, rfl, og_w8, b_w8⟩ := hr.form
        clear hr
        have d_w8 := d_w7.trans (b_w8.mono d_w7.size)
        have ow_w8 := own_below ow_w7 b_w8
        have x0x_w8 := own_below x0x_w7 b_w8
        have x1x_w8 := own_below x1x_w7 b_w8
        have xk_w8 := own_below xk_w7 b_w8
        go_wp2_with fail
        refine (eqIntS_yes _ _ _ _ _ rs _ (Sl.of_own og_w8) (Sl.of_own ow_w8) hl).mono ?_
        rintro e w9 ⟨rfl, b_w9⟩
        have d_w9 := d_w8.trans (b_w9.mono d_w8.size)
        have ow_w9 := own_below ow_w8 b_w9
        have x0x_w9 := own_below x0x_w8 b_w9
        have x1x_w9 := own_below x1x_w8 b_w9
        have xk_w9 := own_below xk_w8 b_w9
        have og_w9 := own_below og_w8 b_w9
        go_wp2_with fail
        refine (toHostS_any _ _ _ bs _ (hP0.below d_w9 (Nat.le_refl _)) d_w9.size (by omega)).mono ?_
        rintro e w10 ⟨rfl, t0_w10, b_w10⟩
        have d_w10 := d_w9.trans (b_w10.mono d_w9.size)
        have ow_w10 := own_below ow_w9 b_w10
        have x0x_w10 := own_below x0x_w9 b_w10
        have x1x_w10 := own_below x1x_w9 b_w10
        have xk_w10 := own_below xk_w9 b_w10
        have og_w10 := own_below og_w9 b_w10
        go_wp2_with fail
        refine (eqHostS_yes _ _ _ _ _ bs _ (Sl.of_own x0x_w10) (Sl.of_own t0_w10) (Nat.le_refl _) (Nat.le_refl _) (by omega)).mono ?_
        rintro e w11 ⟨rfl, b_w11⟩
        have d_w11 := d_w10.trans (b_w11.mono d_w10.size)
        have ow_w11 := own_below ow_w10 b_w11
        have x0x_w11 := own_below x0x_w10 b_w11
        have x1x_w11 := own_below x1x_w10 b_w11
        have xk_w11 := own_below xk_w10 b_w11
        have og_w11 := own_below og_w10 b_w11
        have t0_w11 := own_below t0_w10 b_w11
        go_wp2_with fail
        refine (toHostS_any _ _ _ as_ _ (hP1.below d_w11 (Nat.le_refl _)) d_w11.size (by omega)).mono ?_
        rintro e w12 ⟨rfl, t1_w12, b_w12⟩
        have d_w12 := d_w11.trans (b_w12.mono d_w11.size)
        have ow_w12 := own_below ow_w11 b_w12
        have x0x_w12 := own_below x0x_w11 b_w12
        have x1x_w12 := own_below x1x_w11 b_w12
        have xk_w12 := own_below xk_w11 b_w12
        have og_w12 := own_below og_w11 b_w12
        go_wp2_with fail
        refine (eqHostS_yes _ _ _ _ _ as_ _ (Sl.of_own x1x_w12) (Sl.of_own t1_w12) (Nat.le_refl _) (Nat.le_refl _) (by omega)).mono ?_
        rintro e w13 ⟨rfl, b_w13⟩
        have d_w13 := d_w12.trans (b_w13.mono d_w12.size)
        have ow_w13 := own_below ow_w12 b_w13
        have x0x_w13 := own_below x0x_w12 b_w13
        have x1x_w13 := own_below x1x_w12 b_w13
        have xk_w13 := own_below xk_w12 b_w13
        have og_w13 := own_below og_w12 b_w13
        have t1_w13 := own_below t1_w12 b_w13
        go_wp2_with fail
        refine (toIntS_any _ _ _ ks _ (hK.below d_w13 (Nat.le_refl _)) d_w13.size hn).mono ?_
        rintro e w14 ⟨rfl, tk_w14, b_w14⟩
        have d_w14 := d_w13.trans (b_w14.mono d_w13.size)
        have ow_w14 := own_below ow_w13 b_w14
        have x0x_w14 := own_below x0x_w13 b_w14
        have x1x_w14 := own_below x1x_w13 b_w14
        have xk_w14 := own_below xk_w13 b_w14
        have og_w14 := own_below og_w13 b_w14
        go_wp2_with fail
        refine (eqIntS_yes _ _ _ _ _ ks _ (Sl.of_own xk_w14) (Sl.of_own tk_w14) hn).mono ?_
        rintro e w15 ⟨rfl, b_w15⟩
        have d_w15 := d_w14.trans (b_w15.mono d_w14.size)
        have ow_w15 := own_below ow_w14 b_w15
        have x0x_w15 := own_below x0x_w14 b_w15
        have x1x_w15 := own_below x1x_w14 b_w15
        have xk_w15 := own_below xk_w14 b_w15
        have og_w15 := own_below og_w14 b_w15
        have tk_w15 := own_below tk_w14 b_w15
        have zw := (ow_w4.lt)
        have l_x0x := (x0x_w5.lt _ rfl).2
        have z_x0x := b_w5.size
        have l_x1x := (x1x_w6.lt _ rfl).2
        have z_x1x := b_w6.size
        have l_xk := (xk_w7.lt _ rfl).2
        have z_xk := b_w7.size
        have dz := d_w4.size
        have zg := (og_w8.lt)
        go_wp2_with fail
        refine (markHostS_any _ _ _ _ _ _ _ x0x_w15 (by omega) (by omega) (by omega)).mono ?_
        rintro e w16 ⟨rfl, _, g_w16⟩
        have d_w16 := d_w15.grown g_w16 d_w15.size fun k hk => by cases hk; omega
        have ow_w16 := own_apartFnExactMovedKeys ow_w15 g_w16 (fun k hk he => by injection he with he; subst he; have := (zw _ hk).2; omega)
        have x1x_w16 := own_apartFnExactMovedKeys x1x_w15 g_w16 (fun k hk he => by injection hk with hk; injection he with he; have hkk := hk.trans he.symm; simp at hkk; omega)
        have xk_w16 := own_apartFnExactMovedKeys xk_w15 g_w16 (fun k hk he => by injection hk with hk; injection he with he; have hkk := hk.trans he.symm; simp at hkk; omega)
        have og_w16 := own_apartFnExactMovedKeys og_w15 g_w16 (fun k hk he => by injection he with he; subst he; have := (zg _ hk).1; omega)
        go_wp2_with fail
        refine (markHostS_any _ _ _ _ _ _ _ x1x_w16 (by omega) (by omega) (by omega)).mono ?_
        rintro e w17 ⟨rfl, _, g_w17⟩
        have d_w17 := d_w16.grown g_w17 d_w16.size fun k hk => by cases hk; omega
        have ow_w17 := own_apartFnExactMovedKeys ow_w16 g_w17 (fun k hk he => by injection he with he; subst he; have := (zw _ hk).2; omega)
        have xk_w17 := own_apartFnExactMovedKeys xk_w16 g_w17 (fun k hk he => by injection hk with hk; injection he with he; have hkk := hk.trans he.symm; simp at hkk; omega)
        have og_w17 := own_apartFnExactMovedKeys og_w16 g_w17 (fun k hk he => by injection he with he; subst he; have := (zg _ hk).1; omega)
        go_wp2_with fail
        refine (markIntS_any _ _ _ _ _ _ _ xk_w17 (by omega) (by omega) (by omega)).mono ?_
        rintro e w18 ⟨rfl, _, g_w18⟩
        have d_w18 := d_w17.grown g_w18 d_w17.size fun k hk => by cases hk; omega
        have ow_w18 := own_apartFnExactMovedKeys ow_w17 g_w18 (fun k hk he => by injection he with he; subst he; have := (zw _ hk).2; omega)
        have og_w18 := own_apartFnExactMovedKeys og_w17 g_w18 (fun k hk he => by injection he with he; subst he; have := (zg _ hk).1; omega)
        obtain ⟨K, hK'⟩ : ∃ K : Int, 1 + 3 * (m0 : Int) + 3 * (m1 : Int) + (n : Int) = K := ⟨_, rfl⟩
        rw [hK']
        have hK0 : 0 ≤ K := by omega
        have hK1 : decide (K < (0 : Int)) = false := decide_eq_false (by omega)
        clear hK'
        go_wp2_with fail
        refine (eqIntS_yes _ _ _ _ _ rs _ (Sl.of_own og_w18) (Sl.of_own ow_w18) hl).mono ?_
        rintro e w19 ⟨rfl, b_w19⟩
        have d_w19 := d_w18.trans (b_w19.mono d_w18.size)
        have ow_w19 := own_below ow_w18 b_w19
        have og_w19 := own_below og_w18 b_w19
        go_wp2_with fail
        refine (markIntS_own _ _ _ _ _ _ _ og_w19 hl (by omega) (by omega)).mono ?_
        rintro e w20 ⟨rfl, ⟨ys, om_w20, hmk⟩, g_w20⟩
        have d_w20 := d_w19.grown g_w20 d_w19.size fun k hk => by have := (zg _ hk).1; omega
        have ow_w20 := own_apartFnExactMovedKeys ow_w19 g_w20 (fun k hk he => by have := (zw _ hk).2; have := (zg _ he).1; omega)
        obtain ⟨M, hM⟩ : ∃ M : Int, 1 + (m : Int) = M := ⟨_, rfl⟩
        rw [hM]
        have hM0 : 0 ≤ M := by omega
        have HMM := Lib.hid hM
        clear hM
        go_wp2_with fail
        refine (heldIntS_any _ _ _ 1 ys _ (Sl.of_own om_w20) hmk hl (by omega) (by omega)).mono ?_
        rw [HMM.out]
        rintro e w0 ⟨rfl, rfl⟩
        go_wp2_with fail
        refine (toHostS_any _ _ _ bs _ (hP0.below d_w20 (Nat.le_refl _)) d_w20.size (by omega)).mono ?_
        rintro e w21 ⟨rfl, u0x_w21, b_w21⟩
        have d_w21 := d_w20.trans (b_w21.mono d_w20.size)
        have ow_w21 := own_below ow_w20 b_w21
        have om_w21 := own_below om_w20 b_w21
        go_wp2_with fail
        refine (toHostS_any _ _ _ as_ _ (hP1.below d_w21 (Nat.le_refl _)) d_w21.size (by omega)).mono ?_
        rintro e w22 ⟨rfl, u1x_w22, b_w22⟩
        have d_w22 := d_w21.trans (b_w22.mono d_w21.size)
        have ow_w22 := own_below ow_w21 b_w22
        have om_w22 := own_below om_w21 b_w22
        have u0x_w22 := own_below u0x_w21 b_w22
        go_wp2_with fail
        refine (toIntS_any _ _ _ ks _ (hK.below d_w22 (Nat.le_refl _)) d_w22.size hn).mono ?_
        rintro e w23 ⟨rfl, uk_w23, b_w23⟩
        have d_w23 := d_w22.trans (b_w23.mono d_w22.size)
        have ow_w23 := own_below ow_w22 b_w23
        have om_w23 := own_below om_w22 b_w23
        have u0x_w23 := own_below u0x_w22 b_w23
        have u1x_w23 := own_below u1x_w22 b_w23
        go_wp2_with fail
        refine (iMoved_any way _ _ _ bs _ _ _ as_ _ _ _ ks _ (Sl.of_own u0x_w23) (Sl.of_own u1x_w23) (Sl.of_own uk_w23) (Nat.le_refl _) (Nat.le_refl _) (Nat.le_refl _) (by omega) (by omega) (by omega)).mono ?_
        rw [HR.out, HM.out]
        intro e w24 hr
        obtain ⟨Ah, coh, rfl, oh_w24, b_w24⟩ := hr.form
        clear hr
        have d_w24 := d_w23.trans (b_w24.mono d_w23.size)
        have ow_w24 := own_below ow_w23 b_w24
        have om_w24 := own_below om_w23 b_w24
        have u0x_w24 := own_below u0x_w23 b_w24
        have u1x_w24 := own_below u1x_w23 b_w24
        have uk_w24 := own_below uk_w23 b_w24
        go_wp2_with fail
        refine (eqIntS_yes _ _ _ _ _ rs _ (Sl.of_own oh_w24) (Sl.of_own ow_w24) hl).mono ?_
        rintro e w25 ⟨rfl, b_w25⟩
        have d_w25 := d_w24.trans (b_w25.mono d_w24.size)
        have ow_w25 := own_below ow_w24 b_w25
        have om_w25 := own_below om_w24 b_w25
        have u0x_w25 := own_below u0x_w24 b_w25
        have u1x_w25 := own_below u1x_w24 b_w25
        have uk_w25 := own_below uk_w24 b_w25
        have oh_w25 := own_below oh_w24 b_w25
        go_wp2_with fail
        refine (heldIntS_any _ _ _ 1 ys _ (Sl.of_own om_w25) hmk hl (by omega) (by omega)).mono ?_
        rw [HMM.out]
        rintro e w0 ⟨rfl, rfl⟩
        go_wp2_with fail
        go_ret
        exact ⟨rfl, d_w25⟩
      · go_enter Try.func7, Try.ntmps7
        go_wp2_with fail
        refine (szHostS_any _ _ _ _ _ (by omega) (by omega) (by omega)).mono ?_
        rw [if_neg (by omega)]
        rintro e w0 ⟨rfl, rfl⟩
        go_wp2_with fail
        refine (szHostS_any _ _ _ _ _ (by omega) (by omega) (by omega)).mono ?_
        rw [if_pos (by omega)]
        rintro e w0 ⟨rfl, rfl⟩
        go_wp2_with fail
        go_ret
        exact ⟨rfl, Below.refl _ _⟩
    · go_enter Try.func7, Try.ntmps7
      go_wp2_with fail
      refine (szHostS_any _ _ _ _ _ (by omega) (by omega) (by omega)).mono ?_
      rw [if_pos (by omega)]
      rintro e w0 ⟨rfl, rfl⟩
      go_wp2_with fail
      go_ret
      exact ⟨rfl, Below.refl _ _⟩
  · have hn' : (1048576 : Int) < (n : Int) := by omega
    go_enter Try.func7, Try.ntmps7
    go_wp2
    go_ret
    exact ⟨rfl, Below.refl _ _⟩
end Go.Proofs.Ytfobcggcilbgbaa
