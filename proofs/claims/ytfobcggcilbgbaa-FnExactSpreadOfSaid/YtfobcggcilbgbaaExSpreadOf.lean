/-
  The walk of FnExactSpreadOf.
-/
import Derived.Test.YtfobcggcilbgbaaSpread
import Derived.Test.YtfobcggcilbgbaaMarkInt
import Derived.Test.YtfobcggcilbgbaaOpenHost
namespace Go.Proofs.Ytfobcggcilbgbaa
open Go.RowKit
set_option linter.unusedVariables false

theorem own_apartFnExactSpreadOf {w w1 : World} {base : Nat} {e : TypeId} {size n : Nat} {v : Value} {xs : List Value} {row : Option Nat} (h : w.ownsRow base e size v n xs) (hg : w.grownBy w1 row) (hne : ∀ k, v.ownBlock = some k → row ≠ some k) : w1.ownsRow base e size v n xs := by
  refine h.kept hg ?_
  cases hv : v.ownBlock with
  | none => exact .inl rfl
  | some k => exact .inr fun e => hne k hv e.symm
set_option maxRecDepth 100000 in
set_option maxHeartbeats 3200000 in
theorem wFnExactSpreadOf (way : Int) (B0 : Option Addr) (m0 c0 : Nat) (hs : List H3) (A : Option Addr) (n c : Nat) (ks : List Int) (w : World) (_ : -9223372036854775808 ≤ way ∧ way ≤ 9223372036854775807) (hP0 : Sl w 0 w.heap.size 3 B0 m0 (hostsV hs)) (_ : m0 ≤ c0) (hz0m : c0 ≤ maxLen) (hK : Sl w 0 w.heap.size 1 A n (ks.map (Value.int .i64))) (hnc : n ≤ c) (hm : c ≤ maxLen) (_ : ∀ z ∈ ks, (Lit.int .i64 z).wf = true) :
    Calls Try.prog 9 #[.int .i64 way, .slice B0 m0 c0, .slice A n c] w fun e w' => e = .returned (.bool true) ∧ Below w.heap.size w w' := by
  unfold maxLen at hm hz0m
  by_cases hn : n ≤ 1048576
  · have hn' : ¬ (1048576 : Int) < (n : Int) := by omega
    by_cases s0 : m0 ≤ 1048576
    · skip
      obtain ⟨rs, hrs⟩ : ∃ rs, spreadL way hs ks = rs := ⟨_, rfl⟩
      have HR := Lib.hid hrs
      have HLK := Lib.hid hK.len
      have HL0 := Lib.hid hP0.hlen
      have hl : rs.length ≤ 1048576 := by rw [← hrs]; unfold spreadL; split; (rw [spreadR_len, HL0.out]; omega); simp
      clear hrs
      obtain ⟨m, hml⟩ : ∃ m, rs.length = m := ⟨_, rfl⟩
      have HM := Lib.hid hml
      rw [hml] at hl
      clear hml
      go_enter Try.func9, Try.ntmps9
      go_wp2_with fail
      refine (szHostS_any _ _ _ _ _ (by omega) (by omega) (by omega)).mono ?_
      rw [if_neg (by omega)]
      rintro e w0 ⟨rfl, rfl⟩
      go_wp2_with fail
      refine (toHostS_any _ _ _ hs _ hP0 (Nat.le_refl _) (by omega)).mono ?_
      rintro e w1 ⟨rfl, s0x_w1, b_w1⟩
      have d_w1 := b_w1
      go_wp2_with fail
      refine (toIntS_any _ _ _ ks _ (hK.below d_w1 (Nat.le_refl _)) d_w1.size hn).mono ?_
      rintro e w2 ⟨rfl, sk_w2, b_w2⟩
      have d_w2 := d_w1.trans (b_w2.mono d_w1.size)
      have s0x_w2 := own_below s0x_w1 b_w2
      go_wp2_with fail
      refine (sSpread_any way _ _ _ hs _ _ _ ks _ (Sl.of_own s0x_w2) (Sl.of_own sk_w2) (Nat.le_refl _) (Nat.le_refl _) (by omega) (by omega)).mono ?_
      rw [HR.out, HM.out]
      intro e w3 hr
      obtain ⟨Aw, cow, rfl, ow_w3, b_w3⟩ := hr.form
      clear hr
      have d_w3 := d_w2.trans (b_w3.mono d_w2.size)
      have s0x_w3 := own_below s0x_w2 b_w3
      have sk_w3 := own_below sk_w2 b_w3
      go_wp2_with fail
      refine (toHostS_any _ _ _ hs _ (hP0.below d_w3 (Nat.le_refl _)) d_w3.size (by omega)).mono ?_
      rintro e w4 ⟨rfl, x0x_w4, b_w4⟩
      have d_w4 := d_w3.trans (b_w4.mono d_w3.size)
      have ow_w4 := own_below ow_w3 b_w4
      go_wp2_with fail
      refine (toIntS_any _ _ _ ks _ (hK.below d_w4 (Nat.le_refl _)) d_w4.size hn).mono ?_
      rintro e w5 ⟨rfl, xk_w5, b_w5⟩
      have d_w5 := d_w4.trans (b_w5.mono d_w4.size)
      have ow_w5 := own_below ow_w4 b_w5
      have x0x_w5 := own_below x0x_w4 b_w5
      go_wp2_with fail
      refine (iSpread_any way _ _ _ hs _ _ _ ks _ (Sl.of_own x0x_w5) (Sl.of_own xk_w5) (Nat.le_refl _) (Nat.le_refl _) (by omega) (by omega)).mono ?_
      rw [HR.out, HM.out]
      intro e w6 hr
      obtain ⟨Ag, cog, rfl, og_w6, b_w6⟩ := hr.form
      clear hr
      have d_w6 := d_w5.trans (b_w6.mono d_w5.size)
      have ow_w6 := own_below ow_w5 b_w6
      have x0x_w6 := own_below x0x_w5 b_w6
      have xk_w6 := own_below xk_w5 b_w6
      go_wp2_with fail
      refine (eqIntS_yes _ _ _ _ _ rs _ (Sl.of_own og_w6) (Sl.of_own ow_w6) hl).mono ?_
      rintro e w7 ⟨rfl, b_w7⟩
      have d_w7 := d_w6.trans (b_w7.mono d_w6.size)
      have ow_w7 := own_below ow_w6 b_w7
      have x0x_w7 := own_below x0x_w6 b_w7
      have xk_w7 := own_below xk_w6 b_w7
      have og_w7 := own_below og_w6 b_w7
      go_wp2_with fail
      refine (toHostS_any _ _ _ hs _ (hP0.below d_w7 (Nat.le_refl _)) d_w7.size (by omega)).mono ?_
      rintro e w8 ⟨rfl, t0_w8, b_w8⟩
      have d_w8 := d_w7.trans (b_w8.mono d_w7.size)
      have ow_w8 := own_below ow_w7 b_w8
      have x0x_w8 := own_below x0x_w7 b_w8
      have xk_w8 := own_below xk_w7 b_w8
      have og_w8 := own_below og_w7 b_w8
      go_wp2_with fail
      refine (eqHostS_yes _ _ _ _ _ hs _ (Sl.of_own x0x_w8) (Sl.of_own t0_w8) (Nat.le_refl _) (Nat.le_refl _) (by omega)).mono ?_
      rintro e w9 ⟨rfl, b_w9⟩
      have d_w9 := d_w8.trans (b_w9.mono d_w8.size)
      have ow_w9 := own_below ow_w8 b_w9
      have x0x_w9 := own_below x0x_w8 b_w9
      have xk_w9 := own_below xk_w8 b_w9
      have og_w9 := own_below og_w8 b_w9
      have t0_w9 := own_below t0_w8 b_w9
      go_wp2_with fail
      refine (toIntS_any _ _ _ ks _ (hK.below d_w9 (Nat.le_refl _)) d_w9.size hn).mono ?_
      rintro e w10 ⟨rfl, tk_w10, b_w10⟩
      have d_w10 := d_w9.trans (b_w10.mono d_w9.size)
      have ow_w10 := own_below ow_w9 b_w10
      have x0x_w10 := own_below x0x_w9 b_w10
      have xk_w10 := own_below xk_w9 b_w10
      have og_w10 := own_below og_w9 b_w10
      go_wp2_with fail
      refine (eqIntS_yes _ _ _ _ _ ks _ (Sl.of_own xk_w10) (Sl.of_own tk_w10) hn).mono ?_
      rintro e w11 ⟨rfl, b_w11⟩
      have d_w11 := d_w10.trans (b_w11.mono d_w10.size)
      have ow_w11 := own_below ow_w10 b_w11
      have x0x_w11 := own_below x0x_w10 b_w11
      have xk_w11 := own_below xk_w10 b_w11
      have og_w11 := own_below og_w10 b_w11
      have tk_w11 := own_below tk_w10 b_w11
      have zw := (ow_w3.lt)
      have l_x0x := (x0x_w4.lt _ rfl).2
      have z_x0x := b_w4.size
      have l_xk := (xk_w5.lt _ rfl).2
      have z_xk := b_w5.size
      have dz := d_w3.size
      have zg := (og_w6.lt)
      go_wp2_with fail
      refine (markHostS_any _ _ _ _ _ _ _ x0x_w11 (by omega) (by omega) (by omega)).mono ?_
      rintro e w12 ⟨rfl, _, g_w12⟩
      have d_w12 := d_w11.grown g_w12 d_w11.size fun k hk => by cases hk; omega
      have ow_w12 := own_apartFnExactSpreadOf ow_w11 g_w12 (fun k hk he => by injection he with he; subst he; have := (zw _ hk).2; omega)
      have xk_w12 := own_apartFnExactSpreadOf xk_w11 g_w12 (fun k hk he => by injection hk with hk; injection he with he; have hkk := hk.trans he.symm; simp at hkk; omega)
      have og_w12 := own_apartFnExactSpreadOf og_w11 g_w12 (fun k hk he => by injection he with he; subst he; have := (zg _ hk).1; omega)
      go_wp2_with fail
      refine (markIntS_any _ _ _ _ _ _ _ xk_w12 (by omega) (by omega) (by omega)).mono ?_
      rintro e w13 ⟨rfl, _, g_w13⟩
      have d_w13 := d_w12.grown g_w13 d_w12.size fun k hk => by cases hk; omega
      have ow_w13 := own_apartFnExactSpreadOf ow_w12 g_w13 (fun k hk he => by injection he with he; subst he; have := (zw _ hk).2; omega)
      have og_w13 := own_apartFnExactSpreadOf og_w12 g_w13 (fun k hk he => by injection he with he; subst he; have := (zg _ hk).1; omega)
      obtain ⟨K, hK'⟩ : ∃ K : Int, 1 + 3 * (m0 : Int) + (n : Int) = K := ⟨_, rfl⟩
      rw [hK']
      have hK0 : 0 ≤ K := by omega
      have hK1 : decide (K < (0 : Int)) = false := decide_eq_false (by omega)
      clear hK'
      go_wp2_with fail
      refine (eqIntS_yes _ _ _ _ _ rs _ (Sl.of_own og_w13) (Sl.of_own ow_w13) hl).mono ?_
      rintro e w14 ⟨rfl, b_w14⟩
      have d_w14 := d_w13.trans (b_w14.mono d_w13.size)
      have ow_w14 := own_below ow_w13 b_w14
      have og_w14 := own_below og_w13 b_w14
      go_wp2_with fail
      refine (markIntS_own _ _ _ _ _ _ _ og_w14 hl (by omega) (by omega)).mono ?_
      rintro e w15 ⟨rfl, ⟨ys, om_w15, hmk⟩, g_w15⟩
      have d_w15 := d_w14.grown g_w15 d_w14.size fun k hk => by have := (zg _ hk).1; omega
      have ow_w15 := own_apartFnExactSpreadOf ow_w14 g_w15 (fun k hk he => by have := (zw _ hk).2; have := (zg _ he).1; omega)
      obtain ⟨M, hM⟩ : ∃ M : Int, 1 + (m : Int) = M := ⟨_, rfl⟩
      rw [hM]
      have hM0 : 0 ≤ M := by omega
      have HMM := Lib.hid hM
      clear hM
      go_wp2_with fail
      refine (heldIntS_any _ _ _ 1 ys _ (Sl.of_own om_w15) hmk hl (by omega) (by omega)).mono ?_
      rw [HMM.out]
      rintro e w0 ⟨rfl, rfl⟩
      go_wp2_with fail
      refine (toHostS_any _ _ _ hs _ (hP0.below d_w15 (Nat.le_refl _)) d_w15.size (by omega)).mono ?_
      rintro e w16 ⟨rfl, u0x_w16, b_w16⟩
      have d_w16 := d_w15.trans (b_w16.mono d_w15.size)
      have ow_w16 := own_below ow_w15 b_w16
      have om_w16 := own_below om_w15 b_w16
      go_wp2_with fail
      refine (toIntS_any _ _ _ ks _ (hK.below d_w16 (Nat.le_refl _)) d_w16.size hn).mono ?_
      rintro e w17 ⟨rfl, uk_w17, b_w17⟩
      have d_w17 := d_w16.trans (b_w17.mono d_w16.size)
      have ow_w17 := own_below ow_w16 b_w17
      have om_w17 := own_below om_w16 b_w17
      have u0x_w17 := own_below u0x_w16 b_w17
      go_wp2_with fail
      refine (iSpread_any way _ _ _ hs _ _ _ ks _ (Sl.of_own u0x_w17) (Sl.of_own uk_w17) (Nat.le_refl _) (Nat.le_refl _) (by omega) (by omega)).mono ?_
      rw [HR.out, HM.out]
      intro e w18 hr
      obtain ⟨Ah, coh, rfl, oh_w18, b_w18⟩ := hr.form
      clear hr
      have d_w18 := d_w17.trans (b_w18.mono d_w17.size)
      have ow_w18 := own_below ow_w17 b_w18
      have om_w18 := own_below om_w17 b_w18
      have u0x_w18 := own_below u0x_w17 b_w18
      have uk_w18 := own_below uk_w17 b_w18
      go_wp2_with fail
      refine (eqIntS_yes _ _ _ _ _ rs _ (Sl.of_own oh_w18) (Sl.of_own ow_w18) hl).mono ?_
      rintro e w19 ⟨rfl, b_w19⟩
      have d_w19 := d_w18.trans (b_w19.mono d_w18.size)
      have ow_w19 := own_below ow_w18 b_w19
      have om_w19 := own_below om_w18 b_w19
      have u0x_w19 := own_below u0x_w18 b_w19
      have uk_w19 := own_below uk_w18 b_w19
      have oh_w19 := own_below oh_w18 b_w19
      go_wp2_with fail
      refine (heldIntS_any _ _ _ 1 ys _ (Sl.of_own om_w19) hmk hl (by omega) (by omega)).mono ?_
      rw [HMM.out]
      rintro e w0 ⟨rfl, rfl⟩
      go_wp2_with fail
      go_ret
      exact ⟨rfl, d_w19⟩
    · go_enter Try.func9, Try.ntmps9
      go_wp2_with fail
      refine (szHostS_any _ _ _ _ _ (by omega) (by omega) (by omega)).mono ?_
      rw [if_pos (by omega)]
      rintro e w0 ⟨rfl, rfl⟩
      go_wp2_with fail
      go_ret
      exact ⟨rfl, Below.refl _ _⟩
  · have hn' : (1048576 : Int) < (n : Int) := by omega
    go_enter Try.func9, Try.ntmps9
    go_wp2
    go_ret
    exact ⟨rfl, Below.refl _ _⟩
end Go.Proofs.Ytfobcggcilbgbaa
