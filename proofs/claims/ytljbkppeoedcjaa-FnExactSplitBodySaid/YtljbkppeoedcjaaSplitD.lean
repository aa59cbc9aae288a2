/-
  The walk of the law FnExactSplitBody.
-/
import Derived.Test.YtljbkppeoedcjaaSplitB
import Derived.Test.YtljbkppeoedcjaaPcsD
namespace Go.Proofs.Ytljbkppeoedcjaa
open Go.RowKit
set_option linter.unusedVariables false

set_option maxHeartbeats 3200000 in
theorem wFnExactSplitBody (A : Option Addr) (n c : Nat) (zs : List Int) (sz : Int) (w : World) (hS : Sl w 0 w.heap.size 1 A n (zs.map (Value.int .u8))) (hnc : n ≤ c) (hm : c ≤ maxLen) (hwf : ∀ z ∈ zs, (Lit.int .u8 z).wf = true) (_ : -9223372036854775808 ≤ sz ∧ sz ≤ 9223372036854775807) :
    Calls Try.prog 3 #[.slice A n c, .int .i64 sz] w fun e w' => e = .returned (.bool true) ∧ Below w.heap.size w w' := by
  unfold maxLen at hm
  have hnm : n ≤ maxLen := by unfold maxLen; omega
  by_cases hn : n ≤ 1048576
  · have hn1 : ¬ ((1048576 : Int) < (n : Int)) := by omega
    have hby := AllByte.of_wf hwf
    obtain ⟨hN80, _⟩ := split_bds zs sz
    obtain ⟨all, hall⟩ : ∃ x, splitP zs sz = x := ⟨_, rfl⟩
    have HSP := Lib.hid hall
    rw [hall] at hN80
    obtain ⟨N, hN⟩ : ∃ x, all.length = x := ⟨_, rfl⟩
    rw [hN] at hN80
    have HN : Hid (splitP zs sz = all ∧ all.length = N) := Lib.hid ⟨hall, hN⟩
    clear hall hN
    go_enter Try.func3, Try.ntmps3
    go_wp2_with fail
    refine (toByteS_any _ _ _ zs _ hS (Nat.le_refl _) hn).mono ?_
    rintro e w1 ⟨rfl, oa_w1, b_w1⟩
    have d_w1 := b_w1
    have z_w1 := b_w1.size
    go_wp2_with fail
    refine (sSplitBody_any _ _ _ zs _ _ (Sl.of_own oa_w1) (Nat.le_refl _) (Nat.le_refl _) hnm hn hby).mono ?_
    rw [HN.out.1, HN.out.2]
    intro e w2 hr
    obtain ⟨AW, cW, qW, rfl, hpW, W_w2, b_w2⟩ := hr
    have UW := W_w2.under
    have sW := split_sum (zs := zs) (size := sz) (by rw [HSP.out]; exact hpW) W_w2
    have HPW := Lib.hid hpW
    clear hpW
    have d_w2 := d_w1.trans (b_w2.mono d_w1.size)
    have z_w2 := b_w2.size
    have oa_w2 := own_below oa_w1 b_w2
    go_wp2_with fail
    refine (toByteS_any _ _ _ zs _ (hS.below d_w2 (Nat.le_refl _)) d_w2.size hn).mono ?_
    rintro e w3 ⟨rfl, ox_w3, b_w3⟩
    have d_w3 := d_w2.trans (b_w3.mono d_w2.size)
    have z_w3 := b_w3.size
    have W_w3 := W_w2.below b_w3
    have xb := (ox_w3.lt _ rfl).2
    go_wp2_with fail
    refine (iSplitBody_any _ _ _ zs _ _ (Sl.of_own ox_w3) (Nat.le_refl _) (Nat.le_refl _) hnm hn hby).mono ?_
    rw [HN.out.1, HN.out.2]
    intro e w4 hr
    obtain ⟨AG, cG, qG, rfl, hpG, G_w4, b_w4⟩ := hr
    have UG := G_w4.under
    have sG := split_sum (zs := zs) (size := sz) (by rw [HSP.out]; exact hpG) G_w4
    have HPG := Lib.hid hpG
    clear hpG
    have d_w4 := d_w3.trans (b_w4.mono d_w3.size)
    have z_w4 := b_w4.size
    have ox_w4 := own_below ox_w3 b_w4
    have W_w4 := W_w3.below b_w4
    go_wp2_with fail
    refine (eqPieceS_yes _ _ _ _ _ _ _ _ G_w4.pcs W_w4.pcs (HPG.out.trans HPW.out.symm) (Nat.le_refl _) (Nat.le_refl _) (by omega) (by omega)).mono ?_
    rintro e w5 ⟨rfl, b_w5⟩
    have d_w5 := d_w4.trans (b_w5.mono d_w4.size)
    have z_w5 := b_w5.size
    have ox_w5 := own_below ox_w4 b_w5
    have W_w5 := W_w4.below b_w5
    have G_w5 := G_w4.below b_w5
    go_wp2_with fail
    refine (toByteS_any _ _ _ zs _ (hS.below d_w5 (Nat.le_refl _)) d_w5.size hn).mono ?_
    rintro e w6 ⟨rfl, oc_w6, b_w6⟩
    have d_w6 := d_w5.trans (b_w6.mono d_w5.size)
    have z_w6 := b_w6.size
    have ox_w6 := own_below ox_w5 b_w6
    have W_w6 := W_w5.below b_w6
    have G_w6 := G_w5.below b_w6
    go_wp2_with fail
    refine (eqByteS_yes _ _ _ _ _ zs _ (Sl.of_own ox_w6) (Sl.of_own oc_w6) hn).mono ?_
    rintro e w7 ⟨rfl, b_w7⟩
    have d_w7 := d_w6.trans (b_w7.mono d_w6.size)
    have z_w7 := b_w7.size
    have ox_w7 := own_below ox_w6 b_w7
    have W_w7 := W_w6.below b_w7
    have G_w7 := G_w6.below b_w7
    go_wp2_with fail
    refine (markByteS_any _ _ _ _ _ _ _ ox_w7 hn (by omega) (by omega)).mono ?_
    rintro e w8 ⟨rfl, _, g8⟩
    have d_w8 := d_w7.grown g8 d_w7.size fun q hq => by cases hq; omega
    have z_w8 := g8.size
    have W_w8 := W_w7.grown1 UW g8 (.inr (by omega))
    have G_w8 := G_w7.grown1 UG g8 (.inl (by omega))
    obtain ⟨Q, hQ⟩ : ∃ Q : Int, 1 + (n : Int) = Q := ⟨_, rfl⟩
    rw [hQ]
    have hQ0 : 0 ≤ Q := by omega
    have hQ1 : decide (Q < (0 : Int)) = false := decide_eq_false (by omega)
    clear hQ
    go_wp2_with fail
    refine (eqPieceS_yes _ _ _ _ _ _ _ _ G_w8.pcs W_w8.pcs (HPG.out.trans HPW.out.symm) (Nat.le_refl _) (Nat.le_refl _) (by omega) (by omega)).mono ?_
    rintro e w9 ⟨rfl, b_w9⟩
    have d_w9 := d_w8.trans (b_w9.mono d_w8.size)
    have z_w9 := b_w9.size
    have W_w9 := W_w8.below b_w9
    have G_w9 := G_w8.below b_w9
    go_wp2_with fail
    refine (markPieceS_own _ _ _ _ _ _ _ G_w9 (by omega) (by omega) (by omega) (by omega)).mono ?_
    rintro e w10 ⟨rfl, M_w10, r11⟩
    have d_w10 : Below w.heap.size w w10 := r11.below d_w9 (by omega)
    have z_w10 := r11.size
    have W_w10 := W_w9.rng UW r11 (.inr (by omega))
    obtain ⟨M, hMe⟩ : ∃ M : Int, 1 + 2 * (N : Int) + (sumN qG : Int) = M := ⟨_, rfl⟩
    rw [hMe]
    have hM0 : 0 ≤ M := by omega
    have HMM := Lib.hid hMe
    have hM1 : decide (M < (0 : Int)) = false := decide_eq_false (by omega)
    have hMM : ((M : Int) != M) = false := by simp
    clear hMe
    go_wp2_with fail
    refine (heldPieceS_any _ _ _ 1 qG _ M_w10.pcs (by omega) (by omega) (by omega) (by omega)).mono ?_
    rw [HMM.out]
    rintro e w11 ⟨rfl, hw⟩
    have b_w11 : Below w10.heap.size w10 w11 := by rw [← hw]; exact Below.refl _ _
    clear hw
    have d_w11 := d_w10.trans (b_w11.mono d_w10.size)
    have z_w11 := b_w11.size
    have W_w11 := W_w10.below b_w11
    have M_w11 := M_w10.below b_w11
    go_wp2_with fail
    refine (toByteS_any _ _ _ zs _ (hS.below d_w11 (Nat.le_refl _)) d_w11.size hn).mono ?_
    rintro e w12 ⟨rfl, ob_w12, b_w12⟩
    have d_w12 := d_w11.trans (b_w12.mono d_w11.size)
    have z_w12 := b_w12.size
    have W_w12 := W_w11.below b_w12
    have M_w12 := M_w11.below b_w12
    go_wp2_with fail
    refine (iSplitBody_any _ _ _ zs _ _ (Sl.of_own ob_w12) (Nat.le_refl _) (Nat.le_refl _) hnm hn hby).mono ?_
    rw [HN.out.1, HN.out.2]
    intro e w13 hr
    obtain ⟨AH, cH, qH, rfl, hpH, H_w13, b_w13⟩ := hr
    have UH := H_w13.under
    have sH := split_sum (zs := zs) (size := sz) (by rw [HSP.out]; exact hpH) H_w13
    have HPH := Lib.hid hpH
    clear hpH
    have d_w13 := d_w12.trans (b_w13.mono d_w12.size)
    have z_w13 := b_w13.size
    have ob_w13 := own_below ob_w12 b_w13
    have W_w13 := W_w12.below b_w13
    have M_w13 := M_w12.below b_w13
    go_wp2_with fail
    refine (eqPieceS_yes _ _ _ _ _ _ _ _ H_w13.pcs W_w13.pcs (HPH.out.trans HPW.out.symm) (Nat.le_refl _) (Nat.le_refl _) (by omega) (by omega)).mono ?_
    rintro e w14 ⟨rfl, b_w14⟩
    have d_w14 := d_w13.trans (b_w14.mono d_w13.size)
    have z_w14 := b_w14.size
    have W_w14 := W_w13.below b_w14
    have M_w14 := M_w13.below b_w14
    have H_w14 := H_w13.below b_w14
    go_wp2_with fail
    refine (heldPieceS_any _ _ _ 1 qG _ M_w14.pcs (by omega) (by omega) (by omega) (by omega)).mono ?_
    rw [HMM.out]
    rintro e w15 ⟨rfl, hw⟩
    have b_w15 : Below w14.heap.size w14 w15 := by rw [← hw]; exact Below.refl _ _
    clear hw
    have d_w15 := d_w14.trans (b_w15.mono d_w14.size)
    have z_w15 := b_w15.size
    have W_w15 := W_w14.below b_w15
    have M_w15 := M_w14.below b_w15
    have H_w15 := H_w14.below b_w15
    go_wp2_with fail
    go_ret
    exact ⟨rfl, d_w15⟩
  · have hn1 : ((1048576 : Int) < (n : Int)) := by omega
    go_enter Try.func3, Try.ntmps3
    go_wp2
    go_ret
    exact ⟨rfl, Below.refl _ _⟩
end Go.Proofs.Ytljbkppeoedcjaa
