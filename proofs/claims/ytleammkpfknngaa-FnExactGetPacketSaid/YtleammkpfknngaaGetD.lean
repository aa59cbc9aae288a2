/-
  The walk of the law FnExactGetPacket.
-/
import Derived.Test.YtleammkpfknngaaGetI
import Derived.Test.YtleammkpfknngaaGetS
import Derived.Test.YtleammkpfknngaaHeldPkt
namespace Go.Proofs.Ytleammkpfknngaa
open Go.RowKit
set_option linter.unusedVariables false
attribute [local go_sem ↓] Go.wp_at_zero Go.wp_at_succ

set_option maxHeartbeats 3200000 in
theorem wFnExactGetPacket (A : Option Addr) (n c : Nat) (zs : List Int) (w : World) (hS : Sl w 0 w.heap.size 1 A n (zs.map (Value.int .u8))) (hnc : n ≤ c) (hm : c ≤ maxLen) (hwf : ∀ z ∈ zs, (Lit.int .u8 z).wf = true) :
    Calls Try.prog 7 #[.slice A n c] w fun e w' => e = .returned (.bool true) ∧ Below w.heap.size w w' := by
  unfold maxLen at hm
  have hnm : n ≤ maxLen := by unfold maxLen; omega
  by_cases hn : n ≤ 1048576
  · have hn1 : ¬ ((1048576 : Int) < (n : Int)) := by omega
    have hby := AllByte.of_wf hwf
    have HZ := Lib.hid hS.len
    obtain ⟨rf, hrf⟩ : ∃ x, getF zs 4 = x := ⟨_, rfl⟩
    obtain ⟨rt, hrt⟩ : ∃ x, getF zs 5 = x := ⟨_, rfl⟩
    obtain ⟨rk, hrk⟩ : ∃ x, getF zs 1 = x := ⟨_, rfl⟩
    obtain ⟨rl, hrl⟩ : ∃ x, getF zs 2 = x := ⟨_, rfl⟩
    obtain ⟨rs, hrs⟩ : ∃ x, getB zs = x := ⟨_, rfl⟩
    obtain ⟨ok, hok⟩ : ∃ x, getV zs = x := ⟨_, rfl⟩
    have hl : rs.length ≤ 1048576 := by rw [← hrs]; have := getB_len zs; have := HZ.out; omega
    have HRF := Lib.hid hrf
    have HRT := Lib.hid hrt
    have HRK := Lib.hid hrk
    have HRL := Lib.hid hrl
    have HRB := Lib.hid hrs
    have HRO := Lib.hid hok
    clear hrf hrt hrk hrl hrs hok
    obtain ⟨m, hml⟩ : ∃ m, rs.length = m := ⟨_, rfl⟩
    have HM := Lib.hid hml
    rw [hml] at hl
    clear hml
    have okk : (ok != ok) = false := by cases ok <;> rfl
    go_enter Try.func7, Try.ntmps7
    go_wp2_with fail
    refine (toByteS_any _ _ _ zs _ hS (Nat.le_refl _) hn).mono ?_
    rintro e w1 ⟨rfl, oa_w1, b_w1⟩
    have d_w1 := b_w1
    have z_w1 := b_w1.size
    go_wp2_with fail
    refine (sGetPacket_any _ _ _ zs _ (Sl.of_own oa_w1) (Nat.le_refl _) (Nat.le_refl _) hnm hn hby).mono ?_
    rw [HRF.out, HRT.out, HRK.out, HRL.out, HRB.out, HRO.out]
    intro e w2 hr
    obtain ⟨AW, nW, cW, rfl, hW, W_w2, b_w2⟩ := hr
    obtain rfl : m = nW := by rw [← hW, HM.out]
    clear hW
    have wb := fun q hq => W_w2.lt q hq
    have d_w2 := d_w1.trans (b_w2.mono d_w1.size)
    have z_w2 := b_w2.size
    have oa_w2 := own_below oa_w1 b_w2
    go_wp2_with fail
    have X_w3 := Blk.new w2 27 #[.int .i64 rf, .int .i64 rt, .int .i64 rk, .int .i64 rl, .slice AW m cW]
    have b_w3 := (Below.refl w2.heap.size w2).alloc (Nat.le_refl _) (.cells #[.int .i64 rf, .int .i64 rt, .int .i64 rk, .int .i64 rl, .slice AW m cW] 27)
    have y_w3 : w2.heap.size < (w2.alloc (.cells #[.int .i64 rf, .int .i64 rt, .int .i64 rk, .int .i64 rl, .slice AW m cW] 27)).heap.size := by simp
    generalize hw3 : w2.alloc (.cells #[.int .i64 rf, .int .i64 rt, .int .i64 rk, .int .i64 rl, .slice AW m cW] 27) = w3 at X_w3 b_w3 y_w3 ⊢
    clear hw3
    have d_w3 := d_w2.trans (b_w3.mono d_w2.size)
    have z_w3 := b_w3.size
    have W_w3 := own_below W_w2 b_w3
    go_wp2_with fail
    refine (toByteS_any _ _ _ zs _ (hS.below d_w3 (Nat.le_refl _)) d_w3.size hn).mono ?_
    rintro e w4 ⟨rfl, ox_w4, b_w4⟩
    have xb := (ox_w4.lt _ rfl).2
    have d_w4 := d_w3.trans (b_w4.mono d_w3.size)
    have z_w4 := b_w4.size
    have W_w4 := own_below W_w3 b_w4
    have X_w4 := X_w3.below b_w4 (by omega)
    go_wp2_with fail
    refine (iGetPacket_any _ _ _ zs _ (Sl.of_own ox_w4) (Nat.le_refl _) (Nat.le_refl _) hnm hn hby).mono ?_
    rw [HRF.out, HRT.out, HRK.out, HRL.out, HRB.out, HRO.out]
    intro e w5 hr
    obtain ⟨AG, nG, cG, rfl, hG, G_w5, b_w5⟩ := hr
    obtain rfl : m = nG := by rw [← hG, HM.out]
    clear hG
    have gb := fun q hq => G_w5.lt q hq
    have d_w5 := d_w4.trans (b_w5.mono d_w4.size)
    have z_w5 := b_w5.size
    have W_w5 := own_below W_w4 b_w5
    have ox_w5 := own_below ox_w4 b_w5
    have X_w5 := X_w4.below b_w5 (by omega)
    obtain ⟨x0, x1, x2, x3, x4⟩ := X_w5.five
    have xlt := X_w5.lt
    go_wp2_with fail
    clear x0 x1 x2 x3 x4 xlt
    have Z_w6 := Blk.new w5 27 #[.int .i64 rf, .int .i64 rt, .int .i64 rk, .int .i64 rl, .slice AG m cG]
    have b_w6 := (Below.refl w5.heap.size w5).alloc (Nat.le_refl _) (.cells #[.int .i64 rf, .int .i64 rt, .int .i64 rk, .int .i64 rl, .slice AG m cG] 27)
    have y_w6 : w5.heap.size < (w5.alloc (.cells #[.int .i64 rf, .int .i64 rt, .int .i64 rk, .int .i64 rl, .slice AG m cG] 27)).heap.size := by simp
    generalize hw6 : w5.alloc (.cells #[.int .i64 rf, .int .i64 rt, .int .i64 rk, .int .i64 rl, .slice AG m cG] 27) = w6 at Z_w6 b_w6 y_w6 ⊢
    clear hw6
    have d_w6 := d_w5.trans (b_w6.mono d_w5.size)
    have z_w6 := b_w6.size
    have W_w6 := own_below W_w5 b_w6
    have ox_w6 := own_below ox_w5 b_w6
    have G_w6 := own_below G_w5 b_w6
    have X_w6 := X_w5.below b_w6 (by omega)
    obtain ⟨x0, x1, x2, x3, x4⟩ := X_w6.five
    have xlt := X_w6.lt
    obtain ⟨z0, z1, z2, z3, z4⟩ := Z_w6.five
    have zlt := Z_w6.lt
    go_wp2_with fail
    refine (eqPacket_yes _ _ _ _ _ _ _ _ _ rs _ (Sl.of_own G_w6) (Sl.of_own W_w6) (Nat.le_refl _) (Nat.le_refl _) hl).mono ?_
    rintro e w7 ⟨rfl, b_w7⟩
    clear x0 x1 x2 x3 x4 xlt
    clear z0 z1 z2 z3 z4 zlt
    have d_w7 := d_w6.trans (b_w7.mono d_w6.size)
    have z_w7 := b_w7.size
    have W_w7 := own_below W_w6 b_w7
    have ox_w7 := own_below ox_w6 b_w7
    have G_w7 := own_below G_w6 b_w7
    have X_w7 := X_w6.below b_w7 (by omega)
    have Z_w7 := Z_w6.below b_w7 (by omega)
    go_wp2_with fail
    refine (toByteS_any _ _ _ zs _ (hS.below d_w7 (Nat.le_refl _)) d_w7.size hn).mono ?_
    rintro e w8 ⟨rfl, oc_w8, b_w8⟩
    have d_w8 := d_w7.trans (b_w8.mono d_w7.size)
    have z_w8 := b_w8.size
    have W_w8 := own_below W_w7 b_w8
    have ox_w8 := own_below ox_w7 b_w8
    have G_w8 := own_below G_w7 b_w8
    have X_w8 := X_w7.below b_w8 (by omega)
    have Z_w8 := Z_w7.below b_w8 (by omega)
    go_wp2_with fail
    refine (eqByteS_yes _ _ _ _ _ zs _ (Sl.of_own ox_w8) (Sl.of_own oc_w8) hn).mono ?_
    rintro e w9 ⟨rfl, b_w9⟩
    have d_w9 := d_w8.trans (b_w9.mono d_w8.size)
    have z_w9 := b_w9.size
    have W_w9 := own_below W_w8 b_w9
    have ox_w9 := own_below ox_w8 b_w9
    have G_w9 := own_below G_w8 b_w9
    have X_w9 := X_w8.below b_w9 (by omega)
    have Z_w9 := Z_w8.below b_w9 (by omega)
    go_wp2_with fail
    refine (markByteS_any _ _ _ _ _ _ _ ox_w9 hn (by omega) (by omega)).mono ?_
    rintro e w10 ⟨rfl, _, g9'⟩
    have g9 : w9.grownBy w10 (some (w3.heap.size)) := g9'
    clear g9'
    have d_w10 := d_w9.grown g9 d_w9.size fun q hq => by cases hq; omega
    have z_w10 := g9.size
    have W_w10 := own_apart' W_w9 g9 (fun q hq he => by injection he with he; subst he; have := (wb _ hq).2; omega)
    have G_w10 := own_apart' G_w9 g9 (fun q hq he => by injection he with he; subst he; have := (gb _ hq).1; omega)
    have X_w10 := X_w9.grown g9 (by intro he; injection he with he; omega)
    have Z_w10 := Z_w9.grown g9 (by intro he; injection he with he; omega)
    obtain ⟨Q, hQ⟩ : ∃ Q : Int, 1 + (n : Int) = Q := ⟨_, rfl⟩
    rw [hQ]
    have hQ0 : 0 ≤ Q := by omega
    have hQ1 : decide (Q < (0 : Int)) = false := decide_eq_false (by omega)
    clear hQ
    obtain ⟨x0, x1, x2, x3, x4⟩ := X_w10.five
    have xlt := X_w10.lt
    obtain ⟨z0, z1, z2, z3, z4⟩ := Z_w10.five
    have zlt := Z_w10.lt
    go_wp2_with fail
    refine (eqPacket_yes _ _ _ _ _ _ _ _ _ rs _ (Sl.of_own G_w10) (Sl.of_own W_w10) (Nat.le_refl _) (Nat.le_refl _) hl).mono ?_
    rintro e w11 ⟨rfl, b_w11⟩
    clear x0 x1 x2 x3 x4 xlt
    clear z0 z1 z2 z3 z4 zlt
    have d_w11 := d_w10.trans (b_w11.mono d_w10.size)
    have z_w11 := b_w11.size
    have W_w11 := own_below W_w10 b_w11
    have G_w11 := own_below G_w10 b_w11
    have X_w11 := X_w10.below b_w11 (by omega)
    have Z_w11 := Z_w10.below b_w11 (by omega)
    obtain ⟨z0, z1, z2, z3, z4⟩ := Z_w11.five
    have zlt := Z_w11.lt
    go_wp2_with fail
    refine (markPacket_own _ _ _ _ _ _ _ _ _ _ _ G_w11 hl (by omega) (by omega)).mono ?_
    rintro e w12 ⟨rfl, ⟨ys, om_w12, hmk⟩, g11⟩
    clear z0 z1 z2 z3 z4 zlt
    have d_w12 := d_w11.grown g11 d_w11.size fun q hq => by have := (gb _ hq).1; omega
    have z_w12 := g11.size
    have W_w12 := own_apart' W_w11 g11 (fun q hq he => by have := (wb _ hq).2; have := (gb _ he).1; omega)
    have X_w12 := X_w11.grown g11 (by intro he; have := (gb _ he.symm).1; have := (gb _ he.symm).2; omega)
    have Z_w12 := Z_w11.grown g11 (by intro he; have := (gb _ he.symm).1; have := (gb _ he.symm).2; omega)
    obtain ⟨M, hMe⟩ : ∃ M : Int, 1 + (m : Int) = M := ⟨_, rfl⟩
    rw [hMe]
    have hM0 : 0 ≤ M := by omega
    have HMM := Lib.hid hMe
    have hM1 : decide (M < (0 : Int)) = false := decide_eq_false (by omega)
    clear hMe
    obtain ⟨z0, z1, z2, z3, z4⟩ := Z_w12.five
    have zlt := Z_w12.lt
    go_wp2_with fail
    refine (heldPacket_any _ _ _ _ _ _ _ 1 ys _ (Sl.of_own om_w12) (Nat.le_refl _) hmk hl (by omega) (by omega)).mono ?_
    rw [HMM.out]
    rintro e w13 ⟨rfl, b_w13⟩
    clear z0 z1 z2 z3 z4 zlt
    have d_w13 := d_w12.trans (b_w13.mono d_w12.size)
    have z_w13 := b_w13.size
    have W_w13 := own_below W_w12 b_w13
    have om_w13 := own_below om_w12 b_w13
    have X_w13 := X_w12.below b_w13 (by omega)
    have Z_w13 := Z_w12.below b_w13 (by omega)
    go_wp2_with fail
    refine (toByteS_any _ _ _ zs _ (hS.below d_w13 (Nat.le_refl _)) d_w13.size hn).mono ?_
    rintro e w14 ⟨rfl, ob_w14, b_w14⟩
    have d_w14 := d_w13.trans (b_w14.mono d_w13.size)
    have z_w14 := b_w14.size
    have W_w14 := own_below W_w13 b_w14
    have om_w14 := own_below om_w13 b_w14
    have X_w14 := X_w13.below b_w14 (by omega)
    have Z_w14 := Z_w13.below b_w14 (by omega)
    go_wp2_with fail
    refine (iGetPacket_any _ _ _ zs _ (Sl.of_own ob_w14) (Nat.le_refl _) (Nat.le_refl _) hnm hn hby).mono ?_
    rw [HRF.out, HRT.out, HRK.out, HRL.out, HRB.out, HRO.out]
    intro e w15 hr
    obtain ⟨AH, nH, cH, rfl, hH, H_w15, b_w15⟩ := hr
    obtain rfl : m = nH := by rw [← hH, HM.out]
    clear hH
    have d_w15 := d_w14.trans (b_w15.mono d_w14.size)
    have z_w15 := b_w15.size
    have W_w15 := own_below W_w14 b_w15
    have om_w15 := own_below om_w14 b_w15
    have ob_w15 := own_below ob_w14 b_w15
    have X_w15 := X_w14.below b_w15 (by omega)
    have Z_w15 := Z_w14.below b_w15 (by omega)
    obtain ⟨x0, x1, x2, x3, x4⟩ := X_w15.five
    have xlt := X_w15.lt
    go_wp2_with fail
    clear x0 x1 x2 x3 x4 xlt
    have V_w16 := Blk.new w15 27 #[.int .i64 rf, .int .i64 rt, .int .i64 rk, .int .i64 rl, .slice AH m cH]
    have b_w16 := (Below.refl w15.heap.size w15).alloc (Nat.le_refl _) (.cells #[.int .i64 rf, .int .i64 rt, .int .i64 rk, .int .i64 rl, .slice AH m cH] 27)
    have y_w16 : w15.heap.size < (w15.alloc (.cells #[.int .i64 rf, .int .i64 rt, .int .i64 rk, .int .i64 rl, .slice AH m cH] 27)).heap.size := by simp
    generalize hw16 : w15.alloc (.cells #[.int .i64 rf, .int .i64 rt, .int .i64 rk, .int .i64 rl, .slice AH m cH] 27) = w16 at V_w16 b_w16 y_w16 ⊢
    clear hw16
    have d_w16 := d_w15.trans (b_w16.mono d_w15.size)
    have z_w16 := b_w16.size
    have W_w16 := own_below W_w15 b_w16
    have om_w16 := own_below om_w15 b_w16
    have H_w16 := own_below H_w15 b_w16
    have X_w16 := X_w15.below b_w16 (by omega)
    have Z_w16 := Z_w15.below b_w16 (by omega)
    obtain ⟨x0, x1, x2, x3, x4⟩ := X_w16.five
    have xlt := X_w16.lt
    obtain ⟨v0, v1, v2, v3, v4⟩ := V_w16.five
    have vlt := V_w16.lt
    go_wp2_with fail
    refine (eqPacket_yes _ _ _ _ _ _ _ _ _ rs _ (Sl.of_own H_w16) (Sl.of_own W_w16) (Nat.le_refl _) (Nat.le_refl _) hl).mono ?_
    rintro e w17 ⟨rfl, b_w17⟩
    clear x0 x1 x2 x3 x4 xlt
    clear v0 v1 v2 v3 v4 vlt
    have d_w17 := d_w16.trans (b_w17.mono d_w16.size)
    have z_w17 := b_w17.size
    have W_w17 := own_below W_w16 b_w17
    have om_w17 := own_below om_w16 b_w17
    have H_w17 := own_below H_w16 b_w17
    have X_w17 := X_w16.below b_w17 (by omega)
    have Z_w17 := Z_w16.below b_w17 (by omega)
    have V_w17 := V_w16.below b_w17 (by omega)
    obtain ⟨z0, z1, z2, z3, z4⟩ := Z_w17.five
    have zlt := Z_w17.lt
    go_wp2_with fail
    refine (heldPacket_any _ _ _ _ _ _ _ 1 ys _ (Sl.of_own om_w17) (Nat.le_refl _) hmk hl (by omega) (by omega)).mono ?_
    rw [HMM.out]
    rintro e w18 ⟨rfl, b_w18⟩
    clear z0 z1 z2 z3 z4 zlt
    have d_w18 := d_w17.trans (b_w18.mono d_w17.size)
    have z_w18 := b_w18.size
    have W_w18 := own_below W_w17 b_w18
    have om_w18 := own_below om_w17 b_w18
    have H_w18 := own_below H_w17 b_w18
    have X_w18 := X_w17.below b_w18 (by omega)
    have Z_w18 := Z_w17.below b_w18 (by omega)
    have V_w18 := V_w17.below b_w18 (by omega)
    go_wp2_with fail
    go_ret
    exact ⟨rfl, d_w18⟩
  · have hn1 : ((1048576 : Int) < (n : Int)) := by omega
    go_enter Try.func7, Try.ntmps7
    go_wp2
    go_ret
    exact ⟨rfl, Below.refl _ _⟩
end Go.Proofs.Ytleammkpfknngaa
