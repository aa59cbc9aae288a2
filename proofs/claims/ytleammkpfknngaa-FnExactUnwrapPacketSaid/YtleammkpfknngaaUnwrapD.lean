/-
  The walk of the law FnExactUnwrapPacket.
-/
import Derived.Test.YtleammkpfknngaaUnwrap
import Derived.Test.YtleammkpfknngaaHeldPkt
import Derived.Test.YtleammkpfknngaaPktC
namespace Go.Proofs.Ytleammkpfknngaa
open Go.RowKit
set_option linter.unusedVariables false
attribute [local go_sem ↓] Go.wp_at_zero Go.wp_at_succ

set_option maxHeartbeats 3200000 in
theorem wFnExactUnwrapPacket (f t k l : Int) (A : Option Addr) (n c : Nat) (zs : List Int) (tt : Int) (w : World) (hS : Sl w 0 w.heap.size 1 A n (zs.map (Value.int .u8))) (hnc : n ≤ c) (hm : c ≤ maxLen) (hwf : ∀ z ∈ zs, (Lit.int .u8 z).wf = true) (_ : -9223372036854775808 ≤ tt ∧ tt ≤ 9223372036854775807) :
    Calls Try.prog 10 #[.agg #[.int .i64 f, .int .i64 t, .int .i64 k, .int .i64 l, .slice A n c], .int .i64 tt] w fun e w' => e = .returned (.bool true) ∧ Below w.heap.size w w' := by
  unfold maxLen at hm
  have hnm : n ≤ maxLen := by unfold maxLen; omega
  by_cases hn : n ≤ 1048576
  · have hn1 : ¬ ((1048576 : Int) < (n : Int)) := by omega
    have hby := AllByte.of_wf hwf
    have HZ := Lib.hid hS.len
    obtain ⟨rf, hrf⟩ : ∃ x, unF f t k l zs tt 4 = x := ⟨_, rfl⟩
    obtain ⟨rt, hrt⟩ : ∃ x, unF f t k l zs tt 5 = x := ⟨_, rfl⟩
    obtain ⟨rk, hrk⟩ : ∃ x, unF f t k l zs tt 1 = x := ⟨_, rfl⟩
    obtain ⟨rl, hrl⟩ : ∃ x, unF f t k l zs tt 2 = x := ⟨_, rfl⟩
    obtain ⟨rs, hrs⟩ : ∃ x, unB f t k l zs tt = x := ⟨_, rfl⟩
    obtain ⟨ok, hok⟩ : ∃ x, unV f t k l zs tt = x := ⟨_, rfl⟩
    have hl : rs.length ≤ 1048576 := by rw [← hrs]; have := unB_len (f := f) (t := t) (k := k) (l := l) (zs := zs) (tt := tt); have := HZ.out; omega
    have HRF := Lib.hid hrf
    have HRT := Lib.hid hrt
    have HRK := Lib.hid hrk
    have HRL := Lib.hid hrl
    have HRB := Lib.hid hrs
    have HRO := Lib.hid hok
    clear hrf hrt hrk hrl hrs hok
    obtain ⟨m, hml⟩ : ∃ m, rs.length = m := ⟨_, rfl⟩
    have HM := Lib.hid hml
    rw [hml] at hl
    clear hml
    have okk : (ok != ok) = false := by cases ok <;> rfl
    go_enter Try.func10, Try.ntmps10
    go_wp2_with fail
    refine (szPacket_any _ _ _ _ _ _ _ _ _ (by omega) (by omega) (by omega)).mono ?_
    rw [if_neg (by omega)]
    rintro e w0 ⟨rfl, b0⟩
    have e0 := (Below.refl w.heap.size w).alloc (Nat.le_refl _) (.cells #[.int .i64 f, .int .i64 t, .int .i64 k, .int .i64 l, .slice A n c] 24)
    have d_w0 := e0.trans (b0.mono (by simp))
    have K_w0 := (Blk.new w 24 #[.int .i64 f, .int .i64 t, .int .i64 k, .int .i64 l, .slice A n c]).below b0 (by simp)
    have z_w0 := b0.size
    simp only [World.size_alloc] at z_w0
    obtain ⟨k0, k1, k2, k3, k4⟩ := K_w0.five
    have klt := K_w0.lt
    go_wp2_with fail
    refine (toPacket_any _ _ _ _ _ _ _ zs _ (hS.below d_w0 (Nat.le_refl _)) d_w0.size hn).mono ?_
    rintro e w1 ⟨rfl, oa_w1, b_w1⟩
    clear k0 k1 k2 k3 k4 klt
    have d_w1 := d_w0.trans (b_w1.mono d_w0.size)
    have z_w1 := b_w1.size
    have K_w1 := K_w0.below b_w1 (by omega)
    go_wp2_with fail
    refine (sUnwrapPacket_any _ _ _ _ _ _ _ zs _ _ (Sl.of_own oa_w1) (Nat.le_refl _) (Nat.le_refl _) hnm hn hby).mono ?_
    rw [HRF.out, HRT.out, HRK.out, HRL.out, HRB.out, HRO.out]
    intro e w2 hr
    obtain ⟨AW, nW, cW, rfl, hW, W_w2, b_w2⟩ := hr
    obtain rfl : m = nW := by rw [← hW, HM.out]
    clear hW
    have wb := fun q hq => W_w2.lt q hq
    have d_w2 := d_w1.trans (b_w2.mono d_w1.size)
    have z_w2 := b_w2.size
    have oa_w2 := own_below oa_w1 b_w2
    have K_w2 := K_w1.below b_w2 (by omega)
    obtain ⟨k0, k1, k2, k3, k4⟩ := K_w2.five
    have klt := K_w2.lt
    go_wp2_with fail
    clear k0 k1 k2 k3 k4 klt
    have X_w3 := Blk.new w2 27 #[.int .i64 rf, .int .i64 rt, .int .i64 rk, .int .i64 rl, .slice AW m cW]
    have b_w3 := (Below.refl w2.heap.size w2).alloc (Nat.le_refl _) (.cells #[.int .i64 rf, .int .i64 rt, .int .i64 rk, .int .i64 rl, .slice AW m cW] 27)
    have y_w3 : w2.heap.size < (w2.alloc (.cells #[.int .i64 rf, .int .i64 rt, .int .i64 rk, .int .i64 rl, .slice AW m cW] 27)).heap.size := by simp
    generalize hw3 : w2.alloc (.cells #[.int .i64 rf, .int .i64 rt, .int .i64 rk, .int .i64 rl, .slice AW m cW] 27) = w3 at X_w3 b_w3 y_w3 ⊢
    clear hw3
    have d_w3 := d_w2.trans (b_w3.mono d_w2.size)
    have z_w3 := b_w3.size
    have W_w3 := own_below W_w2 b_w3
    have K_w3 := K_w2.below b_w3 (by omega)
    obtain ⟨k0, k1, k2, k3, k4⟩ := K_w3.five
    have klt := K_w3.lt
    go_wp2_with fail
    refine (toPacket_any _ _ _ _ _ _ _ zs _ (hS.below d_w3 (Nat.le_refl _)) d_w3.size hn).mono ?_
    rintro e w4 ⟨rfl, ox_w4, b_w4⟩
    have xb := (ox_w4.lt _ rfl).2
    clear k0 k1 k2 k3 k4 klt
    have d_w4 := d_w3.trans (b_w4.mono d_w3.size)
    have z_w4 := b_w4.size
    have W_w4 := own_below W_w3 b_w4
    have K_w4 := K_w3.below b_w4 (by omega)
    have X_w4 := X_w3.below b_w4 (by omega)
    go_wp2_with fail
    have Y_w5 := Blk.new w4 27 #[.int .i64 f, .int .i64 t, .int .i64 k, .int .i64 l, .slice (some ⟨w3.heap.size + 1 + 1 + 1, 0, none⟩) n n]
    have b_w5 := (Below.refl w4.heap.size w4).alloc (Nat.le_refl _) (.cells #[.int .i64 f, .int .i64 t, .int .i64 k, .int .i64 l, .slice (some ⟨w3.heap.size + 1 + 1 + 1, 0, none⟩) n n] 27)
    have y_w5 : w4.heap.size < (w4.alloc (.cells #[.int .i64 f, .int .i64 t, .int .i64 k, .int .i64 l, .slice (some ⟨w3.heap.size + 1 + 1 + 1, 0, none⟩) n n] 27)).heap.size := by simp
    generalize hw5 : w4.alloc (.cells #[.int .i64 f, .int .i64 t, .int .i64 k, .int .i64 l, .slice (some ⟨w3.heap.size + 1 + 1 + 1, 0, none⟩) n n] 27) = w5 at Y_w5 b_w5 y_w5 ⊢
    clear hw5
    have d_w5 := d_w4.trans (b_w5.mono d_w4.size)
    have z_w5 := b_w5.size
    have W_w5 := own_below W_w4 b_w5
    have ox_w5 := own_below ox_w4 b_w5
    have K_w5 := K_w4.below b_w5 (by omega)
    have X_w5 := X_w4.below b_w5 (by omega)
    refine (iUnwrapPacket_any _ _ _ _ _ _ _ zs _ _ (Sl.of_own ox_w5) (Nat.le_refl _) (Nat.le_refl _) hnm hn hby).mono ?_
    rw [HRF.out, HRT.out, HRK.out, HRL.out, HRB.out, HRO.out]
    intro e w6 hr
    obtain ⟨AG, nG, cG, rfl, hG, G_w6, b_w6⟩ := hr
    obtain rfl : m = nG := by rw [← hG, HM.out]
    clear hG
    have gb := fun q hq => G_w6.lt q hq
    have d_w6 := d_w5.trans (b_w6.mono d_w5.size)
    have z_w6 := b_w6.size
    have W_w6 := own_below W_w5 b_w6
    have ox_w6 := own_below ox_w5 b_w6
    have K_w6 := K_w5.below b_w6 (by omega)
    have X_w6 := X_w5.below b_w6 (by omega)
    have Y_w6 := Y_w5.below b_w6 (by omega)
    obtain ⟨x0, x1, x2, x3, x4⟩ := X_w6.five
    have xlt := X_w6.lt
    go_wp2_with fail
    clear x0 x1 x2 x3 x4 xlt
    have Z_w7 := Blk.new w6 27 #[.int .i64 rf, .int .i64 rt, .int .i64 rk, .int .i64 rl, .slice AG m cG]
    have b_w7 := (Below.refl w6.heap.size w6).alloc (Nat.le_refl _) (.cells #[.int .i64 rf, .int .i64 rt, .int .i64 rk, .int .i64 rl, .slice AG m cG] 27)
    have y_w7 : w6.heap.size < (w6.alloc (.cells #[.int .i64 rf, .int .i64 rt, .int .i64 rk, .int .i64 rl, .slice AG m cG] 27)).heap.size := by simp
    generalize hw7 : w6.alloc (.cells #[.int .i64 rf, .int .i64 rt, .int .i64 rk, .int .i64 rl, .slice AG m cG] 27) = w7 at Z_w7 b_w7 y_w7 ⊢
    clear hw7
    have d_w7 := d_w6.trans (b_w7.mono d_w6.size)
    have z_w7 := b_w7.size
    have W_w7 := own_below W_w6 b_w7
    have ox_w7 := own_below ox_w6 b_w7
    have G_w7 := own_below G_w6 b_w7
    have K_w7 := K_w6.below b_w7 (by omega)
    have X_w7 := X_w6.below b_w7 (by omega)
    have Y_w7 := Y_w6.below b_w7 (by omega)
    obtain ⟨x0, x1, x2, x3, x4⟩ := X_w7.five
    have xlt := X_w7.lt
    obtain ⟨z0, z1, z2, z3, z4⟩ := Z_w7.five
    have zlt := Z_w7.lt
    go_wp2_with fail
    refine (eqPacket_yes _ _ _ _ _ _ _ _ _ rs _ (Sl.of_own G_w7) (Sl.of_own W_w7) (Nat.le_refl _) (Nat.le_refl _) hl).mono ?_
    rintro e w8 ⟨rfl, b_w8⟩
    clear x0 x1 x2 x3 x4 xlt
    clear z0 z1 z2 z3 z4 zlt
    have d_w8 := d_w7.trans (b_w8.mono d_w7.size)
    have z_w8 := b_w8.size
    have W_w8 := own_below W_w7 b_w8
    have ox_w8 := own_below ox_w7 b_w8
    have G_w8 := own_below G_w7 b_w8
    have K_w8 := K_w7.below b_w8 (by omega)
    have X_w8 := X_w7.below b_w8 (by omega)
    have Y_w8 := Y_w7.below b_w8 (by omega)
    have Z_w8 := Z_w7.below b_w8 (by omega)
    obtain ⟨k0, k1, k2, k3, k4⟩ := K_w8.five
    have klt := K_w8.lt
    obtain ⟨y0, y1, y2, y3, y4⟩ := Y_w8.five
    have ylt := Y_w8.lt
    go_wp2_with fail
    have hYb : w4.heap.size < w8.heap.size := Y_w8.lt
    go_region_held3 (fun w' => w'.cell? ⟨w.heap.size, 0, none⟩ = some (.int .i64 f) ∧ w'.cell? ⟨w.heap.size, 1, none⟩ = some (.int .i64 t) ∧ w'.cell? ⟨w.heap.size, 2, none⟩ = some (.int .i64 k) ∧ w'.cell? ⟨w.heap.size, 3, none⟩ = some (.int .i64 l) ∧ w'.cell? ⟨w.heap.size, 4, none⟩ = some (.slice A n c) ∧ w'.cell? ⟨w4.heap.size, 0, none⟩ = some (.int .i64 f) ∧ w'.cell? ⟨w4.heap.size, 1, none⟩ = some (.int .i64 t) ∧ w'.cell? ⟨w4.heap.size, 2, none⟩ = some (.int .i64 k) ∧ w'.cell? ⟨w4.heap.size, 3, none⟩ = some (.int .i64 l) ∧ w'.cell? ⟨w4.heap.size, 4, none⟩ = some (.slice (some ⟨w3.heap.size + 1 + 1 + 1, 0, none⟩) n n)) (first | go_keep | trivial) (first | (go_at_call 14; refine (toPacket_any _ _ _ _ _ _ _ zs _ (hS.below d_w8.drew (Nat.le_refl _)) d_w8.drew.size hn).mono ?_; rintro e w9 ⟨rfl, own7, b7⟩; have q0 := b7.cell (p := ⟨w.heap.size, 0, none⟩) (by show w.heap.size < w8.heap.size; omega); have q1 := b7.cell (p := ⟨w.heap.size, 1, none⟩) (by show w.heap.size < w8.heap.size; omega); have q2 := b7.cell (p := ⟨w.heap.size, 2, none⟩) (by show w.heap.size < w8.heap.size; omega); have q3 := b7.cell (p := ⟨w.heap.size, 3, none⟩) (by show w.heap.size < w8.heap.size; omega); have q4 := b7.cell (p := ⟨w.heap.size, 4, none⟩) (by show w.heap.size < w8.heap.size; omega); have r0 := b7.cell (p := ⟨w4.heap.size, 0, none⟩) (by show w4.heap.size < w8.heap.size; omega); have r1 := b7.cell (p := ⟨w4.heap.size, 1, none⟩) (by show w4.heap.size < w8.heap.size; omega); have r2 := b7.cell (p := ⟨w4.heap.size, 2, none⟩) (by show w4.heap.size < w8.heap.size; omega); have r3 := b7.cell (p := ⟨w4.heap.size, 3, none⟩) (by show w4.heap.size < w8.heap.size; omega); have r4 := b7.cell (p := ⟨w4.heap.size, 4, none⟩) (by show w4.heap.size < w8.heap.size; omega)) | (go_at_call 16; refine (eqPacket_yes _ _ _ _ _ _ _ _ _ zs _ (Sl.of_own (own_below (w := w8.drew) ox_w8 b7)) (Sl.of_own own7) (Nat.le_refl _) (Nat.le_refl _) hn).mono ?_; rintro e w10 ⟨rfl, b8⟩; have y7 : w8.heap.size ≤ w9.heap.size := b7.size; have t0 := (b8.cell (p := ⟨w.heap.size, 0, none⟩) (by show w.heap.size < w9.heap.size; omega)).trans (q0.trans k0); have t1 := (b8.cell (p := ⟨w.heap.size, 1, none⟩) (by show w.heap.size < w9.heap.size; omega)).trans (q1.trans k1); have t2 := (b8.cell (p := ⟨w.heap.size, 2, none⟩) (by show w.heap.size < w9.heap.size; omega)).trans (q2.trans k2); have t3 := (b8.cell (p := ⟨w.heap.size, 3, none⟩) (by show w.heap.size < w9.heap.size; omega)).trans (q3.trans k3); have t4 := (b8.cell (p := ⟨w.heap.size, 4, none⟩) (by show w.heap.size < w9.heap.size; omega)).trans (q4.trans k4); have u0 := (b8.cell (p := ⟨w4.heap.size, 0, none⟩) (by show w4.heap.size < w9.heap.size; omega)).trans (r0.trans y0); have u1 := (b8.cell (p := ⟨w4.heap.size, 1, none⟩) (by show w4.heap.size < w9.heap.size; omega)).trans (r1.trans y1); have u2 := (b8.cell (p := ⟨w4.heap.size, 2, none⟩) (by show w4.heap.size < w9.heap.size; omega)).trans (r2.trans y2); have u3 := (b8.cell (p := ⟨w4.heap.size, 3, none⟩) (by show w4.heap.size < w9.heap.size; omega)).trans (r3.trans y3); have u4 := (b8.cell (p := ⟨w4.heap.size, 4, none⟩) (by show w4.heap.size < w9.heap.size; omega)).trans (r4.trans y4)))
    all_goals
      clear k0 k1 k2 k3 k4 klt
      clear y0 y1 y2 y3 y4 ylt
      have z7 : w8.heap.size ≤ w9.heap.size := b7.size
      have b_w10 : Below w8.heap.size w8 w10 := ((Below.refl w8.heap.size w8).drew.trans (b7.mono (Nat.le_refl _))).trans (b8.mono z7)
      have d_w10 := d_w8.trans (b_w10.mono d_w8.size)
      have z_w10 := b_w10.size
      have W_w10 := own_below W_w8 b_w10
      have ox_w10 := own_below ox_w8 b_w10
      have G_w10 := own_below G_w8 b_w10
      have K_w10 := K_w8.below b_w10 (by omega)
      have X_w10 := X_w8.below b_w10 (by omega)
      have Y_w10 := Y_w8.below b_w10 (by omega)
      have Z_w10 := Z_w8.below b_w10 (by omega)
      obtain ⟨k0, k1, k2, k3, k4⟩ := K_w10.five
      have klt := K_w10.lt
      go_wp2_with fail
      refine (markPacket_own _ _ _ _ _ _ _ _ _ _ _ ox_w10 hn (by omega) (by omega)).mono ?_
      rintro e w11 ⟨rfl, _, g9'⟩
      have g9 : w10.grownBy w11 (some (w3.heap.size + 1 + 1 + 1)) := g9'
      clear g9'
      clear k0 k1 k2 k3 k4 klt
      have d_w11 := d_w10.grown g9 d_w10.size fun q hq => by cases hq; omega
      have z_w11 := g9.size
      have W_w11 := own_apart' W_w10 g9 (fun q hq he => by injection he with he; subst he; have := (wb _ hq).2; omega)
      have G_w11 := own_apart' G_w10 g9 (fun q hq he => by injection he with he; subst he; have := (gb _ hq).1; omega)
      have K_w11 := K_w10.grown g9 (by intro he; injection he with he; omega)
      have X_w11 := X_w10.grown g9 (by intro he; injection he with he; omega)
      have Z_w11 := Z_w10.grown g9 (by intro he; injection he with he; omega)
      obtain ⟨Q, hQ⟩ : ∃ Q : Int, 1 + (n : Int) = Q := ⟨_, rfl⟩
      rw [hQ]
      have hQ0 : 0 ≤ Q := by omega
      have hQ1 : decide (Q < (0 : Int)) = false := decide_eq_false (by omega)
      clear hQ
      obtain ⟨x0, x1, x2, x3, x4⟩ := X_w11.five
      have xlt := X_w11.lt
      obtain ⟨z0, z1, z2, z3, z4⟩ := Z_w11.five
      have zlt := Z_w11.lt
      go_wp2_with fail
      refine (eqPacket_yes _ _ _ _ _ _ _ _ _ rs _ (Sl.of_own G_w11) (Sl.of_own W_w11) (Nat.le_refl _) (Nat.le_refl _) hl).mono ?_
      rintro e w12 ⟨rfl, b_w12⟩
      clear x0 x1 x2 x3 x4 xlt
      clear z0 z1 z2 z3 z4 zlt
      have d_w12 := d_w11.trans (b_w12.mono d_w11.size)
      have z_w12 := b_w12.size
      have W_w12 := own_below W_w11 b_w12
      have G_w12 := own_below G_w11 b_w12
      have K_w12 := K_w11.below b_w12 (by omega)
      have X_w12 := X_w11.below b_w12 (by omega)
      have Z_w12 := Z_w11.below b_w12 (by omega)
      obtain ⟨z0, z1, z2, z3, z4⟩ := Z_w12.five
      have zlt := Z_w12.lt
      go_wp2_with fail
      refine (markPacket_own _ _ _ _ _ _ _ _ _ _ _ G_w12 hl (by omega) (by omega)).mono ?_
      rintro e w13 ⟨rfl, ⟨ys, om_w13, hmk⟩, g11⟩
      clear z0 z1 z2 z3 z4 zlt
      have d_w13 := d_w12.grown g11 d_w12.size fun q hq => by have := (gb _ hq).1; omega
      have z_w13 := g11.size
      have W_w13 := own_apart' W_w12 g11 (fun q hq he => by have := (wb _ hq).2; have := (gb _ he).1; omega)
      have K_w13 := K_w12.grown g11 (by intro he; have := (gb _ he.symm).1; have := (gb _ he.symm).2; omega)
      have X_w13 := X_w12.grown g11 (by intro he; have := (gb _ he.symm).1; have := (gb _ he.symm).2; omega)
      have Z_w13 := Z_w12.grown g11 (by intro he; have := (gb _ he.symm).1; have := (gb _ he.symm).2; omega)
      obtain ⟨M, hMe⟩ : ∃ M : Int, 1 + (m : Int) = M := ⟨_, rfl⟩
      rw [hMe]
      have hM0 : 0 ≤ M := by omega
      have HMM := Lib.hid hMe
      have hM1 : decide (M < (0 : Int)) = false := decide_eq_false (by omega)
      clear hMe
      obtain ⟨z0, z1, z2, z3, z4⟩ := Z_w13.five
      have zlt := Z_w13.lt
      go_wp2_with fail
      refine (heldPacket_any _ _ _ _ _ _ _ 1 ys _ (Sl.of_own om_w13) (Nat.le_refl _) hmk hl (by omega) (by omega)).mono ?_
      rw [HMM.out]
      rintro e w14 ⟨rfl, b_w14⟩
      clear z0 z1 z2 z3 z4 zlt
      have d_w14 := d_w13.trans (b_w14.mono d_w13.size)
      have z_w14 := b_w14.size
      have W_w14 := own_below W_w13 b_w14
      have om_w14 := own_below om_w13 b_w14
      have K_w14 := K_w13.below b_w14 (by omega)
      have X_w14 := X_w13.below b_w14 (by omega)
      have Z_w14 := Z_w13.below b_w14 (by omega)
      obtain ⟨k0, k1, k2, k3, k4⟩ := K_w14.five
      have klt := K_w14.lt
      go_wp2_with fail
      refine (toPacket_any _ _ _ _ _ _ _ zs _ (hS.below d_w14 (Nat.le_refl _)) d_w14.size hn).mono ?_
      rintro e w15 ⟨rfl, ob_w15, b_w15⟩
      clear k0 k1 k2 k3 k4 klt
      have d_w15 := d_w14.trans (b_w15.mono d_w14.size)
      have z_w15 := b_w15.size
      have W_w15 := own_below W_w14 b_w15
      have om_w15 := own_below om_w14 b_w15
      have K_w15 := K_w14.below b_w15 (by omega)
      have X_w15 := X_w14.below b_w15 (by omega)
      have Z_w15 := Z_w14.below b_w15 (by omega)
      go_wp2_with fail
      refine (iUnwrapPacket_any _ _ _ _ _ _ _ zs _ _ (Sl.of_own ob_w15) (Nat.le_refl _) (Nat.le_refl _) hnm hn hby).mono ?_
      rw [HRF.out, HRT.out, HRK.out, HRL.out, HRB.out, HRO.out]
      intro e w16 hr
      obtain ⟨AH, nH, cH, rfl, hH, H_w16, b_w16⟩ := hr
      obtain rfl : m = nH := by rw [← hH, HM.out]
      clear hH
      have d_w16 := d_w15.trans (b_w16.mono d_w15.size)
      have z_w16 := b_w16.size
      have W_w16 := own_below W_w15 b_w16
      have om_w16 := own_below om_w15 b_w16
      have ob_w16 := own_below ob_w15 b_w16
      have K_w16 := K_w15.below b_w16 (by omega)
      have X_w16 := X_w15.below b_w16 (by omega)
      have Z_w16 := Z_w15.below b_w16 (by omega)
      obtain ⟨x0, x1, x2, x3, x4⟩ := X_w16.five
      have xlt := X_w16.lt
      go_wp2_with fail
      clear x0 x1 x2 x3 x4 xlt
      have V_w17 := Blk.new w16 27 #[.int .i64 rf, .int .i64 rt, .int .i64 rk, .int .i64 rl, .slice AH m cH]
      have b_w17 := (Below.refl w16.heap.size w16).alloc (Nat.le_refl _) (.cells #[.int .i64 rf, .int .i64 rt, .int .i64 rk, .int .i64 rl, .slice AH m cH] 27)
      have y_w17 : w16.heap.size < (w16.alloc (.cells #[.int .i64 rf, .int .i64 rt, .int .i64 rk, .int .i64 rl, .slice AH m cH] 27)).heap.size := by simp
      generalize hw17 : w16.alloc (.cells #[.int .i64 rf, .int .i64 rt, .int .i64 rk, .int .i64 rl, .slice AH m cH] 27) = w17 at V_w17 b_w17 y_w17 ⊢
      clear hw17
      have d_w17 := d_w16.trans (b_w17.mono d_w16.size)
      have z_w17 := b_w17.size
      have W_w17 := own_below W_w16 b_w17
      have om_w17 := own_below om_w16 b_w17
      have H_w17 := own_below H_w16 b_w17
      have K_w17 := K_w16.below b_w17 (by omega)
      have X_w17 := X_w16.below b_w17 (by omega)
      have Z_w17 := Z_w16.below b_w17 (by omega)
      obtain ⟨x0, x1, x2, x3, x4⟩ := X_w17.five
      have xlt := X_w17.lt
      obtain ⟨v0, v1, v2, v3, v4⟩ := V_w17.five
      have vlt := V_w17.lt
      go_wp2_with fail
      refine (eqPacket_yes _ _ _ _ _ _ _ _ _ rs _ (Sl.of_own H_w17) (Sl.of_own W_w17) (Nat.le_refl _) (Nat.le_refl _) hl).mono ?_
      rintro e w18 ⟨rfl, b_w18⟩
      clear x0 x1 x2 x3 x4 xlt
      clear v0 v1 v2 v3 v4 vlt
      have d_w18 := d_w17.trans (b_w18.mono d_w17.size)
      have z_w18 := b_w18.size
      have W_w18 := own_below W_w17 b_w18
      have om_w18 := own_below om_w17 b_w18
      have H_w18 := own_below H_w17 b_w18
      have K_w18 := K_w17.below b_w18 (by omega)
      have X_w18 := X_w17.below b_w18 (by omega)
      have Z_w18 := Z_w17.below b_w18 (by omega)
      have V_w18 := V_w17.below b_w18 (by omega)
      obtain ⟨z0, z1, z2, z3, z4⟩ := Z_w18.five
      have zlt := Z_w18.lt
      go_wp2_with fail
      refine (heldPacket_any _ _ _ _ _ _ _ 1 ys _ (Sl.of_own om_w18) (Nat.le_refl _) hmk hl (by omega) (by omega)).mono ?_
      rw [HMM.out]
      rintro e w19 ⟨rfl, b_w19⟩
      clear z0 z1 z2 z3 z4 zlt
      have d_w19 := d_w18.trans (b_w19.mono d_w18.size)
      have z_w19 := b_w19.size
      have W_w19 := own_below W_w18 b_w19
      have om_w19 := own_below om_w18 b_w19
      have H_w19 := own_below H_w18 b_w19
      have K_w19 := K_w18.below b_w19 (by omega)
      have X_w19 := X_w18.below b_w19 (by omega)
      have Z_w19 := Z_w18.below b_w19 (by omega)
      have V_w19 := V_w18.below b_w19 (by omega)
      go_wp2_with fail
      go_ret
      exact ⟨rfl, d_w19⟩
  · have hn1 : ((1048576 : Int) < (n : Int)) := by omega
    have e0 := (Below.refl w.heap.size w).alloc (Nat.le_refl _) (.cells #[.int .i64 f, .int .i64 t, .int .i64 k, .int .i64 l, .slice A n c] 24)
    go_enter Try.func10, Try.ntmps10
    go_wp2_with fail
    refine (szPacket_any _ _ _ _ _ _ _ _ _ (by omega) (by omega) (by omega)).mono ?_
    rw [if_pos (by omega)]
    rintro e w0 ⟨rfl, b0⟩
    go_wp2_with fail
    go_ret
    exact ⟨rfl, e0.trans (b0.mono (by simp))⟩
end Go.Proofs.Ytleammkpfknngaa
