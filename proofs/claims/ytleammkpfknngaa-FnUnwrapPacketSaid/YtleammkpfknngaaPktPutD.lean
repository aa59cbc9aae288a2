/-
  The walk of the law FnExactPutPacket.
-/
import Derived.Test.YtleammkpfknngaaPktPutS
import Derived.Test.YtleammkpfknngaaMarkPkt
import Derived.Test.YtleammkpfknngaaPktC
namespace Go.Proofs.Ytleammkpfknngaa
open Go.RowKit
set_option linter.unusedVariables false
attribute [local go_sem ↓] Go.wp_at_zero Go.wp_at_succ

theorem putP_bd {f t k l : Int} {zs : List Int} : (putP f t k l zs).length ≤ 86 := by
  by_cases h : pktV f t k l zs.length = true
  · rw [putP_len h]; have := (pktV_iff.1 h).2.2.2.2; omega
  · rw [putP_bad (Bool.eq_false_iff.2 h)]; simp

set_option maxHeartbeats 1600000 in
theorem wFnExactPutPacket (f t k l : Int) (A : Option Addr) (n c : Nat) (zs : List Int) (w : World) (hS : Sl w 0 w.heap.size 1 A n (zs.map (Value.int .u8))) (hnc : n ≤ c) (hm : c ≤ maxLen) (hwf : ∀ z ∈ zs, (Lit.int .u8 z).wf = true) :
    Calls Try.prog 5 #[.agg #[.int .i64 f, .int .i64 t, .int .i64 k, .int .i64 l, .slice A n c]] w fun e w' => e = .returned (.bool true) ∧ Below w.heap.size w w' := by
  unfold maxLen at hm
  have e0 := (Below.refl w.heap.size w).alloc (Nat.le_refl _) (.cells #[.int .i64 f, .int .i64 t, .int .i64 k, .int .i64 l, .slice A n c] 24)
  by_cases hn : n ≤ 1048576
  · have hn1 : ¬ ((1048576 : Int) < (n : Int)) := by omega
    have hby := AllByte.of_wf hwf
    have HZ := Lib.hid hS.len
    obtain ⟨rs, hrs⟩ : ∃ rs, putP f t k l zs = rs := ⟨_, rfl⟩
    have HR := Lib.hid hrs
    have hl : rs.length ≤ 1048576 := by rw [← hrs]; have := putP_bd (f := f) (t := t) (k := k) (l := l) (zs := zs); omega
    clear hrs
    obtain ⟨m, hml⟩ : ∃ m, rs.length = m := ⟨_, rfl⟩
    have HM := Lib.hid hml
    rw [hml] at hl
    clear hml
    go_enter Try.func5, Try.ntmps5
    go_wp2_with fail
    refine (szPacket_any _ _ _ _ _ _ _ _ _ (by omega) (by omega) (by omega)).mono ?_
    rw [if_neg (by omega)]
    rintro e w0 ⟨rfl, b0⟩
    have d0 := e0.trans (b0.mono (by simp))
    have K0 := (Blk.new w 24 #[.int .i64 f, .int .i64 t, .int .i64 k, .int .i64 l, .slice A n c]).below b0 (by simp)
    have z0 := b0.size
    simp only [World.size_alloc] at z0
    obtain ⟨p0, p1, p2, p3, p4⟩ := K0.five
    go_wp2_with fail
    refine (toPacket_any _ _ _ _ _ _ _ zs _ (hS.below d0 (Nat.le_refl _)) d0.size hn).mono ?_
    rintro e w1 ⟨rfl, own1, b1⟩
    have d1 := d0.trans (b1.mono d0.size)
    have K1 := K0.below b1 (by omega)
    clear p0 p1 p2 p3 p4
    go_wp2_with fail
    have z1 := b1.size
    refine (sPutPacket_any _ _ _ _ _ _ _ zs _ (Sl.of_own own1) (Nat.le_refl _) hn hby).mono ?_
    rw [HR.out, HM.out]
    intro e w2 hr
    obtain ⟨Aw, cow, rfl, ow_w2, b_w2⟩ := hr.form
    clear hr
    have d_w2 := d1.trans (b_w2.mono d1.size)
    have z_w2 := b_w2.size
    have K_w2 := K1.below b_w2 (by omega)
    obtain ⟨p0, p1, p2, p3, p4⟩ := K_w2.five
    go_wp2_with fail
    refine (toPacket_any _ _ _ _ _ _ _ zs _ (hS.below d_w2 (Nat.le_refl _)) d_w2.size hn).mono ?_
    rintro e w3 ⟨rfl, ox_w3, b_w3⟩
    clear p0 p1 p2 p3 p4
    have d_w3 := d_w2.trans (b_w3.mono d_w2.size)
    have z_w3 := b_w3.size
    have ow_w3 := own_below ow_w2 b_w3
    have K_w3 := K_w2.below b_w3 (by omega)
    obtain ⟨p0, p1, p2, p3, p4⟩ := K_w3.five
    go_wp2_with fail
    have X_w4 := Blk.new w3 27 #[.int .i64 f, .int .i64 t, .int .i64 k, .int .i64 l, .slice (some ⟨w2.heap.size + 1 + 1 + 1, 0, none⟩) n n]
    have b_w4 := (Below.refl w3.heap.size w3).alloc (Nat.le_refl _) (.cells #[.int .i64 f, .int .i64 t, .int .i64 k, .int .i64 l, .slice (some ⟨w2.heap.size + 1 + 1 + 1, 0, none⟩) n n] 27)
    have z4 : w3.heap.size < (w3.alloc (.cells #[.int .i64 f, .int .i64 t, .int .i64 k, .int .i64 l, .slice (some ⟨w2.heap.size + 1 + 1 + 1, 0, none⟩) n n] 27)).heap.size := by simp
    generalize hw4 : w3.alloc (.cells #[.int .i64 f, .int .i64 t, .int .i64 k, .int .i64 l, .slice (some ⟨w2.heap.size + 1 + 1 + 1, 0, none⟩) n n] 27) = w4 at X_w4 b_w4 z4 ⊢
    clear hw4
    clear p0 p1 p2 p3 p4
    have d_w4 := d_w3.trans (b_w4.mono d_w3.size)
    have z_w4 := b_w4.size
    have ow_w4 := own_below ow_w3 b_w4
    have ox_w4 := own_below ox_w3 b_w4
    have K_w4 := K_w3.below b_w4 (by omega)
    refine (iPutPacket_any _ _ _ _ _ _ _ zs _ (Sl.of_own ox_w4) (Nat.le_refl _) hn hby).mono ?_
    rw [HR.out, HM.out]
    intro e w5 hr
    obtain ⟨Ag, cog, rfl, og_w5, b_w5⟩ := hr.form
    clear hr
    have d_w5 := d_w4.trans (b_w5.mono d_w4.size)
    have z_w5 := b_w5.size
    have ow_w5 := own_below ow_w4 b_w5
    have ox_w5 := own_below ox_w4 b_w5
    have K_w5 := K_w4.below b_w5 (by omega)
    have X_w5 := X_w4.below b_w5 (by omega)
    go_wp2_with fail
    refine (eqByteS_yes _ _ _ _ _ rs _ (Sl.of_own og_w5) (Sl.of_own ow_w5) hl).mono ?_
    rintro e w6 ⟨rfl, b_w6⟩
    have d_w6 := d_w5.trans (b_w6.mono d_w5.size)
    have z_w6 := b_w6.size
    have ow_w6 := own_below ow_w5 b_w6
    have ox_w6 := own_below ox_w5 b_w6
    have og_w6 := own_below og_w5 b_w6
    have K_w6 := K_w5.below b_w6 (by omega)
    have X_w6 := X_w5.below b_w6 (by omega)
    obtain ⟨p0, p1, p2, p3, p4⟩ := K_w6.five
    obtain ⟨x0, x1, x2, x3, x4⟩ := X_w6.five
    go_wp2_with fail
    go_region_held3 (fun w' => w'.cell? ⟨w.heap.size, 0, none⟩ = some (.int .i64 f) ∧ w'.cell? ⟨w.heap.size, 1, none⟩ = some (.int .i64 t) ∧ w'.cell? ⟨w.heap.size, 2, none⟩ = some (.int .i64 k) ∧ w'.cell? ⟨w.heap.size, 3, none⟩ = some (.int .i64 l) ∧ w'.cell? ⟨w.heap.size, 4, none⟩ = some (.slice A n c) ∧ w'.cell? ⟨w3.heap.size, 0, none⟩ = some (.int .i64 f) ∧ w'.cell? ⟨w3.heap.size, 1, none⟩ = some (.int .i64 t) ∧ w'.cell? ⟨w3.heap.size, 2, none⟩ = some (.int .i64 k) ∧ w'.cell? ⟨w3.heap.size, 3, none⟩ = some (.int .i64 l) ∧ w'.cell? ⟨w3.heap.size, 4, none⟩ = some (.slice (some ⟨w2.heap.size + 1 + 1 + 1, 0, none⟩) n n)) (first | go_keep | trivial) (first | (go_at_call 14; refine (toPacket_any _ _ _ _ _ _ _ zs _ (hS.below d_w6.drew (Nat.le_refl _)) d_w6.drew.size hn).mono ?_; rintro e w7 ⟨rfl, own7, b7⟩; have q0 := b7.cell (p := ⟨w.heap.size, 0, none⟩) (by show w.heap.size < w6.heap.size; omega); have q1 := b7.cell (p := ⟨w.heap.size, 1, none⟩) (by show w.heap.size < w6.heap.size; omega); have q2 := b7.cell (p := ⟨w.heap.size, 2, none⟩) (by show w.heap.size < w6.heap.size; omega); have q3 := b7.cell (p := ⟨w.heap.size, 3, none⟩) (by show w.heap.size < w6.heap.size; omega); have q4 := b7.cell (p := ⟨w.heap.size, 4, none⟩) (by show w.heap.size < w6.heap.size; omega); have r0 := b7.cell (p := ⟨w3.heap.size, 0, none⟩) (by show w3.heap.size < w6.heap.size; omega); have r1 := b7.cell (p := ⟨w3.heap.size, 1, none⟩) (by show w3.heap.size < w6.heap.size; omega); have r2 := b7.cell (p := ⟨w3.heap.size, 2, none⟩) (by show w3.heap.size < w6.heap.size; omega); have r3 := b7.cell (p := ⟨w3.heap.size, 3, none⟩) (by show w3.heap.size < w6.heap.size; omega); have r4 := b7.cell (p := ⟨w3.heap.size, 4, none⟩) (by show w3.heap.size < w6.heap.size; omega)) | (go_at_call 16; refine (eqPacket_yes _ _ _ _ _ _ _ _ _ zs _ (Sl.of_own (own_below (w := w6.drew) ox_w6 b7)) (Sl.of_own own7) (Nat.le_refl _) (Nat.le_refl _) hn).mono ?_; rintro e w8 ⟨rfl, b8⟩; have y7 : w6.heap.size ≤ w7.heap.size := b7.size; have t0 := (b8.cell (p := ⟨w.heap.size, 0, none⟩) (by show w.heap.size < w7.heap.size; omega)).trans (q0.trans p0); have t1 := (b8.cell (p := ⟨w.heap.size, 1, none⟩) (by show w.heap.size < w7.heap.size; omega)).trans (q1.trans p1); have t2 := (b8.cell (p := ⟨w.heap.size, 2, none⟩) (by show w.heap.size < w7.heap.size; omega)).trans (q2.trans p2); have t3 := (b8.cell (p := ⟨w.heap.size, 3, none⟩) (by show w.heap.size < w7.heap.size; omega)).trans (q3.trans p3); have t4 := (b8.cell (p := ⟨w.heap.size, 4, none⟩) (by show w.heap.size < w7.heap.size; omega)).trans (q4.trans p4); have u0 := (b8.cell (p := ⟨w3.heap.size, 0, none⟩) (by show w3.heap.size < w7.heap.size; omega)).trans (r0.trans x0); have u1 := (b8.cell (p := ⟨w3.heap.size, 1, none⟩) (by show w3.heap.size < w7.heap.size; omega)).trans (r1.trans x1); have u2 := (b8.cell (p := ⟨w3.heap.size, 2, none⟩) (by show w3.heap.size < w7.heap.size; omega)).trans (r2.trans x2); have u3 := (b8.cell (p := ⟨w3.heap.size, 3, none⟩) (by show w3.heap.size < w7.heap.size; omega)).trans (r3.trans x3); have u4 := (b8.cell (p := ⟨w3.heap.size, 4, none⟩) (by show w3.heap.size < w7.heap.size; omega)).trans (r4.trans x4)))
    all_goals
      clear p0 p1 p2 p3 p4 x0 x1 x2 x3 x4
      have z7 : w6.heap.size ≤ w7.heap.size := b7.size
      have z8 := b8.size
      have d_w8 := (d_w6.drew.trans (b7.mono d_w6.size)).trans (b8.mono (Nat.le_trans d_w6.size z7))
      have ow_w8 := own_below (own_below (w := w6.drew) ow_w6 b7) b8
      have ox_w8 := own_below (own_below (w := w6.drew) ox_w6 b7) b8
      have og_w8 := own_below (own_below (w := w6.drew) og_w6 b7) b8
      have K_w8 := (K_w6.drew.below b7 (show w.heap.size < w6.heap.size by omega)).below b8 (by omega)
      have X_w8 := (X_w6.drew.below b7 (show w3.heap.size < w6.heap.size by omega)).below b8 (by omega)
      have xb : w2.heap.size + 1 + 1 + 1 < w3.heap.size := (ox_w3.lt _ rfl).2
      have ob := fun q hq => ow_w2.lt q hq
      have gb := fun q hq => og_w5.lt q hq
      obtain ⟨p0, p1, p2, p3, p4⟩ := K_w8.five
      obtain ⟨x0, x1, x2, x3, x4⟩ := X_w8.five
      go_wp2_with fail
      refine (markPacket_own _ _ _ _ _ _ _ _ _ _ _ ox_w8 hn (by omega) (by omega)).mono ?_
      rintro e w9 ⟨rfl, _, g9'⟩
      have g9 : w8.grownBy w9 (some (w2.heap.size + 1 + 1 + 1)) := g9'
      clear g9'
      have zz2 := d_w2.size
      clear p0 p1 p2 p3 p4 x0 x1 x2 x3 x4
      have d_w9 := d_w8.grown g9 d_w8.size fun q hq => by cases hq; omega
      have z9 := g9.size
      have ow_w9 := own_apart' ow_w8 g9 (fun q hq he => by injection he with he; subst he; have := (ob _ hq).2; omega)
      have og_w9 := own_apart' og_w8 g9 (fun q hq he => by injection he with he; subst he; have := (gb _ hq).1; omega)
      have K_w9 := K_w8.grown g9 (by intro he; injection he with he; omega)
      obtain ⟨Q, hQ⟩ : ∃ Q : Int, 1 + (n : Int) = Q := ⟨_, rfl⟩
      rw [hQ]
      have hQ0 : 0 ≤ Q := by omega
      have hQ1 : decide (Q < (0 : Int)) = false := decide_eq_false (by omega)
      clear hQ
      go_wp2_with fail
      refine (eqByteS_yes _ _ _ _ _ rs _ (Sl.of_own og_w9) (Sl.of_own ow_w9) hl).mono ?_
      rintro e w10 ⟨rfl, b_w10⟩
      have d_w10 := d_w9.trans (b_w10.mono d_w9.size)
      have z_w10 := b_w10.size
      have ow_w10 := own_below ow_w9 b_w10
      have og_w10 := own_below og_w9 b_w10
      have K_w10 := K_w9.below b_w10 (by omega)
      go_wp2_with fail
      refine (markByteS_own _ _ _ _ _ _ _ og_w10 hl (by omega) (by omega)).mono ?_
      rintro e w11 ⟨rfl, ⟨ys, om_w11, hmk⟩, g11⟩
      have z11 := g11.size
      have d_w11 := d_w10.grown g11 d_w10.size fun q hq => by have := (gb _ hq).1; omega
      have ow_w11 := own_apart' ow_w10 g11 (fun q hq he => by have := (ob _ hq).2; have := (gb _ he).1; omega)
      have K_w11 := K_w10.grown g11 (by intro he; have := (gb _ he.symm).1; omega)
      obtain ⟨M, hMe⟩ : ∃ M : Int, 1 + (m : Int) = M := ⟨_, rfl⟩
      rw [hMe]
      have hM0 : 0 ≤ M := by omega
      have HMM := Lib.hid hMe
      clear hMe
      go_wp2_with fail
      refine (heldByteS_any _ _ _ 1 ys _ (Sl.of_own om_w11) hmk hl (by omega) (by omega)).mono ?_
      rw [HMM.out]
      rintro e w12 ⟨rfl, rfl⟩
      obtain ⟨p0, p1, p2, p3, p4⟩ := K_w11.five
      go_wp2_with fail
      refine (toPacket_any _ _ _ _ _ _ _ zs _ (hS.below d_w11 (Nat.le_refl _)) d_w11.size hn).mono ?_
      rintro e w13 ⟨rfl, t13, b_w13⟩
      clear p0 p1 p2 p3 p4
      have d_w13 := d_w11.trans (b_w13.mono d_w11.size)
      have z_w13 := b_w13.size
      have ow_w13 := own_below ow_w11 b_w13
      have om_w13 := own_below om_w11 b_w13
      have K_w13 := K_w11.below b_w13 (by omega)
      go_wp2_with fail
      refine (iPutPacket_any _ _ _ _ _ _ _ zs _ (Sl.of_own t13) (Nat.le_refl _) hn hby).mono ?_
      rw [HR.out, HM.out]
      intro e w14 hr
      obtain ⟨Ah, coh, rfl, oh_w14, b_w14⟩ := hr.form
      clear hr
      have d_w14 := d_w13.trans (b_w14.mono d_w13.size)
      have z_w14 := b_w14.size
      have ow_w14 := own_below ow_w13 b_w14
      have om_w14 := own_below om_w13 b_w14
      have K_w14 := K_w13.below b_w14 (by omega)
      go_wp2_with fail
      refine (eqByteS_yes _ _ _ _ _ rs _ (Sl.of_own oh_w14) (Sl.of_own ow_w14) hl).mono ?_
      rintro e w15 ⟨rfl, b_w15⟩
      have d_w15 := d_w14.trans (b_w15.mono d_w14.size)
      have z_w15 := b_w15.size
      have ow_w15 := own_below ow_w14 b_w15
      have om_w15 := own_below om_w14 b_w15
      have oh_w15 := own_below oh_w14 b_w15
      have K_w15 := K_w14.below b_w15 (by omega)
      go_wp2_with fail
      refine (heldByteS_any _ _ _ 1 ys _ (Sl.of_own om_w15) hmk hl (by omega) (by omega)).mono ?_
      rw [HMM.out]
      rintro e w16 ⟨rfl, rfl⟩
      go_wp2_with fail
      go_ret
      exact ⟨rfl, d_w15⟩
  · have hn1 : ((1048576 : Int) < (n : Int)) := by omega
    go_enter Try.func5, Try.ntmps5
    go_wp2_with fail
    refine (szPacket_any _ _ _ _ _ _ _ _ _ (by omega) (by omega) (by omega)).mono ?_
    rw [if_pos (by omega)]
    rintro e w0 ⟨rfl, b0⟩
    go_wp2_with fail
    go_ret
    exact ⟨rfl, e0.trans (b0.mono (by simp))⟩
end Go.Proofs.Ytleammkpfknngaa
