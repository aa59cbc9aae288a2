/-
  The walk of the law FnExactJoinPieces.
-/
import Derived.Test.YtljbkppeoedcjaaJoinS
import Derived.Test.YtljbkppeoedcjaaPcsD
import Derived.Test.YtljbkppeoedcjaaOpenPcs
namespace Go.Proofs.Ytljbkppeoedcjaa
open Go.RowKit
set_option linter.unusedVariables false

theorem bds_pc {ps qs : List Pv} (h : qs.map Pv.pc = ps.map Pv.pc) (hp : ∀ p ∈ ps, -9223372036854775808 ≤ p.at_ ∧ p.at_ ≤ 9223372036854775807) : ∀ q ∈ qs, -9223372036854775808 ≤ q.at_ ∧ q.at_ ≤ 9223372036854775807 := by
  intro q hq
  have : q.pc ∈ ps.map Pv.pc := by rw [← h]; exact List.mem_map_of_mem hq
  obtain ⟨p, hpm, e⟩ := List.mem_map.1 this
  have e1 : p.at_ = q.at_ := congrArg Pc.at_ e
  rw [← e1]
  exact hp p hpm
theorem join_len (cs : List Pc) : ((joinP cs).getD []).length ≤ 80 := by
  cases h : joinP cs with
  | none => simp
  | some bs =>
  have h1 := (join_some h).1
  have hf : cs.all fits = true := by
    unfold joinP at h
    split at h
    · rename_i hc; exact hc.2.2.1
    · cases h
  have := ends_le80 hf
  simp
  omega

set_option maxHeartbeats 3200000 in
theorem wFnExactJoinPieces (A : Option Addr) (n c : Nat) (ps : List Pv) (w : World) (hS : Pcs w 0 w.heap.size A n ps) (hnc : n ≤ c) (hm : c ≤ maxLen) (h64 : ∀ p ∈ ps, -9223372036854775808 ≤ p.at_ ∧ p.at_ ≤ 9223372036854775807) :
  Calls Try.prog 5 #[.slice A n c] w fun e w' => e = .returned (.bool true) ∧ Below w.heap.size w w' := by
  have hnm : n ≤ maxLen := Nat.le_trans hnc hm
  unfold maxLen at hm
  have hm80 := join_len (ps.map Pv.pc)
  obtain ⟨r, hr⟩ : ∃ x, joinP (ps.map Pv.pc) = x := ⟨_, rfl⟩
  rw [hr] at hm80
  have HR := Lib.hid hr
  clear hr
  obtain ⟨bs, hbs⟩ : ∃ x, r.getD [] = x := ⟨_, rfl⟩
  rw [hbs] at hm80
  obtain ⟨m, hml⟩ : ∃ x, bs.length = x := ⟨_, rfl⟩
  rw [hml] at hm80
  have HB := Lib.hid hbs
  have HM : Hid ((r.getD []).length = m) := Lib.hid (by rw [hbs, hml])
  obtain ⟨ok, hok⟩ : ∃ x, r.isSome = x := ⟨_, rfl⟩
  have okk : (ok != ok) = false := by cases ok <;> rfl
  have HO := Lib.hid hok
  clear hbs hml hok
  go_enter Try.func5, Try.ntmps5
  go_wp2_with fail
  refine (szPieceS_any _ _ _ ps _ _ hS (by omega) (by omega) (by omega)).mono ?_
  rintro e w0 ⟨z', rfl, hz', b_w0⟩
  rcases hz' with rfl | ⟨hz0, hz1⟩
  · go_wp2_with fail
    go_ret
    exact ⟨rfl, b_w0⟩
  have hN : sumN ps ≤ 1048576 := by omega
  have hn : n ≤ 1048576 := by omega
  have hzz : ¬ (z' < 0) := by omega
  have HZ1 := Lib.hid hz1
  clear hz1
  have d_w0 := b_w0
  have z_w0 := b_w0.size
  go_wp2_with fail
  refine (toPieceS_any _ _ _ ps _ (hS.below d_w0 (Nat.le_refl _)) d_w0.size hn hN).mono ?_
  rintro e w1 ⟨qoa, rfl, hpoa, hsoa, oa_w1, b_w1⟩
  have HPoa := Lib.hid hpoa
  have hqoa : sumN qoa ≤ 1048576 := by omega
  clear hpoa
  have d_w1 := d_w0.trans (b_w1.mono d_w0.size)
  have z_w1 := b_w1.size
  go_wp2_with fail
  refine (sJoinPieces_any _ _ _ qoa _ oa_w1.pcs (Nat.le_refl _) (bds_pc HPoa.out h64) hnm (by omega)).mono ?_
  rw [HPoa.out, HR.out]
  intro e w2 hr
  obtain ⟨AW, nW, cW, rfl, hW, W_w2, b_w2⟩ := hr
  rw [HO.out]
  obtain rfl : m = nW := by rw [← hW, HM.out]
  clear hW
  rw [HB.out] at W_w2
  have d_w2 := d_w1.trans (b_w2.mono d_w1.size)
  have z_w2 := b_w2.size
  have oa_w2 := oa_w1.below b_w2
  have lW := fun q hq => (W_w2.lt q hq).2
  go_wp2_with fail
  refine (toPieceS_any _ _ _ ps _ (hS.below d_w2 (Nat.le_refl _)) d_w2.size hn hN).mono ?_
  rintro e w3 ⟨qox, rfl, hpox, hsox, ox_w3, b_w3⟩
  have HPox := Lib.hid hpox
  have hqox : sumN qox ≤ 1048576 := by omega
  clear hpox
  have d_w3 := d_w2.trans (b_w3.mono d_w2.size)
  have z_w3 := b_w3.size
  have W_w3 := own_below W_w2 b_w3
  have Ux := ox_w3.under
  go_wp2_with fail
  refine (iJoinPieces_any _ _ _ qox _ ox_w3.pcs (Nat.le_refl _) (bds_pc HPox.out h64) hnm).mono ?_
  rw [HPox.out, HR.out]
  intro e w4 hr
  obtain ⟨AG, nG, cG, rfl, hG, G_w4, b_w4⟩ := hr
  rw [HO.out]
  obtain rfl : m = nG := by rw [← hG, HM.out]
  clear hG
  rw [HB.out] at G_w4
  have d_w4 := d_w3.trans (b_w4.mono d_w3.size)
  have z_w4 := b_w4.size
  have W_w4 := own_below W_w3 b_w4
  have ox_w4 := ox_w3.below b_w4
  have lG := fun q hq => (G_w4.lt q hq).1
  go_wp2_with fail
  refine (eqByteS_yes _ _ _ _ _ bs _ (Sl.of_own G_w4) (Sl.of_own W_w4) (by omega)).mono ?_
  rintro e w5 ⟨rfl, b_w5⟩
  have d_w5 := d_w4.trans (b_w5.mono d_w4.size)
  have z_w5 := b_w5.size
  have W_w5 := own_below W_w4 b_w5
  have G_w5 := own_below G_w4 b_w5
  have ox_w5 := ox_w4.below b_w5
  go_wp2_with fail
  refine (toPieceS_any _ _ _ ps _ (hS.below d_w5 (Nat.le_refl _)) d_w5.size hn hN).mono ?_
  rintro e w6 ⟨qoc, rfl, hpoc, hsoc, oc_w6, b_w6⟩
  have HPoc := Lib.hid hpoc
  have hqoc : sumN qoc ≤ 1048576 := by omega
  clear hpoc
  have d_w6 := d_w5.trans (b_w6.mono d_w5.size)
  have z_w6 := b_w6.size
  have W_w6 := own_below W_w5 b_w6
  have G_w6 := own_below G_w5 b_w6
  have ox_w6 := ox_w5.below b_w6
  go_wp2_with fail
  refine (eqPieceS_yes _ _ _ _ _ _ _ _ ox_w6.pcs oc_w6.pcs (HPox.out.trans HPoc.out.symm) (Nat.le_refl _) (Nat.le_refl _) hn (by omega)).mono ?_
  rintro e w7 ⟨rfl, b_w7⟩
  have d_w7 := d_w6.trans (b_w7.mono d_w6.size)
  have z_w7 := b_w7.size
  have W_w7 := own_below W_w6 b_w7
  have G_w7 := own_below G_w6 b_w7
  have ox_w7 := ox_w6.below b_w7
  go_wp2_with fail
  refine (markPieceS_any _ _ _ _ _ _ _ _ ox_w7 Ux hn (by omega) (by omega) (by omega)).mono ?_
  rintro e w8 ⟨rfl, _, r8⟩
  have d_w8 : Below w.heap.size w w8 := r8.below d_w7 (by omega)
  have z_w8 := r8.size
  have W_w8 := r8.own W_w7 (fun q hq => .inl (by have := lW q hq; omega))
  have G_w8 := r8.own G_w7 (fun q hq => .inr (by have := lG q hq; omega))
  obtain ⟨Q, hQ⟩ : ∃ Q : Int, 1 + 2 * (n : Int) + (sumN qox : Int) = Q := ⟨_, rfl⟩
  rw [hQ]
  have hQ0 : 0 ≤ Q := by omega
  have hQ1 : decide (Q < (0 : Int)) = false := decide_eq_false (by omega)
  clear hQ
  go_wp2_with fail
  refine (eqByteS_yes _ _ _ _ _ bs _ (Sl.of_own G_w8) (Sl.of_own W_w8) (by omega)).mono ?_
  rintro e w9 ⟨rfl, b_w9⟩
  have d_w9 := d_w8.trans (b_w9.mono d_w8.size)
  have z_w9 := b_w9.size
  have W_w9 := own_below W_w8 b_w9
  have G_w9 := own_below G_w8 b_w9
  go_wp2_with fail
  refine (markBody _ _ _ _ _ _ _ G_w9 (by omega) (by omega) (by omega)).mono ?_
  rintro e w10 ⟨rfl, M_w10, g11⟩
  have lG2 := fun q hq => (G_w9.lt q hq).1
  have d_w10 := d_w9.grown g11 d_w9.size fun q hq => by have := lG2 q hq; omega
  have z_w10 := g11.size
  have W_w10 := own_apart2 W_w9 g11 (fun q hq he => by have := lW q hq; have := lG2 q he; omega)
  obtain ⟨M, hMe⟩ : ∃ M : Int, 1 + (m : Int) = M := ⟨_, rfl⟩
  rw [hMe]
  have hM0 : 0 ≤ M := by omega
  have HMM := Lib.hid hMe
  have hM1 : decide (M < (0 : Int)) = false := decide_eq_false (by omega)
  have hMM : ((M : Int) != M) = false := by simp
  clear hMe
  go_wp2_with fail
  refine (heldByteS_any _ _ _ 1 _ _ (Sl.of_own M_w10) (markL_marked _ _) (by omega) (by omega) (by omega)).mono ?_
  rw [HMM.out]
  rintro e w11 ⟨rfl, hw⟩
  have b_w11 : Below w10.heap.size w10 w11 := by rw [← hw]; exact Below.refl _ _
  clear hw
  have d_w11 := d_w10.trans (b_w11.mono d_w10.size)
  have z_w11 := b_w11.size
  have W_w11 := own_below W_w10 b_w11
  have M_w11 := own_below M_w10 b_w11
  go_wp2_with fail
  refine (toPieceS_any _ _ _ ps _ (hS.below d_w11 (Nat.le_refl _)) d_w11.size hn hN).mono ?_
  rintro e w12 ⟨qob, rfl, hpob, hsob, ob_w12, b_w12⟩
  have HPob := Lib.hid hpob
  have hqob : sumN qob ≤ 1048576 := by omega
  clear hpob
  have d_w12 := d_w11.trans (b_w12.mono d_w11.size)
  have z_w12 := b_w12.size
  have W_w12 := own_below W_w11 b_w12
  have M_w12 := own_below M_w11 b_w12
  go_wp2_with fail
  refine (iJoinPieces_any _ _ _ qob _ ob_w12.pcs (Nat.le_refl _) (bds_pc HPob.out h64) hnm).mono ?_
  rw [HPob.out, HR.out]
  intro e w13 hr
  obtain ⟨AH, nH, cH, rfl, hH, H_w13, b_w13⟩ := hr
  rw [HO.out]
  obtain rfl : m = nH := by rw [← hH, HM.out]
  clear hH
  rw [HB.out] at H_w13
  have d_w13 := d_w12.trans (b_w13.mono d_w12.size)
  have z_w13 := b_w13.size
  have W_w13 := own_below W_w12 b_w13
  have M_w13 := own_below M_w12 b_w13
  have ob_w13 := ob_w12.below b_w13
  go_wp2_with fail
  refine (eqByteS_yes _ _ _ _ _ bs _ (Sl.of_own H_w13) (Sl.of_own W_w13) (by omega)).mono ?_
  rintro e w14 ⟨rfl, b_w14⟩
  have d_w14 := d_w13.trans (b_w14.mono d_w13.size)
  have z_w14 := b_w14.size
  have W_w14 := own_below W_w13 b_w14
  have M_w14 := own_below M_w13 b_w14
  have H_w14 := own_below H_w13 b_w14
  go_wp2_with fail
  refine (heldByteS_any _ _ _ 1 _ _ (Sl.of_own M_w14) (markL_marked _ _) (by omega) (by omega) (by omega)).mono ?_
  rw [HMM.out]
  rintro e w15 ⟨rfl, hw⟩
  have b_w15 : Below w14.heap.size w14 w15 := by rw [← hw]; exact Below.refl _ _
  clear hw
  have d_w15 := d_w14.trans (b_w15.mono d_w14.size)
  have z_w15 := b_w15.size
  have W_w15 := own_below W_w14 b_w15
  have M_w15 := own_below M_w14 b_w15
  have H_w15 := own_below H_w14 b_w15
  go_wp2_with fail
  go_ret
  exact ⟨rfl, d_w15⟩
end Go.Proofs.Ytljbkppeoedcjaa
