/-
  The walk of the drawn law FnJoinPieces.
-/
import Derived.Test.YtljbkppeoedcjaaDrawJoin
import Derived.Test.YtljbkppeoedcjaaJoinD
import Derived.Test.YtljbkppeoedcjaaSameB
import Derived.Deep.CutBlock
namespace Go.Proofs.Ytljbkppeoedcjaa
open Go.RowKit
set_option linter.unusedVariables false
attribute [local go_sem ↓] Go.wp_at_zero Go.wp_at_succ

set_option maxRecDepth 100000 in
set_option maxHeartbeats 40000000 in
theorem wFnJoinPieces (A : Option Addr) (n c : Nat) (zs : List Int) (w : World) (hs : Sl w 0 w.heap.size 1 A n (zs.map (Value.int .u8))) (hnc : n ≤ c) (hm : c ≤ maxLen) (hw : ∀ z ∈ zs, (Lit.int .u8 z).wf = true) :
    Calls Try.prog 6 #[.slice A n c] w fun e w' => e = .returned (.bool true) ∧ Below w.heap.size w w' := by
  unfold maxLen at hm
  have hz := AllByte.of_wf hw
  clear hw
  by_cases hn : n ≤ 1048576
  · have hn1 : ¬ ((1048576 : Int) < (n : Int)) := by omega
    go_enter Try.func6, Try.ntmps6
    go_wp2_with fail
    refine (drawJoinPieces_any _ _ _ zs _ hs hnc (by omega) hz).mono ?_
    rintro e w1 ⟨B, q, qc, ps, rfl, hq90, P_w1, ⟨hqc, hqx⟩, hsm, b_w1⟩
    have d_w1 := b_w1
    have z_w1 := b_w1.size
    have h64 : ∀ p ∈ ps, -9223372036854775808 ≤ p.at_ ∧ p.at_ ≤ 9223372036854775807 := fun p hp => by have := hsm p hp; omega
    have HPL := Lib.hid P_w1.len
    have hN : sumN ps ≤ 1048576 := by
      have h1 := sumN_bd (M := 101) (fun p hp => (hsm p hp).2.2)
      have h2 : 101 * ps.length ≤ 101 * 90 := Nat.mul_le_mul_left _ (by rw [HPL.out]; exact hq90)
      omega
    have hm80 := join_len (ps.map Pv.pc)
    obtain ⟨r, hr⟩ : ∃ x, joinP (ps.map Pv.pc) = x := ⟨_, rfl⟩
    rw [hr] at hm80
    have HR := Lib.hid hr
    clear hr
    obtain ⟨bs, hbs⟩ : ∃ x, r.getD [] = x := ⟨_, rfl⟩
    rw [hbs] at hm80
    obtain ⟨m, hml⟩ : ∃ x, bs.length = x := ⟨_, rfl⟩
    rw [hml] at hm80
    have HB := Lib.hid hbs
    have HBM := Lib.hid hml
    have HM : Hid ((r.getD []).length = m) := Lib.hid (by rw [hbs, hml])
    obtain ⟨ok, hok⟩ : ∃ x, r.isSome = x := ⟨_, rfl⟩
    have okk : (ok != ok) = false := by cases ok <;> rfl
    have HO := Lib.hid hok
    clear hbs hml hok
    go_wp2_with fail
    refine (iJoinPieces_any _ _ _ ps _ P_w1 (Nat.le_refl _) h64 (by unfold maxLen; omega)).mono ?_
    rw [HR.out]
    intro e w2 hr
    obtain ⟨AG, nG, cG, rfl, hG, G_w2, b_w2⟩ := hr
    rw [HO.out]
    obtain rfl : m = nG := by rw [← hG, HM.out]
    clear hG
    rw [HB.out] at G_w2
    have d_w2 := d_w1.trans (b_w2.mono d_w1.size)
    have z_w2 := b_w2.size
    have P_w2 := P_w1.below b_w2 (Nat.le_refl _)
    go_wp2_with fail
    refine (sJoinPieces_any _ _ _ ps _ P_w2 (by omega) h64 (by unfold maxLen; omega) hN).mono ?_
    rw [HR.out]
    intro e w3 hr
    obtain ⟨AY, nY, cY, rfl, hY, Y_w3, b_w3⟩ := hr
    rw [HO.out]
    obtain rfl : m = nY := by rw [← hY, HM.out]
    clear hY
    rw [HB.out] at Y_w3
    have d_w3 := d_w2.trans (b_w3.mono d_w2.size)
    have z_w3 := b_w3.size
    have G_w3 := own_below G_w2 b_w3
    have P_w3 := P_w2.below b_w3 (by omega)
    go_wp2_with fail
    refine (sameBytes_any _ _ _ _ _ _ bs bs _ (Sl.of_own G_w3) (Sl.of_own Y_w3) (by omega) (by omega)).mono ?_
    rw [show (bs == bs) = true from by simp]
    rintro e w4 ⟨rfl, b_w4⟩
    have d_w4 := d_w3.trans (b_w4.mono d_w3.size)
    have z_w4 := b_w4.size
    have G_w4 := own_below G_w3 b_w4
    have P_w4 := P_w3.below b_w4 (by omega)
    cases ok
    · skip
      have hr0 : r = none := by have := HO.out; cases r <;> simp_all
      have hm0 : m = 0 := by rw [← HM.out, hr0]; rfl
      subst hm0
      clear hr0
      go_wp2_with fail
      refine (alive_any _).mono ?_
      rintro e wz ⟨rfl, b_wz⟩
      have d_wz := d_w4.trans (b_wz.mono d_w4.size)
      have z_wz := b_wz.size
      have G_wz := own_below G_w4 b_wz
      have P_wz := P_w4.below b_wz (by omega)
      go_wp2_with fail
      go_ret
      exact ⟨rfl, d_wz⟩
    · skip
      have hr1 : r = some bs := by have := HO.out; have := HB.out; cases r <;> simp_all
      have hjs := (join_some (HR.out.trans hr1)).2
      have HJS := Lib.hid hjs
      clear hjs hr1
      have gb := own_is_slice G_w4
      obtain ⟨_, cG', e, hmc, hmx⟩ := gb
      cases e
      go_wp2_with fail
      go_loopw [8] (fun i wr => ∃ k : Nat, k ≤ q ∧ i = .int .i64 k ∧ Below w4.heap.size w4 wr) (fun i _ => q - (intOf i).toNat)
      case atStart => exact ⟨0, Nat.zero_le _, rfl, Below.refl _ _⟩
      case round =>
        obtain ⟨k, hk, rfl, hb⟩ := hrel
        by_cases hlt : k < q
        · skip
          obtain ⟨b, off, hxA, _, hbh, c0, c1, c2, hs1, _, _, _⟩ := (P_w4.below hb (by omega)).piece hlt
          cases hxA
          have GB := own_below G_w4 hb
          have hjk := HJS.out _ (List.mem_map_of_mem (pAt_mem (ps := ps) (k := k) (by rw [HPL.out]; exact hlt)))
          obtain ⟨⟨a, mo, C, bm, bc, pz⟩, hp⟩ : ∃ p, pAt ps k = p := ⟨_, rfl⟩
          rw [hp] at c0 c1 c2 hs1 hjk
          clear hp
          simp only [Pv.pc] at c0 c1 c2 hs1 hjk
          rw [hs1.len, HBM.out] at hjk
          obtain ⟨ha0, hab, hbody, hmore⟩ := hjk
          obtain ⟨an, rfl⟩ : ∃ an : Nat, a = (an : Int) := ⟨a.toNat, by omega⟩
          rw [Int.toNat_natCast] at hab hbody hmore
          have sl2 : ∀ A', (0 < bm → ∃ g, AG = some ⟨g, 0, none⟩ ∧ A' = some ⟨g, an, none⟩) → Sl wr.drew 0 wr.heap.size 1 A' bm (pz.map (Value.int .u8)) := fun A' h => by
            rcases Nat.eq_zero_or_pos bm with h0 | h0
            · have : pz = [] := List.eq_nil_of_length_eq_zero (by rw [hs1.len]; exact h0)
              subst this
              subst h0
              exact ⟨by simp, fun hh => absurd hh (by omega)⟩
            · obtain ⟨g, e1, e2⟩ := h h0
              subst e1 e2
              have := sl_part ((Sl.of_own GB).more (Nat.zero_le _) (Nat.le_refl _)) an bm hab
              rw [← hbody, Nat.zero_add] at this
              exact this
          clear sl2
          have HBODY : Hid (((bs.map (Value.int .u8)).take (((an : Int) + (bm : Int)).toNat * 1)).drop ((an : Int).toNat * 1) = pz.map (Value.int .u8)) := Lib.hid (by rw [hbody, show ((an : Int) + (bm : Int)).toNat * 1 = an + bm from by omega, show (an : Int).toNat * 1 = an from by omega, List.map_take, List.map_drop, List.drop_take, show an + bm - an = bm from by omega])
          clear hbody
          have hbm80 : bm ≤ 80 := by omega
          have hki : (0 : Int) ≤ (k : Int) := by omega
          have hki2 : (k : Int) < (q : Int) := by omega
          have hai : (0 : Int) ≤ (an : Int) := by omega
          have hae : (an : Int) ≤ (an : Int) + (bm : Int) := by omega
          have hac : (an : Int) + (bm : Int) ≤ (cG : Int) := by omega
          have htn : ((an : Int) + (bm : Int)).toNat = an + bm := by omega
          have hwr : IntKind.i64.wrap ((an : Int) + (bm : Int)) = (an : Int) + (bm : Int) := IntWalk.i64_in _ (by omega)
          have e1 : decide ((an : Int) < 0) = false := decide_eq_false (by omega)
          have e2 : decide ((m : Int) < (an : Int) + (bm : Int)) = false := decide_eq_false (by omega)
          have hlo : w4.heap.size ≤ wr.heap.size := hb.size
          have hbsz : bs.length = m := HBM.out
          skip
          by_cases hmm : an + bm = m
          · skip
            have hmo : mo = false := Bool.eq_false_iff.2 fun h => hmore.1 h hmm
            subst hmo
            clear hmore
            have e3 : ((an : Int) + (bm : Int) == (m : Int)) = true := by simp; omega
            have E3 := Lib.hid e3
            clear hmm e3
            go_wp2_with fail
            go_quiet (fail)
            go_wp2_with fail
            have hof : off + (k : Int).toNat * 3 = off + k * 3 := by simp
            rw [← hof] at c0 c1 c2
            clear hof
            have hsC : ∀ n, Sl (wr.drewN n) 0 wr.heap.size 1 C bm (pz.map (Value.int .u8)) := fun n => (hs1.more (Nat.zero_le _) (by omega)).drewN n
            have hsG : Sl (wr.drewN nq).drew 0 (wr.drewN nq).drew.heap.size 1 AG m (bs.map (Value.int .u8)) := (Sl.of_own GB).more (Nat.zero_le _) (Nat.le_refl _)
            have c0' : (wr.drewN nq).drew.cell? ⟨b, off + (k : Int).toNat * 3, none⟩ = some (.int .i64 (an : Int)) := c0
            have c1' : (wr.drewN nq).drew.cell? ⟨b, off + (k : Int).toNat * 3 + 1, none⟩ = some (.bool false) := c1
            have c2' : (wr.drewN nq).drew.cell? ⟨b, off + (k : Int).toNat * 3 + 2, none⟩ = some (.slice C bm bc) := c2
            obtain ⟨L, hL⟩ : ∃ L : List (Nat × VT), L = [(3, tLit (.slice (some ⟨b, off, none⟩) (q) (qc))), (4, tLit (.slice (AG) (m) (cG))), (8, tLit (.int .i64 ((k : Int)))), (9, tLit (.int .i64 ((an : Int) + (bm : Int)))), (60, tLit (.slice (some ⟨b, off, none⟩) (q) (qc))), (61, tLit (.int .i64 ((k : Int)))), (62, tLit (.pointer (some ⟨b, off + ((k : Int) : Int).toNat * 3, none⟩))), (63, tLit (.pointer (some ⟨b, off + ((k : Int) : Int).toNat * 3, none⟩))), (64, tLit (.int .i64 ((an : Int)))), (65, tLit (.bool false)), (66, tLit (.bool false)), (67, tLit (.int .i64 ((an : Int) + (bm : Int)))), (68, tLit (.slice (AG) (m) (cG))), (69, tLit (.int .i64 ((m : Int)))), (70, tLit (.bool false)), (71, tLit (.bool false)), (72, tLit (.bool false)), (73, tLit (.slice (some ⟨b, off, none⟩) (q) (qc))), (74, tLit (.int .i64 ((k : Int)))), (75, tLit (.pointer (some ⟨b, off + ((k : Int) : Int).toNat * 3, none⟩))), (76, tLit (.pointer (some ⟨b, off + ((k : Int) : Int).toNat * 3 + 2, none⟩))), (77, tLit (.slice (C) (bm) (bc))), (78, tLit (.slice (AG) (m) (cG))), (79, tLit (.slice (some ⟨b, off, none⟩) (q) (qc))), (80, tLit (.int .i64 ((k : Int)))), (81, tLit (.pointer (some ⟨b, off + ((k : Int) : Int).toNat * 3, none⟩))), (82, tLit (.pointer (some ⟨b, off + ((k : Int) : Int).toNat * 3, none⟩))), (83, tLit (.int .i64 ((an : Int)))), (84, tLit (.int .i64 ((an : Int) + (bm : Int)))), (85, tSl 0 1 (((an : Int) + (bm : Int)).toNat - (an : Int).toNat) (((bs.map (Value.int .u8)).take (((an : Int) + (bm : Int)).toNat * 1)).drop ((an : Int).toNat * 1))), (86, tLit (.bool true)), (87, tLit (.bool false)), (88, tLit (.bool false)), (89, tLit (.bool false)), (90, tLit (.slice (some ⟨b, off, none⟩) (q) (qc))), (91, tLit (.int .i64 ((k : Int)))), (92, tLit (.pointer (some ⟨b, off + ((k : Int) : Int).toNat * 3, none⟩))), (93, tLit (.pointer (some ⟨b, off + ((k : Int) : Int).toNat * 3 + 1, none⟩))), (94, tLit (.bool false)), (95, tLit (.int .i64 ((an : Int) + (bm : Int)))), (96, tLit (.slice (AG) (m) (cG))), (97, tLit (.int .i64 ((m : Int)))), (98, tLit (.bool true)), (99, tLit (.bool false)), (100, tLit (.bool false))] := ⟨_, rfl⟩
            have V3 : L.lookup 3 = some (tLit (.slice (some ⟨b, off, none⟩) (q) (qc))) := by rw [hL]; rfl
            have V4 : L.lookup 4 = some (tLit (.slice (AG) (m) (cG))) := by rw [hL]; rfl
            have V8 : L.lookup 8 = some (tLit (.int .i64 ((k : Int)))) := by rw [hL]; rfl
            have V9 : L.lookup 9 = some (tLit (.int .i64 ((an : Int) + (bm : Int)))) := by rw [hL]; rfl
            have V60 : L.lookup 60 = some (tLit (.slice (some ⟨b, off, none⟩) (q) (qc))) := by rw [hL]; rfl
            have V61 : L.lookup 61 = some (tLit (.int .i64 ((k : Int)))) := by rw [hL]; rfl
            have V62 : L.lookup 62 = some (tLit (.pointer (some ⟨b, off + ((k : Int) : Int).toNat * 3, none⟩))) := by rw [hL]; rfl
            have V63 : L.lookup 63 = some (tLit (.pointer (some ⟨b, off + ((k : Int) : Int).toNat * 3, none⟩))) := by rw [hL]; rfl
            have V64 : L.lookup 64 = some (tLit (.int .i64 ((an : Int)))) := by rw [hL]; rfl
            have V65 : L.lookup 65 = some (tLit (.bool false)) := by rw [hL]; rfl
            have V66 : L.lookup 66 = some (tLit (.bool false)) := by rw [hL]; rfl
            have V67 : L.lookup 67 = some (tLit (.int .i64 ((an : Int) + (bm : Int)))) := by rw [hL]; rfl
            have V68 : L.lookup 68 = some (tLit (.slice (AG) (m) (cG))) := by rw [hL]; rfl
            have V69 : L.lookup 69 = some (tLit (.int .i64 ((m : Int)))) := by rw [hL]; rfl
            have V70 : L.lookup 70 = some (tLit (.bool false)) := by rw [hL]; rfl
            have V71 : L.lookup 71 = some (tLit (.bool false)) := by rw [hL]; rfl
            have V72 : L.lookup 72 = some (tLit (.bool false)) := by rw [hL]; rfl
            have V73 : L.lookup 73 = some (tLit (.slice (some ⟨b, off, none⟩) (q) (qc))) := by rw [hL]; rfl
            have V74 : L.lookup 74 = some (tLit (.int .i64 ((k : Int)))) := by rw [hL]; rfl
            have V75 : L.lookup 75 = some (tLit (.pointer (some ⟨b, off + ((k : Int) : Int).toNat * 3, none⟩))) := by rw [hL]; rfl
            have V76 : L.lookup 76 = some (tLit (.pointer (some ⟨b, off + ((k : Int) : Int).toNat * 3 + 2, none⟩))) := by rw [hL]; rfl
            have V77 : L.lookup 77 = some (tLit (.slice (C) (bm) (bc))) := by rw [hL]; rfl
            have V78 : L.lookup 78 = some (tLit (.slice (AG) (m) (cG))) := by rw [hL]; rfl
            have V79 : L.lookup 79 = some (tLit (.slice (some ⟨b, off, none⟩) (q) (qc))) := by rw [hL]; rfl
            have V80 : L.lookup 80 = some (tLit (.int .i64 ((k : Int)))) := by rw [hL]; rfl
            have V81 : L.lookup 81 = some (tLit (.pointer (some ⟨b, off + ((k : Int) : Int).toNat * 3, none⟩))) := by rw [hL]; rfl
            have V82 : L.lookup 82 = some (tLit (.pointer (some ⟨b, off + ((k : Int) : Int).toNat * 3, none⟩))) := by rw [hL]; rfl
            have V83 : L.lookup 83 = some (tLit (.int .i64 ((an : Int)))) := by rw [hL]; rfl
            have V84 : L.lookup 84 = some (tLit (.int .i64 ((an : Int) + (bm : Int)))) := by rw [hL]; rfl
            have V85 : L.lookup 85 = some (tSl 0 1 (((an : Int) + (bm : Int)).toNat - (an : Int).toNat) (((bs.map (Value.int .u8)).take (((an : Int) + (bm : Int)).toNat * 1)).drop ((an : Int).toNat * 1))) := by rw [hL]; rfl
            have V86 : L.lookup 86 = some (tLit (.bool true)) := by rw [hL]; rfl
            have V87 : L.lookup 87 = some (tLit (.bool false)) := by rw [hL]; rfl
            have V88 : L.lookup 88 = some (tLit (.bool false)) := by rw [hL]; rfl
            have V89 : L.lookup 89 = some (tLit (.bool false)) := by rw [hL]; rfl
            have V90 : L.lookup 90 = some (tLit (.slice (some ⟨b, off, none⟩) (q) (qc))) := by rw [hL]; rfl
            have V91 : L.lookup 91 = some (tLit (.int .i64 ((k : Int)))) := by rw [hL]; rfl
            have V92 : L.lookup 92 = some (tLit (.pointer (some ⟨b, off + ((k : Int) : Int).toNat * 3, none⟩))) := by rw [hL]; rfl
            have V93 : L.lookup 93 = some (tLit (.pointer (some ⟨b, off + ((k : Int) : Int).toNat * 3 + 1, none⟩))) := by rw [hL]; rfl
            have V94 : L.lookup 94 = some (tLit (.bool false)) := by rw [hL]; rfl
            have V95 : L.lookup 95 = some (tLit (.int .i64 ((an : Int) + (bm : Int)))) := by rw [hL]; rfl
            have V96 : L.lookup 96 = some (tLit (.slice (AG) (m) (cG))) := by rw [hL]; rfl
            have V97 : L.lookup 97 = some (tLit (.int .i64 ((m : Int)))) := by rw [hL]; rfl
            have V98 : L.lookup 98 = some (tLit (.bool true)) := by rw [hL]; rfl
            have V99 : L.lookup 99 = some (tLit (.bool false)) := by rw [hL]; rfl
            have V100 : L.lookup 100 = some (tLit (.bool false)) := by rw [hL]; rfl
            have HK : KeepL L := by rw [hL]; exact ⟨keep_lit _, keep_lit _, keep_lit _, keep_lit _, keep_lit _, keep_lit _, keep_lit _, keep_lit _, keep_lit _, keep_lit _, keep_lit _, keep_lit _, keep_lit _, keep_lit _, keep_lit _, keep_lit _, keep_lit _, keep_lit _, keep_lit _, keep_lit _, keep_lit _, keep_lit _, keep_lit _, keep_lit _, keep_lit _, keep_lit _, keep_lit _, keep_lit _, keep_lit _, keep_sl, keep_lit _, keep_lit _, keep_lit _, keep_lit _, keep_lit _, keep_lit _, keep_lit _, keep_lit _, keep_lit _, keep_lit _, keep_lit _, keep_lit _, keep_lit _, keep_lit _, keep_lit _, trivial⟩
            refine wp_region_mix0 (by kernel_rfl) L 41 rfl [some 60, some 61, some 62, some 63, some 64, some 65, some 66, some 67, some 68, some 69, some 70, some 71, some 72, some 73, some 74, some 75, some 76, some 77, some 78, some 79, some 80, some 81, some 82, some 83, some 84, some 85, some 86, some 87, some 88, some 89, some 90, some 91, some 92, some 93, some 94, some 95, some 96, some 97, some 98, some 99, some 100] (by kernel_rfl) (by kernel_rfl) (by kernel_rfl) 4 (by rw [hL]; intro x hx; simp only [List.take_succ_cons, List.take_zero, List.mem_cons, List.not_mem_nil, or_false] at hx; rcases hx with rfl | rfl | rfl | rfl <;> rfl) (by rw [hL]; rfl) ?_ ?_
            · clear hL
              exact ⟨m_move HK gokm_none (om_tmp V3) V60,
                m_move HK gokm_none (om_tmp V8) V61,
                m_index HK gokm_none (s := 3) (by kernel_rfl) (by omega) (by omega) (om_tmp V60) (om_tmp V61) rfl V62,
                m_field HK gokm_none (f := 0) (s := 1) (by kernel_rfl) (by omega) (om_tmp V62) rfl V63,
                m_load1 HK gokm_none (by kernel_rfl) (om_tmp V63) c0' V64,
                m_lss HK gokm_none (om_tmp V64) om_const (decide_eq_false (by omega)).symm V65,
                m_move HK gokm_none (om_tmp V65) V66,
                m_move HK (gokm_some rfl V66) (om_tmp V9) V67,
                m_move HK (gokm_some rfl V66) (om_tmp V4) V68,
                m_len HK (gokm_some rfl V66) Try.underlying22 (om_tmp V68) V69,
                m_gtr HK (gokm_some rfl V66) (om_tmp V67) (om_tmp V69) (decide_eq_false (by omega)).symm V70,
                m_pickf HK gokm_none (om_tmp V66) (om_tmp V70) V71,
                m_move HK gokm_none (om_tmp V71) V72,
                m_move HK (gokm_some rfl V72) (om_tmp V3) V73,
                m_move HK (gokm_some rfl V72) (om_tmp V8) V74,
                m_index HK (gokm_some rfl V72) (s := 3) (by kernel_rfl) (by omega) (by omega) (om_tmp V73) (om_tmp V74) rfl V75,
                m_field HK (gokm_some rfl V72) (f := 2) (s := 1) (by kernel_rfl) (by omega) (om_tmp V75) rfl V76,
                m_load1 HK (gokm_some rfl V72) (by kernel_rfl) (om_tmp V76) c2' V77,
                m_move HK (gokm_some rfl V72) (om_tmp V4) V78,
                m_move HK (gokm_some rfl V72) (om_tmp V3) V79,
                m_move HK (gokm_some rfl V72) (om_tmp V8) V80,
                m_index HK (gokm_some rfl V72) (s := 3) (by kernel_rfl) (by omega) (by omega) (om_tmp V79) (om_tmp V80) rfl V81,
                m_field HK (gokm_some rfl V72) (f := 0) (s := 1) (by kernel_rfl) (by omega) (om_tmp V81) rfl V82,
                m_load1 HK (gokm_some rfl V72) (by kernel_rfl) (om_tmp V82) c0' V83,
                m_move HK (gokm_some rfl V72) (om_tmp V9) V84,
                m_cut HK (gokm_some rfl V72) (by kernel_rfl) (om_tmp V78) hsG (Nat.le_refl _) hmc hmx (om_tmp V83) (om_tmp V84) (by omega) (by omega) (by omega) V85,
                m_call HK (gokm_some rfl V72) Try.func19 (by kernel_rfl) (by kernel_rfl) V86 (fun o b' w' hm' hG ho => by
                  have ea : b'.eval (.tmp 77) = .slice C bm bc := (om_tmp V77) o b' w' (hm' _ (by simp)) ho
                  obtain ⟨A1, c1, eb, q1, q2, sl⟩ := (om_tmp V85) o b' w' (hm' _ (by simp)) ho
                  rw [show (#[.tmp 77, .tmp 85] : Array Operand).map b'.eval = #[.slice C bm bc, .slice A1 (((an : Int) + (bm : Int)).toNat - (an : Int).toNat) c1] from by simp [ea, eb]]
                  have hb' : ((bs.map (Value.int .u8)).take (((an : Int) + (bm : Int)).toNat * 1)).drop ((an : Int).toNat * 1) = pz.map (Value.int .u8) := HBODY.out
                  rw [hb', show ((an : Int) + (bm : Int)).toNat - (an : Int).toNat = bm from by omega] at sl
                  rw [show ((an : Int) + (bm : Int)).toNat - (an : Int).toNat = bm from by omega]
                  refine (sameBytes_any _ _ _ _ _ _ pz pz _ (New.sl hG (Sl.drew (hsC nq)) (Nat.le_refl _)) sl (by omega) (by omega)).mono fun e w2 h => ?_
                  exact ⟨_, h.1, New.of_below h.2, by rw [show (pz == pz) = true from by simp]; rfl⟩),
                m_not HK (gokm_some rfl V72) (om_tmp V86) rfl V87,
                m_pickf HK gokm_none (om_tmp V72) (om_tmp V87) V88,
                m_move HK gokm_none (om_tmp V88) V89,
                m_move HK (gokm_some rfl V89) (om_tmp V3) V90,
                m_move HK (gokm_some rfl V89) (om_tmp V8) V91,
                m_index HK (gokm_some rfl V89) (s := 3) (by kernel_rfl) (by omega) (by omega) (om_tmp V90) (om_tmp V91) rfl V92,
                m_field HK (gokm_some rfl V89) (f := 1) (s := 1) (by kernel_rfl) (by omega) (om_tmp V92) rfl V93,
                m_load1 HK (gokm_some rfl V89) (by kernel_rfl) (om_tmp V93) c1' V94,
                m_move HK (gokm_some rfl V89) (om_tmp V9) V95,
                m_move HK (gokm_some rfl V89) (om_tmp V4) V96,
                m_len HK (gokm_some rfl V89) Try.underlying22 (om_tmp V96) V97,
                m_eql HK (gokm_some rfl V89) (om_tmp V95) (om_tmp V97) E3.out.symm V98,
                m_eqlb (by kernel_rfl) HK (gokm_some rfl V89) (om_tmp V94) (om_tmp V98) rfl V99,
                m_pickf HK gokm_none (om_tmp V89) (om_tmp V99) V100,
                trivial⟩
            intro vs w5 hw5 hk5
            have k60 : vs 60 = .slice (some ⟨b, off, none⟩) (q) (qc) := hk5 0 60 _ (by omega) rfl V60
            have k61 : vs 61 = .int .i64 ((k : Int)) := hk5 1 61 _ (by omega) rfl V61
            have k62 : vs 62 = .pointer (some ⟨b, off + ((k : Int) : Int).toNat * 3, none⟩) := hk5 2 62 _ (by omega) rfl V62
            have k63 : vs 63 = .pointer (some ⟨b, off + ((k : Int) : Int).toNat * 3, none⟩) := hk5 3 63 _ (by omega) rfl V63
            have k64 : vs 64 = .int .i64 ((an : Int)) := hk5 4 64 _ (by omega) rfl V64
            have k65 : vs 65 = .bool false := hk5 5 65 _ (by omega) rfl V65
            have k66 : vs 66 = .bool false := hk5 6 66 _ (by omega) rfl V66
            have k67 : vs 67 = .int .i64 ((an : Int) + (bm : Int)) := hk5 7 67 _ (by omega) rfl V67
            have k68 : vs 68 = .slice (AG) (m) (cG) := hk5 8 68 _ (by omega) rfl V68
            have k69 : vs 69 = .int .i64 ((m : Int)) := hk5 9 69 _ (by omega) rfl V69
            have k70 : vs 70 = .bool false := hk5 10 70 _ (by omega) rfl V70
            have k71 : vs 71 = .bool false := hk5 11 71 _ (by omega) rfl V71
            have k72 : vs 72 = .bool false := hk5 12 72 _ (by omega) rfl V72
            have k73 : vs 73 = .slice (some ⟨b, off, none⟩) (q) (qc) := hk5 13 73 _ (by omega) rfl V73
            have k74 : vs 74 = .int .i64 ((k : Int)) := hk5 14 74 _ (by omega) rfl V74
            have k75 : vs 75 = .pointer (some ⟨b, off + ((k : Int) : Int).toNat * 3, none⟩) := hk5 15 75 _ (by omega) rfl V75
            have k76 : vs 76 = .pointer (some ⟨b, off + ((k : Int) : Int).toNat * 3 + 2, none⟩) := hk5 16 76 _ (by omega) rfl V76
            have k77 : vs 77 = .slice (C) (bm) (bc) := hk5 17 77 _ (by omega) rfl V77
            have k78 : vs 78 = .slice (AG) (m) (cG) := hk5 18 78 _ (by omega) rfl V78
            have k79 : vs 79 = .slice (some ⟨b, off, none⟩) (q) (qc) := hk5 19 79 _ (by omega) rfl V79
            have k80 : vs 80 = .int .i64 ((k : Int)) := hk5 20 80 _ (by omega) rfl V80
            have k81 : vs 81 = .pointer (some ⟨b, off + ((k : Int) : Int).toNat * 3, none⟩) := hk5 21 81 _ (by omega) rfl V81
            have k82 : vs 82 = .pointer (some ⟨b, off + ((k : Int) : Int).toNat * 3, none⟩) := hk5 22 82 _ (by omega) rfl V82
            have k83 : vs 83 = .int .i64 ((an : Int)) := hk5 23 83 _ (by omega) rfl V83
            have k84 : vs 84 = .int .i64 ((an : Int) + (bm : Int)) := hk5 24 84 _ (by omega) rfl V84
            have k85 := hk5 25 85 _ (by omega) rfl V85
            have k86 : vs 86 = .bool true := hk5 26 86 _ (by omega) rfl V86
            have k87 : vs 87 = .bool false := hk5 27 87 _ (by omega) rfl V87
            have k88 : vs 88 = .bool false := hk5 28 88 _ (by omega) rfl V88
            have k89 : vs 89 = .bool false := hk5 29 89 _ (by omega) rfl V89
            have k90 : vs 90 = .slice (some ⟨b, off, none⟩) (q) (qc) := hk5 30 90 _ (by omega) rfl V90
            have k91 : vs 91 = .int .i64 ((k : Int)) := hk5 31 91 _ (by omega) rfl V91
            have k92 : vs 92 = .pointer (some ⟨b, off + ((k : Int) : Int).toNat * 3, none⟩) := hk5 32 92 _ (by omega) rfl V92
            have k93 : vs 93 = .pointer (some ⟨b, off + ((k : Int) : Int).toNat * 3 + 1, none⟩) := hk5 33 93 _ (by omega) rfl V93
            have k94 : vs 94 = .bool false := hk5 34 94 _ (by omega) rfl V94
            have k95 : vs 95 = .int .i64 ((an : Int) + (bm : Int)) := hk5 35 95 _ (by omega) rfl V95
            have k96 : vs 96 = .slice (AG) (m) (cG) := hk5 36 96 _ (by omega) rfl V96
            have k97 : vs 97 = .int .i64 ((m : Int)) := hk5 37 97 _ (by omega) rfl V97
            have k98 : vs 98 = .bool true := hk5 38 98 _ (by omega) rfl V98
            have k99 : vs 99 = .bool false := hk5 39 99 _ (by omega) rfl V99
            have k100 : vs 100 = .bool false := hk5 40 100 _ (by omega) rfl V100
            clear hk5 HK hL V3 V4 V8 V9 V60 V61 V62 V63 V64 V65 V66 V67 V68 V69 V70 V71 V72 V73 V74 V75 V76 V77 V78 V79 V80 V81 V82 V83 V84 V85 V86 V87 V88 V89 V90 V91 V92 V93 V94 V95 V96 V97 V98 V99 V100
            have hbN := New.below hw5 (below_drewN hb nq) (by exact hb.size)
            simp only [putL, Act.put, List.setIfInBounds_toArray, List.set_cons_zero, List.set_cons_succ, k60, k61, k62, k63, k64, k65, k66, k67, k68, k69, k70, k71, k72, k73, k74, k75, k76, k77, k78, k79, k80, k81, k82, k83, k84, k86, k87, k88, k89, k90, k91, k92, k93, k94, k95, k96, k97, k98, k99, k100]
            go_wp2_with fail
            go_roundw
            case rel => exact ⟨k + 1, by omega, by go_num, hbN⟩
            case measure => simp [intOf] <;> omega
          · skip
            have hmo : mo = true := hmore.2 hmm
            subst hmo
            clear hmore
            have e3 : ((an : Int) + (bm : Int) == (m : Int)) = false := by simp; omega
            have E3 := Lib.hid e3
            clear hmm e3
            go_wp2_with fail
            go_quiet (fail)
            go_wp2_with fail
            have hof : off + (k : Int).toNat * 3 = off + k * 3 := by simp
            rw [← hof] at c0 c1 c2
            clear hof
            have hsC : ∀ n, Sl (wr.drewN n) 0 wr.heap.size 1 C bm (pz.map (Value.int .u8)) := fun n => (hs1.more (Nat.zero_le _) (by omega)).drewN n
            have hsG : Sl (wr.drewN nq).drew 0 (wr.drewN nq).drew.heap.size 1 AG m (bs.map (Value.int .u8)) := (Sl.of_own GB).more (Nat.zero_le _) (Nat.le_refl _)
            have c0' : (wr.drewN nq).drew.cell? ⟨b, off + (k : Int).toNat * 3, none⟩ = some (.int .i64 (an : Int)) := c0
            have c1' : (wr.drewN nq).drew.cell? ⟨b, off + (k : Int).toNat * 3 + 1, none⟩ = some (.bool true) := c1
            have c2' : (wr.drewN nq).drew.cell? ⟨b, off + (k : Int).toNat * 3 + 2, none⟩ = some (.slice C bm bc) := c2
            obtain ⟨L, hL⟩ : ∃ L : List (Nat × VT), L = [(3, tLit (.slice (some ⟨b, off, none⟩) (q) (qc))), (4, tLit (.slice (AG) (m) (cG))), (8, tLit (.int .i64 ((k : Int)))), (9, tLit (.int .i64 ((an : Int) + (bm : Int)))), (60, tLit (.slice (some ⟨b, off, none⟩) (q) (qc))), (61, tLit (.int .i64 ((k : Int)))), (62, tLit (.pointer (some ⟨b, off + ((k : Int) : Int).toNat * 3, none⟩))), (63, tLit (.pointer (some ⟨b, off + ((k : Int) : Int).toNat * 3, none⟩))), (64, tLit (.int .i64 ((an : Int)))), (65, tLit (.bool false)), (66, tLit (.bool false)), (67, tLit (.int .i64 ((an : Int) + (bm : Int)))), (68, tLit (.slice (AG) (m) (cG))), (69, tLit (.int .i64 ((m : Int)))), (70, tLit (.bool false)), (71, tLit (.bool false)), (72, tLit (.bool false)), (73, tLit (.slice (some ⟨b, off, none⟩) (q) (qc))), (74, tLit (.int .i64 ((k : Int)))), (75, tLit (.pointer (some ⟨b, off + ((k : Int) : Int).toNat * 3, none⟩))), (76, tLit (.pointer (some ⟨b, off + ((k : Int) : Int).toNat * 3 + 2, none⟩))), (77, tLit (.slice (C) (bm) (bc))), (78, tLit (.slice (AG) (m) (cG))), (79, tLit (.slice (some ⟨b, off, none⟩) (q) (qc))), (80, tLit (.int .i64 ((k : Int)))), (81, tLit (.pointer (some ⟨b, off + ((k : Int) : Int).toNat * 3, none⟩))), (82, tLit (.pointer (some ⟨b, off + ((k : Int) : Int).toNat * 3, none⟩))), (83, tLit (.int .i64 ((an : Int)))), (84, tLit (.int .i64 ((an : Int) + (bm : Int)))), (85, tSl 0 1 (((an : Int) + (bm : Int)).toNat - (an : Int).toNat) (((bs.map (Value.int .u8)).take (((an : Int) + (bm : Int)).toNat * 1)).drop ((an : Int).toNat * 1))), (86, tLit (.bool true)), (87, tLit (.bool false)), (88, tLit (.bool false)), (89, tLit (.bool false)), (90, tLit (.slice (some ⟨b, off, none⟩) (q) (qc))), (91, tLit (.int .i64 ((k : Int)))), (92, tLit (.pointer (some ⟨b, off + ((k : Int) : Int).toNat * 3, none⟩))), (93, tLit (.pointer (some ⟨b, off + ((k : Int) : Int).toNat * 3 + 1, none⟩))), (94, tLit (.bool true)), (95, tLit (.int .i64 ((an : Int) + (bm : Int)))), (96, tLit (.slice (AG) (m) (cG))), (97, tLit (.int .i64 ((m : Int)))), (98, tLit (.bool false)), (99, tLit (.bool false)), (100, tLit (.bool false))] := ⟨_, rfl⟩
            have V3 : L.lookup 3 = some (tLit (.slice (some ⟨b, off, none⟩) (q) (qc))) := by rw [hL]; rfl
            have V4 : L.lookup 4 = some (tLit (.slice (AG) (m) (cG))) := by rw [hL]; rfl
            have V8 : L.lookup 8 = some (tLit (.int .i64 ((k : Int)))) := by rw [hL]; rfl
            have V9 : L.lookup 9 = some (tLit (.int .i64 ((an : Int) + (bm : Int)))) := by rw [hL]; rfl
            have V60 : L.lookup 60 = some (tLit (.slice (some ⟨b, off, none⟩) (q) (qc))) := by rw [hL]; rfl
            have V61 : L.lookup 61 = some (tLit (.int .i64 ((k : Int)))) := by rw [hL]; rfl
            have V62 : L.lookup 62 = some (tLit (.pointer (some ⟨b, off + ((k : Int) : Int).toNat * 3, none⟩))) := by rw [hL]; rfl
            have V63 : L.lookup 63 = some (tLit (.pointer (some ⟨b, off + ((k : Int) : Int).toNat * 3, none⟩))) := by rw [hL]; rfl
            have V64 : L.lookup 64 = some (tLit (.int .i64 ((an : Int)))) := by rw [hL]; rfl
            have V65 : L.lookup 65 = some (tLit (.bool false)) := by rw [hL]; rfl
            have V66 : L.lookup 66 = some (tLit (.bool false)) := by rw [hL]; rfl
            have V67 : L.lookup 67 = some (tLit (.int .i64 ((an : Int) + (bm : Int)))) := by rw [hL]; rfl
            have V68 : L.lookup 68 = some (tLit (.slice (AG) (m) (cG))) := by rw [hL]; rfl
            have V69 : L.lookup 69 = some (tLit (.int .i64 ((m : Int)))) := by rw [hL]; rfl
            have V70 : L.lookup 70 = some (tLit (.bool false)) := by rw [hL]; rfl
            have V71 : L.lookup 71 = some (tLit (.bool false)) := by rw [hL]; rfl
            have V72 : L.lookup 72 = some (tLit (.bool false)) := by rw [hL]; rfl
            have V73 : L.lookup 73 = some (tLit (.slice (some ⟨b, off, none⟩) (q) (qc))) := by rw [hL]; rfl
            have V74 : L.lookup 74 = some (tLit (.int .i64 ((k : Int)))) := by rw [hL]; rfl
            have V75 : L.lookup 75 = some (tLit (.pointer (some ⟨b, off + ((k : Int) : Int).toNat * 3, none⟩))) := by rw [hL]; rfl
            have V76 : L.lookup 76 = some (tLit (.pointer (some ⟨b, off + ((k : Int) : Int).toNat * 3 + 2, none⟩))) := by rw [hL]; rfl
            have V77 : L.lookup 77 = some (tLit (.slice (C) (bm) (bc))) := by rw [hL]; rfl
            have V78 : L.lookup 78 = some (tLit (.slice (AG) (m) (cG))) := by rw [hL]; rfl
            have V79 : L.lookup 79 = some (tLit (.slice (some ⟨b, off, none⟩) (q) (qc))) := by rw [hL]; rfl
            have V80 : L.lookup 80 = some (tLit (.int .i64 ((k : Int)))) := by rw [hL]; rfl
            have V81 : L.lookup 81 = some (tLit (.pointer (some ⟨b, off + ((k : Int) : Int).toNat * 3, none⟩))) := by rw [hL]; rfl
            have V82 : L.lookup 82 = some (tLit (.pointer (some ⟨b, off + ((k : Int) : Int).toNat * 3, none⟩))) := by rw [hL]; rfl
            have V83 : L.lookup 83 = some (tLit (.int .i64 ((an : Int)))) := by rw [hL]; rfl
            have V84 : L.lookup 84 = some (tLit (.int .i64 ((an : Int) + (bm : Int)))) := by rw [hL]; rfl
            have V85 : L.lookup 85 = some (tSl 0 1 (((an : Int) + (bm : Int)).toNat - (an : Int).toNat) (((bs.map (Value.int .u8)).take (((an : Int) + (bm : Int)).toNat * 1)).drop ((an : Int).toNat * 1))) := by rw [hL]; rfl
            have V86 : L.lookup 86 = some (tLit (.bool true)) := by rw [hL]; rfl
            have V87 : L.lookup 87 = some (tLit (.bool false)) := by rw [hL]; rfl
            have V88 : L.lookup 88 = some (tLit (.bool false)) := by rw [hL]; rfl
            have V89 : L.lookup 89 = some (tLit (.bool false)) := by rw [hL]; rfl
            have V90 : L.lookup 90 = some (tLit (.slice (some ⟨b, off, none⟩) (q) (qc))) := by rw [hL]; rfl
            have V91 : L.lookup 91 = some (tLit (.int .i64 ((k : Int)))) := by rw [hL]; rfl
            have V92 : L.lookup 92 = some (tLit (.pointer (some ⟨b, off + ((k : Int) : Int).toNat * 3, none⟩))) := by rw [hL]; rfl
            have V93 : L.lookup 93 = some (tLit (.pointer (some ⟨b, off + ((k : Int) : Int).toNat * 3 + 1, none⟩))) := by rw [hL]; rfl
            have V94 : L.lookup 94 = some (tLit (.bool true)) := by rw [hL]; rfl
            have V95 : L.lookup 95 = some (tLit (.int .i64 ((an : Int) + (bm : Int)))) := by rw [hL]; rfl
            have V96 : L.lookup 96 = some (tLit (.slice (AG) (m) (cG))) := by rw [hL]; rfl
            have V97 : L.lookup 97 = some (tLit (.int .i64 ((m : Int)))) := by rw [hL]; rfl
            have V98 : L.lookup 98 = some (tLit (.bool false)) := by rw [hL]; rfl
            have V99 : L.lookup 99 = some (tLit (.bool false)) := by rw [hL]; rfl
            have V100 : L.lookup 100 = some (tLit (.bool false)) := by rw [hL]; rfl
            have HK : KeepL L := by rw [hL]; exact ⟨keep_lit _, keep_lit _, keep_lit _, keep_lit _, keep_lit _, keep_lit _, keep_lit _, keep_lit _, keep_lit _, keep_lit _, keep_lit _, keep_lit _, keep_lit _, keep_lit _, keep_lit _, keep_lit _, keep_lit _, keep_lit _, keep_lit _, keep_lit _, keep_lit _, keep_lit _, keep_lit _, keep_lit _, keep_lit _, keep_lit _, keep_lit _, keep_lit _, keep_lit _, keep_sl, keep_lit _, keep_lit _, keep_lit _, keep_lit _, keep_lit _, keep_lit _, keep_lit _, keep_lit _, keep_lit _, keep_lit _, keep_lit _, keep_lit _, keep_lit _, keep_lit _, keep_lit _, trivial⟩
            refine wp_region_mix0 (by kernel_rfl) L 41 rfl [some 60, some 61, some 62, some 63, some 64, some 65, some 66, some 67, some 68, some 69, some 70, some 71, some 72, some 73, some 74, some 75, some 76, some 77, some 78, some 79, some 80, some 81, some 82, some 83, some 84, some 85, some 86, some 87, some 88, some 89, some 90, some 91, some 92, some 93, some 94, some 95, some 96, some 97, some 98, some 99, some 100] (by kernel_rfl) (by kernel_rfl) (by kernel_rfl) 4 (by rw [hL]; intro x hx; simp only [List.take_succ_cons, List.take_zero, List.mem_cons, List.not_mem_nil, or_false] at hx; rcases hx with rfl | rfl | rfl | rfl <;> rfl) (by rw [hL]; rfl) ?_ ?_
            · clear hL
              exact ⟨m_move HK gokm_none (om_tmp V3) V60,
                m_move HK gokm_none (om_tmp V8) V61,
                m_index HK gokm_none (s := 3) (by kernel_rfl) (by omega) (by omega) (om_tmp V60) (om_tmp V61) rfl V62,
                m_field HK gokm_none (f := 0) (s := 1) (by kernel_rfl) (by omega) (om_tmp V62) rfl V63,
                m_load1 HK gokm_none (by kernel_rfl) (om_tmp V63) c0' V64,
                m_lss HK gokm_none (om_tmp V64) om_const (decide_eq_false (by omega)).symm V65,
                m_move HK gokm_none (om_tmp V65) V66,
                m_move HK (gokm_some rfl V66) (om_tmp V9) V67,
                m_move HK (gokm_some rfl V66) (om_tmp V4) V68,
                m_len HK (gokm_some rfl V66) Try.underlying22 (om_tmp V68) V69,
                m_gtr HK (gokm_some rfl V66) (om_tmp V67) (om_tmp V69) (decide_eq_false (by omega)).symm V70,
                m_pickf HK gokm_none (om_tmp V66) (om_tmp V70) V71,
                m_move HK gokm_none (om_tmp V71) V72,
                m_move HK (gokm_some rfl V72) (om_tmp V3) V73,
                m_move HK (gokm_some rfl V72) (om_tmp V8) V74,
                m_index HK (gokm_some rfl V72) (s := 3) (by kernel_rfl) (by omega) (by omega) (om_tmp V73) (om_tmp V74) rfl V75,
                m_field HK (gokm_some rfl V72) (f := 2) (s := 1) (by kernel_rfl) (by omega) (om_tmp V75) rfl V76,
                m_load1 HK (gokm_some rfl V72) (by kernel_rfl) (om_tmp V76) c2' V77,
                m_move HK (gokm_some rfl V72) (om_tmp V4) V78,
                m_move HK (gokm_some rfl V72) (om_tmp V3) V79,
                m_move HK (gokm_some rfl V72) (om_tmp V8) V80,
                m_index HK (gokm_some rfl V72) (s := 3) (by kernel_rfl) (by omega) (by omega) (om_tmp V79) (om_tmp V80) rfl V81,
                m_field HK (gokm_some rfl V72) (f := 0) (s := 1) (by kernel_rfl) (by omega) (om_tmp V81) rfl V82,
                m_load1 HK (gokm_some rfl V72) (by kernel_rfl) (om_tmp V82) c0' V83,
                m_move HK (gokm_some rfl V72) (om_tmp V9) V84,
                m_cut HK (gokm_some rfl V72) (by kernel_rfl) (om_tmp V78) hsG (Nat.le_refl _) hmc hmx (om_tmp V83) (om_tmp V84) (by omega) (by omega) (by omega) V85,
                m_call HK (gokm_some rfl V72) Try.func19 (by kernel_rfl) (by kernel_rfl) V86 (fun o b' w' hm' hG ho => by
                  have ea : b'.eval (.tmp 77) = .slice C bm bc := (om_tmp V77) o b' w' (hm' _ (by simp)) ho
                  obtain ⟨A1, c1, eb, q1, q2, sl⟩ := (om_tmp V85) o b' w' (hm' _ (by simp)) ho
                  rw [show (#[.tmp 77, .tmp 85] : Array Operand).map b'.eval = #[.slice C bm bc, .slice A1 (((an : Int) + (bm : Int)).toNat - (an : Int).toNat) c1] from by simp [ea, eb]]
                  have hb' : ((bs.map (Value.int .u8)).take (((an : Int) + (bm : Int)).toNat * 1)).drop ((an : Int).toNat * 1) = pz.map (Value.int .u8) := HBODY.out
                  rw [hb', show ((an : Int) + (bm : Int)).toNat - (an : Int).toNat = bm from by omega] at sl
                  rw [show ((an : Int) + (bm : Int)).toNat - (an : Int).toNat = bm from by omega]
                  refine (sameBytes_any _ _ _ _ _ _ pz pz _ (New.sl hG (Sl.drew (hsC nq)) (Nat.le_refl _)) sl (by omega) (by omega)).mono fun e w2 h => ?_
                  exact ⟨_, h.1, New.of_below h.2, by rw [show (pz == pz) = true from by simp]; rfl⟩),
                m_not HK (gokm_some rfl V72) (om_tmp V86) rfl V87,
                m_pickf HK gokm_none (om_tmp V72) (om_tmp V87) V88,
                m_move HK gokm_none (om_tmp V88) V89,
                m_move HK (gokm_some rfl V89) (om_tmp V3) V90,
                m_move HK (gokm_some rfl V89) (om_tmp V8) V91,
                m_index HK (gokm_some rfl V89) (s := 3) (by kernel_rfl) (by omega) (by omega) (om_tmp V90) (om_tmp V91) rfl V92,
                m_field HK (gokm_some rfl V89) (f := 1) (s := 1) (by kernel_rfl) (by omega) (om_tmp V92) rfl V93,
                m_load1 HK (gokm_some rfl V89) (by kernel_rfl) (om_tmp V93) c1' V94,
                m_move HK (gokm_some rfl V89) (om_tmp V9) V95,
                m_move HK (gokm_some rfl V89) (om_tmp V4) V96,
                m_len HK (gokm_some rfl V89) Try.underlying22 (om_tmp V96) V97,
                m_eql HK (gokm_some rfl V89) (om_tmp V95) (om_tmp V97) E3.out.symm V98,
                m_eqlb (by kernel_rfl) HK (gokm_some rfl V89) (om_tmp V94) (om_tmp V98) rfl V99,
                m_pickf HK gokm_none (om_tmp V89) (om_tmp V99) V100,
                trivial⟩
            intro vs w5 hw5 hk5
            have k60 : vs 60 = .slice (some ⟨b, off, none⟩) (q) (qc) := hk5 0 60 _ (by omega) rfl V60
            have k61 : vs 61 = .int .i64 ((k : Int)) := hk5 1 61 _ (by omega) rfl V61
            have k62 : vs 62 = .pointer (some ⟨b, off + ((k : Int) : Int).toNat * 3, none⟩) := hk5 2 62 _ (by omega) rfl V62
            have k63 : vs 63 = .pointer (some ⟨b, off + ((k : Int) : Int).toNat * 3, none⟩) := hk5 3 63 _ (by omega) rfl V63
            have k64 : vs 64 = .int .i64 ((an : Int)) := hk5 4 64 _ (by omega) rfl V64
            have k65 : vs 65 = .bool false := hk5 5 65 _ (by omega) rfl V65
            have k66 : vs 66 = .bool false := hk5 6 66 _ (by omega) rfl V66
            have k67 : vs 67 = .int .i64 ((an : Int) + (bm : Int)) := hk5 7 67 _ (by omega) rfl V67
            have k68 : vs 68 = .slice (AG) (m) (cG) := hk5 8 68 _ (by omega) rfl V68
            have k69 : vs 69 = .int .i64 ((m : Int)) := hk5 9 69 _ (by omega) rfl V69
            have k70 : vs 70 = .bool false := hk5 10 70 _ (by omega) rfl V70
            have k71 : vs 71 = .bool false := hk5 11 71 _ (by omega) rfl V71
            have k72 : vs 72 = .bool false := hk5 12 72 _ (by omega) rfl V72
            have k73 : vs 73 = .slice (some ⟨b, off, none⟩) (q) (qc) := hk5 13 73 _ (by omega) rfl V73
            have k74 : vs 74 = .int .i64 ((k : Int)) := hk5 14 74 _ (by omega) rfl V74
            have k75 : vs 75 = .pointer (some ⟨b, off + ((k : Int) : Int).toNat * 3, none⟩) := hk5 15 75 _ (by omega) rfl V75
            have k76 : vs 76 = .pointer (some ⟨b, off + ((k : Int) : Int).toNat * 3 + 2, none⟩) := hk5 16 76 _ (by omega) rfl V76
            have k77 : vs 77 = .slice (C) (bm) (bc) := hk5 17 77 _ (by omega) rfl V77
            have k78 : vs 78 = .slice (AG) (m) (cG) := hk5 18 78 _ (by omega) rfl V78
            have k79 : vs 79 = .slice (some ⟨b, off, none⟩) (q) (qc) := hk5 19 79 _ (by omega) rfl V79
            have k80 : vs 80 = .int .i64 ((k : Int)) := hk5 20 80 _ (by omega) rfl V80
            have k81 : vs 81 = .pointer (some ⟨b, off + ((k : Int) : Int).toNat * 3, none⟩) := hk5 21 81 _ (by omega) rfl V81
            have k82 : vs 82 = .pointer (some ⟨b, off + ((k : Int) : Int).toNat * 3, none⟩) := hk5 22 82 _ (by omega) rfl V82
            have k83 : vs 83 = .int .i64 ((an : Int)) := hk5 23 83 _ (by omega) rfl V83
            have k84 : vs 84 = .int .i64 ((an : Int) + (bm : Int)) := hk5 24 84 _ (by omega) rfl V84
            have k85 := hk5 25 85 _ (by omega) rfl V85
            have k86 : vs 86 = .bool true := hk5 26 86 _ (by omega) rfl V86
            have k87 : vs 87 = .bool false := hk5 27 87 _ (by omega) rfl V87
            have k88 : vs 88 = .bool false := hk5 28 88 _ (by omega) rfl V88
            have k89 : vs 89 = .bool false := hk5 29 89 _ (by omega) rfl V89
            have k90 : vs 90 = .slice (some ⟨b, off, none⟩) (q) (qc) := hk5 30 90 _ (by omega) rfl V90
            have k91 : vs 91 = .int .i64 ((k : Int)) := hk5 31 91 _ (by omega) rfl V91
            have k92 : vs 92 = .pointer (some ⟨b, off + ((k : Int) : Int).toNat * 3, none⟩) := hk5 32 92 _ (by omega) rfl V92
            have k93 : vs 93 = .pointer (some ⟨b, off + ((k : Int) : Int).toNat * 3 + 1, none⟩) := hk5 33 93 _ (by omega) rfl V93
            have k94 : vs 94 = .bool true := hk5 34 94 _ (by omega) rfl V94
            have k95 : vs 95 = .int .i64 ((an : Int) + (bm : Int)) := hk5 35 95 _ (by omega) rfl V95
            have k96 : vs 96 = .slice (AG) (m) (cG) := hk5 36 96 _ (by omega) rfl V96
            have k97 : vs 97 = .int .i64 ((m : Int)) := hk5 37 97 _ (by omega) rfl V97
            have k98 : vs 98 = .bool false := hk5 38 98 _ (by omega) rfl V98
            have k99 : vs 99 = .bool false := hk5 39 99 _ (by omega) rfl V99
            have k100 : vs 100 = .bool false := hk5 40 100 _ (by omega) rfl V100
            clear hk5 HK hL V3 V4 V8 V9 V60 V61 V62 V63 V64 V65 V66 V67 V68 V69 V70 V71 V72 V73 V74 V75 V76 V77 V78 V79 V80 V81 V82 V83 V84 V85 V86 V87 V88 V89 V90 V91 V92 V93 V94 V95 V96 V97 V98 V99 V100
            have hbN := New.below hw5 (below_drewN hb nq) (by exact hb.size)
            simp only [putL, Act.put, List.setIfInBounds_toArray, List.set_cons_zero, List.set_cons_succ, k60, k61, k62, k63, k64, k65, k66, k67, k68, k69, k70, k71, k72, k73, k74, k75, k76, k77, k78, k79, k80, k81, k82, k83, k84, k86, k87, k88, k89, k90, k91, k92, k93, k94, k95, k96, k97, k98, k99, k100]
            go_wp2_with fail
            go_roundw
            case rel => exact ⟨k + 1, by omega, by go_num, hbN⟩
            case measure => simp [intOf] <;> omega
        · skip
          obtain rfl : q = k := by omega
          go_wp2_with fail
          go_ret
          exact ⟨rfl, d_w4.trans (hb.mono d_w4.size)⟩
  · go_enter Try.func6, Try.ntmps6
    go_wp2
    go_ret
    exact ⟨rfl, Below.refl _ _⟩
end Go.Proofs.Ytljbkppeoedcjaa
