/-
  SlotTable of the program.
-/
import Derived.Test.YtfobcggcilbgbaaSlotJ
import Derived.Test.YtfobcggcilbgbaaSlotS
namespace Go.Proofs.Ytfobcggcilbgbaa
open Go.RowKit
set_option linter.unusedVariables false

set_option maxRecDepth 100000 in
set_option maxHeartbeats 6400000 in
theorem iSlotT_any (A : Option Addr) (n c : Nat) (hs : List H3) (w : World) {lo hi : Nat} (hS : Sl w lo hi 3 A n (hostsV hs)) (hhi : hi ≤ w.heap.size) (hn : n ≤ 1048576) (hv : poolV hs = true) :
    Calls Try.prog 50 #[.slice A n c] w (RetOwn w 3 1 (slotTV hs).length ((slotTV hs).map (Value.int .i64))) := by
  have HL := Lib.hid hS.hlen
  obtain ⟨i0, hi0, hz0, hz1, hz2⟩ := info_parts infoInt
  obtain ⟨us, hus⟩ : ∃ us, upL hs = us := ⟨_, rfl⟩
  obtain ⟨m, hml⟩ : ∃ m, us.length = m := ⟨_, rfl⟩
  have hm6 : m ≤ 6 := by rw [← hml, ← hus]; exact Nat.le_trans (upL_len hs) (pool_len hv)
  have hok : ∀ x ∈ us, HostOk1 x := by rw [← hus]; exact up_ok hv
  have hasc : us.Pairwise fun a b => a.1 < b.1 := by rw [← hus]; exact up_lt hv
  have hup : Calls Try.prog 45 #[.slice A n c] w (RetOwn w 39 3 m (hostsV us)) := by
    have := up_any A n c hs w hS hhi hn
    rwa [hus, hml] at this
  have hpv : ∀ w1, Below w.heap.size w w1 → Calls Try.prog 19 #[.slice A n c] w1 fun e w' => e = .returned (.bool true) ∧ Below w1.heap.size w1 w' := fun w1 hb1 => by
    have := iPoolValid_any A n c hs w1 (hS.below hb1 hhi) (Nat.le_trans hhi hb1.size) hn
    rwa [hv] at this
  by_cases hm0 : m = 0
  · subst hm0
    have hu0 : us = [] := List.eq_nil_of_length_eq_zero hml
    have HT : RowKit.Hid (slotTV hs = []) := Lib.hid (by unfold slotTV; rw [hus, if_pos hu0])
    rw [HT.out]
    clear hus hml hu0 hok hasc
    go_enter Try.func50, Try.ntmps50
    go_wp2_with (first | (go_at_call 45; refine hup.mono ?_; intro e w1 hr; obtain ⟨A2, c2, rfl, own2, hb2⟩ := hr.form; clear own2 hr) | (go_at_call 19; refine (hpv _ hb2).mono ?_; rintro e w2 ⟨rfl, hb3⟩))
    go_ret
    exact RetOwn.mk (World.ownsRow_nil _ _ _ _) (hb2.trans (hb3.mono hb2.size))
  · have hune : us ≠ [] := fun e => hm0 (by rw [← hml, e]; rfl)
    have HT : RowKit.Hid (slotTV hs = slotT us) := Lib.hid (by unfold slotTV; rw [hus, if_neg hune])
    have HTL := Lib.hid (slotT_len us)
    have HM := Lib.hid hml
    have HOK := Lib.hid hok
    have HNE := Lib.hid hune
    have HASC := Lib.hid hasc
    rw [HT.out, HTL.out]
    have hmd : ((m : Int) == 0) = false := by simp; omega
    have hm1 : 1 ≤ m := by omega
    clear hus hml hm0 hok hune hasc
    have hmk := run_make_row' (P := Try.prog) 40 3 (.int .i64 0) 8 Try.underlying40 infoInt rfl .i64 .i64 31 (by omega) (by omega)
    have hmk2 : ∀ w : World, (Instr.makeSlice 40 (.int .i64 31) (.int .i64 31)).run Try.prog w = .ok (.slice (some ⟨w.heap.size, 0, none⟩) 31 31) (w.alloc (.cells (madeCells #[.int .i64 0] 31) 3)) := hmk
    have HMK := Lib.hid hmk2
    clear hmk hmk2
    go_enter Try.func50, Try.ntmps50
    go_upto_region 4 with (first | (go_at_call 45; refine hup.mono ?_; intro e w1 hr; obtain ⟨A2, c2, rfl, own2, hb2⟩ := hr.form) | (go_at_call 19; refine (hpv _ hb2).mono ?_; rintro e w2 ⟨rfl, hb3⟩))
    have hbw2 := hb2.trans (hb3.mono hb2.size)
    have hup2 : Sl w2 w.heap.size w2.heap.size 3 A2 m (hostsV us) := Sl.of_own (own_below own2 hb3)
    have hzw2 := hbw2.size
    clear hr own2 hup hpv hb2 hb3
    have hmk := HMK.out
    have hmm := @run_makeMap Try.prog
    go_wp2
    clear hmk hmm
    obtain ⟨gt, hgt⟩ : ∃ gt : Nat, w2.heap.size = gt := ⟨_, rfl⟩
    rw [hgt] at hup2 ⊢
    refine wp_genS (fun w3 => w3.ownsRow w.heap.size 3 1 (.slice (some ⟨gt, 0, none⟩) 31 31) 31 (T0.map tabZ) ∧ Blk w3 (gt + 1) 82 (takC T0) ∧ MapS w3 (gt + 1 + 1) 0 (.map []) ∧ Sl w3 w.heap.size gt 3 A2 m (hostsV us) ∧ Below w.heap.size w w3 ∧ gt + 1 + 1 + 1 ≤ w3.heap.size) ⟨?_, ?_, ?_, ?_, ?_, ?_⟩ ?_
    · have := (((own_base (own_made w2 (.int .i64 0) 3 31 (by unfold maxLen; omega)) hbw2.size).alloc (.cells (takC T0) 82)).alloc (.map #[] 0))
      rw [hgt] at this
      have e : T0.map tabZ = List.replicate 31 (.int .i64 0) := by rfl
      rw [e]
      exact this
    · have := (Blk.new (w2.alloc (.cells (madeCells #[.int .i64 0] 31) 3)) 82 (takC T0)).alloc (.map #[] 0)
      rw [World.size_alloc, hgt] at this
      exact this
    · have := World.ownsMap_made ((w2.alloc (.cells (madeCells #[.int .i64 0] 31) 3)).alloc (.cells (takC T0) 82)) Try.prog 3 RH
      rw [World.size_alloc, World.size_alloc, hgt] at this
      exact this
    · exact ((hup2.alloc (by omega) _).alloc (by simp; omega) _).alloc (by simp; omega) _
    · exact ((hbw2.alloc (by omega) _).alloc (by simp; omega) _).alloc (by simp; omega) _
    · simp; omega
    clear hup2 hbw2
    rintro w3 ⟨htab, htak, hmap, hst, hbel, hsz⟩
    go_loopw [27] (fun i wr => ∃ (k K : Nat) (D : DataW Value), k ≤ m ∧ i = .int .i64 k ∧ K ≤ k ∧ wr.ownsRow w.heap.size 3 1 (.slice (some ⟨gt, 0, none⟩) 31 31) 31 (T0.map tabZ) ∧ Blk wr (gt + 1) 82 (takC T0) ∧ MapS wr (gt + 1 + 1) K D ∧ Maps.IsMap D ∧ OrdM wr D (gt + 1 + 1 + 1) wr.heap.size us k (List.replicate us.length 0) ∧ Sl wr w.heap.size gt 3 A2 m (hostsV us) ∧ Below w.heap.size w wr ∧ gt + 1 + 1 + 1 ≤ wr.heap.size) (fun i _ => m - (intOf i).toNat)
    case atStart => exact ⟨0, 0, _, Nat.zero_le _, rfl, Nat.le_refl _, htab, htak, hmap, ⟨_, rfl⟩, fun j hj => absurd hj (by omega), hst, hbel, hsz⟩
    case round =>
      clear htab htak hmap hst hbel hsz
      obtain ⟨k, K, D, hk, rfl, hK, htab, htak, hmap, hM, hord, hst, hbel, hsz⟩ := hrel
      have hz := hbel.size
      have hBgt : w.heap.size ≤ gt := (htab.lt gt rfl).1
      by_cases hlt : k < m
      · obtain ⟨b, off, rfl, _, _, c0, c1, c2⟩ := hst.host hlt
        have hlk : k < us.length := by rw [HM.out]; exact hlt
        have hx := HOK.out _ (hAt_mem hlk)
        obtain ⟨⟨h0, h1, h2⟩, hh⟩ : ∃ p, hAt us k = p := ⟨_, rfl⟩
        rw [hh] at c0 c1 c2 hx
        have HH := Lib.hid hh
        unfold HostOk1 at hx
        simp only at hx
        clear hh
        go_upto_region 11 with fail
        generalize hgw : wr.alloc (.cells #[.int .i64 h0, .int .i64 h1, .int .i64 h2] 39) = w4
        obtain ⟨g, hg⟩ : ∃ g : Nat, g = wr.heap.size := ⟨_, rfl⟩
        rw [← hg]
        have d0 : w4.cell? ⟨g, 0, none⟩ = some (.int .i64 h0) := by rw [← hgw, hg]; exact (Blk.new wr 39 #[.int .i64 h0, .int .i64 h1, .int .i64 h2]).cell 0
        have n4 : New wr w4 := by rw [← hgw]; exact GrF.alloc _ _ _
        clear hgw c0 c1 c2
        obtain ⟨L, hL⟩ : ∃ L : List (Nat × VT), L = [(7, tLit (.map (some (gt + 1 + 1)))), (9, tLit (.pointer (some ⟨g, 0, none⟩))), (31, tLit (.map (some (gt + 1 + 1)))), (32, tLit (.pointer (some ⟨g, 0, none⟩))), (33, tLit (.int .i64 (h0))), (34, tLit (.pointer (some ⟨g, 0, none⟩))), (35, tLit (.int .i64 (h0))), (36, tOwn w4.drew.heap.size 3 1 31 ((slotO h0).map (Value.int .i64)))] := ⟨_, rfl⟩
        have V7 : L.lookup 7 = some (tLit (.map (some (gt + 1 + 1)))) := by rw [hL]; rfl
        have V9 : L.lookup 9 = some (tLit (.pointer (some ⟨g, 0, none⟩))) := by rw [hL]; rfl
        have V31 : L.lookup 31 = some (tLit (.map (some (gt + 1 + 1)))) := by rw [hL]; rfl
        have V32 : L.lookup 32 = some (tLit (.pointer (some ⟨g, 0, none⟩))) := by rw [hL]; rfl
        have V33 : L.lookup 33 = some (tLit (.int .i64 (h0))) := by rw [hL]; rfl
        have V34 : L.lookup 34 = some (tLit (.pointer (some ⟨g, 0, none⟩))) := by rw [hL]; rfl
        have V35 : L.lookup 35 = some (tLit (.int .i64 (h0))) := by rw [hL]; rfl
        have V36 : L.lookup 36 = some (tOwn w4.drew.heap.size 3 1 31 ((slotO h0).map (Value.int .i64))) := by rw [hL]; rfl
        have HK : KeepL L := by rw [hL]; exact ⟨keep_lit _, keep_lit _, keep_lit _, keep_lit _, keep_lit _, keep_lit _, keep_lit _, keep_own, trivial⟩
        refine wp_region_mix (by kernel_rfl) L 6 7 rfl [some 31, some 32, some 33, some 34, some 35, some 36] (by kernel_rfl) (by kernel_rfl) (by kernel_rfl) 2 (by rw [hL]; intro x hx; simp only [List.take_succ_cons, List.take_zero, List.mem_cons, List.not_mem_nil, or_false] at hx; rcases hx with rfl | rfl <;> rfl) (by rw [hL]; rfl) ?_ ?_
        · clear hL
          exact ⟨m_move HK gokm_none (om_tmp V7) V31,
            m_field HK gokm_none (f := 0) (s := 1) (by kernel_rfl) (by omega) (om_tmp V9) rfl V32,
            m_load1 HK gokm_none (by kernel_rfl) (om_tmp V32) d0 V33,
            m_field HK gokm_none (f := 0) (s := 1) (by kernel_rfl) (by omega) (om_tmp V9) rfl V34,
            m_load1 HK gokm_none (by kernel_rfl) (om_tmp V34) d0 V35,
            m_call HK gokm_none Try.func75 (by kernel_rfl) (by kernel_rfl) V36 (fun o b w hm hG ho => by
              have e : b.eval (.tmp 35) = .int .i64 (h0) := (om_tmp V35) o b w (hm _ (by simp)) ho
              rw [show (#[.tmp 35] : Array Operand).map b.eval = #[.int .i64 (h0)] from by simp [e]]
              exact (iSlotO_any h0 w hx.1 hx.2.1).mono fun e w' h => by
                obtain ⟨A1, c1, rfl, own, bb⟩ := h.form
                obtain ⟨A3, c3, e3, q1, q2⟩ := own_is_slice own
                cases e3
                exact ⟨_, rfl, New.of_below bb, _, _, rfl, q1, q2, own_base own hG.size⟩),
            trivial⟩
        intro vs w5 hw5 hk5
        have k31 : vs 31 = .map (some (gt + 1 + 1)) := hk5 0 31 _ (by omega) rfl V31
        have k32 : vs 32 = .pointer (some ⟨g, 0, none⟩) := hk5 1 32 _ (by omega) rfl V32
        have k33 : vs 33 = .int .i64 (h0) := hk5 2 33 _ (by omega) rfl V33
        have k34 : vs 34 = .pointer (some ⟨g, 0, none⟩) := hk5 3 34 _ (by omega) rfl V34
        have k35 : vs 35 = .int .i64 (h0) := hk5 4 35 _ (by omega) rfl V35
        have k36 := hk5 5 36 _ (by omega) rfl V36
        clear hk5 HK hL V7 V9 V31 V32 V33 V34 V35 V36
        simp only [putL, Act.put, List.setIfInBounds_toArray, List.set_cons_zero, List.set_cons_succ, k31, k32, k33, k34, k35]
        simp only [List.drop_succ_cons, List.drop_zero]
        clear k31 k32 k33 k34 k35
        obtain ⟨A4, c4, k36, hc31, hcmx, own4⟩ := k36
        rw [k36]
        clear k36
        obtain ⟨g4, cy4, e4, _, hg4, hg4'⟩ := own_slice own4 (by omega)
        cases e4
        have n5 : New wr w5 := n4.trans hw5
        have hmap5 : MapS w5 (gt + 1 + 1) K D := World.ownsMap.kept hmap n5.to_none (by simp)
        obtain ⟨w6, hrun, hmap6, hg6⟩ := hmap5.store (k := h0) (by unfold maxLen; omega) (by omega) (.slice (some ⟨g4, 0, none⟩) 31 c4)
        have hwrs : wr.heap.size ≤ w4.heap.size := n4.size
        have hg4r : wr.heap.size ≤ g4 := Nat.le_trans hwrs hg4
        have hz5 : wr.heap.size ≤ w5.heap.size := n5.size
        have hz6 : w5.heap.size ≤ w6.heap.size := hg6.size
        have htab6 := (New.own n5 htab).kept hg6 (.inr (by simp [Value.ownBlock]; omega))
        have htak6 := (New.blk n5 htak).grown hg6 (by simp)
        have hst6 := (New.sl n5 hst (by omega)).grown hg6 (by omega) (fun gg h => by injection h with h; omega)
        have hbel6 := (New.below n5 hbel hbel.size).grown hg6 (by omega) (fun gg h => by injection h with h; omega)
        have keep6 : ∀ b o, b < w5.heap.size → gt + 1 + 1 < b → w6.cell? ⟨b, o, none⟩ = w5.cell? ⟨b, o, none⟩ := fun b o h1 h2 => World.cell?_of_block (a := ⟨b, o, none⟩) (hg6.block b h1 (fun e => by injection e with e; omega))
        have hord6 : OrdM w6 (D.put (.int .i64 h0) (.held (.slice (some ⟨g4, 0, none⟩) 31 c4))) (gt + 1 + 1 + 1) w6.heap.size us (k + 1) (List.replicate us.length 0) := fun j hj => by
          rcases Nat.lt_or_ge j k with h | h
          · obtain ⟨v, b, c, q1, q2, q3, q3', q4, q5, q6⟩ := hord j h
            have hne := up_ne HASC.out (i := j) (j := k) (by rw [HM.out]; omega) hlk (by omega)
            rw [HH.out] at hne
            refine ⟨v, b, c, q1.other hne _, q2, q3, q3', q4, by omega, fun i hi => ?_⟩
            exact (keep6 b i (by omega) (by omega)).trans ((n5.cell q5 (fun hf => hf)).trans (q6 i hi))
          · obtain rfl : j = k := by omega
            refine ⟨_, g4, c4, by rw [HH.out]; exact Held.same hM (by omega) _, ?_, hc31, hcmx, by omega, by omega, fun i hi => ?_⟩
            · have : (List.replicate us.length 0)[j]?.getD 0 = 0 := by simp [hlk]
              rw [this]
              exact ⟨0, rfl, fun _ => rfl⟩
            · rw [HH.out]
              refine (keep6 g4 i hg4' (by omega)).trans ?_
              have := (Sl.of_own own4).2 (by omega)
              obtain ⟨_, _, e, _, _, hcell⟩ := this
              cases e
              have := hcell i (.int .i64 (slotK h0 i)) (by rw [List.getElem?_map, slotO_at _ hi]; rfl)
              rwa [Nat.zero_add] at this
        have HO6 := Lib.hid hord6
        clear keep6 hord6 hord d0
        go_wp2
        go_roundw
        case rel => exact ⟨k + 1, K + 1, _, by omega, by go_num, by omega, htab6, htak6, hmap6, put_isMap hM _ _, HO6.out, hst6, hbel6, by omega⟩
        case measure => simp [intOf]; omega
      · obtain rfl : m = k := by omega
        have hist : ISt w.heap.size (gt + 1 + 1 + 1) wr.heap.size w gt (gt + 1) (gt + 1 + 1) K D A2 us m T0 (List.replicate us.length 0) wr := ⟨htab, htak, hmap, hM, hord, hst, ⟨by omega, by omega, by omega, Nat.le_refl _⟩, hbel⟩
        have hpl : PlOk us T0 (List.replicate us.length 0) := PlOk.zero us T0
        clear htab htak hmap hM hord hst hbel hsz
        go_wp2
        obtain ⟨S1, hS1⟩ : ∃ S1 : Nat, wr.heap.size = S1 := ⟨_, rfl⟩
        rw [hS1] at hist
        clear hS1
        have HR := Lib.hid (fun r (h : freeN (rounds us r T0) = 0) => slotT_is (us := us) HOK.out HNE.out h)
        have HRL := Lib.hid (fun r => rounds_ok us r)
        have HRF := Lib.hid (fun r => rounds_free (us := us) HOK.out HNE.out r)
        have HRLT := Lib.hid (fun r (h : 0 < freeN (rounds us r T0)) => round1_lt (us := us) (rounds_ok us r) HOK.out HNE.out h)
        obtain ⟨wo, rfl⟩ : ∃ wo : World, wo = wr := ⟨_, rfl⟩
        go_loopw [6] (fun lf wr => ∃ (r : Nat) (P : List Nat) (K : Nat) (D : DataW Value), lf = .int .i64 (freeN (rounds us r T0) : Nat) ∧ K ≤ 6 + 30 * r ∧ PlOk us (rounds us r T0) P ∧ ISt w.heap.size (gt + 1 + 1 + 1) S1 w gt (gt + 1) (gt + 1 + 1) K D A2 us m (rounds us r T0) P wr) (fun lf _ => (intOf lf).toNat)
        case atStart => exact ⟨0, _, K, D, by rw [show freeN (rounds us 0 T0) = 31 from freeN_T0]; rfl, by omega, hpl, hist⟩
        case round =>
          clear hist hpl hK D K
          obtain ⟨r, P, K, D, rfl, hK, hpl, hst⟩ := hrel
          by_cases hf : 0 < freeN (rounds us r T0)
          · have HLT := Lib.hid (HRLT.out r hf)
            have hrt := HRL.out r
            have hr31 : r ≤ 31 := by rcases HRF.out r with h | h <;> omega
            obtain ⟨T, hT⟩ : ∃ T, rounds us r T0 = T := ⟨_, rfl⟩
            have HRN : RowKit.Hid (rounds us (r + 1) T0 = round1 us T) := Lib.hid (by rw [rounds, hT])
            rw [hT] at hf hpl hst HLT hrt ⊢
            clear hT
            have hTok := Lib.hid hrt
            clear hrt
            have hfi : (0 : Int) < (freeN T : Nat) := by omega
            have hf31 : freeN T ≤ 31 := freeN_le hTok.out
            go_wp2
            clear hfi
            obtain ⟨wo2, rfl⟩ : ∃ wo2 : World, wo2 = wr := ⟨_, rfl⟩
            go_loopw [6, 42] (fun lf i wr => ∃ (k : Nat) (P : List Nat) (K : Nat) (D : DataW Value), k ≤ m ∧ i = .int .i64 k ∧ lf = .int .i64 (freeN ((us.take k).foldl tkHost T) : Nat) ∧ K ≤ 6 + 30 * r + 5 * k ∧ PlOk us ((us.take k).foldl tkHost T) P ∧ ISt w.heap.size (gt + 1 + 1 + 1) S1 w gt (gt + 1) (gt + 1 + 1) K D A2 us m ((us.take k).foldl tkHost T) P wr) (fun _ i _ => m - (intOf i).toNat)
            case atStart => exact ⟨0, P, K, D, Nat.zero_le _, rfl, rfl, by omega, hpl, hst⟩
            case round =>
              clear hst hpl hK D K
              obtain ⟨k, P, K, D, hk, rfl, rfl, hK, hpl, hst⟩ := hrel
              by_cases hlt : k < m
              · have hjl : k < us.length := by rw [HM.out]; exact hlt
                have hFS := Lib.hid (fold_step us T hjl)
                obtain ⟨Tk, hTk⟩ : ∃ Tk, (us.take k).foldl tkHost T = Tk := ⟨_, rfl⟩
                rw [hTk] at hpl hst hFS ⊢
                clear hTk
                have hx := HOK.out _ (hAt_mem (hs := us) (k := k) hjl)
                have hmx := host_mix hx
                obtain ⟨bu, ou, eA, _, _, c0, c1, c2⟩ := hst.hst.host hlt
                cases eA
                obtain ⟨⟨h0, h1, h2⟩, hh⟩ : ∃ p, hAt us k = p := ⟨_, rfl⟩
                rw [hh] at hx hFS hmx c0 c1 c2
                have HH := Lib.hid hh
                unfold HostOk1 at hx
                simp only at hx hmx c0 c1 c2
                clear hh
                obtain ⟨q, rfl⟩ : ∃ q : Nat, h1 = (q : Int) := ⟨h1.toNat, by omega⟩
                have HTK : RowKit.Hid ((us.take (k + 1)).foldl tkHost T = takeN h0 q Tk) := Lib.hid (by rw [hFS.out]; unfold tkHost; simp only [Int.toNat_natCast])
                have hq5 : q ≤ 5 := by omega
                have hki : (0 : Int) ≤ (k : Int) := by omega
                have hki2 : (k : Int) < (m : Int) := by omega
                go_upto_region 17 with fail
                generalize hgw : wr.alloc (.cells #[.int .i64 h0, .int .i64 (q : Int), .int .i64 h2] 39) = w4
                obtain ⟨g, hg⟩ : ∃ g : Nat, wr.heap.size = g := ⟨_, rfl⟩
                rw [hg]
                have hgS : S1 ≤ g := by rw [← hg]; exact hst.lt1.2.2.2
                have hbox : Blk w4 g 39 #[.int .i64 h0, .int .i64 (q : Int), .int .i64 h2] := by rw [← hgw, ← hg]; exact Blk.new _ _ _
                have hst4 := hst.alloc (.cells #[.int .i64 h0, .int .i64 (q : Int), .int .i64 h2] 39)
                rw [hgw] at hst4
                clear hgw hg c0 c1 c2 hst
                have d1 : w4.cell? ⟨g, 0 + 1, none⟩ = some (.int .i64 (q : Int)) := hbox.cell 1
                go_wp2
                clear d1
                obtain ⟨wo3, rfl⟩ : ∃ wo3 : World, wo3 = wr := ⟨_, rfl⟩
                go_loopw [6, 48] (fun lf t wr => ∃ (s : Nat) (P : List Nat) (K : Nat) (D : DataW Value), s ≤ q ∧ t = .int .i64 s ∧ lf = .int .i64 (freeN (takeN h0 s Tk) : Nat) ∧ K ≤ 6 + 30 * r + 5 * k + s ∧ PlOk us (takeN h0 s Tk) P ∧ Blk wr g 39 #[.int .i64 h0, .int .i64 (q : Int), .int .i64 h2] ∧ ISt w.heap.size (gt + 1 + 1 + 1) S1 w gt (gt + 1) (gt + 1 + 1) K D (some ⟨bu, ou, none⟩) us m (takeN h0 s Tk) P wr) (fun _ t _ => q - (intOf t).toNat)
                case atStart => exact ⟨0, P, K, D, Nat.zero_le _, rfl, rfl, by omega, hpl, hbox, hst4⟩
                case round =>
                  clear hst4 hpl hbox hK D K
                  obtain ⟨s, P, K, D, hs', rfl, rfl, hK, hpl, hbox, hst⟩ := hrel
                  obtain ⟨Ts, hTs⟩ : ∃ Ts, takeN h0 s Tk = Ts := ⟨_, rfl⟩
                  have HTS : RowKit.Hid (takeN h0 (s + 1) Tk = take1 h0 Ts) := Lib.hid (by rw [takeN, hTs])
                  have HTS0 := Lib.hid hTs
                  rw [hTs] at hpl hst ⊢
                  clear hTs
                  by_cases hsq : s < q
                  · obtain ⟨v, b, c, hheld, ⟨o, rfl, ho⟩, hc31, hcm, hb1, hb2, hcell⟩ := hst.ord k hlt
                    rw [HH.out] at hheld hcell
                    simp only at hheld hcell
                    have hp31 := (hpl.2 k hjl).1
                    have hptk := (hpl.2 k hjl).2
                    rw [HH.out] at hptk
                    simp only at hptk
                    obtain ⟨p, hp⟩ : ∃ p, P[k]?.getD 0 = p := ⟨_, rfl⟩
                    rw [hp] at hheld ho hp31 hptk
                    obtain ⟨l, hl⟩ : ∃ l, 31 - p = l := ⟨_, rfl⟩
                    obtain ⟨d, hd⟩ : ∃ d, c - p = d := ⟨_, rfl⟩
                    rw [hl, hd] at hheld
                    have hrun := hst.map.look (by omega) hheld
                    have e0 : wr.cell? ⟨g, 0, none⟩ = some (.int .i64 h0) := hbox.cell 0
                    have hsqi : (s : Int) < (q : Int) := by omega
                    have hlp : l + p = 31 := by omega
                    have hdp : d + p = c := by omega
                    have hol : 0 < l → o = p := fun h => ho (by omega)
                    have HCELL := Lib.hid hcell
                    have HPTK := Lib.hid hptk
                    clear hl hd ho hp hcell hptk hheld
                    go_wp2
                    clear hrun hsqi e0
                    obtain ⟨w5, hw5⟩ : ∃ w5 : World, w5 = wr := ⟨_, rfl⟩
                    have hcell := HCELL.out
                    rw [← hw5] at hst hbox hcell
                    have HCEL := Lib.hid hcell
                    have HW5 := Lib.hid hw5
                    clear hcell HCELL
                    clear hw5
                    go_loopg [12] 31 (fun gk vv wx => ∃ (p l d o : Nat), vv = .slice (some ⟨b, o, none⟩) l d ∧ l + p = 31 ∧ d + p = c ∧ (0 < l → o = p) ∧ 31 ≤ gk + p ∧ (∀ i, i < p → freeB Ts (slotK h0 i) = false) ∧ wx = w5)
                    case atStart => exact ⟨p, l, d, o, rfl, hlp, hdp, hol, by omega, HPTK.out, HW5.out.symm⟩
                    case round =>
                      clear HPTK hol hlp hdp HW5
                      obtain ⟨p, l, d, o, rfl, hlp, hdp, hol, hgk, hptk, rfl⟩ := hrel
                      have HPTK := Lib.hid hptk
                      clear hptk
                      have hgkS : gt < gt + 1 := by omega
                      by_cases hl0 : 0 < l
                      · obtain rfl := hol hl0
                        have hop : o < 31 := by omega
                        obtain ⟨σ, hσ⟩ : ∃ σ : Nat, slotK h0 o = (σ : Int) := ⟨(slotK h0 o).toNat, by have := slotK_bd h0 o; omega⟩
                        have hσ31 : σ < 31 := by have := slotK_bd h0 o; omega
                        have d2 := HCEL.out o hop
                        have d3 := hst.takAt hσ31
                        rw [hσ] at d2
                        have HSG := Lib.hid hσ
                        clear hσ hol
                        have hsi : (0 : Int) ≤ (σ : Int) := by omega
                        have hsi2 : (σ : Int) < 31 := by omega
                        have hl0i : (0 : Int) < (l : Int) := by omega
                        by_cases hfr : freeB Ts (σ : Int) = true
                        · rw [hfr] at d3
                          go_upto_region 23 with fail
                          obtain ⟨tz, htz⟩ := hst.tabAt hσ31
                          have e0 := hbox.cell 0
                          have hfz := hst.tab.frozenAt
                          have hfk := hst.tak.frozen
                          have hat := take1_at (n := h0) (p := o) hst.tabOk hx.1 hop HPTK.out (by rw [HSG.out]; exact hfr)
                          rw [HSG.out, Int.toNat_natCast] at hat
                          have HAT := Lib.hid hat
                          have hfp : 0 < freeN Ts := by have := hat.2; omega
                          have hfl := freeN_le hst.tabOk
                          clear hat hfr
                          refine wp_region_still_tail 7 (by kernel_rfl) (by kernel_rfl) ?_
                          simp only [List.take_succ_cons, List.take_zero, List.drop_succ_cons, List.drop_zero]
                          repeat still_step
                          refine wpStill_nil ?_
                          change wpList _ _ _ _ _ wr.drew
                          have hTk := hst.drew.take σ (z := h0) hx.1
                          have hlt0 := hst.lt1
                          have hBg : w.heap.size ≤ gt := (hst.tab.lt gt rfl).1
                          have hbx : Blk ((wr.drew.setCell ⟨gt, σ, none⟩ (.int .i64 h0)).setCell ⟨gt + 1, σ, none⟩ (.bool true)) g 39 #[.int .i64 h0, .int .i64 (q : Int), .int .i64 h2] := (hbox.drew.far (p := ⟨gt, σ, none⟩) (by show g ≠ gt; omega) _).far (p := ⟨gt + 1, σ, none⟩) (by show g ≠ gt + 1; omega) _
                          have hcl : ∀ i, i < 31 → ((wr.drew.setCell ⟨gt, σ, none⟩ (.int .i64 h0)).setCell ⟨gt + 1, σ, none⟩ (.bool true)).cell? ⟨b, i, none⟩ = some (.int .i64 (slotK h0 i)) := fun i hi =>
                            ((World.cell?_setCell_other _ ⟨gt + 1, σ, none⟩ ⟨b, i, none⟩ _ (fun e => by injection e with e; omega)).trans (World.cell?_setCell_other _ ⟨gt, σ, none⟩ ⟨b, i, none⟩ _ (fun e => by injection e with e; omega))).trans (HCEL.out i hi)
                          have HTK2 := Lib.hid hTk
                          have HBX := Lib.hid hbx
                          have HCL := Lib.hid hcl
                          have hgne : gt ≠ gt + 1 := by omega
                          have hfi : (0 : Int) < (freeN Ts : Nat) := by omega
                          have hbne : b ≠ gt := by omega
                          have hbne2 : b ≠ gt + 1 := by omega
                          clear hTk hbx hcl
                          go_upto_region 26 with fail
                          refine wp_genS (fun wq => ISt w.heap.size (gt + 1 + 1 + 1) S1 w gt (gt + 1) (gt + 1 + 1) K D (some ⟨bu, ou, none⟩) us m (Ts.set σ h0) P wq ∧ Blk wq g 39 #[.int .i64 h0, .int .i64 (q : Int), .int .i64 h2] ∧ ∀ i, i < 31 → wq.cell? ⟨b, i, none⟩ = some (.int .i64 (slotK h0 i))) ⟨HTK2.out, HBX.out, HCL.out⟩ ?_
                          clear htz e0 hfz hfk d2 d3 hst hbox
                          rintro wq ⟨hst, hbox, hcell⟩
                          obtain ⟨w6, hrun, hmap6, hg6⟩ := hst.map.store (k := h0) (by unfold maxLen; omega) (by omega) (.slice (some ⟨b, o, none⟩) l d)
                          have e0 := hbox.cell 0
                          have hlts := hst.lt1
                          have hpos6 : OrdM wq (D.put (.int .i64 h0) (.held (.slice (some ⟨b, o, none⟩) l d))) (gt + 1 + 1 + 1) S1 us m (P.set k o) := by
                            have := hst.ord.put hst.isM HASC.out (by rw [HM.out]; exact Nat.le_refl _) hlt (by rw [HH.out]; exact ⟨hx.1, hx.2.1⟩) (v := .slice (some ⟨b, o, none⟩) l d) (b := b) (c := c) (p := o) hpl.1 ⟨o, by rw [show 31 - o = l from by omega, show c - o = d from by omega], fun _ => by omega⟩ hc31 hcm hb1 hb2 (by rw [HH.out]; exact hcell)
                            rw [HH.out] at this
                            exact this
                          have hord6 := hpos6.keep (w' := w6) (Nat.le_refl _) (fun bb oo h1 h2 => World.cell?_of_block (a := ⟨bb, oo, none⟩) (hg6.block bb (by omega) (fun e => by injection e with e; omega)))
                          have hst6 := hst.go hg6 (fun gg h => by injection h with h; omega) (hst.tab.kept hg6 (.inr (by simp [Value.ownBlock]; omega))) (hst.tak.grown hg6 (by simp)) hmap6 (put_isMap hst.isM _ _) hpos6
                          have hbox6 := hbox.grown hg6 (by simp; omega)
                          have HST6 := Lib.hid hst6
                          have HBOX6 := Lib.hid hbox6
                          clear hst6 hbox6 hord6 hpos6 hst hbox hcell hmap6 hg6
                          go_wp2
                          go_roundw
                          case rel => exact ⟨s + 1, P.set k o, K + 1, _, by omega, by go_num, by rw [HTS.out, show ((freeN (take1 h0 Ts) : Nat) : Int) = (freeN Ts : Nat) - 1 from by have := HAT.out.2; omega], by omega, by rw [HTS.out, HAT.out.1]; exact (hpl.to hjl (by omega) (by rw [HH.out]; exact HPTK.out)).set σ hx.1, HBOX6.out, by rw [HTS.out, HAT.out.1]; exact HST6.out⟩
                          case measure => simp [intOf]; omega
                        · have hfr' := Bool.eq_false_iff.2 hfr
                          rw [hfr'] at d3
                          clear hfr
                          have hl1 : 1 ≤ l := by omega
                          have hld : l ≤ d := by omega
                          have hd1 : 1 ≤ d := by omega
                          by_cases hd1' : d = 1
                          · subst hd1'
                            obtain rfl : l = 1 := by omega
                            have htk' : ∀ i, i < o + 1 → freeB Ts (slotK h0 i) = false := fun i hi => by
                              rcases Nat.lt_or_ge i o with h | h
                              · exact HPTK.out i h
                              · obtain rfl : i = o := by omega
                                rw [HSG.out]; exact hfr'
                            have HTK' := Lib.hid htk'
                            clear htk'
                            go_wp2
                            go_roundg (gk - 1)
                            case measure => omega
                            case rel => exact ⟨o + 1, 0, 0, o, rfl, by omega, by omega, fun h => absurd h (by omega), by omega, HTK'.out, rfl⟩
                          · have htk' : ∀ i, i < o + 1 → freeB Ts (slotK h0 i) = false := fun i hi => by
                              rcases Nat.lt_or_ge i o with h | h
                              · exact HPTK.out i h
                              · obtain rfl : i = o := by omega
                                rw [HSG.out]; exact hfr'
                            have HTK' := Lib.hid htk'
                            clear htk'
                            go_wp2
                            go_roundg (gk - 1)
                            case measure => omega
                            case rel => exact ⟨o + 1, l - 1, d - 1, o + 1, rfl, by omega, by omega, fun _ => rfl, by omega, HTK'.out, rfl⟩
                      · obtain rfl : l = 0 := by omega
                        clear hol
                        have hmixf : freeN Ts = 0 := all_taken hmx.1 hmx.2 hst.tabOk (fun j hj => HPTK.out j (by omega))
                        have HTF : RowKit.Hid (take1 h0 Ts = Ts) := Lib.hid (take1_full hmixf)
                        clear hmixf
                        go_upto_region 26 with fail
                        refine wp_genS (fun wq => ISt w.heap.size (gt + 1 + 1 + 1) S1 w gt (gt + 1) (gt + 1 + 1) K D (some ⟨bu, ou, none⟩) us m Ts P wq ∧ Blk wq g 39 #[.int .i64 h0, .int .i64 (q : Int), .int .i64 h2] ∧ ∀ i, i < 31 → wq.cell? ⟨b, i, none⟩ = some (.int .i64 (slotK h0 i))) ⟨hst, hbox, HCEL.out⟩ ?_
                        clear hst hbox
                        rintro wq ⟨hst, hbox, hcell⟩
                        obtain ⟨w6, hrun, hmap6, hg6⟩ := hst.map.store (k := h0) (by unfold maxLen; omega) (by omega) (.slice (some ⟨b, o, none⟩) 0 d)
                        have e0 := hbox.cell 0
                        have hlts := hst.lt1
                        have hpos6 : OrdM wq (D.put (.int .i64 h0) (.held (.slice (some ⟨b, o, none⟩) 0 d))) (gt + 1 + 1 + 1) S1 us m (P.set k 31) := by
                          have := hst.ord.put hst.isM HASC.out (by rw [HM.out]; exact Nat.le_refl _) hlt (by rw [HH.out]; exact ⟨hx.1, hx.2.1⟩) (v := .slice (some ⟨b, o, none⟩) 0 d) (b := b) (c := c) (p := 31) hpl.1 ⟨o, by rw [show 31 - 31 = 0 from by omega, show c - 31 = d from by omega], fun _ => by omega⟩ hc31 hcm hb1 hb2 (by rw [HH.out]; exact hcell)
                          rw [HH.out] at this
                          exact this
                        have hord6 := hpos6.keep (w' := w6) (Nat.le_refl _) (fun bb oo h1 h2 => World.cell?_of_block (a := ⟨bb, oo, none⟩) (hg6.block bb (by omega) (fun e => by injection e with e; omega)))
                        have hst6 := hst.go hg6 (fun gg h => by injection h with h; omega) (hst.tab.kept hg6 (.inr (by simp [Value.ownBlock]; omega))) (hst.tak.grown hg6 (by simp)) hmap6 (put_isMap hst.isM _ _) hpos6
                        have hbox6 := hbox.grown hg6 (by simp; omega)
                        have HST6 := Lib.hid hst6
                        have HBOX6 := Lib.hid hbox6
                        clear hst6 hbox6 hord6 hpos6 hst hbox hcell hmap6 hg6
                        go_wp2
                        go_roundw
                        case rel => exact ⟨s + 1, P.set k 31, K + 1, _, by omega, by go_num, by rw [HTS.out, HTF.out], by omega, by rw [HTS.out, HTF.out]; exact hpl.to hjl (Nat.le_refl _) (by rw [HH.out]; exact fun i hi => HPTK.out i (by omega)), HBOX6.out, by rw [HTS.out, HTF.out]; exact HST6.out⟩
                        case measure => simp [intOf]; omega
                  · obtain rfl : s = q := by omega
                    go_wp2
                    go_roundw
                    case rel => exact ⟨k + 1, P, K, D, by omega, by go_num, by rw [HTK.out, HTS0.out], by omega, by rw [HTK.out, HTS0.out]; exact hpl, by rw [HTK.out, HTS0.out]; exact hst⟩
                    case measure => simp [intOf]; omega
              · obtain rfl : m = k := by omega
                have hE : us.take m = us := by rw [← HM.out, List.take_length]
                rw [hE] at hpl hst ⊢
                clear hE
                go_wp2
                go_roundw
                case rel => exact ⟨r + 1, P, K, D, by rw [HRN.out]; rfl, by omega, by rw [HRN.out]; exact hpl, by rw [HRN.out]; exact hst⟩
                case measure => have := HLT.out; simp [intOf]; exact this
          · have hf0 : freeN (rounds us r T0) = 0 := by omega
            have HE := Lib.hid (HR.out r hf0)
            have HTF := Lib.hid (tab_full (HRL.out r) hf0)
            rw [hf0]
            have htab := hst.tab
            rw [HTF.out] at htab
            go_wp2
            go_ret
            rw [← HE.out]
            exact RetOwn.mk htab hst.bel
end Go.Proofs.Ytfobcggcilbgbaa
