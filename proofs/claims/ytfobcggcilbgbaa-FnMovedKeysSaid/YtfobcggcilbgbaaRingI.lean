/-
  RingOf of the program.
-/
import Derived.Test.YtfobcggcilbgbaaSortPt
import Derived.Test.YtfobcggcilbgbaaMixR
namespace Go.Proofs.Ytfobcggcilbgbaa
open Go.RowKit
set_option linter.unusedVariables false

theorem infoPt : (Try.prog.info? 75).map (fun i => (i.zero, i.size, i.bytes)) = some (some (.agg #[.int .i64 0, .int .i64 0]), 2, 16) := by kernel_rfl
def ringS (us : List H3) (k t : Nat) : List Pt2 := (us.take k).flatMap ptsH ++ (ptsH (hAt us k)).take t
theorem ptsH_len (h : H3) : (ptsH h).length = (3 * h.2.1).toNat := by unfold ptsH; simp
theorem ptsH_at (h : H3) (t : Nat) (ht : t < (3 * h.2.1).toNat) : (ptsH h)[t]? = some (mixL [h.1, (t : Int)], h.1) := by unfold ptsH; simp [List.getElem?_range ht]
theorem ringS_step (us : List H3) (k t : Nat) (ht : t < (3 * (hAt us k).2.1).toNat) : ringS us k (t + 1) = ringS us k t ++ [(mixL [(hAt us k).1, (t : Int)], (hAt us k).1)] := by
  unfold ringS
  rw [List.take_add_one, ptsH_at _ t ht]
  simp
theorem ringS_next (us : List H3) (k : Nat) (hk : k < us.length) : ringS us k (3 * (hAt us k).2.1).toNat = ringS us (k + 1) 0 := by
  unfold ringS
  rw [List.take_of_length_le (l := ptsH (hAt us k)) (by rw [ptsH_len]; exact Nat.le_refl _), List.take_succ_eq_append_getElem hk, List.flatMap_append, ← hAt_eq hk]
  simp
theorem ringS_done (us : List H3) : ringS us us.length 0 = us.flatMap ptsH := by unfold ringS; simp
theorem ringS_len (us : List H3) (h5 : ∀ k, k < us.length → (hAt us k).2.1 ≤ 5) : ∀ (k t : Nat), k ≤ us.length → t ≤ 15 → (ringS us k t).length ≤ 15 * k + t := by
  intro k t hk ht
  unfold ringS
  rw [List.length_append]
  have h1 : ((us.take k).flatMap ptsH).length ≤ 15 * k := by
    clear ht
    induction k with
    | zero => simp
    | succ k ih =>
      rw [List.take_succ_eq_append_getElem (by omega), List.flatMap_append, List.length_append]
      have := ih (by omega)
      have h2 := h5 k (by omega)
      have : ([us[k]].flatMap ptsH).length ≤ 15 := by
        simp only [List.flatMap_cons, List.flatMap_nil, List.append_nil]
        rw [ptsH_len, ← hAt_eq (by omega)]
        omega
      omega
  have h2 : ((ptsH (hAt us k)).take t).length ≤ t := List.length_take_le _ _
  omega
/-- What RingOf returns. -/
def ringO (hs : List H3) : List Pt2 := if poolV hs = true then sortP (pts hs) else []
theorem ringO_is (hs : List H3) (h : poolV hs = true) : IsRing hs (ringO hs) := by
  unfold ringO
  rw [if_pos h]
  exact ⟨sortP_perm _, sortP_sorted _⟩
theorem ptsV_snoc (r : List Pt2) (a b : Int) : ptsV (r ++ [(a, b)]) = ptsV r ++ [.int .i64 a, .int .i64 b] := by unfold ptsV; rw [recV_append]; rfl

set_option maxRecDepth 100000 in
set_option maxHeartbeats 3200000 in
theorem iRingOf_any (A : Option Addr) (n c : Nat) (hs : List H3) (w : World) {lo hi : Nat} (hS : Sl w lo hi 3 A n (hostsV hs)) (hhi : hi ≤ w.heap.size) (hn : n ≤ 1048576) :
    Calls Try.prog 48 #[.slice A n c] w (RetOwn w 75 2 (ringO hs).length (ptsV (ringO hs))) := by
  have HL := Lib.hid hS.hlen
  obtain ⟨i0, hi0, hz0, hz1, hz2⟩ := info_parts infoPt
  obtain ⟨j0, hj0, hjz, hj1, hj2⟩ := info_parts infoInt
  by_cases hv : poolV hs = true
  · obtain ⟨us, hus⟩ : ∃ us, upL hs = us := ⟨_, rfl⟩
    obtain ⟨m, hml⟩ : ∃ m, us.length = m := ⟨_, rfl⟩
    have HR : RowKit.Hid (ringO hs = sortP (ringS us m 0)) := Lib.hid (by unfold ringO pts; rw [if_pos hv, ← hml, ringS_done, ← hus])
    have hm : m ≤ 6 := by have := upL_len hs; rw [hus, hml] at this; have := pool_len hv; omega
    have hmem : ∀ k, k < m → 1 ≤ (hAt us k).2.1 ∧ (hAt us k).2.1 ≤ 5 := fun k hk => (pool_mem hv _ (up_mem (hs := hs) (by rw [hus]; exact hAt_mem (by omega))).1).2.1
    have HM := Lib.hid hml
    have HW := Lib.hid hmem
    have HLEN := Lib.hid (ringS_len us (fun k hk => (hmem k (by omega)).2))
    have hup : ∀ w1, Below w.heap.size w w1 → Calls Try.prog 45 #[.slice A n c] w1 (RetOwn w1 39 3 m (hostsV us)) := fun w1 hb1 => by
      have := up_any A n c hs w1 (hS.below hb1 hhi) (Nat.le_trans hhi hb1.size) hn
      rwa [hus, hml] at this
    clear hus hml hmem
    rw [HR.out, sortP_len]
    go_enter Try.func48, Try.ntmps48
    go_wp2_with (first | (go_at_call 19; refine (iPoolValid_any _ _ _ hs _ hS hhi hn).mono ?_; rw [hv]; rintro e w1 ⟨rfl, hb1⟩) | (go_at_call 45; refine (hup _ hb1).mono ?_; intro e w2 hr; obtain ⟨A2, c2, rfl, own2, hb2⟩ := hr.form; have hS2 := Sl.of_own own2; have hbb := hb1.trans (hb2.mono hb1.size); clear own2 hr))
    clear hup
    go_loopw [3, 13] (fun o i wr => ∃ (k : Nat), k ≤ m ∧ i = .int .i64 k ∧ wr.ownsRow w2.heap.size 75 2 o (ringS us k 0).length (ptsV (ringS us k 0)) ∧ Below w2.heap.size w2 wr) (fun _ i _ => m - (intOf i).toNat)
    case atStart => exact ⟨0, Nat.zero_le _, rfl, World.ownsRow_nil _ _ _ _, Below.refl _ _⟩
    case round =>
      obtain ⟨k, hk', rfl, hown, hb⟩ := hrel
      by_cases hlt : k < m
      · obtain ⟨b, off, rfl, _, _, c0, c1, c2⟩ := (hS2.below hb (Nat.le_refl _)).host hlt
        have HN := Lib.hid (ringS_next us k (by rw [HM.out]; exact hlt))
        have HST := Lib.hid (ringS_step us k)
        have hbw := HW.out k hlt
        have hz := hb.size
        obtain ⟨⟨h0, h1, h2⟩, hh⟩ : ∃ p, hAt us k = p := ⟨_, rfl⟩
        rw [hh] at c0 c1 c2 HN HST hbw
        simp only at hbw
        clear hh
        obtain ⟨q, rfl⟩ : ∃ q : Nat, h1 = (q : Int) := ⟨h1.toNat, by omega⟩
        have hq5 : q ≤ 5 := by omega
        have hq1 : 1 ≤ q := by omega
        have e3q : (3 * (q : Int)).toNat = 3 * q := by omega
        simp only [e3q] at HN HST
        clear e3q
        go_upto_region 7 with fail
        generalize hgw : wr.alloc (.cells #[.int .i64 h0, .int .i64 (q : Int), .int .i64 h2] 39) = w4
        have hblk : Blk w4 wr.heap.size 39 #[.int .i64 h0, .int .i64 (q : Int), .int .i64 h2] := by rw [← hgw]; exact Blk.new _ _ _
        have hb4 : Below w2.heap.size w2 w4 := by rw [← hgw]; exact hb.alloc hz _
        have hown4 := hown.alloc (.cells #[.int .i64 h0, .int .i64 (q : Int), .int .i64 h2] 39)
        rw [hgw] at hown4
        have hgz : w2.heap.size ≤ wr.heap.size := hz
        have hfar : ∀ gg, u3.ownBlock = some gg → gg ≠ wr.heap.size := fun gg h e => by have := (hown.lt gg h).2; omega
        clear hgw c0 c1 c2 hown
        have d1 : w4.cell? ⟨wr.heap.size, 0 + 1, none⟩ = some (.int .i64 (q : Int)) := hblk.cell 1
        go_wp2
        clear d1
        obtain ⟨g, hg⟩ : ∃ g : Nat, g = wr.heap.size := ⟨_, rfl⟩
        rw [← hg] at hblk hgz hfar ⊢
        clear hg
        obtain ⟨wo, rfl⟩ : ∃ wo : World, wo = wr := ⟨_, rfl⟩
        go_loopw [3, 20] (fun o i wi => ∃ (s : Nat), s ≤ 3 * q ∧ i = .int .i64 s ∧ wi.ownsRow w2.heap.size 75 2 o (ringS us k s).length (ptsV (ringS us k s)) ∧ (∀ gg, o.ownBlock = some gg → gg ≠ g) ∧ Blk wi g 39 #[.int .i64 h0, .int .i64 (q : Int), .int .i64 h2] ∧ Below w2.heap.size w2 wi) (fun _ i _ => 3 * q - (intOf i).toNat)
        case atStart => exact ⟨0, Nat.zero_le _, rfl, hown4, hfar, hblk, hb4⟩
        case round =>
          clear hblk hb4 hown4 hfar
          obtain ⟨s, hs', rfl, hown, hfar, hblk, hbi⟩ := hrel
          by_cases hlt2 : s < 3 * q
          · have HE := Lib.hid (HST.out s hlt2)
            have d0 : wr.cell? ⟨g, 0, none⟩ = some (.int .i64 h0) := hblk.cell 0
            have hzi := hbi.size
            have hgl : g < wr.heap.size := hblk.lt
            obtain ⟨x, hx⟩ : ∃ x, mixL [h0, (s : Int)] = x := ⟨_, rfl⟩
            rw [hx] at HE
            have HX := Lib.hid hx
            clear hx
            have hlen := HLEN.out k s (by rw [HM.out]; omega) (by omega)
            obtain ⟨ln, hln⟩ : ∃ ln, (ringS us k s).length = ln := ⟨_, rfl⟩
            rw [hln] at hlen hown
            have HLN := Lib.hid hln
            clear hln
            go_wp2
            obtain ⟨L, hL⟩ : ∃ L : List (Nat × VT), L = [(3, tLit (u3)), (5, tLit (.pointer (some ⟨g, 0, none⟩))), (6, tLit (.int .i64 ((s : Int)))), (23, tLit (u3)), (24, tLit (.pointer (some ⟨g, 0, none⟩))), (25, tLit (.int .i64 (h0))), (26, tLit (.int .i64 ((s : Int)))), (27, tRowN wr.drew.heap.size 3 2 #[.int .i64 h0, .int .i64 (s : Int)]), (28, tLit (.int .i64 (x))), (29, tLit (.pointer (some ⟨g, 0, none⟩))), (30, tLit (.int .i64 (h0))), (31, tLit (.agg #[.int .i64 (x), .int .i64 (h0)])), (32, tRowN wr.drew.heap.size 75 1 #[.int .i64 (x), .int .i64 (h0)])] := ⟨_, rfl⟩
            have V3 : L.lookup 3 = some (tLit (u3)) := by rw [hL]; rfl
            have V5 : L.lookup 5 = some (tLit (.pointer (some ⟨g, 0, none⟩))) := by rw [hL]; rfl
            have V6 : L.lookup 6 = some (tLit (.int .i64 ((s : Int)))) := by rw [hL]; rfl
            have V23 : L.lookup 23 = some (tLit (u3)) := by rw [hL]; rfl
            have V24 : L.lookup 24 = some (tLit (.pointer (some ⟨g, 0, none⟩))) := by rw [hL]; rfl
            have V25 : L.lookup 25 = some (tLit (.int .i64 (h0))) := by rw [hL]; rfl
            have V26 : L.lookup 26 = some (tLit (.int .i64 ((s : Int)))) := by rw [hL]; rfl
            have V27 : L.lookup 27 = some (tRowN wr.drew.heap.size 3 2 #[.int .i64 h0, .int .i64 (s : Int)]) := by rw [hL]; rfl
            have V28 : L.lookup 28 = some (tLit (.int .i64 (x))) := by rw [hL]; rfl
            have V29 : L.lookup 29 = some (tLit (.pointer (some ⟨g, 0, none⟩))) := by rw [hL]; rfl
            have V30 : L.lookup 30 = some (tLit (.int .i64 (h0))) := by rw [hL]; rfl
            have V31 : L.lookup 31 = some (tLit (.agg #[.int .i64 (x), .int .i64 (h0)])) := by rw [hL]; rfl
            have V32 : L.lookup 32 = some (tRowN wr.drew.heap.size 75 1 #[.int .i64 (x), .int .i64 (h0)]) := by rw [hL]; rfl
            have HK : KeepL L := by rw [hL]; exact ⟨keep_lit _, keep_lit _, keep_lit _, keep_lit _, keep_lit _, keep_lit _, keep_lit _, keep_rowN, keep_lit _, keep_lit _, keep_lit _, keep_lit _, keep_rowN, trivial⟩
            refine wp_region_mix (by kernel_rfl) L 10 12 rfl [some 23, some 24, some 25, some 26, some 27, some 28, some 29, some 30, some 31, some 32] (by kernel_rfl) (by kernel_rfl) (by kernel_rfl) 3 (by rw [hL]; intro x hx; simp only [List.take_succ_cons, List.take_zero, List.mem_cons, List.not_mem_nil, or_false] at hx; rcases hx with rfl | rfl | rfl <;> rfl) (by rw [hL]; rfl) ?_ ?_
            · clear hL
              exact ⟨m_move HK gokm_none (om_tmp V3) V23,
                m_field HK gokm_none (f := 0) (s := 1) (by kernel_rfl) (by omega) (om_tmp V5) rfl V24,
                m_load1 HK gokm_none (by kernel_rfl) (om_tmp V24) d0 V25,
                m_move HK gokm_none (om_tmp V6) V26,
                m_row2 HK gokm_none Try.underlying40 hj0 hjz rfl hj1 (Nat.le_refl _) (om_tmp V25) (om_tmp V26) V27,
                m_call HK gokm_none Try.func70 (by kernel_rfl) (by kernel_rfl) V28 (fun o b w hm hG ho => by
                  obtain ⟨q1, e1, q2, q3⟩ := (om_tmp V27) o b w (hm _ (by simp)) ho
                  rw [show (#[.tmp 27] : Array Operand).map b.eval = #[.slice (some ⟨q1, 0, none⟩) 2 2] from by simp [e1]]
                  exact (mix_any _ 2 2 [h0, (s : Int)] _ (q3.sl (size := 1) rfl) (by omega)).mono fun e w' h => ⟨_, h.1, by rw [← h.2]; exact GrF.refl _ _, by rw [HX.out]; rfl⟩),
                m_field HK gokm_none (f := 0) (s := 1) (by kernel_rfl) (by omega) (om_tmp V5) rfl V29,
                m_load1 HK gokm_none (by kernel_rfl) (om_tmp V29) d0 V30,
                m_build HK gokm_none V31 (fun o b w hm ho => by
                  have ea : b.eval (.tmp 28) = .int .i64 (x) := (om_tmp V28) o b w (hm (0, .tmp 28) (by simp)) ho
                  have em : b.eval (.tmp 30) = .int .i64 (h0) := (om_tmp V30) o b w (hm (1, .tmp 30) (by simp)) ho
                  exact ⟨#[.int .i64 (x), .int .i64 (h0)], by simp only [List.map_cons, List.map_nil, ea, em]; kernel_rfl, rfl⟩),
                m_rowS HK gokm_none Try.underlying55 hi0 hz0 rfl hz1 (Nat.le_refl _) (om_tmp V31) V32,
                trivial⟩
            intro vs w5 hw5 hk5
            have k23 : vs 23 = u3 := hk5 0 23 _ (by omega) rfl V23
            have k24 : vs 24 = .pointer (some ⟨g, 0, none⟩) := hk5 1 24 _ (by omega) rfl V24
            have k25 : vs 25 = .int .i64 (h0) := hk5 2 25 _ (by omega) rfl V25
            have k26 : vs 26 = .int .i64 ((s : Int)) := hk5 3 26 _ (by omega) rfl V26
            have k27 := hk5 4 27 _ (by omega) rfl V27
            have k28 : vs 28 = .int .i64 (x) := hk5 5 28 _ (by omega) rfl V28
            have k29 : vs 29 = .pointer (some ⟨g, 0, none⟩) := hk5 6 29 _ (by omega) rfl V29
            have k30 : vs 30 = .int .i64 (h0) := hk5 7 30 _ (by omega) rfl V30
            have k31 : vs 31 = .agg #[.int .i64 (x), .int .i64 (h0)] := hk5 8 31 _ (by omega) rfl V31
            have k32 := hk5 9 32 _ (by omega) rfl V32
            clear hk5 HK hL V3 V5 V6 V23 V24 V25 V26 V27 V28 V29 V30 V31 V32
            simp only [putL, Act.put, List.setIfInBounds_toArray, List.set_cons_zero, List.set_cons_succ, k23, k24, k25, k26, k28, k29, k30, k31]
            simp only [List.drop_succ_cons, List.drop_zero]
            clear k23 k24 k25 k26 k28 k29 k30 k31 k27
            obtain ⟨q1, k32, hq1B, hq1b⟩ := k32
            rw [k32]
            clear k32
            have hown5 : w5.ownsRow w2.heap.size 75 2 u3 ln (ptsV (ringS us k s)) := New.own hw5 hown
            have hb5 : Below w2.heap.size w2 w5 := New.below hw5 hbi hbi.size
            have hblk5 := New.blk hw5 hblk
            have hg5 : g < w5.heap.size := hblk5.lt
            go_wp2_with (at_builtin; (refine wpList_append_sl _ rfl _ _ 55 rfl w2.heap.size 75 i0 _ 2 16 Try.underlying55 hi0 hz0 hz1 hz2 rfl (by decide) _ ln _ (by rfl) hown5 _ _ (some ⟨q1, 0, none⟩) 1 1 [.int .i64 x, .int .i64 h0] rfl (hq1b.sl (size := 2) rfl) (by intro u hu; simp at hu; rcases hu with rfl | rfl <;> rfl) (by unfold maxLen; omega) (by omega) (hb5.size) ?_; intro v' w6 hown6 hg6 hat6))
            have hb6 := below_append hb5 hown5 hg6
            have hne : some g ≠ u3.ownBlock := fun e => hfar g e.symm rfl
            have hblk6 := hblk5.grown hg6 hne
            have hfar6 : ∀ gg, v'.ownBlock = some gg → gg ≠ g := fun gg h e => by
              rcases hat6 with h' | h'
              · rw [h'] at h; exact hfar gg h e
              · rw [h'] at h; injection h with h; omega
            clear hat6
            go_roundw
            case rel => exact ⟨s + 1, by omega, by go_num, by rw [HE.out, List.length_append, HLN.out, ptsV_snoc]; exact hown6, hfar6, hblk6, hb6⟩
            case measure => simp [intOf]; omega
          · obtain rfl : s = 3 * q := by omega
            rw [HN.out] at hown
            go_wp2
            go_roundw
            case rel => exact ⟨k + 1, by omega, by go_num, hown, hbi⟩
            case measure => simp [intOf]; omega
      · obtain rfl : m = k := by omega
        have hlen := HLEN.out m 0 (by rw [HM.out]; omega) (by omega)
        obtain ⟨r, hr⟩ : ∃ r, ringS us m 0 = r := ⟨_, rfl⟩
        rw [hr] at hown hlen
        have HRR := Lib.hid hr
        clear hr
        obtain ⟨ln, hln⟩ : ∃ ln, r.length = ln := ⟨_, rfl⟩
        rw [hln] at hown hlen
        have HLN := Lib.hid hln
        by_cases h0 : ln = 0
        · subst h0
          have hr0 : r = [] := List.eq_nil_of_length_eq_zero hln
          subst hr0
          clear hln
          obtain ⟨A3, c3, rfl, _, _⟩ := own_is_slice hown
          have HSR : RowKit.Hid (sortP [] = []) := Lib.hid (by unfold sortP; simp)
          have hcon := AnyF.slices_SortFunc_none (P := Try.prog) (ρ := sortPt_ren) { sortPt with } A3 c3 (.func (.func 72) #[] #[]) wr
          change Calls Try.prog 71 _ _ _ at hcon
          go_wp2_with (go_at_call 71; refine hcon.mono ?_; rintro e w6 ⟨rfl, rfl⟩)
          go_ret
          rw [HRR.out, HSR.out]
          exact RetOwn.older hown hb hbb
        · obtain ⟨g, c3, rfl, _, _, _⟩ := own_slice hown (by omega)
          clear hln
          have hcon := sort_any _ g ln c3 r wr hown (by omega)
          go_wp2_with (go_at_call 71; refine hcon.mono ?_; rintro e w6 ⟨rfl, hown6, hg6⟩)
          go_ret
          rw [HRR.out, HLN.out]
          exact RetOwn.older hown6 (below_append hb hown hg6) hbb
  · have hv' := Bool.eq_false_iff.2 hv
    have HV : RowKit.Hid (ringO hs = []) := Lib.hid (by unfold ringO; rw [if_neg hv])
    rw [HV.out]
    clear hv
    go_enter Try.func48, Try.ntmps48
    go_wp2_with (go_at_call 19; refine (iPoolValid_any _ _ _ hs _ hS hhi hn).mono ?_; rw [hv']; rintro e w1 ⟨rfl, hb1⟩)
    go_ret
    exact RetOwn.mk (World.ownsRow_nil _ _ _ _) hb1
end Go.Proofs.Ytfobcggcilbgbaa
