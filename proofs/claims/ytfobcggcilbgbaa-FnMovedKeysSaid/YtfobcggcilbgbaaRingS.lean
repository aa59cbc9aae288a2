/-
  RingOf of the reference.
-/
import Derived.Test.YtfobcggcilbgbaaRingSL
import Derived.Deep.RegionHeldLaw
namespace Go.Proofs.Ytfobcggcilbgbaa
open Go.RowKit
set_option linter.unusedVariables false

theorem drewN_drewN (w : World) (a b : Nat) : (w.drewN a).drewN b = w.drewN (a + b) := by simp [World.drewN, Nat.add_assoc]
theorem wp_gen2 {P : Program} {c : Code} {Q : Exit → Act → World → Prop} {a : Act} {w : World} (F : World → Prop) (hF : F w) (h : ∀ w', F w' → c.wp P Q a w') : c.wp P Q a w := h w hF
theorem pt_one (l : List Pt2) : ∀ u ∈ ptsV l, u.oneCell' = true := by
  induction l with
  | nil => intro u hu; cases hu
  | cons x r ih =>
    intro u hu
    rcases List.mem_append.1 (show u ∈ ptC x ++ ptsV r from hu) with h | h
    · simp [ptC] at h; rcases h with rfl | rfl <;> rfl
    · exact ih u h

set_option maxRecDepth 100000 in
set_option maxHeartbeats 6400000 in
theorem sRingOf_any (A : Option Addr) (n c : Nat) (hs : List H3) (w : World) {lo hi : Nat} (hS : Sl w lo hi 3 A n (hostsV hs)) (hhi : hi ≤ w.heap.size) (hn : n ≤ 1048576) :
    Calls Try.prog 39 #[.slice A n c] w (RetOwn w 75 2 (ringO hs).length (ptsV (ringO hs))) := by
  have HL := Lib.hid hS.hlen
  obtain ⟨i0, hi0, hz0, hz1, hz2⟩ := info_parts infoPt
  obtain ⟨j0, hj0, hjz, hj1, hj2⟩ := info_parts infoInt
  have hlit := World.ownsRow_lit (base := w.heap.size) (e := 75) (size := 2) w #[] 0 (Nat.le_refl _) (by unfold maxLen; omega) (by simp)
  have hb0 := (Below.refl w.heap.size w).alloc (Nat.le_refl _) (.cells #[] 75)
  by_cases hv : poolV hs = true
  · have hn6 : n ≤ 6 := by have := pool_len hv; rw [HL.out] at this; exact this
    have HW := Lib.hid (pool_mem hv)
    have HR : RowKit.Hid (ringO hs = sortP (pts (hs.take n))) := Lib.hid (by unfold ringO; rw [if_pos hv, ← HL.out, List.take_length])
    have HPL := Lib.hid (fun k h => pts_len (hs := hs) (fun x hx => (pool_mem hv x hx).2.1.2) k h)
    have HDL := Lib.hid (fun k t h => ringD_len (hs := hs) (fun x hx => (pool_mem hv x hx).2.1.2) (k := k) (t := t) h)
    rw [HR.out]
    go_enter Try.func39, Try.ntmps39
    go_wp2
    generalize w.alloc (.cells #[] 75) = w0 at hlit hb0 ⊢
    go_loopw [3, 4] (fun o i wr => ∃ (k g cc : Nat), k ≤ n ∧ i = .int .i64 k ∧ o = .slice (some ⟨g, 0, none⟩) (sortP (pts (hs.take k))).length cc ∧ wr.ownsRow w.heap.size 75 2 (.slice (some ⟨g, 0, none⟩) (sortP (pts (hs.take k))).length cc) (sortP (pts (hs.take k))).length (ptsV (sortP (pts (hs.take k)))) ∧ Below w.heap.size w wr) (fun _ i _ => n - (intOf i).toNat)
    case atStart =>
      have hp0 : sortP (pts (hs.take 0)) = [] := by simp [pts, upL, sortP]
      exact ⟨0, w.heap.size, 0, Nat.zero_le _, rfl, by rw [hp0]; rfl, by rw [hp0]; exact hlit, hb0⟩
    case round =>
      clear hlit hb0
      obtain ⟨k, g0, cc, hk, rfl, rfl, hown, hb⟩ := hrel
      by_cases hlt : k < n
      · have hlk : k < hs.length := by rw [HL.out]; exact hlt
        have hz := hb.size
        have hSr := hS.below hb hhi
        have hhi' := Nat.le_trans hhi hz
        have HU := Lib.hid (@ringD_up hs k hlk)
        have HN := Lib.hid (@pts_no hs k hlk)
        have HST := Lib.hid (ringD_step hs k)
        have HZ := Lib.hid (ringD_zero hs k)
        have hbw := HW.out _ (hAt_mem hlk)
        obtain ⟨⟨h0, h1, h2⟩, hh⟩ : ∃ p, hAt hs k = p := ⟨_, rfl⟩
        rw [hh] at HU HN HST hbw
        simp only at hbw
        have HH := Lib.hid hh
        clear hh
        obtain ⟨q, rfl⟩ : ∃ q : Nat, h1 = (q : Int) := ⟨h1.toNat, by omega⟩
        have hq5 : q ≤ 5 := by omega
        have hq1 : 1 ≤ q := by omega
        have e3q : (3 * (q : Int)).toNat = 3 * q := by omega
        simp only [e3q] at HU HST
        clear e3q
        by_cases hu : h2 = 1
        · subst hu
          have HU1 := Lib.hid (HU.out rfl)
          go_upto_region 6 with (go_at_call 35; refine (sPoolValid_any _ _ _ hs _ hSr hhi' hn).mono ?_; rw [hv]; rintro e w1 ⟨rfl, hb1⟩)
          have hown1 := own_below hown hb1
          have hbb := hb.trans (hb1.mono hz)
          obtain ⟨b, off, rfl, hb0, hbh, c0, c1, c2⟩ := (hSr.below hb1 hhi').host hlt
          rw [HH.out] at c0 c1 c2
          simp only at c0 c1 c2
          have h3q : (0 : Int) < 3 * (q : Int) := by omega
          have hbz : b < w.heap.size := by omega
          clear hb hb1 hSr hhi' hz hown
          obtain ⟨wo, rfl⟩ : ∃ wo : World, wo = wr := ⟨_, rfl⟩
          go_loopw [3, 5] (fun o i wr => ∃ (s g cc : Nat), s ≤ 3 * q ∧ i = .int .i64 s ∧ o = .slice (some ⟨g, 0, none⟩) (sortP (ringD hs k s)).length cc ∧ wr.ownsRow w.heap.size 75 2 (.slice (some ⟨g, 0, none⟩) (sortP (ringD hs k s)).length cc) (sortP (ringD hs k s)).length (ptsV (sortP (ringD hs k s))) ∧ Below w.heap.size w wr) (fun _ i _ => 3 * q - (intOf i).toNat)
          case atStart => exact ⟨0, g0, cc, Nat.zero_le _, rfl, by rw [HZ.out], by rw [HZ.out]; exact hown1, hbb⟩
          case round =>
            clear hown1
            obtain ⟨s, g, cc, hs', rfl, rfl, hown, hbi⟩ := hrel
            have hzi := hbi.size
            have hzb1 := hbb.size
            have hgl : b < wr.heap.size := by omega
            obtain ⟨_, _, eA, _, _, c0', c1', c2'⟩ := (hS.below hbi hhi).host hlt
            cases eA
            rw [HH.out] at c0' c1' c2'
            simp only at c0' c1' c2'
            have hlen := HDL.out k s (by omega)
            rw [← sortP_len] at hlen
            obtain ⟨r, hr⟩ : ∃ r, sortP (ringD hs k s) = r := ⟨_, rfl⟩
            obtain ⟨ln, hln⟩ : ∃ ln, r.length = ln := ⟨_, rfl⟩
            rw [hr, hln] at hown hlen
            rw [hr, hln]
            have HRR := Lib.hid hr
            have HLN := Lib.hid hln
            clear hr hln
            by_cases hlt2 : s < 3 * q
            · have hlt3 : (s : Int) < 3 * (q : Int) := by omega
              have HE := Lib.hid (HST.out s hlt2)
              obtain ⟨x, hx⟩ : ∃ x, mixL [h0, (s : Int)] = x := ⟨_, rfl⟩
              rw [hx] at HE
              have HX := Lib.hid hx
              have hki : (0 : Int) ≤ (k : Int) := by omega
              have hki2 : (k : Int) < (n : Int) := by omega
              clear hx
              have c0 := c0'
              go_wp2
              obtain ⟨L, hL⟩ : ∃ L : List (Nat × VT), L = [(0, tLit (.slice (some ⟨b, off, none⟩) (n) (c))), (4, tLit (.int .i64 ((k : Int)))), (5, tLit (.int .i64 ((s : Int)))), (37, tLit (.slice (some ⟨b, off, none⟩) (n) (c))), (38, tLit (.int .i64 ((k : Int)))), (39, tLit (.pointer (some ⟨b, off + k * 3, none⟩))), (40, tLit (.pointer (some ⟨b, off + k * 3, none⟩))), (41, tLit (.int .i64 (h0))), (42, tLit (.int .i64 ((s : Int)))), (43, tRowN wr.drew.heap.size 3 2 #[.int .i64 h0, .int .i64 (s : Int)]), (44, tLit (.int .i64 (x))), (45, tLit (.slice (some ⟨b, off, none⟩) (n) (c))), (46, tLit (.int .i64 ((k : Int)))), (47, tLit (.pointer (some ⟨b, off + k * 3, none⟩))), (48, tLit (.pointer (some ⟨b, off + k * 3, none⟩))), (49, tLit (.int .i64 (h0))), (50, tLit (.agg #[.int .i64 (x), .int .i64 (h0)])), (6, tBlk wr.drew.heap.size 75 #[.int .i64 0, .int .i64 0])] := ⟨_, rfl⟩
              have V0 : L.lookup 0 = some (tLit (.slice (some ⟨b, off, none⟩) (n) (c))) := by rw [hL]; rfl
              have V4 : L.lookup 4 = some (tLit (.int .i64 ((k : Int)))) := by rw [hL]; rfl
              have V5 : L.lookup 5 = some (tLit (.int .i64 ((s : Int)))) := by rw [hL]; rfl
              have V37 : L.lookup 37 = some (tLit (.slice (some ⟨b, off, none⟩) (n) (c))) := by rw [hL]; rfl
              have V38 : L.lookup 38 = some (tLit (.int .i64 ((k : Int)))) := by rw [hL]; rfl
              have V39 : L.lookup 39 = some (tLit (.pointer (some ⟨b, off + k * 3, none⟩))) := by rw [hL]; rfl
              have V40 : L.lookup 40 = some (tLit (.pointer (some ⟨b, off + k * 3, none⟩))) := by rw [hL]; rfl
              have V41 : L.lookup 41 = some (tLit (.int .i64 (h0))) := by rw [hL]; rfl
              have V42 : L.lookup 42 = some (tLit (.int .i64 ((s : Int)))) := by rw [hL]; rfl
              have V43 : L.lookup 43 = some (tRowN wr.drew.heap.size 3 2 #[.int .i64 h0, .int .i64 (s : Int)]) := by rw [hL]; rfl
              have V44 : L.lookup 44 = some (tLit (.int .i64 (x))) := by rw [hL]; rfl
              have V45 : L.lookup 45 = some (tLit (.slice (some ⟨b, off, none⟩) (n) (c))) := by rw [hL]; rfl
              have V46 : L.lookup 46 = some (tLit (.int .i64 ((k : Int)))) := by rw [hL]; rfl
              have V47 : L.lookup 47 = some (tLit (.pointer (some ⟨b, off + k * 3, none⟩))) := by rw [hL]; rfl
              have V48 : L.lookup 48 = some (tLit (.pointer (some ⟨b, off + k * 3, none⟩))) := by rw [hL]; rfl
              have V49 : L.lookup 49 = some (tLit (.int .i64 (h0))) := by rw [hL]; rfl
              have V50 : L.lookup 50 = some (tLit (.agg #[.int .i64 (x), .int .i64 (h0)])) := by rw [hL]; rfl
              have V6 : L.lookup 6 = some (tBlk wr.drew.heap.size 75 #[.int .i64 0, .int .i64 0]) := by rw [hL]; rfl
              have HK : KeepL L := by rw [hL]; exact ⟨keep_lit _, keep_lit _, keep_lit _, keep_lit _, keep_lit _, keep_lit _, keep_lit _, keep_lit _, keep_lit _, keep_rowN, keep_lit _, keep_lit _, keep_lit _, keep_lit _, keep_lit _, keep_lit _, keep_lit _, keep_blk, trivial⟩
              refine wp_region_mix (by kernel_rfl) L 15 16 rfl [some 37, some 38, some 39, some 40, some 41, some 42, some 43, some 44, some 45, some 46, some 47, some 48, some 49, some 50, some 6] (by kernel_rfl) (by kernel_rfl) (by kernel_rfl) 3 (by rw [hL]; intro x hx; simp only [List.take_succ_cons, List.take_zero, List.mem_cons, List.not_mem_nil, or_false] at hx; rcases hx with rfl | rfl | rfl <;> rfl) (by rw [hL]; rfl) ?_ ?_
              · clear hL
                exact ⟨m_move HK gokm_none (om_tmp V0) V37,
                  m_move HK gokm_none (om_tmp V4) V38,
                  m_index HK gokm_none (s := 3) (by kernel_rfl) (by omega) (by omega) (om_tmp V37) (om_tmp V38) (by simp) V39,
                  m_field HK gokm_none (f := 0) (s := 1) (by kernel_rfl) (by omega) (om_tmp V39) rfl V40,
                  m_load1 HK gokm_none (by kernel_rfl) (om_tmp V40) c0 V41,
                  m_move HK gokm_none (om_tmp V5) V42,
                  m_row2 HK gokm_none Try.underlying40 hj0 hjz rfl hj1 (Nat.le_refl _) (om_tmp V41) (om_tmp V42) V43,
                  m_call HK gokm_none Try.func65 (by kernel_rfl) (by kernel_rfl) V44 (fun o b w hm hG ho => by
                    obtain ⟨q1, e1, q2, q3⟩ := (om_tmp V43) o b w (hm _ (by simp)) ho
                    rw [show (#[.tmp 43] : Array Operand).map b.eval = #[.slice (some ⟨q1, 0, none⟩) 2 2] from by simp [e1]]
                    exact (sMix_any _ 2 2 [h0, (s : Int)] _ (q3.sl (size := 1) rfl) (by omega)).mono fun e w' h => ⟨_, h.1, by rw [← h.2]; exact GrF.refl _ _, by rw [HX.out]; rfl⟩),
                  m_move HK gokm_none (om_tmp V0) V45,
                  m_move HK gokm_none (om_tmp V4) V46,
                  m_index HK gokm_none (s := 3) (by kernel_rfl) (by omega) (by omega) (om_tmp V45) (om_tmp V46) (by simp) V47,
                  m_field HK gokm_none (f := 0) (s := 1) (by kernel_rfl) (by omega) (om_tmp V47) rfl V48,
                  m_load1 HK gokm_none (by kernel_rfl) (om_tmp V48) c0 V49,
                  m_build HK gokm_none V50 (fun o b w hm ho => by
                    have ea : b.eval (.tmp 44) = .int .i64 (x) := (om_tmp V44) o b w (hm (0, .tmp 44) (by simp)) ho
                    have em : b.eval (.tmp 49) = .int .i64 (h0) := (om_tmp V49) o b w (hm (1, .tmp 49) (by simp)) ho
                    exact ⟨#[.int .i64 (x), .int .i64 (h0)], by simp only [List.map_cons, List.map_nil, ea, em]; kernel_rfl, rfl⟩),
                  m_alloc HK gokm_none hi0 hz0 rfl (Nat.le_refl _) V6,
                  trivial⟩
              intro vs w5 hw5 hk5
              have k37 : vs 37 = .slice (some ⟨b, off, none⟩) (n) (c) := hk5 0 37 _ (by omega) rfl V37
              have k38 : vs 38 = .int .i64 ((k : Int)) := hk5 1 38 _ (by omega) rfl V38
              have k39 : vs 39 = .pointer (some ⟨b, off + k * 3, none⟩) := hk5 2 39 _ (by omega) rfl V39
              have k40 : vs 40 = .pointer (some ⟨b, off + k * 3, none⟩) := hk5 3 40 _ (by omega) rfl V40
              have k41 : vs 41 = .int .i64 (h0) := hk5 4 41 _ (by omega) rfl V41
              have k42 : vs 42 = .int .i64 ((s : Int)) := hk5 5 42 _ (by omega) rfl V42
              have k43 := hk5 6 43 _ (by omega) rfl V43
              have k44 : vs 44 = .int .i64 (x) := hk5 7 44 _ (by omega) rfl V44
              have k45 : vs 45 = .slice (some ⟨b, off, none⟩) (n) (c) := hk5 8 45 _ (by omega) rfl V45
              have k46 : vs 46 = .int .i64 ((k : Int)) := hk5 9 46 _ (by omega) rfl V46
              have k47 : vs 47 = .pointer (some ⟨b, off + k * 3, none⟩) := hk5 10 47 _ (by omega) rfl V47
              have k48 : vs 48 = .pointer (some ⟨b, off + k * 3, none⟩) := hk5 11 48 _ (by omega) rfl V48
              have k49 : vs 49 = .int .i64 (h0) := hk5 12 49 _ (by omega) rfl V49
              have k50 : vs 50 = .agg #[.int .i64 (x), .int .i64 (h0)] := hk5 13 50 _ (by omega) rfl V50
              have k6 := hk5 14 6 _ (by omega) rfl V6
              clear hk5 HK hL V0 V4 V5 V37 V38 V39 V40 V41 V42 V43 V44 V45 V46 V47 V48 V49 V50 V6
              simp only [putL, Act.put, List.setIfInBounds_toArray, List.set_cons_zero, List.set_cons_succ, k37, k38, k39, k40, k41, k42, k44, k45, k46, k47, k48, k49, k50]
              simp only [List.drop_succ_cons, List.drop_zero]
              clear k37 k38 k39 k40 k41 k42 k44 k45 k46 k47 k48 k49 k50 k43
              obtain ⟨bx, k6, hbx, hbxb⟩ := k6
              rw [k6]
              clear k6 c0 c0' c1' c2'
              have hown5 := New.own hw5 hown
              have hb5 := New.below hw5 hbi hbi.size
              have hgw : g < wr.heap.size := (hown.lt g rfl).2
              have hbxr : wr.heap.size ≤ bx := hbx
              obtain ⟨e0, e1, ef⟩ := hbxb.two
              go_upto_block 4 with fail
              generalize hw6 : (w5.setCell ⟨bx, 0, none⟩ (.int .i64 x)).setCell ⟨bx, 1, none⟩ (.int .i64 h0) = w6
              have hgb : g ≠ bx := by omega
              have hbxg : bx ≠ g := by omega
              have hblk : Blk w6 bx 75 #[.int .i64 x, .int .i64 h0] := by rw [← hw6]; exact (hbxb.set_ 0 (.int .i64 x)).set_ 1 (.int .i64 h0)
              have hown6 : w6.ownsRow w.heap.size 75 2 (.slice (some ⟨g, 0, none⟩) ln cc) ln (ptsV r) := by
                rw [← hw6]
                have g1 := only_setCell (only_setCell (World.grownBy.refl w5 (some bx)) (p := ⟨bx, 0, none⟩) (.inl rfl) (.int .i64 x)) (p := ⟨bx, 1, none⟩) (.inl rfl) (.int .i64 h0)
                exact hown5.kept g1 (.inr (by simp [Value.ownBlock]; omega))
              have hb6 : Below w.heap.size w w6 := by rw [← hw6]; exact (hb5.setCell (p := ⟨bx, 0, none⟩) (by show w.heap.size ≤ bx; omega) _).setCell (p := ⟨bx, 1, none⟩) (by show w.heap.size ≤ bx; omega) _
              obtain ⟨_, ccx, ecc, hlcc, hccm⟩ := own_is_slice hown6
              cases ecc
              clear hw6 e0 e1 ef hown5 hb5 hbxb
              have HSR : RowKit.Hid (∀ a, a ≤ ln → (∀ j, a ≤ j → j < ln → ptLe (x, h0) (ptAt r j)) → (0 < a → ptLe (ptAt r (a - 1)) (x, h0)) → r.take a ++ [(x, h0)] ++ r.drop a = sortP (ringD hs k (s + 1))) := Lib.hid fun a h1 h2 h3 => by
                have := put_is (l := ringD hs k s) (x := (x, h0)) (a := a)
                rw [HRR.out, HLN.out] at this
                rw [HE.out]
                exact this h1 h2 h3
              obtain ⟨wp, rfl⟩ : ∃ wp : World, wp = wr := ⟨_, rfl⟩
              go_cut [7] from 53 to 89 (fun ai wx => ∃ a : Nat, a ≤ ln ∧ ai = .int .i64 a ∧ (r.take a ++ [(x, h0)] ++ r.drop a = sortP (ringD hs k (s + 1))) ∧ ∃ nq, wx = w6.drewN nq)
              case first =>
                go_wp2_with fail
                go_loopw [7] (fun ai wr => ∃ a : Nat, a ≤ ln ∧ ai = .int .i64 a ∧ (∀ j, a ≤ j → j < ln → ptLe (x, h0) (ptAt r j)) ∧ ∃ nq, wr = w6.drewN nq) (fun ai _ => (intOf ai).toNat)
                case atStart => exact ⟨ln, Nat.le_refl _, rfl, fun j h1 h2 => absurd h2 (by omega), 0, rfl⟩
                case round =>
                  obtain ⟨a, ha, rfl, hgt, nq, hwq⟩ := hrel
                  have hownQ : wr.ownsRow w.heap.size 75 2 (.slice (some ⟨g, 0, none⟩) ln cc) ln (ptsV r) := by rw [hwq]; exact hown6
                  have hblkQ : Blk wr bx 75 #[.int .i64 x, .int .i64 h0] := by rw [hwq]; exact hblk
                  have hbQ : Below w.heap.size w wr := by rw [hwq]; exact below_drewN hb6 nq
                  have HQ := Lib.hid hwq
                  have HGT := Lib.hid hgt
                  clear hwq hgt hblk hown6
                  obtain ⟨e0, e1, ef⟩ := hblkQ.two
                  by_cases ha0 : 0 < a
                  · have hcl : ∀ j, j < 2 → (ptsV r)[(a - 1) * 2 + j]? = (ptC (ptAt r (a - 1)))[j]? := fun j hj => by rw [ptAt_eq (by rw [HLN.out]; omega)]; exact recV_at ptC_len r (a - 1) j (by rw [HLN.out]; omega) hj
                    have d0 := (hownQ.cellAt ((a - 1) * 2) (by omega)).trans (hcl 0 (by omega))
                    have d1 := (hownQ.cellAt ((a - 1) * 2 + 1) (by omega)).trans (hcl 1 (by omega))
                    obtain ⟨⟨y0, y1⟩, hy⟩ : ∃ p, ptAt r (a - 1) = p := ⟨_, rfl⟩
                    rw [hy] at d0 d1
                    have HY := Lib.hid hy
                    simp only [ptC, List.getElem?_cons_zero, List.getElem?_cons_succ] at d0 d1
                    clear hcl hy
                    have p0 : decide ((0 : Int) < (a : Int)) = true := by simp; omega
                    have ha1 : (0 : Int) ≤ (a : Int) - 1 := by omega
                    have ha2 : (a : Int) - 1 < (ln : Int) := by omega
                    have ha3 : (1 : Int) ≤ (a : Int) := by omega
                    have ha4 : ¬ (ln : Int) ≤ (a : Int) - 1 := by omega
                    have ha5 : a - 1 < ln := by omega
                    by_cases q1 : x < y0
                    · have p1 : decide (x < y0) = true := by simpa using q1
                      have w1' : IntKind.i64.wrap ((a : Int) - 1) = (a : Int) - 1 := IntWalk.i64_in _ (by omega)
                      have w2' : ((a : Int) - 1).toNat = a - 1 := by omega
                      go_wp2
                      go_quiet (fail)
                      clear w1' w2'
                      go_wp2
                      go_roundw
                      case rel => exact ⟨a - 1, by omega, by go_num, fun j h1 h2 => by
                        rcases Nat.lt_or_ge j a with h | h
                        · obtain rfl : j = a - 1 := by omega
                          rw [HY.out]; unfold ptLe; omega
                        · exact HGT.out j h h2, by rw [HQ.out]; exact ⟨_, drewN_drewN _ _ _⟩⟩
                      case measure => simp [intOf]; omega
                    · have p1 : decide (x < y0) = false := by simpa using q1
                      by_cases q2 : y0 = x
                      · subst q2
                        by_cases q3 : h0 < y1
                        · have p3 : decide (h0 < y1) = true := by simpa using q3
                          have w1' : IntKind.i64.wrap ((a : Int) - 1) = (a : Int) - 1 := IntWalk.i64_in _ (by omega)
                          have w2' : ((a : Int) - 1).toNat = a - 1 := by omega
                          go_wp2
                          go_quiet (fail)
                          clear w1' w2'
                          go_wp2
                          go_roundw
                          case rel => exact ⟨a - 1, by omega, by go_num, fun j h1 h2 => by
                            rcases Nat.lt_or_ge j a with h | h
                            · obtain rfl : j = a - 1 := by omega
                              rw [HY.out]; unfold ptLe; omega
                            · exact HGT.out j h h2, by rw [HQ.out]; exact ⟨_, drewN_drewN _ _ _⟩⟩
                          case measure => simp [intOf]; omega
                        · have p3 : decide (h0 < y1) = false := by simpa using q3
                          have HP := Lib.hid (HSR.out a ha HGT.out (fun _ => by rw [HY.out]; unfold ptLe; omega))
                          have w1' : IntKind.i64.wrap ((a : Int) - 1) = (a : Int) - 1 := IntWalk.i64_in _ (by omega)
                          have w2' : ((a : Int) - 1).toNat = a - 1 := by omega
                          go_wp2
                          go_quiet (fail)
                          clear w1' w2'
                          go_wp2
                          go_meet
                          case rel => exact ⟨_, ha, rfl, HP.out, _, by rw [HQ.out]; first | rfl | exact drewN_drewN _ _ _⟩
                      · have p2 : (y0 == x) = false := by simpa using q2
                        have HP := Lib.hid (HSR.out a ha HGT.out (fun _ => by rw [HY.out]; unfold ptLe; omega))
                        have w1' : IntKind.i64.wrap ((a : Int) - 1) = (a : Int) - 1 := IntWalk.i64_in _ (by omega)
                        have w2' : ((a : Int) - 1).toNat = a - 1 := by omega
                        go_wp2
                        go_quiet (fail)
                        clear w1' w2'
                        go_wp2
                        go_meet
                        case rel => exact ⟨_, ha, rfl, HP.out, _, by rw [HQ.out]; first | rfl | exact drewN_drewN _ _ _⟩
                  · obtain rfl : a = 0 := by omega
                    have HP := Lib.hid (HSR.out 0 ha HGT.out (fun h => absurd h (by omega)))
                    go_wp2
                    go_quiet (fail)
                    go_wp2
                    go_meet
                    case rel => exact ⟨_, ha, rfl, HP.out, _, by rw [HQ.out]; first | rfl | exact drewN_drewN _ _ _⟩
              case rest =>
                obtain ⟨a, ha, rfl, hput, nq, hwq⟩ := hcut
                have HP := Lib.hid hput
                have hownQ : wc.ownsRow w.heap.size 75 2 (.slice (some ⟨g, 0, none⟩) ln cc) ln (ptsV r) := by rw [hwq]; exact hown6
                have hblkQ : Blk wc bx 75 #[.int .i64 x, .int .i64 h0] := by rw [hwq]; exact hblk
                have hbQ : Below w.heap.size w wc := by rw [hwq]; exact below_drewN hb6 nq
                clear hput hwq hown6 hblk hb6 HSR
                go_upto_region 12 with fail
                have HV := Lib.hid (pts_part HP.out)
                have HLS : RowKit.Hid ((sortP (ringD hs k (s + 1))).length = ln + 1) := Lib.hid (by rw [← HP.out]; have := HLN.out; simp; omega)
                refine wp_gen2 (fun WG => WG.ownsRow w.heap.size 75 2 (.slice (some ⟨g, 0, none⟩) ln cc) ln (ptsV r) ∧ Blk WG bx 75 #[.int .i64 x, .int .i64 h0] ∧ Below w.heap.size w WG ∧ g < WG.heap.size) ⟨hownQ, hblkQ, hbQ, (hownQ.lt g rfl).2⟩ ?_
                rintro WG ⟨hownG, hblkG, hbG, hgG⟩
                have hxG : bx < WG.heap.size := hblkG.lt
                clear hownQ hblkQ hbQ
                obtain ⟨e0, e1, _⟩ := hblkG.two
                have hacc : a ≤ cc := by omega
                have hownL : (ptsV r).length = ln * 2 := hownG.1
                have haln : (a : Int) ≤ (ln : Int) := by omega
                have hacI : (a : Int) ≤ (cc : Int) := by omega
                have haI : (0 : Int) ≤ (a : Int) := by omega
                have hlcI : (ln : Int) ≤ (cc : Int) := by omega
                have ownEc : ((WG.alloc (.cells #[.int .i64 x, .int .i64 h0] 75)).alloc (.cells #[] 75)).drew.ownsRow w.heap.size 75 2 (.slice (some ⟨WG.heap.size + 1, 0, none⟩) 0 0) 0 [] := by
                  have := (World.ownsRow_lit (base := w.heap.size) (e := 75) (size := 2) (WG.alloc (.cells #[.int .i64 x, .int .i64 h0] 75)) #[] 0 (by have := hbG.size; simp; omega) (by unfold maxLen; omega) (by simp)).drew
                  rwa [World.size_alloc] at this
                by_cases hca : cc = a
                · subst hca
                  have slD : ∀ W : World, W.ownsRow w.heap.size 75 2 (.slice (some ⟨g, 0, none⟩) ln cc) ln (ptsV r) → Sl W w.heap.size W.heap.size 2 (some ⟨g, 0, none⟩) (ln - cc) ((ptsV r).drop (cc * 2)) := fun W h => by
                    have := (Sl.of_own h).cut (k := cc) (cap := cc) ha hlcc
                    rw [if_pos rfl] at this
                    have hadd : (⟨g, 0, none⟩ : Addr).add (cc * 2) = ⟨g, cc * 2, none⟩ := by { unfold Addr.add; split <;> simp_all }
                    first | exact this | (rw [Option.map_some, hadd] at this; exact this)
                  go_region_held_law (fun w' => w'.cell? ⟨bx, 0, none⟩ = some (.int .i64 x) ∧ w'.cell? ⟨bx, 1, none⟩ = some (.int .i64 h0)) (first | go_keep | exact ks12 | exact ks13 | exact ks14) (first | (refine step_append_sl (o := ⟨some 94, _, _, _, _, _⟩) _ (by rfl) _ _ 55 (by rfl) w.heap.size 75 i0 _ 2 16 Try.underlying55 hi0 hz0 hz1 hz2 rfl (by decide) _ 0 _ (by rfl) (World.ownsRow_lit (base := w.heap.size) (e := 75) (size := 2) WG #[] 0 (by have := hbG.size; simp; try omega) (by unfold maxLen; omega) (by simp)).drew _ _ (some ⟨g, 0, none⟩) cc cc ((ptsV r).take (cc * 2)) (by rfl) ((Sl.of_own (hownG.alloc (.cells #[] 75)).drew).take ha) (fun u hu => pt_one r u (List.mem_of_mem_take hu)) (by unfold maxLen; omega) (by omega) (by have := hbG.size; have := hbG.size; simp; try omega) ?_; intro v12 w12 own12 g12 at12; have n12 : ∀ z, z < WG.heap.size → v12.ownBlock ≠ some z := fun z hz e => by { rcases at12 with h | h <;> rw [h] at e <;> (simp [Value.ownBlock] at e; omega) }; have hQ12 := ((hownG.alloc (.cells #[] 75)).drew).kept g12 (.inr (by simp [Value.ownBlock]; omega)); have kb12 := ((hblkG.alloc (.cells #[] 75)).drew).grown g12 (by simp [Value.ownBlock]; omega); have bl12 := below_append ((hbG.alloc hbG.size (.cells #[] 75)).drew) (World.ownsRow_lit (base := w.heap.size) (e := 75) (size := 2) WG #[] 0 (by have := hbG.size; simp; try omega) (by unfold maxLen; omega) (by simp)).drew g12; have ks12 : w12.cell? ⟨bx, 0, none⟩ = some (.int .i64 x) ∧ w12.cell? ⟨bx, 1, none⟩ = some (.int .i64 h0) := ⟨kb12.cell 0, kb12.cell 1⟩; have sz12 := g12.size; have kR : True := trivial) | (refine step_append_sl (o := ⟨some 94, _, _, _, _, _⟩) _ (by rfl) _ _ 55 (by rfl) w.heap.size 75 i0 _ 2 16 Try.underlying55 hi0 hz0 hz1 hz2 rfl (by decide) _ 0 _ (by rfl) ((World.ownsRow_lit (base := w.heap.size) (e := 75) (size := 2) WG #[] 0 (by have := hbG.size; simp; try omega) (by unfold maxLen; omega) (by simp)).alloc (.cells #[.int .i64 x, .int .i64 h0] 75)).drew _ _ (some ⟨g, 0, none⟩) cc cc ((ptsV r).take (cc * 2)) (by rfl) ((Sl.of_own ((hownG.alloc (.cells #[] 75)).alloc (.cells #[.int .i64 x, .int .i64 h0] 75)).drew).take ha) (fun u hu => pt_one r u (List.mem_of_mem_take hu)) (by unfold maxLen; omega) (by omega) (by have := hbG.size; have := hbG.size; simp; try omega) ?_; intro v12 w12 own12 g12 at12; have n12 : ∀ z, z < WG.heap.size → v12.ownBlock ≠ some z := fun z hz e => by { rcases at12 with h | h <;> rw [h] at e <;> (simp [Value.ownBlock] at e; omega) }; have hQ12 := (((hownG.alloc (.cells #[] 75)).alloc (.cells #[.int .i64 x, .int .i64 h0] 75)).drew).kept g12 (.inr (by simp [Value.ownBlock]; omega)); have kb12 := (((hblkG.alloc (.cells #[] 75)).alloc (.cells #[.int .i64 x, .int .i64 h0] 75)).drew).grown g12 (by simp [Value.ownBlock]; omega); have bl12 := below_append (((hbG.alloc hbG.size (.cells #[] 75)).alloc (by have := hbG.size; simp; omega) (.cells #[.int .i64 x, .int .i64 h0] 75)).drew) ((World.ownsRow_lit (base := w.heap.size) (e := 75) (size := 2) WG #[] 0 (by have := hbG.size; simp; try omega) (by unfold maxLen; omega) (by simp)).alloc (.cells #[.int .i64 x, .int .i64 h0] 75)).drew g12; have ks12 : w12.cell? ⟨bx, 0, none⟩ = some (.int .i64 x) ∧ w12.cell? ⟨bx, 1, none⟩ = some (.int .i64 h0) := ⟨kb12.cell 0, kb12.cell 1⟩; have sz12 := g12.size; have kR := (Blk.new (WG.alloc (.cells #[] 75)) 75 #[.int .i64 x, .int .i64 h0]).drew.grown g12 (by simp [Value.ownBlock]; try omega); simp only [World.size_alloc] at kR) | (refine step_append_sl (o := ⟨some 94, _, _, _, _, _⟩) _ (by rfl) _ _ 55 (by rfl) w.heap.size 75 i0 _ 2 16 Try.underlying55 hi0 hz0 hz1 hz2 rfl (by decide) _ 0 _ (by rfl) ownEc _ _ (some ⟨g, 0, none⟩) cc cc ((ptsV r).take (cc * 2)) (by rfl) ((Sl.of_own ((hownG.alloc (.cells #[.int .i64 x, .int .i64 h0] 75)).alloc (.cells #[] 75)).drew).take ha) (fun u hu => pt_one r u (List.mem_of_mem_take hu)) (by unfold maxLen; omega) (by omega) (by have := hbG.size; have := hbG.size; simp; try omega) ?_; intro v12 w12 own12 g12 at12; have n12 : ∀ z, z < WG.heap.size → v12.ownBlock ≠ some z := fun z hz e => by { rcases at12 with h | h <;> rw [h] at e <;> (simp [Value.ownBlock] at e; omega) }; have hQ12 := (((hownG.alloc (.cells #[.int .i64 x, .int .i64 h0] 75)).alloc (.cells #[] 75)).drew).kept g12 (.inr (by simp [Value.ownBlock]; omega)); have kb12 := (((hblkG.alloc (.cells #[.int .i64 x, .int .i64 h0] 75)).alloc (.cells #[] 75)).drew).grown g12 (by simp [Value.ownBlock]; omega); have bl12 := below_append (((hbG.alloc hbG.size (.cells #[.int .i64 x, .int .i64 h0] 75)).alloc (by have := hbG.size; simp; omega) (.cells #[] 75)).drew) ownEc g12; have ks12 : w12.cell? ⟨bx, 0, none⟩ = some (.int .i64 x) ∧ w12.cell? ⟨bx, 1, none⟩ = some (.int .i64 h0) := ⟨kb12.cell 0, kb12.cell 1⟩; have sz12 := g12.size; have kR := ((Blk.new WG 75 #[.int .i64 x, .int .i64 h0]).alloc (.cells #[] 75)).drew.grown g12 (by simp [Value.ownBlock]; try omega)) | (refine step_append_sl (o := ⟨some 97, _, _, _, _, _⟩) _ (by rfl) _ _ 55 (by rfl) w.heap.size 75 i0 _ 2 16 Try.underlying55 hi0 hz0 hz1 hz2 rfl (by decide) _ _ _ (by rfl) (own12.alloc (.cells #[.int .i64 x, .int .i64 h0] 75)) _ _ (some ⟨w12.heap.size, 0, none⟩) 1 1 [.int .i64 x, .int .i64 h0] (by rfl) (Sl.newAt #[.int .i64 x, .int .i64 h0] 75 2 1 rfl rfl) (by intro u hu; simp at hu; rcases hu with rfl | rfl <;> rfl) (by unfold maxLen; omega) (by omega) (by have := hbG.size; have := bl12.size; simp; try omega) ?_; intro v13 w13 own13 g13 at13; have n13 : ∀ z, z < WG.heap.size → v13.ownBlock ≠ some z := fun z hz e => by { rcases at13 with h | h <;> rw [h] at e <;> (first | exact n12 z hz e | (simp [Value.ownBlock] at e; simp at sz12; omega)) }; have hQ13 := (hQ12.alloc (.cells #[.int .i64 x, .int .i64 h0] 75)).kept g13 (.inr (fun e => n12 g (by omega) e.symm)); have kb13 := (kb12.alloc (.cells #[.int .i64 x, .int .i64 h0] 75)).grown g13 (fun e => n12 bx (by omega) e.symm); have bl13 := below_append (bl12.alloc bl12.size (.cells #[.int .i64 x, .int .i64 h0] 75)) (own12.alloc (.cells #[.int .i64 x, .int .i64 h0] 75)) g13; have ks13 : w13.cell? ⟨bx, 0, none⟩ = some (.int .i64 x) ∧ w13.cell? ⟨bx, 1, none⟩ = some (.int .i64 h0) := ⟨kb13.cell 0, kb13.cell 1⟩; have sz13 := g13.size) | (refine step_append_sl (o := ⟨some 97, _, _, _, _, _⟩) _ (by rfl) _ _ 55 (by rfl) w.heap.size 75 i0 _ 2 16 Try.underlying55 hi0 hz0 hz1 hz2 rfl (by decide) _ _ _ (by rfl) own12 _ _ (some ⟨_, 0, none⟩) 1 1 [.int .i64 x, .int .i64 h0] (by rfl) (kR.sl (size := 2) rfl) (by intro u hu; simp at hu; rcases hu with rfl | rfl <;> rfl) (by unfold maxLen; omega) (by omega) (by have := hbG.size; have := bl12.size; simp; try omega) ?_; intro v13 w13 own13 g13 at13; have n13 : ∀ z, z < WG.heap.size → v13.ownBlock ≠ some z := fun z hz e => by { rcases at13 with h | h <;> rw [h] at e <;> (first | exact n12 z hz e | (simp [Value.ownBlock] at e; simp at sz12; omega)) }; have hQ13 := (hQ12).kept g13 (.inr (fun e => n12 g (by omega) e.symm)); have kb13 := (kb12).grown g13 (fun e => n12 bx (by omega) e.symm); have bl13 := below_append (bl12) own12 g13; have ks13 : w13.cell? ⟨bx, 0, none⟩ = some (.int .i64 x) ∧ w13.cell? ⟨bx, 1, none⟩ = some (.int .i64 h0) := ⟨kb13.cell 0, kb13.cell 1⟩; have sz13 := g13.size) | (refine step_append_sl (o := ⟨some 101, _, _, _, _, _⟩) _ (by rfl) _ _ 55 (by rfl) w.heap.size 75 i0 _ 2 16 Try.underlying55 hi0 hz0 hz1 hz2 rfl (by decide) _ _ _ (by rfl) own13 _ _ _ 0 _ [] (by rfl) (Sl.nil_ (lo := 0) (hi := 0)) (fun u hu => by cases hu) (by unfold maxLen; omega) (by omega) (by have := hbG.size; have := bl13.size; simp; try omega) ?_; intro v14 w14 own14 g14 at14; have kb14 := (kb13).grown g14 (fun e => n13 bx (by omega) e.symm); have bl14 := below_append (bl13) own13 g14; have ks14 : w14.cell? ⟨bx, 0, none⟩ = some (.int .i64 x) ∧ w14.cell? ⟨bx, 1, none⟩ = some (.int .i64 h0) := ⟨kb14.cell 0, kb14.cell 1⟩))
                  all_goals
                    go_wp2
                    obtain ⟨g5, cc5, ev5, _, _, _⟩ := own_slice own14 (by omega)
                    subst ev5
                    have hln5 : 0 + cc + 1 + 0 = ln + 1 := by omega
                    have hdr : (ptsV r).drop (cc * 2) = [] := List.drop_eq_nil_of_le (by have := hownL; omega)
                    rw [hln5] at own14
                    go_roundw
                    case rel => exact ⟨s + 1, g5, cc5, by omega, by go_num, by rw [HLS.out, hln5], by rw [HLS.out, HV.out, hdr]; exact own14, bl14⟩
                    case measure => simp [intOf]; omega
                · have slD : ∀ W : World, W.ownsRow w.heap.size 75 2 (.slice (some ⟨g, 0, none⟩) ln cc) ln (ptsV r) → Sl W w.heap.size W.heap.size 2 (some ⟨g, a * 2, none⟩) (ln - a) ((ptsV r).drop (a * 2)) := fun W h => by
                    have := (Sl.of_own h).cut (k := a) (cap := cc) ha hlcc
                    rw [if_neg hca] at this
                    have hadd : (⟨g, 0, none⟩ : Addr).add (a * 2) = ⟨g, a * 2, none⟩ := by { unfold Addr.add; split <;> simp_all }
                    first | exact this | (rw [Option.map_some, hadd] at this; exact this)
                  go_region_held_law (fun w' => w'.cell? ⟨bx, 0, none⟩ = some (.int .i64 x) ∧ w'.cell? ⟨bx, 1, none⟩ = some (.int .i64 h0)) (first | go_keep | exact ks12 | exact ks13 | exact ks14) (first | (refine step_append_sl (o := ⟨some 94, _, _, _, _, _⟩) _ (by rfl) _ _ 55 (by rfl) w.heap.size 75 i0 _ 2 16 Try.underlying55 hi0 hz0 hz1 hz2 rfl (by decide) _ 0 _ (by rfl) (World.ownsRow_lit (base := w.heap.size) (e := 75) (size := 2) WG #[] 0 (by have := hbG.size; simp; try omega) (by unfold maxLen; omega) (by simp)).drew _ _ (some ⟨g, 0, none⟩) a cc ((ptsV r).take (a * 2)) (by rfl) ((Sl.of_own (hownG.alloc (.cells #[] 75)).drew).take ha) (fun u hu => pt_one r u (List.mem_of_mem_take hu)) (by unfold maxLen; omega) (by omega) (by have := hbG.size; have := hbG.size; simp; try omega) ?_; intro v12 w12 own12 g12 at12; have n12 : ∀ z, z < WG.heap.size → v12.ownBlock ≠ some z := fun z hz e => by { rcases at12 with h | h <;> rw [h] at e <;> (simp [Value.ownBlock] at e; omega) }; have hQ12 := ((hownG.alloc (.cells #[] 75)).drew).kept g12 (.inr (by simp [Value.ownBlock]; omega)); have kb12 := ((hblkG.alloc (.cells #[] 75)).drew).grown g12 (by simp [Value.ownBlock]; omega); have bl12 := below_append ((hbG.alloc hbG.size (.cells #[] 75)).drew) (World.ownsRow_lit (base := w.heap.size) (e := 75) (size := 2) WG #[] 0 (by have := hbG.size; simp; try omega) (by unfold maxLen; omega) (by simp)).drew g12; have ks12 : w12.cell? ⟨bx, 0, none⟩ = some (.int .i64 x) ∧ w12.cell? ⟨bx, 1, none⟩ = some (.int .i64 h0) := ⟨kb12.cell 0, kb12.cell 1⟩; have sz12 := g12.size; have kR : True := trivial) | (refine step_append_sl (o := ⟨some 94, _, _, _, _, _⟩) _ (by rfl) _ _ 55 (by rfl) w.heap.size 75 i0 _ 2 16 Try.underlying55 hi0 hz0 hz1 hz2 rfl (by decide) _ 0 _ (by rfl) ((World.ownsRow_lit (base := w.heap.size) (e := 75) (size := 2) WG #[] 0 (by have := hbG.size; simp; try omega) (by unfold maxLen; omega) (by simp)).alloc (.cells #[.int .i64 x, .int .i64 h0] 75)).drew _ _ (some ⟨g, 0, none⟩) a cc ((ptsV r).take (a * 2)) (by rfl) ((Sl.of_own ((hownG.alloc (.cells #[] 75)).alloc (.cells #[.int .i64 x, .int .i64 h0] 75)).drew).take ha) (fun u hu => pt_one r u (List.mem_of_mem_take hu)) (by unfold maxLen; omega) (by omega) (by have := hbG.size; have := hbG.size; simp; try omega) ?_; intro v12 w12 own12 g12 at12; have n12 : ∀ z, z < WG.heap.size → v12.ownBlock ≠ some z := fun z hz e => by { rcases at12 with h | h <;> rw [h] at e <;> (simp [Value.ownBlock] at e; omega) }; have hQ12 := (((hownG.alloc (.cells #[] 75)).alloc (.cells #[.int .i64 x, .int .i64 h0] 75)).drew).kept g12 (.inr (by simp [Value.ownBlock]; omega)); have kb12 := (((hblkG.alloc (.cells #[] 75)).alloc (.cells #[.int .i64 x, .int .i64 h0] 75)).drew).grown g12 (by simp [Value.ownBlock]; omega); have bl12 := below_append (((hbG.alloc hbG.size (.cells #[] 75)).alloc (by have := hbG.size; simp; omega) (.cells #[.int .i64 x, .int .i64 h0] 75)).drew) ((World.ownsRow_lit (base := w.heap.size) (e := 75) (size := 2) WG #[] 0 (by have := hbG.size; simp; try omega) (by unfold maxLen; omega) (by simp)).alloc (.cells #[.int .i64 x, .int .i64 h0] 75)).drew g12; have ks12 : w12.cell? ⟨bx, 0, none⟩ = some (.int .i64 x) ∧ w12.cell? ⟨bx, 1, none⟩ = some (.int .i64 h0) := ⟨kb12.cell 0, kb12.cell 1⟩; have sz12 := g12.size; have kR := (Blk.new (WG.alloc (.cells #[] 75)) 75 #[.int .i64 x, .int .i64 h0]).drew.grown g12 (by simp [Value.ownBlock]; try omega); simp only [World.size_alloc] at kR) | (refine step_append_sl (o := ⟨some 94, _, _, _, _, _⟩) _ (by rfl) _ _ 55 (by rfl) w.heap.size 75 i0 _ 2 16 Try.underlying55 hi0 hz0 hz1 hz2 rfl (by decide) _ 0 _ (by rfl) ownEc _ _ (some ⟨g, 0, none⟩) a cc ((ptsV r).take (a * 2)) (by rfl) ((Sl.of_own ((hownG.alloc (.cells #[.int .i64 x, .int .i64 h0] 75)).alloc (.cells #[] 75)).drew).take ha) (fun u hu => pt_one r u (List.mem_of_mem_take hu)) (by unfold maxLen; omega) (by omega) (by have := hbG.size; have := hbG.size; simp; try omega) ?_; intro v12 w12 own12 g12 at12; have n12 : ∀ z, z < WG.heap.size → v12.ownBlock ≠ some z := fun z hz e => by { rcases at12 with h | h <;> rw [h] at e <;> (simp [Value.ownBlock] at e; omega) }; have hQ12 := (((hownG.alloc (.cells #[.int .i64 x, .int .i64 h0] 75)).alloc (.cells #[] 75)).drew).kept g12 (.inr (by simp [Value.ownBlock]; omega)); have kb12 := (((hblkG.alloc (.cells #[.int .i64 x, .int .i64 h0] 75)).alloc (.cells #[] 75)).drew).grown g12 (by simp [Value.ownBlock]; omega); have bl12 := below_append (((hbG.alloc hbG.size (.cells #[.int .i64 x, .int .i64 h0] 75)).alloc (by have := hbG.size; simp; omega) (.cells #[] 75)).drew) ownEc g12; have ks12 : w12.cell? ⟨bx, 0, none⟩ = some (.int .i64 x) ∧ w12.cell? ⟨bx, 1, none⟩ = some (.int .i64 h0) := ⟨kb12.cell 0, kb12.cell 1⟩; have sz12 := g12.size; have kR := ((Blk.new WG 75 #[.int .i64 x, .int .i64 h0]).alloc (.cells #[] 75)).drew.grown g12 (by simp [Value.ownBlock]; try omega)) | (refine step_append_sl (o := ⟨some 97, _, _, _, _, _⟩) _ (by rfl) _ _ 55 (by rfl) w.heap.size 75 i0 _ 2 16 Try.underlying55 hi0 hz0 hz1 hz2 rfl (by decide) _ _ _ (by rfl) (own12.alloc (.cells #[.int .i64 x, .int .i64 h0] 75)) _ _ (some ⟨w12.heap.size, 0, none⟩) 1 1 [.int .i64 x, .int .i64 h0] (by rfl) (Sl.newAt #[.int .i64 x, .int .i64 h0] 75 2 1 rfl rfl) (by intro u hu; simp at hu; rcases hu with rfl | rfl <;> rfl) (by unfold maxLen; omega) (by omega) (by have := hbG.size; have := bl12.size; simp; try omega) ?_; intro v13 w13 own13 g13 at13; have n13 : ∀ z, z < WG.heap.size → v13.ownBlock ≠ some z := fun z hz e => by { rcases at13 with h | h <;> rw [h] at e <;> (first | exact n12 z hz e | (simp [Value.ownBlock] at e; simp at sz12; omega)) }; have hQ13 := (hQ12.alloc (.cells #[.int .i64 x, .int .i64 h0] 75)).kept g13 (.inr (fun e => n12 g (by omega) e.symm)); have kb13 := (kb12.alloc (.cells #[.int .i64 x, .int .i64 h0] 75)).grown g13 (fun e => n12 bx (by omega) e.symm); have bl13 := below_append (bl12.alloc bl12.size (.cells #[.int .i64 x, .int .i64 h0] 75)) (own12.alloc (.cells #[.int .i64 x, .int .i64 h0] 75)) g13; have ks13 : w13.cell? ⟨bx, 0, none⟩ = some (.int .i64 x) ∧ w13.cell? ⟨bx, 1, none⟩ = some (.int .i64 h0) := ⟨kb13.cell 0, kb13.cell 1⟩; have sz13 := g13.size) | (refine step_append_sl (o := ⟨some 97, _, _, _, _, _⟩) _ (by rfl) _ _ 55 (by rfl) w.heap.size 75 i0 _ 2 16 Try.underlying55 hi0 hz0 hz1 hz2 rfl (by decide) _ _ _ (by rfl) own12 _ _ (some ⟨_, 0, none⟩) 1 1 [.int .i64 x, .int .i64 h0] (by rfl) (kR.sl (size := 2) rfl) (by intro u hu; simp at hu; rcases hu with rfl | rfl <;> rfl) (by unfold maxLen; omega) (by omega) (by have := hbG.size; have := bl12.size; simp; try omega) ?_; intro v13 w13 own13 g13 at13; have n13 : ∀ z, z < WG.heap.size → v13.ownBlock ≠ some z := fun z hz e => by { rcases at13 with h | h <;> rw [h] at e <;> (first | exact n12 z hz e | (simp [Value.ownBlock] at e; simp at sz12; omega)) }; have hQ13 := (hQ12).kept g13 (.inr (fun e => n12 g (by omega) e.symm)); have kb13 := (kb12).grown g13 (fun e => n12 bx (by omega) e.symm); have bl13 := below_append (bl12) own12 g13; have ks13 : w13.cell? ⟨bx, 0, none⟩ = some (.int .i64 x) ∧ w13.cell? ⟨bx, 1, none⟩ = some (.int .i64 h0) := ⟨kb13.cell 0, kb13.cell 1⟩; have sz13 := g13.size) | (refine step_append_sl (o := ⟨some 101, _, _, _, _, _⟩) _ (by rfl) _ _ 55 (by rfl) w.heap.size 75 i0 _ 2 16 Try.underlying55 hi0 hz0 hz1 hz2 rfl (by decide) _ _ _ (by rfl) own13 _ _ _ (ln - a) _ ((ptsV r).drop (a * 2)) (by rfl) (slD _ hQ13) (fun u hu => pt_one r u (List.mem_of_mem_drop hu)) (by unfold maxLen; omega) (by omega) (by have := hbG.size; have := bl13.size; simp; try omega) ?_; intro v14 w14 own14 g14 at14; have kb14 := (kb13).grown g14 (fun e => n13 bx (by omega) e.symm); have bl14 := below_append (bl13) own13 g14; have ks14 : w14.cell? ⟨bx, 0, none⟩ = some (.int .i64 x) ∧ w14.cell? ⟨bx, 1, none⟩ = some (.int .i64 h0) := ⟨kb14.cell 0, kb14.cell 1⟩))
                  all_goals
                    go_wp2
                    obtain ⟨g5, cc5, ev5, _, _, _⟩ := own_slice own14 (by omega)
                    subst ev5
                    have hln5 : 0 + a + 1 + (ln - a) = ln + 1 := by omega
                    rw [hln5] at own14
                    go_roundw
                    case rel => exact ⟨s + 1, g5, cc5, by omega, by go_num, by rw [HLS.out, hln5], by rw [HLS.out, HV.out]; exact own14, bl14⟩
                    case measure => simp [intOf]; omega
            · obtain rfl : s = 3 * q := by omega
              have hlt3 : ¬ (3 * (q : Int)) < 3 * (q : Int) := by omega
              go_wp2
              go_roundw
              case rel => exact ⟨k + 1, g, cc, by omega, by go_num, by rw [← HU1.out, HRR.out, HLN.out], by rw [← HU1.out, HRR.out, HLN.out]; exact hown, hbi⟩
              case measure => simp [intOf]; omega
        · have HN1 := Lib.hid (HN.out hu)
          have hu' : (h2 == 1) = false := by simpa using hu
          go_upto_region 6 with (go_at_call 35; refine (sPoolValid_any _ _ _ hs _ hSr hhi' hn).mono ?_; rw [hv]; rintro e w1 ⟨rfl, hb1⟩)
          have hown1 := own_below hown hb1
          have hbb := hb.trans (hb1.mono hz)
          obtain ⟨b, off, rfl, hb0, hbh, c0, c1, c2⟩ := (hSr.below hb1 hhi').host hlt
          rw [HH.out] at c0 c1 c2
          simp only at c0 c1 c2
          have h3q : (0 : Int) < 3 * (q : Int) := by omega
          clear hb hb1 hSr hhi' hz hown
          obtain ⟨wo, rfl⟩ : ∃ wo : World, wo = wr := ⟨_, rfl⟩
          go_loopw [3, 5] (fun o i wr => i = .int .i64 0 ∧ o = .slice (some ⟨g0, 0, none⟩) (sortP (pts (hs.take k))).length cc ∧ wr = w1) (fun _ _ _ => 0)
          case atStart => exact ⟨rfl, rfl, rfl⟩
          case round =>
            obtain ⟨rfl, rfl, rfl⟩ := hrel
            go_wp2
            go_roundw
            case rel => exact ⟨k + 1, g0, cc, by omega, by go_num, by rw [HN1.out], by rw [HN1.out]; exact hown1, hbb⟩
            case measure => simp [intOf]; omega
      · obtain rfl : n = k := by omega
        go_wp2
        go_ret
        exact RetOwn.mk hown hb
  · have hv' := Bool.eq_false_iff.2 hv
    have HR : RowKit.Hid (ringO hs = []) := Lib.hid (by unfold ringO; rw [if_neg hv])
    rw [HR.out]
    clear hv
    go_enter Try.func39, Try.ntmps39
    go_wp2
    generalize w.alloc (.cells #[] 75) = w0 at hlit hb0 ⊢
    go_loopw [3, 4] (fun o i wr => i = .int .i64 0 ∧ o = .slice (some ⟨w.heap.size, 0, none⟩) 0 0 ∧ wr.ownsRow w.heap.size 75 2 (.slice (some ⟨w.heap.size, 0, none⟩) 0 0) 0 [] ∧ Below w.heap.size w wr) (fun _ _ _ => 0)
    case atStart => exact ⟨rfl, rfl, hlit, hb0⟩
    case round =>
      obtain ⟨rfl, rfl, hown, hb⟩ := hrel
      by_cases hlt : 0 < n
      · go_wp2_with (go_at_call 35; refine (sPoolValid_any _ _ _ hs _ (hS.below hb hhi) (Nat.le_trans hhi hb.size) hn).mono ?_; rw [hv']; rintro e w1 ⟨rfl, hb1⟩; have hbb := hb.trans (hb1.mono hb.size); have hown1 := own_below hown hb1)
        go_ret
        exact RetOwn.mk hown1 hbb
      · obtain rfl : n = 0 := by omega
        go_wp2
        go_ret
        exact RetOwn.mk hown hb
end Go.Proofs.Ytfobcggcilbgbaa
