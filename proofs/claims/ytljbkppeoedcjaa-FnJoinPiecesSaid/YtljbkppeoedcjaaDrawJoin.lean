/-
  DrawJoinPieces: pieces.
-/
import Derived.Test.YtljbkppeoedcjaaRowP
import Derived.Test.YtljbkppeoedcjaaSplitB
import Derived.Test.YtljbkppeoedcjaaMixP
import Derived.Test.YtljbkppeoedcjaaDrawBytes
import Derived.Deep.RegionHeldLaw
import Derived.Deep.CutBlock
import Derived.Deep.CutRange
namespace Go.Proofs.Ytljbkppeoedcjaa
open Go.RowKit
set_option linter.unusedVariables false
attribute [local go_sem ↓] Go.wp_at_zero Go.wp_at_succ

theorem split_small {bs : List Int} {sz : Int} {ps : List Pv} {w : World} {base n : Nat} {v : Value} (hl : bs.length ≤ 20) (h : ps.map Pv.pc = splitP bs sz) (ho : OwnPcs w base v n ps) : ∀ p ∈ ps, -1 ≤ p.at_ ∧ p.at_ ≤ 90 ∧ p.n ≤ 40 := by
  intro p hp
  have hm : p.pc ∈ splitP bs sz := by rw [← h]; exact List.mem_map_of_mem hp
  have h2 := (split_bds bs sz).2 _ hm
  have e2 : (p.zs.map (Value.int .u8)).length = p.n * 1 := (ho.bodies p hp).1
  simp at e2
  have e3 : p.pc.body.length = p.n := e2
  by_cases hv : bs.length ≤ 80 ∧ 1 ≤ sz ∧ sz ≤ 40
  · obtain ⟨a, m, e1, e4, _⟩ := (split_parts hv _ hm).1
    have e1' : p.at_ = (a : Int) := e1
    omega
  · unfold splitP at hm
    rw [if_neg hv] at hm
    exact absurd hm (by simp)
theorem ones_pv2 (ps : List Pv) : ∀ u ∈ pvs ps, u.oneCell' = true := by
  intro u hu
  unfold pvs at hu
  obtain ⟨p, _, hu⟩ := List.mem_flatMap.1 hu
  simp [Pv.cs, Pv.body] at hu
  rcases hu with rfl | rfl | rfl <;> rfl
theorem RowP.new {M : Int} {w w' : World} {base n : Nat} {v : Value} {ps : List Pv} (h : RowP M w base v n ps) (hg : New w w') : RowP M w' base v n ps := ⟨New.own hg h.row, fun p hp => New.own hg (h.bodies p hp), h.byte, h.small⟩
theorem pcs_le {bs : List Int} {sz : Int} (hl : bs.length ≤ 20) : (splitP bs sz).length ≤ 80 := (split_bds bs sz).1

set_option maxRecDepth 100000 in
set_option maxHeartbeats 6400000 in
theorem drawJoinPieces_any (A : Option Addr) (n c : Nat) (zs : List Int) (w : World) (hs : Sl w 0 w.heap.size 1 A n (zs.map (Value.int .u8))) (hnc : n ≤ c) (hc : c ≤ 9223372036854775807) (hz : AllByte zs) :
    Calls Try.prog 24 #[.slice A n c] w (DrawnPieces w) := by
  obtain ⟨i0, hi0, hz0, hz1, hz2⟩ := info_parts infoByte
  obtain ⟨iP, hiP, hzP, hzP1, hzP2⟩ := info_parts infoPiece
  go_enter Try.func24, Try.ntmps24
  go_wp2_with fail
  refine (open_any _ _ _ zs _ hs hnc hc hz).mono ?_
  rintro e w1 ⟨g, hg, rfl, hr, b1⟩
  go_wp2_with fail
  refine (bytes_any g _ 20 _ hr (by omega) (by omega)).mono ?_
  rintro e w2 ⟨A2, n2, c2, bs, rfl, h1, h2, h3, h4, own2, D2⟩
  have hgB : g < w1.heap.size := D2.lt
  go_wp2_with fail
  refine (pick_any _ _ _ _ D2.rd (by omega) (by omega) (by omega)).mono ?_
  rintro e w3 ⟨v, v0, v1, rfl, hr3, hg3⟩
  have D3 := D2.picked hr3 hg3
  have own3 := own_picked own2 hg3 hgB
  clear D2 own2 hr3 hg3
  go_wp2_with fail
  refine (sSplitBody_any _ _ _ bs _ _ (Sl.of_own own3) (Nat.le_refl _) h2 h3 (by omega) h4).mono ?_
  have hbl : bs.length ≤ 20 := by have := (Sl.of_own own3).len; omega
  have hN := pcs_le (bs := bs) (sz := 1 + v) hbl
  have hNp : 0 < (splitP bs (1 + v)).length := split_pos ⟨by omega, by omega, by omega⟩
  intro e w4 hr4
  obtain ⟨A4, c4, qs, rfl, hp4, O4, b4⟩ := hr4
  have hsm := split_small hbl hp4 O4
  generalize (splitP bs (1 + v)).length = N at hN hNp O4 ⊢
  have hgw : g < w3.heap.size := D3.rd.lt
  have R4 : RowP 100 w4 w3.heap.size (.slice A4 N c4) N qs := RowP.of_own O4 (fun p hp => by have := hsm p hp; omega)
  have hsm0 : ∀ p ∈ qs, -1 ≤ p.at_ ∧ p.at_ ≤ 90 ∧ p.n ≤ 40 := hsm
  have D4 := (D3.below b4 D3.size_).more (show _ ≤ 5000 by omega)
  obtain ⟨r, cap, hA, hcap, hr1, hr2⟩ := own_slice R4.row hNp
  injection hA with hA1 hA2 hA3
  subst hA1
  subst hA3
  have hbase := D3.size_
  obtain ⟨base, hbe⟩ : ∃ b, w3.heap.size = b := ⟨_, rfl⟩
  rw [hbe] at R4 hr1 hbase hgw
  clear hp4 O4 b4 own3 D3 h1 h2 h3 h4 hbl hbe hsm hsm0
  go_wp2_with fail
  go_loopw [5] (fun i wr => ∃ (k : Nat) (ps : List Pv), k < N ∧ i = .int .i64 k ∧ RowP 100 wr base (.slice (some ⟨r, 0, none⟩) N c4) N ps ∧ Dw w1 g (5000 + k) wr) (fun i _ => N - (intOf i).toNat)
  case atStart => exact ⟨0, qs, hNp, rfl, R4, D4⟩
  case round =>
    obtain ⟨k, ps, hk, rfl, R, D⟩ := hrel
    by_cases hlt : k + 1 < N
    · have hl1 : (k : Int) + 1 < (N : Int) := by omega
      go_wp2_with fail
      refine (pick_any _ _ _ _ D.rd (by omega) (by omega) (by omega)).mono ?_
      rintro e w5 ⟨z, z0, z1, rfl, hr5, hg5⟩
      have D5 := D.picked hr5 hg5
      have R5 := R.picked hg5 hgw
      clear D R hr5 hg5
      have hcase : z = 0 ∨ z = 1 := by omega
      clear z0 z1
      rcases hcase with rfl | rfl
      · obtain ⟨⟨ps1, ps2, ps3⟩, py, pb⟩ := R5.at_ (k := k) (by omega)
        obtain ⟨⟨qs1, qs2, qs3⟩, qy, qb⟩ := R5.at_ (k := k + 1) hlt
        obtain ⟨p0, p1, p2⟩ := R5.cells (k := k) (by omega)
        obtain ⟨q0, q1, q2⟩ := R5.cells (k := k + 1) hlt
        have hf := R5.row.frozenAt
        have hrl := (R5.row.lt r rfl).2
        have E6 := R5.put (k := k) (by omega) (pAt ps (k + 1)) qb qy ⟨qs1, qs2, qs3⟩
        have E7 := (E6.put (k := k + 1) hlt (pAt ps k) (own_setP pb (R5.under pb rfl)) py ⟨ps1, ps2, ps3⟩).alloc (.cells #[.int .i64 (pAt ps k).at_, .bool (pAt ps k).more, .slice (pAt ps k).A (pAt ps k).n (pAt ps k).c] 35)
        have F7 : Dw w1 g (5000 + k + 1) ((setP (setP w5 r (k * 3) (pAt ps (k + 1))) r ((k + 1) * 3) (pAt ps k)).alloc (.cells #[.int .i64 (pAt ps k).at_, .bool (pAt ps k).more, .slice (pAt ps k).A (pAt ps k).n (pAt ps k).c] 35)) :=
          (D5.below (setP_below (setP_below (Below.refl w1.heap.size _) (by omega)) (by omega)) (Nat.le_refl _)).alloc _
        unfold setP at E7 F7
        simp only [Pv.body] at E7 F7
        have htn : ((k : Int) + 1).toNat = k + 1 := by omega
        have hk0 : (0 : Int) ≤ (k : Int) + 1 := by omega
        have hk3 : (k : Int) < (N : Int) := by omega
        generalize (pAt ps k).at_ = pa at *
        generalize (pAt ps k).more = pm at *
        generalize (pAt ps k).A = pA at *
        generalize (pAt ps k).n = pn at *
        generalize (pAt ps k).c = pc at *
        generalize (pAt ps (k + 1)).at_ = qa at *
        generalize (pAt ps (k + 1)).more = qm at *
        generalize (pAt ps (k + 1)).A = qA at *
        generalize (pAt ps (k + 1)).n = qn at *
        generalize (pAt ps (k + 1)).c = qc at *
        clear E6 pb qb R5 D5
        go_wp2_with fail
        go_roundw
        case rel => exact ⟨k + 1, _, hlt, by go_num, E7, F7⟩
        case measure => simp [intOf]; omega
      · go_wp2_with fail
        go_roundw
        case rel => exact ⟨k + 1, ps, hlt, by go_num, R5, D5.more (by omega)⟩
        case measure => simp [intOf]; omega
    · have hl1 : ¬ ((k : Int) + 1 < (N : Int)) := by omega
      have hN1 : (0 : Int) < (N : Int) := by omega
      have hNd : decide ((0 : Int) < (N : Int)) = true := decide_eq_true hN1
      have D0 := D.more (show 5000 + k ≤ 6000 by omega)
      clear D
      go_upto_if 50 with (go_at_call 31; refine (pick_any _ _ _ _ D0.rd (by omega) (by omega) (by omega)).mono ?_; rintro e w5 ⟨z, z0, z1, rfl, hr5, hg5⟩)
      have D5 := D0.picked hr5 hg5
      have R5 := R.picked hg5 hgw
      clear D0 R hr5 hg5
      go_cut [4] from 51 to 60 (fun v wx => ∃ (m mc : Nat) (B : Option Addr) (ps : List Pv), v = .slice B m mc ∧ 0 < m ∧ m ≤ 81 ∧ RowP 100 wx base (.slice B m mc) m ps ∧ Dw w1 g 6002 wx)
      case first =>
        by_cases hz0' : z = 0
        · subst hz0'
          go_wp2_with fail
          refine (pick_any _ _ _ _ D5.rd (by omega) (by omega) (by omega)).mono ?_
          rintro e w6 ⟨j, j0, j1, rfl, hr6, hg6⟩
          have D6 := D5.picked hr6 hg6
          have R6 := R5.picked hg6 hgw
          clear D5 R5 hr6 hg6
          obtain ⟨j, rfl⟩ : ∃ j' : Nat, j = (j' : Int) := ⟨j.toNat, by omega⟩
          have hj : j < N := by omega
          have hj0 : (0 : Int) ≤ (j : Int) := by omega
          have hj1 : (j : Int) < (N : Int) := by omega
          clear j0 j1
          obtain ⟨p0, p1, p2⟩ := R6.cells hj
          have hcs : pvs ps ++ (pAt ps j).cs = pvs (ps ++ [pAt ps j]) := by rw [pvs_append, pvs_one]
          have hpm := pAt_mem (ps := ps) (k := j) (by rw [R6.len]; exact hj)
          obtain ⟨⟨pa, pm, pA, pn, pc, pz⟩, hp⟩ : ∃ p, pAt ps j = p := ⟨_, rfl⟩
          rw [hp] at p0 p1 p2 hcs hpm
          simp only at p0 p1 p2
          simp only [Pv.cs, Pv.body] at hcs
          have HCS := Lib.hid hcs
          clear hp hcs
          have rE := R6.row.alloc (.cells #[.int .i64 pa, .bool pm, .slice pA pn pc] 35)
          have hbz : base ≤ w6.heap.size := by have := (R6.row.lt r rfl); omega
          go_wp2_with (at_builtin; refine wpList_append_sl _ rfl _ _ 23 rfl base 35 iP _ 3 40 Try.underlying23 hiP hzP hzP1 hzP2 (by kernel_rfl) (by decide) _ N _ (by rfl) rE _ _ (some ⟨w6.heap.size, 0, none⟩) 1 1 [.int .i64 pa, .bool pm, .slice pA pn pc] rfl (Sl.new #[.int .i64 pa, .bool pm, .slice pA pn pc] 35 3 1 rfl) (one_piece _ _ _ _ _) (by unfold maxLen; omega) (by omega) (by simp; omega) ?_; intro v3 w7 own3 g3 at3; obtain ⟨A3, c3, hv3, hc3, hm3⟩ := own_is_slice own3; subst hv3)
          rw [HCS.out] at own3
          have R6a := R6.alloc (.cells #[.int .i64 pa, .bool pm, .slice pA pn pc] 35)
          have R7 := R6a.row_ (fun p hp => own_apart2 (R6a.bodies p hp) g3 (fun q hq he => R6a.body_ne hp he hq)) own3 (fun q hq => by
            rcases List.mem_append.1 hq with h | h
            · exact h
            · simp at h; rw [h]; exact hpm)
          have D7 := (D6.alloc (.cells #[.int .i64 pa, .bool pm, .slice pA pn pc] 35)).append (own_more rE hbase) g3
          go_meet
          case rel => exact ⟨N + 1, c3, A3, _, rfl, by omega, by omega, R7, D7.more (by omega)⟩
        · have hzz : ((z : Int) == 0) = false := by simpa using hz0'
          go_wp2_with fail
          go_meet
          case rel => exact ⟨N, c4, _, ps, rfl, hNp, by omega, R5, D5.more (by omega)⟩
      case rest =>
        obtain ⟨m, mc, B, ps, rfl, hm0, hm81, R, D⟩ := hcut
        obtain ⟨r, cap, hA, hcap, hr1, hr2⟩ := own_slice R.row hm0
        injection hA with hA1 hA2 hA3
        subst hA1
        subst hA3
        have hmI : (0 : Int) < (m : Int) := by omega
        have hmd : decide ((0 : Int) < (m : Int)) = true := decide_eq_true hmI
        go_wp2_with fail
        refine (odd_any _ _ _ _ D.rd (by omega) (by omega) (by omega)).mono ?_
        rintro e w8 ⟨b, rfl, hr8, hg8⟩
        have D8 := D.picked hr8 hg8
        have R8 := R.picked hg8 hgw
        have b8 := D8.out b1 hg
        clear D R hr8 hg8
        have hB := Nat.le_trans b1.size hbase
        cases b with
        | false =>
          go_wp2_with fail
          go_ret
          exact DrawnPieces.mk (by omega) R8 hB (by omega) b8
        | true =>
          go_wp2_with fail
          refine (pick_any _ _ _ _ D8.rd (by omega) (by omega) (by omega)).mono ?_
          rintro e w9 ⟨j, j0, j1, rfl, hr9, hg9⟩
          have D9 := D8.picked hr9 hg9
          have R9 := R8.picked hg9 hgw
          clear D8 R8 b8 hr9 hg9
          obtain ⟨j, rfl⟩ : ∃ j' : Nat, j = (j' : Int) := ⟨j.toNat, by omega⟩
          have hj : j < m := by omega
          have hj0 : (0 : Int) ≤ (j : Int) := by omega
          have hj1 : (j : Int) < (m : Int) := by omega
          clear j0 j1
          go_wp2_with fail
          refine (pick_any _ _ _ _ D9.rd (by omega) (by omega) (by omega)).mono ?_
          rintro e w10 ⟨z, z0, z1, rfl, hr10, hg10⟩
          have D10 := D9.picked hr10 hg10
          have R10 := R9.picked hg10 hgw
          have b10 := D10.out b1 hg
          clear D9 R9 hr10 hg10
          have hcase : z = 0 ∨ z = 1 ∨ z = 2 ∨ z = 3 ∨ z = 4 := by omega
          clear z0 z1
          obtain ⟨⟨sa, sb, sc⟩, sy, so⟩ := R10.at_ hj
          obtain ⟨p0, p1, p2⟩ := R10.cells hj
          have hf := R10.row.frozenAt
          have hrl := R10.row.lt r rfl
          rcases hcase with rfl | rfl | rfl | rfl | rfl
          · skip
            have slP : Sl w10.drew base w10.drew.heap.size 3 (some ⟨r, 0, none⟩) m (pvs ps) := Sl.of_own R10.drew.row
            have hbW : base ≤ w10.drew.heap.size := by show base ≤ w10.heap.size; omega
            obtain ⟨_, mc', emc, hmc, hmx⟩ := own_is_slice R10.row
            cases emc
            go_wp2_with fail
            obtain ⟨L, hL⟩ : ∃ L : List (Nat × VT), L = [(4, tLit (.slice (some ⟨r, 0, none⟩) (m) (mc))), (7, tLit (.int .i64 ((j : Int)))), (85, tFull base 35 3), (86, tLit (.slice (some ⟨r, 0, none⟩) (m) (mc))), (87, tLit (.int .i64 ((j : Int)))), (88, tSl base 3 (j : Int).toNat ((pvs ps).take ((j : Int).toNat * 3))), (89, tOwn base 35 3 (j : Int).toNat ((pvs ps).take ((j : Int).toNat * 3))), (90, tLit (.slice (some ⟨r, 0, none⟩) (m) (mc))), (91, tLit (.int .i64 ((j : Int)))), (92, tLit (.int .i64 (((j : Int)) + (1)))), (93, tSl base 3 (m - ((j : Int) + 1).toNat) ((pvs ps).drop (((j : Int) + 1).toNat * 3)))] := ⟨_, rfl⟩
            have V4 : L.lookup 4 = some (tLit (.slice (some ⟨r, 0, none⟩) (m) (mc))) := by rw [hL]; rfl
            have V7 : L.lookup 7 = some (tLit (.int .i64 ((j : Int)))) := by rw [hL]; rfl
            have V85 : L.lookup 85 = some (tFull base 35 3) := by rw [hL]; rfl
            have V86 : L.lookup 86 = some (tLit (.slice (some ⟨r, 0, none⟩) (m) (mc))) := by rw [hL]; rfl
            have V87 : L.lookup 87 = some (tLit (.int .i64 ((j : Int)))) := by rw [hL]; rfl
            have V88 : L.lookup 88 = some (tSl base 3 (j : Int).toNat ((pvs ps).take ((j : Int).toNat * 3))) := by rw [hL]; rfl
            have V89 : L.lookup 89 = some (tOwn base 35 3 (j : Int).toNat ((pvs ps).take ((j : Int).toNat * 3))) := by rw [hL]; rfl
            have V90 : L.lookup 90 = some (tLit (.slice (some ⟨r, 0, none⟩) (m) (mc))) := by rw [hL]; rfl
            have V91 : L.lookup 91 = some (tLit (.int .i64 ((j : Int)))) := by rw [hL]; rfl
            have V92 : L.lookup 92 = some (tLit (.int .i64 (((j : Int)) + (1)))) := by rw [hL]; rfl
            have V93 : L.lookup 93 = some (tSl base 3 (m - ((j : Int) + 1).toNat) ((pvs ps).drop (((j : Int) + 1).toNat * 3))) := by rw [hL]; rfl
            have HK : KeepL L := by rw [hL]; exact ⟨keep_lit _, keep_lit _, keep_full, keep_lit _, keep_lit _, keep_sl, keep_own, keep_lit _, keep_lit _, keep_lit _, keep_sl, trivial⟩
            refine wp_region_mix (by kernel_rfl) L 9 11 rfl [some 85, some 86, some 87, some 88, some 89, some 90, some 91, some 92, some 93] (by kernel_rfl) (by kernel_rfl) (by kernel_rfl) 2 (by rw [hL]; intro x hx; simp only [List.take_succ_cons, List.take_zero, List.mem_cons, List.not_mem_nil, or_false] at hx; rcases hx with rfl | rfl <;> rfl) (by rw [hL]; rfl) ?_ ?_
            · clear hL
              exact ⟨m_row0 HK gokm_none Try.underlying23 hiP hzP hzP1 hbW V85,
                m_move HK gokm_none (om_tmp V4) V86,
                m_move HK gokm_none (om_tmp V7) V87,
                m_cuth HK gokm_none (by kernel_rfl) (om_tmp V86) slP (Nat.le_refl _) hmc hmx (om_tmp V87) (by omega) (by omega) V88,
                m_append1 HK gokm_none Try.underlying23 hiP hzP hzP1 hzP2 (by kernel_rfl) (by decide) (om_tmp V85) (om_tmp V88) (fun u hu => ones_pv2 _ u (List.mem_of_mem_take hu)) (by unfold maxLen; omega) (by omega) hbW V89,
                m_move HK gokm_none (om_tmp V4) V90,
                m_move HK gokm_none (om_tmp V7) V91,
                m_add HK gokm_none (om_tmp V91) om_const rfl (by omega) V92,
                m_cutl HK gokm_none (by kernel_rfl) (om_tmp V90) slP (Nat.le_refl _) hmc hmx (om_tmp V92) (by omega) (by omega) V93,
                trivial⟩
            intro vs w5 hw5 hk5
            have k85 := hk5 0 85 _ (by omega) rfl V85
            have k86 : vs 86 = .slice (some ⟨r, 0, none⟩) (m) (mc) := hk5 1 86 _ (by omega) rfl V86
            have k87 : vs 87 = .int .i64 ((j : Int)) := hk5 2 87 _ (by omega) rfl V87
            have k88 := hk5 3 88 _ (by omega) rfl V88
            have k89 := hk5 4 89 _ (by omega) rfl V89
            have k90 : vs 90 = .slice (some ⟨r, 0, none⟩) (m) (mc) := hk5 5 90 _ (by omega) rfl V90
            have k91 : vs 91 = .int .i64 ((j : Int)) := hk5 6 91 _ (by omega) rfl V91
            have k92 : vs 92 = .int .i64 (((j : Int)) + (1)) := hk5 7 92 _ (by omega) rfl V92
            have k93 := hk5 8 93 _ (by omega) rfl V93
            clear hk5 HK hL V4 V7 V85 V86 V87 V88 V89 V90 V91 V92 V93
            obtain ⟨A9', c9', e89, _, _, own89⟩ := k89
            obtain ⟨B9', d9', e93, _, _, sl93⟩ := k93
            simp only [Int.toNat_natCast] at own89 e89
            have hj1' : ((j : Int) + 1).toNat = j + 1 := by omega
            rw [hj1'] at sl93 e93
            have R5' := R10.new hw5
            have hb5 : base ≤ w5.heap.size := Nat.le_trans (show base ≤ w10.heap.size by omega) hw5.size
            have bN := New.below hw5 b10 b10.size
            clear slP
            simp only [putL, Act.put, List.setIfInBounds_toArray, List.set_cons_zero, List.set_cons_succ, k86, k87, k90, k91, k92, e89, e93]
            refine wpList_append_sl _ (by rfl) _ _ 23 (by rfl) base 35 iP _ 3 40 Try.underlying23 hiP hzP hzP1 hzP2 (by kernel_rfl) (by decide) _ j _ (by rfl) own89 _ _ B9' (m - (j + 1)) d9' ((pvs ps).drop ((j + 1) * 3)) (by rfl) sl93 (fun u hu => ones_pv2 _ u (List.mem_of_mem_drop hu)) (by unfold maxLen; omega) (by omega) hb5 ?_
            intro v6 w6 own6 g6 at6
            obtain ⟨A6', c6', hv6, hc6, hm6⟩ := own_is_slice own6
            subst hv6
            go_wp2_with fail
            go_ret
            have e6 : (pvs ps).take (j * 3) ++ (pvs ps).drop ((j + 1) * 3) = pvs (ps.take j ++ ps.drop (j + 1)) := by rw [pvs_append, pvs_take, pvs_drop]
            rw [e6] at own6
            have R6 := R5'.row_ (fun p hp => own_apart2 (R5'.bodies p hp) g6 (fun q hq he => own_types (R5'.bodies p hp) own89 piece_ne q hq he)) own6 (fun q hq => by
              rcases List.mem_append.1 hq with h | h
              · exact List.mem_of_mem_take h
              · exact List.mem_of_mem_drop h)
            exact DrawnPieces.mk (by omega) R6 hB (by omega) (below_append bN (own_more own89 hB) g6)
          · have E := R10.set1 hj (!(pAt ps j).more)
            have F := b10.setCell (p := ⟨r, j * 3 + 1, none⟩) (show w.heap.size ≤ r by omega) (.bool (!(pAt ps j).more))
            go_wp2_with fail
            go_ret
            exact DrawnPieces.mk (by omega) E hB (by omega) F
          · have E := R10.set0 hj ((pAt ps j).at_ + 1) (M' := 101) (by omega) (by omega)
            have F := b10.setCell (p := ⟨r, j * 3, none⟩) (show w.heap.size ≤ r by omega) (.int .i64 ((pAt ps j).at_ + 1))
            go_wp2_with fail
            go_ret
            exact DrawnPieces.mk (by omega) E hB (by omega) F
          · skip
            have hbW : base ≤ w10.drew.heap.size := by show base ≤ w10.heap.size; omega
            obtain ⟨_, mc', emc, hmc, hmx⟩ := own_is_slice R10.row
            cases emc
            have slQ : Sl w10.drew base w10.drew.heap.size 1 (pAt ps j).A (pAt ps j).n ((pAt ps j).zs.map (Value.int .u8)) := Sl.of_own so
            obtain ⟨⟨pa, pm, pA, pn, pc, pz⟩, hp⟩ : ∃ p, pAt ps j = p := ⟨_, rfl⟩
            rw [hp] at p0 p1 p2 slQ sa sb sc sy
            simp only at p0 p1 p2 slQ sa sb sc sy
            have hjo : 0 + (j : Int).toNat * 3 = j * 3 := by simp
            rw [← hjo] at p0 p1 p2
            clear hp so
            go_wp2_with fail
            obtain ⟨L, hL⟩ : ∃ L : List (Nat × VT), L = [(4, tLit (.slice (some ⟨r, 0, none⟩) (m) (mc))), (7, tLit (.int .i64 ((j : Int)))), (121, tLit (.slice (some ⟨r, 0, none⟩) (m) (mc))), (122, tLit (.int .i64 ((j : Int)))), (123, tLit (.slice (some ⟨r, 0, none⟩) (m) (mc))), (124, tLit (.int .i64 ((j : Int)))), (125, tLit (.pointer (some ⟨r, 0 + ((j : Int) : Int).toNat * 3, none⟩))), (126, tLit (.pointer (some ⟨r, 0 + ((j : Int) : Int).toNat * 3, none⟩))), (127, tLit (.int .i64 (pa))), (128, tLit (.slice (some ⟨r, 0, none⟩) (m) (mc))), (129, tLit (.int .i64 ((j : Int)))), (130, tLit (.pointer (some ⟨r, 0 + ((j : Int) : Int).toNat * 3, none⟩))), (131, tLit (.pointer (some ⟨r, 0 + ((j : Int) : Int).toNat * 3 + 1, none⟩))), (132, tLit (.bool (pm))), (133, tFull1 base 5 1 1 [.int .u8 9]), (134, tLit (.slice (some ⟨r, 0, none⟩) (m) (mc))), (135, tLit (.int .i64 ((j : Int)))), (136, tLit (.pointer (some ⟨r, 0 + ((j : Int) : Int).toNat * 3, none⟩))), (137, tLit (.pointer (some ⟨r, 0 + ((j : Int) : Int).toNat * 3 + 2, none⟩))), (138, tLit (.slice (pA) (pn) (pc))), (139, tOwn base 5 1 (1 + pn) ([.int .u8 9] ++ pz.map (Value.int .u8))), (140, tPc3 base pa pm (1 + pn) ([.int .u8 9] ++ pz.map (Value.int .u8))), (141, tLit (.pointer (some ⟨r, 0 + ((j : Int) : Int).toNat * 3, none⟩)))] := ⟨_, rfl⟩
            have V4 : L.lookup 4 = some (tLit (.slice (some ⟨r, 0, none⟩) (m) (mc))) := by rw [hL]; rfl
            have V7 : L.lookup 7 = some (tLit (.int .i64 ((j : Int)))) := by rw [hL]; rfl
            have V121 : L.lookup 121 = some (tLit (.slice (some ⟨r, 0, none⟩) (m) (mc))) := by rw [hL]; rfl
            have V122 : L.lookup 122 = some (tLit (.int .i64 ((j : Int)))) := by rw [hL]; rfl
            have V123 : L.lookup 123 = some (tLit (.slice (some ⟨r, 0, none⟩) (m) (mc))) := by rw [hL]; rfl
            have V124 : L.lookup 124 = some (tLit (.int .i64 ((j : Int)))) := by rw [hL]; rfl
            have V125 : L.lookup 125 = some (tLit (.pointer (some ⟨r, 0 + ((j : Int) : Int).toNat * 3, none⟩))) := by rw [hL]; rfl
            have V126 : L.lookup 126 = some (tLit (.pointer (some ⟨r, 0 + ((j : Int) : Int).toNat * 3, none⟩))) := by rw [hL]; rfl
            have V127 : L.lookup 127 = some (tLit (.int .i64 (pa))) := by rw [hL]; rfl
            have V128 : L.lookup 128 = some (tLit (.slice (some ⟨r, 0, none⟩) (m) (mc))) := by rw [hL]; rfl
            have V129 : L.lookup 129 = some (tLit (.int .i64 ((j : Int)))) := by rw [hL]; rfl
            have V130 : L.lookup 130 = some (tLit (.pointer (some ⟨r, 0 + ((j : Int) : Int).toNat * 3, none⟩))) := by rw [hL]; rfl
            have V131 : L.lookup 131 = some (tLit (.pointer (some ⟨r, 0 + ((j : Int) : Int).toNat * 3 + 1, none⟩))) := by rw [hL]; rfl
            have V132 : L.lookup 132 = some (tLit (.bool (pm))) := by rw [hL]; rfl
            have V133 : L.lookup 133 = some (tFull1 base 5 1 1 [.int .u8 9]) := by rw [hL]; rfl
            have V134 : L.lookup 134 = some (tLit (.slice (some ⟨r, 0, none⟩) (m) (mc))) := by rw [hL]; rfl
            have V135 : L.lookup 135 = some (tLit (.int .i64 ((j : Int)))) := by rw [hL]; rfl
            have V136 : L.lookup 136 = some (tLit (.pointer (some ⟨r, 0 + ((j : Int) : Int).toNat * 3, none⟩))) := by rw [hL]; rfl
            have V137 : L.lookup 137 = some (tLit (.pointer (some ⟨r, 0 + ((j : Int) : Int).toNat * 3 + 2, none⟩))) := by rw [hL]; rfl
            have V138 : L.lookup 138 = some (tLit (.slice (pA) (pn) (pc))) := by rw [hL]; rfl
            have V139 : L.lookup 139 = some (tOwn base 5 1 (1 + pn) ([.int .u8 9] ++ pz.map (Value.int .u8))) := by rw [hL]; rfl
            have V140 : L.lookup 140 = some (tPc3 base pa pm (1 + pn) ([.int .u8 9] ++ pz.map (Value.int .u8))) := by rw [hL]; rfl
            have V141 : L.lookup 141 = some (tLit (.pointer (some ⟨r, 0 + ((j : Int) : Int).toNat * 3, none⟩))) := by rw [hL]; rfl
            have HK : KeepL L := by rw [hL]; exact ⟨keep_lit _, keep_lit _, keep_lit _, keep_lit _, keep_lit _, keep_lit _, keep_lit _, keep_lit _, keep_lit _, keep_lit _, keep_lit _, keep_lit _, keep_lit _, keep_lit _, keep_full1, keep_lit _, keep_lit _, keep_lit _, keep_lit _, keep_lit _, keep_own, keep_pc3, keep_lit _, trivial⟩
            refine wp_region_mix (by kernel_rfl) L 21 22 rfl [some 121, some 122, some 123, some 124, some 125, some 126, some 127, some 128, some 129, some 130, some 131, some 132, some 133, some 134, some 135, some 136, some 137, some 138, some 139, some 140, some 141] (by kernel_rfl) (by kernel_rfl) (by kernel_rfl) 2 (by rw [hL]; intro x hx; simp only [List.take_succ_cons, List.take_zero, List.mem_cons, List.not_mem_nil, or_false] at hx; rcases hx with rfl | rfl <;> rfl) (by rw [hL]; rfl) ?_ ?_
            · clear hL
              exact ⟨m_move HK gokm_none (om_tmp V4) V121,
                m_move HK gokm_none (om_tmp V7) V122,
                m_move HK gokm_none (om_tmp V4) V123,
                m_move HK gokm_none (om_tmp V7) V124,
                m_index HK gokm_none (s := 3) (by kernel_rfl) (by omega) (by omega) (om_tmp V123) (om_tmp V124) rfl V125,
                m_field HK gokm_none (f := 0) (s := 1) (by kernel_rfl) (by omega) (om_tmp V125) rfl V126,
                m_load1 HK gokm_none (by kernel_rfl) (om_tmp V126) p0 V127,
                m_move HK gokm_none (om_tmp V4) V128,
                m_move HK gokm_none (om_tmp V7) V129,
                m_index HK gokm_none (s := 3) (by kernel_rfl) (by omega) (by omega) (om_tmp V128) (om_tmp V129) rfl V130,
                m_field HK gokm_none (f := 1) (s := 1) (by kernel_rfl) (by omega) (om_tmp V130) rfl V131,
                m_load1 HK gokm_none (by kernel_rfl) (om_tmp V131) p1 V132,
                m_row1 HK gokm_none Try.underlying22 hi0 hz0 rfl hz1 hbW V133,
                m_move HK gokm_none (om_tmp V4) V134,
                m_move HK gokm_none (om_tmp V7) V135,
                m_index HK gokm_none (s := 3) (by kernel_rfl) (by omega) (by omega) (om_tmp V134) (om_tmp V135) rfl V136,
                m_field HK gokm_none (f := 2) (s := 1) (by kernel_rfl) (by omega) (om_tmp V136) rfl V137,
                m_load1 HK gokm_none (by kernel_rfl) (om_tmp V137) p2 V138,
                m_appendl HK gokm_none Try.underlying22 hi0 hz0 hz1 hz2 rfl (by decide) (om_tmp V133) (om_tmp V138) slQ (Nat.le_refl _) (ones_u8 pz) (by unfold maxLen; omega) (by omega) hbW V139,
                m_build HK gokm_none V140 (fun o b w hm ho => by
                  have ea : b.eval (.tmp 127) = .int .i64 pa := (om_tmp V127) o b w (hm (0, .tmp 127) (by simp)) ho
                  have em : b.eval (.tmp 132) = .bool pm := (om_tmp V132) o b w (hm (1, .tmp 132) (by simp)) ho
                  obtain ⟨A1, c1, e0, q1, q2, own⟩ := (om_tmp V139) o b w (hm (2, .tmp 139) (by simp)) ho
                  exact ⟨#[.int .i64 pa, .bool pm, .slice A1 (1 + pn) c1], by simp only [List.map_cons, List.map_nil, ea, em, e0]; kernel_rfl, A1, c1, rfl, q1, q2, own⟩),
                m_index HK gokm_none (s := 3) (by kernel_rfl) (by omega) (by omega) (om_tmp V121) (om_tmp V122) rfl V141,
                trivial⟩
            intro vs w5 hw5 hk5
            have k121 : vs 121 = .slice (some ⟨r, 0, none⟩) (m) (mc) := hk5 0 121 _ (by omega) rfl V121
            have k122 : vs 122 = .int .i64 ((j : Int)) := hk5 1 122 _ (by omega) rfl V122
            have k123 : vs 123 = .slice (some ⟨r, 0, none⟩) (m) (mc) := hk5 2 123 _ (by omega) rfl V123
            have k124 : vs 124 = .int .i64 ((j : Int)) := hk5 3 124 _ (by omega) rfl V124
            have k125 : vs 125 = .pointer (some ⟨r, 0 + ((j : Int) : Int).toNat * 3, none⟩) := hk5 4 125 _ (by omega) rfl V125
            have k126 : vs 126 = .pointer (some ⟨r, 0 + ((j : Int) : Int).toNat * 3, none⟩) := hk5 5 126 _ (by omega) rfl V126
            have k127 : vs 127 = .int .i64 (pa) := hk5 6 127 _ (by omega) rfl V127
            have k128 : vs 128 = .slice (some ⟨r, 0, none⟩) (m) (mc) := hk5 7 128 _ (by omega) rfl V128
            have k129 : vs 129 = .int .i64 ((j : Int)) := hk5 8 129 _ (by omega) rfl V129
            have k130 : vs 130 = .pointer (some ⟨r, 0 + ((j : Int) : Int).toNat * 3, none⟩) := hk5 9 130 _ (by omega) rfl V130
            have k131 : vs 131 = .pointer (some ⟨r, 0 + ((j : Int) : Int).toNat * 3 + 1, none⟩) := hk5 10 131 _ (by omega) rfl V131
            have k132 : vs 132 = .bool (pm) := hk5 11 132 _ (by omega) rfl V132
            have k133 := hk5 12 133 _ (by omega) rfl V133
            have k134 : vs 134 = .slice (some ⟨r, 0, none⟩) (m) (mc) := hk5 13 134 _ (by omega) rfl V134
            have k135 : vs 135 = .int .i64 ((j : Int)) := hk5 14 135 _ (by omega) rfl V135
            have k136 : vs 136 = .pointer (some ⟨r, 0 + ((j : Int) : Int).toNat * 3, none⟩) := hk5 15 136 _ (by omega) rfl V136
            have k137 : vs 137 = .pointer (some ⟨r, 0 + ((j : Int) : Int).toNat * 3 + 2, none⟩) := hk5 16 137 _ (by omega) rfl V137
            have k138 : vs 138 = .slice (pA) (pn) (pc) := hk5 17 138 _ (by omega) rfl V138
            have k139 := hk5 18 139 _ (by omega) rfl V139
            have k140 := hk5 19 140 _ (by omega) rfl V140
            have k141 : vs 141 = .pointer (some ⟨r, 0 + ((j : Int) : Int).toNat * 3, none⟩) := hk5 20 141 _ (by omega) rfl V141
            clear hk5 HK hL V4 V7 V121 V122 V123 V124 V125 V126 V127 V128 V129 V130 V131 V132 V133 V134 V135 V136 V137 V138 V139 V140 V141
            obtain ⟨A9', c9', e140, _, _, own9'⟩ := k140
            have R5' := R10.new hw5
            have bN := New.below hw5 b10 b10.size
            have E := (R5'.weak (show (100 : Int) ≤ 101 by omega)).put hj ⟨pa, pm, A9', 1 + pn, c9', 9 :: pz⟩ (by rw [show (9 :: pz : List Int).map (Value.int .u8) = [.int .u8 9] ++ pz.map (Value.int .u8) from rfl]; exact own9') (fun z hz => by
              rcases List.mem_cons.1 hz with rfl | h
              · omega
              · exact sy z h) ⟨by simp only; omega, by simp only; omega, by simp only; omega⟩
            have F := setP_below (g := r) (o := j * 3) (p := ⟨pa, pm, A9', 1 + pn, c9', 9 :: pz⟩) bN (by omega)
            unfold setP at E F
            simp only [Pv.body] at E F
            have hf5 := R5'.row.frozenAt
            obtain ⟨q0, q1, q2⟩ := R5'.cells hj
            rw [hjo] at *
            simp only [putL, Act.put, List.setIfInBounds_toArray, List.set_cons_zero, List.set_cons_succ, k121, k122, k123, k124, k125, k126, k127, k128, k129, k130, k131, k132, k134, k135, k136, k137, k138, k141, e140]
            go_wp2_with fail
            go_ret
            exact DrawnPieces.mk (by omega) E hB (by omega) F
          · go_wp2_with fail
            have R11 := R10.alloc (.cells #[.int .i64 (-1), .int .i64 81] 3)
            have D11 := D10.alloc (.cells #[.int .i64 (-1), .int .i64 81] 3)
            have B11 := Blk.new w10 3 #[.int .i64 (-1), .int .i64 81]
            refine (pick_any _ _ _ _ D11.rd (by omega) (by omega) (by omega)).mono ?_
            rintro e w12 ⟨y, y0, y1, rfl, hr12, hg12⟩
            have D12 := D11.picked hr12 hg12
            have R12 := R11.picked hg12 hgw
            have B12 := B11.grown hg12 (by have := D10.rd.lt; intro he; injection he with he; omega)
            have b12 := D12.out b1 hg
            obtain ⟨i0', i1', _⟩ := B12.two
            obtain ⟨y', hy0, hy1, hy'⟩ : ∃ y' : Int, -1 ≤ y' ∧ y' ≤ 100 ∧ w12.cell? ⟨w10.heap.size, y.toNat, none⟩ = some (.int .i64 y') := by
              have hc : y = 0 ∨ y = 1 := by omega
              rcases hc with rfl | rfl
              · exact ⟨_, by omega, by omega, i0'⟩
              · exact ⟨_, by omega, by omega, i1'⟩
            replace y1 : y < 2 := by omega
            have E := R12.set0 hj y' (Int.le_refl _) ⟨hy0, hy1⟩
            have F := b12.setCell (p := ⟨r, j * 3, none⟩) (show w.heap.size ≤ r by omega) (.int .i64 y')
            obtain ⟨p0, p1, p2⟩ := R12.cells hj
            have hf := R12.row.frozenAt
            clear B11 B12 R11 D11 i0' i1' hr12 hg12
            go_wp2_with fail
            go_ret
            exact DrawnPieces.mk (by omega) E hB (by omega) F
end Go.Proofs.Ytljbkppeoedcjaa
