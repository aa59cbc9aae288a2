/-
  GetPacket of impl: its contract.
-/
import Derived.Test.YtleammkpfknngaaGet
import Derived.Test.YtleammkpfknngaaMixB
import Derived.Test.YtleammkpfknngaaGet0
namespace Go.Proofs.Ytleammkpfknngaa
open Go.RowKit
set_option linter.unusedVariables false

set_option maxRecDepth 10000 in
set_option maxHeartbeats 1600000 in
theorem iGetPacket_any (A : Option Addr) (n c : Nat) (zs : List Int) (w : World) {lo hi : Nat} (hs : Sl w lo hi 1 A n (zs.map (Value.int .u8))) (hhi : hi ≤ w.heap.size) (hnc : n ≤ c) (hc : c ≤ maxLen) (hn : n ≤ 1048576) (hby : AllByte zs) :
    Calls Try.prog 27 #[.slice A n c] w (RetPkt w (getF zs 4) (getF zs 5) (getF zs 1) (getF zs 2) (getB zs) (getV zs)) := by
  unfold maxLen at hc
  have hcm : c ≤ maxLen := by unfold maxLen; omega
  have HL := Lib.hid hs.len
  obtain ⟨i0, hi0, hz0, hz1, hz2⟩ := info_parts infoByte
  obtain ⟨i5, hi5, hz5, _, _⟩ := info_parts infoP
  by_cases h6 : 6 ≤ n
  · obtain ⟨b, off, hA, hlo, hbhi, hcell⟩ := hs.2 (by omega)
    subst hA
    have hb0 : b < w.heap.size := by omega
    have cell : ∀ i, i < n → w.cell? ⟨b, off + i, none⟩ = some (.int .u8 (zs[i]?.getD 0)) := fun i hi => by
      have hl : i < zs.length := by rw [HL.out]; exact hi
      exact hcell i _ (by simp [List.getElem?_eq_getElem hl])
    have y1 := hby.at_ 1
    have y2 := hby.at_ 2
    have y4 := hby.at_ 4
    have y5 := hby.at_ 5
    have k1 := cell 1 (by omega)
    have k2 := cell 2 (by omega)
    have k4 := cell 4 (by omega)
    have k5 := cell 5 (by omega)
    have hvl := getV_long (zs := zs) (by rw [HL.out]; exact h6)
    obtain ⟨z1, e1⟩ : ∃ x, zs[1]?.getD 0 = x := ⟨_, rfl⟩
    obtain ⟨z2, e2⟩ : ∃ x, zs[2]?.getD 0 = x := ⟨_, rfl⟩
    obtain ⟨z4, e4⟩ : ∃ x, zs[4]?.getD 0 = x := ⟨_, rfl⟩
    obtain ⟨z5, e5⟩ : ∃ x, zs[5]?.getD 0 = x := ⟨_, rfl⟩
    obtain ⟨rs, er⟩ : ∃ x, putP z4 z5 z1 z2 (zs.drop 6) = x := ⟨_, rfl⟩
    rw [e1, e2, e4, e5, er] at hvl
    have hF : getV zs = true → getF zs 4 = z4 ∧ getF zs 5 = z5 ∧ getF zs 1 = z1 ∧ getF zs 2 = z2 ∧ getB zs = zs.drop 6 := fun h => by
      unfold getF getB
      rw [h, if_pos rfl, if_pos rfl, if_pos rfl, if_pos rfl, if_pos rfl]
      exact ⟨e4, e5, e1, e2, rfl⟩
    have HF := Lib.hid hF
    have HV := Lib.hid hvl
    have HR := Lib.hid er
    have HD : Hid ((zs.drop 6).length = n - 6) := Lib.hid (by rw [List.length_drop, HL.out])
    have hby6 : AllByte (zs.drop 6) := fun z hz => hby z (List.mem_of_mem_drop hz)
    rw [e1] at k1 y1
    rw [e2] at k2 y2
    rw [e4] at k4 y4
    rw [e5] at k5 y5
    clear e1 e2 e4 e5 er hcell cell hvl hF
    obtain ⟨w0, hw0⟩ : ∃ w0, w0 = w.alloc (.cells #[.int .i64 0, .int .i64 0, .int .i64 0, .int .i64 0, .slice none 0 0] 27) := ⟨_, rfl⟩
    have b0 : Below w.heap.size w w0 := by rw [hw0]; exact (Below.refl _ _).alloc (Nat.le_refl _) _
    have z0 : w0.heap.size = w.heap.size + 1 := by rw [hw0]; simp
    have K0 : Blk w0 w.heap.size 27 #[.int .i64 0, .int .i64 0, .int .i64 0, .int .i64 0, .slice none 0 0] := by rw [hw0]; exact Blk.new _ _ _
    replace k1 := (b0.cell (p := ⟨b, off + 1, none⟩) hb0).trans k1
    replace k2 := (b0.cell (p := ⟨b, off + 2, none⟩) hb0).trans k2
    replace k4 := (b0.cell (p := ⟨b, off + 4, none⟩) hb0).trans k4
    replace k5 := (b0.cell (p := ⟨b, off + 5, none⟩) hb0).trans k5
    have s0 := hs.below b0 hhi
    have hz0' : hi ≤ w0.heap.size := by omega
    go_enter Try.func27, Try.ntmps27
    go_wp2
    rw [← hw0]
    clear hw0
    obtain ⟨L, hL⟩ : ∃ L : List (Nat × VT), L = [(0, tLit (.slice (some ⟨b, off, none⟩) (n) (c))), (9, tLit (.slice (some ⟨b, off, none⟩) (n) (c))), (10, tLit (.pointer (some ⟨b, off + 1, none⟩))), (11, tLit (.int .u8 (z1))), (12, tLit (.int .i64 (z1))), (13, tLit (.slice (some ⟨b, off, none⟩) (n) (c))), (14, tLit (.pointer (some ⟨b, off + 2, none⟩))), (15, tLit (.int .u8 (z2))), (16, tLit (.int .i64 (z2))), (17, tLit (.slice (some ⟨b, off, none⟩) (n) (c))), (18, tLit (.pointer (some ⟨b, off + 4, none⟩))), (19, tLit (.int .u8 (z4))), (20, tLit (.int .i64 (z4))), (21, tLit (.slice (some ⟨b, off, none⟩) (n) (c))), (22, tLit (.pointer (some ⟨b, off + 5, none⟩))), (23, tLit (.int .u8 (z5))), (24, tLit (.int .i64 (z5))), (25, tLit (.slice (some ⟨b, off, none⟩) (n) (c))), (26, tSl lo 1 (n - 6) ((zs.map (Value.int .u8)).drop 6)), (27, tOwn w0.heap.size 5 1 (n - 6) ((zs.map (Value.int .u8)).drop 6)), (28, tPkt5 w0.heap.size z4 z5 z1 z2 (n - 6) ((zs.map (Value.int .u8)).drop 6)), (4, tBlk w0.heap.size 27 #[.int .i64 0, .int .i64 0, .int .i64 0, .int .i64 0, .slice none 0 0])] := ⟨_, rfl⟩
    have V0 : L.lookup 0 = some (tLit (.slice (some ⟨b, off, none⟩) (n) (c))) := by rw [hL]; rfl
    have V9 : L.lookup 9 = some (tLit (.slice (some ⟨b, off, none⟩) (n) (c))) := by rw [hL]; rfl
    have V10 : L.lookup 10 = some (tLit (.pointer (some ⟨b, off + 1, none⟩))) := by rw [hL]; rfl
    have V11 : L.lookup 11 = some (tLit (.int .u8 (z1))) := by rw [hL]; rfl
    have V12 : L.lookup 12 = some (tLit (.int .i64 (z1))) := by rw [hL]; rfl
    have V13 : L.lookup 13 = some (tLit (.slice (some ⟨b, off, none⟩) (n) (c))) := by rw [hL]; rfl
    have V14 : L.lookup 14 = some (tLit (.pointer (some ⟨b, off + 2, none⟩))) := by rw [hL]; rfl
    have V15 : L.lookup 15 = some (tLit (.int .u8 (z2))) := by rw [hL]; rfl
    have V16 : L.lookup 16 = some (tLit (.int .i64 (z2))) := by rw [hL]; rfl
    have V17 : L.lookup 17 = some (tLit (.slice (some ⟨b, off, none⟩) (n) (c))) := by rw [hL]; rfl
    have V18 : L.lookup 18 = some (tLit (.pointer (some ⟨b, off + 4, none⟩))) := by rw [hL]; rfl
    have V19 : L.lookup 19 = some (tLit (.int .u8 (z4))) := by rw [hL]; rfl
    have V20 : L.lookup 20 = some (tLit (.int .i64 (z4))) := by rw [hL]; rfl
    have V21 : L.lookup 21 = some (tLit (.slice (some ⟨b, off, none⟩) (n) (c))) := by rw [hL]; rfl
    have V22 : L.lookup 22 = some (tLit (.pointer (some ⟨b, off + 5, none⟩))) := by rw [hL]; rfl
    have V23 : L.lookup 23 = some (tLit (.int .u8 (z5))) := by rw [hL]; rfl
    have V24 : L.lookup 24 = some (tLit (.int .i64 (z5))) := by rw [hL]; rfl
    have V25 : L.lookup 25 = some (tLit (.slice (some ⟨b, off, none⟩) (n) (c))) := by rw [hL]; rfl
    have V26 : L.lookup 26 = some (tSl lo 1 (n - 6) ((zs.map (Value.int .u8)).drop 6)) := by rw [hL]; rfl
    have V27 : L.lookup 27 = some (tOwn w0.heap.size 5 1 (n - 6) ((zs.map (Value.int .u8)).drop 6)) := by rw [hL]; rfl
    have V28 : L.lookup 28 = some (tPkt5 w0.heap.size z4 z5 z1 z2 (n - 6) ((zs.map (Value.int .u8)).drop 6)) := by rw [hL]; rfl
    have V4 : L.lookup 4 = some (tBlk w0.heap.size 27 #[.int .i64 0, .int .i64 0, .int .i64 0, .int .i64 0, .slice none 0 0]) := by rw [hL]; rfl
    have HK : KeepL L := by rw [hL]; exact ⟨keep_lit _, keep_lit _, keep_lit _, keep_lit _, keep_lit _, keep_lit _, keep_lit _, keep_lit _, keep_lit _, keep_lit _, keep_lit _, keep_lit _, keep_lit _, keep_lit _, keep_lit _, keep_lit _, keep_lit _, keep_lit _, keep_sl, keep_own, keep_pkt5, keep_blk, trivial⟩
    refine wp_region_mix (by kernel_rfl) L 21 22 rfl [some 9, some 10, some 11, some 12, some 13, some 14, some 15, some 16, some 17, some 18, some 19, some 20, some 21, some 22, some 23, some 24, some 25, some 26, some 27, some 28, some 4] (by kernel_rfl) (by kernel_rfl) (by kernel_rfl) 1 (by rw [hL]; intro x hx; simp only [List.take_succ_cons, List.take_zero, List.mem_cons, List.not_mem_nil, or_false] at hx; rcases hx with rfl <;> rfl) (by rw [hL]; rfl) ?_ ?_
    · clear hL
      exact ⟨m_move HK gokm_none (om_tmp V0) V9,
    m_index HK gokm_none (s := 1) (by kernel_rfl) (by omega) (by omega) (om_tmp V9) om_const rfl V10,
    m_load1 HK gokm_none (by kernel_rfl) (om_tmp V10) k1 V11,
    m_convi HK gokm_none (om_tmp V11) (by kernel_rfl) (by kernel_rfl) (by first | rfl | exact IntWalk.i64_in _ (by omega)) V12,
    m_move HK gokm_none (om_tmp V0) V13,
    m_index HK gokm_none (s := 1) (by kernel_rfl) (by omega) (by omega) (om_tmp V13) om_const rfl V14,
    m_load1 HK gokm_none (by kernel_rfl) (om_tmp V14) k2 V15,
    m_convi HK gokm_none (om_tmp V15) (by kernel_rfl) (by kernel_rfl) (by first | rfl | exact IntWalk.i64_in _ (by omega)) V16,
    m_move HK gokm_none (om_tmp V0) V17,
    m_index HK gokm_none (s := 1) (by kernel_rfl) (by omega) (by omega) (om_tmp V17) om_const rfl V18,
    m_load1 HK gokm_none (by kernel_rfl) (om_tmp V18) k4 V19,
    m_convi HK gokm_none (om_tmp V19) (by kernel_rfl) (by kernel_rfl) (by first | rfl | exact IntWalk.i64_in _ (by omega)) V20,
    m_move HK gokm_none (om_tmp V0) V21,
    m_index HK gokm_none (s := 1) (by kernel_rfl) (by omega) (by omega) (om_tmp V21) om_const rfl V22,
    m_load1 HK gokm_none (by kernel_rfl) (om_tmp V22) k5 V23,
    m_convi HK gokm_none (om_tmp V23) (by kernel_rfl) (by kernel_rfl) (by first | rfl | exact IntWalk.i64_in _ (by omega)) V24,
    m_move HK gokm_none (om_tmp V0) V25,
    m_cutl HK gokm_none (by kernel_rfl) (om_tmp V25) s0 hz0' hnc hcm om_const (by omega) (by omega) V26,
    m_append0 HK gokm_none Try.underlying22 hi0 hz0 hz1 hz2 rfl (by decide) om_const (om_tmp V26) (one_u8d zs 6) (by unfold maxLen; omega) (by omega) (Nat.le_refl _) V27,
    m_build HK gokm_none V28 (fun o b w hm ho => by
      have ez1 : b.eval (.tmp 12) = .int .i64 z1 := (om_tmp V12) o b w (hm (2, .tmp 12) (by simp)) ho
      have ez2 : b.eval (.tmp 16) = .int .i64 z2 := (om_tmp V16) o b w (hm (3, .tmp 16) (by simp)) ho
      have ez4 : b.eval (.tmp 20) = .int .i64 z4 := (om_tmp V20) o b w (hm (0, .tmp 20) (by simp)) ho
      have ez5 : b.eval (.tmp 24) = .int .i64 z5 := (om_tmp V24) o b w (hm (1, .tmp 24) (by simp)) ho
      obtain ⟨A1, c1, e0, q1, q2, own⟩ := (om_tmp V27) o b w (hm (4, .tmp 27) (by simp)) ho
      exact ⟨#[.int .i64 z4, .int .i64 z5, .int .i64 z1, .int .i64 z2, .slice A1 (n - 6) c1], by simp only [List.map_cons, List.map_nil, ez1, ez2, ez4, ez5, e0]; kernel_rfl, A1, c1, rfl, q1, q2, own⟩),
    m_alloc HK gokm_none hi5 hz5 rfl (Nat.le_refl _) V4,
    trivial⟩
    intro vs w5 hw5 hk5
    have k9 : vs 9 = .slice (some ⟨b, off, none⟩) (n) (c) := hk5 0 9 _ (by omega) rfl V9
    have k10 : vs 10 = .pointer (some ⟨b, off + 1, none⟩) := hk5 1 10 _ (by omega) rfl V10
    have k11 : vs 11 = .int .u8 (z1) := hk5 2 11 _ (by omega) rfl V11
    have k12 : vs 12 = .int .i64 (z1) := hk5 3 12 _ (by omega) rfl V12
    have k13 : vs 13 = .slice (some ⟨b, off, none⟩) (n) (c) := hk5 4 13 _ (by omega) rfl V13
    have k14 : vs 14 = .pointer (some ⟨b, off + 2, none⟩) := hk5 5 14 _ (by omega) rfl V14
    have k15 : vs 15 = .int .u8 (z2) := hk5 6 15 _ (by omega) rfl V15
    have k16 : vs 16 = .int .i64 (z2) := hk5 7 16 _ (by omega) rfl V16
    have k17 : vs 17 = .slice (some ⟨b, off, none⟩) (n) (c) := hk5 8 17 _ (by omega) rfl V17
    have k18 : vs 18 = .pointer (some ⟨b, off + 4, none⟩) := hk5 9 18 _ (by omega) rfl V18
    have k19 : vs 19 = .int .u8 (z4) := hk5 10 19 _ (by omega) rfl V19
    have k20 : vs 20 = .int .i64 (z4) := hk5 11 20 _ (by omega) rfl V20
    have k21 : vs 21 = .slice (some ⟨b, off, none⟩) (n) (c) := hk5 12 21 _ (by omega) rfl V21
    have k22 : vs 22 = .pointer (some ⟨b, off + 5, none⟩) := hk5 13 22 _ (by omega) rfl V22
    have k23 : vs 23 = .int .u8 (z5) := hk5 14 23 _ (by omega) rfl V23
    have k24 : vs 24 = .int .i64 (z5) := hk5 15 24 _ (by omega) rfl V24
    have k25 : vs 25 = .slice (some ⟨b, off, none⟩) (n) (c) := hk5 16 25 _ (by omega) rfl V25
    have k26 := hk5 17 26 _ (by omega) rfl V26
    have k27 := hk5 18 27 _ (by omega) rfl V27
    have k28 := hk5 19 28 _ (by omega) rfl V28
    have k4 := hk5 20 4 _ (by omega) rfl V4
    clear hk5 HK hL V0 V9 V10 V11 V12 V13 V14 V15 V16 V17 V18 V19 V20 V21 V22 V23 V24 V25 V26 V27 V28 V4
    have k4' := k4
    have k5' := k28
    clear k9 k10 k11 k12 k13 k14 k15 k16 k17 k18 k19 k20 k21 k22 k23 k24 k25 k26 k27 k28 k4
    obtain ⟨q, e4, hq, Q4⟩ := k4'
    obtain ⟨A1, c1, eb, q1, q2, own5⟩ := k5'
    have hne : (Value.slice A1 (n - 6) c1).ownBlock ≠ some q := own_ne own5 Q4 (by decide)
    have K5 := New.blk hw5 K0
    have b5 := New.below hw5 b0 (by omega)
    have s5 := New.sl hw5 s0 hz0'
    obtain ⟨f0, f1, f2, f3, f4, ff⟩ := Q4.five_
    simp only [putL, e4, eb]
    clear k1 k2 y1 y2 y4 y5 K0 b0 s0
    go_wp2_with fail
    have hz5s := hw5.size
    have Q6 := Q4.setFive (.int .i64 z4) (.int .i64 z5) (.int .i64 z1) (.int .i64 z2) (.slice A1 (n - 6) c1)
    have K6 := K5.farFive (show w.heap.size ≠ q by omega) (.int .i64 z4) (.int .i64 z5) (.int .i64 z1) (.int .i64 z2) (.slice A1 (n - 6) c1)
    have own6 := own_set5 own5 hne (.int .i64 z4) (.int .i64 z5) (.int .i64 z1) (.int .i64 z2) (.slice A1 (n - 6) c1)
    have hsq : ∀ j u, ∀ wx : World, Sl wx lo hi 1 (some ⟨b, off, none⟩) n (zs.map (Value.int .u8)) → Sl (wx.setCell ⟨q, j, none⟩ u) lo hi 1 (some ⟨b, off, none⟩) n (zs.map (Value.int .u8)) := fun j u wx h => h.setCell (.inl (show hi ≤ q by omega)) u
    have s6' := hsq 4 (.slice A1 (n - 6) c1) _ (hsq 3 (.int .i64 z2) _ (hsq 2 (.int .i64 z1) _ (hsq 1 (.int .i64 z5) _ (hsq 0 (.int .i64 z4) _ s5))))
    have b6 := ((((b5.setCell (p := ⟨q, 0, none⟩) (show w.heap.size ≤ q by omega) (.int .i64 z4)).setCell (p := ⟨q, 1, none⟩) (show w.heap.size ≤ q by omega) (.int .i64 z5)).setCell (p := ⟨q, 2, none⟩) (show w.heap.size ≤ q by omega) (.int .i64 z1)).setCell (p := ⟨q, 3, none⟩) (show w.heap.size ≤ q by omega) (.int .i64 z2)).setCell (p := ⟨q, 4, none⟩) (show w.heap.size ≤ q by omega) (.slice A1 (n - 6) c1)
    obtain ⟨w6, hw6⟩ : ∃ w6, w6 = set5 w5 q (.int .i64 z4) (.int .i64 z5) (.int .i64 z1) (.int .i64 z2) (.slice A1 (n - 6) c1) := ⟨_, rfl⟩
    unfold set5 at hw6 Q6 K6 own6
    rw [← hw6] at Q6 K6 own6 s6' b6 ⊢
    clear hw6 Q4 K5 own5 s5 b5 f0 f1 f2 f3 f4 ff hsq hne hw5
    have hq1 := Q6.lt
    have hz6 := b6.size
    have hz6' : hi ≤ w6.heap.size := by omega
    rw [← List.map_drop] at own6
    have own6 := own_more own6 (show w.heap.size ≤ w0.heap.size by omega)
    have hby_rs : AllByte rs := by rw [← HR.out]; exact putP_byte hby6
    obtain ⟨g0, g1, g2, g3, g4⟩ := Q6.five
    have c5 : ∀ (j : Nat) (v : Value), [Value.int .i64 z4, .int .i64 z5, .int .i64 z1, .int .i64 z2, .slice A1 (n - 6) c1][j]? = some v → w6.cell? ⟨q, 0 + j, none⟩ = some v := by intro j v hj; rcases j with _ | _ | _ | _ | _ | j <;> simp at hj <;> subst hj <;> assumption
    have hbr := hby_rs
    by_cases hv : pktV z4 z5 z1 z2 (n - 6) = true
    · by_cases hq : (rs == zs) = true
      · have hyes : getV zs = true := by rw [HV.out]; exact hq
        have HY := Lib.hid hyes
        clear hyes
        obtain ⟨L, hL⟩ : ∃ L : List (Nat × VT), L = [(0, tLit (.slice (some ⟨b, off, none⟩) (n) (c))), (4, tLit (.pointer (some ⟨q, 0, none⟩))), (29, tLit (.agg #[.int .i64 z4, .int .i64 z5, .int .i64 z1, .int .i64 z2, .slice A1 (n - 6) c1])), (30, tLit (.bool true)), (31, tLit (.bool false)), (32, tLit (.bool false)), (33, tLit (.agg #[.int .i64 z4, .int .i64 z5, .int .i64 z1, .int .i64 z2, .slice A1 (n - 6) c1])), (34, tOwn w6.heap.size 5 1 rs.length (rs.map (Value.int .u8))), (35, tLit (.string (strOfNums rs))), (36, tLit (.slice (some ⟨b, off, none⟩) (n) (c))), (37, tLit (.string (strOfNums zs))), (38, tLit (.bool false)), (39, tLit (.bool false))] := ⟨_, rfl⟩
        have V0 : L.lookup 0 = some (tLit (.slice (some ⟨b, off, none⟩) (n) (c))) := by rw [hL]; rfl
        have V4 : L.lookup 4 = some (tLit (.pointer (some ⟨q, 0, none⟩))) := by rw [hL]; rfl
        have V29 : L.lookup 29 = some (tLit (.agg #[.int .i64 z4, .int .i64 z5, .int .i64 z1, .int .i64 z2, .slice A1 (n - 6) c1])) := by rw [hL]; rfl
        have V30 : L.lookup 30 = some (tLit (.bool true)) := by rw [hL]; rfl
        have V31 : L.lookup 31 = some (tLit (.bool false)) := by rw [hL]; rfl
        have V32 : L.lookup 32 = some (tLit (.bool false)) := by rw [hL]; rfl
        have V33 : L.lookup 33 = some (tLit (.agg #[.int .i64 z4, .int .i64 z5, .int .i64 z1, .int .i64 z2, .slice A1 (n - 6) c1])) := by rw [hL]; rfl
        have V34 : L.lookup 34 = some (tOwn w6.heap.size 5 1 rs.length (rs.map (Value.int .u8))) := by rw [hL]; rfl
        have V35 : L.lookup 35 = some (tLit (.string (strOfNums rs))) := by rw [hL]; rfl
        have V36 : L.lookup 36 = some (tLit (.slice (some ⟨b, off, none⟩) (n) (c))) := by rw [hL]; rfl
        have V37 : L.lookup 37 = some (tLit (.string (strOfNums zs))) := by rw [hL]; rfl
        have V38 : L.lookup 38 = some (tLit (.bool false)) := by rw [hL]; rfl
        have V39 : L.lookup 39 = some (tLit (.bool false)) := by rw [hL]; rfl
        have HK : KeepL L := by rw [hL]; exact ⟨keep_lit _, keep_lit _, keep_lit _, keep_lit _, keep_lit _, keep_lit _, keep_lit _, keep_own, keep_lit _, keep_lit _, keep_lit _, keep_lit _, keep_lit _, trivial⟩
        refine wp_region_mix0 (by kernel_rfl) L 11 rfl [some 29, some 30, some 31, some 32, some 33, some 34, some 35, some 36, some 37, some 38, some 39] (by kernel_rfl) (by kernel_rfl) (by kernel_rfl) 2 (by rw [hL]; intro x hx; simp only [List.take_succ_cons, List.take_zero, List.mem_cons, List.not_mem_nil, or_false] at hx; rcases hx with rfl | rfl <;> rfl) (by rw [hL]; rfl) ?_ ?_
        · clear hL
          exact ⟨m_loadn HK gokm_none (by kernel_rfl) (by kernel_rfl) (om_tmp V4) c5 V29,
    m_call HK gokm_none Try.func15 (by kernel_rfl) (by kernel_rfl) V30 (fun o b w hm hG ho => by
      have e : b.eval (.tmp 29) = .agg #[.int .i64 z4, .int .i64 z5, .int .i64 z1, .int .i64 z2, .slice A1 (n - 6) c1] := (om_tmp V29) o b w (hm _ (by simp)) ho
      rw [show (#[.tmp 29] : Array Operand).map b.eval = #[.agg #[.int .i64 z4, .int .i64 z5, .int .i64 z1, .int .i64 z2, .slice A1 (n - 6) c1]] from by simp [e]]
      exact (iPacketValid_any _ _ _ _ _ _ _ _).mono fun e w' h => ⟨_, h.1, by rw [← h.2]; exact GrF.alloc _ _ _, by rw [hv]; rfl⟩),
    m_not HK gokm_none (om_tmp V30) rfl V31,
    m_move HK gokm_none (om_tmp V31) V32,
    m_loadn HK (gokm_some rfl V32) (by kernel_rfl) (by kernel_rfl) (om_tmp V4) c5 V33,
    m_call HK (gokm_some rfl V32) Try.func20 (by kernel_rfl) (by kernel_rfl) V34 (fun o b w hm hG ho => by
      have e : b.eval (.tmp 33) = .agg #[.int .i64 z4, .int .i64 z5, .int .i64 z1, .int .i64 z2, .slice A1 (n - 6) c1] := (om_tmp V33) o b w (hm _ (by simp)) ho
      rw [show (#[.tmp 33] : Array Operand).map b.eval = #[.agg #[.int .i64 z4, .int .i64 z5, .int .i64 z1, .int .i64 z2, .slice A1 (n - 6) c1]] from by simp [e]]
      refine (iPutPacket_any _ _ _ _ _ _ _ (zs.drop 6) _ (Sl.of_own (New.own hG own6.drew)) (Nat.le_refl _) (by omega) hby6).mono fun e w' h => ?_
      rw [HR.out] at h
      obtain ⟨A2, c2, rfl, own, b⟩ := h.form
      obtain ⟨A3, c3, e3, q1, q2⟩ := own_is_slice own
      cases e3
      exact ⟨_, rfl, New.of_below b, _, _, rfl, q1, q2, own_more own hG.size⟩),
    m_str HK (gokm_some rfl V32) ((om_tmp V34).imp_ fun v w h => h.sl) Try.underlying22 Try.underlying5 Try.underlying9 V35,
    m_move HK (gokm_some rfl V32) (om_tmp V0) V36,
    m_strl HK (gokm_some rfl V32) (om_tmp V36) s6' hz6' Try.underlying22 Try.underlying5 Try.underlying9 V37,
    m_neqs HK (gokm_some rfl V32) (om_tmp V35) (om_tmp V37) (by rw [strOf_beq hbr hby, hq]; rfl) V38,
    m_pickf HK gokm_none (om_tmp V32) (om_tmp V38) V39,
    trivial⟩
        intro vs w7 hw7 hk5
        have k29 : vs 29 = .agg #[.int .i64 z4, .int .i64 z5, .int .i64 z1, .int .i64 z2, .slice A1 (n - 6) c1] := hk5 0 29 _ (by omega) rfl V29
        have k30 : vs 30 = .bool true := hk5 1 30 _ (by omega) rfl V30
        have k31 : vs 31 = .bool false := hk5 2 31 _ (by omega) rfl V31
        have k32 : vs 32 = .bool false := hk5 3 32 _ (by omega) rfl V32
        have k33 : vs 33 = .agg #[.int .i64 z4, .int .i64 z5, .int .i64 z1, .int .i64 z2, .slice A1 (n - 6) c1] := hk5 4 33 _ (by omega) rfl V33
        have k34 := hk5 5 34 _ (by omega) rfl V34
        have k35 : vs 35 = .string (strOfNums rs) := hk5 6 35 _ (by omega) rfl V35
        have k36 : vs 36 = .slice (some ⟨b, off, none⟩) (n) (c) := hk5 7 36 _ (by omega) rfl V36
        have k37 : vs 37 = .string (strOfNums zs) := hk5 8 37 _ (by omega) rfl V37
        have k38 : vs 38 = .bool false := hk5 9 38 _ (by omega) rfl V38
        have k39 : vs 39 = .bool false := hk5 10 39 _ (by omega) rfl V39
        clear hk5 HK hL V0 V4 V29 V30 V31 V32 V33 V34 V35 V36 V37 V38 V39
        simp only [putL, Act.put, List.setIfInBounds_toArray, List.set_cons_zero, List.set_cons_succ, k29, k30, k31, k32, k33, k35, k36, k37, k38, k39]
        clear k29 k30 k31 k32 k33 k34 k35 k36 k37 k38 k39
        have b7 := New.below hw7 b6 (by omega)
        have K7 := New.blk hw7 K6
        have Q7 := New.blk hw7 Q6
        have own7 := New.own hw7 own6
        obtain ⟨h0, h1, h2, h3, h4⟩ := Q7.five
        obtain ⟨d0, d1, d2, d3, d4, df⟩ := K7.five_
        have KE := K7.setFive (.int .i64 z4) (.int .i64 z5) (.int .i64 z1) (.int .i64 z2) (.slice A1 (n - 6) c1)
        have RE := own_set5 own7 (own_ne own7 K7 (by decide)) (.int .i64 z4) (.int .i64 z5) (.int .i64 z1) (.int .i64 z2) (.slice A1 (n - 6) c1)
        go_wp2
        obtain ⟨r0, r1, r2, r3, r4⟩ := KE.five
        unfold set5 at r0 r1 r2 r3 r4
        refine bodyPost_ret (v := .tuple #[.agg #[.int .i64 z4, .int .i64 z5, .int .i64 z1, .int .i64 z2, .slice A1 (n - 6) c1], .bool true]) ?_ rfl ?_
        · clear d0 d1 d2 d3 d4 df h0 h1 h2 h3 h4
          simp [results, Try.results27, go_sem, r0, r1, r2, r3, r4]
        obtain ⟨x4, x5, x1, x2, xb⟩ := HF.out HY.out
        rw [x4, x5, x1, x2, xb, HY.out]
        exact ⟨A1, n - 6, c1, rfl, HD.out, RE, ((((b7.setCell (p := ⟨w.heap.size, 0, none⟩) (Nat.le_refl _) _).setCell (p := ⟨w.heap.size, 1, none⟩) (Nat.le_refl _) _).setCell (p := ⟨w.heap.size, 2, none⟩) (Nat.le_refl _) _).setCell (p := ⟨w.heap.size, 3, none⟩) (Nat.le_refl _) _).setCell (p := ⟨w.heap.size, 4, none⟩) (Nat.le_refl _) _⟩
      · have hq := Bool.eq_false_iff.2 hq
        have HNN := Lib.hid (HV.out.trans hq)
        obtain ⟨L, hL⟩ : ∃ L : List (Nat × VT), L = [(0, tLit (.slice (some ⟨b, off, none⟩) (n) (c))), (4, tLit (.pointer (some ⟨q, 0, none⟩))), (29, tLit (.agg #[.int .i64 z4, .int .i64 z5, .int .i64 z1, .int .i64 z2, .slice A1 (n - 6) c1])), (30, tLit (.bool true)), (31, tLit (.bool false)), (32, tLit (.bool false)), (33, tLit (.agg #[.int .i64 z4, .int .i64 z5, .int .i64 z1, .int .i64 z2, .slice A1 (n - 6) c1])), (34, tOwn w6.heap.size 5 1 rs.length (rs.map (Value.int .u8))), (35, tLit (.string (strOfNums rs))), (36, tLit (.slice (some ⟨b, off, none⟩) (n) (c))), (37, tLit (.string (strOfNums zs))), (38, tLit (.bool true)), (39, tLit (.bool true))] := ⟨_, rfl⟩
        have V0 : L.lookup 0 = some (tLit (.slice (some ⟨b, off, none⟩) (n) (c))) := by rw [hL]; rfl
        have V4 : L.lookup 4 = some (tLit (.pointer (some ⟨q, 0, none⟩))) := by rw [hL]; rfl
        have V29 : L.lookup 29 = some (tLit (.agg #[.int .i64 z4, .int .i64 z5, .int .i64 z1, .int .i64 z2, .slice A1 (n - 6) c1])) := by rw [hL]; rfl
        have V30 : L.lookup 30 = some (tLit (.bool true)) := by rw [hL]; rfl
        have V31 : L.lookup 31 = some (tLit (.bool false)) := by rw [hL]; rfl
        have V32 : L.lookup 32 = some (tLit (.bool false)) := by rw [hL]; rfl
        have V33 : L.lookup 33 = some (tLit (.agg #[.int .i64 z4, .int .i64 z5, .int .i64 z1, .int .i64 z2, .slice A1 (n - 6) c1])) := by rw [hL]; rfl
        have V34 : L.lookup 34 = some (tOwn w6.heap.size 5 1 rs.length (rs.map (Value.int .u8))) := by rw [hL]; rfl
        have V35 : L.lookup 35 = some (tLit (.string (strOfNums rs))) := by rw [hL]; rfl
        have V36 : L.lookup 36 = some (tLit (.slice (some ⟨b, off, none⟩) (n) (c))) := by rw [hL]; rfl
        have V37 : L.lookup 37 = some (tLit (.string (strOfNums zs))) := by rw [hL]; rfl
        have V38 : L.lookup 38 = some (tLit (.bool true)) := by rw [hL]; rfl
        have V39 : L.lookup 39 = some (tLit (.bool true)) := by rw [hL]; rfl
        have HK : KeepL L := by rw [hL]; exact ⟨keep_lit _, keep_lit _, keep_lit _, keep_lit _, keep_lit _, keep_lit _, keep_lit _, keep_own, keep_lit _, keep_lit _, keep_lit _, keep_lit _, keep_lit _, trivial⟩
        refine wp_region_mix0 (by kernel_rfl) L 11 rfl [some 29, some 30, some 31, some 32, some 33, some 34, some 35, some 36, some 37, some 38, some 39] (by kernel_rfl) (by kernel_rfl) (by kernel_rfl) 2 (by rw [hL]; intro x hx; simp only [List.take_succ_cons, List.take_zero, List.mem_cons, List.not_mem_nil, or_false] at hx; rcases hx with rfl | rfl <;> rfl) (by rw [hL]; rfl) ?_ ?_
        · clear hL
          exact ⟨m_loadn HK gokm_none (by kernel_rfl) (by kernel_rfl) (om_tmp V4) c5 V29,
    m_call HK gokm_none Try.func15 (by kernel_rfl) (by kernel_rfl) V30 (fun o b w hm hG ho => by
      have e : b.eval (.tmp 29) = .agg #[.int .i64 z4, .int .i64 z5, .int .i64 z1, .int .i64 z2, .slice A1 (n - 6) c1] := (om_tmp V29) o b w (hm _ (by simp)) ho
      rw [show (#[.tmp 29] : Array Operand).map b.eval = #[.agg #[.int .i64 z4, .int .i64 z5, .int .i64 z1, .int .i64 z2, .slice A1 (n - 6) c1]] from by simp [e]]
      exact (iPacketValid_any _ _ _ _ _ _ _ _).mono fun e w' h => ⟨_, h.1, by rw [← h.2]; exact GrF.alloc _ _ _, by rw [hv]; rfl⟩),
    m_not HK gokm_none (om_tmp V30) rfl V31,
    m_move HK gokm_none (om_tmp V31) V32,
    m_loadn HK (gokm_some rfl V32) (by kernel_rfl) (by kernel_rfl) (om_tmp V4) c5 V33,
    m_call HK (gokm_some rfl V32) Try.func20 (by kernel_rfl) (by kernel_rfl) V34 (fun o b w hm hG ho => by
      have e : b.eval (.tmp 33) = .agg #[.int .i64 z4, .int .i64 z5, .int .i64 z1, .int .i64 z2, .slice A1 (n - 6) c1] := (om_tmp V33) o b w (hm _ (by simp)) ho
      rw [show (#[.tmp 33] : Array Operand).map b.eval = #[.agg #[.int .i64 z4, .int .i64 z5, .int .i64 z1, .int .i64 z2, .slice A1 (n - 6) c1]] from by simp [e]]
      refine (iPutPacket_any _ _ _ _ _ _ _ (zs.drop 6) _ (Sl.of_own (New.own hG own6.drew)) (Nat.le_refl _) (by omega) hby6).mono fun e w' h => ?_
      rw [HR.out] at h
      obtain ⟨A2, c2, rfl, own, b⟩ := h.form
      obtain ⟨A3, c3, e3, q1, q2⟩ := own_is_slice own
      cases e3
      exact ⟨_, rfl, New.of_below b, _, _, rfl, q1, q2, own_more own hG.size⟩),
    m_str HK (gokm_some rfl V32) ((om_tmp V34).imp_ fun v w h => h.sl) Try.underlying22 Try.underlying5 Try.underlying9 V35,
    m_move HK (gokm_some rfl V32) (om_tmp V0) V36,
    m_strl HK (gokm_some rfl V32) (om_tmp V36) s6' hz6' Try.underlying22 Try.underlying5 Try.underlying9 V37,
    m_neqs HK (gokm_some rfl V32) (om_tmp V35) (om_tmp V37) (by rw [strOf_beq hbr hby, hq]; rfl) V38,
    m_pickf HK gokm_none (om_tmp V32) (om_tmp V38) V39,
    trivial⟩
        intro vs w7 hw7 hk5
        have k29 : vs 29 = .agg #[.int .i64 z4, .int .i64 z5, .int .i64 z1, .int .i64 z2, .slice A1 (n - 6) c1] := hk5 0 29 _ (by omega) rfl V29
        have k30 : vs 30 = .bool true := hk5 1 30 _ (by omega) rfl V30
        have k31 : vs 31 = .bool false := hk5 2 31 _ (by omega) rfl V31
        have k32 : vs 32 = .bool false := hk5 3 32 _ (by omega) rfl V32
        have k33 : vs 33 = .agg #[.int .i64 z4, .int .i64 z5, .int .i64 z1, .int .i64 z2, .slice A1 (n - 6) c1] := hk5 4 33 _ (by omega) rfl V33
        have k34 := hk5 5 34 _ (by omega) rfl V34
        have k35 : vs 35 = .string (strOfNums rs) := hk5 6 35 _ (by omega) rfl V35
        have k36 : vs 36 = .slice (some ⟨b, off, none⟩) (n) (c) := hk5 7 36 _ (by omega) rfl V36
        have k37 : vs 37 = .string (strOfNums zs) := hk5 8 37 _ (by omega) rfl V37
        have k38 : vs 38 = .bool true := hk5 9 38 _ (by omega) rfl V38
        have k39 : vs 39 = .bool true := hk5 10 39 _ (by omega) rfl V39
        clear hk5 HK hL V0 V4 V29 V30 V31 V32 V33 V34 V35 V36 V37 V38 V39
        simp only [putL, Act.put, List.setIfInBounds_toArray, List.set_cons_zero, List.set_cons_succ, k29, k30, k31, k32, k33, k35, k36, k37, k38, k39]
        clear k29 k30 k31 k32 k33 k34 k35 k36 k37 k38 k39
        have b7 := New.below hw7 b6 (by omega)
        have K7 := New.blk hw7 K6
        obtain ⟨d0, d1, d2, d3, d4, df⟩ := K7.five_
        have KE := K7.setFive (.int .i64 0) (.int .i64 0) (.int .i64 0) (.int .i64 0) (.slice none 0 0)
        go_wp2
        obtain ⟨r0, r1, r2, r3, r4⟩ := KE.five
        unfold set5 at r0 r1 r2 r3 r4
        refine bodyPost_ret (v := .tuple #[.agg #[.int .i64 0, .int .i64 0, .int .i64 0, .int .i64 0, .slice none 0 0], .bool false]) ?_ rfl ?_
        · clear d0 d1 d2 d3 d4 df
          simp [results, Try.results27, go_sem, r0, r1, r2, r3, r4]
        have hno := HNN.out
        rw [getF_no hno, getF_no hno, getF_no hno, getF_no hno, getB_no hno, hno]
        refine RetPkt.zero ?_
        exact ((((b7.setCell (p := ⟨w.heap.size, 0, none⟩) (Nat.le_refl _) _).setCell (p := ⟨w.heap.size, 1, none⟩) (Nat.le_refl _) _).setCell (p := ⟨w.heap.size, 2, none⟩) (Nat.le_refl _) _).setCell (p := ⟨w.heap.size, 3, none⟩) (Nat.le_refl _) _).setCell (p := ⟨w.heap.size, 4, none⟩) (Nat.le_refl _) _
    · have hv := Bool.eq_false_iff.2 hv
      have HNN : Hid (getV zs = false) := Lib.hid (by rw [HV.out, ← HR.out, putP_bad (by rw [HD.out]; exact hv)]; exact nil_beq (by rw [HL.out]; omega))
      obtain ⟨L, hL⟩ : ∃ L : List (Nat × VT), L = [(0, tLit (.slice (some ⟨b, off, none⟩) (n) (c))), (4, tLit (.pointer (some ⟨q, 0, none⟩))), (29, tLit (.agg #[.int .i64 z4, .int .i64 z5, .int .i64 z1, .int .i64 z2, .slice A1 (n - 6) c1])), (30, tLit (.bool false)), (31, tLit (.bool true)), (32, tLit (.bool true)), (33, tLit (undef)), (34, tLit (undef)), (35, tLit (undef)), (36, tLit (undef)), (37, tLit (undef)), (38, tLit (undef)), (39, tLit (.bool true))] := ⟨_, rfl⟩
      have V0 : L.lookup 0 = some (tLit (.slice (some ⟨b, off, none⟩) (n) (c))) := by rw [hL]; rfl
      have V4 : L.lookup 4 = some (tLit (.pointer (some ⟨q, 0, none⟩))) := by rw [hL]; rfl
      have V29 : L.lookup 29 = some (tLit (.agg #[.int .i64 z4, .int .i64 z5, .int .i64 z1, .int .i64 z2, .slice A1 (n - 6) c1])) := by rw [hL]; rfl
      have V30 : L.lookup 30 = some (tLit (.bool false)) := by rw [hL]; rfl
      have V31 : L.lookup 31 = some (tLit (.bool true)) := by rw [hL]; rfl
      have V32 : L.lookup 32 = some (tLit (.bool true)) := by rw [hL]; rfl
      have V33 : L.lookup 33 = some (tLit (undef)) := by rw [hL]; rfl
      have V34 : L.lookup 34 = some (tLit (undef)) := by rw [hL]; rfl
      have V35 : L.lookup 35 = some (tLit (undef)) := by rw [hL]; rfl
      have V36 : L.lookup 36 = some (tLit (undef)) := by rw [hL]; rfl
      have V37 : L.lookup 37 = some (tLit (undef)) := by rw [hL]; rfl
      have V38 : L.lookup 38 = some (tLit (undef)) := by rw [hL]; rfl
      have V39 : L.lookup 39 = some (tLit (.bool true)) := by rw [hL]; rfl
      have HK : KeepL L := by rw [hL]; exact ⟨keep_lit _, keep_lit _, keep_lit _, keep_lit _, keep_lit _, keep_lit _, keep_lit _, keep_lit _, keep_lit _, keep_lit _, keep_lit _, keep_lit _, keep_lit _, trivial⟩
      refine wp_region_mix0 (by kernel_rfl) L 11 rfl [some 29, some 30, some 31, some 32, some 33, some 34, some 35, some 36, some 37, some 38, some 39] (by kernel_rfl) (by kernel_rfl) (by kernel_rfl) 2 (by rw [hL]; intro x hx; simp only [List.take_succ_cons, List.take_zero, List.mem_cons, List.not_mem_nil, or_false] at hx; rcases hx with rfl | rfl <;> rfl) (by rw [hL]; rfl) ?_ ?_
      · clear hL
        exact ⟨m_loadn HK gokm_none (by kernel_rfl) (by kernel_rfl) (om_tmp V4) c5 V29,
    m_call HK gokm_none Try.func15 (by kernel_rfl) (by kernel_rfl) V30 (fun o b w hm hG ho => by
      have e : b.eval (.tmp 29) = .agg #[.int .i64 z4, .int .i64 z5, .int .i64 z1, .int .i64 z2, .slice A1 (n - 6) c1] := (om_tmp V29) o b w (hm _ (by simp)) ho
      rw [show (#[.tmp 29] : Array Operand).map b.eval = #[.agg #[.int .i64 z4, .int .i64 z5, .int .i64 z1, .int .i64 z2, .slice A1 (n - 6) c1]] from by simp [e]]
      exact (iPacketValid_any _ _ _ _ _ _ _ _).mono fun e w' h => ⟨_, h.1, by rw [← h.2]; exact GrF.alloc _ _ _, by rw [hv]; rfl⟩),
    m_not HK gokm_none (om_tmp V30) rfl V31,
    m_move HK gokm_none (om_tmp V31) V32,
    m_skip HK rfl rfl V32 (by intro e; cases e) (fun d h => by cases h; exact V33),
    m_skip HK rfl rfl V32 (by intro e; cases e) (fun d h => by cases h; exact V34),
    m_skip HK rfl rfl V32 (by intro e; cases e) (fun d h => by cases h; exact V35),
    m_skip HK rfl rfl V32 (by intro e; cases e) (fun d h => by cases h; exact V36),
    m_skip HK rfl rfl V32 (by intro e; cases e) (fun d h => by cases h; exact V37),
    m_skip HK rfl rfl V32 (by intro e; cases e) (fun d h => by cases h; exact V38),
    m_pickt HK gokm_none (om_tmp V32) om_const V39,
    trivial⟩
      intro vs w7 hw7 hk5
      have k29 : vs 29 = .agg #[.int .i64 z4, .int .i64 z5, .int .i64 z1, .int .i64 z2, .slice A1 (n - 6) c1] := hk5 0 29 _ (by omega) rfl V29
      have k30 : vs 30 = .bool false := hk5 1 30 _ (by omega) rfl V30
      have k31 : vs 31 = .bool true := hk5 2 31 _ (by omega) rfl V31
      have k32 : vs 32 = .bool true := hk5 3 32 _ (by omega) rfl V32
      have k33 : vs 33 = undef := hk5 4 33 _ (by omega) rfl V33
      have k34 : vs 34 = undef := hk5 5 34 _ (by omega) rfl V34
      have k35 : vs 35 = undef := hk5 6 35 _ (by omega) rfl V35
      have k36 : vs 36 = undef := hk5 7 36 _ (by omega) rfl V36
      have k37 : vs 37 = undef := hk5 8 37 _ (by omega) rfl V37
      have k38 : vs 38 = undef := hk5 9 38 _ (by omega) rfl V38
      have k39 : vs 39 = .bool true := hk5 10 39 _ (by omega) rfl V39
      clear hk5 HK hL V0 V4 V29 V30 V31 V32 V33 V34 V35 V36 V37 V38 V39
      simp only [putL, Act.put, List.setIfInBounds_toArray, List.set_cons_zero, List.set_cons_succ, k29, k30, k31, k32, k33, k34, k35, k36, k37, k38, k39]
      clear k29 k30 k31 k32 k33 k34 k35 k36 k37 k38 k39
      have b7 := New.below hw7 b6 (by omega)
      have K7 := New.blk hw7 K6
      obtain ⟨d0, d1, d2, d3, d4, df⟩ := K7.five_
      have KE := K7.setFive (.int .i64 0) (.int .i64 0) (.int .i64 0) (.int .i64 0) (.slice none 0 0)
      go_wp2
      obtain ⟨r0, r1, r2, r3, r4⟩ := KE.five
      unfold set5 at r0 r1 r2 r3 r4
      refine bodyPost_ret (v := .tuple #[.agg #[.int .i64 0, .int .i64 0, .int .i64 0, .int .i64 0, .slice none 0 0], .bool false]) ?_ rfl ?_
      · clear d0 d1 d2 d3 d4 df
        simp [results, Try.results27, go_sem, r0, r1, r2, r3, r4]
      have hno := HNN.out
      rw [getF_no hno, getF_no hno, getF_no hno, getF_no hno, getB_no hno, hno]
      refine RetPkt.zero ?_
      exact ((((b7.setCell (p := ⟨w.heap.size, 0, none⟩) (Nat.le_refl _) _).setCell (p := ⟨w.heap.size, 1, none⟩) (Nat.le_refl _) _).setCell (p := ⟨w.heap.size, 2, none⟩) (Nat.le_refl _) _).setCell (p := ⟨w.heap.size, 3, none⟩) (Nat.le_refl _) _).setCell (p := ⟨w.heap.size, 4, none⟩) (Nat.le_refl _) _
  · have hno := getV_short (zs := zs) (by rw [HL.out]; exact h6)
    have HN := Lib.hid hno
    clear hno
    go_enter Try.func27, Try.ntmps27
    go_wp2
    refine bodyPost_ret (v := .tuple #[.agg #[.int .i64 0, .int .i64 0, .int .i64 0, .int .i64 0, .slice none 0 0], .bool false]) ?_ rfl ?_
    · simp [results, Try.results27, go_sem]
    have hno := HN.out
    rw [getF_no hno, getF_no hno, getF_no hno, getF_no hno, getB_no hno, hno]
    refine RetPkt.zero ?_
    repeat (first | exact Below.refl _ _ | exact (Below.refl _ _).alloc (Nat.le_refl _) _ | refine Below.alloc ?_ (by simp; omega) _ | refine Below.setCell ?_ (by simp) _)
end Go.Proofs.Ytleammkpfknngaa
