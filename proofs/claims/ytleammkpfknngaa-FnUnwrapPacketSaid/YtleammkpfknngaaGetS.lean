/-
  GetPacket of spec: its contract.
-/
import Derived.Test.YtleammkpfknngaaGet
import Derived.Test.YtleammkpfknngaaMixB
import Derived.Test.YtleammkpfknngaaGet0
import Derived.Test.YtleammkpfknngaaPktPutD
namespace Go.Proofs.Ytleammkpfknngaa
open Go.RowKit
set_option linter.unusedVariables false

set_option maxRecDepth 10000 in
set_option maxHeartbeats 1600000 in
theorem sGetPacket_any (A : Option Addr) (n c : Nat) (zs : List Int) (w : World) {lo hi : Nat} (hs : Sl w lo hi 1 A n (zs.map (Value.int .u8))) (hhi : hi ≤ w.heap.size) (hnc : n ≤ c) (hc : c ≤ maxLen) (hn : n ≤ 1048576) (hby : AllByte zs) :
    Calls Try.prog 29 #[.slice A n c] w (RetPkt w (getF zs 4) (getF zs 5) (getF zs 1) (getF zs 2) (getB zs) (getV zs)) := by
  unfold maxLen at hc
  have hcm : c ≤ maxLen := by unfold maxLen; omega
  have HL := Lib.hid hs.len
  obtain ⟨i0, hi0, hz0, hz1, hz2⟩ := info_parts infoByte
  obtain ⟨i5, hi5, hz5, _, _⟩ := info_parts infoP
  by_cases h6 : 6 ≤ n
  · obtain ⟨b, off, hA, hlo, hbhi, hcell⟩ := hs.2 (by omega)
    subst hA
    have hb0 : b < w.heap.size := by omega
    have cell : ∀ i, i < n → w.cell? ⟨b, off + i, none⟩ = some (.int .u8 (zs[i]?.getD 0)) := fun i hi => by
      have hl : i < zs.length := by rw [HL.out]; exact hi
      exact hcell i _ (by simp [List.getElem?_eq_getElem hl])
    have y1 := hby.at_ 1
    have y2 := hby.at_ 2
    have y4 := hby.at_ 4
    have y5 := hby.at_ 5
    have k1 := cell 1 (by omega)
    have k2 := cell 2 (by omega)
    have k4 := cell 4 (by omega)
    have k5 := cell 5 (by omega)
    have hvl := getV_long (zs := zs) (by rw [HL.out]; exact h6)
    obtain ⟨z1, e1⟩ : ∃ x, zs[1]?.getD 0 = x := ⟨_, rfl⟩
    obtain ⟨z2, e2⟩ : ∃ x, zs[2]?.getD 0 = x := ⟨_, rfl⟩
    obtain ⟨z4, e4⟩ : ∃ x, zs[4]?.getD 0 = x := ⟨_, rfl⟩
    obtain ⟨z5, e5⟩ : ∃ x, zs[5]?.getD 0 = x := ⟨_, rfl⟩
    obtain ⟨rs, er⟩ : ∃ x, putP z4 z5 z1 z2 (zs.drop 6) = x := ⟨_, rfl⟩
    rw [e1, e2, e4, e5, er] at hvl
    have hF : getV zs = true → getF zs 4 = z4 ∧ getF zs 5 = z5 ∧ getF zs 1 = z1 ∧ getF zs 2 = z2 ∧ getB zs = zs.drop 6 := fun h => by
      unfold getF getB
      rw [h, if_pos rfl, if_pos rfl, if_pos rfl, if_pos rfl, if_pos rfl]
      exact ⟨e4, e5, e1, e2, rfl⟩
    have HF := Lib.hid hF
    have HV := Lib.hid hvl
    have HR := Lib.hid er
    have HD : Hid ((zs.drop 6).length = n - 6) := Lib.hid (by rw [List.length_drop, HL.out])
    have hby6 : AllByte (zs.drop 6) := fun z hz => hby z (List.mem_of_mem_drop hz)
    rw [e1] at k1 y1
    rw [e2] at k2 y2
    rw [e4] at k4 y4
    rw [e5] at k5 y5
    clear e1 e2 e4 e5 er hcell cell hvl hF
    obtain ⟨w0, hw0⟩ : ∃ w0, w0 = w.alloc (.cells #[.int .i64 0, .int .i64 0, .int .i64 0, .int .i64 0, .slice none 0 0] 27) := ⟨_, rfl⟩
    have b0 : Below w.heap.size w w0 := by rw [hw0]; exact (Below.refl _ _).alloc (Nat.le_refl _) _
    have z0 : w0.heap.size = w.heap.size + 1 := by rw [hw0]; simp
    have K0 : Blk w0 w.heap.size 27 #[.int .i64 0, .int .i64 0, .int .i64 0, .int .i64 0, .slice none 0 0] := by rw [hw0]; exact Blk.new _ _ _
    replace k1 := (b0.cell (p := ⟨b, off + 1, none⟩) hb0).trans k1
    replace k2 := (b0.cell (p := ⟨b, off + 2, none⟩) hb0).trans k2
    replace k4 := (b0.cell (p := ⟨b, off + 4, none⟩) hb0).trans k4
    replace k5 := (b0.cell (p := ⟨b, off + 5, none⟩) hb0).trans k5
    have s0 := hs.below b0 hhi
    have hz0' : hi ≤ w0.heap.size := by omega
    go_enter Try.func29, Try.ntmps29
    go_wp2
    rw [← hw0]
    clear hw0
    obtain ⟨L, hL⟩ : ∃ L : List (Nat × VT), L = [(0, tLit (.slice (some ⟨b, off, none⟩) (n) (c))), (9, tLit (.slice (some ⟨b, off, none⟩) (n) (c))), (10, tLit (.pointer (some ⟨b, off + 4, none⟩))), (11, tLit (.int .u8 (z4))), (12, tLit (.int .i64 (z4))), (13, tLit (.slice (some ⟨b, off, none⟩) (n) (c))), (14, tLit (.pointer (some ⟨b, off + 5, none⟩))), (15, tLit (.int .u8 (z5))), (16, tLit (.int .i64 (z5))), (17, tLit (.slice (some ⟨b, off, none⟩) (n) (c))), (18, tLit (.pointer (some ⟨b, off + 1, none⟩))), (19, tLit (.int .u8 (z1))), (20, tLit (.int .i64 (z1))), (21, tLit (.slice (some ⟨b, off, none⟩) (n) (c))), (22, tLit (.pointer (some ⟨b, off + 2, none⟩))), (23, tLit (.int .u8 (z2))), (24, tLit (.int .i64 (z2))), (25, tFull w0.heap.size 5 1), (26, tLit (.slice (some ⟨b, off, none⟩) (n) (c))), (27, tSl lo 1 (n - 6) ((zs.map (Value.int .u8)).drop 6)), (28, tOwn w0.heap.size 5 1 (n - 6) ((zs.map (Value.int .u8)).drop 6)), (29, tPkt5 w0.heap.size z4 z5 z1 z2 (n - 6) ((zs.map (Value.int .u8)).drop 6)), (4, tBlk w0.heap.size 27 #[.int .i64 0, .int .i64 0, .int .i64 0, .int .i64 0, .slice none 0 0])] := ⟨_, rfl⟩
    have V0 : L.lookup 0 = some (tLit (.slice (some ⟨b, off, none⟩) (n) (c))) := by rw [hL]; rfl
    have V9 : L.lookup 9 = some (tLit (.slice (some ⟨b, off, none⟩) (n) (c))) := by rw [hL]; rfl
    have V10 : L.lookup 10 = some (tLit (.pointer (some ⟨b, off + 4, none⟩))) := by rw [hL]; rfl
    have V11 : L.lookup 11 = some (tLit (.int .u8 (z4))) := by rw [hL]; rfl
    have V12 : L.lookup 12 = some (tLit (.int .i64 (z4))) := by rw [hL]; rfl
    have V13 : L.lookup 13 = some (tLit (.slice (some ⟨b, off, none⟩) (n) (c))) := by rw [hL]; rfl
    have V14 : L.lookup 14 = some (tLit (.pointer (some ⟨b, off + 5, none⟩))) := by rw [hL]; rfl
    have V15 : L.lookup 15 = some (tLit (.int .u8 (z5))) := by rw [hL]; rfl
    have V16 : L.lookup 16 = some (tLit (.int .i64 (z5))) := by rw [hL]; rfl
    have V17 : L.lookup 17 = some (tLit (.slice (some ⟨b, off, none⟩) (n) (c))) := by rw [hL]; rfl
    have V18 : L.lookup 18 = some (tLit (.pointer (some ⟨b, off + 1, none⟩))) := by rw [hL]; rfl
    have V19 : L.lookup 19 = some (tLit (.int .u8 (z1))) := by rw [hL]; rfl
    have V20 : L.lookup 20 = some (tLit (.int .i64 (z1))) := by rw [hL]; rfl
    have V21 : L.lookup 21 = some (tLit (.slice (some ⟨b, off, none⟩) (n) (c))) := by rw [hL]; rfl
    have V22 : L.lookup 22 = some (tLit (.pointer (some ⟨b, off + 2, none⟩))) := by rw [hL]; rfl
    have V23 : L.lookup 23 = some (tLit (.int .u8 (z2))) := by rw [hL]; rfl
    have V24 : L.lookup 24 = some (tLit (.int .i64 (z2))) := by rw [hL]; rfl
    have V25 : L.lookup 25 = some (tFull w0.heap.size 5 1) := by rw [hL]; rfl
    have V26 : L.lookup 26 = some (tLit (.slice (some ⟨b, off, none⟩) (n) (c))) := by rw [hL]; rfl
    have V27 : L.lookup 27 = some (tSl lo 1 (n - 6) ((zs.map (Value.int .u8)).drop 6)) := by rw [hL]; rfl
    have V28 : L.lookup 28 = some (tOwn w0.heap.size 5 1 (n - 6) ((zs.map (Value.int .u8)).drop 6)) := by rw [hL]; rfl
    have V29 : L.lookup 29 = some (tPkt5 w0.heap.size z4 z5 z1 z2 (n - 6) ((zs.map (Value.int .u8)).drop 6)) := by rw [hL]; rfl
    have V4 : L.lookup 4 = some (tBlk w0.heap.size 27 #[.int .i64 0, .int .i64 0, .int .i64 0, .int .i64 0, .slice none 0 0]) := by rw [hL]; rfl
    have HK : KeepL L := by rw [hL]; exact ⟨keep_lit _, keep_lit _, keep_lit _, keep_lit _, keep_lit _, keep_lit _, keep_lit _, keep_lit _, keep_lit _, keep_lit _, keep_lit _, keep_lit _, keep_lit _, keep_lit _, keep_lit _, keep_lit _, keep_lit _, keep_full, keep_lit _, keep_sl, keep_own, keep_pkt5, keep_blk, trivial⟩
    refine wp_region_mix (by kernel_rfl) L 22 23 rfl [some 9, some 10, some 11, some 12, some 13, some 14, some 15, some 16, some 17, some 18, some 19, some 20, some 21, some 22, some 23, some 24, some 25, some 26, some 27, some 28, some 29, some 4] (by kernel_rfl) (by kernel_rfl) (by kernel_rfl) 1 (by rw [hL]; intro x hx; simp only [List.take_succ_cons, List.take_zero, List.mem_cons, List.not_mem_nil, or_false] at hx; rcases hx with rfl <;> rfl) (by rw [hL]; rfl) ?_ ?_
    · clear hL
      exact ⟨m_move HK gokm_none (om_tmp V0) V9,
    m_index HK gokm_none (s := 1) (by kernel_rfl) (by omega) (by omega) (om_tmp V9) om_const rfl V10,
    m_load1 HK gokm_none (by kernel_rfl) (om_tmp V10) k4 V11,
    m_convi HK gokm_none (om_tmp V11) (by kernel_rfl) (by kernel_rfl) (by first | rfl | exact IntWalk.i64_in _ (by omega)) V12,
    m_move HK gokm_none (om_tmp V0) V13,
    m_index HK gokm_none (s := 1) (by kernel_rfl) (by omega) (by omega) (om_tmp V13) om_const rfl V14,
    m_load1 HK gokm_none (by kernel_rfl) (om_tmp V14) k5 V15,
    m_convi HK gokm_none (om_tmp V15) (by kernel_rfl) (by kernel_rfl) (by first | rfl | exact IntWalk.i64_in _ (by omega)) V16,
    m_move HK gokm_none (om_tmp V0) V17,
    m_index HK gokm_none (s := 1) (by kernel_rfl) (by omega) (by omega) (om_tmp V17) om_const rfl V18,
    m_load1 HK gokm_none (by kernel_rfl) (om_tmp V18) k1 V19,
    m_convi HK gokm_none (om_tmp V19) (by kernel_rfl) (by kernel_rfl) (by first | rfl | exact IntWalk.i64_in _ (by omega)) V20,
    m_move HK gokm_none (om_tmp V0) V21,
    m_index HK gokm_none (s := 1) (by kernel_rfl) (by omega) (by omega) (om_tmp V21) om_const rfl V22,
    m_load1 HK gokm_none (by kernel_rfl) (om_tmp V22) k2 V23,
    m_convi HK gokm_none (om_tmp V23) (by kernel_rfl) (by kernel_rfl) (by first | rfl | exact IntWalk.i64_in _ (by omega)) V24,
    m_row0 HK gokm_none Try.underlying22 hi0 hz0 hz1 (Nat.le_refl _) V25,
    m_move HK gokm_none (om_tmp V0) V26,
    m_cutl HK gokm_none (by kernel_rfl) (om_tmp V26) s0 hz0' hnc hcm om_const (by omega) (by omega) V27,
    m_append1 HK gokm_none Try.underlying22 hi0 hz0 hz1 hz2 rfl (by decide) (om_tmp V25) (om_tmp V27) (one_u8d zs 6) (by unfold maxLen; omega) (by omega) (Nat.le_refl _) V28,
    m_build HK gokm_none V29 (fun o b w hm ho => by
      have ez1 : b.eval (.tmp 20) = .int .i64 z1 := (om_tmp V20) o b w (hm (2, .tmp 20) (by simp)) ho
      have ez2 : b.eval (.tmp 24) = .int .i64 z2 := (om_tmp V24) o b w (hm (3, .tmp 24) (by simp)) ho
      have ez4 : b.eval (.tmp 12) = .int .i64 z4 := (om_tmp V12) o b w (hm (0, .tmp 12) (by simp)) ho
      have ez5 : b.eval (.tmp 16) = .int .i64 z5 := (om_tmp V16) o b w (hm (1, .tmp 16) (by simp)) ho
      obtain ⟨A1, c1, e0, q1, q2, own⟩ := (om_tmp V28) o b w (hm (4, .tmp 28) (by simp)) ho
      exact ⟨#[.int .i64 z4, .int .i64 z5, .int .i64 z1, .int .i64 z2, .slice A1 (n - 6) c1], by simp only [List.map_cons, List.map_nil, ez1, ez2, ez4, ez5, e0]; kernel_rfl, A1, c1, rfl, q1, q2, own⟩),
    m_alloc HK gokm_none hi5 hz5 rfl (Nat.le_refl _) V4,
    trivial⟩
    intro vs w5 hw5 hk5
    have k9 : vs 9 = .slice (some ⟨b, off, none⟩) (n) (c) := hk5 0 9 _ (by omega) rfl V9
    have k10 : vs 10 = .pointer (some ⟨b, off + 4, none⟩) := hk5 1 10 _ (by omega) rfl V10
    have k11 : vs 11 = .int .u8 (z4) := hk5 2 11 _ (by omega) rfl V11
    have k12 : vs 12 = .int .i64 (z4) := hk5 3 12 _ (by omega) rfl V12
    have k13 : vs 13 = .slice (some ⟨b, off, none⟩) (n) (c) := hk5 4 13 _ (by omega) rfl V13
    have k14 : vs 14 = .pointer (some ⟨b, off + 5, none⟩) := hk5 5 14 _ (by omega) rfl V14
    have k15 : vs 15 = .int .u8 (z5) := hk5 6 15 _ (by omega) rfl V15
    have k16 : vs 16 = .int .i64 (z5) := hk5 7 16 _ (by omega) rfl V16
    have k17 : vs 17 = .slice (some ⟨b, off, none⟩) (n) (c) := hk5 8 17 _ (by omega) rfl V17
    have k18 : vs 18 = .pointer (some ⟨b, off + 1, none⟩) := hk5 9 18 _ (by omega) rfl V18
    have k19 : vs 19 = .int .u8 (z1) := hk5 10 19 _ (by omega) rfl V19
    have k20 : vs 20 = .int .i64 (z1) := hk5 11 20 _ (by omega) rfl V20
    have k21 : vs 21 = .slice (some ⟨b, off, none⟩) (n) (c) := hk5 12 21 _ (by omega) rfl V21
    have k22 : vs 22 = .pointer (some ⟨b, off + 2, none⟩) := hk5 13 22 _ (by omega) rfl V22
    have k23 : vs 23 = .int .u8 (z2) := hk5 14 23 _ (by omega) rfl V23
    have k24 : vs 24 = .int .i64 (z2) := hk5 15 24 _ (by omega) rfl V24
    have k25 := hk5 16 25 _ (by omega) rfl V25
    have k26 : vs 26 = .slice (some ⟨b, off, none⟩) (n) (c) := hk5 17 26 _ (by omega) rfl V26
    have k27 := hk5 18 27 _ (by omega) rfl V27
    have k28 := hk5 19 28 _ (by omega) rfl V28
    have k29 := hk5 20 29 _ (by omega) rfl V29
    have k4 := hk5 21 4 _ (by omega) rfl V4
    clear hk5 HK hL V0 V9 V10 V11 V12 V13 V14 V15 V16 V17 V18 V19 V20 V21 V22 V23 V24 V25 V26 V27 V28 V29 V4
    have k4' := k4
    have k5' := k29
    clear k9 k10 k11 k12 k13 k14 k15 k16 k17 k18 k19 k20 k21 k22 k23 k24 k25 k26 k27 k28 k29 k4
    obtain ⟨q, e4, hq, Q4⟩ := k4'
    obtain ⟨A1, c1, eb, q1, q2, own5⟩ := k5'
    have hne : (Value.slice A1 (n - 6) c1).ownBlock ≠ some q := own_ne own5 Q4 (by decide)
    have K5 := New.blk hw5 K0
    have b5 := New.below hw5 b0 (by omega)
    have s5 := New.sl hw5 s0 hz0'
    obtain ⟨f0, f1, f2, f3, f4, ff⟩ := Q4.five_
    simp only [putL, e4, eb]
    clear k1 k2 y1 y2 y4 y5 K0 b0 s0
    go_wp2_with fail
    have hz5s := hw5.size
    have Q6 := Q4.setFive (.int .i64 z4) (.int .i64 z5) (.int .i64 z1) (.int .i64 z2) (.slice A1 (n - 6) c1)
    have K6 := K5.farFive (show w.heap.size ≠ q by omega) (.int .i64 z4) (.int .i64 z5) (.int .i64 z1) (.int .i64 z2) (.slice A1 (n - 6) c1)
    have own6 := own_set5 own5 hne (.int .i64 z4) (.int .i64 z5) (.int .i64 z1) (.int .i64 z2) (.slice A1 (n - 6) c1)
    have hsq : ∀ j u, ∀ wx : World, Sl wx lo hi 1 (some ⟨b, off, none⟩) n (zs.map (Value.int .u8)) → Sl (wx.setCell ⟨q, j, none⟩ u) lo hi 1 (some ⟨b, off, none⟩) n (zs.map (Value.int .u8)) := fun j u wx h => h.setCell (.inl (show hi ≤ q by omega)) u
    have s6' := hsq 4 (.slice A1 (n - 6) c1) _ (hsq 3 (.int .i64 z2) _ (hsq 2 (.int .i64 z1) _ (hsq 1 (.int .i64 z5) _ (hsq 0 (.int .i64 z4) _ s5))))
    have b6 := ((((b5.setCell (p := ⟨q, 0, none⟩) (show w.heap.size ≤ q by omega) (.int .i64 z4)).setCell (p := ⟨q, 1, none⟩) (show w.heap.size ≤ q by omega) (.int .i64 z5)).setCell (p := ⟨q, 2, none⟩) (show w.heap.size ≤ q by omega) (.int .i64 z1)).setCell (p := ⟨q, 3, none⟩) (show w.heap.size ≤ q by omega) (.int .i64 z2)).setCell (p := ⟨q, 4, none⟩) (show w.heap.size ≤ q by omega) (.slice A1 (n - 6) c1)
    obtain ⟨w6, hw6⟩ : ∃ w6, w6 = set5 w5 q (.int .i64 z4) (.int .i64 z5) (.int .i64 z1) (.int .i64 z2) (.slice A1 (n - 6) c1) := ⟨_, rfl⟩
    unfold set5 at hw6 Q6 K6 own6
    rw [← hw6] at Q6 K6 own6 s6' b6 ⊢
    clear hw6 Q4 K5 own5 s5 b5 f0 f1 f2 f3 f4 ff hsq hne hw5
    have hq1 := Q6.lt
    have hz6 := b6.size
    have hz6' : hi ≤ w6.heap.size := by omega
    rw [← List.map_drop] at own6
    have own6 := own_more own6 (show w.heap.size ≤ w0.heap.size by omega)
    have hby_rs : AllByte rs := by rw [← HR.out]; exact putP_byte hby6
    obtain ⟨g0, g1, g2, g3, g4⟩ := Q6.five
    have c5 : ∀ (j : Nat) (v : Value), [Value.int .i64 z4, .int .i64 z5, .int .i64 z1, .int .i64 z2, .slice A1 (n - 6) c1][j]? = some v → w6.cell? ⟨q, 0 + j, none⟩ = some v := by intro j v hj; rcases j with _ | _ | _ | _ | _ | j <;> simp at hj <;> subst hj <;> assumption
    have hbr := hby_rs
    have hrl : rs.length ≤ 1048576 := by rw [← HR.out]; have := putP_bd (f := z4) (t := z5) (k := z1) (l := z2) (zs := zs.drop 6); omega
    by_cases hq : (rs == zs) = true
    · have HY : Hid (getV zs = true) := Lib.hid (by rw [HV.out]; exact hq)
      go_wp2_with fail
      refine (sPutPacket_any _ _ _ _ _ _ _ (zs.drop 6) _ (Sl.of_own own6) (Nat.le_refl _) (by omega) hby6).mono ?_
      rw [HR.out]
      intro e wp hr
      obtain ⟨Ap, cp, rfl, ownp, bp⟩ := hr.form
      clear hr
      go_wp2_with fail
      refine (l14Same_any _ _ _ _ _ _ rs zs _ (Sl.of_own ownp) (s6'.below bp hz6') hrl hn).mono ?_
      rw [hq]
      rintro e w7 ⟨rfl, bs⟩
      have hw7 := New.of_below (bp.trans (bs.mono bp.size))
      clear ownp bp bs
      have b7 := New.below hw7 b6 (by omega)
      have K7 := New.blk hw7 K6
      have Q7 := New.blk hw7 Q6
      have own7 := New.own hw7 own6
      obtain ⟨h0, h1, h2, h3, h4⟩ := Q7.five
      obtain ⟨d0, d1, d2, d3, d4, df⟩ := K7.five_
      have KE := K7.setFive (.int .i64 z4) (.int .i64 z5) (.int .i64 z1) (.int .i64 z2) (.slice A1 (n - 6) c1)
      have RE := own_set5 own7 (own_ne own7 K7 (by decide)) (.int .i64 z4) (.int .i64 z5) (.int .i64 z1) (.int .i64 z2) (.slice A1 (n - 6) c1)
      go_wp2
      obtain ⟨r0, r1, r2, r3, r4⟩ := KE.five
      unfold set5 at r0 r1 r2 r3 r4
      refine bodyPost_ret (v := .tuple #[.agg #[.int .i64 z4, .int .i64 z5, .int .i64 z1, .int .i64 z2, .slice A1 (n - 6) c1], .bool true]) ?_ rfl ?_
      · clear d0 d1 d2 d3 d4 df h0 h1 h2 h3 h4
        simp [results, Try.results29, go_sem, r0, r1, r2, r3, r4]
      obtain ⟨x4, x5, x1, x2, xb⟩ := HF.out HY.out
      rw [x4, x5, x1, x2, xb, HY.out]
      exact ⟨A1, n - 6, c1, rfl, HD.out, RE, ((((b7.setCell (p := ⟨w.heap.size, 0, none⟩) (Nat.le_refl _) _).setCell (p := ⟨w.heap.size, 1, none⟩) (Nat.le_refl _) _).setCell (p := ⟨w.heap.size, 2, none⟩) (Nat.le_refl _) _).setCell (p := ⟨w.heap.size, 3, none⟩) (Nat.le_refl _) _).setCell (p := ⟨w.heap.size, 4, none⟩) (Nat.le_refl _) _⟩
    · have hq := Bool.eq_false_iff.2 hq
      have HNN := Lib.hid (HV.out.trans hq)
      go_wp2_with fail
      refine (sPutPacket_any _ _ _ _ _ _ _ (zs.drop 6) _ (Sl.of_own own6) (Nat.le_refl _) (by omega) hby6).mono ?_
      rw [HR.out]
      intro e wp hr
      obtain ⟨Ap, cp, rfl, ownp, bp⟩ := hr.form
      clear hr
      go_wp2_with fail
      refine (l14Same_any _ _ _ _ _ _ rs zs _ (Sl.of_own ownp) (s6'.below bp hz6') hrl hn).mono ?_
      rw [hq]
      rintro e w7 ⟨rfl, bs⟩
      have hw7 := New.of_below (bp.trans (bs.mono bp.size))
      clear ownp bp bs
      have b7 := New.below hw7 b6 (by omega)
      have K7 := New.blk hw7 K6
      obtain ⟨d0, d1, d2, d3, d4, df⟩ := K7.five_
      have KE := K7.setFive (.int .i64 0) (.int .i64 0) (.int .i64 0) (.int .i64 0) (.slice none 0 0)
      go_wp2
      obtain ⟨r0, r1, r2, r3, r4⟩ := KE.five
      unfold set5 at r0 r1 r2 r3 r4
      refine bodyPost_ret (v := .tuple #[.agg #[.int .i64 0, .int .i64 0, .int .i64 0, .int .i64 0, .slice none 0 0], .bool false]) ?_ rfl ?_
      · clear d0 d1 d2 d3 d4 df
        simp [results, Try.results29, go_sem, r0, r1, r2, r3, r4]
      have hno := HNN.out
      rw [getF_no hno, getF_no hno, getF_no hno, getF_no hno, getB_no hno, hno]
      refine RetPkt.zero ?_
      exact ((((b7.setCell (p := ⟨w.heap.size, 0, none⟩) (Nat.le_refl _) _).setCell (p := ⟨w.heap.size, 1, none⟩) (Nat.le_refl _) _).setCell (p := ⟨w.heap.size, 2, none⟩) (Nat.le_refl _) _).setCell (p := ⟨w.heap.size, 3, none⟩) (Nat.le_refl _) _).setCell (p := ⟨w.heap.size, 4, none⟩) (Nat.le_refl _) _
  · have hno := getV_short (zs := zs) (by rw [HL.out]; exact h6)
    have HN := Lib.hid hno
    clear hno
    go_enter Try.func29, Try.ntmps29
    go_wp2
    refine bodyPost_ret (v := .tuple #[.agg #[.int .i64 0, .int .i64 0, .int .i64 0, .int .i64 0, .slice none 0 0], .bool false]) ?_ rfl ?_
    · simp [results, Try.results29, go_sem]
    have hno := HN.out
    rw [getF_no hno, getF_no hno, getF_no hno, getF_no hno, getB_no hno, hno]
    refine RetPkt.zero ?_
    repeat (first | exact Below.refl _ _ | exact (Below.refl _ _).alloc (Nat.le_refl _) _ | refine Below.alloc ?_ (by simp; omega) _ | refine Below.setCell ?_ (by simp) _)
end Go.Proofs.Ytleammkpfknngaa
