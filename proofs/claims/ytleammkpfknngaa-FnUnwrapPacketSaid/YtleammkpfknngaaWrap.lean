/-
  WrapPacket of both packages: their contracts.
-/
import Derived.Test.YtleammkpfknngaaWrap0
namespace Go.Proofs.Ytleammkpfknngaa
open Go.RowKit
set_option linter.unusedVariables false

set_option maxHeartbeats 1600000 in
theorem iWrapPacket_any (f t k l : Int) (A : Option Addr) (n c : Nat) (zs : List Int) (fr tt : Int) (w : World) {lo hi : Nat} (hs : Sl w lo hi 1 A n (zs.map (Value.int .u8))) (hhi : hi ≤ w.heap.size) (hnc : n ≤ c) (hc : c ≤ maxLen) (hn : n ≤ 1048576) (hby : AllByte zs) :
    Calls Try.prog 34 #[.agg #[.int .i64 f, .int .i64 t, .int .i64 k, .int .i64 l, .slice A n c], .int .i64 fr, .int .i64 tt] w (RetPkt w (wrF f t k l zs fr tt fr) (wrF f t k l zs fr tt tt) (wrF f t k l zs fr tt 3) (wrF f t k l zs fr tt 64) (wrB f t k l zs fr tt) (wrV f t k l zs fr tt)) := by
  have HL := Lib.hid hs.len
  have hlen : (putP f t k l zs).length ≤ 86 := putP_bd
  have hpos : pktV f t k l n = true → 6 ≤ (putP f t k l zs).length := fun h => by rw [putP_len (by rw [HL.out]; exact h)]; omega
  have hneg : pktV f t k l n = false → (putP f t k l zs).length = 0 := fun h => by rw [putP_bad (by rw [HL.out]; exact h)]; rfl
  obtain ⟨rs, hrs⟩ : ∃ x, putP f t k l zs = x := ⟨_, rfl⟩
  rw [hrs] at hlen hpos hneg
  have HR := Lib.hid hrs
  clear hrs
  obtain ⟨m, hm⟩ : ∃ x, rs.length = x := ⟨_, rfl⟩
  rw [hm] at hlen hpos hneg
  have HM := Lib.hid hm
  clear hm
  have HV : Hid (wrV f t k l zs fr tt = (pktV f t k l n && pktV fr tt 3 64 m)) := Lib.hid (by unfold wrV; rw [HL.out, HR.out, HM.out])
  have HP := Lib.hid hpos
  have HN := Lib.hid hneg
  clear hpos hneg
  have e0 := ((Below.refl w.heap.size w).alloc (Nat.le_refl _) (.cells #[.int .i64 f, .int .i64 t, .int .i64 k, .int .i64 l, .slice A n c] 27)).alloc (by simp) (.cells #[.int .i64 0, .int .i64 0, .int .i64 0, .int .i64 0, .slice none 0 0] 27)
  have K0 := Blk.new ((w).alloc (.cells #[.int .i64 f, .int .i64 t, .int .i64 k, .int .i64 l, .slice A n c] 27)) 27 #[.int .i64 0, .int .i64 0, .int .i64 0, .int .i64 0, .slice none 0 0]
  have P0 := (Blk.new w 27 #[.int .i64 f, .int .i64 t, .int .i64 k, .int .i64 l, .slice A n c]).alloc (.cells #[.int .i64 0, .int .i64 0, .int .i64 0, .int .i64 0, .slice none 0 0] 27)
  simp only [World.size_alloc] at K0
  have sl := (hs.alloc hhi (.cells #[.int .i64 f, .int .i64 t, .int .i64 k, .int .i64 l, .slice A n c] 27)).alloc (by simp; omega) (.cells #[.int .i64 0, .int .i64 0, .int .i64 0, .int .i64 0, .slice none 0 0] 27)
  go_enter Try.func34, Try.ntmps34
  go_wp2_with fail
  refine (iPutPacket_any _ _ _ _ _ _ _ zs _ sl (by simp; omega) hn hby).mono ?_
  rw [HR.out, HM.out]
  intro e w1 hr
  obtain ⟨A1, c1, rfl, own1, b1⟩ := hr.form
  clear hr
  have hz1 := b1.size
  simp only [World.size_alloc] at hz1
  have K1 := K0.below b1 (by simp)
  have P1 := P0.below b1 (by simp; omega)
  have b2 := e0.trans (b1.mono e0.size)
  have own2 := own_more own1 e0.size
  clear K0 P0 sl own1 b1 e0
  by_cases v1 : pktV f t k l n = true
  · by_cases v2 : pktV fr tt 3 64 m = true
    · have HW : Hid (wrV f t k l zs fr tt = true) := Lib.hid (by rw [HV.out, v1, v2]; rfl)
      obtain ⟨p0, p1, p2, p3, p4⟩ := P1.five
      have plt := P1.lt
      go_wp2_with fail
      clear p0 p1 p2 p3 p4
      have O_u1 := Blk.new w1 27 #[.int .i64 fr, .int .i64 tt, .int .i64 3, .int .i64 64, .slice A1 m c1]
      have N_u1 : New w1 (w1.alloc (.cells #[.int .i64 fr, .int .i64 tt, .int .i64 3, .int .i64 64, .slice A1 m c1] 27)) := GrF.alloc _ _ _
      generalize h_u1 : w1.alloc (.cells #[.int .i64 fr, .int .i64 tt, .int .i64 3, .int .i64 64, .slice A1 m c1] 27) = u1 at O_u1 N_u1 ⊢
      clear h_u1
      have K_u1 := New.blk N_u1 K1
      have P_u1 := New.blk N_u1 P1
      have own_u1 := New.own N_u1 own2
      have b_u1 := New.below N_u1 b2 b2.size
      obtain ⟨p0, p1, p2, p3, p4⟩ := P_u1.five
      obtain ⟨o0, o1, o2, o3, o4⟩ := O_u1.five
      go_wp2_with fail
      clear p0 p1 p2 p3 p4
      clear o0 o1 o2 o3 o4
      refine (iPacketValid_any _ _ _ _ _ _ _ _).mono ?_
      rw [v1]
      rintro e u2 ⟨rfl, hw⟩
      have N_u2 : New u1 u2 := by rw [← hw]; exact GrF.alloc _ _ _
      clear hw
      have K_u2 := New.blk N_u2 K_u1
      have P_u2 := New.blk N_u2 P_u1
      have O_u2 := New.blk N_u2 O_u1
      have own_u2 := New.own N_u2 own_u1
      have b_u2 := New.below N_u2 b_u1 b_u1.size
      obtain ⟨p0, p1, p2, p3, p4⟩ := P_u2.five
      obtain ⟨o0, o1, o2, o3, o4⟩ := O_u2.five
      go_wp2_with fail
      clear p0 p1 p2 p3 p4
      clear o0 o1 o2 o3 o4
      refine (iPacketValid_any _ _ _ _ _ _ _ _).mono ?_
      rw [v2]
      rintro e u3 ⟨rfl, hw⟩
      have N_u3 : New u2 u3 := by rw [← hw]; exact GrF.alloc _ _ _
      clear hw
      have K_u3 := New.blk N_u3 K_u2
      have P_u3 := New.blk N_u3 P_u2
      have O_u3 := New.blk N_u3 O_u2
      have own_u3 := New.own N_u3 own_u2
      have b_u3 := New.below N_u3 b_u2 b_u2.size
      obtain ⟨d0, d1, d2, d3, d4, df⟩ := K_u3.five_
      obtain ⟨o0, o1, o2, o3, o4⟩ := O_u3.five
      go_wp2_with fail
      clear o0 o1 o2 o3 o4
      have KE := (K_u3).setFive (.int .i64 fr) (.int .i64 tt) (.int .i64 3) (.int .i64 64) (.slice A1 m c1)
      obtain ⟨r0, r1, r2, r3, r4⟩ := KE.five
      unfold set5 at r0 r1 r2 r3 r4
      refine bodyPost_ret (v := .tuple #[.agg #[.int .i64 fr, .int .i64 tt, .int .i64 3, .int .i64 64, .slice A1 m c1], .bool true]) ?_ rfl ?_
      · clear d0 d1 d2 d3 d4 df
        simp [results, Try.results34, go_sem, r0, r1, r2, r3, r4]
      obtain ⟨x1, x2, x3, x4, x5⟩ := wr_yes HW.out
      rw [x1, x2, x3, x4, x5, HW.out, HR.out]
      have hM := HM.out
      exact ⟨A1, m, c1, rfl, hM, own_set5 (own_u3) (own_ne (own_u3) (K_u3) (by decide)) (.int .i64 fr) (.int .i64 tt) (.int .i64 3) (.int .i64 64) (.slice A1 m c1), ((((b_u3.setCell (p := ⟨w.heap.size + 1, 0, none⟩) (Nat.le_succ _) _).setCell (p := ⟨w.heap.size + 1, 1, none⟩) (Nat.le_succ _) _).setCell (p := ⟨w.heap.size + 1, 2, none⟩) (Nat.le_succ _) _).setCell (p := ⟨w.heap.size + 1, 3, none⟩) (Nat.le_succ _) _).setCell (p := ⟨w.heap.size + 1, 4, none⟩) (Nat.le_succ _) _⟩
    · have v2 := Bool.eq_false_iff.2 v2
      have HW : Hid (wrV f t k l zs fr tt = false) := Lib.hid (by rw [HV.out, v1, v2]; rfl)
      obtain ⟨p0, p1, p2, p3, p4⟩ := P1.five
      have plt := P1.lt
      go_wp2_with fail
      clear p0 p1 p2 p3 p4
      have O_u4 := Blk.new w1 27 #[.int .i64 fr, .int .i64 tt, .int .i64 3, .int .i64 64, .slice A1 m c1]
      have N_u4 : New w1 (w1.alloc (.cells #[.int .i64 fr, .int .i64 tt, .int .i64 3, .int .i64 64, .slice A1 m c1] 27)) := GrF.alloc _ _ _
      generalize h_u4 : w1.alloc (.cells #[.int .i64 fr, .int .i64 tt, .int .i64 3, .int .i64 64, .slice A1 m c1] 27) = u4 at O_u4 N_u4 ⊢
      clear h_u4
      have K_u4 := New.blk N_u4 K1
      have P_u4 := New.blk N_u4 P1
      have own_u4 := New.own N_u4 own2
      have b_u4 := New.below N_u4 b2 b2.size
      obtain ⟨p0, p1, p2, p3, p4⟩ := P_u4.five
      obtain ⟨o0, o1, o2, o3, o4⟩ := O_u4.five
      go_wp2_with fail
      clear p0 p1 p2 p3 p4
      clear o0 o1 o2 o3 o4
      refine (iPacketValid_any _ _ _ _ _ _ _ _).mono ?_
      rw [v1]
      rintro e u5 ⟨rfl, hw⟩
      have N_u5 : New u4 u5 := by rw [← hw]; exact GrF.alloc _ _ _
      clear hw
      have K_u5 := New.blk N_u5 K_u4
      have P_u5 := New.blk N_u5 P_u4
      have O_u5 := New.blk N_u5 O_u4
      have own_u5 := New.own N_u5 own_u4
      have b_u5 := New.below N_u5 b_u4 b_u4.size
      obtain ⟨p0, p1, p2, p3, p4⟩ := P_u5.five
      obtain ⟨o0, o1, o2, o3, o4⟩ := O_u5.five
      go_wp2_with fail
      clear p0 p1 p2 p3 p4
      clear o0 o1 o2 o3 o4
      refine (iPacketValid_any _ _ _ _ _ _ _ _).mono ?_
      rw [v2]
      rintro e u6 ⟨rfl, hw⟩
      have N_u6 : New u5 u6 := by rw [← hw]; exact GrF.alloc _ _ _
      clear hw
      have K_u6 := New.blk N_u6 K_u5
      have P_u6 := New.blk N_u6 P_u5
      have O_u6 := New.blk N_u6 O_u5
      have own_u6 := New.own N_u6 own_u5
      have b_u6 := New.below N_u6 b_u5 b_u5.size
      obtain ⟨d0, d1, d2, d3, d4, df⟩ := K_u6.five_
      obtain ⟨o0, o1, o2, o3, o4⟩ := O_u6.five
      go_wp2_with fail
      clear o0 o1 o2 o3 o4
      have KE := (K_u6).setFive (.int .i64 0) (.int .i64 0) (.int .i64 0) (.int .i64 0) (.slice none 0 0)
      obtain ⟨r0, r1, r2, r3, r4⟩ := KE.five
      unfold set5 at r0 r1 r2 r3 r4
      refine bodyPost_ret (v := .tuple #[.agg #[.int .i64 0, .int .i64 0, .int .i64 0, .int .i64 0, .slice none 0 0], .bool false]) ?_ rfl ?_
      · clear d0 d1 d2 d3 d4 df
        simp [results, Try.results34, go_sem, r0, r1, r2, r3, r4]
      obtain ⟨x1, x2, x3, x4, x5⟩ := wr_no HW.out
      rw [x1, x2, x3, x4, x5, HW.out]
      exact RetPkt.zero (((((b_u6.setCell (p := ⟨w.heap.size + 1, 0, none⟩) (Nat.le_succ _) _).setCell (p := ⟨w.heap.size + 1, 1, none⟩) (Nat.le_succ _) _).setCell (p := ⟨w.heap.size + 1, 2, none⟩) (Nat.le_succ _) _).setCell (p := ⟨w.heap.size + 1, 3, none⟩) (Nat.le_succ _) _).setCell (p := ⟨w.heap.size + 1, 4, none⟩) (Nat.le_succ _) _)
  · have v1 := Bool.eq_false_iff.2 v1
    have HW : Hid (wrV f t k l zs fr tt = false) := Lib.hid (by rw [HV.out, v1]; rfl)
    obtain ⟨p0, p1, p2, p3, p4⟩ := P1.five
    have plt := P1.lt
    go_wp2_with fail
    clear p0 p1 p2 p3 p4
    have O_u7 := Blk.new w1 27 #[.int .i64 fr, .int .i64 tt, .int .i64 3, .int .i64 64, .slice A1 m c1]
    have N_u7 : New w1 (w1.alloc (.cells #[.int .i64 fr, .int .i64 tt, .int .i64 3, .int .i64 64, .slice A1 m c1] 27)) := GrF.alloc _ _ _
    generalize h_u7 : w1.alloc (.cells #[.int .i64 fr, .int .i64 tt, .int .i64 3, .int .i64 64, .slice A1 m c1] 27) = u7 at O_u7 N_u7 ⊢
    clear h_u7
    have K_u7 := New.blk N_u7 K1
    have P_u7 := New.blk N_u7 P1
    have own_u7 := New.own N_u7 own2
    have b_u7 := New.below N_u7 b2 b2.size
    obtain ⟨p0, p1, p2, p3, p4⟩ := P_u7.five
    obtain ⟨o0, o1, o2, o3, o4⟩ := O_u7.five
    go_wp2_with fail
    clear p0 p1 p2 p3 p4
    clear o0 o1 o2 o3 o4
    refine (iPacketValid_any _ _ _ _ _ _ _ _).mono ?_
    rw [v1]
    rintro e u8 ⟨rfl, hw⟩
    have N_u8 : New u7 u8 := by rw [← hw]; exact GrF.alloc _ _ _
    clear hw
    have K_u8 := New.blk N_u8 K_u7
    have P_u8 := New.blk N_u8 P_u7
    have O_u8 := New.blk N_u8 O_u7
    have own_u8 := New.own N_u8 own_u7
    have b_u8 := New.below N_u8 b_u7 b_u7.size
    obtain ⟨d0, d1, d2, d3, d4, df⟩ := K_u8.five_
    obtain ⟨o0, o1, o2, o3, o4⟩ := O_u8.five
    go_wp2_with fail
    clear o0 o1 o2 o3 o4
    have KE := (K_u8).setFive (.int .i64 0) (.int .i64 0) (.int .i64 0) (.int .i64 0) (.slice none 0 0)
    obtain ⟨r0, r1, r2, r3, r4⟩ := KE.five
    unfold set5 at r0 r1 r2 r3 r4
    refine bodyPost_ret (v := .tuple #[.agg #[.int .i64 0, .int .i64 0, .int .i64 0, .int .i64 0, .slice none 0 0], .bool false]) ?_ rfl ?_
    · clear d0 d1 d2 d3 d4 df
      simp [results, Try.results34, go_sem, r0, r1, r2, r3, r4]
    obtain ⟨x1, x2, x3, x4, x5⟩ := wr_no HW.out
    rw [x1, x2, x3, x4, x5, HW.out]
    exact RetPkt.zero (((((b_u8.setCell (p := ⟨w.heap.size + 1, 0, none⟩) (Nat.le_succ _) _).setCell (p := ⟨w.heap.size + 1, 1, none⟩) (Nat.le_succ _) _).setCell (p := ⟨w.heap.size + 1, 2, none⟩) (Nat.le_succ _) _).setCell (p := ⟨w.heap.size + 1, 3, none⟩) (Nat.le_succ _) _).setCell (p := ⟨w.heap.size + 1, 4, none⟩) (Nat.le_succ _) _)

set_option maxHeartbeats 1600000 in
theorem sWrapPacket_any (f t k l : Int) (A : Option Addr) (n c : Nat) (zs : List Int) (fr tt : Int) (w : World) {lo hi : Nat} (hs : Sl w lo hi 1 A n (zs.map (Value.int .u8))) (hhi : hi ≤ w.heap.size) (hnc : n ≤ c) (hc : c ≤ maxLen) (hn : n ≤ 1048576) (hby : AllByte zs) :
    Calls Try.prog 33 #[.agg #[.int .i64 f, .int .i64 t, .int .i64 k, .int .i64 l, .slice A n c], .int .i64 fr, .int .i64 tt] w (RetPkt w (wrF f t k l zs fr tt fr) (wrF f t k l zs fr tt tt) (wrF f t k l zs fr tt 3) (wrF f t k l zs fr tt 64) (wrB f t k l zs fr tt) (wrV f t k l zs fr tt)) := by
  have HL := Lib.hid hs.len
  have hlen : (putP f t k l zs).length ≤ 86 := putP_bd
  have hpos : pktV f t k l n = true → 6 ≤ (putP f t k l zs).length := fun h => by rw [putP_len (by rw [HL.out]; exact h)]; omega
  have hneg : pktV f t k l n = false → (putP f t k l zs).length = 0 := fun h => by rw [putP_bad (by rw [HL.out]; exact h)]; rfl
  obtain ⟨rs, hrs⟩ : ∃ x, putP f t k l zs = x := ⟨_, rfl⟩
  rw [hrs] at hlen hpos hneg
  have HR := Lib.hid hrs
  clear hrs
  obtain ⟨m, hm⟩ : ∃ x, rs.length = x := ⟨_, rfl⟩
  rw [hm] at hlen hpos hneg
  have HM := Lib.hid hm
  clear hm
  have HV : Hid (wrV f t k l zs fr tt = (pktV f t k l n && pktV fr tt 3 64 m)) := Lib.hid (by unfold wrV; rw [HL.out, HR.out, HM.out])
  have HP := Lib.hid hpos
  have HN := Lib.hid hneg
  clear hpos hneg
  have e0 := ((Below.refl w.heap.size w).alloc (Nat.le_refl _) (.cells #[.int .i64 f, .int .i64 t, .int .i64 k, .int .i64 l, .slice A n c] 27)).alloc (by simp) (.cells #[.int .i64 0, .int .i64 0, .int .i64 0, .int .i64 0, .slice none 0 0] 27)
  have K0 := Blk.new ((w).alloc (.cells #[.int .i64 f, .int .i64 t, .int .i64 k, .int .i64 l, .slice A n c] 27)) 27 #[.int .i64 0, .int .i64 0, .int .i64 0, .int .i64 0, .slice none 0 0]
  have P0 := (Blk.new w 27 #[.int .i64 f, .int .i64 t, .int .i64 k, .int .i64 l, .slice A n c]).alloc (.cells #[.int .i64 0, .int .i64 0, .int .i64 0, .int .i64 0, .slice none 0 0] 27)
  simp only [World.size_alloc] at K0
  have sl := (hs.alloc hhi (.cells #[.int .i64 f, .int .i64 t, .int .i64 k, .int .i64 l, .slice A n c] 27)).alloc (by simp; omega) (.cells #[.int .i64 0, .int .i64 0, .int .i64 0, .int .i64 0, .slice none 0 0] 27)
  go_enter Try.func33, Try.ntmps33
  go_wp2_with fail
  refine (ownPacket_any _ _ _ _ _ _ _ zs _ sl (by simp; omega) hn).mono ?_
  rintro e w0 ⟨A0, n0, c0, rfl, hn0, q0, q1, own0, b0⟩
  obtain rfl : n = n0 := by rw [← hn0, HL.out]
  clear hn0
  have hz0 := b0.size
  simp only [World.size_alloc] at hz0
  have KA := K0.below b0 (by simp)
  have PA := P0.below b0 (by simp; omega)
  have bA := e0.trans (b0.mono e0.size)
  obtain ⟨y0, y1, y2, y3, y4, yf⟩ := PA.five_
  have ownA := own_set5 own0 (own_ne own0 PA (by decide)) (.int .i64 f) (.int .i64 t) (.int .i64 k) (.int .i64 l) (.slice A0 n c0)
  have PB := PA.setFive (.int .i64 f) (.int .i64 t) (.int .i64 k) (.int .i64 l) (.slice A0 n c0)
  have KB := KA.farFive (show w.heap.size + 1 ≠ w.heap.size by omega) (.int .i64 f) (.int .i64 t) (.int .i64 k) (.int .i64 l) (.slice A0 n c0)
  have bB := ((((bA.setCell (p := ⟨w.heap.size, 0, none⟩) (Nat.le_refl _) (.int .i64 f)).setCell (p := ⟨w.heap.size, 1, none⟩) (Nat.le_refl _) (.int .i64 t)).setCell (p := ⟨w.heap.size, 2, none⟩) (Nat.le_refl _) (.int .i64 k)).setCell (p := ⟨w.heap.size, 3, none⟩) (Nat.le_refl _) (.int .i64 l)).setCell (p := ⟨w.heap.size, 4, none⟩) (Nat.le_refl _) (.slice A0 n c0)
  go_wp2_with fail
  obtain ⟨wB, hwB⟩ : ∃ wB, wB = set5 w0 w.heap.size (.int .i64 f) (.int .i64 t) (.int .i64 k) (.int .i64 l) (.slice A0 n c0) := ⟨_, rfl⟩
  unfold set5 at hwB PB KB ownA
  rw [← hwB] at PB KB ownA bB ⊢
  clear hwB y0 y1 y2 y3 y4 yf PA KA bA own0 b0 K0 P0 sl e0 hs
  refine (sPutPacket_any _ _ _ _ _ _ _ zs _ (Sl.of_own ownA) (Nat.le_refl _) hn hby).mono ?_
  rw [HR.out, HM.out]
  intro e w1 hr
  obtain ⟨A1, c1, rfl, own1, b1⟩ := hr.form
  clear hr
  have hz1 := b1.size
  have hkB := KB.lt
  have hpB := PB.lt
  have K1 := KB.below b1 hkB
  have P1 := PB.below b1 hpB
  have b2 := bB.trans (b1.mono bB.size)
  have own2 := own_more own1 bB.size
  clear KB PB ownA bB own1 b1
  by_cases v1 : pktV f t k l n = true
  · have hm6 := HP.out v1
    have m0 : ((m : Int) == 0) = false := by simp; omega
    by_cases v2 : pktV fr tt 3 64 m = true
    · have HW : Hid (wrV f t k l zs fr tt = true) := Lib.hid (by rw [HV.out, v1, v2]; rfl)
      obtain ⟨p0, p1, p2, p3, p4⟩ := P1.five
      have plt := P1.lt
      go_wp2_with fail
      clear p0 p1 p2 p3 p4
      have O_u1 := Blk.new w1 27 #[.int .i64 fr, .int .i64 tt, .int .i64 3, .int .i64 64, .slice A1 m c1]
      have N_u1 : New w1 (w1.alloc (.cells #[.int .i64 fr, .int .i64 tt, .int .i64 3, .int .i64 64, .slice A1 m c1] 27)) := GrF.alloc _ _ _
      generalize h_u1 : w1.alloc (.cells #[.int .i64 fr, .int .i64 tt, .int .i64 3, .int .i64 64, .slice A1 m c1] 27) = u1 at O_u1 N_u1 ⊢
      clear h_u1
      have K_u1 := New.blk N_u1 K1
      have P_u1 := New.blk N_u1 P1
      have own_u1 := New.own N_u1 own2
      have b_u1 := New.below N_u1 b2 b2.size
      obtain ⟨p0, p1, p2, p3, p4⟩ := P_u1.five
      obtain ⟨o0, o1, o2, o3, o4⟩ := O_u1.five
      go_wp2_with fail
      clear p0 p1 p2 p3 p4
      clear o0 o1 o2 o3 o4
      refine (sPacketValid_any _ _ _ _ _ _ _ _).mono ?_
      rw [v2]
      rintro e u2 ⟨rfl, hw⟩
      have N_u2 : New u1 u2 := by rw [← hw]; exact GrF.alloc _ _ _
      clear hw
      have K_u2 := New.blk N_u2 K_u1
      have P_u2 := New.blk N_u2 P_u1
      have O_u2 := New.blk N_u2 O_u1
      have own_u2 := New.own N_u2 own_u1
      have b_u2 := New.below N_u2 b_u1 b_u1.size
      obtain ⟨d0, d1, d2, d3, d4, df⟩ := K_u2.five_
      obtain ⟨o0, o1, o2, o3, o4⟩ := O_u2.five
      go_wp2_with fail
      clear o0 o1 o2 o3 o4
      have KE := (K_u2).setFive (.int .i64 fr) (.int .i64 tt) (.int .i64 3) (.int .i64 64) (.slice A1 m c1)
      obtain ⟨r0, r1, r2, r3, r4⟩ := KE.five
      unfold set5 at r0 r1 r2 r3 r4
      refine bodyPost_ret (v := .tuple #[.agg #[.int .i64 fr, .int .i64 tt, .int .i64 3, .int .i64 64, .slice A1 m c1], .bool true]) ?_ rfl ?_
      · clear d0 d1 d2 d3 d4 df
        simp [results, Try.results33, go_sem, r0, r1, r2, r3, r4]
      obtain ⟨x1, x2, x3, x4, x5⟩ := wr_yes HW.out
      rw [x1, x2, x3, x4, x5, HW.out, HR.out]
      have hM := HM.out
      exact ⟨A1, m, c1, rfl, hM, own_set5 (own_u2) (own_ne (own_u2) (K_u2) (by decide)) (.int .i64 fr) (.int .i64 tt) (.int .i64 3) (.int .i64 64) (.slice A1 m c1), ((((b_u2.setCell (p := ⟨w.heap.size + 1, 0, none⟩) (Nat.le_succ _) _).setCell (p := ⟨w.heap.size + 1, 1, none⟩) (Nat.le_succ _) _).setCell (p := ⟨w.heap.size + 1, 2, none⟩) (Nat.le_succ _) _).setCell (p := ⟨w.heap.size + 1, 3, none⟩) (Nat.le_succ _) _).setCell (p := ⟨w.heap.size + 1, 4, none⟩) (Nat.le_succ _) _⟩
    · have v2 := Bool.eq_false_iff.2 v2
      have HW : Hid (wrV f t k l zs fr tt = false) := Lib.hid (by rw [HV.out, v1, v2]; rfl)
      obtain ⟨p0, p1, p2, p3, p4⟩ := P1.five
      have plt := P1.lt
      go_wp2_with fail
      clear p0 p1 p2 p3 p4
      have O_u3 := Blk.new w1 27 #[.int .i64 fr, .int .i64 tt, .int .i64 3, .int .i64 64, .slice A1 m c1]
      have N_u3 : New w1 (w1.alloc (.cells #[.int .i64 fr, .int .i64 tt, .int .i64 3, .int .i64 64, .slice A1 m c1] 27)) := GrF.alloc _ _ _
      generalize h_u3 : w1.alloc (.cells #[.int .i64 fr, .int .i64 tt, .int .i64 3, .int .i64 64, .slice A1 m c1] 27) = u3 at O_u3 N_u3 ⊢
      clear h_u3
      have K_u3 := New.blk N_u3 K1
      have P_u3 := New.blk N_u3 P1
      have own_u3 := New.own N_u3 own2
      have b_u3 := New.below N_u3 b2 b2.size
      obtain ⟨p0, p1, p2, p3, p4⟩ := P_u3.five
      obtain ⟨o0, o1, o2, o3, o4⟩ := O_u3.five
      go_wp2_with fail
      clear p0 p1 p2 p3 p4
      clear o0 o1 o2 o3 o4
      refine (sPacketValid_any _ _ _ _ _ _ _ _).mono ?_
      rw [v2]
      rintro e u4 ⟨rfl, hw⟩
      have N_u4 : New u3 u4 := by rw [← hw]; exact GrF.alloc _ _ _
      clear hw
      have K_u4 := New.blk N_u4 K_u3
      have P_u4 := New.blk N_u4 P_u3
      have O_u4 := New.blk N_u4 O_u3
      have own_u4 := New.own N_u4 own_u3
      have b_u4 := New.below N_u4 b_u3 b_u3.size
      obtain ⟨d0, d1, d2, d3, d4, df⟩ := K_u4.five_
      obtain ⟨o0, o1, o2, o3, o4⟩ := O_u4.five
      go_wp2_with fail
      clear o0 o1 o2 o3 o4
      have KE := (K_u4).setFive (.int .i64 0) (.int .i64 0) (.int .i64 0) (.int .i64 0) (.slice none 0 0)
      obtain ⟨r0, r1, r2, r3, r4⟩ := KE.five
      unfold set5 at r0 r1 r2 r3 r4
      refine bodyPost_ret (v := .tuple #[.agg #[.int .i64 0, .int .i64 0, .int .i64 0, .int .i64 0, .slice none 0 0], .bool false]) ?_ rfl ?_
      · clear d0 d1 d2 d3 d4 df
        simp [results, Try.results33, go_sem, r0, r1, r2, r3, r4]
      obtain ⟨x1, x2, x3, x4, x5⟩ := wr_no HW.out
      rw [x1, x2, x3, x4, x5, HW.out]
      exact RetPkt.zero (((((b_u4.setCell (p := ⟨w.heap.size + 1, 0, none⟩) (Nat.le_succ _) _).setCell (p := ⟨w.heap.size + 1, 1, none⟩) (Nat.le_succ _) _).setCell (p := ⟨w.heap.size + 1, 2, none⟩) (Nat.le_succ _) _).setCell (p := ⟨w.heap.size + 1, 3, none⟩) (Nat.le_succ _) _).setCell (p := ⟨w.heap.size + 1, 4, none⟩) (Nat.le_succ _) _)
  · have v1 := Bool.eq_false_iff.2 v1
    have hm0 := HN.out v1
    have HW : Hid (wrV f t k l zs fr tt = false) := Lib.hid (by rw [HV.out, v1]; rfl)
    have m0 : ((m : Int) == 0) = true := by simp; omega
    clear hm0
    obtain ⟨p0, p1, p2, p3, p4⟩ := P1.five
    obtain ⟨d0, d1, d2, d3, d4, df⟩ := K1.five_
    have plt := P1.lt
    have klt := K1.lt
    go_wp2_with fail
    clear p0 p1 p2 p3 p4
    have KE := (K1.setFive (.int .i64 0) (.int .i64 0) (.int .i64 0) (.int .i64 0) (.slice none 0 0)).alloc (.cells #[.int .i64 fr, .int .i64 tt, .int .i64 3, .int .i64 64, .slice A1 m c1] 27)
    obtain ⟨r0, r1, r2, r3, r4⟩ := KE.five
    unfold set5 at r0 r1 r2 r3 r4
    refine bodyPost_ret (v := .tuple #[.agg #[.int .i64 0, .int .i64 0, .int .i64 0, .int .i64 0, .slice none 0 0], .bool false]) ?_ rfl ?_
    · clear d0 d1 d2 d3 d4 df
      simp [results, Try.results33, go_sem, r0, r1, r2, r3, r4]
    obtain ⟨x1, x2, x3, x4, x5⟩ := wr_no HW.out
    rw [x1, x2, x3, x4, x5, HW.out]
    exact RetPkt.zero ((((((b2.setCell (p := ⟨w.heap.size + 1, 0, none⟩) (Nat.le_succ _) _).setCell (p := ⟨w.heap.size + 1, 1, none⟩) (Nat.le_succ _) _).setCell (p := ⟨w.heap.size + 1, 2, none⟩) (Nat.le_succ _) _).setCell (p := ⟨w.heap.size + 1, 3, none⟩) (Nat.le_succ _) _).setCell (p := ⟨w.heap.size + 1, 4, none⟩) (Nat.le_succ _) _).alloc (by simp; omega) _)
end Go.Proofs.Ytleammkpfknngaa
