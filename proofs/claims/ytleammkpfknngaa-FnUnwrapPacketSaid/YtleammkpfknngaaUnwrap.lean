/-
  UnwrapPacket of both packages: their contracts.
-/
import Derived.Test.YtleammkpfknngaaWrap0
import Derived.Test.YtleammkpfknngaaGetI
import Derived.Test.YtleammkpfknngaaGetS
namespace Go.Proofs.Ytleammkpfknngaa
open Go.RowKit
set_option linter.unusedVariables false

set_option maxHeartbeats 1600000 in
theorem iUnwrapPacket_any (f t k l : Int) (A : Option Addr) (n c : Nat) (zs : List Int) (tt : Int) (w : World) {lo hi : Nat} (hs : Sl w lo hi 1 A n (zs.map (Value.int .u8))) (hhi : hi ≤ w.heap.size) (hnc : n ≤ c) (hc : c ≤ maxLen) (hn : n ≤ 1048576) (hby : AllByte zs) :
    Calls Try.prog 36 #[.agg #[.int .i64 f, .int .i64 t, .int .i64 k, .int .i64 l, .slice A n c], .int .i64 tt] w (RetPkt w (unF f t k l zs tt 4) (unF f t k l zs tt 5) (unF f t k l zs tt 1) (unF f t k l zs tt 2) (unB f t k l zs tt) (unV f t k l zs tt)) := by
  have HL := Lib.hid hs.len
  have HA : Hid (unA f t k l zs tt = (pktV f t k l n && (k == 3) && (t == tt))) := Lib.hid (by unfold unA; rw [HL.out])
  have e0 := ((Below.refl w.heap.size w).alloc (Nat.le_refl _) (.cells #[.int .i64 f, .int .i64 t, .int .i64 k, .int .i64 l, .slice A n c] 27)).alloc (by simp) (.cells #[.int .i64 0, .int .i64 0, .int .i64 0, .int .i64 0, .slice none 0 0] 27)
  have K0 := Blk.new ((w).alloc (.cells #[.int .i64 f, .int .i64 t, .int .i64 k, .int .i64 l, .slice A n c] 27)) 27 #[.int .i64 0, .int .i64 0, .int .i64 0, .int .i64 0, .slice none 0 0]
  have P0 := (Blk.new w 27 #[.int .i64 f, .int .i64 t, .int .i64 k, .int .i64 l, .slice A n c]).alloc (.cells #[.int .i64 0, .int .i64 0, .int .i64 0, .int .i64 0, .slice none 0 0] 27)
  simp only [World.size_alloc] at K0
  have sl := (hs.alloc hhi (.cells #[.int .i64 f, .int .i64 t, .int .i64 k, .int .i64 l, .slice A n c] 27)).alloc (by simp; omega) (.cells #[.int .i64 0, .int .i64 0, .int .i64 0, .int .i64 0, .slice none 0 0] 27)
  go_enter Try.func36, Try.ntmps36
  go_wp2_with fail
  obtain ⟨wB, hwB⟩ : ∃ wB, wB = ((w).alloc (.cells #[.int .i64 f, .int .i64 t, .int .i64 k, .int .i64 l, .slice A n c] 27)).alloc (.cells #[.int .i64 0, .int .i64 0, .int .i64 0, .int .i64 0, .slice none 0 0] 27) := ⟨_, rfl⟩
  rw [← hwB] at K0 P0 sl e0 ⊢
  have hszB : wB.heap.size = w.heap.size + 1 + 1 := by rw [hwB]; simp
  clear hwB
  have KB := K0
  have PB := P0
  have bB := e0
  have slB := sl
  have hhB : hi ≤ wB.heap.size := by omega
  have q0 := hnc
  have q1 := hc
  clear hszB K0 P0 e0 sl
  by_cases v1 : pktV f t k l n = true
  · by_cases v2 : k = 3
    · subst v2
      by_cases v3 : t = tt
      · subst v3
        have HW : Hid (unA f t 3 l zs t = true) := Lib.hid (by rw [HA.out, v1]; simp)
        have k3 : ((3 : Int) != 3) = false := rfl
        have t3 : ((t : Int) != t) = false := by simp
        obtain ⟨p0, p1, p2, p3, p4⟩ := PB.five
        go_wp2_with fail
        clear p0 p1 p2 p3 p4
        refine (iPacketValid_any _ _ _ _ _ _ _ _).mono ?_
        rw [v1]
        rintro e u1 ⟨rfl, hw⟩
        have N1 : New wB u1 := by rw [← hw]; exact GrF.alloc _ _ _
        clear hw
        have K1 := New.blk N1 KB
        have P1 := New.blk N1 PB
        have b1 := New.below N1 bB bB.size
        have sl1 := New.sl N1 slB hhB
        have hh1 : hi ≤ u1.heap.size := Nat.le_trans hhB N1.size
        clear KB PB bB slB N1
        obtain ⟨p0, p1, p2, p3, p4⟩ := P1.five
        have plt := P1.lt
        go_wp2_with fail
        clear p0 p1 p2 p3 p4
        refine (iGetPacket_any _ _ _ zs _ sl1 hh1 q0 q1 hn hby).mono ?_
        obtain ⟨x1, x2, x3, x4, x5, x6⟩ := un_yes HW.out
        rw [← x1, ← x2, ← x3, ← x4, ← x5, ← x6]
        clear x1 x2 x3 x4 x5 x6
        rintro e w2 ⟨A2, m, c2, rfl, hm, own2, b3⟩
        have K2 := K1.below b3 K1.lt
        have b4 := b1.trans (b3.mono b1.size)
        have own4 := own_more own2 b1.size
        obtain ⟨d0, d1, d2, d3, d4, df⟩ := K2.five_
        generalize unF f t 3 l zs t 4 = g4 at *
        generalize unF f t 3 l zs t 5 = g5 at *
        generalize unF f t 3 l zs t 1 = g1 at *
        generalize unF f t 3 l zs t 2 = g2 at *
        generalize unV f t 3 l zs t = gv at *
        have HM := Lib.hid hm
        clear hm
        have KE := K2.setFive (.int .i64 g4) (.int .i64 g5) (.int .i64 g1) (.int .i64 g2) (.slice A2 m c2)
        have RE := own_set5 own4 (own_ne own4 K2 (by decide)) (.int .i64 g4) (.int .i64 g5) (.int .i64 g1) (.int .i64 g2) (.slice A2 m c2)
        go_wp2_with fail
        obtain ⟨r0, r1, r2, r3, r4⟩ := KE.five
        unfold set5 at r0 r1 r2 r3 r4
        refine bodyPost_ret (v := .tuple #[.agg #[.int .i64 g4, .int .i64 g5, .int .i64 g1, .int .i64 g2, .slice A2 m c2], .bool gv]) ?_ rfl ?_
        · clear d0 d1 d2 d3 d4 df
          simp [results, Try.results36, go_sem, r0, r1, r2, r3, r4]
        exact ⟨A2, m, c2, rfl, HM.out, RE, ((((b4.setCell (p := ⟨w.heap.size + 1, 0, none⟩) (Nat.le_succ _) _).setCell (p := ⟨w.heap.size + 1, 1, none⟩) (Nat.le_succ _) _).setCell (p := ⟨w.heap.size + 1, 2, none⟩) (Nat.le_succ _) _).setCell (p := ⟨w.heap.size + 1, 3, none⟩) (Nat.le_succ _) _).setCell (p := ⟨w.heap.size + 1, 4, none⟩) (Nat.le_succ _) _⟩
      · have HW : Hid (unA f t 3 l zs tt = false) := Lib.hid (by rw [HA.out, v1]; simpa using v3)
        have k3 : ((3 : Int) != 3) = false := rfl
        have t3 : ((t : Int) != tt) = true := by simpa using v3
        obtain ⟨p0, p1, p2, p3, p4⟩ := PB.five
        go_wp2_with fail
        clear p0 p1 p2 p3 p4
        refine (iPacketValid_any _ _ _ _ _ _ _ _).mono ?_
        rw [v1]
        rintro e u1 ⟨rfl, hw⟩
        have N1 : New wB u1 := by rw [← hw]; exact GrF.alloc _ _ _
        clear hw
        have K1 := New.blk N1 KB
        have P1 := New.blk N1 PB
        have b1 := New.below N1 bB bB.size
        have sl1 := New.sl N1 slB hhB
        have hh1 : hi ≤ u1.heap.size := Nat.le_trans hhB N1.size
        clear KB PB bB slB N1
        obtain ⟨p0, p1, p2, p3, p4⟩ := P1.five
        have plt := P1.lt
        obtain ⟨d0, d1, d2, d3, d4, df⟩ := K1.five_
        go_wp2_with fail
        clear p0 p1 p2 p3 p4
        have KE := (K1).setFive (.int .i64 0) (.int .i64 0) (.int .i64 0) (.int .i64 0) (.slice none 0 0)
        obtain ⟨r0, r1, r2, r3, r4⟩ := KE.five
        unfold set5 at r0 r1 r2 r3 r4
        refine bodyPost_ret (v := .tuple #[.agg #[.int .i64 0, .int .i64 0, .int .i64 0, .int .i64 0, .slice none 0 0], .bool false]) ?_ rfl ?_
        · clear d0 d1 d2 d3 d4 df
          simp [results, Try.results36, go_sem, r0, r1, r2, r3, r4]
        obtain ⟨x1, x2, x3, x4, x5, x6⟩ := un_no HW.out
        rw [x1, x2, x3, x4, x5, x6]
        exact RetPkt.zero (((((b1.setCell (p := ⟨w.heap.size + 1, 0, none⟩) (Nat.le_succ _) _).setCell (p := ⟨w.heap.size + 1, 1, none⟩) (Nat.le_succ _) _).setCell (p := ⟨w.heap.size + 1, 2, none⟩) (Nat.le_succ _) _).setCell (p := ⟨w.heap.size + 1, 3, none⟩) (Nat.le_succ _) _).setCell (p := ⟨w.heap.size + 1, 4, none⟩) (Nat.le_succ _) _)
    · have HW : Hid (unA f t k l zs tt = false) := Lib.hid (by rw [HA.out, v1]; simp [v2])
      have k3 : ((k : Int) != 3) = true := by simpa using v2
      obtain ⟨p0, p1, p2, p3, p4⟩ := PB.five
      go_wp2_with fail
      clear p0 p1 p2 p3 p4
      refine (iPacketValid_any _ _ _ _ _ _ _ _).mono ?_
      rw [v1]
      rintro e u1 ⟨rfl, hw⟩
      have N1 : New wB u1 := by rw [← hw]; exact GrF.alloc _ _ _
      clear hw
      have K1 := New.blk N1 KB
      have P1 := New.blk N1 PB
      have b1 := New.below N1 bB bB.size
      have sl1 := New.sl N1 slB hhB
      have hh1 : hi ≤ u1.heap.size := Nat.le_trans hhB N1.size
      clear KB PB bB slB N1
      obtain ⟨p0, p1, p2, p3, p4⟩ := P1.five
      have plt := P1.lt
      obtain ⟨d0, d1, d2, d3, d4, df⟩ := K1.five_
      go_wp2_with fail
      clear p0 p1 p2 p3 p4
      have KE := (K1).setFive (.int .i64 0) (.int .i64 0) (.int .i64 0) (.int .i64 0) (.slice none 0 0)
      obtain ⟨r0, r1, r2, r3, r4⟩ := KE.five
      unfold set5 at r0 r1 r2 r3 r4
      refine bodyPost_ret (v := .tuple #[.agg #[.int .i64 0, .int .i64 0, .int .i64 0, .int .i64 0, .slice none 0 0], .bool false]) ?_ rfl ?_
      · clear d0 d1 d2 d3 d4 df
        simp [results, Try.results36, go_sem, r0, r1, r2, r3, r4]
      obtain ⟨x1, x2, x3, x4, x5, x6⟩ := un_no HW.out
      rw [x1, x2, x3, x4, x5, x6]
      exact RetPkt.zero (((((b1.setCell (p := ⟨w.heap.size + 1, 0, none⟩) (Nat.le_succ _) _).setCell (p := ⟨w.heap.size + 1, 1, none⟩) (Nat.le_succ _) _).setCell (p := ⟨w.heap.size + 1, 2, none⟩) (Nat.le_succ _) _).setCell (p := ⟨w.heap.size + 1, 3, none⟩) (Nat.le_succ _) _).setCell (p := ⟨w.heap.size + 1, 4, none⟩) (Nat.le_succ _) _)
  · have v1 := Bool.eq_false_iff.2 v1
    have HW : Hid (unA f t k l zs tt = false) := Lib.hid (by rw [HA.out, v1]; rfl)
    obtain ⟨p0, p1, p2, p3, p4⟩ := PB.five
    go_wp2_with fail
    clear p0 p1 p2 p3 p4
    refine (iPacketValid_any _ _ _ _ _ _ _ _).mono ?_
    rw [v1]
    rintro e u1 ⟨rfl, hw⟩
    have N1 : New wB u1 := by rw [← hw]; exact GrF.alloc _ _ _
    clear hw
    have K1 := New.blk N1 KB
    have P1 := New.blk N1 PB
    have b1 := New.below N1 bB bB.size
    have sl1 := New.sl N1 slB hhB
    have hh1 : hi ≤ u1.heap.size := Nat.le_trans hhB N1.size
    clear KB PB bB slB N1
    obtain ⟨p0, p1, p2, p3, p4⟩ := P1.five
    have plt := P1.lt
    obtain ⟨d0, d1, d2, d3, d4, df⟩ := K1.five_
    go_wp2_with fail
    clear p0 p1 p2 p3 p4
    have KE := (K1).setFive (.int .i64 0) (.int .i64 0) (.int .i64 0) (.int .i64 0) (.slice none 0 0)
    obtain ⟨r0, r1, r2, r3, r4⟩ := KE.five
    unfold set5 at r0 r1 r2 r3 r4
    refine bodyPost_ret (v := .tuple #[.agg #[.int .i64 0, .int .i64 0, .int .i64 0, .int .i64 0, .slice none 0 0], .bool false]) ?_ rfl ?_
    · clear d0 d1 d2 d3 d4 df
      simp [results, Try.results36, go_sem, r0, r1, r2, r3, r4]
    obtain ⟨x1, x2, x3, x4, x5, x6⟩ := un_no HW.out
    rw [x1, x2, x3, x4, x5, x6]
    exact RetPkt.zero (((((b1.setCell (p := ⟨w.heap.size + 1, 0, none⟩) (Nat.le_succ _) _).setCell (p := ⟨w.heap.size + 1, 1, none⟩) (Nat.le_succ _) _).setCell (p := ⟨w.heap.size + 1, 2, none⟩) (Nat.le_succ _) _).setCell (p := ⟨w.heap.size + 1, 3, none⟩) (Nat.le_succ _) _).setCell (p := ⟨w.heap.size + 1, 4, none⟩) (Nat.le_succ _) _)

set_option maxHeartbeats 1600000 in
theorem sUnwrapPacket_any (f t k l : Int) (A : Option Addr) (n c : Nat) (zs : List Int) (tt : Int) (w : World) {lo hi : Nat} (hs : Sl w lo hi 1 A n (zs.map (Value.int .u8))) (hhi : hi ≤ w.heap.size) (hnc : n ≤ c) (hc : c ≤ maxLen) (hn : n ≤ 1048576) (hby : AllByte zs) :
    Calls Try.prog 35 #[.agg #[.int .i64 f, .int .i64 t, .int .i64 k, .int .i64 l, .slice A n c], .int .i64 tt] w (RetPkt w (unF f t k l zs tt 4) (unF f t k l zs tt 5) (unF f t k l zs tt 1) (unF f t k l zs tt 2) (unB f t k l zs tt) (unV f t k l zs tt)) := by
  have HL := Lib.hid hs.len
  have HA : Hid (unA f t k l zs tt = (pktV f t k l n && (k == 3) && (t == tt))) := Lib.hid (by unfold unA; rw [HL.out])
  have e0 := ((Below.refl w.heap.size w).alloc (Nat.le_refl _) (.cells #[.int .i64 f, .int .i64 t, .int .i64 k, .int .i64 l, .slice A n c] 27)).alloc (by simp) (.cells #[.int .i64 0, .int .i64 0, .int .i64 0, .int .i64 0, .slice none 0 0] 27)
  have K0 := Blk.new ((w).alloc (.cells #[.int .i64 f, .int .i64 t, .int .i64 k, .int .i64 l, .slice A n c] 27)) 27 #[.int .i64 0, .int .i64 0, .int .i64 0, .int .i64 0, .slice none 0 0]
  have P0 := (Blk.new w 27 #[.int .i64 f, .int .i64 t, .int .i64 k, .int .i64 l, .slice A n c]).alloc (.cells #[.int .i64 0, .int .i64 0, .int .i64 0, .int .i64 0, .slice none 0 0] 27)
  simp only [World.size_alloc] at K0
  have sl := (hs.alloc hhi (.cells #[.int .i64 f, .int .i64 t, .int .i64 k, .int .i64 l, .slice A n c] 27)).alloc (by simp; omega) (.cells #[.int .i64 0, .int .i64 0, .int .i64 0, .int .i64 0, .slice none 0 0] 27)
  go_enter Try.func35, Try.ntmps35
  go_wp2_with fail
  refine (ownPacket_any _ _ _ _ _ _ _ zs _ sl (by simp; omega) hn).mono ?_
  rintro e w0 ⟨A0, n0, c0, rfl, hn0, q0, q1, own0, b0⟩
  obtain rfl : n = n0 := by rw [← hn0, HL.out]
  clear hn0
  have hz0 := b0.size
  simp only [World.size_alloc] at hz0
  have KA := K0.below b0 (by simp)
  have PA := P0.below b0 (by simp; omega)
  have bA := e0.trans (b0.mono e0.size)
  obtain ⟨y0, y1, y2, y3, y4, yf⟩ := PA.five_
  have ownA := own_set5 own0 (own_ne own0 PA (by decide)) (.int .i64 f) (.int .i64 t) (.int .i64 k) (.int .i64 l) (.slice A0 n c0)
  have PB := PA.setFive (.int .i64 f) (.int .i64 t) (.int .i64 k) (.int .i64 l) (.slice A0 n c0)
  have KB := KA.farFive (show w.heap.size + 1 ≠ w.heap.size by omega) (.int .i64 f) (.int .i64 t) (.int .i64 k) (.int .i64 l) (.slice A0 n c0)
  have bB := ((((bA.setCell (p := ⟨w.heap.size, 0, none⟩) (Nat.le_refl _) (.int .i64 f)).setCell (p := ⟨w.heap.size, 1, none⟩) (Nat.le_refl _) (.int .i64 t)).setCell (p := ⟨w.heap.size, 2, none⟩) (Nat.le_refl _) (.int .i64 k)).setCell (p := ⟨w.heap.size, 3, none⟩) (Nat.le_refl _) (.int .i64 l)).setCell (p := ⟨w.heap.size, 4, none⟩) (Nat.le_refl _) (.slice A0 n c0)
  go_wp2_with fail
  obtain ⟨wB, hwB⟩ : ∃ wB, wB = set5 w0 w.heap.size (.int .i64 f) (.int .i64 t) (.int .i64 k) (.int .i64 l) (.slice A0 n c0) := ⟨_, rfl⟩
  unfold set5 at hwB PB KB ownA
  rw [← hwB] at PB KB ownA bB ⊢
  clear hwB y0 y1 y2 y3 y4 yf PA KA bA own0 b0 K0 P0 sl e0 hs
  have slB := Sl.of_own ownA
  have hhB : wB.heap.size ≤ wB.heap.size := Nat.le_refl _
  by_cases v1 : pktV f t k l n = true
  · by_cases v2 : k = 3
    · subst v2
      by_cases v3 : t = tt
      · subst v3
        have HW : Hid (unA f t 3 l zs t = true) := Lib.hid (by rw [HA.out, v1]; simp)
        have k3 : ((3 : Int) != 3) = false := rfl
        have t3 : ((t : Int) != t) = false := by simp
        obtain ⟨p0, p1, p2, p3, p4⟩ := PB.five
        go_wp2_with fail
        clear p0 p1 p2 p3 p4
        refine (sPacketValid_any _ _ _ _ _ _ _ _).mono ?_
        rw [v1]
        rintro e u1 ⟨rfl, hw⟩
        have N1 : New wB u1 := by rw [← hw]; exact GrF.alloc _ _ _
        clear hw
        have K1 := New.blk N1 KB
        have P1 := New.blk N1 PB
        have b1 := New.below N1 bB bB.size
        have sl1 := New.sl N1 slB hhB
        have hh1 : wB.heap.size ≤ u1.heap.size := Nat.le_trans hhB N1.size
        clear KB PB bB slB N1
        obtain ⟨p0, p1, p2, p3, p4⟩ := P1.five
        have plt := P1.lt
        go_wp2_with fail
        clear p0 p1 p2 p3 p4
        refine (sGetPacket_any _ _ _ zs _ sl1 hh1 q0 q1 hn hby).mono ?_
        obtain ⟨x1, x2, x3, x4, x5, x6⟩ := un_yes HW.out
        rw [← x1, ← x2, ← x3, ← x4, ← x5, ← x6]
        clear x1 x2 x3 x4 x5 x6
        rintro e w2 ⟨A2, m, c2, rfl, hm, own2, b3⟩
        have K2 := K1.below b3 K1.lt
        have b4 := b1.trans (b3.mono b1.size)
        have own4 := own_more own2 b1.size
        obtain ⟨d0, d1, d2, d3, d4, df⟩ := K2.five_
        generalize unF f t 3 l zs t 4 = g4 at *
        generalize unF f t 3 l zs t 5 = g5 at *
        generalize unF f t 3 l zs t 1 = g1 at *
        generalize unF f t 3 l zs t 2 = g2 at *
        generalize unV f t 3 l zs t = gv at *
        have HM := Lib.hid hm
        clear hm
        have KE := K2.setFive (.int .i64 g4) (.int .i64 g5) (.int .i64 g1) (.int .i64 g2) (.slice A2 m c2)
        have RE := own_set5 own4 (own_ne own4 K2 (by decide)) (.int .i64 g4) (.int .i64 g5) (.int .i64 g1) (.int .i64 g2) (.slice A2 m c2)
        go_wp2_with fail
        obtain ⟨r0, r1, r2, r3, r4⟩ := KE.five
        unfold set5 at r0 r1 r2 r3 r4
        refine bodyPost_ret (v := .tuple #[.agg #[.int .i64 g4, .int .i64 g5, .int .i64 g1, .int .i64 g2, .slice A2 m c2], .bool gv]) ?_ rfl ?_
        · clear d0 d1 d2 d3 d4 df
          simp [results, Try.results35, go_sem, r0, r1, r2, r3, r4]
        exact ⟨A2, m, c2, rfl, HM.out, RE, ((((b4.setCell (p := ⟨w.heap.size + 1, 0, none⟩) (Nat.le_succ _) _).setCell (p := ⟨w.heap.size + 1, 1, none⟩) (Nat.le_succ _) _).setCell (p := ⟨w.heap.size + 1, 2, none⟩) (Nat.le_succ _) _).setCell (p := ⟨w.heap.size + 1, 3, none⟩) (Nat.le_succ _) _).setCell (p := ⟨w.heap.size + 1, 4, none⟩) (Nat.le_succ _) _⟩
      · have HW : Hid (unA f t 3 l zs tt = false) := Lib.hid (by rw [HA.out, v1]; simpa using v3)
        have k3 : ((3 : Int) != 3) = false := rfl
        have t3 : ((t : Int) != tt) = true := by simpa using v3
        obtain ⟨p0, p1, p2, p3, p4⟩ := PB.five
        go_wp2_with fail
        clear p0 p1 p2 p3 p4
        refine (sPacketValid_any _ _ _ _ _ _ _ _).mono ?_
        rw [v1]
        rintro e u1 ⟨rfl, hw⟩
        have N1 : New wB u1 := by rw [← hw]; exact GrF.alloc _ _ _
        clear hw
        have K1 := New.blk N1 KB
        have P1 := New.blk N1 PB
        have b1 := New.below N1 bB bB.size
        have sl1 := New.sl N1 slB hhB
        have hh1 : wB.heap.size ≤ u1.heap.size := Nat.le_trans hhB N1.size
        clear KB PB bB slB N1
        obtain ⟨p0, p1, p2, p3, p4⟩ := P1.five
        have plt := P1.lt
        obtain ⟨d0, d1, d2, d3, d4, df⟩ := K1.five_
        go_wp2_with fail
        clear p0 p1 p2 p3 p4
        have KE := (K1).setFive (.int .i64 0) (.int .i64 0) (.int .i64 0) (.int .i64 0) (.slice none 0 0)
        obtain ⟨r0, r1, r2, r3, r4⟩ := KE.five
        unfold set5 at r0 r1 r2 r3 r4
        refine bodyPost_ret (v := .tuple #[.agg #[.int .i64 0, .int .i64 0, .int .i64 0, .int .i64 0, .slice none 0 0], .bool false]) ?_ rfl ?_
        · clear d0 d1 d2 d3 d4 df
          simp [results, Try.results35, go_sem, r0, r1, r2, r3, r4]
        obtain ⟨x1, x2, x3, x4, x5, x6⟩ := un_no HW.out
        rw [x1, x2, x3, x4, x5, x6]
        exact RetPkt.zero (((((b1.setCell (p := ⟨w.heap.size + 1, 0, none⟩) (Nat.le_succ _) _).setCell (p := ⟨w.heap.size + 1, 1, none⟩) (Nat.le_succ _) _).setCell (p := ⟨w.heap.size + 1, 2, none⟩) (Nat.le_succ _) _).setCell (p := ⟨w.heap.size + 1, 3, none⟩) (Nat.le_succ _) _).setCell (p := ⟨w.heap.size + 1, 4, none⟩) (Nat.le_succ _) _)
    · have HW : Hid (unA f t k l zs tt = false) := Lib.hid (by rw [HA.out, v1]; simp [v2])
      have k3 : ((k : Int) != 3) = true := by simpa using v2
      obtain ⟨p0, p1, p2, p3, p4⟩ := PB.five
      go_wp2_with fail
      clear p0 p1 p2 p3 p4
      refine (sPacketValid_any _ _ _ _ _ _ _ _).mono ?_
      rw [v1]
      rintro e u1 ⟨rfl, hw⟩
      have N1 : New wB u1 := by rw [← hw]; exact GrF.alloc _ _ _
      clear hw
      have K1 := New.blk N1 KB
      have P1 := New.blk N1 PB
      have b1 := New.below N1 bB bB.size
      have sl1 := New.sl N1 slB hhB
      have hh1 : wB.heap.size ≤ u1.heap.size := Nat.le_trans hhB N1.size
      clear KB PB bB slB N1
      obtain ⟨p0, p1, p2, p3, p4⟩ := P1.five
      have plt := P1.lt
      obtain ⟨d0, d1, d2, d3, d4, df⟩ := K1.five_
      go_wp2_with fail
      clear p0 p1 p2 p3 p4
      have KE := (K1).setFive (.int .i64 0) (.int .i64 0) (.int .i64 0) (.int .i64 0) (.slice none 0 0)
      obtain ⟨r0, r1, r2, r3, r4⟩ := KE.five
      unfold set5 at r0 r1 r2 r3 r4
      refine bodyPost_ret (v := .tuple #[.agg #[.int .i64 0, .int .i64 0, .int .i64 0, .int .i64 0, .slice none 0 0], .bool false]) ?_ rfl ?_
      · clear d0 d1 d2 d3 d4 df
        simp [results, Try.results35, go_sem, r0, r1, r2, r3, r4]
      obtain ⟨x1, x2, x3, x4, x5, x6⟩ := un_no HW.out
      rw [x1, x2, x3, x4, x5, x6]
      exact RetPkt.zero (((((b1.setCell (p := ⟨w.heap.size + 1, 0, none⟩) (Nat.le_succ _) _).setCell (p := ⟨w.heap.size + 1, 1, none⟩) (Nat.le_succ _) _).setCell (p := ⟨w.heap.size + 1, 2, none⟩) (Nat.le_succ _) _).setCell (p := ⟨w.heap.size + 1, 3, none⟩) (Nat.le_succ _) _).setCell (p := ⟨w.heap.size + 1, 4, none⟩) (Nat.le_succ _) _)
  · have v1 := Bool.eq_false_iff.2 v1
    have HW : Hid (unA f t k l zs tt = false) := Lib.hid (by rw [HA.out, v1]; rfl)
    obtain ⟨p0, p1, p2, p3, p4⟩ := PB.five
    go_wp2_with fail
    clear p0 p1 p2 p3 p4
    refine (sPacketValid_any _ _ _ _ _ _ _ _).mono ?_
    rw [v1]
    rintro e u1 ⟨rfl, hw⟩
    have N1 : New wB u1 := by rw [← hw]; exact GrF.alloc _ _ _
    clear hw
    have K1 := New.blk N1 KB
    have P1 := New.blk N1 PB
    have b1 := New.below N1 bB bB.size
    have sl1 := New.sl N1 slB hhB
    have hh1 : wB.heap.size ≤ u1.heap.size := Nat.le_trans hhB N1.size
    clear KB PB bB slB N1
    obtain ⟨p0, p1, p2, p3, p4⟩ := P1.five
    have plt := P1.lt
    obtain ⟨d0, d1, d2, d3, d4, df⟩ := K1.five_
    go_wp2_with fail
    clear p0 p1 p2 p3 p4
    have KE := (K1).setFive (.int .i64 0) (.int .i64 0) (.int .i64 0) (.int .i64 0) (.slice none 0 0)
    obtain ⟨r0, r1, r2, r3, r4⟩ := KE.five
    unfold set5 at r0 r1 r2 r3 r4
    refine bodyPost_ret (v := .tuple #[.agg #[.int .i64 0, .int .i64 0, .int .i64 0, .int .i64 0, .slice none 0 0], .bool false]) ?_ rfl ?_
    · clear d0 d1 d2 d3 d4 df
      simp [results, Try.results35, go_sem, r0, r1, r2, r3, r4]
    obtain ⟨x1, x2, x3, x4, x5, x6⟩ := un_no HW.out
    rw [x1, x2, x3, x4, x5, x6]
    exact RetPkt.zero (((((b1.setCell (p := ⟨w.heap.size + 1, 0, none⟩) (Nat.le_succ _) _).setCell (p := ⟨w.heap.size + 1, 1, none⟩) (Nat.le_succ _) _).setCell (p := ⟨w.heap.size + 1, 2, none⟩) (Nat.le_succ _) _).setCell (p := ⟨w.heap.size + 1, 3, none⟩) (Nat.le_succ _) _).setCell (p := ⟨w.heap.size + 1, 4, none⟩) (Nat.le_succ _) _)
end Go.Proofs.Ytleammkpfknngaa
