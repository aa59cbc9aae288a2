/-
  The walk of the drawn law FnGetPacket.
-/
import Derived.Test.YtleammkpfknngaaDrawGet
import Derived.Test.YtleammkpfknngaaGetI
import Derived.Test.YtleammkpfknngaaGetS
import Derived.Test.YtleammkpfknngaaSame
import Derived.Test.YtleammkpfknngaaHeldPkt
import Derived.Deep.CutBlock
namespace Go.Proofs.Ytleammkpfknngaa
open Go.RowKit
set_option linter.unusedVariables false

set_option maxHeartbeats 3200000 in
theorem wFnGetPacket (A : Option Addr) (n c : Nat) (zs : List Int) (w : World) (hs : Sl w 0 w.heap.size 1 A n (zs.map (Value.int .u8))) (hnc : n ≤ c) (hm : c ≤ maxLen) (hw : ∀ z ∈ zs, (Lit.int .u8 z).wf = true) :
    Calls Try.prog 8 #[.slice A n c] w fun e w' => e = .returned (.bool true) ∧ Below w.heap.size w w' := by
  unfold maxLen at hm
  have hz := AllByte.of_wf hw
  clear hw
  by_cases hn : n ≤ 1048576
  · have hn1 : ¬ ((1048576 : Int) < (n : Int)) := by omega
    go_enter Try.func8, Try.ntmps8
    go_wp2_with fail
    refine (drawGetPacket_any _ _ _ zs _ hs hnc (by omega) hz).mono ?_
    rintro e w1 ⟨B, q, qc, bs, rfl, hq87, hqc, hqx, hby, S_w1, b_w1⟩
    have d_w1 := b_w1
    have z_w1 := b_w1.size
    obtain ⟨rf, hrf⟩ : ∃ x, getF bs 4 = x := ⟨_, rfl⟩
    obtain ⟨rt, hrt⟩ : ∃ x, getF bs 5 = x := ⟨_, rfl⟩
    obtain ⟨rk, hrk⟩ : ∃ x, getF bs 1 = x := ⟨_, rfl⟩
    obtain ⟨rl, hrl⟩ : ∃ x, getF bs 2 = x := ⟨_, rfl⟩
    obtain ⟨rs, hrs⟩ : ∃ x, getB bs = x := ⟨_, rfl⟩
    obtain ⟨ok, hok⟩ : ∃ x, getV bs = x := ⟨_, rfl⟩
    have hbl : bs.length = q := S_w1.len
    have hm87 : rs.length ≤ 87 := by rw [← hrs]; have := getB_len bs; omega
    have hno : ok = false → rs.length = 0 := fun h => by rw [← hrs, getB_no (by rw [hok]; exact h)]; rfl
    have hyes : ok = true → pktV rf rt rk rl rs.length = true ∧ putP rf rt rk rl rs = bs := fun h => by
      have hv : getV bs = true := by rw [hok]; exact h
      obtain ⟨h6, h1, h2⟩ := getV_valid hv
      have e4 : rf = bs[4]?.getD 0 := by rw [← hrf]; unfold getF; rw [hv]; rfl
      have e5 : rt = bs[5]?.getD 0 := by rw [← hrt]; unfold getF; rw [hv]; rfl
      have e1 : rk = bs[1]?.getD 0 := by rw [← hrk]; unfold getF; rw [hv]; rfl
      have e2 : rl = bs[2]?.getD 0 := by rw [← hrl]; unfold getF; rw [hv]; rfl
      have eb : rs = bs.drop 6 := by rw [← hrs]; unfold getB; rw [hv]; rfl
      rw [e4, e5, e1, e2, eb]
      exact ⟨h1, h2⟩
    have hrby : AllByte rs := by rw [← hrs]; unfold getB; split; exact fun z hz => hby z (List.mem_of_mem_drop hz); exact fun z hz => absurd hz (by simp)
    have HRF := Lib.hid hrf
    have HRT := Lib.hid hrt
    have HRK := Lib.hid hrk
    have HRL := Lib.hid hrl
    have HRB := Lib.hid hrs
    have HRO := Lib.hid hok
    have HN := Lib.hid hno
    have HY := Lib.hid hyes
    have HBL := Lib.hid hbl
    clear hrf hrt hrk hrl hrs hok hno hyes hbl
    obtain ⟨m, hml⟩ : ∃ m, rs.length = m := ⟨_, rfl⟩
    have HM := Lib.hid hml
    rw [hml] at hm87
    clear hml
    have okk : (ok != ok) = false := by cases ok <;> rfl
    go_wp2_with fail
    refine (iGetPacket_any _ _ _ bs _ S_w1 (Nat.le_refl _) hqc hqx (by omega) hby).mono ?_
    rw [HRF.out, HRT.out, HRK.out, HRL.out, HRB.out, HRO.out]
    rintro e w2 ⟨AP, nP, cP, rfl, hP, X_w2, b_w2⟩
    obtain rfl : m = nP := by rw [← hP, HM.out]
    clear hP
    have d_w2 := d_w1.trans (b_w2.mono d_w1.size)
    have z_w2 := b_w2.size
    have S_w2 := S_w1.below b_w2 (Nat.le_refl _)
    go_upto_region 5 with fail
    have P_w3 := Blk.new w2 27 #[.int .i64 rf, .int .i64 rt, .int .i64 rk, .int .i64 rl, .slice AP m cP]
    have b_w3 := (Below.refl w2.heap.size w2).alloc (Nat.le_refl _) (.cells #[.int .i64 rf, .int .i64 rt, .int .i64 rk, .int .i64 rl, .slice AP m cP] 27)
    have y_w3 : w2.heap.size < (w2.alloc (.cells #[.int .i64 rf, .int .i64 rt, .int .i64 rk, .int .i64 rl, .slice AP m cP] 27)).heap.size := by simp
    generalize hw3 : w2.alloc (.cells #[.int .i64 rf, .int .i64 rt, .int .i64 rk, .int .i64 rl, .slice AP m cP] 27) = w3 at P_w3 b_w3 y_w3 ⊢
    clear hw3
    have d_w3 := d_w2.trans (b_w3.mono d_w2.size)
    have z_w3 := b_w3.size
    have X_w3 := own_below X_w2 b_w3
    have S_w3 := S_w2.below b_w3 (by omega)
    go_wp2_with fail
    refine (sGetPacket_any _ _ _ bs _ S_w3 (by omega) hqc hqx (by omega) hby).mono ?_
    rw [HRF.out, HRT.out, HRK.out, HRL.out, HRB.out, HRO.out]
    rintro e w4 ⟨AQ, nQ, cQ, rfl, hQ, Y_w4, b_w4⟩
    obtain rfl : m = nQ := by rw [← hQ, HM.out]
    clear hQ
    have d_w4 := d_w3.trans (b_w4.mono d_w3.size)
    have z_w4 := b_w4.size
    have X_w4 := own_below X_w3 b_w4
    have P_w4 := P_w3.below b_w4 P_w3.lt
    have S_w4 := S_w3.below b_w4 (by omega)
    go_upto_region 6 with fail
    have Q_w5 := Blk.new w4 27 #[.int .i64 rf, .int .i64 rt, .int .i64 rk, .int .i64 rl, .slice AQ m cQ]
    have b_w5 := (Below.refl w4.heap.size w4).alloc (Nat.le_refl _) (.cells #[.int .i64 rf, .int .i64 rt, .int .i64 rk, .int .i64 rl, .slice AQ m cQ] 27)
    have y_w5 : w4.heap.size < (w4.alloc (.cells #[.int .i64 rf, .int .i64 rt, .int .i64 rk, .int .i64 rl, .slice AQ m cQ] 27)).heap.size := by simp
    generalize hw5 : w4.alloc (.cells #[.int .i64 rf, .int .i64 rt, .int .i64 rk, .int .i64 rl, .slice AQ m cQ] 27) = w5 at Q_w5 b_w5 y_w5 ⊢
    clear hw5
    have d_w5 := d_w4.trans (b_w5.mono d_w4.size)
    have z_w5 := b_w5.size
    have X_w5 := own_below X_w4 b_w5
    have Y_w5 := own_below Y_w4 b_w5
    have P_w5 := P_w4.below b_w5 P_w4.lt
    have S_w5 := S_w4.below b_w5 (by omega)
    obtain ⟨p0, p1, p2, p3, p4⟩ := P_w5.five
    have plt := P_w5.lt
    obtain ⟨q0, q1, q2, q3, q4⟩ := Q_w5.five
    have qlt := Q_w5.lt
    go_wp2_with fail
    refine (samePacket_yes _ _ _ _ _ _ _ _ _ _ rs _ (Sl.of_own X_w5) (Sl.of_own Y_w5) (Nat.le_refl _) (Nat.le_refl _) (by omega) (by omega)).mono ?_
    rintro e w6 ⟨rfl, b_w6⟩
    clear p0 p1 p2 p3 p4 plt
    clear q0 q1 q2 q3 q4 qlt
    have d_w6 := d_w5.trans (b_w6.mono d_w5.size)
    have z_w6 := b_w6.size
    have X_w6 := own_below X_w5 b_w6
    have Y_w6 := own_below Y_w5 b_w6
    have P_w6 := P_w5.below b_w6 P_w5.lt
    have Q_w6 := Q_w5.below b_w6 Q_w5.lt
    have S_w6 := S_w5.below b_w6 (by omega)
    rcases ok
    · skip
      have h0 := HN.out rfl
      rw [HM.out] at h0
      subst h0
      obtain ⟨p0, p1, p2, p3, p4⟩ := P_w6.five
      have plt := P_w6.lt
      go_wp2_with fail
      refine (alive_any _).mono ?_
      rintro e wz ⟨rfl, bz⟩
      clear p0 p1 p2 p3 p4 plt
      have d_wz := d_w6.trans (bz.mono d_w6.size)
      have z_wz := bz.size
      have X_wz := own_below X_w6 bz
      have Y_wz := own_below Y_w6 bz
      have P_wz := P_w6.below bz P_w6.lt
      have Q_wz := Q_w6.below bz Q_w6.lt
      have S_wz := S_w6.below bz (by omega)
      go_wp2_with fail
      go_ret
      exact ⟨rfl, d_wz⟩
    · skip
      obtain ⟨hv, hp⟩ := HY.out rfl
      rw [HM.out] at hv
      have HP := Lib.hid hp
      clear hp
      obtain ⟨p0, p1, p2, p3, p4⟩ := P_w6.five
      have plt := P_w6.lt
      go_wp2_with fail
      refine (iPacketValid_any _ _ _ _ _ _ _ _).mono ?_
      rw [hv]
      rintro e w7 ⟨rfl, hw⟩
      have b_w7 : Below w6.heap.size w6 w7 := by rw [← hw]; exact (Below.refl _ _).alloc (Nat.le_refl _) _
      clear hw
      clear p0 p1 p2 p3 p4 plt
      have d_w7 := d_w6.trans (b_w7.mono d_w6.size)
      have z_w7 := b_w7.size
      have X_w7 := own_below X_w6 b_w7
      have Y_w7 := own_below Y_w6 b_w7
      have P_w7 := P_w6.below b_w7 P_w6.lt
      have Q_w7 := Q_w6.below b_w7 Q_w6.lt
      have S_w7 := S_w6.below b_w7 (by omega)
      obtain ⟨p0, p1, p2, p3, p4⟩ := P_w7.five
      have plt := P_w7.lt
      go_wp2_with fail
      refine (iPutPacket_any _ _ _ _ _ _ _ rs _ (Sl.of_own X_w7) (Nat.le_refl _) (by omega) hrby).mono ?_
      rw [HP.out, HBL.out]
      intro e w8 hr
      obtain ⟨Az, cz, rfl, Z_w8, b_w8⟩ := hr.form
      clear hr
      clear p0 p1 p2 p3 p4 plt
      have d_w8 := d_w7.trans (b_w8.mono d_w7.size)
      have z_w8 := b_w8.size
      have X_w8 := own_below X_w7 b_w8
      have Y_w8 := own_below Y_w7 b_w8
      have P_w8 := P_w7.below b_w8 P_w7.lt
      have Q_w8 := Q_w7.below b_w8 Q_w7.lt
      have S_w8 := S_w7.below b_w8 (by omega)
      go_wp2_with fail
      refine (sameBytes_any _ _ _ _ _ _ bs bs _ (Sl.of_own Z_w8) S_w8 (by omega) (by omega)).mono ?_
      rw [show (bs == bs) = true from by simp]
      rintro e wz ⟨rfl, bz⟩
      have d_wz := d_w8.trans (bz.mono d_w8.size)
      have z_wz := bz.size
      have X_wz := own_below X_w8 bz
      have Y_wz := own_below Y_w8 bz
      have P_wz := P_w8.below bz P_w8.lt
      have Q_wz := Q_w8.below bz Q_w8.lt
      have S_wz := S_w8.below bz (by omega)
      go_wp2_with fail
      go_ret
      exact ⟨rfl, d_wz⟩
  · go_enter Try.func8, Try.ntmps8
    go_wp2
    go_ret
    exact ⟨rfl, Below.refl _ _⟩
end Go.Proofs.Ytleammkpfknngaa
