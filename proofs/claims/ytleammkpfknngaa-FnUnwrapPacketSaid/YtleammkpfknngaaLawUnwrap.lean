/-
  The walk of the drawn law FnUnwrapPacket.
-/
import Derived.Test.YtleammkpfknngaaDrawUnwrap
import Derived.Test.YtleammkpfknngaaUnwrap
import Derived.Test.YtleammkpfknngaaSame
import Derived.Test.YtleammkpfknngaaHeldPkt
import Derived.Deep.CutBlock
namespace Go.Proofs.Ytleammkpfknngaa
open Go.RowKit
set_option linter.unusedVariables false

theorem own_cap2 {w : World} {base : Nat} {e : TypeId} {size n c : Nat} {A : Option Addr} {xs : List Value} (h : w.ownsRow base e size (.slice A n c) n xs) : n ≤ c ∧ c ≤ maxLen := by
  obtain ⟨A', c', e, h1, h2⟩ := own_is_slice h
  cases e
  exact ⟨h1, h2⟩
theorem unB_byte {f t k l : Int} {zs : List Int} {tt : Int} (hz : AllByte zs) : AllByte (unB f t k l zs tt) := by
  by_cases h : unA f t k l zs tt = true
  · obtain ⟨_, _, _, _, x5, _⟩ := un_yes h
    rw [x5]
    unfold getB
    split
    · exact fun z hzz => hz z (List.mem_of_mem_drop hzz)
    · exact fun z hzz => absurd hzz (by simp)
  · obtain ⟨_, _, _, _, x5, _⟩ := un_no (Bool.eq_false_iff.2 h)
    rw [x5]
    exact fun z hzz => absurd hzz (by simp)
theorem un_facts (f t k l : Int) (zs : List Int) (tt : Int) : (unB f t k l zs tt).length ≤ zs.length ∧ (unV f t k l zs tt = false → (unB f t k l zs tt).length = 0) ∧
    (unV f t k l zs tt = true → wrV (unF f t k l zs tt 4) (unF f t k l zs tt 5) (unF f t k l zs tt 1) (unF f t k l zs tt 2) (unB f t k l zs tt) f t = true ∧ putP (unF f t k l zs tt 4) (unF f t k l zs tt 5) (unF f t k l zs tt 1) (unF f t k l zs tt 2) (unB f t k l zs tt) = zs ∧ t = tt) := by
  by_cases h : unA f t k l zs tt = true
  · obtain ⟨x1, x2, x3, x4, x5, x6⟩ := un_yes h
    rw [x1, x2, x3, x4, x5, x6]
    refine ⟨getB_len zs, fun hv => by rw [getB_no hv]; rfl, fun hv => ?_⟩
    obtain ⟨h6, h1, h2⟩ := getV_valid hv
    have e4 : getF zs 4 = zs[4]?.getD 0 := by unfold getF; rw [hv]; rfl
    have e5 : getF zs 5 = zs[5]?.getD 0 := by unfold getF; rw [hv]; rfl
    have e1 : getF zs 1 = zs[1]?.getD 0 := by unfold getF; rw [hv]; rfl
    have e2 : getF zs 2 = zs[2]?.getD 0 := by unfold getF; rw [hv]; rfl
    have eb : getB zs = zs.drop 6 := by unfold getB; rw [hv]; rfl
    rw [e4, e5, e1, e2, eb]
    unfold unA at h
    simp only [Bool.and_eq_true, beq_iff_eq] at h
    obtain ⟨⟨hp, _⟩, ht⟩ := h
    have hb := pktV_iff.1 hp
    refine ⟨?_, h2, ht⟩
    unfold wrV
    rw [h1, h2]
    exact pktV_iff.2 ⟨hb.1, hb.2.1, by omega, by omega, hb.2.2.2.2⟩
  · obtain ⟨x1, x2, x3, x4, x5, x6⟩ := un_no (Bool.eq_false_iff.2 h)
    have hv : unV f t k l zs tt = false := by unfold unV; rw [Bool.eq_false_iff.2 h]; rfl
    rw [x5, hv]
    exact ⟨Nat.zero_le _, fun _ => rfl, fun hh => by cases hh⟩

set_option maxHeartbeats 3200000 in
theorem wFnUnwrapPacket (A : Option Addr) (n c : Nat) (zs : List Int) (w : World) (hs : Sl w 0 w.heap.size 1 A n (zs.map (Value.int .u8))) (hnc : n ≤ c) (hm : c ≤ maxLen) (hw : ∀ z ∈ zs, (Lit.int .u8 z).wf = true) :
    Calls Try.prog 11 #[.slice A n c] w fun e w' => e = .returned (.bool true) ∧ Below w.heap.size w w' := by
  unfold maxLen at hm
  have hz := AllByte.of_wf hw
  clear hw
  by_cases hn : n ≤ 1048576
  · have hn1 : ¬ ((1048576 : Int) < (n : Int)) := by omega
    go_enter Try.func11, Try.ntmps11
    go_wp2_with fail
    refine (drawUnwrapPacket_any _ _ _ zs _ hs hnc (by omega) hz).mono ?_
    rintro e w1 ⟨f, t, k, l, B, q, qc, bs, tt, rfl, hq87, hqc, hqx, hby, S_w1, htt0, htt1, b_w1⟩
    have d_w1 := b_w1
    have z_w1 := b_w1.size
    obtain ⟨rf, hrf⟩ : ∃ x, unF f t k l bs tt 4 = x := ⟨_, rfl⟩
    obtain ⟨rt, hrt⟩ : ∃ x, unF f t k l bs tt 5 = x := ⟨_, rfl⟩
    obtain ⟨rk, hrk⟩ : ∃ x, unF f t k l bs tt 1 = x := ⟨_, rfl⟩
    obtain ⟨rl, hrl⟩ : ∃ x, unF f t k l bs tt 2 = x := ⟨_, rfl⟩
    obtain ⟨rs, hrs⟩ : ∃ x, unB f t k l bs tt = x := ⟨_, rfl⟩
    obtain ⟨ok, hok⟩ : ∃ x, unV f t k l bs tt = x := ⟨_, rfl⟩
    have hbl : bs.length = q := S_w1.len
    have hfact := un_facts f t k l bs tt
    rw [hrf, hrt, hrk, hrl, hrs, hok] at hfact
    obtain ⟨hm87, hno, hyes⟩ := hfact
    replace hm87 : rs.length ≤ 87 := by omega
    have hrby : AllByte rs := by rw [← hrs]; exact unB_byte hby
    have HRF := Lib.hid hrf
    have HRT := Lib.hid hrt
    have HRK := Lib.hid hrk
    have HRL := Lib.hid hrl
    have HRB := Lib.hid hrs
    have HRO := Lib.hid hok
    have HN := Lib.hid hno
    have HY := Lib.hid hyes
    have HBL := Lib.hid hbl
    clear hrf hrt hrk hrl hrs hok hno hyes hbl
    obtain ⟨m, hml⟩ : ∃ m, rs.length = m := ⟨_, rfl⟩
    have HM := Lib.hid hml
    rw [hml] at hm87
    clear hml
    have okk : (ok != ok) = false := by cases ok <;> rfl
    go_upto_region 4 with fail
    have P_w2 := Blk.new w1 27 #[.int .i64 f, .int .i64 t, .int .i64 k, .int .i64 l, .slice B q qc]
    have b_w2 := (Below.refl w1.heap.size w1).alloc (Nat.le_refl _) (.cells #[.int .i64 f, .int .i64 t, .int .i64 k, .int .i64 l, .slice B q qc] 27)
    have y_w2 : w1.heap.size < (w1.alloc (.cells #[.int .i64 f, .int .i64 t, .int .i64 k, .int .i64 l, .slice B q qc] 27)).heap.size := by simp
    generalize hw2 : w1.alloc (.cells #[.int .i64 f, .int .i64 t, .int .i64 k, .int .i64 l, .slice B q qc] 27) = w2 at P_w2 b_w2 y_w2 ⊢
    clear hw2
    have d_w2 := d_w1.trans (b_w2.mono d_w1.size)
    have z_w2 := b_w2.size
    have S_w2 := S_w1.below b_w2 (Nat.le_refl _)
    obtain ⟨p0, p1, p2, p3, p4⟩ := P_w2.five
    have plt := P_w2.lt
    go_wp2_with fail
    refine (iUnwrapPacket_any _ _ _ _ _ _ _ bs _ _ S_w2 (by omega) hqc hqx (by omega) hby).mono ?_
    clear p0 p1 p2 p3 p4 plt
    rw [HRF.out, HRT.out, HRK.out, HRL.out, HRB.out, HRO.out]
    rintro e w3 ⟨AX, nX, cX, rfl, hX, OX_w3, b_w3⟩
    obtain rfl : m = nX := by rw [← hX, HM.out]
    clear hX
    have d_w3 := d_w2.trans (b_w3.mono d_w2.size)
    have z_w3 := b_w3.size
    have P_w3 := P_w2.below b_w3 P_w2.lt
    have S_w3 := S_w2.below b_w3 (by omega)
    go_upto_region 5 with fail
    have X_w4 := Blk.new w3 27 #[.int .i64 rf, .int .i64 rt, .int .i64 rk, .int .i64 rl, .slice AX m cX]
    have b_w4 := (Below.refl w3.heap.size w3).alloc (Nat.le_refl _) (.cells #[.int .i64 rf, .int .i64 rt, .int .i64 rk, .int .i64 rl, .slice AX m cX] 27)
    have y_w4 : w3.heap.size < (w3.alloc (.cells #[.int .i64 rf, .int .i64 rt, .int .i64 rk, .int .i64 rl, .slice AX m cX] 27)).heap.size := by simp
    generalize hw4 : w3.alloc (.cells #[.int .i64 rf, .int .i64 rt, .int .i64 rk, .int .i64 rl, .slice AX m cX] 27) = w4 at X_w4 b_w4 y_w4 ⊢
    clear hw4
    have d_w4 := d_w3.trans (b_w4.mono d_w3.size)
    have z_w4 := b_w4.size
    have OX_w4 := own_below OX_w3 b_w4
    have P_w4 := P_w3.below b_w4 P_w3.lt
    have S_w4 := S_w3.below b_w4 (by omega)
    obtain ⟨p0, p1, p2, p3, p4⟩ := P_w4.five
    have plt := P_w4.lt
    go_wp2_with fail
    refine (sUnwrapPacket_any _ _ _ _ _ _ _ bs _ _ S_w4 (by omega) hqc hqx (by omega) hby).mono ?_
    clear p0 p1 p2 p3 p4 plt
    rw [HRF.out, HRT.out, HRK.out, HRL.out, HRB.out, HRO.out]
    rintro e w5 ⟨AY, nY, cY, rfl, hY, OY_w5, b_w5⟩
    obtain rfl : m = nY := by rw [← hY, HM.out]
    clear hY
    have d_w5 := d_w4.trans (b_w5.mono d_w4.size)
    have z_w5 := b_w5.size
    have OX_w5 := own_below OX_w4 b_w5
    have P_w5 := P_w4.below b_w5 P_w4.lt
    have X_w5 := X_w4.below b_w5 X_w4.lt
    have S_w5 := S_w4.below b_w5 (by omega)
    go_upto_region 6 with fail
    have Y_w6 := Blk.new w5 27 #[.int .i64 rf, .int .i64 rt, .int .i64 rk, .int .i64 rl, .slice AY m cY]
    have b_w6 := (Below.refl w5.heap.size w5).alloc (Nat.le_refl _) (.cells #[.int .i64 rf, .int .i64 rt, .int .i64 rk, .int .i64 rl, .slice AY m cY] 27)
    have y_w6 : w5.heap.size < (w5.alloc (.cells #[.int .i64 rf, .int .i64 rt, .int .i64 rk, .int .i64 rl, .slice AY m cY] 27)).heap.size := by simp
    generalize hw6 : w5.alloc (.cells #[.int .i64 rf, .int .i64 rt, .int .i64 rk, .int .i64 rl, .slice AY m cY] 27) = w6 at Y_w6 b_w6 y_w6 ⊢
    clear hw6
    have d_w6 := d_w5.trans (b_w6.mono d_w5.size)
    have z_w6 := b_w6.size
    have OX_w6 := own_below OX_w5 b_w6
    have OY_w6 := own_below OY_w5 b_w6
    have P_w6 := P_w5.below b_w6 P_w5.lt
    have X_w6 := X_w5.below b_w6 X_w5.lt
    have S_w6 := S_w5.below b_w6 (by omega)
    obtain ⟨x0, x1, x2, x3, x4⟩ := X_w6.five
    have xlt := X_w6.lt
    obtain ⟨y0, y1, y2, y3, y4⟩ := Y_w6.five
    have ylt := Y_w6.lt
    go_wp2_with fail
    refine (samePacket_yes _ _ _ _ _ _ _ _ _ _ rs _ (Sl.of_own OX_w6) (Sl.of_own OY_w6) (Nat.le_refl _) (Nat.le_refl _) (by omega) (by omega)).mono ?_
    rintro e w7 ⟨rfl, b_w7⟩
    clear x0 x1 x2 x3 x4 xlt
    clear y0 y1 y2 y3 y4 ylt
    have d_w7 := d_w6.trans (b_w7.mono d_w6.size)
    have z_w7 := b_w7.size
    have OX_w7 := own_below OX_w6 b_w7
    have OY_w7 := own_below OY_w6 b_w7
    have P_w7 := P_w6.below b_w7 P_w6.lt
    have X_w7 := X_w6.below b_w7 X_w6.lt
    have Y_w7 := Y_w6.below b_w7 Y_w6.lt
    have S_w7 := S_w6.below b_w7 (by omega)
    rcases ok
    · skip
      have h0 := HN.out rfl
      rw [HM.out] at h0
      subst h0
      obtain ⟨x0, x1, x2, x3, x4⟩ := X_w7.five
      have xlt := X_w7.lt
      go_wp2_with fail
      refine (alive_any _).mono ?_
      rintro e wz ⟨rfl, bz⟩
      clear x0 x1 x2 x3 x4 xlt
      have d_wz := d_w7.trans (bz.mono d_w7.size)
      have z_wz := bz.size
      have OX_wz := own_below OX_w7 bz
      have OY_wz := own_below OY_w7 bz
      have P_wz := P_w7.below bz P_w7.lt
      have X_wz := X_w7.below bz X_w7.lt
      have Y_wz := Y_w7.below bz Y_w7.lt
      have S_wz := S_w7.below bz (by omega)
      go_wp2_with fail
      go_ret
      exact ⟨rfl, d_wz⟩
    · skip
      obtain ⟨hV, hP, htt⟩ := HY.out rfl
      have HV := Lib.hid hV
      have HP := Lib.hid hP
      subst htt
      clear hV hP
      obtain ⟨p0, p1, p2, p3, p4⟩ := P_w7.five
      have plt := P_w7.lt
      obtain ⟨x0, x1, x2, x3, x4⟩ := X_w7.five
      have xlt := X_w7.lt
      go_wp2_with fail
      refine (iWrapPacket_any _ _ _ _ _ _ _ rs _ _ _ (Sl.of_own OX_w7) (Nat.le_refl _) (own_cap2 OX_w7).1 (own_cap2 OX_w7).2 (by omega) hrby).mono ?_
      obtain ⟨q1, q2, q3, q4, q5⟩ := wr_yes HV.out
      rw [q1, q2, q3, q4, q5, HV.out, HP.out]
      clear q1 q2 q3 q4 q5
      rintro e w8 ⟨Az, nz, cz, rfl, hz', OZ_w8, b_w8⟩
      obtain rfl : q = nz := by rw [← hz', HBL.out]
      clear hz'
      clear p0 p1 p2 p3 p4 plt
      clear x0 x1 x2 x3 x4 xlt
      have d_w8 := d_w7.trans (b_w8.mono d_w7.size)
      have z_w8 := b_w8.size
      have OX_w8 := own_below OX_w7 b_w8
      have OY_w8 := own_below OY_w7 b_w8
      have P_w8 := P_w7.below b_w8 P_w7.lt
      have X_w8 := X_w7.below b_w8 X_w7.lt
      have Y_w8 := Y_w7.below b_w8 Y_w7.lt
      have S_w8 := S_w7.below b_w8 (by omega)
      go_upto_region 11 with fail
      have Z_w9 := Blk.new w8 27 #[.int .i64 f, .int .i64 t, .int .i64 3, .int .i64 64, .slice Az q cz]
      have b_w9 := (Below.refl w8.heap.size w8).alloc (Nat.le_refl _) (.cells #[.int .i64 f, .int .i64 t, .int .i64 3, .int .i64 64, .slice Az q cz] 27)
      have y_w9 : w8.heap.size < (w8.alloc (.cells #[.int .i64 f, .int .i64 t, .int .i64 3, .int .i64 64, .slice Az q cz] 27)).heap.size := by simp
      generalize hw9 : w8.alloc (.cells #[.int .i64 f, .int .i64 t, .int .i64 3, .int .i64 64, .slice Az q cz] 27) = w9 at Z_w9 b_w9 y_w9 ⊢
      clear hw9
      have d_w9 := d_w8.trans (b_w9.mono d_w8.size)
      have z_w9 := b_w9.size
      have OX_w9 := own_below OX_w8 b_w9
      have OY_w9 := own_below OY_w8 b_w9
      have OZ_w9 := own_below OZ_w8 b_w9
      have P_w9 := P_w8.below b_w9 P_w8.lt
      have X_w9 := X_w8.below b_w9 X_w8.lt
      have Y_w9 := Y_w8.below b_w9 Y_w8.lt
      have S_w9 := S_w8.below b_w9 (by omega)
      obtain ⟨z0, z1, z2, z3, z4⟩ := Z_w9.five
      have zlt := Z_w9.lt
      obtain ⟨p0, p1, p2, p3, p4⟩ := P_w9.five
      have plt := P_w9.lt
      have htt : ((t : Int) == t) = true := by simp
      go_wp2_with fail
      refine (sameBytes_any _ _ _ _ _ _ bs bs _ (Sl.of_own OZ_w9) S_w9 (by omega) (by omega)).mono ?_
      rw [show (bs == bs) = true from by simp]
      rintro e wz ⟨rfl, bz⟩
      clear z0 z1 z2 z3 z4 zlt
      clear p0 p1 p2 p3 p4 plt
      have d_wz := d_w9.trans (bz.mono d_w9.size)
      have z_wz := bz.size
      have OX_wz := own_below OX_w9 bz
      have OY_wz := own_below OY_w9 bz
      have OZ_wz := own_below OZ_w9 bz
      have P_wz := P_w9.below bz P_w9.lt
      have X_wz := X_w9.below bz X_w9.lt
      have Y_wz := Y_w9.below bz Y_w9.lt
      have Z_wz := Z_w9.below bz Z_w9.lt
      have S_wz := S_w9.below bz (by omega)
      obtain ⟨p0, p1, p2, p3, p4⟩ := P_wz.five
      have plt := P_wz.lt
      go_wp2_with fail
      go_ret
      exact ⟨rfl, d_wz⟩
  · go_enter Try.func11, Try.ntmps11
    go_wp2
    go_ret
    exact ⟨rfl, Below.refl _ _⟩
end Go.Proofs.Ytleammkpfknngaa
