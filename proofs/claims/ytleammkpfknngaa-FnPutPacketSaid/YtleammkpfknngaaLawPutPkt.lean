/-
  The walk of the drawn law FnPutPacket.
-/
import Derived.Test.YtleammkpfknngaaDrawPkt
import Derived.Test.YtleammkpfknngaaGetI
import Derived.Test.YtleammkpfknngaaSame
import Derived.Test.YtleammkpfknngaaPutL
import Derived.Test.YtleammkpfknngaaPktPutD
import Derived.Test.YtleammkpfknngaaHeldPkt
import Derived.Deep.CutBlock
namespace Go.Proofs.Ytleammkpfknngaa
open Go.RowKit
set_option linter.unusedVariables false

theorem own_cap {w : World} {base : Nat} {e : TypeId} {size n c : Nat} {A : Option Addr} {xs : List Value} (h : w.ownsRow base e size (.slice A n c) n xs) : n ≤ c ∧ c ≤ maxLen := by
  obtain ⟨A', c', e, h1, h2⟩ := own_is_slice h
  cases e
  exact ⟨h1, h2⟩

set_option maxHeartbeats 3200000 in
theorem wFnPutPacket (A : Option Addr) (n c : Nat) (zs : List Int) (w : World) (hs : Sl w 0 w.heap.size 1 A n (zs.map (Value.int .u8))) (hnc : n ≤ c) (hm : c ≤ maxLen) (hw : ∀ z ∈ zs, (Lit.int .u8 z).wf = true) :
    Calls Try.prog 6 #[.slice A n c] w fun e w' => e = .returned (.bool true) ∧ Below w.heap.size w w' := by
  unfold maxLen at hm
  have hz := AllByte.of_wf hw
  clear hw
  obtain ⟨i0, hi0, hz0, hz1, hz2⟩ := info_parts infoByte
  by_cases hn : n ≤ 1048576
  · have hn1 : ¬ ((1048576 : Int) < (n : Int)) := by omega
    go_enter Try.func6, Try.ntmps6
    go_wp2_with fail
    refine (drawPutPacket_any _ _ _ zs _ hs hnc (by omega) hz).mono ?_
    rintro e w1 ⟨f, t, k, l, B, m, mc, ps, rfl, hm81, hmc, hmx, hps, D_w1, b_w1⟩
    have d_w1 := b_w1
    have z_w1 := b_w1.size
    obtain ⟨rs, hrs⟩ : ∃ x, putP f t k l ps = x := ⟨_, rfl⟩
    have hml : ps.length = m := (Sl.of_own D_w1).len
    have hby : AllByte rs := by rw [← hrs]; exact putP_byte hps
    have hq86 : rs.length ≤ 86 := by rw [← hrs]; exact putP_bd
    have hyes : pktV f t k l m = true → (rs.length = 6 + m ∧ getV rs = true ∧ getF rs 4 = f ∧ getF rs 5 = t ∧ getF rs 1 = k ∧ getF rs 2 = l ∧ getB rs = ps) := fun h => by
      have h' : pktV f t k l ps.length = true := by rw [hml]; exact h
      rw [← hrs]
      exact ⟨by rw [putP_len h', hml], get_put h'⟩
    have hno : pktV f t k l m = false → rs.length = 0 := fun h => by rw [← hrs, putP_bad (by rw [hml]; exact h)]; rfl
    have HR := Lib.hid hrs
    have HY := Lib.hid hyes
    have HN := Lib.hid hno
    clear hrs hyes hno
    obtain ⟨q, hq⟩ : ∃ x, rs.length = x := ⟨_, rfl⟩
    rw [hq] at hq86
    have HQ := Lib.hid hq
    clear hq
    have HML := Lib.hid hml
    clear hml
    go_wp2_with fail
    have P_w2 := Blk.new w1 27 #[.int .i64 f, .int .i64 t, .int .i64 k, .int .i64 l, .slice B m mc]
    have b_w2 := (Below.refl w1.heap.size w1).alloc (Nat.le_refl _) (.cells #[.int .i64 f, .int .i64 t, .int .i64 k, .int .i64 l, .slice B m mc] 27)
    have y_w2 : w1.heap.size < (w1.alloc (.cells #[.int .i64 f, .int .i64 t, .int .i64 k, .int .i64 l, .slice B m mc] 27)).heap.size := by simp
    generalize hw2 : w1.alloc (.cells #[.int .i64 f, .int .i64 t, .int .i64 k, .int .i64 l, .slice B m mc] 27) = w2 at P_w2 b_w2 y_w2 ⊢
    clear hw2
    have d_w2 := d_w1.trans (b_w2.mono d_w1.size)
    have z_w2 := b_w2.size
    have D_w2 := own_below D_w1 b_w2
    go_wp2_with fail
    refine (iPutPacket_any _ _ _ _ _ _ _ ps _ (Sl.of_own D_w2) (Nat.le_refl _) (by omega) hps).mono ?_
    rw [HR.out, HQ.out]
    intro e w3 hr
    obtain ⟨A3, c3, rfl, R_w3, b_w3⟩ := hr.form
    clear hr
    have d_w3 := d_w2.trans (b_w3.mono d_w2.size)
    have z_w3 := b_w3.size
    have D_w3 := own_below D_w2 b_w3
    have P_w3 := P_w2.below b_w3 P_w2.lt
    obtain ⟨p0, p1, p2, p3, p4⟩ := P_w3.five
    have plt := P_w3.lt
    go_wp2_with fail
    refine (sPutPacket_any _ _ _ _ _ _ _ ps _ (Sl.of_own D_w3) (Nat.le_refl _) (by omega) hps).mono ?_
    rw [HR.out, HQ.out]
    intro e w4 hr
    obtain ⟨A4, c4, rfl, S_w4, b_w4⟩ := hr.form
    clear hr
    clear p0 p1 p2 p3 p4 plt
    have d_w4 := d_w3.trans (b_w4.mono d_w3.size)
    have z_w4 := b_w4.size
    have D_w4 := own_below D_w3 b_w4
    have R_w4 := own_below R_w3 b_w4
    have P_w4 := P_w3.below b_w4 P_w3.lt
    go_wp2_with fail
    refine (sameBytes_any _ _ _ _ _ _ rs rs _ (Sl.of_own R_w4) (Sl.of_own S_w4) (by omega) (by omega)).mono ?_
    rw [show (rs == rs) = true from by simp]
    rintro e w5 ⟨rfl, b_w5⟩
    have d_w5 := d_w4.trans (b_w5.mono d_w4.size)
    have z_w5 := b_w5.size
    have D_w5 := own_below D_w4 b_w5
    have R_w5 := own_below R_w4 b_w5
    have P_w5 := P_w4.below b_w5 P_w4.lt
    obtain ⟨p0, p1, p2, p3, p4⟩ := P_w5.five
    have plt := P_w5.lt
    go_wp2_with fail
    clear p0 p1 p2 p3 p4 plt
    by_cases hv : pktV f t k l m = true
    · skip
      obtain ⟨hq, g0, g4, g5, g1, g2, gb⟩ := HY.out hv
      rw [HQ.out] at hq
      have G0 := Lib.hid g0
      have G4 := Lib.hid g4
      have G5 := Lib.hid g5
      have G1 := Lib.hid g1
      have G2 := Lib.hid g2
      have GB := Lib.hid gb
      have HQM := Lib.hid hq
      have hq6 : 6 ≤ q := by omega
      have hq0 : ((q : Int) == 0) = false := by simp; omega
      clear g0 g4 g5 g1 g2 gb hq
      refine (sPacketValid_any _ _ _ _ _ _ _ _).mono ?_
      rw [hv]
      rintro e w6 ⟨rfl, hw⟩
      have b_w6 : Below w5.heap.size w5 w6 := by rw [← hw]; exact (Below.refl _ _).alloc (Nat.le_refl _) _
      clear hw
      have d_w6 := d_w5.trans (b_w6.mono d_w5.size)
      have z_w6 := b_w6.size
      have D_w6 := own_below D_w5 b_w6
      have R_w6 := own_below R_w5 b_w6
      have P_w6 := P_w5.below b_w6 P_w5.lt
      go_wp2_with fail
      refine (iGetPacket_any _ _ _ rs _ (Sl.of_own R_w6) (Nat.le_refl _) (own_cap R_w6).1 (own_cap R_w6).2 (by omega) hby).mono ?_
      rw [G0.out, G4.out, G5.out, G1.out, G2.out, GB.out]
      rintro e w7 ⟨A7, n7, c7, rfl, h7, X_w7, b_w7⟩
      obtain rfl : m = n7 := by rw [← h7, HML.out]
      clear h7
      have d_w7 := d_w6.trans (b_w7.mono d_w6.size)
      have z_w7 := b_w7.size
      have D_w7 := own_below D_w6 b_w7
      have R_w7 := own_below R_w6 b_w7
      have P_w7 := P_w6.below b_w7 P_w6.lt
      go_upto_region 10 with fail
      have Q_w8 := Blk.new w7 27 #[.int .i64 f, .int .i64 t, .int .i64 k, .int .i64 l, .slice A7 m c7]
      have b_w8 := (Below.refl w7.heap.size w7).alloc (Nat.le_refl _) (.cells #[.int .i64 f, .int .i64 t, .int .i64 k, .int .i64 l, .slice A7 m c7] 27)
      have y_w8 : w7.heap.size < (w7.alloc (.cells #[.int .i64 f, .int .i64 t, .int .i64 k, .int .i64 l, .slice A7 m c7] 27)).heap.size := by simp
      generalize hw8 : w7.alloc (.cells #[.int .i64 f, .int .i64 t, .int .i64 k, .int .i64 l, .slice A7 m c7] 27) = w8 at Q_w8 b_w8 y_w8 ⊢
      clear hw8
      have d_w8 := d_w7.trans (b_w8.mono d_w7.size)
      have z_w8 := b_w8.size
      have D_w8 := own_below D_w7 b_w8
      have R_w8 := own_below R_w7 b_w8
      have X_w8 := own_below X_w7 b_w8
      have P_w8 := P_w7.below b_w8 P_w7.lt
      have ownE := World.ownsRow_lit (base := w8.heap.size) (e := 5) (size := 1) w8 #[] 0 (by omega) (by unfold maxLen; omega) (by simp)
      have slR := (Sl.of_own R_w8).alloc (Nat.le_refl _) (.cells #[] 5)
      go_upto_region 11 with (at_builtin; refine wpList_append_sl _ rfl _ _ 22 rfl w8.heap.size 5 i0 _ 1 1 Try.underlying22 hi0 hz0 hz1 hz2 rfl (by decide) _ 0 _ (by rfl) ownE _ _ A3 q c3 (rs.map (Value.int .u8)) rfl slR (one_u8 rs) (by unfold maxLen; omega) (by omega) (by simp) ?_; intro v9 w9 own9 g9 at9; obtain ⟨q9, cap9, hv9, hc9, hb9, hl9⟩ := own_slice own9 (by omega); subst hv9)
      have b_w9 : Below w8.heap.size w8 w9 := below_append ((Below.refl _ _).alloc (Nat.le_refl _) _) ownE g9
      rw [show [] ++ rs.map (Value.int .u8) = rs.map (Value.int .u8) from rfl, show 0 + q = q from by omega] at own9
      clear ownE slR g9 at9
      have d_w9 := d_w8.trans (b_w9.mono d_w8.size)
      have z_w9 := b_w9.size
      have D_w9 := own_below D_w8 b_w9
      have R_w9 := own_below R_w8 b_w9
      have X_w9 := own_below X_w8 b_w9
      have P_w9 := P_w8.below b_w9 P_w8.lt
      have Q_w9 := Q_w8.below b_w9 Q_w8.lt
      obtain ⟨j, hj⟩ : ∃ j : Nat, (n : Int) % (q : Int) = (j : Int) := ⟨((n : Int) % (q : Int)).toNat, by have := Int.emod_nonneg (n : Int) (show (q : Int) ≠ 0 by omega); omega⟩
      have hjq : j < q := by have := Int.emod_lt_of_pos (n : Int) (show (0 : Int) < (q : Int) by omega); omega
      have hx := hby.at_ j
      obtain ⟨x, hxe⟩ : ∃ x, rs[j]?.getD 0 = x := ⟨_, rfl⟩
      rw [hxe] at hx
      have hcl : w9.cell? ⟨q9, j, none⟩ = some (.int .u8 x) := by
        rw [own9.cellAt j (by omega), List.getElem?_map, List.getElem?_eq_getElem (by rw [HQ.out]; omega)]
        rw [List.getElem?_eq_getElem (by rw [HQ.out]; omega)] at hxe
        simp at hxe ⊢
        exact hxe
      have hfz : w9.frozen? ⟨q9, j, none⟩ = false := own9.frozenAt j
      have HX := Lib.hid hxe
      clear hxe
      have HMQ : ((q : Int) == 6 + (m : Int)) = true := by have := HQM.out; simp; omega
      by_cases hx8 : x < 128
      · skip
        have hbad : getV (rs.set j (x + 1)) = false := bad_put G0.out (by rw [HQ.out]; exact hjq) (.inl (by rw [HX.out]))
        have hbb : AllByte (rs.set j (x + 1)) := set_byte hby (by omega)
        have st9 := (own9.stored j (.int .u8 (x + 1))).1
        rw [show (rs.map (Value.int .u8)).set j (.int .u8 (x + 1)) = (rs.set j (x + 1)).map (Value.int .u8) from by rw [List.map_set]] at st9
        have HB := Lib.hid hbad
        clear hbad
        go_wp2_with fail
        have d_wa := d_w9.setCell (p := ⟨q9, j, none⟩) (show w.heap.size ≤ q9 by omega) (.int .u8 (x + 1))
        have P_wa := P_w9.far (p := ⟨q9, j, none⟩) (by show _ ≠ q9; omega) (.int .u8 (x + 1))
        have Q_wa := Q_w9.far (p := ⟨q9, j, none⟩) (by show _ ≠ q9; omega) (.int .u8 (x + 1))
        have D_wa := own_set (k := q9) (i := j) D_w9 (fun he => by have := (D_w1.lt q9 he).2; omega) (.int .u8 (x + 1))
        have X_wa := own_set (k := q9) (i := j) X_w9 (fun he => by have := (X_w7.lt q9 he).2; omega) (.int .u8 (x + 1))
        generalize hwa : w9.setCell ⟨q9, j, none⟩ (.int .u8 (x + 1)) = wa at st9 P_wa Q_wa D_wa X_wa d_wa ⊢
        have z_wa : w9.heap.size ≤ wa.heap.size := by rw [← hwa]; simp
        clear hwa
        go_wp2_with fail
        refine (iGetPacket_any _ _ _ (rs.set j (x + 1)) _ (Sl.of_own st9) (Nat.le_refl _) (own_cap st9).1 (own_cap st9).2 (by omega) hbb).mono ?_
        rw [getF_no HB.out, getF_no HB.out, getF_no HB.out, getF_no HB.out, getB_no HB.out, HB.out]
        rintro e wb ⟨A9, n9, c9', rfl, h9, Y_wb, b_wb⟩
        obtain rfl : 0 = n9 := h9
        have d_wb := d_wa.trans (b_wb.mono d_wa.size)
        have z_wb := b_wb.size
        have D_wb := own_below D_wa b_wb
        have X_wb := own_below X_wa b_wb
        have P_wb := P_wa.below b_wb P_wa.lt
        have Q_wb := Q_wa.below b_wb Q_wa.lt
        go_upto_region 16 with fail
        have V_w10 := Blk.new wb 27 #[.int .i64 0, .int .i64 0, .int .i64 0, .int .i64 0, .slice A9 0 c9']
        have b_w10 := (Below.refl wb.heap.size wb).alloc (Nat.le_refl _) (.cells #[.int .i64 0, .int .i64 0, .int .i64 0, .int .i64 0, .slice A9 0 c9'] 27)
        have y_w10 : wb.heap.size < (wb.alloc (.cells #[.int .i64 0, .int .i64 0, .int .i64 0, .int .i64 0, .slice A9 0 c9'] 27)).heap.size := by simp
        generalize hw10 : wb.alloc (.cells #[.int .i64 0, .int .i64 0, .int .i64 0, .int .i64 0, .slice A9 0 c9'] 27) = w10 at V_w10 b_w10 y_w10 ⊢
        clear hw10
        have d_w10 := d_wb.trans (b_w10.mono d_wb.size)
        have z_w10 := b_w10.size
        have D_w10 := own_below D_wb b_w10
        have X_w10 := own_below X_wb b_w10
        have P_w10 := P_wb.below b_w10 P_wb.lt
        have Q_w10 := Q_wb.below b_w10 Q_wb.lt
        obtain ⟨p0, p1, p2, p3, p4⟩ := P_w10.five
        have plt := P_w10.lt
        obtain ⟨q0, q1, q2, q3, q4⟩ := Q_w10.five
        have qlt := Q_w10.lt
        go_wp2_with fail
        refine (samePacket_yes _ _ _ _ _ _ _ _ _ _ ps _ (Sl.of_own X_w10) (Sl.of_own D_w10) (Nat.le_refl _) (Nat.le_refl _) (by omega) (by omega)).mono ?_
        rintro e wz ⟨rfl, b_wz⟩
        clear p0 p1 p2 p3 p4 plt
        clear q0 q1 q2 q3 q4 qlt
        have d_wz := d_w10.trans (b_wz.mono d_w10.size)
        have z_wz := b_wz.size
        have D_wz := own_below D_w10 b_wz
        have X_wz := own_below X_w10 b_wz
        have P_wz := P_w10.below b_wz P_w10.lt
        have Q_wz := Q_w10.below b_wz Q_w10.lt
        have V_wz := V_w10.below b_wz V_w10.lt
        obtain ⟨p0, p1, p2, p3, p4⟩ := P_wz.five
        have plt := P_wz.lt
        go_wp2_with fail
        go_ret
        exact ⟨rfl, d_wz⟩
      · skip
        have hbad : getV (rs.set j (x - 1)) = false := bad_put G0.out (by rw [HQ.out]; exact hjq) (.inr (by rw [HX.out]))
        have hbb : AllByte (rs.set j (x - 1)) := set_byte hby (by omega)
        have st9 := (own9.stored j (.int .u8 (x - 1))).1
        rw [show (rs.map (Value.int .u8)).set j (.int .u8 (x - 1)) = (rs.set j (x - 1)).map (Value.int .u8) from by rw [List.map_set]] at st9
        have HB := Lib.hid hbad
        clear hbad
        go_wp2_with fail
        have d_wa := d_w9.setCell (p := ⟨q9, j, none⟩) (show w.heap.size ≤ q9 by omega) (.int .u8 (x - 1))
        have P_wa := P_w9.far (p := ⟨q9, j, none⟩) (by show _ ≠ q9; omega) (.int .u8 (x - 1))
        have Q_wa := Q_w9.far (p := ⟨q9, j, none⟩) (by show _ ≠ q9; omega) (.int .u8 (x - 1))
        have D_wa := own_set (k := q9) (i := j) D_w9 (fun he => by have := (D_w1.lt q9 he).2; omega) (.int .u8 (x - 1))
        have X_wa := own_set (k := q9) (i := j) X_w9 (fun he => by have := (X_w7.lt q9 he).2; omega) (.int .u8 (x - 1))
        generalize hwa : w9.setCell ⟨q9, j, none⟩ (.int .u8 (x - 1)) = wa at st9 P_wa Q_wa D_wa X_wa d_wa ⊢
        have z_wa : w9.heap.size ≤ wa.heap.size := by rw [← hwa]; simp
        clear hwa
        go_wp2_with fail
        refine (iGetPacket_any _ _ _ (rs.set j (x - 1)) _ (Sl.of_own st9) (Nat.le_refl _) (own_cap st9).1 (own_cap st9).2 (by omega) hbb).mono ?_
        rw [getF_no HB.out, getF_no HB.out, getF_no HB.out, getF_no HB.out, getB_no HB.out, HB.out]
        rintro e wb ⟨A9, n9, c9', rfl, h9, Y_wb, b_wb⟩
        obtain rfl : 0 = n9 := h9
        have d_wb := d_wa.trans (b_wb.mono d_wa.size)
        have z_wb := b_wb.size
        have D_wb := own_below D_wa b_wb
        have X_wb := own_below X_wa b_wb
        have P_wb := P_wa.below b_wb P_wa.lt
        have Q_wb := Q_wa.below b_wb Q_wa.lt
        go_upto_region 16 with fail
        have V_w11 := Blk.new wb 27 #[.int .i64 0, .int .i64 0, .int .i64 0, .int .i64 0, .slice A9 0 c9']
        have b_w11 := (Below.refl wb.heap.size wb).alloc (Nat.le_refl _) (.cells #[.int .i64 0, .int .i64 0, .int .i64 0, .int .i64 0, .slice A9 0 c9'] 27)
        have y_w11 : wb.heap.size < (wb.alloc (.cells #[.int .i64 0, .int .i64 0, .int .i64 0, .int .i64 0, .slice A9 0 c9'] 27)).heap.size := by simp
        generalize hw11 : wb.alloc (.cells #[.int .i64 0, .int .i64 0, .int .i64 0, .int .i64 0, .slice A9 0 c9'] 27) = w11 at V_w11 b_w11 y_w11 ⊢
        clear hw11
        have d_w11 := d_wb.trans (b_w11.mono d_wb.size)
        have z_w11 := b_w11.size
        have D_w11 := own_below D_wb b_w11
        have X_w11 := own_below X_wb b_w11
        have P_w11 := P_wb.below b_w11 P_wb.lt
        have Q_w11 := Q_wb.below b_w11 Q_wb.lt
        obtain ⟨p0, p1, p2, p3, p4⟩ := P_w11.five
        have plt := P_w11.lt
        obtain ⟨q0, q1, q2, q3, q4⟩ := Q_w11.five
        have qlt := Q_w11.lt
        go_wp2_with fail
        refine (samePacket_yes _ _ _ _ _ _ _ _ _ _ ps _ (Sl.of_own X_w11) (Sl.of_own D_w11) (Nat.le_refl _) (Nat.le_refl _) (by omega) (by omega)).mono ?_
        rintro e wz ⟨rfl, b_wz⟩
        clear p0 p1 p2 p3 p4 plt
        clear q0 q1 q2 q3 q4 qlt
        have d_wz := d_w11.trans (b_wz.mono d_w11.size)
        have z_wz := b_wz.size
        have D_wz := own_below D_w11 b_wz
        have X_wz := own_below X_w11 b_wz
        have P_wz := P_w11.below b_wz P_w11.lt
        have Q_wz := Q_w11.below b_wz Q_w11.lt
        have V_wz := V_w11.below b_wz V_w11.lt
        obtain ⟨p0, p1, p2, p3, p4⟩ := P_wz.five
        have plt := P_wz.lt
        go_wp2_with fail
        go_ret
        exact ⟨rfl, d_wz⟩
    · skip
      have hv' := Bool.eq_false_iff.2 hv
      have h0 := HN.out hv'
      rw [HQ.out] at h0
      subst h0
      have hq0 : (((0 : Nat) : Int) == 0) = true := rfl
      refine (sPacketValid_any _ _ _ _ _ _ _ _).mono ?_
      rw [hv']
      rintro e w6 ⟨rfl, hw⟩
      have b_w6 : Below w5.heap.size w5 w6 := by rw [← hw]; exact (Below.refl _ _).alloc (Nat.le_refl _) _
      clear hw
      have d_w6 := d_w5.trans (b_w6.mono d_w5.size)
      have z_w6 := b_w6.size
      have D_w6 := own_below D_w5 b_w6
      have R_w6 := own_below R_w5 b_w6
      have P_w6 := P_w5.below b_w6 P_w5.lt
      go_wp2_with fail
      refine (alive_any _).mono ?_
      rintro e w7 ⟨rfl, b_w7⟩
      have d_w7 := d_w6.trans (b_w7.mono d_w6.size)
      have z_w7 := b_w7.size
      have D_w7 := own_below D_w6 b_w7
      have R_w7 := own_below R_w6 b_w7
      have P_w7 := P_w6.below b_w7 P_w6.lt
      go_wp2_with fail
      go_ret
      exact ⟨rfl, d_w7⟩
  · go_enter Try.func6, Try.ntmps6
    go_wp2
    go_ret
    exact ⟨rfl, Below.refl _ _⟩
end Go.Proofs.Ytleammkpfknngaa
