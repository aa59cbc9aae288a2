/-
  l20Packet with 0: the packet drawn is valid.
-/
import Derived.Test.YtleammkpfknngaaDrawPacket
import Derived.Test.YtleammkpfknngaaTPkt0
import Derived.Test.YtleammkpfknngaaPktPut
namespace Go.Proofs.Ytleammkpfknngaa
open Go.RowKit
set_option linter.unusedVariables false

/-- A draw hands back a valid packet. -/
def DrewPacket0 (W : World) (g P : Nat) (e : Ending) (w' : World) : Prop :=
  ∃ (f t k l : Int) (A : Option Addr) (n c : Nat) (zs : List Int), e = .returned (.agg #[.int .i64 f, .int .i64 t, .int .i64 k, .int .i64 l, .slice A n c]) ∧ pktV f t k l n = true ∧ n ≤ c ∧ c ≤ maxLen ∧ (∀ z ∈ zs, (0 : Int) ≤ z ∧ z ≤ 255) ∧ w'.ownsRow W.heap.size 5 1 (.slice A n c) n (zs.map (Value.int .u8)) ∧ Dw W g P w'
theorem odd_zero (p : Value) (w : World) : Calls Try.prog 47 #[p, .int .i64 0] w fun e w' => e = .returned (.bool false) ∧ w = w' := by
  go_enter Try.func47, Try.ntmps47
  go_wp2
  go_ret
  exact ⟨rfl, rfl⟩

set_option maxRecDepth 10000 in
set_option maxHeartbeats 1600000 in
theorem packet0_any (g P : Nat) (w : World) (h : Rd w g P) (hP : P ≤ 90000000) :
    Calls Try.prog 41 #[.pointer (some ⟨g, 0, none⟩), .int .i64 0] w (DrewPacket0 w g (P + 3000)) := by
  have D := Dw.start h
  have hlt := D.lt
  have hmk : ∀ (j : Nat) (hj : j ≤ 100) (W : World), (Instr.makeSlice 22 (.int .i64 (j : Int)) (.int .i64 (j : Int))).run Try.prog W = .ok (.slice (some ⟨W.heap.size, 0, none⟩) j j) (W.alloc (.cells (madeCells #[.int .u8 0] j) 5)) := fun j hj W =>
    run_make_row' (P := Try.prog) 22 5 (.int .u8 0) 1 Try.underlying22 infoByte rfl .i64 .i64 j (by omega) (by omega) W
  have hmk0 := Lib.hid hmk
  go_enter Try.func41, Try.ntmps41
  go_wp2_with fail
  have D0 := D.alloc (.cells #[.int .i64 0, .int .i64 0, .int .i64 0, .int .i64 0, .slice none 0 0] 27)
  have K0 := Blk.new w 27 #[.int .i64 0, .int .i64 0, .int .i64 0, .int .i64 0, .slice none 0 0]
  obtain ⟨w0, hw0⟩ : ∃ w0, w0 = w.alloc (.cells #[.int .i64 0, .int .i64 0, .int .i64 0, .int .i64 0, .slice none 0 0] 27) := ⟨_, rfl⟩
  have hz0 : w0.heap.size = w.heap.size + 1 := by rw [hw0]; simp
  rw [← hw0] at D0 K0 ⊢
  clear hw0
  have hrd : Rd w0.drew g (P + 100 * 0) := D0.rd
  obtain ⟨ii64, tii, tzi64, tsi64, _⟩ := info_parts infoI
  obtain ⟨iP0, iP, tzP, tsP0, _⟩ := info_parts infoP
  have tsP : (Value.agg #[.int .i64 0, .int .i64 0, .int .i64 0, .int .i64 0, .slice none 0 0]).cells.size = 5 := by kernel_rfl
  refine wp_region_typed (by kernel_rfl) (tsOf [(0, .pointer (some ⟨g, 0, none⟩))] [(6, tLit (.pointer (some ⟨g, 0, none⟩))), (7, tInt .i64 0 255), (8, tLit (.pointer (some ⟨g, 0, none⟩))), (9, tInt .i64 0 3), (10, tLit (.pointer (some ⟨g, 0, none⟩))), (11, tInt .i64 0 2), (12, tInt .i64 1 3), (13, tLit (.pointer (some ⟨g, 0, none⟩))), (14, tInt .i64 0 64), (15, tRow w0.heap.size 2 (tInt .i64 0 64)), (16, tLit (.pointer (some ⟨g, 0, none⟩))), (17, tInt .i64 0 3), (18, tInt .i64 0 1), (19, tAt w0.heap.size (tInt .i64 0 64)), (20, tInt .i64 0 64), (21, tLit (.pointer (some ⟨g, 0, none⟩))), (22, tList w0.heap.size 5 .u8 0 255 12), (23, tPktB w0.heap.size 12 0 255 0 3 1 3 0 64), (5, tNew w0.heap.size 27 5)]) (fun _ _ => True) (Gd w0 g (P) (· = g) (fun _ => True)) 19 20 rfl [some 6, some 7, some 8, some 9, some 10, some 11, some 12, some 13, some 14, some 15, some 16, some 17, some 18, some 19, some 20, some 21, some 22, some 23, some 5] (by kernel_rfl) (by kernel_rfl) rfl (fun _ _ _ h hg => Gd.more _ _ _ h hg) ⟨hrd, (GrF.refl _ _).drew, rfl, trivial⟩ (ts_old (by intro x hx; simp only [List.mem_cons, List.not_mem_nil, or_false] at hx; rcases hx with rfl <;> rfl) (by kernel_rfl)) ?_ ?_
  · obtain ⟨TS, hTS⟩ : ∃ TS, TS = tsOf [(0, .pointer (some ⟨g, 0, none⟩))] [(6, tLit (.pointer (some ⟨g, 0, none⟩))), (7, tInt .i64 0 255), (8, tLit (.pointer (some ⟨g, 0, none⟩))), (9, tInt .i64 0 3), (10, tLit (.pointer (some ⟨g, 0, none⟩))), (11, tInt .i64 0 2), (12, tInt .i64 1 3), (13, tLit (.pointer (some ⟨g, 0, none⟩))), (14, tInt .i64 0 64), (15, tRow w0.heap.size 2 (tInt .i64 0 64)), (16, tLit (.pointer (some ⟨g, 0, none⟩))), (17, tInt .i64 0 3), (18, tInt .i64 0 1), (19, tAt w0.heap.size (tInt .i64 0 64)), (20, tInt .i64 0 64), (21, tLit (.pointer (some ⟨g, 0, none⟩))), (22, tList w0.heap.size 5 .u8 0 255 12), (23, tPktB w0.heap.size 12 0 255 0 3 1 3 0 64), (5, tNew w0.heap.size 27 5)] := ⟨_, rfl⟩
    rw [← hTS]
    have hst : ∀ s, Stab w0.heap.size (TS s) := fun s => by rw [hTS]; exact stab_ts (by exact ⟨stab_lit _, stab_int _ _ _, stab_lit _, stab_int _ _ _, stab_lit _, stab_int _ _ _, stab_int _ _ _, stab_lit _, stab_int _ _ _, stab_row (stab_int _ _ _), stab_lit _, stab_int _ _ _, stab_int _ _ _, stab_at (stab_int _ _ _), stab_int _ _ _, stab_lit _, stab_list, stab_pktb, stab_new, trivial⟩) s
    have T0 : TS 0 = tLit (.pointer (some ⟨g, 0, none⟩)) := by rw [hTS]; rfl
    have T6 : TS 6 = tLit (.pointer (some ⟨g, 0, none⟩)) := by rw [hTS]; rfl
    have T7 : TS 7 = tInt .i64 0 255 := by rw [hTS]; rfl
    have T8 : TS 8 = tLit (.pointer (some ⟨g, 0, none⟩)) := by rw [hTS]; rfl
    have T9 : TS 9 = tInt .i64 0 3 := by rw [hTS]; rfl
    have T10 : TS 10 = tLit (.pointer (some ⟨g, 0, none⟩)) := by rw [hTS]; rfl
    have T11 : TS 11 = tInt .i64 0 2 := by rw [hTS]; rfl
    have T12 : TS 12 = tInt .i64 1 3 := by rw [hTS]; rfl
    have T13 : TS 13 = tLit (.pointer (some ⟨g, 0, none⟩)) := by rw [hTS]; rfl
    have T14 : TS 14 = tInt .i64 0 64 := by rw [hTS]; rfl
    have T15 : TS 15 = tRow w0.heap.size 2 (tInt .i64 0 64) := by rw [hTS]; rfl
    have T16 : TS 16 = tLit (.pointer (some ⟨g, 0, none⟩)) := by rw [hTS]; rfl
    have T17 : TS 17 = tInt .i64 0 3 := by rw [hTS]; rfl
    have T18 : TS 18 = tInt .i64 0 1 := by rw [hTS]; rfl
    have T19 : TS 19 = tAt w0.heap.size (tInt .i64 0 64) := by rw [hTS]; rfl
    have T20 : TS 20 = tInt .i64 0 64 := by rw [hTS]; rfl
    have T21 : TS 21 = tLit (.pointer (some ⟨g, 0, none⟩)) := by rw [hTS]; rfl
    have T22 : TS 22 = tList w0.heap.size 5 .u8 0 255 12 := by rw [hTS]; rfl
    have T23 : TS 23 = tPktB w0.heap.size 12 0 255 0 3 1 3 0 64 := by rw [hTS]; rfl
    have T5 : TS 5 = tNew w0.heap.size 27 5 := by rw [hTS]; rfl
    have C : Ctx Try.prog g (P) w0.heap.size 20 (· = g) (fun _ => True) TS (fun _ _ => True) := ⟨hrd.lt, rfl, by omega, hst, fun _ _ _ _ h => h, fun _ _ _ h => h⟩
    have hXi : ∀ w : World, True := fun _ => trivial
    clear hst hTS
    exact ⟨t_move C hXi (ot_tmp T0) T6,
    t_pick C hXi (ot_tmp T6) (ot_const (lo := 256) (hi := 256) (by omega) (by omega)) (by omega) (by omega) (by omega) T7,
    t_move C hXi (ot_tmp T0) T8,
    t_pick C hXi (ot_tmp T8) (ot_const (lo := 4) (hi := 4) (by omega) (by omega)) (by omega) (by omega) (by omega) T9,
    t_move C hXi (ot_tmp T0) T10,
    t_pick C hXi (ot_tmp T10) (ot_const (lo := 3) (hi := 3) (by omega) (by omega)) (by omega) (by omega) (by omega) T11,
    t_add C hXi (ot_const (lo := 1) (hi := 1) (by omega) (by omega)) (ot_tmp T11) (by omega) (by omega) (by omega) (by omega) T12,
    t_move C hXi (ot_tmp T0) T13,
    t_pick C hXi (ot_tmp T13) (ot_const (lo := 65) (hi := 65) (by omega) (by omega)) (by omega) (by omega) (by omega) T14,
    t_row C hXi [.tmp 14, .const (.int .i64 0)] Try.underlying58 tii tsi64 tzi64 rfl rfl (by omega) (by omega) int_one (stab_int _ _ _) ⟨(ot_tmp T14), (ot_const (by omega) (by omega)), trivial⟩ (Nat.le_refl _) T15,
    t_move C hXi (ot_tmp T0) T16,
    t_pick C hXi (ot_tmp T16) (ot_const (lo := 4) (hi := 4) (by omega) (by omega)) (by omega) (by omega) (by omega) T17,
    t_quoc C hXi (ot_tmp T17) (by omega) (by omega) (by omega) (by omega) (by omega) T18,
    t_index C hXi Try.underlying58 tii tsi64 (ot_tmp T15) (ot_tmp T18) (by omega) (by omega) T19,
    t_load C hXi Try.underlying3 rfl (ot_tmp T19) T20,
    t_move C hXi (ot_tmp T0) T21,
    t_bytes (most := 12) C hXi (by omega) (ot_tmp T21) ot_lit (Nat.le_refl _) T22,
    t_pktb C hXi (ot_tmp T7) (ot_tmp T9) (ot_tmp T12) (ot_tmp T20) (ot_tmp T22) T23,
    t_new C hXi iP tzP tsP (Nat.le_refl _) T5,
    trivial⟩
  · intro vs w1 hG hty _ _
    obtain ⟨q, e5, hq0, cs, hcs, Q1⟩ := (show tNew w0.heap.size 27 5 (vs 5) w1 from hty 18 5 (by omega) (by omega) rfl)
    obtain ⟨f, t, k, l, A, n0, c0, zs, e23, hf, ht, hk, hl, y1, y2, y3, y4, R1⟩ := (show tPktB w0.heap.size 12 0 255 0 3 1 3 0 64 (vs 23) w1 from hty 17 23 (by omega) (by omega) rfl)
    obtain ⟨z0, z1, z2, z3, z4, rfl⟩ : ∃ a b c d e, cs = #[a, b, c, d, e] := by
      obtain ⟨l⟩ := cs
      match l, hcs with
      | [a, b, c, d, e], _ => exact ⟨a, b, c, d, e, rfl⟩
    have D1 : Dw w g (P + 2000) w1 := (D0.picked hG.rdc hG.gr.to_grown).more (by omega)
    have K1 : Blk w1 w.heap.size 27 #[.int .i64 0, .int .i64 0, .int .i64 0, .int .i64 0, .slice none 0 0] := (hG.gr.block _ K0.lt (by omega)).trans K0
    have hne : (Value.slice A n0 c0).ownBlock ≠ some q := own_ne R1 Q1 (by decide)
    clear hty
    have hgq : g < q := by omega
    have hwq : w.heap.size ≠ q := by omega
    have hqw : q ≠ w.heap.size := by omega
    have hq0 : w.heap.size ≤ q := by omega
    obtain ⟨c0', c1', c2', c3', c4', cf⟩ := Q1.five_
    simp only [putL, e5, e23]
    go_wp2_with fail
    have Q2 := Q1.setFive (.int .i64 f) (.int .i64 t) (.int .i64 k) (.int .i64 l) (.slice A n0 c0)
    have D2 := D1.setFive hq0 (.int .i64 f) (.int .i64 t) (.int .i64 k) (.int .i64 l) (.slice A n0 c0)
    have K2 := K1.farFive hwq (.int .i64 f) (.int .i64 t) (.int .i64 k) (.int .i64 l) (.slice A n0 c0)
    have R2 := own_set5 R1 hne (.int .i64 f) (.int .i64 t) (.int .i64 k) (.int .i64 l) (.slice A n0 c0)
    obtain ⟨w2, hw2⟩ : ∃ w2, w2 = set5 w1 q (.int .i64 f) (.int .i64 t) (.int .i64 k) (.int .i64 l) (.slice A n0 c0) := ⟨_, rfl⟩
    unfold set5 at hw2 Q2 D2 K2 R2
    rw [← hw2] at Q2 D2 K2 R2 ⊢
    clear hw2 Q1 D1 K1 R1 c0' c1' c2' c3' c4' cf hG hrd D0 K0 D h
    refine (odd_zero _ _).mono ?_
    rintro e w5 ⟨rfl, rfl⟩
    have D6 := D2
    have K6 := K2
    have Q6 := Q2
    have R6 := R2
    clear D2 K2 Q2 R2
    have hAq : q ≠ w.heap.size := hqw
    have hp0 : pktV f t k l n0 = true := pktV_iff.2 ⟨hf, by omega, hk, hl, by omega⟩
    have hp8 : pktV f t k l 80 = true := pktV_iff.2 ⟨hf, by omega, hk, hl, by omega⟩
    go_wp2_with fail
    refine (odd_any _ _ _ _ D6.rd (by omega) (by omega) (by omega)).mono ?_
    rintro e wa ⟨b, rfl, hra, hga⟩
    have Da := D6.picked hra hga
    have Ka := K6.picked hga hlt
    have Qa := Q6.picked hga hgq
    have Ra := own_picked R6 hga (by omega)
    clear D6 K6 Q6 R6 hra hga
    rcases b
    · skip
      obtain ⟨c0', c1', c2', c3', c4', cf⟩ := Qa.five_
      obtain ⟨d0', d1', d2', d3', d4', df⟩ := Ka.five_
      go_wp2
      have KE := Ka.setFive (.int .i64 f) (.int .i64 t) (.int .i64 k) (.int .i64 l) (.slice A n0 c0)
      have DE := Da.setFive (Nat.le_refl _) (.int .i64 f) (.int .i64 t) (.int .i64 k) (.int .i64 l) (.slice A n0 c0)
      have RE := own_set5 Ra (own_ne Ra Ka (by decide)) (.int .i64 f) (.int .i64 t) (.int .i64 k) (.int .i64 l) (.slice A n0 c0)
      obtain ⟨x0, x1, x2, x3, x4, _⟩ := KE.five_
      clear c0' c1' c2' c3' c4' cf d0' d1' d2' d3' d4' df KE
      refine bodyPost_ret (v := .agg #[.int .i64 f, .int .i64 t, .int .i64 k, .int .i64 l, .slice A n0 c0]) ?_ rfl ⟨_, _, _, _, A, n0, c0, zs, rfl, hp0, by omega, y3, y4, own_more RE (by omega), DE.more (by omega)⟩
      simp [results, Try.results41, go_sem, x0, x1, x2, x3, x4]
    · skip
      have ownm := own_more (own_made wa (.int .u8 0) 5 80 (by unfold maxLen; omega)) Da.size_
      have Dm := Da.alloc (.cells (madeCells #[.int .u8 0] 80) 5)
      have Km := Ka.alloc (.cells (madeCells #[.int .u8 0] 80) 5)
      have Qm := Qa.alloc (.cells (madeCells #[.int .u8 0] 80) 5)
      rw [show List.replicate 80 (Value.int .u8 0) = (List.replicate 80 (0 : Int)).map (Value.int .u8) from by simp] at ownm
      obtain ⟨wm, hwm⟩ : ∃ wm, wa.alloc (.cells (madeCells #[.int .u8 0] 80) 5) = wm := ⟨_, rfl⟩
      have hmk6 : (Instr.makeSlice 22 (.int .i64 80) (.int .i64 80)).run Try.prog wa = .ok (.slice (some ⟨wa.heap.size, 0, none⟩) 80 80) wm := by
        have := hmk 80 (by omega) wa
        rw [hwm] at this
        exact this
      rw [hwm] at ownm Dm Km Qm
      clear hwm hmk Da Ka Qa Ra
      have hwa := wa.heap.size
      have KM := Km.far (p := ⟨q, 4, none⟩) hwq (.slice (some ⟨wa.heap.size, 0, none⟩) 80 80)
      have DM := Dm.setCell (p := ⟨q, 4, none⟩) hq0 (.slice (some ⟨wa.heap.size, 0, none⟩) 80 80)
      have RM := own_set (i := 4) ownm (own_ne ownm Qm (by decide)) (.slice (some ⟨wa.heap.size, 0, none⟩) 80 80)
      obtain ⟨c0', c1', c2', c3', c4', cf⟩ := Qm.five_
      obtain ⟨d0', d1', d2', d3', d4', df⟩ := Km.five_
      go_wp2
      have KE := KM.setFive (.int .i64 f) (.int .i64 t) (.int .i64 k) (.int .i64 l) (.slice (some ⟨wa.heap.size, 0, none⟩) 80 80)
      have DE := DM.setFive (Nat.le_refl _) (.int .i64 f) (.int .i64 t) (.int .i64 k) (.int .i64 l) (.slice (some ⟨wa.heap.size, 0, none⟩) 80 80)
      have RE := own_set5 RM (own_ne RM KM (by decide)) (.int .i64 f) (.int .i64 t) (.int .i64 k) (.int .i64 l) (.slice (some ⟨wa.heap.size, 0, none⟩) 80 80)
      obtain ⟨x0, x1, x2, x3, x4, _⟩ := KE.five_
      clear c0' c1' c2' c3' c4' cf d0' d1' d2' d3' d4' df KE
      refine bodyPost_ret (v := .agg #[.int .i64 f, .int .i64 t, .int .i64 k, .int .i64 l, .slice (some ⟨wa.heap.size, 0, none⟩) 80 80]) ?_ rfl ⟨_, _, _, _, (some ⟨wa.heap.size, 0, none⟩), 80, 80, (List.replicate 80 0), rfl, hp8, by omega, (by unfold maxLen; omega), (fun z hz => by have := (List.mem_replicate.1 hz).2; omega), own_more RE (by omega), DE.more (by omega)⟩
      simp [results, Try.results41, go_sem, x0, x1, x2, x3, x4]
end Go.Proofs.Ytleammkpfknngaa
