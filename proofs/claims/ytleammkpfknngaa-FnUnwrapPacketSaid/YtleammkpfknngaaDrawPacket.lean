/-
  l20Packet: a packet drawn by a reader.
-/
import Derived.Test.YtleammkpfknngaaTPkt
import Derived.Test.YtleammkpfknngaaFive
namespace Go.Proofs.Ytleammkpfknngaa
open Go.RowKit
set_option linter.unusedVariables false

/-- A draw hands back a packet. -/
def DrewPacket (W : World) (g P : Nat) (e : Ending) (w' : World) : Prop :=
  ∃ (f t k l : Int) (A : Option Addr) (n c : Nat) (zs : List Int), e = .returned (.agg #[.int .i64 f, .int .i64 t, .int .i64 k, .int .i64 l, .slice A n c]) ∧ n ≤ 81 ∧ n ≤ c ∧ c ≤ maxLen ∧ (∀ z ∈ zs, (0 : Int) ≤ z ∧ z ≤ 255) ∧ w'.ownsRow W.heap.size 5 1 (.slice A n c) n (zs.map (Value.int .u8)) ∧ Dw W g P w'

theorem Blk.picked {w w' : World} {g k : Nat} {t : TypeId} {cs : Array Value} (h : Blk w k t cs) (hg : w.grownBy w' (some g)) (hk : g < k) : Blk w' k t cs := h.grown hg (fun e => by cases e; omega)
theorem Dw.setCell {W w : World} {g P : Nat} (h : Dw W g P w) {p : Addr} (hp : W.heap.size ≤ p.block) (u : Value) : Dw W g P (w.setCell p u) :=
  h.below ((Below.refl W.heap.size w).setCell hp u) (Nat.le_refl _)
theorem Dw.setFive {W w : World} {g P k : Nat} (h : Dw W g P w) (hk : W.heap.size ≤ k) (x0 x1 x2 x3 x4 : Value) : Dw W g P (set5 w k x0 x1 x2 x3 x4) := ((((h.setCell hk x0).setCell hk x1).setCell hk x2).setCell hk x3).setCell hk x4

set_option maxRecDepth 10000 in
set_option maxHeartbeats 1600000 in
theorem packet_any (g P : Nat) (n : Int) (w : World) (h : Rd w g P) (hP : P ≤ 90000000) (hn : 0 ≤ n) (hn' : n ≤ 1000) :
    Calls Try.prog 41 #[.pointer (some ⟨g, 0, none⟩), .int .i64 n] w (DrewPacket w g (P + 3000)) := by
  have D := Dw.start h
  have hlt := D.lt
  have hmk : ∀ (j : Nat) (hj : j ≤ 100) (W : World), (Instr.makeSlice 22 (.int .i64 (j : Int)) (.int .i64 (j : Int))).run Try.prog W = .ok (.slice (some ⟨W.heap.size, 0, none⟩) j j) (W.alloc (.cells (madeCells #[.int .u8 0] j) 5)) := fun j hj W =>
    run_make_row' (P := Try.prog) 22 5 (.int .u8 0) 1 Try.underlying22 infoByte rfl .i64 .i64 j (by omega) (by omega) W
  have hmk0 := Lib.hid hmk
  go_enter Try.func41, Try.ntmps41
  go_wp2_with fail
  have D0 := D.alloc (.cells #[.int .i64 0, .int .i64 0, .int .i64 0, .int .i64 0, .slice none 0 0] 27)
  have K0 := Blk.new w 27 #[.int .i64 0, .int .i64 0, .int .i64 0, .int .i64 0, .slice none 0 0]
  obtain ⟨w0, hw0⟩ : ∃ w0, w0 = w.alloc (.cells #[.int .i64 0, .int .i64 0, .int .i64 0, .int .i64 0, .slice none 0 0] 27) := ⟨_, rfl⟩
  have hz0 : w0.heap.size = w.heap.size + 1 := by rw [hw0]; simp
  rw [← hw0] at D0 K0 ⊢
  clear hw0
  have hrd : Rd w0.drew g (P + 100 * 0) := D0.rd
  obtain ⟨ii64, tii, tzi64, tsi64, _⟩ := info_parts infoI
  obtain ⟨iP0, iP, tzP, tsP0, _⟩ := info_parts infoP
  have tsP : (Value.agg #[.int .i64 0, .int .i64 0, .int .i64 0, .int .i64 0, .slice none 0 0]).cells.size = 5 := by kernel_rfl
  refine wp_region_typed (by kernel_rfl) (tsOf [(0, .pointer (some ⟨g, 0, none⟩))] [(6, tLit (.pointer (some ⟨g, 0, none⟩))), (7, tInt .i64 0 255), (8, tLit (.pointer (some ⟨g, 0, none⟩))), (9, tInt .i64 0 3), (10, tLit (.pointer (some ⟨g, 0, none⟩))), (11, tInt .i64 0 2), (12, tInt .i64 1 3), (13, tLit (.pointer (some ⟨g, 0, none⟩))), (14, tInt .i64 0 64), (15, tRow w0.heap.size 2 (tInt .i64 0 64)), (16, tLit (.pointer (some ⟨g, 0, none⟩))), (17, tInt .i64 0 3), (18, tInt .i64 0 1), (19, tAt w0.heap.size (tInt .i64 0 64)), (20, tInt .i64 0 64), (21, tLit (.pointer (some ⟨g, 0, none⟩))), (22, tList w0.heap.size 5 .u8 0 255 12), (23, tPkt w0.heap.size 12 (-1) 300), (5, tNew w0.heap.size 27 5)]) (fun _ _ => True) (Gd w0 g (P) (· = g) (fun _ => True)) 19 20 rfl [some 6, some 7, some 8, some 9, some 10, some 11, some 12, some 13, some 14, some 15, some 16, some 17, some 18, some 19, some 20, some 21, some 22, some 23, some 5] (by kernel_rfl) (by kernel_rfl) rfl (fun _ _ _ h hg => Gd.more _ _ _ h hg) ⟨hrd, (GrF.refl _ _).drew, rfl, trivial⟩ (ts_old (by intro x hx; simp only [List.mem_cons, List.not_mem_nil, or_false] at hx; rcases hx with rfl <;> rfl) (by kernel_rfl)) ?_ ?_
  · obtain ⟨TS, hTS⟩ : ∃ TS, TS = tsOf [(0, .pointer (some ⟨g, 0, none⟩))] [(6, tLit (.pointer (some ⟨g, 0, none⟩))), (7, tInt .i64 0 255), (8, tLit (.pointer (some ⟨g, 0, none⟩))), (9, tInt .i64 0 3), (10, tLit (.pointer (some ⟨g, 0, none⟩))), (11, tInt .i64 0 2), (12, tInt .i64 1 3), (13, tLit (.pointer (some ⟨g, 0, none⟩))), (14, tInt .i64 0 64), (15, tRow w0.heap.size 2 (tInt .i64 0 64)), (16, tLit (.pointer (some ⟨g, 0, none⟩))), (17, tInt .i64 0 3), (18, tInt .i64 0 1), (19, tAt w0.heap.size (tInt .i64 0 64)), (20, tInt .i64 0 64), (21, tLit (.pointer (some ⟨g, 0, none⟩))), (22, tList w0.heap.size 5 .u8 0 255 12), (23, tPkt w0.heap.size 12 (-1) 300), (5, tNew w0.heap.size 27 5)] := ⟨_, rfl⟩
    rw [← hTS]
    have hst : ∀ s, Stab w0.heap.size (TS s) := fun s => by rw [hTS]; exact stab_ts (by exact ⟨stab_lit _, stab_int _ _ _, stab_lit _, stab_int _ _ _, stab_lit _, stab_int _ _ _, stab_int _ _ _, stab_lit _, stab_int _ _ _, stab_row (stab_int _ _ _), stab_lit _, stab_int _ _ _, stab_int _ _ _, stab_at (stab_int _ _ _), stab_int _ _ _, stab_lit _, stab_list, stab_pkt, stab_new, trivial⟩) s
    have T0 : TS 0 = tLit (.pointer (some ⟨g, 0, none⟩)) := by rw [hTS]; rfl
    have T6 : TS 6 = tLit (.pointer (some ⟨g, 0, none⟩)) := by rw [hTS]; rfl
    have T7 : TS 7 = tInt .i64 0 255 := by rw [hTS]; rfl
    have T8 : TS 8 = tLit (.pointer (some ⟨g, 0, none⟩)) := by rw [hTS]; rfl
    have T9 : TS 9 = tInt .i64 0 3 := by rw [hTS]; rfl
    have T10 : TS 10 = tLit (.pointer (some ⟨g, 0, none⟩)) := by rw [hTS]; rfl
    have T11 : TS 11 = tInt .i64 0 2 := by rw [hTS]; rfl
    have T12 : TS 12 = tInt .i64 1 3 := by rw [hTS]; rfl
    have T13 : TS 13 = tLit (.pointer (some ⟨g, 0, none⟩)) := by rw [hTS]; rfl
    have T14 : TS 14 = tInt .i64 0 64 := by rw [hTS]; rfl
    have T15 : TS 15 = tRow w0.heap.size 2 (tInt .i64 0 64) := by rw [hTS]; rfl
    have T16 : TS 16 = tLit (.pointer (some ⟨g, 0, none⟩)) := by rw [hTS]; rfl
    have T17 : TS 17 = tInt .i64 0 3 := by rw [hTS]; rfl
    have T18 : TS 18 = tInt .i64 0 1 := by rw [hTS]; rfl
    have T19 : TS 19 = tAt w0.heap.size (tInt .i64 0 64) := by rw [hTS]; rfl
    have T20 : TS 20 = tInt .i64 0 64 := by rw [hTS]; rfl
    have T21 : TS 21 = tLit (.pointer (some ⟨g, 0, none⟩)) := by rw [hTS]; rfl
    have T22 : TS 22 = tList w0.heap.size 5 .u8 0 255 12 := by rw [hTS]; rfl
    have T23 : TS 23 = tPkt w0.heap.size 12 (-1) 300 := by rw [hTS]; rfl
    have T5 : TS 5 = tNew w0.heap.size 27 5 := by rw [hTS]; rfl
    have C : Ctx Try.prog g (P) w0.heap.size 20 (· = g) (fun _ => True) TS (fun _ _ => True) := ⟨hrd.lt, rfl, by omega, hst, fun _ _ _ _ h => h, fun _ _ _ h => h⟩
    have hXi : ∀ w : World, True := fun _ => trivial
    clear hst hTS
    exact ⟨t_move C hXi (ot_tmp T0) T6,
    t_pick C hXi (ot_tmp T6) (ot_const (lo := 256) (hi := 256) (by omega) (by omega)) (by omega) (by omega) (by omega) T7,
    t_move C hXi (ot_tmp T0) T8,
    t_pick C hXi (ot_tmp T8) (ot_const (lo := 4) (hi := 4) (by omega) (by omega)) (by omega) (by omega) (by omega) T9,
    t_move C hXi (ot_tmp T0) T10,
    t_pick C hXi (ot_tmp T10) (ot_const (lo := 3) (hi := 3) (by omega) (by omega)) (by omega) (by omega) (by omega) T11,
    t_add C hXi (ot_const (lo := 1) (hi := 1) (by omega) (by omega)) (ot_tmp T11) (by omega) (by omega) (by omega) (by omega) T12,
    t_move C hXi (ot_tmp T0) T13,
    t_pick C hXi (ot_tmp T13) (ot_const (lo := 65) (hi := 65) (by omega) (by omega)) (by omega) (by omega) (by omega) T14,
    t_row C hXi [.tmp 14, .const (.int .i64 0)] Try.underlying58 tii tsi64 tzi64 rfl rfl (by omega) (by omega) int_one (stab_int _ _ _) ⟨(ot_tmp T14), (ot_const (by omega) (by omega)), trivial⟩ (Nat.le_refl _) T15,
    t_move C hXi (ot_tmp T0) T16,
    t_pick C hXi (ot_tmp T16) (ot_const (lo := 4) (hi := 4) (by omega) (by omega)) (by omega) (by omega) (by omega) T17,
    t_quoc C hXi (ot_tmp T17) (by omega) (by omega) (by omega) (by omega) (by omega) T18,
    t_index C hXi Try.underlying58 tii tsi64 (ot_tmp T15) (ot_tmp T18) (by omega) (by omega) T19,
    t_load C hXi Try.underlying3 rfl (ot_tmp T19) T20,
    t_move C hXi (ot_tmp T0) T21,
    t_bytes (most := 12) C hXi (by omega) (ot_tmp T21) ot_lit (Nat.le_refl _) T22,
    t_pkt C hXi ((ot_tmp T7).more (by omega) (by omega)) ((ot_tmp T9).more (by omega) (by omega)) ((ot_tmp T12).more (by omega) (by omega)) ((ot_tmp T20).more (by omega) (by omega)) (ot_tmp T22) T23,
    t_new C hXi iP tzP tsP (Nat.le_refl _) T5,
    trivial⟩
  · intro vs w1 hG hty _ _
    obtain ⟨q, e5, hq0, cs, hcs, Q1⟩ := (show tNew w0.heap.size 27 5 (vs 5) w1 from hty 18 5 (by omega) (by omega) rfl)
    obtain ⟨f, t, k, l, A, n0, c0, zs, e23, hf, ht, hk, hl, y1, y2, y3, y4, R1⟩ := (show tPkt w0.heap.size 12 (-1) 300 (vs 23) w1 from hty 17 23 (by omega) (by omega) rfl)
    obtain ⟨z0, z1, z2, z3, z4, rfl⟩ : ∃ a b c d e, cs = #[a, b, c, d, e] := by
      obtain ⟨l⟩ := cs
      match l, hcs with
      | [a, b, c, d, e], _ => exact ⟨a, b, c, d, e, rfl⟩
    have D1 : Dw w g (P + 2000) w1 := (D0.picked hG.rdc hG.gr.to_grown).more (by omega)
    have K1 : Blk w1 w.heap.size 27 #[.int .i64 0, .int .i64 0, .int .i64 0, .int .i64 0, .slice none 0 0] := (hG.gr.block _ K0.lt (by omega)).trans K0
    have hne : (Value.slice A n0 c0).ownBlock ≠ some q := own_ne R1 Q1 (by decide)
    clear hty
    have hgq : g < q := by omega
    have hwq : w.heap.size ≠ q := by omega
    have hqw : q ≠ w.heap.size := by omega
    have hq0 : w.heap.size ≤ q := by omega
    obtain ⟨c0', c1', c2', c3', c4', cf⟩ := Q1.five_
    simp only [putL, e5, e23]
    go_wp2_with fail
    have Q2 := Q1.setFive (.int .i64 f) (.int .i64 t) (.int .i64 k) (.int .i64 l) (.slice A n0 c0)
    have D2 := D1.setFive hq0 (.int .i64 f) (.int .i64 t) (.int .i64 k) (.int .i64 l) (.slice A n0 c0)
    have K2 := K1.farFive hwq (.int .i64 f) (.int .i64 t) (.int .i64 k) (.int .i64 l) (.slice A n0 c0)
    have R2 := own_set5 R1 hne (.int .i64 f) (.int .i64 t) (.int .i64 k) (.int .i64 l) (.slice A n0 c0)
    obtain ⟨w2, hw2⟩ : ∃ w2, w2 = set5 w1 q (.int .i64 f) (.int .i64 t) (.int .i64 k) (.int .i64 l) (.slice A n0 c0) := ⟨_, rfl⟩
    unfold set5 at hw2 Q2 D2 K2 R2
    rw [← hw2] at Q2 D2 K2 R2 ⊢
    clear hw2 Q1 D1 K1 R1 c0' c1' c2' c3' c4' cf hG hrd D0 K0 D h
    refine (odd_any _ _ _ _ D2.rd (by omega) (by omega) (by omega)).mono ?_
    rintro e w5 ⟨b, rfl, hr5, hg5⟩
    have D6 := D2.picked hr5 hg5
    have K6 := K2.picked hg5 hlt
    have Q6 := Q2.picked hg5 hgq
    have R6 := own_picked R2 hg5 (by omega)
    clear D2 K2 Q2 R2 hr5 hg5
    have hAq : q ≠ w.heap.size := hqw
    rcases b
    · skip
      go_wp2_with fail
      refine (odd_any _ _ _ _ D6.rd (by omega) (by omega) (by omega)).mono ?_
      rintro e wa ⟨b, rfl, hra, hga⟩
      have Da := D6.picked hra hga
      have Ka := K6.picked hga hlt
      have Qa := Q6.picked hga hgq
      have Ra := own_picked R6 hga (by omega)
      clear D6 K6 Q6 R6 hra hga
      rcases b
      · skip
        obtain ⟨c0', c1', c2', c3', c4', cf⟩ := Qa.five_
        obtain ⟨d0', d1', d2', d3', d4', df⟩ := Ka.five_
        go_wp2
        have KE := Ka.setFive (.int .i64 f) (.int .i64 t) (.int .i64 k) (.int .i64 l) (.slice A n0 c0)
        have DE := Da.setFive (Nat.le_refl _) (.int .i64 f) (.int .i64 t) (.int .i64 k) (.int .i64 l) (.slice A n0 c0)
        have RE := own_set5 Ra (own_ne Ra Ka (by decide)) (.int .i64 f) (.int .i64 t) (.int .i64 k) (.int .i64 l) (.slice A n0 c0)
        obtain ⟨x0, x1, x2, x3, x4, _⟩ := KE.five_
        clear c0' c1' c2' c3' c4' cf d0' d1' d2' d3' d4' df KE
        refine bodyPost_ret (v := .agg #[.int .i64 f, .int .i64 t, .int .i64 k, .int .i64 l, .slice A n0 c0]) ?_ rfl ⟨_, _, _, _, A, n0, c0, zs, rfl, by omega, by omega, y3, y4, own_more RE (by omega), DE.more (by omega)⟩
        simp [results, Try.results41, go_sem, x0, x1, x2, x3, x4]
      · skip
        have ownm := own_more (own_made wa (.int .u8 0) 5 80 (by unfold maxLen; omega)) Da.size_
        have Dm := Da.alloc (.cells (madeCells #[.int .u8 0] 80) 5)
        have Km := Ka.alloc (.cells (madeCells #[.int .u8 0] 80) 5)
        have Qm := Qa.alloc (.cells (madeCells #[.int .u8 0] 80) 5)
        rw [show List.replicate 80 (Value.int .u8 0) = (List.replicate 80 (0 : Int)).map (Value.int .u8) from by simp] at ownm
        obtain ⟨wm, hwm⟩ : ∃ wm, wa.alloc (.cells (madeCells #[.int .u8 0] 80) 5) = wm := ⟨_, rfl⟩
        have hmk6 : (Instr.makeSlice 22 (.int .i64 80) (.int .i64 80)).run Try.prog wa = .ok (.slice (some ⟨wa.heap.size, 0, none⟩) 80 80) wm := by
          have := hmk 80 (by omega) wa
          rw [hwm] at this
          exact this
        rw [hwm] at ownm Dm Km Qm
        clear hwm hmk Da Ka Qa Ra
        have hwa := wa.heap.size
        have KM := Km.far (p := ⟨q, 4, none⟩) hwq (.slice (some ⟨wa.heap.size, 0, none⟩) 80 80)
        have DM := Dm.setCell (p := ⟨q, 4, none⟩) hq0 (.slice (some ⟨wa.heap.size, 0, none⟩) 80 80)
        have RM := own_set (i := 4) ownm (own_ne ownm Qm (by decide)) (.slice (some ⟨wa.heap.size, 0, none⟩) 80 80)
        obtain ⟨c0', c1', c2', c3', c4', cf⟩ := Qm.five_
        obtain ⟨d0', d1', d2', d3', d4', df⟩ := Km.five_
        go_wp2
        have KE := KM.setFive (.int .i64 f) (.int .i64 t) (.int .i64 k) (.int .i64 l) (.slice (some ⟨wa.heap.size, 0, none⟩) 80 80)
        have DE := DM.setFive (Nat.le_refl _) (.int .i64 f) (.int .i64 t) (.int .i64 k) (.int .i64 l) (.slice (some ⟨wa.heap.size, 0, none⟩) 80 80)
        have RE := own_set5 RM (own_ne RM KM (by decide)) (.int .i64 f) (.int .i64 t) (.int .i64 k) (.int .i64 l) (.slice (some ⟨wa.heap.size, 0, none⟩) 80 80)
        obtain ⟨x0, x1, x2, x3, x4, _⟩ := KE.five_
        clear c0' c1' c2' c3' c4' cf d0' d1' d2' d3' d4' df KE
        refine bodyPost_ret (v := .agg #[.int .i64 f, .int .i64 t, .int .i64 k, .int .i64 l, .slice (some ⟨wa.heap.size, 0, none⟩) 80 80]) ?_ rfl ⟨_, _, _, _, (some ⟨wa.heap.size, 0, none⟩), 80, 80, (List.replicate 80 0), rfl, by omega, by omega, (by unfold maxLen; omega), (fun z hz => by have := (List.mem_replicate.1 hz).2; omega), own_more RE (by omega), DE.more (by omega)⟩
        simp [results, Try.results41, go_sem, x0, x1, x2, x3, x4]
    · go_wp2_with fail
      refine (pick_any _ _ _ _ D6.rd (by omega) (by omega) (by omega)).mono ?_
      rintro e w6 ⟨v, a6, b6, rfl, hr6, hg6⟩
      have D7 := D6.picked hr6 hg6
      have K7 := K6.picked hg6 hlt
      have Q7 := Q6.picked hg6 hgq
      have R7 := own_picked R6 hg6 (by omega)
      clear D6 K6 Q6 R6 hr6 hg6
      have hcase : v = 0 ∨ v = 1 ∨ v = 2 ∨ v = 3 := by omega
      clear a6 b6
      obtain ⟨c0', c1', c2', c3', c4', cf⟩ := Q7.five_
      rcases hcase with rfl | rfl | rfl | rfl
      · go_wp2_with fail
        have D8 := D7.setCell (p := ⟨q, 0, none⟩) hq0 (.int .i64 256)
        have K8 := K7.far (p := ⟨q, 0, none⟩) hwq (.int .i64 256)
        have R8 := own_set (i := 0) R7 (own_ne R7 Q7 (by decide)) (.int .i64 256)
        have Q8 := Q7.set_ 0 (.int .i64 256)
        obtain ⟨w8, hw8⟩ : ∃ w8, w8 = w6.setCell ⟨q, 0, none⟩ (.int .i64 256) := ⟨_, rfl⟩
        rw [← hw8] at D8 K8 Q8 R8 ⊢
        clear hw8 D7 K7 Q7 R7 c0' c1' c2' c3' c4' cf
        go_wp2_with fail
        refine (odd_any _ _ _ _ D8.rd (by omega) (by omega) (by omega)).mono ?_
        rintro e wa ⟨b, rfl, hra, hga⟩
        have Da := D8.picked hra hga
        have Ka := K8.picked hga hlt
        have Qa := Q8.picked hga hgq
        have Ra := own_picked R8 hga (by omega)
        clear D8 K8 Q8 R8 hra hga
        rcases b
        · skip
          obtain ⟨c0', c1', c2', c3', c4', cf⟩ := Qa.five_
          obtain ⟨d0', d1', d2', d3', d4', df⟩ := Ka.five_
          go_wp2
          have KE := Ka.setFive (.int .i64 256) (.int .i64 t) (.int .i64 k) (.int .i64 l) (.slice A n0 c0)
          have DE := Da.setFive (Nat.le_refl _) (.int .i64 256) (.int .i64 t) (.int .i64 k) (.int .i64 l) (.slice A n0 c0)
          have RE := own_set5 Ra (own_ne Ra Ka (by decide)) (.int .i64 256) (.int .i64 t) (.int .i64 k) (.int .i64 l) (.slice A n0 c0)
          obtain ⟨x0, x1, x2, x3, x4, _⟩ := KE.five_
          clear c0' c1' c2' c3' c4' cf d0' d1' d2' d3' d4' df KE
          refine bodyPost_ret (v := .agg #[.int .i64 256, .int .i64 t, .int .i64 k, .int .i64 l, .slice A n0 c0]) ?_ rfl ⟨_, _, _, _, A, n0, c0, zs, rfl, by omega, by omega, y3, y4, own_more RE (by omega), DE.more (by omega)⟩
          simp [results, Try.results41, go_sem, x0, x1, x2, x3, x4]
        · skip
          have ownm := own_more (own_made wa (.int .u8 0) 5 80 (by unfold maxLen; omega)) Da.size_
          have Dm := Da.alloc (.cells (madeCells #[.int .u8 0] 80) 5)
          have Km := Ka.alloc (.cells (madeCells #[.int .u8 0] 80) 5)
          have Qm := Qa.alloc (.cells (madeCells #[.int .u8 0] 80) 5)
          rw [show List.replicate 80 (Value.int .u8 0) = (List.replicate 80 (0 : Int)).map (Value.int .u8) from by simp] at ownm
          obtain ⟨wm, hwm⟩ : ∃ wm, wa.alloc (.cells (madeCells #[.int .u8 0] 80) 5) = wm := ⟨_, rfl⟩
          have hmk6 : (Instr.makeSlice 22 (.int .i64 80) (.int .i64 80)).run Try.prog wa = .ok (.slice (some ⟨wa.heap.size, 0, none⟩) 80 80) wm := by
            have := hmk 80 (by omega) wa
            rw [hwm] at this
            exact this
          rw [hwm] at ownm Dm Km Qm
          clear hwm hmk Da Ka Qa Ra
          have hwa := wa.heap.size
          have KM := Km.far (p := ⟨q, 4, none⟩) hwq (.slice (some ⟨wa.heap.size, 0, none⟩) 80 80)
          have DM := Dm.setCell (p := ⟨q, 4, none⟩) hq0 (.slice (some ⟨wa.heap.size, 0, none⟩) 80 80)
          have RM := own_set (i := 4) ownm (own_ne ownm Qm (by decide)) (.slice (some ⟨wa.heap.size, 0, none⟩) 80 80)
          obtain ⟨c0', c1', c2', c3', c4', cf⟩ := Qm.five_
          obtain ⟨d0', d1', d2', d3', d4', df⟩ := Km.five_
          go_wp2
          have KE := KM.setFive (.int .i64 256) (.int .i64 t) (.int .i64 k) (.int .i64 l) (.slice (some ⟨wa.heap.size, 0, none⟩) 80 80)
          have DE := DM.setFive (Nat.le_refl _) (.int .i64 256) (.int .i64 t) (.int .i64 k) (.int .i64 l) (.slice (some ⟨wa.heap.size, 0, none⟩) 80 80)
          have RE := own_set5 RM (own_ne RM KM (by decide)) (.int .i64 256) (.int .i64 t) (.int .i64 k) (.int .i64 l) (.slice (some ⟨wa.heap.size, 0, none⟩) 80 80)
          obtain ⟨x0, x1, x2, x3, x4, _⟩ := KE.five_
          clear c0' c1' c2' c3' c4' cf d0' d1' d2' d3' d4' df KE
          refine bodyPost_ret (v := .agg #[.int .i64 256, .int .i64 t, .int .i64 k, .int .i64 l, .slice (some ⟨wa.heap.size, 0, none⟩) 80 80]) ?_ rfl ⟨_, _, _, _, (some ⟨wa.heap.size, 0, none⟩), 80, 80, (List.replicate 80 0), rfl, by omega, by omega, (by unfold maxLen; omega), (fun z hz => by have := (List.mem_replicate.1 hz).2; omega), own_more RE (by omega), DE.more (by omega)⟩
          simp [results, Try.results41, go_sem, x0, x1, x2, x3, x4]
      · skip
        clear c0' c1' c2' c3' c4' cf
        go_wp2_with fail
        have D8 := D7.alloc (.cells #[.int .i64 0, .int .i64 4] 3)
        have K8 := K7.alloc (.cells #[.int .i64 0, .int .i64 4] 3)
        have Q8 := Q7.alloc (.cells #[.int .i64 0, .int .i64 4] 3)
        have R8 := R7.alloc (.cells #[.int .i64 0, .int .i64 4] 3)
        have B8 := Blk.new w6 3 #[.int .i64 0, .int .i64 4]
        have hs6 := D7.size_
        refine (pick_any _ _ _ _ D8.rd (by omega) (by omega) (by omega)).mono ?_
        rintro e w7 ⟨z, a7, b7, rfl, hr7, hg7⟩
        have D9 := D8.picked hr7 hg7
        have K9 := K8.picked hg7 hlt
        have Q9 := Q8.picked hg7 hgq
        have R9 := own_picked R8 hg7 (by omega)
        have B9 := B8.picked hg7 (by omega)
        obtain ⟨i0, i1, _⟩ := B9.two
        obtain ⟨z', hz'⟩ : ∃ z' : Int, w7.cell? ⟨w6.heap.size, z.toNat, none⟩ = some (.int .i64 z') := by
          have hc : z = 0 ∨ z = 1 := by omega
          rcases hc with rfl | rfl
          · exact ⟨_, i0⟩
          · exact ⟨_, i1⟩
        replace b7 : z < 2 := by omega
        clear D7 K7 Q7 R7 D8 K8 Q8 R8 B8 B9 hr7 hg7 i0 i1
        obtain ⟨c0', c1', c2', c3', c4', cf⟩ := Q9.five_
        go_wp2_with fail
        have D8 := D9.setCell (p := ⟨q, 2, none⟩) hq0 (.int .i64 z')
        have K8 := K9.far (p := ⟨q, 2, none⟩) hwq (.int .i64 z')
        have R8 := own_set (i := 2) R9 (own_ne R9 Q9 (by decide)) (.int .i64 z')
        have Q8 := Q9.set_ 2 (.int .i64 z')
        obtain ⟨w8, hw8⟩ : ∃ w8, w8 = w7.setCell ⟨q, 2, none⟩ (.int .i64 z') := ⟨_, rfl⟩
        rw [← hw8] at D8 K8 Q8 R8 ⊢
        clear hw8 D9 K9 Q9 R9 c0' c1' c2' c3' c4' cf
        go_wp2_with fail
        refine (odd_any _ _ _ _ D8.rd (by omega) (by omega) (by omega)).mono ?_
        rintro e wa ⟨b, rfl, hra, hga⟩
        have Da := D8.picked hra hga
        have Ka := K8.picked hga hlt
        have Qa := Q8.picked hga hgq
        have Ra := own_picked R8 hga (by omega)
        clear D8 K8 Q8 R8 hra hga
        rcases b
        · skip
          obtain ⟨c0', c1', c2', c3', c4', cf⟩ := Qa.five_
          obtain ⟨d0', d1', d2', d3', d4', df⟩ := Ka.five_
          go_wp2
          have KE := Ka.setFive (.int .i64 f) (.int .i64 t) (.int .i64 z') (.int .i64 l) (.slice A n0 c0)
          have DE := Da.setFive (Nat.le_refl _) (.int .i64 f) (.int .i64 t) (.int .i64 z') (.int .i64 l) (.slice A n0 c0)
          have RE := own_set5 Ra (own_ne Ra Ka (by decide)) (.int .i64 f) (.int .i64 t) (.int .i64 z') (.int .i64 l) (.slice A n0 c0)
          obtain ⟨x0, x1, x2, x3, x4, _⟩ := KE.five_
          clear c0' c1' c2' c3' c4' cf d0' d1' d2' d3' d4' df KE
          refine bodyPost_ret (v := .agg #[.int .i64 f, .int .i64 t, .int .i64 z', .int .i64 l, .slice A n0 c0]) ?_ rfl ⟨_, _, _, _, A, n0, c0, zs, rfl, by omega, by omega, y3, y4, own_more RE (by omega), DE.more (by omega)⟩
          simp [results, Try.results41, go_sem, x0, x1, x2, x3, x4]
        · skip
          have ownm := own_more (own_made wa (.int .u8 0) 5 80 (by unfold maxLen; omega)) Da.size_
          have Dm := Da.alloc (.cells (madeCells #[.int .u8 0] 80) 5)
          have Km := Ka.alloc (.cells (madeCells #[.int .u8 0] 80) 5)
          have Qm := Qa.alloc (.cells (madeCells #[.int .u8 0] 80) 5)
          rw [show List.replicate 80 (Value.int .u8 0) = (List.replicate 80 (0 : Int)).map (Value.int .u8) from by simp] at ownm
          obtain ⟨wm, hwm⟩ : ∃ wm, wa.alloc (.cells (madeCells #[.int .u8 0] 80) 5) = wm := ⟨_, rfl⟩
          have hmk6 : (Instr.makeSlice 22 (.int .i64 80) (.int .i64 80)).run Try.prog wa = .ok (.slice (some ⟨wa.heap.size, 0, none⟩) 80 80) wm := by
            have := hmk 80 (by omega) wa
            rw [hwm] at this
            exact this
          rw [hwm] at ownm Dm Km Qm
          clear hwm hmk Da Ka Qa Ra
          have hwa := wa.heap.size
          have KM := Km.far (p := ⟨q, 4, none⟩) hwq (.slice (some ⟨wa.heap.size, 0, none⟩) 80 80)
          have DM := Dm.setCell (p := ⟨q, 4, none⟩) hq0 (.slice (some ⟨wa.heap.size, 0, none⟩) 80 80)
          have RM := own_set (i := 4) ownm (own_ne ownm Qm (by decide)) (.slice (some ⟨wa.heap.size, 0, none⟩) 80 80)
          obtain ⟨c0', c1', c2', c3', c4', cf⟩ := Qm.five_
          obtain ⟨d0', d1', d2', d3', d4', df⟩ := Km.five_
          go_wp2
          have KE := KM.setFive (.int .i64 f) (.int .i64 t) (.int .i64 z') (.int .i64 l) (.slice (some ⟨wa.heap.size, 0, none⟩) 80 80)
          have DE := DM.setFive (Nat.le_refl _) (.int .i64 f) (.int .i64 t) (.int .i64 z') (.int .i64 l) (.slice (some ⟨wa.heap.size, 0, none⟩) 80 80)
          have RE := own_set5 RM (own_ne RM KM (by decide)) (.int .i64 f) (.int .i64 t) (.int .i64 z') (.int .i64 l) (.slice (some ⟨wa.heap.size, 0, none⟩) 80 80)
          obtain ⟨x0, x1, x2, x3, x4, _⟩ := KE.five_
          clear c0' c1' c2' c3' c4' cf d0' d1' d2' d3' d4' df KE
          refine bodyPost_ret (v := .agg #[.int .i64 f, .int .i64 t, .int .i64 z', .int .i64 l, .slice (some ⟨wa.heap.size, 0, none⟩) 80 80]) ?_ rfl ⟨_, _, _, _, (some ⟨wa.heap.size, 0, none⟩), 80, 80, (List.replicate 80 0), rfl, by omega, by omega, (by unfold maxLen; omega), (fun z hz => by have := (List.mem_replicate.1 hz).2; omega), own_more RE (by omega), DE.more (by omega)⟩
          simp [results, Try.results41, go_sem, x0, x1, x2, x3, x4]
      · skip
        clear c0' c1' c2' c3' c4' cf
        go_wp2_with fail
        have D8 := D7.alloc (.cells #[.int .i64 (-1), .int .i64 65] 3)
        have K8 := K7.alloc (.cells #[.int .i64 (-1), .int .i64 65] 3)
        have Q8 := Q7.alloc (.cells #[.int .i64 (-1), .int .i64 65] 3)
        have R8 := R7.alloc (.cells #[.int .i64 (-1), .int .i64 65] 3)
        have B8 := Blk.new w6 3 #[.int .i64 (-1), .int .i64 65]
        have hs6 := D7.size_
        refine (pick_any _ _ _ _ D8.rd (by omega) (by omega) (by omega)).mono ?_
        rintro e w7 ⟨z, a7, b7, rfl, hr7, hg7⟩
        have D9 := D8.picked hr7 hg7
        have K9 := K8.picked hg7 hlt
        have Q9 := Q8.picked hg7 hgq
        have R9 := own_picked R8 hg7 (by omega)
        have B9 := B8.picked hg7 (by omega)
        obtain ⟨i0, i1, _⟩ := B9.two
        obtain ⟨z', hz'⟩ : ∃ z' : Int, w7.cell? ⟨w6.heap.size, z.toNat, none⟩ = some (.int .i64 z') := by
          have hc : z = 0 ∨ z = 1 := by omega
          rcases hc with rfl | rfl
          · exact ⟨_, i0⟩
          · exact ⟨_, i1⟩
        replace b7 : z < 2 := by omega
        clear D7 K7 Q7 R7 D8 K8 Q8 R8 B8 B9 hr7 hg7 i0 i1
        obtain ⟨c0', c1', c2', c3', c4', cf⟩ := Q9.five_
        go_wp2_with fail
        have D8 := D9.setCell (p := ⟨q, 3, none⟩) hq0 (.int .i64 z')
        have K8 := K9.far (p := ⟨q, 3, none⟩) hwq (.int .i64 z')
        have R8 := own_set (i := 3) R9 (own_ne R9 Q9 (by decide)) (.int .i64 z')
        have Q8 := Q9.set_ 3 (.int .i64 z')
        obtain ⟨w8, hw8⟩ : ∃ w8, w8 = w7.setCell ⟨q, 3, none⟩ (.int .i64 z') := ⟨_, rfl⟩
        rw [← hw8] at D8 K8 Q8 R8 ⊢
        clear hw8 D9 K9 Q9 R9 c0' c1' c2' c3' c4' cf
        go_wp2_with fail
        refine (odd_any _ _ _ _ D8.rd (by omega) (by omega) (by omega)).mono ?_
        rintro e wa ⟨b, rfl, hra, hga⟩
        have Da := D8.picked hra hga
        have Ka := K8.picked hga hlt
        have Qa := Q8.picked hga hgq
        have Ra := own_picked R8 hga (by omega)
        clear D8 K8 Q8 R8 hra hga
        rcases b
        · skip
          obtain ⟨c0', c1', c2', c3', c4', cf⟩ := Qa.five_
          obtain ⟨d0', d1', d2', d3', d4', df⟩ := Ka.five_
          go_wp2
          have KE := Ka.setFive (.int .i64 f) (.int .i64 t) (.int .i64 k) (.int .i64 z') (.slice A n0 c0)
          have DE := Da.setFive (Nat.le_refl _) (.int .i64 f) (.int .i64 t) (.int .i64 k) (.int .i64 z') (.slice A n0 c0)
          have RE := own_set5 Ra (own_ne Ra Ka (by decide)) (.int .i64 f) (.int .i64 t) (.int .i64 k) (.int .i64 z') (.slice A n0 c0)
          obtain ⟨x0, x1, x2, x3, x4, _⟩ := KE.five_
          clear c0' c1' c2' c3' c4' cf d0' d1' d2' d3' d4' df KE
          refine bodyPost_ret (v := .agg #[.int .i64 f, .int .i64 t, .int .i64 k, .int .i64 z', .slice A n0 c0]) ?_ rfl ⟨_, _, _, _, A, n0, c0, zs, rfl, by omega, by omega, y3, y4, own_more RE (by omega), DE.more (by omega)⟩
          simp [results, Try.results41, go_sem, x0, x1, x2, x3, x4]
        · skip
          have ownm := own_more (own_made wa (.int .u8 0) 5 80 (by unfold maxLen; omega)) Da.size_
          have Dm := Da.alloc (.cells (madeCells #[.int .u8 0] 80) 5)
          have Km := Ka.alloc (.cells (madeCells #[.int .u8 0] 80) 5)
          have Qm := Qa.alloc (.cells (madeCells #[.int .u8 0] 80) 5)
          rw [show List.replicate 80 (Value.int .u8 0) = (List.replicate 80 (0 : Int)).map (Value.int .u8) from by simp] at ownm
          obtain ⟨wm, hwm⟩ : ∃ wm, wa.alloc (.cells (madeCells #[.int .u8 0] 80) 5) = wm := ⟨_, rfl⟩
          have hmk6 : (Instr.makeSlice 22 (.int .i64 80) (.int .i64 80)).run Try.prog wa = .ok (.slice (some ⟨wa.heap.size, 0, none⟩) 80 80) wm := by
            have := hmk 80 (by omega) wa
            rw [hwm] at this
            exact this
          rw [hwm] at ownm Dm Km Qm
          clear hwm hmk Da Ka Qa Ra
          have hwa := wa.heap.size
          have KM := Km.far (p := ⟨q, 4, none⟩) hwq (.slice (some ⟨wa.heap.size, 0, none⟩) 80 80)
          have DM := Dm.setCell (p := ⟨q, 4, none⟩) hq0 (.slice (some ⟨wa.heap.size, 0, none⟩) 80 80)
          have RM := own_set (i := 4) ownm (own_ne ownm Qm (by decide)) (.slice (some ⟨wa.heap.size, 0, none⟩) 80 80)
          obtain ⟨c0', c1', c2', c3', c4', cf⟩ := Qm.five_
          obtain ⟨d0', d1', d2', d3', d4', df⟩ := Km.five_
          go_wp2
          have KE := KM.setFive (.int .i64 f) (.int .i64 t) (.int .i64 k) (.int .i64 z') (.slice (some ⟨wa.heap.size, 0, none⟩) 80 80)
          have DE := DM.setFive (Nat.le_refl _) (.int .i64 f) (.int .i64 t) (.int .i64 k) (.int .i64 z') (.slice (some ⟨wa.heap.size, 0, none⟩) 80 80)
          have RE := own_set5 RM (own_ne RM KM (by decide)) (.int .i64 f) (.int .i64 t) (.int .i64 k) (.int .i64 z') (.slice (some ⟨wa.heap.size, 0, none⟩) 80 80)
          obtain ⟨x0, x1, x2, x3, x4, _⟩ := KE.five_
          clear c0' c1' c2' c3' c4' cf d0' d1' d2' d3' d4' df KE
          refine bodyPost_ret (v := .agg #[.int .i64 f, .int .i64 t, .int .i64 k, .int .i64 z', .slice (some ⟨wa.heap.size, 0, none⟩) 80 80]) ?_ rfl ⟨_, _, _, _, (some ⟨wa.heap.size, 0, none⟩), 80, 80, (List.replicate 80 0), rfl, by omega, by omega, (by unfold maxLen; omega), (fun z hz => by have := (List.mem_replicate.1 hz).2; omega), own_more RE (by omega), DE.more (by omega)⟩
          simp [results, Try.results41, go_sem, x0, x1, x2, x3, x4]
      · skip
        clear c0' c1' c2' c3' c4' cf
        have ownm := own_more (own_made w6 (.int .u8 0) 5 81 (by unfold maxLen; omega)) D7.size_
        have Dm := D7.alloc (.cells (madeCells #[.int .u8 0] 81) 5)
        have Km := K7.alloc (.cells (madeCells #[.int .u8 0] 81) 5)
        have Qm := Q7.alloc (.cells (madeCells #[.int .u8 0] 81) 5)
        rw [show List.replicate 81 (Value.int .u8 0) = (List.replicate 81 (0 : Int)).map (Value.int .u8) from by simp] at ownm
        obtain ⟨wm, hwm⟩ : ∃ wm, w6.alloc (.cells (madeCells #[.int .u8 0] 81) 5) = wm := ⟨_, rfl⟩
        have hmk6 : (Instr.makeSlice 22 (.int .i64 81) (.int .i64 81)).run Try.prog w6 = .ok (.slice (some ⟨w6.heap.size, 0, none⟩) 81 81) wm := by
          have := hmk 81 (by omega) w6
          rw [hwm] at this
          exact this
        rw [hwm] at ownm Dm Km Qm
        clear hwm hmk D7 K7 Q7 R7
        obtain ⟨c0', c1', c2', c3', c4', cf⟩ := Qm.five_
        have hmk := hmk0.out
        go_wp2_with fail
        have D8 := Dm.setCell (p := ⟨q, 4, none⟩) hq0 (.slice (some ⟨w6.heap.size, 0, none⟩) 81 81)
        have K8 := Km.far (p := ⟨q, 4, none⟩) hwq (.slice (some ⟨w6.heap.size, 0, none⟩) 81 81)
        have R8 := own_set (i := 4) ownm (own_ne ownm Qm (by decide)) (.slice (some ⟨w6.heap.size, 0, none⟩) 81 81)
        have Q8 := Qm.set_ 4 (.slice (some ⟨w6.heap.size, 0, none⟩) 81 81)
        obtain ⟨w8, hw8⟩ : ∃ w8, w8 = wm.setCell ⟨q, 4, none⟩ (.slice (some ⟨w6.heap.size, 0, none⟩) 81 81) := ⟨_, rfl⟩
        rw [← hw8] at D8 K8 Q8 R8 ⊢
        clear hw8 Dm Km Qm ownm c0' c1' c2' c3' c4' cf
        go_wp2_with fail
        refine (odd_any _ _ _ _ D8.rd (by omega) (by omega) (by omega)).mono ?_
        rintro e wa ⟨b, rfl, hra, hga⟩
        have Da := D8.picked hra hga
        have Ka := K8.picked hga hlt
        have Qa := Q8.picked hga hgq
        have Ra := own_picked R8 hga (by omega)
        clear D8 K8 Q8 R8 hra hga
        rcases b
        · skip
          obtain ⟨c0', c1', c2', c3', c4', cf⟩ := Qa.five_
          obtain ⟨d0', d1', d2', d3', d4', df⟩ := Ka.five_
          go_wp2
          have KE := Ka.setFive (.int .i64 f) (.int .i64 t) (.int .i64 k) (.int .i64 l) (.slice (some ⟨w6.heap.size, 0, none⟩) 81 81)
          have DE := Da.setFive (Nat.le_refl _) (.int .i64 f) (.int .i64 t) (.int .i64 k) (.int .i64 l) (.slice (some ⟨w6.heap.size, 0, none⟩) 81 81)
          have RE := own_set5 Ra (own_ne Ra Ka (by decide)) (.int .i64 f) (.int .i64 t) (.int .i64 k) (.int .i64 l) (.slice (some ⟨w6.heap.size, 0, none⟩) 81 81)
          obtain ⟨x0, x1, x2, x3, x4, _⟩ := KE.five_
          clear c0' c1' c2' c3' c4' cf d0' d1' d2' d3' d4' df KE
          refine bodyPost_ret (v := .agg #[.int .i64 f, .int .i64 t, .int .i64 k, .int .i64 l, .slice (some ⟨w6.heap.size, 0, none⟩) 81 81]) ?_ rfl ⟨_, _, _, _, (some ⟨w6.heap.size, 0, none⟩), 81, 81, (List.replicate 81 0), rfl, by omega, by omega, (by unfold maxLen; omega), (fun z hz => by have := (List.mem_replicate.1 hz).2; omega), own_more RE (by omega), DE.more (by omega)⟩
          simp [results, Try.results41, go_sem, x0, x1, x2, x3, x4]
        · skip
          have ownm := own_more (own_made wa (.int .u8 0) 5 80 (by unfold maxLen; omega)) Da.size_
          have Dm := Da.alloc (.cells (madeCells #[.int .u8 0] 80) 5)
          have Km := Ka.alloc (.cells (madeCells #[.int .u8 0] 80) 5)
          have Qm := Qa.alloc (.cells (madeCells #[.int .u8 0] 80) 5)
          rw [show List.replicate 80 (Value.int .u8 0) = (List.replicate 80 (0 : Int)).map (Value.int .u8) from by simp] at ownm
          obtain ⟨wm, hwm⟩ : ∃ wm, wa.alloc (.cells (madeCells #[.int .u8 0] 80) 5) = wm := ⟨_, rfl⟩
          have hmk6 : (Instr.makeSlice 22 (.int .i64 80) (.int .i64 80)).run Try.prog wa = .ok (.slice (some ⟨wa.heap.size, 0, none⟩) 80 80) wm := by
            have := hmk 80 (by omega) wa
            rw [hwm] at this
            exact this
          rw [hwm] at ownm Dm Km Qm
          clear hwm hmk Da Ka Qa Ra
          have hwa := wa.heap.size
          have KM := Km.far (p := ⟨q, 4, none⟩) hwq (.slice (some ⟨wa.heap.size, 0, none⟩) 80 80)
          have DM := Dm.setCell (p := ⟨q, 4, none⟩) hq0 (.slice (some ⟨wa.heap.size, 0, none⟩) 80 80)
          have RM := own_set (i := 4) ownm (own_ne ownm Qm (by decide)) (.slice (some ⟨wa.heap.size, 0, none⟩) 80 80)
          obtain ⟨c0', c1', c2', c3', c4', cf⟩ := Qm.five_
          obtain ⟨d0', d1', d2', d3', d4', df⟩ := Km.five_
          go_wp2
          have KE := KM.setFive (.int .i64 f) (.int .i64 t) (.int .i64 k) (.int .i64 l) (.slice (some ⟨wa.heap.size, 0, none⟩) 80 80)
          have DE := DM.setFive (Nat.le_refl _) (.int .i64 f) (.int .i64 t) (.int .i64 k) (.int .i64 l) (.slice (some ⟨wa.heap.size, 0, none⟩) 80 80)
          have RE := own_set5 RM (own_ne RM KM (by decide)) (.int .i64 f) (.int .i64 t) (.int .i64 k) (.int .i64 l) (.slice (some ⟨wa.heap.size, 0, none⟩) 80 80)
          obtain ⟨x0, x1, x2, x3, x4, _⟩ := KE.five_
          clear c0' c1' c2' c3' c4' cf d0' d1' d2' d3' d4' df KE
          refine bodyPost_ret (v := .agg #[.int .i64 f, .int .i64 t, .int .i64 k, .int .i64 l, .slice (some ⟨wa.heap.size, 0, none⟩) 80 80]) ?_ rfl ⟨_, _, _, _, (some ⟨wa.heap.size, 0, none⟩), 80, 80, (List.replicate 80 0), rfl, by omega, by omega, (by unfold maxLen; omega), (fun z hz => by have := (List.mem_replicate.1 hz).2; omega), own_more RE (by omega), DE.more (by omega)⟩
          simp [results, Try.results41, go_sem, x0, x1, x2, x3, x4]
end Go.Proofs.Ytleammkpfknngaa
