/-
  l20Flow: a flow drawn by a reader.
-/
import Derived.Test.YtgdcfhifiincaaaTMore
import Derived.Test.YtgdcfhifiincaaaDrawPool
namespace Go.Proofs.Ytgdcfhifiincaaa
open Go.RowKit
set_option linter.unusedVariables false

theorem Dw.setCell {W w : World} {g P : Nat} (h : Dw W g P w) {p : Addr} (hp : W.heap.size ≤ p.block) (u : Value) : Dw W g P (w.setCell p u) :=
  h.below ((Below.refl W.heap.size w).setCell hp u) (Nat.le_refl _)
/-- A draw hands back a flow. -/
def DrewFlow (W : World) (g P : Nat) (e : Ending) (w' : World) : Prop :=
  ∃ a b c d k : Int, e = .returned (.agg #[.int .i64 a, .int .i64 b, .int .i64 c, .int .i64 d, .int .i64 k]) ∧ Dw W g P w'

theorem built_flow (zs : List Int) (h : zs.length = 5) : Try.prog.built 54 (((zs.map (Value.int .i64)).zipIdx 0).map fun x => (x.2, x.1)) = some (zs.map (Value.int .i64)).toArray := by
  obtain ⟨a, b, c, d, e, rfl⟩ : ∃ a b c d e, zs = [a, b, c, d, e] := by
    match zs, h with
    | [a, b, c, d, e], _ => exact ⟨a, b, c, d, e, rfl⟩
  kernel_rfl
theorem infoF : (Try.prog.info? 54).map (fun i => (i.zero, i.size, i.bytes)) = some (some (.agg #[.int .i64 0, .int .i64 0, .int .i64 0, .int .i64 0, .int .i64 0]), 5, 40) := by kernel_rfl
theorem Blk.five_ {w : World} {g : Nat} {t : TypeId} {a b c d e : Value} (h : Blk w g t #[a, b, c, d, e]) : w.cell? ⟨g, 0, none⟩ = some a ∧ w.cell? ⟨g, 1, none⟩ = some b ∧ w.cell? ⟨g, 2, none⟩ = some c ∧ w.cell? ⟨g, 3, none⟩ = some d ∧ w.cell? ⟨g, 4, none⟩ = some e ∧ (∀ i, w.frozen? ⟨g, i, none⟩ = false) :=
  ⟨(h.cell 0).trans rfl, (h.cell 1).trans rfl, (h.cell 2).trans rfl, (h.cell 3).trans rfl, (h.cell 4).trans rfl, h.frozen⟩
theorem Blk.setFive {w : World} {g : Nat} {t : TypeId} {a b c d e : Value} (h : Blk w g t #[a, b, c, d, e]) (x0 x1 x2 x3 x4 : Value) :
    Blk (((((w.setCell ⟨g, 0, none⟩ x0).setCell ⟨g, 1, none⟩ x1).setCell ⟨g, 2, none⟩ x2).setCell ⟨g, 3, none⟩ x3).setCell ⟨g, 4, none⟩ x4) g t #[x0, x1, x2, x3, x4] := ((((h.set_ 0 x0).set_ 1 x1).set_ 2 x2).set_ 3 x3).set_ 4 x4
theorem Dw.setFive {W w : World} {g P k : Nat} (h : Dw W g P w) (hk : W.heap.size ≤ k) (x0 x1 x2 x3 x4 : Value) :
    Dw W g P (((((w.setCell ⟨k, 0, none⟩ x0).setCell ⟨k, 1, none⟩ x1).setCell ⟨k, 2, none⟩ x2).setCell ⟨k, 3, none⟩ x3).setCell ⟨k, 4, none⟩ x4) := ((((h.setCell hk x0).setCell hk x1).setCell hk x2).setCell hk x3).setCell hk x4

set_option maxRecDepth 10000 in
set_option maxHeartbeats 1600000 in
theorem flow_any (g P : Nat) (n : Int) (w : World) (h : Rd w g P) (hP : P ≤ 90000000) (hn : 0 ≤ n) (hn' : n ≤ 1000) :
    Calls Try.prog 62 #[.pointer (some ⟨g, 0, none⟩), .int .i64 n] w (DrewFlow w g (P + 3000)) := by
  have D := Dw.start h
  have hlt := D.lt
  go_enter Try.func62, Try.ntmps62
  go_wp2_with fail
  have D0 := D.alloc (.cells #[.int .i64 0, .int .i64 0, .int .i64 0, .int .i64 0, .int .i64 0] 54)
  have K0 := Blk.new w 54 #[.int .i64 0, .int .i64 0, .int .i64 0, .int .i64 0, .int .i64 0]
  obtain ⟨w0, hw0⟩ : ∃ w0, w0 = w.alloc (.cells #[.int .i64 0, .int .i64 0, .int .i64 0, .int .i64 0, .int .i64 0] 54) := ⟨_, rfl⟩
  have hz0 : w0.heap.size = w.heap.size + 1 := by rw [hw0]; simp
  rw [← hw0] at D0 K0 ⊢
  clear hw0
  have hrd : Rd w0.drew g (P + 100 * 0) := D0.rd
  obtain ⟨ii64, tii, tzi64, tsi64, _⟩ := info_parts infoI
  obtain ⟨iF0, iF, tzF, tsF0, _⟩ := info_parts infoF
  have tsF : (Value.agg #[.int .i64 0, .int .i64 0, .int .i64 0, .int .i64 0, .int .i64 0]).cells.size = 5 := by kernel_rfl
  refine wp_region_typed (by kernel_rfl) (tsOf [(0, .pointer (some ⟨g, 0, none⟩))] [(6, tLit (.pointer (some ⟨g, 0, none⟩))), (7, tInt .i64 0 3), (8, tLit (.pointer (some ⟨g, 0, none⟩))), (9, tInt .i64 0 255), (10, tRow w0.heap.size 3 (tInt .i64 0 443)), (11, tLit (.pointer (some ⟨g, 0, none⟩))), (12, tInt .i64 0 2), (13, tAt w0.heap.size (tInt .i64 0 443)), (14, tInt .i64 0 443), (15, tLit (.pointer (some ⟨g, 0, none⟩))), (16, tInt .i64 0 3), (17, tRow w0.heap.size 2 (tInt .i64 0 255)), (18, tLit (.pointer (some ⟨g, 0, none⟩))), (19, tInt .i64 0 5), (20, tInt .i64 0 1), (21, tAt w0.heap.size (tInt .i64 0 255)), (22, tInt .i64 0 255), (23, tRow w0.heap.size 2 (tInt .i64 80 999)), (24, tLit (.pointer (some ⟨g, 0, none⟩))), (25, tInt .i64 0 5), (26, tInt .i64 0 1), (27, tAt w0.heap.size (tInt .i64 80 999)), (28, tInt .i64 80 999), (29, tLit (.pointer (some ⟨g, 0, none⟩))), (30, tInt .i64 0 1), (31, tInt .i64 1 2), (32, tAgg 5 (-1) 1000), (5, tNew w0.heap.size 54 5)]) (fun _ _ => True) (Gd w0 g (P) (· = g) (fun _ => True)) 28 29 rfl [some 6, some 7, some 8, some 9, some 10, some 11, some 12, some 13, some 14, some 15, some 16, some 17, some 18, some 19, some 20, some 21, some 22, some 23, some 24, some 25, some 26, some 27, some 28, some 29, some 30, some 31, some 32, some 5] (by kernel_rfl) (by kernel_rfl) rfl (fun _ _ _ h hg => Gd.more _ _ _ h hg) ⟨hrd, (GrF.refl _ _).drew, rfl, trivial⟩ (ts_old (by intro x hx; simp only [List.mem_cons, List.not_mem_nil, or_false] at hx; rcases hx with rfl <;> rfl) (by kernel_rfl)) ?_ ?_
  · obtain ⟨TS, hTS⟩ : ∃ TS, TS = tsOf [(0, .pointer (some ⟨g, 0, none⟩))] [(6, tLit (.pointer (some ⟨g, 0, none⟩))), (7, tInt .i64 0 3), (8, tLit (.pointer (some ⟨g, 0, none⟩))), (9, tInt .i64 0 255), (10, tRow w0.heap.size 3 (tInt .i64 0 443)), (11, tLit (.pointer (some ⟨g, 0, none⟩))), (12, tInt .i64 0 2), (13, tAt w0.heap.size (tInt .i64 0 443)), (14, tInt .i64 0 443), (15, tLit (.pointer (some ⟨g, 0, none⟩))), (16, tInt .i64 0 3), (17, tRow w0.heap.size 2 (tInt .i64 0 255)), (18, tLit (.pointer (some ⟨g, 0, none⟩))), (19, tInt .i64 0 5), (20, tInt .i64 0 1), (21, tAt w0.heap.size (tInt .i64 0 255)), (22, tInt .i64 0 255), (23, tRow w0.heap.size 2 (tInt .i64 80 999)), (24, tLit (.pointer (some ⟨g, 0, none⟩))), (25, tInt .i64 0 5), (26, tInt .i64 0 1), (27, tAt w0.heap.size (tInt .i64 80 999)), (28, tInt .i64 80 999), (29, tLit (.pointer (some ⟨g, 0, none⟩))), (30, tInt .i64 0 1), (31, tInt .i64 1 2), (32, tAgg 5 (-1) 1000), (5, tNew w0.heap.size 54 5)] := ⟨_, rfl⟩
    rw [← hTS]
    have hst : ∀ s, Stab w0.heap.size (TS s) := fun s => by rw [hTS]; exact stab_ts (by exact ⟨stab_lit _, stab_int _ _ _, stab_lit _, stab_int _ _ _, stab_row (stab_int _ _ _), stab_lit _, stab_int _ _ _, stab_at (stab_int _ _ _), stab_int _ _ _, stab_lit _, stab_int _ _ _, stab_row (stab_int _ _ _), stab_lit _, stab_int _ _ _, stab_int _ _ _, stab_at (stab_int _ _ _), stab_int _ _ _, stab_row (stab_int _ _ _), stab_lit _, stab_int _ _ _, stab_int _ _ _, stab_at (stab_int _ _ _), stab_int _ _ _, stab_lit _, stab_int _ _ _, stab_int _ _ _, stab_agg, stab_new, trivial⟩) s
    have T0 : TS 0 = tLit (.pointer (some ⟨g, 0, none⟩)) := by rw [hTS]; rfl
    have T6 : TS 6 = tLit (.pointer (some ⟨g, 0, none⟩)) := by rw [hTS]; rfl
    have T7 : TS 7 = tInt .i64 0 3 := by rw [hTS]; rfl
    have T8 : TS 8 = tLit (.pointer (some ⟨g, 0, none⟩)) := by rw [hTS]; rfl
    have T9 : TS 9 = tInt .i64 0 255 := by rw [hTS]; rfl
    have T10 : TS 10 = tRow w0.heap.size 3 (tInt .i64 0 443) := by rw [hTS]; rfl
    have T11 : TS 11 = tLit (.pointer (some ⟨g, 0, none⟩)) := by rw [hTS]; rfl
    have T12 : TS 12 = tInt .i64 0 2 := by rw [hTS]; rfl
    have T13 : TS 13 = tAt w0.heap.size (tInt .i64 0 443) := by rw [hTS]; rfl
    have T14 : TS 14 = tInt .i64 0 443 := by rw [hTS]; rfl
    have T15 : TS 15 = tLit (.pointer (some ⟨g, 0, none⟩)) := by rw [hTS]; rfl
    have T16 : TS 16 = tInt .i64 0 3 := by rw [hTS]; rfl
    have T17 : TS 17 = tRow w0.heap.size 2 (tInt .i64 0 255) := by rw [hTS]; rfl
    have T18 : TS 18 = tLit (.pointer (some ⟨g, 0, none⟩)) := by rw [hTS]; rfl
    have T19 : TS 19 = tInt .i64 0 5 := by rw [hTS]; rfl
    have T20 : TS 20 = tInt .i64 0 1 := by rw [hTS]; rfl
    have T21 : TS 21 = tAt w0.heap.size (tInt .i64 0 255) := by rw [hTS]; rfl
    have T22 : TS 22 = tInt .i64 0 255 := by rw [hTS]; rfl
    have T23 : TS 23 = tRow w0.heap.size 2 (tInt .i64 80 999) := by rw [hTS]; rfl
    have T24 : TS 24 = tLit (.pointer (some ⟨g, 0, none⟩)) := by rw [hTS]; rfl
    have T25 : TS 25 = tInt .i64 0 5 := by rw [hTS]; rfl
    have T26 : TS 26 = tInt .i64 0 1 := by rw [hTS]; rfl
    have T27 : TS 27 = tAt w0.heap.size (tInt .i64 80 999) := by rw [hTS]; rfl
    have T28 : TS 28 = tInt .i64 80 999 := by rw [hTS]; rfl
    have T29 : TS 29 = tLit (.pointer (some ⟨g, 0, none⟩)) := by rw [hTS]; rfl
    have T30 : TS 30 = tInt .i64 0 1 := by rw [hTS]; rfl
    have T31 : TS 31 = tInt .i64 1 2 := by rw [hTS]; rfl
    have T32 : TS 32 = tAgg 5 (-1) 1000 := by rw [hTS]; rfl
    have T5 : TS 5 = tNew w0.heap.size 54 5 := by rw [hTS]; rfl
    have C : Ctx Try.prog g (P) w0.heap.size 29 (· = g) (fun _ => True) TS (fun _ _ => True) := ⟨hrd.lt, rfl, by omega, hst, fun _ _ _ _ h => h, fun _ _ _ h => h⟩
    have hXi : ∀ w : World, True := fun _ => trivial
    clear hst hTS
    exact ⟨t_move C hXi (ot_tmp T0) T6,
    t_pick C hXi (ot_tmp T6) (ot_const (lo := 4) (hi := 4) (by omega) (by omega)) (by omega) (by omega) (by omega) T7,
    t_move C hXi (ot_tmp T0) T8,
    t_pick C hXi (ot_tmp T8) (ot_const (lo := 256) (hi := 256) (by omega) (by omega)) (by omega) (by omega) (by omega) T9,
    t_row C hXi [.const (.int .i64 80), .const (.int .i64 443), .tmp 9] Try.underlying28 tii tsi64 tzi64 rfl rfl (by omega) (by omega) int_one (stab_int _ _ _) ⟨(ot_const (by omega) (by omega)), (ot_const (by omega) (by omega)), ((ot_tmp T9).more (by omega) (by omega)), trivial⟩ (Nat.le_refl _) T10,
    t_move C hXi (ot_tmp T0) T11,
    t_pick C hXi (ot_tmp T11) (ot_const (lo := 3) (hi := 3) (by omega) (by omega)) (by omega) (by omega) (by omega) T12,
    t_index C hXi Try.underlying28 tii tsi64 (ot_tmp T10) (ot_tmp T12) (by omega) (by omega) T13,
    t_load C hXi Try.underlying3 rfl (ot_tmp T13) T14,
    t_move C hXi (ot_tmp T0) T15,
    t_pick C hXi (ot_tmp T15) (ot_const (lo := 4) (hi := 4) (by omega) (by omega)) (by omega) (by omega) (by omega) T16,
    t_row C hXi [.tmp 16, .const (.int .i64 255)] Try.underlying28 tii tsi64 tzi64 rfl rfl (by omega) (by omega) int_one (stab_int _ _ _) ⟨((ot_tmp T16).more (by omega) (by omega)), (ot_const (by omega) (by omega)), trivial⟩ (Nat.le_refl _) T17,
    t_move C hXi (ot_tmp T0) T18,
    t_pick C hXi (ot_tmp T18) (ot_const (lo := 6) (hi := 6) (by omega) (by omega)) (by omega) (by omega) (by omega) T19,
    t_quoc C hXi (ot_tmp T19) (by omega) (by omega) (by omega) (by omega) (by omega) T20,
    t_index C hXi Try.underlying28 tii tsi64 (ot_tmp T17) (ot_tmp T20) (by omega) (by omega) T21,
    t_load C hXi Try.underlying3 rfl (ot_tmp T21) T22,
    t_row C hXi [.const (.int .i64 80), .const (.int .i64 999)] Try.underlying28 tii tsi64 tzi64 rfl rfl (by omega) (by omega) int_one (stab_int _ _ _) ⟨(ot_const (by omega) (by omega)), (ot_const (by omega) (by omega)), trivial⟩ (Nat.le_refl _) T23,
    t_move C hXi (ot_tmp T0) T24,
    t_pick C hXi (ot_tmp T24) (ot_const (lo := 6) (hi := 6) (by omega) (by omega)) (by omega) (by omega) (by omega) T25,
    t_quoc C hXi (ot_tmp T25) (by omega) (by omega) (by omega) (by omega) (by omega) T26,
    t_index C hXi Try.underlying28 tii tsi64 (ot_tmp T23) (ot_tmp T26) (by omega) (by omega) T27,
    t_load C hXi Try.underlying3 rfl (ot_tmp T27) T28,
    t_move C hXi (ot_tmp T0) T29,
    t_pick C hXi (ot_tmp T29) (ot_const (lo := 2) (hi := 2) (by omega) (by omega)) (by omega) (by omega) (by omega) T30,
    t_add C hXi (ot_const (lo := 1) (hi := 1) (by omega) (by omega)) (ot_tmp T30) (by omega) (by omega) (by omega) (by omega) T31,
    t_agg C hXi [.tmp 7, .tmp 14, .tmp 22, .tmp 28, .tmp 31] rfl rfl built_flow ⟨((ot_tmp T7).more (by omega) (by omega)), ((ot_tmp T14).more (by omega) (by omega)), ((ot_tmp T22).more (by omega) (by omega)), ((ot_tmp T28).more (by omega) (by omega)), ((ot_tmp T31).more (by omega) (by omega)), trivial⟩ T32,
    t_new C hXi iF tzF tsF (Nat.le_refl _) T5,
    trivial⟩
  · intro vs w1 hG hty _ _
    obtain ⟨q, e5, hq0, cs, hcs, Q1⟩ := (show tNew w0.heap.size 54 5 (vs 5) w1 from hty 27 5 (by omega) (by omega) rfl)
    obtain ⟨zs, hzl, hzr, e32⟩ := (show tAgg 5 (-1) 1000 (vs 32) w1 from hty 26 32 (by omega) (by omega) rfl)
    obtain ⟨v1, v2, v3, v4, v5, rfl⟩ : ∃ a b c d e, zs = [a, b, c, d, e] := by
      match zs, hzl with
      | [a, b, c, d, e], _ => exact ⟨a, b, c, d, e, rfl⟩
    obtain ⟨y0, y1, y2, y3, y4, rfl⟩ : ∃ a b c d e, cs = #[a, b, c, d, e] := by
      obtain ⟨l⟩ := cs
      match l, hcs with
      | [a, b, c, d, e], _ => exact ⟨a, b, c, d, e, rfl⟩
    have D1 : Dw w g (P + 2900) w1 := (D0.picked hG.rdc hG.gr.to_grown).more (by omega)
    have K1 : Blk w1 w.heap.size 54 #[.int .i64 0, .int .i64 0, .int .i64 0, .int .i64 0, .int .i64 0] := (hG.gr.block _ K0.lt (by omega)).trans K0
    clear hty hzr
    have hgq : g < q := by omega
    have hwq : w.heap.size ≠ q := by omega
    have hqw : q ≠ w.heap.size := by omega
    have hq0 : w.heap.size ≤ q := by omega
    obtain ⟨c0, c1, c2, c3, c4, cf⟩ := Q1.five_
    simp only [putL, e5, e32]
    go_wp2_with fail
    have Q2 := Q1.setFive (.int .i64 v1) (.int .i64 v2) (.int .i64 v3) (.int .i64 v4) (.int .i64 v5)
    have D2 := D1.setFive hq0 (.int .i64 v1) (.int .i64 v2) (.int .i64 v3) (.int .i64 v4) (.int .i64 v5)
    have K2 := ((((K1.far (p := ⟨q, 0, none⟩) hwq (.int .i64 v1)).far (p := ⟨q, 1, none⟩) hwq (.int .i64 v2)).far (p := ⟨q, 2, none⟩) hwq (.int .i64 v3)).far (p := ⟨q, 3, none⟩) hwq (.int .i64 v4)).far (p := ⟨q, 4, none⟩) hwq (.int .i64 v5)
    obtain ⟨w2, hw2⟩ : ∃ w2, w2 = (((((w1.setCell ⟨q, 0, none⟩ (.int .i64 v1)).setCell ⟨q, 1, none⟩ (.int .i64 v2)).setCell ⟨q, 2, none⟩ (.int .i64 v3)).setCell ⟨q, 3, none⟩ (.int .i64 v4)).setCell ⟨q, 4, none⟩ (.int .i64 v5)) := ⟨_, rfl⟩
    rw [← hw2] at Q2 D2 K2 ⊢
    clear hw2 Q1 D1 K1 c0 c1 c2 c3 c4 cf hG hrd D0 K0 D h
    have hqr : ¬ w.heap.size = q := hwq
    have hrq : ¬ q = w.heap.size := hqw
    refine (odd_any _ _ _ _ D2.rd (by omega) (by omega) (by omega)).mono ?_
    rintro e w5 ⟨b, rfl, hr5, hg5⟩
    have D6 := D2.picked hr5 hg5
    have K6 := K2.picked hg5 hlt
    have Q6 := Q2.picked hg5 hgq
    clear D2 K2 Q2 hr5 hg5
    rcases b
    · skip
      obtain ⟨c0, c1, c2, c3, c4, cf⟩ := Q6.five_
      obtain ⟨d0, d1, d2, d3, d4, df⟩ := K6.five_
      go_wp2
      have KE := K6.setFive (.int .i64 v1) (.int .i64 v2) (.int .i64 v3) (.int .i64 v4) (.int .i64 v5)
      have DE := D6.setFive (Nat.le_refl _) (.int .i64 v1) (.int .i64 v2) (.int .i64 v3) (.int .i64 v4) (.int .i64 v5)
      obtain ⟨x0, x1, x2, x3, x4, _⟩ := KE.five_
      clear c0 c1 c2 c3 c4 cf d0 d1 d2 d3 d4 df KE
      refine bodyPost_ret (v := .agg #[.int .i64 v1, .int .i64 v2, .int .i64 v3, .int .i64 v4, .int .i64 v5]) ?_ rfl ⟨_, _, _, _, _, rfl, DE.more (by omega)⟩
      simp [results, Try.results62, go_sem, x0, x1, x2, x3, x4]
    · go_wp2_with fail
      refine (pick_any _ _ _ _ D6.rd (by omega) (by omega) (by omega)).mono ?_
      rintro e w6 ⟨v, a6, b6, rfl, hr6, hg6⟩
      have D7 := D6.picked hr6 hg6
      have K7 := K6.picked hg6 hlt
      have Q7 := Q6.picked hg6 hgq
      clear D6 K6 Q6 hr6 hg6
      have hcase : v = 0 ∨ v = 1 ∨ v = 2 ∨ v = 3 := by omega
      clear a6 b6
      rcases hcase with rfl | rfl | rfl | rfl
      · skip
        go_wp2_with fail
        have D8 := D7.alloc (.cells #[.int .i64 (-1), .int .i64 256] 3)
        have K8 := K7.alloc (.cells #[.int .i64 (-1), .int .i64 256] 3)
        have Q8 := Q7.alloc (.cells #[.int .i64 (-1), .int .i64 256] 3)
        have R8 := Blk.new w6 3 #[.int .i64 (-1), .int .i64 256]
        have hs6 := D7.size_
        refine (pick_any _ _ _ _ D8.rd (by omega) (by omega) (by omega)).mono ?_
        rintro e w7 ⟨z, a7, b7, rfl, hr7, hg7⟩
        have D9 := D8.picked hr7 hg7
        have K9 := K8.picked hg7 hlt
        have Q9 := Q8.picked hg7 hgq
        have R9 := R8.picked hg7 (by omega)
        obtain ⟨i0, i1, _⟩ := R9.two
        obtain ⟨z', hz'⟩ : ∃ z' : Int, w7.cell? ⟨w6.heap.size, z.toNat, none⟩ = some (.int .i64 z') := by
          have hc : z = 0 ∨ z = 1 := by omega
          rcases hc with rfl | rfl
          · exact ⟨_, i0⟩
          · exact ⟨_, i1⟩
        replace b7 : z < 2 := by omega
        clear D7 K7 Q7 D8 K8 Q8 R8 R9 hr7 hg7 i0 i1
        obtain ⟨c0, c1, c2, c3, c4, cf⟩ := Q9.five_
        obtain ⟨d0, d1, d2, d3, d4, df⟩ := K9.five_
        go_wp2
        have KE := (K9.far (p := ⟨q, 0, none⟩) hwq (.int .i64 z')).setFive (.int .i64 z') (.int .i64 v2) (.int .i64 v3) (.int .i64 v4) (.int .i64 v5)
        have DE := (D9.setCell (p := ⟨q, 0, none⟩) hq0 (.int .i64 z')).setFive (Nat.le_refl _) (.int .i64 z') (.int .i64 v2) (.int .i64 v3) (.int .i64 v4) (.int .i64 v5)
        obtain ⟨x0, x1, x2, x3, x4, _⟩ := KE.five_
        clear c0 c1 c2 c3 c4 cf d0 d1 d2 d3 d4 df KE
        refine bodyPost_ret (v := .agg #[.int .i64 z', .int .i64 v2, .int .i64 v3, .int .i64 v4, .int .i64 v5]) ?_ rfl ⟨_, _, _, _, _, rfl, DE.more (by omega)⟩
        simp [results, Try.results62, go_sem, x0, x1, x2, x3, x4]
      · skip
        obtain ⟨c0, c1, c2, c3, c4, cf⟩ := Q7.five_
        obtain ⟨d0, d1, d2, d3, d4, df⟩ := K7.five_
        go_wp2
        have KE := (K7.far (p := ⟨q, 3, none⟩) hwq (.int .i64 1000)).setFive (.int .i64 v1) (.int .i64 v2) (.int .i64 v3) (.int .i64 1000) (.int .i64 v5)
        have DE := (D7.setCell (p := ⟨q, 3, none⟩) hq0 (.int .i64 1000)).setFive (Nat.le_refl _) (.int .i64 v1) (.int .i64 v2) (.int .i64 v3) (.int .i64 1000) (.int .i64 v5)
        obtain ⟨x0, x1, x2, x3, x4, _⟩ := KE.five_
        clear c0 c1 c2 c3 c4 cf d0 d1 d2 d3 d4 df KE
        refine bodyPost_ret (v := .agg #[.int .i64 v1, .int .i64 v2, .int .i64 v3, .int .i64 1000, .int .i64 v5]) ?_ rfl ⟨_, _, _, _, _, rfl, DE.more (by omega)⟩
        simp [results, Try.results62, go_sem, x0, x1, x2, x3, x4]
      · skip
        go_wp2_with fail
        have D8 := D7.alloc (.cells #[.int .i64 0, .int .i64 3] 3)
        have K8 := K7.alloc (.cells #[.int .i64 0, .int .i64 3] 3)
        have Q8 := Q7.alloc (.cells #[.int .i64 0, .int .i64 3] 3)
        have R8 := Blk.new w6 3 #[.int .i64 0, .int .i64 3]
        have hs6 := D7.size_
        refine (pick_any _ _ _ _ D8.rd (by omega) (by omega) (by omega)).mono ?_
        rintro e w7 ⟨z, a7, b7, rfl, hr7, hg7⟩
        have D9 := D8.picked hr7 hg7
        have K9 := K8.picked hg7 hlt
        have Q9 := Q8.picked hg7 hgq
        have R9 := R8.picked hg7 (by omega)
        obtain ⟨i0, i1, _⟩ := R9.two
        obtain ⟨z', hz'⟩ : ∃ z' : Int, w7.cell? ⟨w6.heap.size, z.toNat, none⟩ = some (.int .i64 z') := by
          have hc : z = 0 ∨ z = 1 := by omega
          rcases hc with rfl | rfl
          · exact ⟨_, i0⟩
          · exact ⟨_, i1⟩
        replace b7 : z < 2 := by omega
        clear D7 K7 Q7 D8 K8 Q8 R8 R9 hr7 hg7 i0 i1
        obtain ⟨c0, c1, c2, c3, c4, cf⟩ := Q9.five_
        obtain ⟨d0, d1, d2, d3, d4, df⟩ := K9.five_
        go_wp2
        have KE := (K9.far (p := ⟨q, 4, none⟩) hwq (.int .i64 z')).setFive (.int .i64 v1) (.int .i64 v2) (.int .i64 v3) (.int .i64 v4) (.int .i64 z')
        have DE := (D9.setCell (p := ⟨q, 4, none⟩) hq0 (.int .i64 z')).setFive (Nat.le_refl _) (.int .i64 v1) (.int .i64 v2) (.int .i64 v3) (.int .i64 v4) (.int .i64 z')
        obtain ⟨x0, x1, x2, x3, x4, _⟩ := KE.five_
        clear c0 c1 c2 c3 c4 cf d0 d1 d2 d3 d4 df KE
        refine bodyPost_ret (v := .agg #[.int .i64 v1, .int .i64 v2, .int .i64 v3, .int .i64 v4, .int .i64 z']) ?_ rfl ⟨_, _, _, _, _, rfl, DE.more (by omega)⟩
        simp [results, Try.results62, go_sem, x0, x1, x2, x3, x4]
      · skip
        obtain ⟨c0, c1, c2, c3, c4, cf⟩ := Q7.five_
        obtain ⟨d0, d1, d2, d3, d4, df⟩ := K7.five_
        go_wp2
        have KE := (K7.far (p := ⟨q, 2, none⟩) hwq (.int .i64 (-1))).setFive (.int .i64 v1) (.int .i64 v2) (.int .i64 (-1)) (.int .i64 v4) (.int .i64 v5)
        have DE := (D7.setCell (p := ⟨q, 2, none⟩) hq0 (.int .i64 (-1))).setFive (Nat.le_refl _) (.int .i64 v1) (.int .i64 v2) (.int .i64 (-1)) (.int .i64 v4) (.int .i64 v5)
        obtain ⟨x0, x1, x2, x3, x4, _⟩ := KE.five_
        clear c0 c1 c2 c3 c4 cf d0 d1 d2 d3 d4 df KE
        refine bodyPost_ret (v := .agg #[.int .i64 v1, .int .i64 v2, .int .i64 (-1), .int .i64 v4, .int .i64 v5]) ?_ rfl ⟨_, _, _, _, _, rfl, DE.more (by omega)⟩
        simp [results, Try.results62, go_sem, x0, x1, x2, x3, x4]
end Go.Proofs.Ytgdcfhifiincaaa
