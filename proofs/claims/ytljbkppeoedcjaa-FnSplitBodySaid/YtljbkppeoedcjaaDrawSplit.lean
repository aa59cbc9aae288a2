/-
  DrawSplitBody: bytes and a size.
-/
import Derived.Test.YtljbkppeoedcjaaTMore
import Derived.Test.YtljbkppeoedcjaaDrawBytes
namespace Go.Proofs.Ytljbkppeoedcjaa
open Go.RowKit
set_option linter.unusedVariables false

def DrawnSplit (W : World) (e : Ending) (w' : World) : Prop :=
  ∃ (A : Option Addr) (n c : Nat) (zs : List Int) (sz : Int), e = .returned (.tuple #[.slice A n c, .int .i64 sz]) ∧ (n ≤ 81 ∧ n ≤ c ∧ c ≤ maxLen ∧ AllByte zs) ∧ 0 ≤ sz ∧ sz ≤ 41 ∧ Sl w' W.heap.size w'.heap.size 1 A n (zs.map (Value.int .u8)) ∧ Below W.heap.size W w'

set_option maxRecDepth 10000 in
set_option maxHeartbeats 1600000 in
theorem drawSplitBody_any (A : Option Addr) (n c : Nat) (zs : List Int) (w : World) (hs : Sl w 0 w.heap.size 1 A n (zs.map (Value.int .u8))) (hnc : n ≤ c) (hc : c ≤ 9223372036854775807) (hz : AllByte zs) :
    Calls Try.prog 15 #[.slice A n c] w (DrawnSplit w) := by
  have hmk : ∀ (j : Nat) (hj : j ≤ 100) (W : World), (Instr.makeSlice 22 (.int .i64 (j : Int)) (.int .i64 (j : Int))).run Try.prog W = .ok (.slice (some ⟨W.heap.size, 0, none⟩) j j) (W.alloc (.cells (madeCells #[.int .u8 0] j) 5)) := fun j hj W =>
    run_make_row' (P := Try.prog) 22 5 (.int .u8 0) 1 Try.underlying22 infoByte rfl .i64 .i64 j (by omega) (by omega) W
  have hmk0 := Lib.hid hmk
  clear hmk
  go_enter Try.func15, Try.ntmps15
  go_wp2_with fail
  refine (open_any _ _ _ zs _ hs hnc hc hz).mono ?_
  rintro e w1 ⟨g, hg, rfl, hr, b1⟩
  go_wp2_with fail
  refine (bytes_any g _ 30 _ hr (by omega) (by omega)).mono ?_
  rintro e w2 ⟨A2, n2, c2, ps, rfl, h1, h2, h3, h4, own2, D2⟩
  have hgB : g < w1.heap.size := D2.lt
  go_wp2_with fail
  refine (odd_any _ _ _ _ D2.rd (by omega) (by omega) (by omega)).mono ?_
  rintro e w3 ⟨b, rfl, hr3, hg3⟩
  have D3 := D2.picked hr3 hg3
  have own3 := own_picked own2 hg3 hgB
  clear D2 own2 hr3 hg3
  rcases b
  · go_wp2_with fail
    obtain ⟨P1, hP1⟩ : ∃ x, 90000 = x := ⟨_, rfl⟩
    have Dt := D3.more (show _ ≤ 90000 by omega)
    rw [hP1] at Dt
    have hrd : Rd w3.drew g (P1 + 100 * 0) := Dt.rd
    obtain ⟨ii64, tii, tzi64, tsi64, _⟩ := info_parts infoI
    refine wp_region_typed (by kernel_rfl) (tsOf [(4, .pointer (some ⟨g, 0, none⟩)), (5, .slice A2 n2 c2)] [(18, tLit (.slice A2 n2 c2)), (19, tLit (.pointer (some ⟨g, 0, none⟩))), (20, tInt .i64 0 8), (21, tInt .i64 1 9), (22, tRow w3.heap.size 4 (tInt .i64 0 41)), (23, tRow w3.heap.size 7 (tInt .i64 0 3)), (24, tLit (.pointer (some ⟨g, 0, none⟩))), (25, tInt .i64 0 6), (26, tAt w3.heap.size (tInt .i64 0 3)), (27, tInt .i64 0 3), (28, tAt w3.heap.size (tInt .i64 0 41)), (29, tInt .i64 0 41), (2, tLit (.slice A2 n2 c2)), (3, tInt .i64 0 41)]) (fun _ _ => True) (Gd w3 g (P1) (· = g) (fun _ => True)) 14 14 rfl [some 18, some 19, some 20, some 21, some 22, some 23, some 24, some 25, some 26, some 27, some 28, some 29, some 2, some 3] (by kernel_rfl) (by kernel_rfl) rfl (fun _ _ _ h hg => Gd.more _ _ _ h hg) ⟨hrd, (GrF.refl _ _).drew, rfl, trivial⟩ (ts_old (by intro x hx; simp only [List.mem_cons, List.not_mem_nil, or_false] at hx; rcases hx with rfl | rfl <;> rfl) (by kernel_rfl)) ?_ ?_
    · obtain ⟨TS, hTS⟩ : ∃ TS, TS = tsOf [(4, .pointer (some ⟨g, 0, none⟩)), (5, .slice A2 n2 c2)] [(18, tLit (.slice A2 n2 c2)), (19, tLit (.pointer (some ⟨g, 0, none⟩))), (20, tInt .i64 0 8), (21, tInt .i64 1 9), (22, tRow w3.heap.size 4 (tInt .i64 0 41)), (23, tRow w3.heap.size 7 (tInt .i64 0 3)), (24, tLit (.pointer (some ⟨g, 0, none⟩))), (25, tInt .i64 0 6), (26, tAt w3.heap.size (tInt .i64 0 3)), (27, tInt .i64 0 3), (28, tAt w3.heap.size (tInt .i64 0 41)), (29, tInt .i64 0 41), (2, tLit (.slice A2 n2 c2)), (3, tInt .i64 0 41)] := ⟨_, rfl⟩
      rw [← hTS]
      have hst : ∀ s, Stab w3.heap.size (TS s) := fun s => by rw [hTS]; exact stab_ts (by exact ⟨stab_lit _, stab_lit _, stab_int _ _ _, stab_int _ _ _, stab_row (stab_int _ _ _), stab_row (stab_int _ _ _), stab_lit _, stab_int _ _ _, stab_at (stab_int _ _ _), stab_int _ _ _, stab_at (stab_int _ _ _), stab_int _ _ _, stab_lit _, stab_int _ _ _, trivial⟩) s
      have T4 : TS 4 = tLit (.pointer (some ⟨g, 0, none⟩)) := by rw [hTS]; rfl
      have T5 : TS 5 = tLit (.slice A2 n2 c2) := by rw [hTS]; rfl
      have T18 : TS 18 = tLit (.slice A2 n2 c2) := by rw [hTS]; rfl
      have T19 : TS 19 = tLit (.pointer (some ⟨g, 0, none⟩)) := by rw [hTS]; rfl
      have T20 : TS 20 = tInt .i64 0 8 := by rw [hTS]; rfl
      have T21 : TS 21 = tInt .i64 1 9 := by rw [hTS]; rfl
      have T22 : TS 22 = tRow w3.heap.size 4 (tInt .i64 0 41) := by rw [hTS]; rfl
      have T23 : TS 23 = tRow w3.heap.size 7 (tInt .i64 0 3) := by rw [hTS]; rfl
      have T24 : TS 24 = tLit (.pointer (some ⟨g, 0, none⟩)) := by rw [hTS]; rfl
      have T25 : TS 25 = tInt .i64 0 6 := by rw [hTS]; rfl
      have T26 : TS 26 = tAt w3.heap.size (tInt .i64 0 3) := by rw [hTS]; rfl
      have T27 : TS 27 = tInt .i64 0 3 := by rw [hTS]; rfl
      have T28 : TS 28 = tAt w3.heap.size (tInt .i64 0 41) := by rw [hTS]; rfl
      have T29 : TS 29 = tInt .i64 0 41 := by rw [hTS]; rfl
      have T2 : TS 2 = tLit (.slice A2 n2 c2) := by rw [hTS]; rfl
      have T3 : TS 3 = tInt .i64 0 41 := by rw [hTS]; rfl
      have C : Ctx Try.prog g (P1) w3.heap.size 14 (· = g) (fun _ => True) TS (fun _ _ => True) := ⟨hrd.lt, rfl, by omega, hst, fun _ _ _ _ h => h, fun _ _ _ h => h⟩
      have hXi : ∀ w : World, True := fun _ => trivial
      clear hst hTS
      exact ⟨t_move C hXi (ot_tmp T5) T18,
        t_move C hXi (ot_tmp T4) T19,
        t_pick C hXi (ot_tmp T19) (ot_const (lo := 9) (hi := 9) (by omega) (by omega)) (by omega) (by omega) (by omega) T20,
        t_add C hXi (ot_const (lo := 1) (hi := 1) (by omega) (by omega)) (ot_tmp T20) (by omega) (by omega) (by omega) (by omega) T21,
        t_row C hXi [.tmp 21, .const (.int .i64 40), .const (.int .i64 0), .const (.int .i64 41)] Try.underlying50 tii tsi64 tzi64 rfl rfl (by omega) (by omega) int_one (stab_int _ _ _) ⟨((ot_tmp T21).more (by omega) (by omega)), (ot_const (by omega) (by omega)), (ot_const (by omega) (by omega)), (ot_const (by omega) (by omega)), trivial⟩ (Nat.le_refl _) T22,
        t_row C hXi [.const (.int .i64 0), .const (.int .i64 0), .const (.int .i64 0), .const (.int .i64 0), .const (.int .i64 1), .const (.int .i64 2), .const (.int .i64 3)] Try.underlying50 tii tsi64 tzi64 rfl rfl (by omega) (by omega) int_one (stab_int _ _ _) ⟨(ot_const (by omega) (by omega)), (ot_const (by omega) (by omega)), (ot_const (by omega) (by omega)), (ot_const (by omega) (by omega)), (ot_const (by omega) (by omega)), (ot_const (by omega) (by omega)), (ot_const (by omega) (by omega)), trivial⟩ (Nat.le_refl _) T23,
        t_move C hXi (ot_tmp T4) T24,
        t_pick C hXi (ot_tmp T24) (ot_const (lo := 7) (hi := 7) (by omega) (by omega)) (by omega) (by omega) (by omega) T25,
        t_index C hXi Try.underlying50 tii tsi64 (ot_tmp T23) (ot_tmp T25) (by omega) (by omega) T26,
        t_load C hXi Try.underlying3 rfl (ot_tmp T26) T27,
        t_index C hXi Try.underlying50 tii tsi64 (ot_tmp T22) (ot_tmp T27) (by omega) (by omega) T28,
        t_load C hXi Try.underlying3 rfl (ot_tmp T28) T29,
        t_assign C hXi (ot_tmp T18) T2,
        t_assign C hXi (ot_tmp T29) T3,
        trivial⟩
    · intro vs w' hG hty _ _
      have e2 : vs 2 = .slice A2 n2 c2 := (show tLit (.slice A2 n2 c2) (vs 2) w' from hty 12 2 (by omega) (by omega) rfl)
      obtain ⟨sz, s0, s1, e3⟩ := (show tInt .i64 0 41 (vs 3) w' from (show tInt .i64 0 41 (vs 3) w' from hty 13 3 (by omega) (by omega) rfl).more (by omega) (by omega))
      have Dw' : Dw w1 g (P1 + 2000) w' := (Dt.picked hG.rdc hG.gr.to_grown).more (by omega)
      have own' := own_picked own3 hG.gr.to_grown hgB
      have hb' := Dw'.out b1 hg
      clear hty
      refine wpList_nil ?_
      simp only [putL, e2, e3]
      go_wp2
      go_ret2
      exact ⟨A2, n2, c2, ps, sz, rfl, ⟨by omega, h2, h3, h4⟩, s0, s1, (Sl.of_own own').more (by have := b1.size; omega) (Nat.le_refl _), hb'⟩
  · go_wp2_with fail
    have D4 := D3.alloc (.cells #[.int .i64 80, .int .i64 81] 3)
    have B4 := Blk.new w3 3 #[.int .i64 80, .int .i64 81]
    have hs3 := D3.size_
    refine (pick_any _ _ _ _ D4.rd (by omega) (by omega) (by omega)).mono ?_
    rintro e w5 ⟨z, a5, b5, rfl, hr5, hg5⟩
    have D5 := D4.picked hr5 hg5
    have B5 := B4.grown hg5 (by intro he; injection he with he; omega)
    obtain ⟨i0, i1, _⟩ := B5.two
    obtain ⟨j, hj, hz'⟩ : ∃ j : Nat, j ≤ 81 ∧ w5.cell? ⟨w3.heap.size, z.toNat, none⟩ = some (.int .i64 (j : Int)) := by
      have hc : z = 0 ∨ z = 1 := by omega
      rcases hc with rfl | rfl
      · exact ⟨80, by omega, i0⟩
      · exact ⟨81, by omega, i1⟩
    replace b5 : z < 2 := by omega
    have hmk := fun W => hmk0.out j (by omega) W
    have ownm := own_more (own_made w5 (.int .u8 0) 5 j (by unfold maxLen; omega)) D5.size_
    have D6 := D5.alloc (.cells (madeCells #[.int .u8 0] j) 5)
    rw [show List.replicate j (Value.int .u8 0) = (List.replicate j (0 : Int)).map (Value.int .u8) from by simp] at ownm
    clear D3 D4 B4 B5 own3 hr5 hg5 i0 i1 ps h1 h2 h3 h4
    go_wp2_with fail
    generalize hw6 : w5.alloc (.cells (madeCells #[.int .u8 0] j) 5) = w6 at D6 ownm ⊢
    clear hw6 hmk hz' D5
    obtain ⟨q, hq⟩ : ∃ q, w5.heap.size = q := ⟨_, rfl⟩
    rw [hq] at ownm ⊢
    clear hq
    obtain ⟨P1, hP1⟩ : ∃ x, 90000 = x := ⟨_, rfl⟩
    have Dt := D6.more (show _ ≤ 90000 by omega)
    rw [hP1] at Dt
    have hrd : Rd w6.drew g (P1 + 100 * 0) := Dt.rd
    obtain ⟨ii64, tii, tzi64, tsi64, _⟩ := info_parts infoI
    refine wp_region_typed (by kernel_rfl) (tsOf [(4, .pointer (some ⟨g, 0, none⟩)), (5, .slice (some ⟨q, 0, none⟩) j j)] [(18, tLit (.slice (some ⟨q, 0, none⟩) j j)), (19, tLit (.pointer (some ⟨g, 0, none⟩))), (20, tInt .i64 0 8), (21, tInt .i64 1 9), (22, tRow w6.heap.size 4 (tInt .i64 0 41)), (23, tRow w6.heap.size 7 (tInt .i64 0 3)), (24, tLit (.pointer (some ⟨g, 0, none⟩))), (25, tInt .i64 0 6), (26, tAt w6.heap.size (tInt .i64 0 3)), (27, tInt .i64 0 3), (28, tAt w6.heap.size (tInt .i64 0 41)), (29, tInt .i64 0 41), (2, tLit (.slice (some ⟨q, 0, none⟩) j j)), (3, tInt .i64 0 41)]) (fun _ _ => True) (Gd w6 g (P1) (· = g) (fun _ => True)) 14 14 rfl [some 18, some 19, some 20, some 21, some 22, some 23, some 24, some 25, some 26, some 27, some 28, some 29, some 2, some 3] (by kernel_rfl) (by kernel_rfl) rfl (fun _ _ _ h hg => Gd.more _ _ _ h hg) ⟨hrd, (GrF.refl _ _).drew, rfl, trivial⟩ (ts_old (by intro x hx; simp only [List.mem_cons, List.not_mem_nil, or_false] at hx; rcases hx with rfl | rfl <;> rfl) (by kernel_rfl)) ?_ ?_
    · obtain ⟨TS, hTS⟩ : ∃ TS, TS = tsOf [(4, .pointer (some ⟨g, 0, none⟩)), (5, .slice (some ⟨q, 0, none⟩) j j)] [(18, tLit (.slice (some ⟨q, 0, none⟩) j j)), (19, tLit (.pointer (some ⟨g, 0, none⟩))), (20, tInt .i64 0 8), (21, tInt .i64 1 9), (22, tRow w6.heap.size 4 (tInt .i64 0 41)), (23, tRow w6.heap.size 7 (tInt .i64 0 3)), (24, tLit (.pointer (some ⟨g, 0, none⟩))), (25, tInt .i64 0 6), (26, tAt w6.heap.size (tInt .i64 0 3)), (27, tInt .i64 0 3), (28, tAt w6.heap.size (tInt .i64 0 41)), (29, tInt .i64 0 41), (2, tLit (.slice (some ⟨q, 0, none⟩) j j)), (3, tInt .i64 0 41)] := ⟨_, rfl⟩
      rw [← hTS]
      have hst : ∀ s, Stab w6.heap.size (TS s) := fun s => by rw [hTS]; exact stab_ts (by exact ⟨stab_lit _, stab_lit _, stab_int _ _ _, stab_int _ _ _, stab_row (stab_int _ _ _), stab_row (stab_int _ _ _), stab_lit _, stab_int _ _ _, stab_at (stab_int _ _ _), stab_int _ _ _, stab_at (stab_int _ _ _), stab_int _ _ _, stab_lit _, stab_int _ _ _, trivial⟩) s
      have T4 : TS 4 = tLit (.pointer (some ⟨g, 0, none⟩)) := by rw [hTS]; rfl
      have T5 : TS 5 = tLit (.slice (some ⟨q, 0, none⟩) j j) := by rw [hTS]; rfl
      have T18 : TS 18 = tLit (.slice (some ⟨q, 0, none⟩) j j) := by rw [hTS]; rfl
      have T19 : TS 19 = tLit (.pointer (some ⟨g, 0, none⟩)) := by rw [hTS]; rfl
      have T20 : TS 20 = tInt .i64 0 8 := by rw [hTS]; rfl
      have T21 : TS 21 = tInt .i64 1 9 := by rw [hTS]; rfl
      have T22 : TS 22 = tRow w6.heap.size 4 (tInt .i64 0 41) := by rw [hTS]; rfl
      have T23 : TS 23 = tRow w6.heap.size 7 (tInt .i64 0 3) := by rw [hTS]; rfl
      have T24 : TS 24 = tLit (.pointer (some ⟨g, 0, none⟩)) := by rw [hTS]; rfl
      have T25 : TS 25 = tInt .i64 0 6 := by rw [hTS]; rfl
      have T26 : TS 26 = tAt w6.heap.size (tInt .i64 0 3) := by rw [hTS]; rfl
      have T27 : TS 27 = tInt .i64 0 3 := by rw [hTS]; rfl
      have T28 : TS 28 = tAt w6.heap.size (tInt .i64 0 41) := by rw [hTS]; rfl
      have T29 : TS 29 = tInt .i64 0 41 := by rw [hTS]; rfl
      have T2 : TS 2 = tLit (.slice (some ⟨q, 0, none⟩) j j) := by rw [hTS]; rfl
      have T3 : TS 3 = tInt .i64 0 41 := by rw [hTS]; rfl
      have C : Ctx Try.prog g (P1) w6.heap.size 14 (· = g) (fun _ => True) TS (fun _ _ => True) := ⟨hrd.lt, rfl, by omega, hst, fun _ _ _ _ h => h, fun _ _ _ h => h⟩
      have hXi : ∀ w : World, True := fun _ => trivial
      clear hst hTS
      exact ⟨t_move C hXi (ot_tmp T5) T18,
        t_move C hXi (ot_tmp T4) T19,
        t_pick C hXi (ot_tmp T19) (ot_const (lo := 9) (hi := 9) (by omega) (by omega)) (by omega) (by omega) (by omega) T20,
        t_add C hXi (ot_const (lo := 1) (hi := 1) (by omega) (by omega)) (ot_tmp T20) (by omega) (by omega) (by omega) (by omega) T21,
        t_row C hXi [.tmp 21, .const (.int .i64 40), .const (.int .i64 0), .const (.int .i64 41)] Try.underlying50 tii tsi64 tzi64 rfl rfl (by omega) (by omega) int_one (stab_int _ _ _) ⟨((ot_tmp T21).more (by omega) (by omega)), (ot_const (by omega) (by omega)), (ot_const (by omega) (by omega)), (ot_const (by omega) (by omega)), trivial⟩ (Nat.le_refl _) T22,
        t_row C hXi [.const (.int .i64 0), .const (.int .i64 0), .const (.int .i64 0), .const (.int .i64 0), .const (.int .i64 1), .const (.int .i64 2), .const (.int .i64 3)] Try.underlying50 tii tsi64 tzi64 rfl rfl (by omega) (by omega) int_one (stab_int _ _ _) ⟨(ot_const (by omega) (by omega)), (ot_const (by omega) (by omega)), (ot_const (by omega) (by omega)), (ot_const (by omega) (by omega)), (ot_const (by omega) (by omega)), (ot_const (by omega) (by omega)), (ot_const (by omega) (by omega)), trivial⟩ (Nat.le_refl _) T23,
        t_move C hXi (ot_tmp T4) T24,
        t_pick C hXi (ot_tmp T24) (ot_const (lo := 7) (hi := 7) (by omega) (by omega)) (by omega) (by omega) (by omega) T25,
        t_index C hXi Try.underlying50 tii tsi64 (ot_tmp T23) (ot_tmp T25) (by omega) (by omega) T26,
        t_load C hXi Try.underlying3 rfl (ot_tmp T26) T27,
        t_index C hXi Try.underlying50 tii tsi64 (ot_tmp T22) (ot_tmp T27) (by omega) (by omega) T28,
        t_load C hXi Try.underlying3 rfl (ot_tmp T28) T29,
        t_assign C hXi (ot_tmp T18) T2,
        t_assign C hXi (ot_tmp T29) T3,
        trivial⟩
    · intro vs w' hG hty _ _
      have e2 : vs 2 = .slice (some ⟨q, 0, none⟩) j j := (show tLit (.slice (some ⟨q, 0, none⟩) j j) (vs 2) w' from hty 12 2 (by omega) (by omega) rfl)
      obtain ⟨sz, s0, s1, e3⟩ := (show tInt .i64 0 41 (vs 3) w' from (show tInt .i64 0 41 (vs 3) w' from hty 13 3 (by omega) (by omega) rfl).more (by omega) (by omega))
      have Dw' : Dw w1 g (P1 + 2000) w' := (Dt.picked hG.rdc hG.gr.to_grown).more (by omega)
      have own' := own_picked ownm hG.gr.to_grown hgB
      have hb' := Dw'.out b1 hg
      clear hty
      refine wpList_nil ?_
      simp only [putL, e2, e3]
      go_wp2
      go_ret2
      exact ⟨(some ⟨q, 0, none⟩), j, j, (List.replicate j 0), sz, rfl, ⟨hj, Nat.le_refl _, by unfold maxLen; omega, fun z hz => by have := (List.mem_replicate.1 hz).2; omega⟩, s0, s1, (Sl.of_own own').more (by have := b1.size; omega) (Nat.le_refl _), hb'⟩
end Go.Proofs.Ytljbkppeoedcjaa
