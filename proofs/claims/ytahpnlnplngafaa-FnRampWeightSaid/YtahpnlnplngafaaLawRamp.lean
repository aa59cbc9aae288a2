/-
  DrawRampWeight; the walk of the drawn law FnRampWeight.
-/
import Derived.Test.YtahpnlnplngafaaTPick
import Derived.Test.YtahpnlnplngafaaRampA
namespace Go.Proofs.Ytahpnlnplngafaa
open Go.RowKit
set_option linter.unusedVariables false

def DrawnInt3 (w : World) (e : Ending) (w' : World) : Prop := ∃ a b c : Int, 0 ≤ a ∧ a ≤ 6 ∧ -1 ≤ b ∧ b ≤ 100000 ∧ 0 ≤ c ∧ c ≤ 100000 ∧ e = .returned (.tuple #[.int .i64 a, .int .i64 b, .int .i64 c]) ∧ Below w.heap.size w w'

set_option maxRecDepth 10000 in
theorem drawRampWeight_any (A : Option Addr) (n c : Nat) (zs : List Int) (w : World) (hs : Sl w 0 w.heap.size 1 A n (zs.map (Value.int .u8))) (hnc : n ≤ c) (hc : c ≤ 9223372036854775807) (hz : AllByte zs) :
    Calls Try.prog 17 #[.slice A n c] w (DrawnInt3 w) := by
  go_enter Try.func17, Try.ntmps17
  go_wp2_with fail
  refine (open_any _ _ _ zs _ hs hnc hc hz).mono ?_
  rintro e w1 ⟨g, hg, rfl, hr, hb⟩
  have hrd : Rd w1.drew g (0 + 100 * 0) := hr
  obtain ⟨ii64, tii, tzi64, tsi64, _⟩ := info_parts infoI
  go_wp2_with fail
  refine wp_region_typed (by kernel_rfl) (tsOf [(5, .pointer (some ⟨g, 0, none⟩))] [(8, tLit (.pointer (some ⟨g, 0, none⟩))), (9, tInt .i64 0 6), (10, tLit (.pointer (some ⟨g, 0, none⟩))), (11, tInt .i64 0 255), (12, tRow w1.heap.size 3 (tInt .i64 (-1) 100000)), (13, tRow w1.heap.size 5 (tInt .i64 0 2)), (14, tLit (.pointer (some ⟨g, 0, none⟩))), (15, tInt .i64 0 4), (16, tAt w1.heap.size (tInt .i64 0 2)), (17, tInt .i64 0 2), (18, tAt w1.heap.size (tInt .i64 (-1) 100000)), (19, tInt .i64 (-1) 100000), (20, tLit (.pointer (some ⟨g, 0, none⟩))), (21, tInt .i64 0 255), (22, tInt .i64 1 256), (23, tRow w1.heap.size 3 (tInt .i64 0 100000)), (24, tRow w1.heap.size 5 (tInt .i64 0 2)), (25, tLit (.pointer (some ⟨g, 0, none⟩))), (26, tInt .i64 0 4), (27, tAt w1.heap.size (tInt .i64 0 2)), (28, tInt .i64 0 2), (29, tAt w1.heap.size (tInt .i64 0 100000)), (30, tInt .i64 0 100000), (2, tInt .i64 0 6), (3, tInt .i64 (-1) 100000), (4, tInt .i64 0 100000)]) (fun _ _ => True) (Gd w1 g (0) (· = g)) 26 [some 8, some 9, some 10, some 11, some 12, some 13, some 14, some 15, some 16, some 17, some 18, some 19, some 20, some 21, some 22, some 23, some 24, some 25, some 26, some 27, some 28, some 29, some 30, some 2, some 3, some 4] (by kernel_rfl) rfl (fun _ _ _ h hg => Gd.more _ _ _ h hg) ⟨hrd, (GrF.refl _ _).drew⟩ (ts_old (by intro x hx; simp only [List.mem_cons, List.not_mem_nil, or_false] at hx; rcases hx with rfl <;> rfl) (by kernel_rfl)) ?_ ?_
  · obtain ⟨TS, hTS⟩ : ∃ TS, TS = tsOf [(5, .pointer (some ⟨g, 0, none⟩))] [(8, tLit (.pointer (some ⟨g, 0, none⟩))), (9, tInt .i64 0 6), (10, tLit (.pointer (some ⟨g, 0, none⟩))), (11, tInt .i64 0 255), (12, tRow w1.heap.size 3 (tInt .i64 (-1) 100000)), (13, tRow w1.heap.size 5 (tInt .i64 0 2)), (14, tLit (.pointer (some ⟨g, 0, none⟩))), (15, tInt .i64 0 4), (16, tAt w1.heap.size (tInt .i64 0 2)), (17, tInt .i64 0 2), (18, tAt w1.heap.size (tInt .i64 (-1) 100000)), (19, tInt .i64 (-1) 100000), (20, tLit (.pointer (some ⟨g, 0, none⟩))), (21, tInt .i64 0 255), (22, tInt .i64 1 256), (23, tRow w1.heap.size 3 (tInt .i64 0 100000)), (24, tRow w1.heap.size 5 (tInt .i64 0 2)), (25, tLit (.pointer (some ⟨g, 0, none⟩))), (26, tInt .i64 0 4), (27, tAt w1.heap.size (tInt .i64 0 2)), (28, tInt .i64 0 2), (29, tAt w1.heap.size (tInt .i64 0 100000)), (30, tInt .i64 0 100000), (2, tInt .i64 0 6), (3, tInt .i64 (-1) 100000), (4, tInt .i64 0 100000)] := ⟨_, rfl⟩
    rw [← hTS]
    have hst : ∀ s, Stab w1.heap.size (TS s) := fun s => by rw [hTS]; exact stab_ts (by exact ⟨stab_lit _, stab_int _ _ _, stab_lit _, stab_int _ _ _, stab_row (stab_int _ _ _), stab_row (stab_int _ _ _), stab_lit _, stab_int _ _ _, stab_at (stab_int _ _ _), stab_int _ _ _, stab_at (stab_int _ _ _), stab_int _ _ _, stab_lit _, stab_int _ _ _, stab_int _ _ _, stab_row (stab_int _ _ _), stab_row (stab_int _ _ _), stab_lit _, stab_int _ _ _, stab_at (stab_int _ _ _), stab_int _ _ _, stab_at (stab_int _ _ _), stab_int _ _ _, stab_int _ _ _, stab_int _ _ _, stab_int _ _ _, trivial⟩) s
    have T5 : TS 5 = tLit (.pointer (some ⟨g, 0, none⟩)) := by rw [hTS]; rfl
    have T8 : TS 8 = tLit (.pointer (some ⟨g, 0, none⟩)) := by rw [hTS]; rfl
    have T9 : TS 9 = tInt .i64 0 6 := by rw [hTS]; rfl
    have T10 : TS 10 = tLit (.pointer (some ⟨g, 0, none⟩)) := by rw [hTS]; rfl
    have T11 : TS 11 = tInt .i64 0 255 := by rw [hTS]; rfl
    have T12 : TS 12 = tRow w1.heap.size 3 (tInt .i64 (-1) 100000) := by rw [hTS]; rfl
    have T13 : TS 13 = tRow w1.heap.size 5 (tInt .i64 0 2) := by rw [hTS]; rfl
    have T14 : TS 14 = tLit (.pointer (some ⟨g, 0, none⟩)) := by rw [hTS]; rfl
    have T15 : TS 15 = tInt .i64 0 4 := by rw [hTS]; rfl
    have T16 : TS 16 = tAt w1.heap.size (tInt .i64 0 2) := by rw [hTS]; rfl
    have T17 : TS 17 = tInt .i64 0 2 := by rw [hTS]; rfl
    have T18 : TS 18 = tAt w1.heap.size (tInt .i64 (-1) 100000) := by rw [hTS]; rfl
    have T19 : TS 19 = tInt .i64 (-1) 100000 := by rw [hTS]; rfl
    have T20 : TS 20 = tLit (.pointer (some ⟨g, 0, none⟩)) := by rw [hTS]; rfl
    have T21 : TS 21 = tInt .i64 0 255 := by rw [hTS]; rfl
    have T22 : TS 22 = tInt .i64 1 256 := by rw [hTS]; rfl
    have T23 : TS 23 = tRow w1.heap.size 3 (tInt .i64 0 100000) := by rw [hTS]; rfl
    have T24 : TS 24 = tRow w1.heap.size 5 (tInt .i64 0 2) := by rw [hTS]; rfl
    have T25 : TS 25 = tLit (.pointer (some ⟨g, 0, none⟩)) := by rw [hTS]; rfl
    have T26 : TS 26 = tInt .i64 0 4 := by rw [hTS]; rfl
    have T27 : TS 27 = tAt w1.heap.size (tInt .i64 0 2) := by rw [hTS]; rfl
    have T28 : TS 28 = tInt .i64 0 2 := by rw [hTS]; rfl
    have T29 : TS 29 = tAt w1.heap.size (tInt .i64 0 100000) := by rw [hTS]; rfl
    have T30 : TS 30 = tInt .i64 0 100000 := by rw [hTS]; rfl
    have T2 : TS 2 = tInt .i64 0 6 := by rw [hTS]; rfl
    have T3 : TS 3 = tInt .i64 (-1) 100000 := by rw [hTS]; rfl
    have T4 : TS 4 = tInt .i64 0 100000 := by rw [hTS]; rfl
    have C : Ctx Try.prog g (0) w1.heap.size 26 (· = g) TS (fun _ _ => True) := ⟨hrd.lt, rfl, by omega, hst, fun _ _ _ _ h => h⟩
    have hXi : ∀ w : World, True := fun _ => trivial
    clear hst hTS
    exact ⟨t_move C hXi (ot_tmp T5) T8,
    t_pick C hXi (ot_tmp T8) (ot_const (lo := 7) (hi := 7) (by omega) (by omega)) (by omega) (by omega) (by omega) T9,
    t_move C hXi (ot_tmp T5) T10,
    t_pick C hXi (ot_tmp T10) (ot_const (lo := 256) (hi := 256) (by omega) (by omega)) (by omega) (by omega) (by omega) T11,
    t_row C hXi [.tmp 11, .const (.int .i64 100000), .const (.int .i64 (-1))] Try.underlying35 tii tsi64 tzi64 rfl rfl (by omega) (by omega) int_one (stab_int _ _ _) ⟨((ot_tmp T11).more (by omega) (by omega)), (ot_const (by omega) (by omega)), (ot_const (by omega) (by omega)), trivial⟩ (Nat.le_refl _) T12,
    t_row C hXi [.const (.int .i64 0), .const (.int .i64 0), .const (.int .i64 0), .const (.int .i64 1), .const (.int .i64 2)] Try.underlying35 tii tsi64 tzi64 rfl rfl (by omega) (by omega) int_one (stab_int _ _ _) ⟨(ot_const (by omega) (by omega)), (ot_const (by omega) (by omega)), (ot_const (by omega) (by omega)), (ot_const (by omega) (by omega)), (ot_const (by omega) (by omega)), trivial⟩ (Nat.le_refl _) T13,
    t_move C hXi (ot_tmp T5) T14,
    t_pick C hXi (ot_tmp T14) (ot_const (lo := 5) (hi := 5) (by omega) (by omega)) (by omega) (by omega) (by omega) T15,
    t_index C hXi Try.underlying35 tii tsi64 (ot_tmp T13) (ot_tmp T15) (by omega) (by omega) T16,
    t_load C hXi Try.underlying3 rfl (ot_tmp T16) T17,
    t_index C hXi Try.underlying35 tii tsi64 (ot_tmp T12) (ot_tmp T17) (by omega) (by omega) T18,
    t_load C hXi Try.underlying3 rfl (ot_tmp T18) T19,
    t_move C hXi (ot_tmp T5) T20,
    t_pick C hXi (ot_tmp T20) (ot_const (lo := 256) (hi := 256) (by omega) (by omega)) (by omega) (by omega) (by omega) T21,
    t_add C hXi (ot_const (lo := 1) (hi := 1) (by omega) (by omega)) (ot_tmp T21) (by omega) (by omega) (by omega) (by omega) T22,
    t_row C hXi [.tmp 22, .const (.int .i64 100000), .const (.int .i64 0)] Try.underlying35 tii tsi64 tzi64 rfl rfl (by omega) (by omega) int_one (stab_int _ _ _) ⟨((ot_tmp T22).more (by omega) (by omega)), (ot_const (by omega) (by omega)), (ot_const (by omega) (by omega)), trivial⟩ (Nat.le_refl _) T23,
    t_row C hXi [.const (.int .i64 0), .const (.int .i64 0), .const (.int .i64 0), .const (.int .i64 1), .const (.int .i64 2)] Try.underlying35 tii tsi64 tzi64 rfl rfl (by omega) (by omega) int_one (stab_int _ _ _) ⟨(ot_const (by omega) (by omega)), (ot_const (by omega) (by omega)), (ot_const (by omega) (by omega)), (ot_const (by omega) (by omega)), (ot_const (by omega) (by omega)), trivial⟩ (Nat.le_refl _) T24,
    t_move C hXi (ot_tmp T5) T25,
    t_pick C hXi (ot_tmp T25) (ot_const (lo := 5) (hi := 5) (by omega) (by omega)) (by omega) (by omega) (by omega) T26,
    t_index C hXi Try.underlying35 tii tsi64 (ot_tmp T24) (ot_tmp T26) (by omega) (by omega) T27,
    t_load C hXi Try.underlying3 rfl (ot_tmp T27) T28,
    t_index C hXi Try.underlying35 tii tsi64 (ot_tmp T23) (ot_tmp T28) (by omega) (by omega) T29,
    t_load C hXi Try.underlying3 rfl (ot_tmp T29) T30,
    t_assign C hXi (ot_tmp T9) T2,
    t_assign C hXi (ot_tmp T19) T3,
    t_assign C hXi (ot_tmp T30) T4,
    trivial⟩
  · intro vs w' hG hty _ _
    obtain ⟨a, a0, a1, e2⟩ := (show tInt .i64 0 6 (vs 2) w' from hty 23 2 (by omega) rfl)
    obtain ⟨b, b0, b1, e3⟩ := (show tInt .i64 (-1) 100000 (vs 3) w' from hty 24 3 (by omega) rfl)
    obtain ⟨k, k0, k1, e4⟩ := (show tInt .i64 0 100000 (vs 4) w' from hty 25 4 (by omega) rfl)
    clear hty
    refine wpList_nil ?_
    simp only [putL, e2, e3, e4]
    go_wp2
    go_ret3
    exact ⟨a, b, k, a0, a1, b0, b1, k0, k1, rfl, hb.grown hG.2.to_grown hb.size (fun q hq => by cases hq; exact hg)⟩

theorem rampOk_iff {a b c : Int} : rampOk a b c = true ↔ (1 ≤ a ∧ a ≤ 5) ∧ (0 ≤ b ∧ b ≤ 100000) ∧ 1 ≤ c ∧ c ≤ 100000 := by
  unfold rampOk
  simp only [Bool.and_eq_true, inB_iff, and_assoc]
theorem rampW_facts (a b c : Int) : rampW a b c = -1 ∨ (1 ≤ rampW a b c ∧ rampW a b c ≤ a ∧ rampW a c c = a ∧ (b = 100000 ∨ (b < 100000 ∧ 0 ≤ b ∧ rampW a b c ≤ rampW a (b + 1) c))) := by
  cases hok : rampOk a b c with
  | false => left; unfold rampW; rw [if_neg (by rw [hok]; simp)]
  | true =>
    right
    obtain ⟨h1, h2, h3⟩ := rampOk_iff.1 hok
    have e1 : rampW a b c = max 1 (a * min b c / c) := by unfold rampW; rw [if_pos hok]
    have hle : a * min b c / c ≤ a := by
      have : a * min b c ≤ a * c := Int.mul_le_mul_of_nonneg_left (by omega) (by omega)
      have h4 := Int.ediv_le_ediv (show 0 < c by omega) this
      rwa [Int.mul_ediv_cancel _ (by omega)] at h4
    have hok2 : rampOk a c c = true := rampOk_iff.2 ⟨h1, by omega, h3⟩
    have e2 : rampW a c c = a := by
      unfold rampW
      rw [if_pos hok2, show min c c = c from by omega, Int.mul_ediv_cancel _ (by omega)]
      omega
    refine ⟨by omega, by omega, e2, ?_⟩
    by_cases hb : b = 100000
    · exact .inl hb
    · right
      have hok3 : rampOk a (b + 1) c = true := rampOk_iff.2 ⟨h1, by omega, h3⟩
      have e3 : rampW a (b + 1) c = max 1 (a * min (b + 1) c / c) := by unfold rampW; rw [if_pos hok3]
      have hm : a * min b c ≤ a * min (b + 1) c := Int.mul_le_mul_of_nonneg_left (by omega) (by omega)
      have := Int.ediv_le_ediv (show 0 < c by omega) hm
      refine ⟨by omega, by omega, ?_⟩
      rw [e1, e3]
      omega

set_option maxHeartbeats 800000 in
theorem wFnRampWeight (A : Option Addr) (n c : Nat) (zs : List Int) (w : World) (hs : Sl w 0 w.heap.size 1 A n (zs.map (Value.int .u8))) (hnc : n ≤ c) (hm : c ≤ maxLen) (hw : ∀ z ∈ zs, (Lit.int .u8 z).wf = true) :
    Calls Try.prog 4 #[.slice A n c] w fun e w' => e = .returned (.bool true) ∧ Below w.heap.size w w' := by
  unfold maxLen at hm
  have hz := AllByte.of_wf hw
  clear hw
  by_cases hn : n ≤ 1048576
  · have hn1 : ¬ ((1048576 : Int) < (n : Int)) := by omega
    go_enter Try.func4, Try.ntmps4
    go_wp2_with fail
    refine (drawRampWeight_any _ _ _ zs _ hs hnc (by omega) hz).mono ?_
    rintro e w1 ⟨a, b, k, a0, a1, q0, q1, k0, k1, rfl, b1⟩
    have hf := rampW_facts a b k
    obtain ⟨x, hxe⟩ : ∃ x, rampW a b k = x := ⟨_, rfl⟩
    rw [hxe] at hf
    have HX := Lib.hid hxe
    clear hxe
    go_wp2_with fail
    refine (iRamp_any a b k _).mono ?_
    rw [HX.out]
    rintro e w2 ⟨rfl, rfl⟩
    go_wp2_with fail
    refine (sRamp_any a b k _).mono ?_
    rw [HX.out]
    rintro e w2 ⟨rfl, rfl⟩
    rcases hf with rfl | ⟨h1, h2, h3, h4⟩
    · go_wp2_with (go_at_call 18; refine (alive_any _).mono ?_; rintro e w4 ⟨rfl, b4⟩)
      go_ret
      exact ⟨rfl, b1.trans (b4.mono b1.size)⟩
    · have H3 := Lib.hid h3
      clear h3
      go_wp2_with fail
      refine (iRamp_any a k k _).mono ?_
      rw [H3.out]
      rintro e w2 ⟨rfl, rfl⟩
      by_cases hb : b = 100000
      · subst hb
        clear h4
        go_wp2
        go_ret
        exact ⟨rfl, b1⟩
      · have hb' : (b == 100000) = false := by simp; omega
        obtain ⟨h5, h6, h7⟩ := h4.resolve_left hb
        clear h4 hb
        go_wp2_with fail
        refine (iRamp_any a (b + 1) k _).mono ?_
        obtain ⟨y, hy⟩ : ∃ y, rampW a (b + 1) k = y := ⟨_, rfl⟩
        rw [hy] at h7
        rw [hy]
        clear hy
        rintro e w2 ⟨rfl, rfl⟩
        go_wp2
        go_ret
        exact ⟨rfl, b1⟩
  · have hn1 : (1048576 : Int) < (n : Int) := by omega
    go_enter Try.func4, Try.ntmps4
    go_wp2
    go_ret
    exact ⟨rfl, Below.refl _ _⟩
end Go.Proofs.Ytahpnlnplngafaa
