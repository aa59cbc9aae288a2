/-
  l20Path: a path drawn by a reader; DrawPathValid, DrawSendPath, DrawFindPathSize.
-/
import Derived.Test.YtjiebaidjflkjaaTPick
namespace Go.Proofs.Ytjiebaidjflkjaa
open Go.RowKit
set_option linter.unusedVariables false

theorem infoS : (Try.prog.info? 22).map (fun i => (i.zero, i.size, i.bytes)) = some (some (.slice none 0 0), 1, 24) := by kernel_rfl

set_option maxRecDepth 10000 in
set_option maxHeartbeats 1600000 in
theorem path_any (g P : Nat) (n : Int) (w : World) (h : Rd w g P) (hP : P ≤ 10000000) (hn : 0 ≤ n) (hn' : n ≤ 1000) :
    Calls Try.prog 41 #[.pointer (some ⟨g, 0, none⟩), .int .i64 n] w (DrewInts w g (P + 2000) 3 .i64 11 0 100001) := by
  obtain ⟨i0, ti, tz, ts, tb⟩ := info_parts infoI
  have D := Dw.start h
  have own0 := World.ownsRow_lit (base := w.heap.size) (e := 3) (size := 1) w #[] 0 (Nat.le_refl _) (by unfold maxLen; omega) (by simp)
  have D0 := D.alloc (.cells #[] 3)
  go_enter Try.func41, Try.ntmps41
  go_wp2_with fail
  refine (pick_any _ _ _ _ D0.rd (by omega) (by omega) (by omega)).mono ?_
  rintro e w2 ⟨k0, hk0, hk1, rfl, hr2, hg2⟩
  have D2 := D0.picked hr2 hg2
  have own2 := own_picked own0 hg2 D.lt
  clear own0 D0 hr2 hg2
  go_wp2_with fail
  go_loopw [5, 6] (fun out i wr => ∃ (k p m : Nat) (xs : List Int), i = .int .i64 k ∧ m + k ≤ 5 ∧ p + 2 * k ≤ P + 100 ∧ (∀ z ∈ xs, (0 : Int) ≤ z ∧ z ≤ 100001) ∧ wr.ownsRow w.heap.size 3 1 out m (xs.map (Value.int .i64)) ∧ Dw w g p wr) (fun _ i _ => (intOf i).toNat)
  case atStart => exact ⟨(1 + k0).toNat, P + 1, 0, [], by rw [Int.toNat_of_nonneg (by omega)], by omega, by omega, by simp, own2, D2⟩
  case round =>
    obtain ⟨k, p, m, xs, rfl, hm, hp, hx, own, D3⟩ := hrel
    clear own2 D2
    by_cases hlt : 0 < k
    · go_wp2_with fail
      refine (pick_any _ _ _ _ D3.rd (by omega) (by omega) (by omega)).mono ?_
      rintro e w3 ⟨z, hz0, hz1, rfl, hr3, hg3⟩
      have D4 := D3.picked hr3 hg3
      have own3 := own_picked own hg3 D.lt
      clear own hr3 hg3
      go_wp2_with (at_builtin; refine wpList_append_sl _ rfl _ _ 22 rfl w.heap.size 3 i0 _ 1 8 Try.underlying22 ti tz ts tb rfl (by decide) _ m _ (by rfl) (own3.alloc _) _ _ (some ⟨w3.heap.size, 0, none⟩) 1 1 [.int .i64 (1 + z)] rfl (Sl.new #[.int .i64 (1 + z)] 3 1 1 rfl) (one_int _ _) (by unfold maxLen; omega) (by omega) (by simp; have := D4.size_; omega) ?_; intro v1 w4 own4 g4 at4)
      have D5 := (D4.alloc (.cells #[.int .i64 (1 + z)] 3)).append (own3.alloc _) g4
      have hx4 := ints_snoc hx (z := 1 + z) (by omega)
      rw [show (xs.map (Value.int .i64)) ++ [.int .i64 (1 + z)] = (xs ++ [1 + z]).map (Value.int .i64) from by simp] at own4
      clear g4 at4 own3 D4 hx
      go_roundw
      case rel => exact ⟨k - 1, p + 1, m + 1, _, by (congr 1; omega), by omega, by omega, hx4, own4, D5⟩
      case measure => simp [intOf]; omega
    · obtain rfl : k = 0 := by omega
      clear hlt
      go_wp2_with fail
      refine (odd_any _ _ _ _ D3.rd (by omega) (by omega) (by omega)).mono ?_
      rintro e w3 ⟨b, rfl, hr3, hg3⟩
      have D4 := D3.picked hr3 hg3
      have own3 := own_picked own hg3 D.lt
      clear own D3 hr3 hg3
      rcases b
      · obtain ⟨A', c', rfl, hnc', hmc'⟩ := own_is_slice own3
        go_wp2_with fail
        go_ret
        exact ⟨A', m, c', xs, rfl, by omega, hnc', hmc', hx, own3, D4.more (by omega)⟩
      · obtain ⟨P1, hP1⟩ : ∃ q, p + 1 = q := ⟨_, rfl⟩
        have hP1' : P1 ≤ P + 101 := by omega
        rw [hP1] at D4
        have hrd : Rd w3.drew g (P1 + 100 * 0) := D4.rd
        obtain ⟨ii64, tii, tzi64, tsi64, _⟩ := info_parts infoI
        have iI := tii
        obtain ⟨is, tis, tzs, tss, _⟩ := info_parts infoS
        clear own3 hx
        go_wp2_with fail
        refine wp_region_typed (by kernel_rfl) (tsOf [(0, .pointer (some ⟨g, 0, none⟩))] [(24, tList w3.heap.size 3 .i64 0 100001 11), (25, tList w3.heap.size 3 .i64 0 100001 11), (26, tList w3.heap.size 3 .i64 0 100001 11), (27, tList w3.heap.size 3 .i64 0 100001 11), (28, tRow w3.heap.size 4 (tList w3.heap.size 3 .i64 0 100001 11)), (29, tLit (.pointer (some ⟨g, 0, none⟩))), (30, tInt .i64 0 3), (31, tAt w3.heap.size (tList w3.heap.size 3 .i64 0 100001 11)), (32, tList w3.heap.size 3 .i64 0 100001 11), (4, tList w3.heap.size 3 .i64 0 100001 11)]) (fun _ _ => True) (Gd w3 g (P1) (· = g)) 10 [some 24, some 25, some 26, some 27, some 28, some 29, some 30, some 31, some 32, some 4] (by kernel_rfl) rfl (fun _ _ _ h hg => Gd.more _ _ _ h hg) ⟨hrd, (GrF.refl _ _).drew⟩ (ts_old (by intro x hx; simp only [List.mem_cons, List.not_mem_nil, or_false] at hx; rcases hx with rfl <;> rfl) (by kernel_rfl)) ?_ ?_
        · obtain ⟨TS, hTS⟩ : ∃ TS, TS = tsOf [(0, .pointer (some ⟨g, 0, none⟩))] [(24, tList w3.heap.size 3 .i64 0 100001 11), (25, tList w3.heap.size 3 .i64 0 100001 11), (26, tList w3.heap.size 3 .i64 0 100001 11), (27, tList w3.heap.size 3 .i64 0 100001 11), (28, tRow w3.heap.size 4 (tList w3.heap.size 3 .i64 0 100001 11)), (29, tLit (.pointer (some ⟨g, 0, none⟩))), (30, tInt .i64 0 3), (31, tAt w3.heap.size (tList w3.heap.size 3 .i64 0 100001 11)), (32, tList w3.heap.size 3 .i64 0 100001 11), (4, tList w3.heap.size 3 .i64 0 100001 11)] := ⟨_, rfl⟩
          rw [← hTS]
          have hst : ∀ s, Stab w3.heap.size (TS s) := fun s => by rw [hTS]; exact stab_ts (by exact ⟨stab_list, stab_list, stab_list, stab_list, stab_row (stab_list), stab_lit _, stab_int _ _ _, stab_at (stab_list), stab_list, stab_list, trivial⟩) s
          have T0 : TS 0 = tLit (.pointer (some ⟨g, 0, none⟩)) := by rw [hTS]; rfl
          have T24 : TS 24 = tList w3.heap.size 3 .i64 0 100001 11 := by rw [hTS]; rfl
          have T25 : TS 25 = tList w3.heap.size 3 .i64 0 100001 11 := by rw [hTS]; rfl
          have T26 : TS 26 = tList w3.heap.size 3 .i64 0 100001 11 := by rw [hTS]; rfl
          have T27 : TS 27 = tList w3.heap.size 3 .i64 0 100001 11 := by rw [hTS]; rfl
          have T28 : TS 28 = tRow w3.heap.size 4 (tList w3.heap.size 3 .i64 0 100001 11) := by rw [hTS]; rfl
          have T29 : TS 29 = tLit (.pointer (some ⟨g, 0, none⟩)) := by rw [hTS]; rfl
          have T30 : TS 30 = tInt .i64 0 3 := by rw [hTS]; rfl
          have T31 : TS 31 = tAt w3.heap.size (tList w3.heap.size 3 .i64 0 100001 11) := by rw [hTS]; rfl
          have T32 : TS 32 = tList w3.heap.size 3 .i64 0 100001 11 := by rw [hTS]; rfl
          have T4 : TS 4 = tList w3.heap.size 3 .i64 0 100001 11 := by rw [hTS]; rfl
          have C : Ctx Try.prog g (P1) w3.heap.size 10 (· = g) TS (fun _ _ => True) := ⟨hrd.lt, rfl, by omega, hst, fun _ _ _ _ h => h⟩
          have hXi : ∀ w : World, True := fun _ => trivial
          clear hst hTS
          exact ⟨t_listlit C hXi [] Try.underlying22 tii tsi64 tzi64 rfl rfl (by omega) (by omega) trivial (Nat.le_refl _) T24,
    t_listlit C hXi [.const (.int .i64 0)] Try.underlying22 tii tsi64 tzi64 rfl rfl (by omega) (by omega) ⟨(ot_const (by omega) (by omega)), trivial⟩ (Nat.le_refl _) T25,
    t_listlit C hXi [.const (.int .i64 100001)] Try.underlying22 tii tsi64 tzi64 rfl rfl (by omega) (by omega) ⟨(ot_const (by omega) (by omega)), trivial⟩ (Nat.le_refl _) T26,
    t_makelist (n := 11) C hXi Try.underlying22 infoI rfl (by omega) (by omega) (by omega) (by omega) (by omega) (Nat.le_refl _) T27,
    t_row C hXi [.tmp 24, .tmp 25, .tmp 26, .tmp 27] Try.underlying69 tis tss tzs rfl rfl (by omega) (by omega) list_one stab_list ⟨(ot_tmp T24), (ot_tmp T25), (ot_tmp T26), (ot_tmp T27), trivial⟩ (Nat.le_refl _) T28,
    t_move C hXi (ot_tmp T0) T29,
    t_pick C hXi (ot_tmp T29) (ot_const (lo := 4) (hi := 4) (by omega) (by omega)) (by omega) (by omega) (by omega) T30,
    t_index C hXi Try.underlying69 tis tss (ot_tmp T28) (ot_tmp T30) (by omega) (by omega) T31,
    t_load C hXi Try.underlying22 rfl (ot_tmp T31) T32,
    t_assign C hXi (ot_tmp T32) T4,
    trivial⟩
        · intro vs w' hG hty _ _
          obtain ⟨A', m', c', xs', e4, q1, q2, q3, q4, own⟩ := (show tList w3.heap.size 3 .i64 0 100001 11 (vs 4) w' from hty 9 4 (by omega) rfl)
          clear hty
          refine wpList_nil ?_
          simp only [putL, e4]
          go_wp2
          go_ret
          exact ⟨A', m', c', xs', rfl, q1, q2, q3, q4, own_more own D4.size_, (D4.picked hG.1 hG.2.to_grown).more (by omega)⟩

section
variable (A : Option Addr) (n c : Nat) (zs : List Int) (w : World) (hs : Sl w 0 w.heap.size 1 A n (zs.map (Value.int .u8))) (hnc : n ≤ c) (hc : c ≤ 9223372036854775807) (hz : AllByte zs)
include hs hnc hc hz
theorem drawPathValid_any : Calls Try.prog 19 #[.slice A n c] w (DrawnInts w 3 .i64 11 0 100001) := by
  go_enter Try.func19, Try.ntmps19
  go_wp2_with fail
  refine (open_any _ _ _ zs _ hs hnc hc hz).mono ?_
  rintro e w1 ⟨g, hg, rfl, hr, hb⟩
  go_wp2_with fail
  refine (path_any g 0 2 _ hr (by omega) (by omega) (by omega)).mono ?_
  rintro e w2 ⟨B, m, c', xs, rfl, hm, hmc, hcm, hx, own, D⟩
  go_wp2_with fail
  go_ret
  exact ⟨B, m, c', xs, rfl, hm, hmc, hcm, hx, own_more own hb.size, D.out hb hg⟩

/-- A path and a size. -/
def DrawnPath (W : World) (e : Ending) (w' : World) : Prop :=
  ∃ (A : Option Addr) (n c : Nat) (zs : List Int) (s : Int), e = .returned (.tuple #[.slice A n c, .int .i64 s]) ∧ n ≤ 11 ∧ n ≤ c ∧ c ≤ maxLen ∧ (∀ z ∈ zs, 0 ≤ z ∧ z ≤ 100001) ∧ -1 ≤ s ∧ s ≤ 100001 ∧ w'.ownsRow W.heap.size 3 1 (.slice A n c) n (zs.map (Value.int .i64)) ∧ Below W.heap.size W w'

set_option maxRecDepth 10000 in
theorem drawSendPath_any : Calls Try.prog 23 #[.slice A n c] w (DrawnPath w) := by
  go_enter Try.func23, Try.ntmps23
  go_wp2_with fail
  refine (open_any _ _ _ zs _ hs hnc hc hz).mono ?_
  rintro e w1 ⟨g, hg, rfl, hr, hb⟩
  go_wp2_with fail
  refine (path_any g 0 9 _ hr (by omega) (by omega) (by omega)).mono ?_
  rintro e w2 ⟨B, m, c', xs, rfl, hm, hmc, hcm, hx, own, D⟩
  obtain ⟨P1, hP1⟩ : ∃ q, 0 + 2000 = q := ⟨_, rfl⟩
  rw [hP1] at D
  have hrd : Rd w2.drew g (P1 + 100 * 0) := D.rd
  obtain ⟨ii64, tii, tzi64, tsi64, _⟩ := info_parts infoI
  go_wp2_with fail
  refine wp_region_typed (by kernel_rfl) (tsOf [(4, .pointer (some ⟨g, 0, none⟩)), (5, .slice B m c')] [(10, tLit (.slice B m c')), (11, tLit (.pointer (some ⟨g, 0, none⟩))), (12, tInt .i64 0 255), (13, tRow w2.heap.size 4 (tInt .i64 (-1) 100001)), (14, tRow w2.heap.size 7 (tInt .i64 0 3)), (15, tLit (.pointer (some ⟨g, 0, none⟩))), (16, tInt .i64 0 6), (17, tAt w2.heap.size (tInt .i64 0 3)), (18, tInt .i64 0 3), (19, tAt w2.heap.size (tInt .i64 (-1) 100001)), (20, tInt .i64 (-1) 100001), (2, tLit (.slice B m c')), (3, tInt .i64 (-1) 100001)]) (fun _ _ => True) (Gd w2 g (P1) (· = g)) 13 [some 10, some 11, some 12, some 13, some 14, some 15, some 16, some 17, some 18, some 19, some 20, some 2, some 3] (by kernel_rfl) rfl (fun _ _ _ h hg => Gd.more _ _ _ h hg) ⟨hrd, (GrF.refl _ _).drew⟩ (ts_old (by intro x hx; simp only [List.mem_cons, List.not_mem_nil, or_false] at hx; rcases hx with rfl | rfl <;> rfl) (by kernel_rfl)) ?_ ?_
  · obtain ⟨TS, hTS⟩ : ∃ TS, TS = tsOf [(4, .pointer (some ⟨g, 0, none⟩)), (5, .slice B m c')] [(10, tLit (.slice B m c')), (11, tLit (.pointer (some ⟨g, 0, none⟩))), (12, tInt .i64 0 255), (13, tRow w2.heap.size 4 (tInt .i64 (-1) 100001)), (14, tRow w2.heap.size 7 (tInt .i64 0 3)), (15, tLit (.pointer (some ⟨g, 0, none⟩))), (16, tInt .i64 0 6), (17, tAt w2.heap.size (tInt .i64 0 3)), (18, tInt .i64 0 3), (19, tAt w2.heap.size (tInt .i64 (-1) 100001)), (20, tInt .i64 (-1) 100001), (2, tLit (.slice B m c')), (3, tInt .i64 (-1) 100001)] := ⟨_, rfl⟩
    rw [← hTS]
    have hst : ∀ s, Stab w2.heap.size (TS s) := fun s => by rw [hTS]; exact stab_ts (by exact ⟨stab_lit _, stab_lit _, stab_int _ _ _, stab_row (stab_int _ _ _), stab_row (stab_int _ _ _), stab_lit _, stab_int _ _ _, stab_at (stab_int _ _ _), stab_int _ _ _, stab_at (stab_int _ _ _), stab_int _ _ _, stab_lit _, stab_int _ _ _, trivial⟩) s
    have T4 : TS 4 = tLit (.pointer (some ⟨g, 0, none⟩)) := by rw [hTS]; rfl
    have T5 : TS 5 = tLit (.slice B m c') := by rw [hTS]; rfl
    have T10 : TS 10 = tLit (.slice B m c') := by rw [hTS]; rfl
    have T11 : TS 11 = tLit (.pointer (some ⟨g, 0, none⟩)) := by rw [hTS]; rfl
    have T12 : TS 12 = tInt .i64 0 255 := by rw [hTS]; rfl
    have T13 : TS 13 = tRow w2.heap.size 4 (tInt .i64 (-1) 100001) := by rw [hTS]; rfl
    have T14 : TS 14 = tRow w2.heap.size 7 (tInt .i64 0 3) := by rw [hTS]; rfl
    have T15 : TS 15 = tLit (.pointer (some ⟨g, 0, none⟩)) := by rw [hTS]; rfl
    have T16 : TS 16 = tInt .i64 0 6 := by rw [hTS]; rfl
    have T17 : TS 17 = tAt w2.heap.size (tInt .i64 0 3) := by rw [hTS]; rfl
    have T18 : TS 18 = tInt .i64 0 3 := by rw [hTS]; rfl
    have T19 : TS 19 = tAt w2.heap.size (tInt .i64 (-1) 100001) := by rw [hTS]; rfl
    have T20 : TS 20 = tInt .i64 (-1) 100001 := by rw [hTS]; rfl
    have T2 : TS 2 = tLit (.slice B m c') := by rw [hTS]; rfl
    have T3 : TS 3 = tInt .i64 (-1) 100001 := by rw [hTS]; rfl
    have C : Ctx Try.prog g (P1) w2.heap.size 13 (· = g) TS (fun _ _ => True) := ⟨hrd.lt, rfl, by omega, hst, fun _ _ _ _ h => h⟩
    have hXi : ∀ w : World, True := fun _ => trivial
    clear hst hTS
    exact ⟨t_move C hXi (ot_tmp T5) T10,
    t_move C hXi (ot_tmp T4) T11,
    t_pick C hXi (ot_tmp T11) (ot_const (lo := 256) (hi := 256) (by omega) (by omega)) (by omega) (by omega) (by omega) T12,
    t_row C hXi [.tmp 12, .const (.int .i64 100000), .const (.int .i64 (-1)), .const (.int .i64 100001)] Try.underlying22 tii tsi64 tzi64 rfl rfl (by omega) (by omega) int_one (stab_int _ _ _) ⟨((ot_tmp T12).more (by omega) (by omega)), (ot_const (by omega) (by omega)), (ot_const (by omega) (by omega)), (ot_const (by omega) (by omega)), trivial⟩ (Nat.le_refl _) T13,
    t_row C hXi [.const (.int .i64 0), .const (.int .i64 0), .const (.int .i64 0), .const (.int .i64 0), .const (.int .i64 1), .const (.int .i64 2), .const (.int .i64 3)] Try.underlying22 tii tsi64 tzi64 rfl rfl (by omega) (by omega) int_one (stab_int _ _ _) ⟨(ot_const (by omega) (by omega)), (ot_const (by omega) (by omega)), (ot_const (by omega) (by omega)), (ot_const (by omega) (by omega)), (ot_const (by omega) (by omega)), (ot_const (by omega) (by omega)), (ot_const (by omega) (by omega)), trivial⟩ (Nat.le_refl _) T14,
    t_move C hXi (ot_tmp T4) T15,
    t_pick C hXi (ot_tmp T15) (ot_const (lo := 7) (hi := 7) (by omega) (by omega)) (by omega) (by omega) (by omega) T16,
    t_index C hXi Try.underlying22 tii tsi64 (ot_tmp T14) (ot_tmp T16) (by omega) (by omega) T17,
    t_load C hXi Try.underlying3 rfl (ot_tmp T17) T18,
    t_index C hXi Try.underlying22 tii tsi64 (ot_tmp T13) (ot_tmp T18) (by omega) (by omega) T19,
    t_load C hXi Try.underlying3 rfl (ot_tmp T19) T20,
    t_assign C hXi (ot_tmp T10) T2,
    t_assign C hXi (ot_tmp T20) T3,
    trivial⟩
  · intro vs w' hG hty _ _
    have e2 : vs 2 = .slice B m c' := hty 11 2 (by omega) rfl
    obtain ⟨s, s0, s1, e3⟩ := (show tInt .i64 (-1) 100001 (vs 3) w' from hty 12 3 (by omega) rfl)
    clear hty
    refine wpList_nil ?_
    simp only [putL, e2, e3]
    go_wp2
    go_ret2
    have hgr := hG.2.to_grown
    exact ⟨B, m, c', xs, s, rfl, hm, hmc, hcm, hx, s0, s1, own_more (own_picked own hgr (by have := hr.lt; omega)) hb.size, (D.picked hG.1 hgr).out hb hg⟩
theorem drawFindPathSize_any : Calls Try.prog 26 #[.slice A n c] w (DrawnPath w) := by
  go_enter Try.func26, Try.ntmps26
  go_wp2_with fail
  refine (drawSendPath_any _ _ _ zs _ hs hnc hc hz).mono ?_
  rintro e w1 ⟨B, m, c', xs, s, rfl, h⟩
  go_wp2_with fail
  go_ret2
  exact ⟨B, m, c', xs, s, rfl, h⟩
end
end Go.Proofs.Ytjiebaidjflkjaa
