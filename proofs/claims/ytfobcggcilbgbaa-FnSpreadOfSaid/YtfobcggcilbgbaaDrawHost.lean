/-
  DrawHostBy, DrawSpreadOf: a way, a pool, a key or keys.
-/
import Derived.Test.YtfobcggcilbgbaaDrawKey
namespace Go.Proofs.Ytfobcggcilbgbaa
open Go.RowKit
set_option linter.unusedVariables false

def DrawnHostBy (W : World) (e : Ending) (w' : World) : Prop :=
  ∃ (way : Int) (A : Option Addr) (n c : Nat) (hs : List H3) (key : Int), e = .returned (.tuple #[.int .i64 way, .slice A n c, .int .i64 key]) ∧ 0 ≤ way ∧ way ≤ 5 ∧ n ≤ 8 ∧ n ≤ c ∧ c ≤ maxLen ∧ -1 ≤ key ∧ key ≤ 1000003 ∧ Sl w' 0 w'.heap.size 3 A n (hostsV hs) ∧ Below W.heap.size W w'
def DrawnSpreadOf (W : World) (e : Ending) (w' : World) : Prop :=
  ∃ (way : Int) (A : Option Addr) (n c : Nat) (hs : List H3) (A2 : Option Addr) (n2 c2 : Nat) (ks : List Int), e = .returned (.tuple #[.int .i64 way, .slice A n c, .slice A2 n2 c2]) ∧ 0 ≤ way ∧ way ≤ 5 ∧ n ≤ 8 ∧ n ≤ c ∧ c ≤ maxLen ∧ n2 ≤ 7 ∧ n2 ≤ c2 ∧ c2 ≤ maxLen ∧ Sl w' 0 w'.heap.size 3 A n (hostsV hs) ∧ Sl w' 0 w'.heap.size 1 A2 n2 (ks.map (Value.int .i64)) ∧ Below W.heap.size W w'

set_option maxRecDepth 10000 in
set_option maxHeartbeats 1600000 in
theorem drawHostBy_any (A : Option Addr) (n c : Nat) (zs : List Int) (w : World) (hs : Sl w 0 w.heap.size 1 A n (zs.map (Value.int .u8))) (hnc : n ≤ c) (hc : c ≤ 9223372036854775807) (hz : AllByte zs) :
    Calls Try.prog 16 #[.slice A n c] w (DrawnHostBy w) := by
  obtain ⟨ii64, tii, tzi64, tsi64, _⟩ := info_parts infoI
  go_enter Try.func16, Try.ntmps16
  go_wp2_with fail
  refine (open_any _ _ _ zs _ hs hnc hc hz).mono ?_
  rintro e w1 ⟨g, hg, rfl, hr, b1⟩
  go_wp2_with fail
  refine (pool_any _ _ _ _ hr (by omega) (by omega) (by omega)).mono ?_
  rintro e w2 ⟨A1, m1, c1, ps, rfl, h1, h2, h3, own1, D⟩
  have hlt := D.lt
  have b2 := D.out b1 (by omega)
  have sP := Sl.of_own own1
  have hrd := D.rd
  obtain ⟨P, hP⟩ : ∃ q, 0 + 20000 = q := ⟨_, rfl⟩
  have hPb : P ≤ 20000 := by omega
  rw [hP] at hrd
  have hw12 := D.size_
  clear own1 D hr hP
  replace hrd : Rd w2.drew g (P + 100 * 0) := hrd
  go_wp2_with fail
  refine wp_region_typed (by kernel_rfl) (tsOf [(5, .pointer (some ⟨g, 0, none⟩)), (6, .slice A1 m1 c1)] [(11, tRow w2.heap.size 6 (tInt .i64 0 5)), (12, tLit (.pointer (some ⟨g, 0, none⟩))), (13, tInt .i64 0 5), (14, tAt w2.heap.size (tInt .i64 0 5)), (15, tInt .i64 0 5), (16, tLit (.slice A1 m1 c1)), (17, tLit (.pointer (some ⟨g, 0, none⟩))), (18, tInt .i64 (-1) 1000003), (2, tInt .i64 0 5), (3, tLit (.slice A1 m1 c1)), (4, tInt .i64 (-1) 1000003)]) (fun _ _ => True) (Gd w2 g (P) (· = g) (fun _ => True)) 11 11 rfl [some 11, some 12, some 13, some 14, some 15, some 16, some 17, some 18, some 2, some 3, some 4] (by kernel_rfl) (by kernel_rfl) rfl (fun _ _ _ h hg => Gd.more _ _ _ h hg) ⟨hrd, (GrF.refl _ _).drew, rfl, trivial⟩ (ts_old (by intro x hx; simp only [List.mem_cons, List.not_mem_nil, or_false] at hx; rcases hx with rfl | rfl <;> rfl) (by kernel_rfl)) ?_ ?_
  · obtain ⟨TS, hTS⟩ : ∃ TS, TS = tsOf [(5, .pointer (some ⟨g, 0, none⟩)), (6, .slice A1 m1 c1)] [(11, tRow w2.heap.size 6 (tInt .i64 0 5)), (12, tLit (.pointer (some ⟨g, 0, none⟩))), (13, tInt .i64 0 5), (14, tAt w2.heap.size (tInt .i64 0 5)), (15, tInt .i64 0 5), (16, tLit (.slice A1 m1 c1)), (17, tLit (.pointer (some ⟨g, 0, none⟩))), (18, tInt .i64 (-1) 1000003), (2, tInt .i64 0 5), (3, tLit (.slice A1 m1 c1)), (4, tInt .i64 (-1) 1000003)] := ⟨_, rfl⟩
    rw [← hTS]
    have hst : ∀ s, Stab w2.heap.size (TS s) := fun s => by rw [hTS]; exact stab_ts (by exact ⟨stab_row (stab_int _ _ _), stab_lit _, stab_int _ _ _, stab_at (stab_int _ _ _), stab_int _ _ _, stab_lit _, stab_lit _, stab_int _ _ _, stab_int _ _ _, stab_lit _, stab_int _ _ _, trivial⟩) s
    have T5 : TS 5 = tLit (.pointer (some ⟨g, 0, none⟩)) := by rw [hTS]; rfl
    have T6 : TS 6 = tLit (.slice A1 m1 c1) := by rw [hTS]; rfl
    have T11 : TS 11 = tRow w2.heap.size 6 (tInt .i64 0 5) := by rw [hTS]; rfl
    have T12 : TS 12 = tLit (.pointer (some ⟨g, 0, none⟩)) := by rw [hTS]; rfl
    have T13 : TS 13 = tInt .i64 0 5 := by rw [hTS]; rfl
    have T14 : TS 14 = tAt w2.heap.size (tInt .i64 0 5) := by rw [hTS]; rfl
    have T15 : TS 15 = tInt .i64 0 5 := by rw [hTS]; rfl
    have T16 : TS 16 = tLit (.slice A1 m1 c1) := by rw [hTS]; rfl
    have T17 : TS 17 = tLit (.pointer (some ⟨g, 0, none⟩)) := by rw [hTS]; rfl
    have T18 : TS 18 = tInt .i64 (-1) 1000003 := by rw [hTS]; rfl
    have T2 : TS 2 = tInt .i64 0 5 := by rw [hTS]; rfl
    have T3 : TS 3 = tLit (.slice A1 m1 c1) := by rw [hTS]; rfl
    have T4 : TS 4 = tInt .i64 (-1) 1000003 := by rw [hTS]; rfl
    have C : Ctx Try.prog g (P) w2.heap.size 11 (· = g) (fun _ => True) TS (fun _ _ => True) := ⟨hrd.lt, rfl, by omega, hst, fun _ _ _ _ h => h, fun _ _ _ h => h⟩
    have hXi : ∀ w : World, True := fun _ => trivial
    clear hst hTS
    exact ⟨t_row C hXi [.const (.int .i64 1), .const (.int .i64 2), .const (.int .i64 3), .const (.int .i64 4), .const (.int .i64 0), .const (.int .i64 5)] Try.underlying40 tii tsi64 tzi64 rfl rfl (by omega) (by omega) int_one (stab_int _ _ _) ⟨(ot_const (by omega) (by omega)), (ot_const (by omega) (by omega)), (ot_const (by omega) (by omega)), (ot_const (by omega) (by omega)), (ot_const (by omega) (by omega)), (ot_const (by omega) (by omega)), trivial⟩ (Nat.le_refl _) T11,
    t_move C hXi (ot_tmp T5) T12,
    t_pick C hXi (ot_tmp T12) (ot_const (lo := 6) (hi := 6) (by omega) (by omega)) (by omega) (by omega) (by omega) T13,
    t_index C hXi Try.underlying40 tii tsi64 (ot_tmp T11) (ot_tmp T13) (by omega) (by omega) T14,
    t_load C hXi Try.underlying3 rfl (ot_tmp T14) T15,
    t_move C hXi (ot_tmp T6) T16,
    t_move C hXi (ot_tmp T5) T17,
    t_key C hXi (ot_tmp T17) (ot_const (lo := 12) (hi := 12) (by omega) (by omega)) (by omega) (by omega) T18,
    t_assign C hXi (ot_tmp T15) T2,
    t_assign C hXi (ot_tmp T16) T3,
    t_assign C hXi (ot_tmp T18) T4,
    trivial⟩
  · intro vs w' hG hty _ _
    obtain ⟨way, y0, y1, e2⟩ := (show tInt .i64 0 5 (vs 2) w' from hty 8 2 (by omega) (by omega) rfl)
    have e3 : vs 3 = .slice A1 m1 c1 := hty 9 3 (by omega) (by omega) rfl
    obtain ⟨key, k0, k1, e4⟩ := (show tInt .i64 (-1) 1000003 (vs 4) w' from hty 10 4 (by omega) (by omega) rfl)
    clear hty
    have hgr := hG.gr.to_grown
    have sP' := sP.grown hgr (Nat.le_refl _) (fun q hq => by cases hq; right; omega)
    have hz2 := hgr.size
    refine wpList_nil ?_
    simp only [putL, e2, e3, e4]
    go_wp2
    refine bodyPost_ret (v := .tuple #[.int .i64 way, .slice A1 m1 c1, .int .i64 key]) ?_ rfl ⟨way, A1, m1, c1, ps, key, rfl, y0, y1, h1, h2, h3, k0, k1, sP'.more (Nat.zero_le _) hz2, b2.grown hgr b2.size (fun q hq => by cases hq; exact hg)⟩
    simp [results, Try.results16, go_sem]

set_option maxRecDepth 10000 in
set_option maxHeartbeats 1600000 in
theorem drawSpreadOf_any (A : Option Addr) (n c : Nat) (zs : List Int) (w : World) (hs : Sl w 0 w.heap.size 1 A n (zs.map (Value.int .u8))) (hnc : n ≤ c) (hc : c ≤ 9223372036854775807) (hz : AllByte zs) :
    Calls Try.prog 33 #[.slice A n c] w (DrawnSpreadOf w) := by
  obtain ⟨ii64, tii, tzi64, tsi64, _⟩ := info_parts infoI
  go_enter Try.func33, Try.ntmps33
  go_wp2_with fail
  refine (open_any _ _ _ zs _ hs hnc hc hz).mono ?_
  rintro e w1 ⟨g, hg, rfl, hr, b1⟩
  go_wp2_with fail
  refine (pool_any _ _ _ _ hr (by omega) (by omega) (by omega)).mono ?_
  rintro e w2 ⟨A1, m1, c1, ps, rfl, h1, h2, h3, own1, D⟩
  have hlt := D.lt
  have b2 := D.out b1 (by omega)
  have sP := Sl.of_own own1
  have hrd := D.rd
  obtain ⟨P, hP⟩ : ∃ q, 0 + 20000 = q := ⟨_, rfl⟩
  have hPb : P ≤ 20000 := by omega
  rw [hP] at hrd
  have hw12 := D.size_
  clear own1 D hr hP
  replace hrd : Rd w2.drew g (P + 100 * 0) := hrd
  go_wp2_with fail
  refine wp_region_typed (by kernel_rfl) (tsOf [(5, .pointer (some ⟨g, 0, none⟩)), (6, .slice A1 m1 c1)] [(11, tRow w2.heap.size 6 (tInt .i64 0 5)), (12, tLit (.pointer (some ⟨g, 0, none⟩))), (13, tInt .i64 0 5), (14, tAt w2.heap.size (tInt .i64 0 5)), (15, tInt .i64 0 5), (16, tLit (.slice A1 m1 c1)), (17, tLit (.pointer (some ⟨g, 0, none⟩))), (18, tList w2.heap.size 3 .i64 (-1) 1000003 7), (2, tInt .i64 0 5), (3, tLit (.slice A1 m1 c1)), (4, tList w2.heap.size 3 .i64 (-1) 1000003 7)]) (fun _ _ => True) (Gd w2 g (P) (· = g) (fun _ => True)) 11 11 rfl [some 11, some 12, some 13, some 14, some 15, some 16, some 17, some 18, some 2, some 3, some 4] (by kernel_rfl) (by kernel_rfl) rfl (fun _ _ _ h hg => Gd.more _ _ _ h hg) ⟨hrd, (GrF.refl _ _).drew, rfl, trivial⟩ (ts_old (by intro x hx; simp only [List.mem_cons, List.not_mem_nil, or_false] at hx; rcases hx with rfl | rfl <;> rfl) (by kernel_rfl)) ?_ ?_
  · obtain ⟨TS, hTS⟩ : ∃ TS, TS = tsOf [(5, .pointer (some ⟨g, 0, none⟩)), (6, .slice A1 m1 c1)] [(11, tRow w2.heap.size 6 (tInt .i64 0 5)), (12, tLit (.pointer (some ⟨g, 0, none⟩))), (13, tInt .i64 0 5), (14, tAt w2.heap.size (tInt .i64 0 5)), (15, tInt .i64 0 5), (16, tLit (.slice A1 m1 c1)), (17, tLit (.pointer (some ⟨g, 0, none⟩))), (18, tList w2.heap.size 3 .i64 (-1) 1000003 7), (2, tInt .i64 0 5), (3, tLit (.slice A1 m1 c1)), (4, tList w2.heap.size 3 .i64 (-1) 1000003 7)] := ⟨_, rfl⟩
    rw [← hTS]
    have hst : ∀ s, Stab w2.heap.size (TS s) := fun s => by rw [hTS]; exact stab_ts (by exact ⟨stab_row (stab_int _ _ _), stab_lit _, stab_int _ _ _, stab_at (stab_int _ _ _), stab_int _ _ _, stab_lit _, stab_lit _, stab_list, stab_int _ _ _, stab_lit _, stab_list, trivial⟩) s
    have T5 : TS 5 = tLit (.pointer (some ⟨g, 0, none⟩)) := by rw [hTS]; rfl
    have T6 : TS 6 = tLit (.slice A1 m1 c1) := by rw [hTS]; rfl
    have T11 : TS 11 = tRow w2.heap.size 6 (tInt .i64 0 5) := by rw [hTS]; rfl
    have T12 : TS 12 = tLit (.pointer (some ⟨g, 0, none⟩)) := by rw [hTS]; rfl
    have T13 : TS 13 = tInt .i64 0 5 := by rw [hTS]; rfl
    have T14 : TS 14 = tAt w2.heap.size (tInt .i64 0 5) := by rw [hTS]; rfl
    have T15 : TS 15 = tInt .i64 0 5 := by rw [hTS]; rfl
    have T16 : TS 16 = tLit (.slice A1 m1 c1) := by rw [hTS]; rfl
    have T17 : TS 17 = tLit (.pointer (some ⟨g, 0, none⟩)) := by rw [hTS]; rfl
    have T18 : TS 18 = tList w2.heap.size 3 .i64 (-1) 1000003 7 := by rw [hTS]; rfl
    have T2 : TS 2 = tInt .i64 0 5 := by rw [hTS]; rfl
    have T3 : TS 3 = tLit (.slice A1 m1 c1) := by rw [hTS]; rfl
    have T4 : TS 4 = tList w2.heap.size 3 .i64 (-1) 1000003 7 := by rw [hTS]; rfl
    have C : Ctx Try.prog g (P) w2.heap.size 11 (· = g) (fun _ => True) TS (fun _ _ => True) := ⟨hrd.lt, rfl, by omega, hst, fun _ _ _ _ h => h, fun _ _ _ h => h⟩
    have hXi : ∀ w : World, True := fun _ => trivial
    clear hst hTS
    exact ⟨t_row C hXi [.const (.int .i64 1), .const (.int .i64 2), .const (.int .i64 3), .const (.int .i64 4), .const (.int .i64 0), .const (.int .i64 5)] Try.underlying40 tii tsi64 tzi64 rfl rfl (by omega) (by omega) int_one (stab_int _ _ _) ⟨(ot_const (by omega) (by omega)), (ot_const (by omega) (by omega)), (ot_const (by omega) (by omega)), (ot_const (by omega) (by omega)), (ot_const (by omega) (by omega)), (ot_const (by omega) (by omega)), trivial⟩ (Nat.le_refl _) T11,
    t_move C hXi (ot_tmp T5) T12,
    t_pick C hXi (ot_tmp T12) (ot_const (lo := 6) (hi := 6) (by omega) (by omega)) (by omega) (by omega) (by omega) T13,
    t_index C hXi Try.underlying40 tii tsi64 (ot_tmp T11) (ot_tmp T13) (by omega) (by omega) T14,
    t_load C hXi Try.underlying3 rfl (ot_tmp T14) T15,
    t_move C hXi (ot_tmp T6) T16,
    t_move C hXi (ot_tmp T5) T17,
    t_keys C hXi (ot_tmp T17) (ot_const (lo := 60) (hi := 60) (by omega) (by omega)) (by omega) (by omega) (Nat.le_refl _) T18,
    t_assign C hXi (ot_tmp T15) T2,
    t_assign C hXi (ot_tmp T16) T3,
    t_assign C hXi (ot_tmp T18) T4,
    trivial⟩
  · intro vs w' hG hty _ _
    obtain ⟨way, y0, y1, e2⟩ := (show tInt .i64 0 5 (vs 2) w' from hty 8 2 (by omega) (by omega) rfl)
    have e3 : vs 3 = .slice A1 m1 c1 := hty 9 3 (by omega) (by omega) rfl
    obtain ⟨A2, m2, c2, ks, e4, g1, g2, g3, _, own2⟩ := (show tList w2.heap.size 3 .i64 (-1) 1000003 7 (vs 4) w' from hty 10 4 (by omega) (by omega) rfl)
    clear hty
    have hgr := hG.gr.to_grown
    have sP' := sP.grown hgr (Nat.le_refl _) (fun q hq => by cases hq; right; omega)
    have hz2 := hgr.size
    refine wpList_nil ?_
    simp only [putL, e2, e3, e4]
    go_wp2
    refine bodyPost_ret (v := .tuple #[.int .i64 way, .slice A1 m1 c1, .slice A2 m2 c2]) ?_ rfl ⟨way, A1, m1, c1, ps, A2, m2, c2, ks, rfl, y0, y1, h1, h2, h3, g1, g2, g3, sP'.more (Nat.zero_le _) hz2, (Sl.of_own own2).more (Nat.zero_le _) (Nat.le_refl _), b2.grown hgr b2.size (fun q hq => by cases hq; exact hg)⟩
    simp [results, Try.results33, go_sem]
end Go.Proofs.Ytfobcggcilbgbaa
