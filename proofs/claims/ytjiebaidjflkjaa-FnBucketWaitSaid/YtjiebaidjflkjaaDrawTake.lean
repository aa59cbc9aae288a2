/-
  DrawTakeTokens: a bucket, a time and a number of tokens.
-/
import Derived.Test.YtjiebaidjflkjaaTMore
import Derived.Test.YtjiebaidjflkjaaDrawBucket
namespace Go.Proofs.Ytjiebaidjflkjaa
open Go.RowKit
set_option linter.unusedVariables false

def DrawnTake (W : World) (e : Ending) (w' : World) : Prop :=
  ∃ r m h l now many : Int, e = .returned (.tuple #[.agg #[.int .i64 r, .int .i64 m, .int .i64 h, .int .i64 l], .int .i64 now, .int .i64 many]) ∧ 0 ≤ r ∧ r ≤ 1001 ∧ 1 ≤ m ∧ m ≤ 10001 ∧ -1 ≤ h ∧ h ≤ 257 ∧ -1 ≤ l ∧ l ≤ 100001 ∧ -2 ≤ now ∧ now ≤ 100030 ∧ -1 ≤ many ∧ many ≤ 10001 ∧ Below W.heap.size W w'

set_option maxRecDepth 10000 in
set_option maxHeartbeats 1600000 in
theorem drawTakeTokens_any (A : Option Addr) (n c : Nat) (zs : List Int) (w : World) (hs : Sl w 0 w.heap.size 1 A n (zs.map (Value.int .u8))) (hnc : n ≤ c) (hc : c ≤ 9223372036854775807) (hz : AllByte zs) :
    Calls Try.prog 31 #[.slice A n c] w (DrawnTake w) := by
  have b0 := (Below.refl w.heap.size w).alloc (Nat.le_refl _) (.cells #[.int .i64 0, .int .i64 0, .int .i64 0, .int .i64 0] 38)
  have K0 := Blk.new w 38 #[.int .i64 0, .int .i64 0, .int .i64 0, .int .i64 0]
  go_enter Try.func31, Try.ntmps31
  go_wp2_with fail
  refine (open_anyX w.heap.size _ _ _ zs _ (by simp) (hs.alloc (Nat.le_refl _) _) hnc hc hz).mono ?_
  rintro e w1 ⟨g, hg, rfl, hr, b1, A0, n0, c0, zs0, hz0, hcell, hsl⟩
  have K1 := K0.below b1 (by simp)
  have b01 := b0.trans (b1.mono (by simp))
  simp only [World.size_alloc] at hg
  clear K0 b0 b1
  go_wp2_with fail
  refine (bucket_any _ _ _ _ hr (by omega) (by omega) (by omega)).mono ?_
  rintro e w2 ⟨r, m, h, l, rfl, q1, q2, q3, q4, q5, q6, q7, q8, D⟩
  have K2 := K1.grown D.gr (by simp; omega)
  have b2 := D.out b01 (by omega)
  clear K1 b01 hr
  go_wp2_with fail
  have D3 := D.alloc (.cells #[.int .i64 r, .int .i64 m, .int .i64 h, .int .i64 l] 38)
  have K3 := K2.alloc (.cells #[.int .i64 r, .int .i64 m, .int .i64 h, .int .i64 l] 38)
  have Q3 := Blk.new w2 38 #[.int .i64 r, .int .i64 m, .int .i64 h, .int .i64 l]
  have b3 := b2.alloc b2.size (.cells #[.int .i64 r, .int .i64 m, .int .i64 h, .int .i64 l] 38)
  have hlt := D.rd.lt
  have hK := K2.lt
  obtain ⟨q, hq⟩ : ∃ q, w2.heap.size = q := ⟨_, rfl⟩
  obtain ⟨w3, hw3⟩ : ∃ w3, w3 = w2.alloc (.cells #[.int .i64 r, .int .i64 m, .int .i64 h, .int .i64 l] 38) := ⟨_, rfl⟩
  have hsl' : Sl w3 0 w.heap.size 1 A0 n0 (zs0.map (Value.int .u8)) := by
    rw [hw3]
    exact ((hsl.more (Nat.le_refl _) (Nat.le_refl _)).grown D.gr (by have := D.lt; omega) (fun k hk => by cases hk; left; omega)).alloc (by omega) _
  rw [← hw3] at D3 K3 Q3 b3 ⊢
  rw [hq] at Q3 hlt hK ⊢
  clear hw3 hq D K2 b2
  have hqg : ¬ (q = g ∨ q = w.heap.size) := by omega
  have hwg : w.heap.size < g := by omega
  have hE0 : Eres g w.heap.size 4 38 A0 n0 c0 zs0 w3.drew := ⟨D3.c0.trans hcell, hsl', _, rfl, K3⟩
  obtain ⟨P1, hP1⟩ : ∃ q, 0 + 7 = q := ⟨_, rfl⟩
  rw [hP1] at D3
  have hrd : Rd w3.drew g (P1 + 100 * 0) := D3.rd
  obtain ⟨ii64, tii, tzi64, tsi64, _⟩ := info_parts infoI
  refine wp_region_typed (by kernel_rfl) (tsOf [(2, .pointer (some ⟨w.heap.size, 0, none⟩)), (5, .pointer (some ⟨g, 0, none⟩)), (6, .pointer (some ⟨q, 0, none⟩))] [(11, tLit (.agg #[.int .i64 r, .int .i64 m, .int .i64 h, .int .i64 l])), (12, tLit (.pointer (some ⟨q, 3, none⟩))), (13, tInt .i64 (-1) 100001), (14, tLit (.pointer (some ⟨g, 0, none⟩))), (15, tInt .i64 0 29), (16, tInt .i64 (-1) 100030), (17, tLit (.pointer (some ⟨q, 3, none⟩))), (18, tInt .i64 (-1) 100001), (19, tInt .i64 (-2) 100000), (20, tRow w3.heap.size 3 (tInt .i64 (-2) 100030)), (21, tRow w3.heap.size 6 (tInt .i64 0 2)), (22, tLit (.pointer (some ⟨g, 0, none⟩))), (23, tInt .i64 0 5), (24, tAt w3.heap.size (tInt .i64 0 2)), (25, tInt .i64 0 2), (26, tAt w3.heap.size (tInt .i64 (-2) 100030)), (27, tInt .i64 (-2) 100030), (28, tLit (.pointer (some ⟨g, 0, none⟩))), (29, tInt .i64 0 98), (30, tRow w3.heap.size 4 (tInt .i64 (-1) 10001)), (31, tRow w3.heap.size 7 (tInt .i64 0 3)), (32, tLit (.pointer (some ⟨g, 0, none⟩))), (33, tInt .i64 0 6), (34, tAt w3.heap.size (tInt .i64 0 3)), (35, tInt .i64 0 3), (36, tAt w3.heap.size (tInt .i64 (-1) 10001)), (37, tInt .i64 (-1) 10001), (3, tInt .i64 (-2) 100030), (4, tInt .i64 (-1) 10001)]) (Xe 27 w.heap.size 38 #[.int .i64 r, .int .i64 m, .int .i64 h, .int .i64 l]) (Gd w3 g (P1) (fun k => k = g ∨ k = w.heap.size) (Eres g w.heap.size 4 38 A0 n0 c0 zs0)) 30 30 rfl [some 11, some 12, some 13, some 14, some 15, some 16, some 17, some 18, some 19, some 20, some 21, some 22, some 23, some 24, some 25, some 26, some 27, some 28, some 29, some 30, some 31, some 32, some 33, some 34, some 35, some 36, some 37, none, some 3, some 4] (by kernel_rfl) (by kernel_rfl) rfl (fun _ _ _ h hg => Gd.more _ _ _ h hg) ⟨hrd, (GrF.refl _ _).drew, rfl, hE0⟩ (ts_old (by intro x hx; simp only [List.mem_cons, List.not_mem_nil, or_false] at hx; rcases hx with rfl | rfl | rfl <;> rfl) (by kernel_rfl)) ?_ ?_
  · obtain ⟨TS, hTS⟩ : ∃ TS, TS = tsOf [(2, .pointer (some ⟨w.heap.size, 0, none⟩)), (5, .pointer (some ⟨g, 0, none⟩)), (6, .pointer (some ⟨q, 0, none⟩))] [(11, tLit (.agg #[.int .i64 r, .int .i64 m, .int .i64 h, .int .i64 l])), (12, tLit (.pointer (some ⟨q, 3, none⟩))), (13, tInt .i64 (-1) 100001), (14, tLit (.pointer (some ⟨g, 0, none⟩))), (15, tInt .i64 0 29), (16, tInt .i64 (-1) 100030), (17, tLit (.pointer (some ⟨q, 3, none⟩))), (18, tInt .i64 (-1) 100001), (19, tInt .i64 (-2) 100000), (20, tRow w3.heap.size 3 (tInt .i64 (-2) 100030)), (21, tRow w3.heap.size 6 (tInt .i64 0 2)), (22, tLit (.pointer (some ⟨g, 0, none⟩))), (23, tInt .i64 0 5), (24, tAt w3.heap.size (tInt .i64 0 2)), (25, tInt .i64 0 2), (26, tAt w3.heap.size (tInt .i64 (-2) 100030)), (27, tInt .i64 (-2) 100030), (28, tLit (.pointer (some ⟨g, 0, none⟩))), (29, tInt .i64 0 98), (30, tRow w3.heap.size 4 (tInt .i64 (-1) 10001)), (31, tRow w3.heap.size 7 (tInt .i64 0 3)), (32, tLit (.pointer (some ⟨g, 0, none⟩))), (33, tInt .i64 0 6), (34, tAt w3.heap.size (tInt .i64 0 3)), (35, tInt .i64 0 3), (36, tAt w3.heap.size (tInt .i64 (-1) 10001)), (37, tInt .i64 (-1) 10001), (3, tInt .i64 (-2) 100030), (4, tInt .i64 (-1) 10001)] := ⟨_, rfl⟩
    rw [← hTS]
    have hst : ∀ s, Stab w3.heap.size (TS s) := fun s => by rw [hTS]; exact stab_ts (by exact ⟨stab_lit _, stab_lit _, stab_int _ _ _, stab_lit _, stab_int _ _ _, stab_int _ _ _, stab_lit _, stab_int _ _ _, stab_int _ _ _, stab_row (stab_int _ _ _), stab_row (stab_int _ _ _), stab_lit _, stab_int _ _ _, stab_at (stab_int _ _ _), stab_int _ _ _, stab_at (stab_int _ _ _), stab_int _ _ _, stab_lit _, stab_int _ _ _, stab_row (stab_int _ _ _), stab_row (stab_int _ _ _), stab_lit _, stab_int _ _ _, stab_at (stab_int _ _ _), stab_int _ _ _, stab_at (stab_int _ _ _), stab_int _ _ _, stab_int _ _ _, stab_int _ _ _, trivial⟩) s
    have T2 : TS 2 = tLit (.pointer (some ⟨w.heap.size, 0, none⟩)) := by rw [hTS]; rfl
    have T5 : TS 5 = tLit (.pointer (some ⟨g, 0, none⟩)) := by rw [hTS]; rfl
    have T6 : TS 6 = tLit (.pointer (some ⟨q, 0, none⟩)) := by rw [hTS]; rfl
    have T11 : TS 11 = tLit (.agg #[.int .i64 r, .int .i64 m, .int .i64 h, .int .i64 l]) := by rw [hTS]; rfl
    have T12 : TS 12 = tLit (.pointer (some ⟨q, 3, none⟩)) := by rw [hTS]; rfl
    have T13 : TS 13 = tInt .i64 (-1) 100001 := by rw [hTS]; rfl
    have T14 : TS 14 = tLit (.pointer (some ⟨g, 0, none⟩)) := by rw [hTS]; rfl
    have T15 : TS 15 = tInt .i64 0 29 := by rw [hTS]; rfl
    have T16 : TS 16 = tInt .i64 (-1) 100030 := by rw [hTS]; rfl
    have T17 : TS 17 = tLit (.pointer (some ⟨q, 3, none⟩)) := by rw [hTS]; rfl
    have T18 : TS 18 = tInt .i64 (-1) 100001 := by rw [hTS]; rfl
    have T19 : TS 19 = tInt .i64 (-2) 100000 := by rw [hTS]; rfl
    have T20 : TS 20 = tRow w3.heap.size 3 (tInt .i64 (-2) 100030) := by rw [hTS]; rfl
    have T21 : TS 21 = tRow w3.heap.size 6 (tInt .i64 0 2) := by rw [hTS]; rfl
    have T22 : TS 22 = tLit (.pointer (some ⟨g, 0, none⟩)) := by rw [hTS]; rfl
    have T23 : TS 23 = tInt .i64 0 5 := by rw [hTS]; rfl
    have T24 : TS 24 = tAt w3.heap.size (tInt .i64 0 2) := by rw [hTS]; rfl
    have T25 : TS 25 = tInt .i64 0 2 := by rw [hTS]; rfl
    have T26 : TS 26 = tAt w3.heap.size (tInt .i64 (-2) 100030) := by rw [hTS]; rfl
    have T27 : TS 27 = tInt .i64 (-2) 100030 := by rw [hTS]; rfl
    have T28 : TS 28 = tLit (.pointer (some ⟨g, 0, none⟩)) := by rw [hTS]; rfl
    have T29 : TS 29 = tInt .i64 0 98 := by rw [hTS]; rfl
    have T30 : TS 30 = tRow w3.heap.size 4 (tInt .i64 (-1) 10001) := by rw [hTS]; rfl
    have T31 : TS 31 = tRow w3.heap.size 7 (tInt .i64 0 3) := by rw [hTS]; rfl
    have T32 : TS 32 = tLit (.pointer (some ⟨g, 0, none⟩)) := by rw [hTS]; rfl
    have T33 : TS 33 = tInt .i64 0 6 := by rw [hTS]; rfl
    have T34 : TS 34 = tAt w3.heap.size (tInt .i64 0 3) := by rw [hTS]; rfl
    have T35 : TS 35 = tInt .i64 0 3 := by rw [hTS]; rfl
    have T36 : TS 36 = tAt w3.heap.size (tInt .i64 (-1) 10001) := by rw [hTS]; rfl
    have T37 : TS 37 = tInt .i64 (-1) 10001 := by rw [hTS]; rfl
    have T3 : TS 3 = tInt .i64 (-2) 100030 := by rw [hTS]; rfl
    have T4 : TS 4 = tInt .i64 (-1) 10001 := by rw [hTS]; rfl
    have C : Ctx Try.prog g (P1) w3.heap.size 30 (fun k => k = g ∨ k = w.heap.size) (Eres g w.heap.size 4 38 A0 n0 c0 zs0) TS (Xe 27 w.heap.size 38 #[.int .i64 r, .int .i64 m, .int .i64 h, .int .i64 l]) := ⟨hrd.lt, .inl rfl, by omega, hst, fun j w w' hg hx e => (hg.1.block _ (hx e).lt (by omega)).trans (hx e), fun w w' hg h => h.keep (by omega) w w' hg⟩
    have hXi : ∀ i, i ≠ 27 → ∀ wx, (Xe 27 w.heap.size 38 #[.int .i64 r, .int .i64 m, .int .i64 h, .int .i64 l]) i wx := fun i hi wx e => absurd e hi
    clear hst hTS
    exact ⟨t_loadold (i := 0) C (hXi 0 (by omega)) Try.underlying38 rfl (by kernel_rfl) Q3 hqg (ot_tmp T6) T11,
    t_fieldold (i := 1) C (hXi 1 (by omega)) Try.underlying38 rfl tii tsi64 (ot_tmp T6) rfl (by omega) T12,
    t_loadnum (i := 2) C (hXi 2 (by omega)) Try.underlying3 rfl Q3 hqg rfl (fun _ => ⟨l, q7, q8, rfl⟩) (ot_tmp T12) T13,
    t_move (i := 3) C (hXi 3 (by omega)) (ot_tmp T5) T14,
    t_pick (i := 4) C (hXi 4 (by omega)) (ot_tmp T14) (ot_const (lo := 30) (hi := 30) (by omega) (by omega)) (by omega) (by omega) (by omega) T15,
    t_add (i := 5) C (hXi 5 (by omega)) (ot_tmp T13) (ot_tmp T15) (by omega) (by omega) (by omega) (by omega) T16,
    t_fieldold (i := 6) C (hXi 6 (by omega)) Try.underlying38 rfl tii tsi64 (ot_tmp T6) rfl (by omega) T17,
    t_loadnum (i := 7) C (hXi 7 (by omega)) Try.underlying3 rfl Q3 hqg rfl (fun _ => ⟨l, q7, q8, rfl⟩) (ot_tmp T17) T18,
    t_sub (i := 8) C (hXi 8 (by omega)) (ot_tmp T18) (ot_const (lo := 1) (hi := 1) (by omega) (by omega)) (by omega) (by omega) (by omega) (by omega) T19,
    t_row (i := 9) C (hXi 9 (by omega)) [.tmp 16, .const (.int .i64 100000), .tmp 19] Try.underlying22 tii tsi64 tzi64 rfl rfl (by omega) (by omega) int_one (stab_int _ _ _) ⟨((ot_tmp T16).more (by omega) (by omega)), (ot_const (by omega) (by omega)), ((ot_tmp T19).more (by omega) (by omega)), trivial⟩ (Nat.le_refl _) T20,
    t_row (i := 10) C (hXi 10 (by omega)) [.const (.int .i64 0), .const (.int .i64 0), .const (.int .i64 0), .const (.int .i64 0), .const (.int .i64 1), .const (.int .i64 2)] Try.underlying22 tii tsi64 tzi64 rfl rfl (by omega) (by omega) int_one (stab_int _ _ _) ⟨(ot_const (by omega) (by omega)), (ot_const (by omega) (by omega)), (ot_const (by omega) (by omega)), (ot_const (by omega) (by omega)), (ot_const (by omega) (by omega)), (ot_const (by omega) (by omega)), trivial⟩ (Nat.le_refl _) T21,
    t_move (i := 11) C (hXi 11 (by omega)) (ot_tmp T5) T22,
    t_pick (i := 12) C (hXi 12 (by omega)) (ot_tmp T22) (ot_const (lo := 6) (hi := 6) (by omega) (by omega)) (by omega) (by omega) (by omega) T23,
    t_index (i := 13) C (hXi 13 (by omega)) Try.underlying22 tii tsi64 (ot_tmp T21) (ot_tmp T23) (by omega) (by omega) T24,
    t_load (i := 14) C (hXi 14 (by omega)) Try.underlying3 rfl (ot_tmp T24) T25,
    t_index (i := 15) C (hXi 15 (by omega)) Try.underlying22 tii tsi64 (ot_tmp T20) (ot_tmp T25) (by omega) (by omega) T26,
    t_load (i := 16) C (hXi 16 (by omega)) Try.underlying3 rfl (ot_tmp T26) T27,
    t_move (i := 17) C (hXi 17 (by omega)) (ot_tmp T5) T28,
    t_pick (i := 18) C (hXi 18 (by omega)) (ot_tmp T28) (ot_const (lo := 99) (hi := 99) (by omega) (by omega)) (by omega) (by omega) (by omega) T29,
    t_row (i := 19) C (hXi 19 (by omega)) [.tmp 29, .const (.int .i64 10000), .const (.int .i64 10001), .const (.int .i64 (-1))] Try.underlying22 tii tsi64 tzi64 rfl rfl (by omega) (by omega) int_one (stab_int _ _ _) ⟨((ot_tmp T29).more (by omega) (by omega)), (ot_const (by omega) (by omega)), (ot_const (by omega) (by omega)), (ot_const (by omega) (by omega)), trivial⟩ (Nat.le_refl _) T30,
    t_row (i := 20) C (hXi 20 (by omega)) [.const (.int .i64 0), .const (.int .i64 0), .const (.int .i64 0), .const (.int .i64 0), .const (.int .i64 1), .const (.int .i64 2), .const (.int .i64 3)] Try.underlying22 tii tsi64 tzi64 rfl rfl (by omega) (by omega) int_one (stab_int _ _ _) ⟨(ot_const (by omega) (by omega)), (ot_const (by omega) (by omega)), (ot_const (by omega) (by omega)), (ot_const (by omega) (by omega)), (ot_const (by omega) (by omega)), (ot_const (by omega) (by omega)), (ot_const (by omega) (by omega)), trivial⟩ (Nat.le_refl _) T31,
    t_move (i := 21) C (hXi 21 (by omega)) (ot_tmp T5) T32,
    t_pick (i := 22) C (hXi 22 (by omega)) (ot_tmp T32) (ot_const (lo := 7) (hi := 7) (by omega) (by omega)) (by omega) (by omega) (by omega) T33,
    t_index (i := 23) C (hXi 23 (by omega)) Try.underlying22 tii tsi64 (ot_tmp T31) (ot_tmp T33) (by omega) (by omega) T34,
    t_load (i := 24) C (hXi 24 (by omega)) Try.underlying3 rfl (ot_tmp T34) T35,
    t_index (i := 25) C (hXi 25 (by omega)) Try.underlying22 tii tsi64 (ot_tmp T30) (ot_tmp T35) (by omega) (by omega) T36,
    t_load (i := 26) C (hXi 26 (by omega)) Try.underlying3 rfl (ot_tmp T36) T37,
    t_storeres C rfl hz0 (by omega) K3.lt (.inr rfl) (ot_tmp T2) (ot_tmp T11) (by kernel_rfl) rfl (by simp [Value.oneCell']) (fun j w hj e => absurd e hj) (fun w h _ => h),
    t_assign (i := 28) C (hXi 28 (by omega)) (ot_tmp T27) T3,
    t_assign (i := 29) C (hXi 29 (by omega)) (ot_tmp T37) T4,
    trivial⟩
  · intro vs w' hG hty _ hX2
    obtain ⟨now, n0', n1', e3⟩ := (show tInt .i64 (-2) 100030 (vs 3) w' from (show tInt .i64 (-2) 100030 (vs 3) w' from hty 28 3 (by omega) (by omega) rfl).more (by omega) (by omega))
    obtain ⟨many, t0, t1, e4⟩ := (show tInt .i64 (-1) 10001 (vs 4) w' from hty 29 4 (by omega) (by omega) rfl)
    have KE : Blk w' w.heap.size 38 #[.int .i64 r, .int .i64 m, .int .i64 h, .int .i64 l] := hX2 27 (by omega) (by omega) rfl
    have hgr := hG.gr
    have b5 : Below w.heap.size w w' := ⟨hgr.os.trans b3.os, hgr.tape.trans b3.tape, hgr.output.trans b3.output, Nat.le_trans b3.size hgr.size, fun k hk => (hgr.block k (Nat.lt_of_lt_of_le hk b3.size) (by omega)).trans (b3.block k hk)⟩
    clear hty hX2
    refine wpList_nil ?_
    simp only [putL, e3, e4]
    go_wp2
    obtain ⟨x0, x1, x2, x3, _⟩ := KE.four
    refine bodyPost_ret (v := .tuple #[.agg #[.int .i64 r, .int .i64 m, .int .i64 h, .int .i64 l], .int .i64 now, .int .i64 many]) ?_ rfl ⟨r, m, h, l, now, many, rfl, q1, q2, q3, q4, q5, q6, q7, q8, n0', n1', t0, t1, b5⟩
    simp [results, Try.results31, go_sem, x0, x1, x2, x3]
end Go.Proofs.Ytjiebaidjflkjaa
