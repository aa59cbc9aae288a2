/-
  DrawHealthStep, l20Tests, DrawHealthRun, DrawHealthChanges.
-/
import Derived.Test.YtnhodloclonfdaaTMore
import Derived.Test.YtnhodloclonfdaaCopyBool
namespace Go.Proofs.Ytnhodloclonfdaa
open Go.RowKit
set_option linter.unusedVariables false

def DrawnHealth (W : World) (e : Ending) (w' : World) : Prop :=
  ∃ (u : Bool) (k : Int) (a : Bool) (r f : Int), e = .returned (.tuple #[.agg #[.bool u, .int .i64 k], .bool a, .int .i64 r, .int .i64 f]) ∧ -1 ≤ k ∧ k ≤ 11 ∧ 0 ≤ r ∧ r ≤ 4 ∧ 0 ≤ f ∧ f ≤ 14 ∧ Below W.heap.size W w'
theorem Blk.two' {w : World} {g : Nat} {t : TypeId} {a b : Value} (h : Blk w g t #[a, b]) : w.cell? ⟨g, 0, none⟩ = some a ∧ w.cell? ⟨g, 1, none⟩ = some b := ⟨h.two.1, h.two.2.1⟩
theorem Blk.picked {w w' : World} {g k : Nat} {t : TypeId} {cs : Array Value} (h : Blk w k t cs) (hg : w.grownBy w' (some g)) (hk : g < k) : Blk w' k t cs := h.grown hg (fun e => by cases e; omega)
theorem Blk.picked' {w w' : World} {g k : Nat} {t : TypeId} {cs : Array Value} (h : Blk w k t cs) (hg : w.grownBy w' (some g)) (hk : k < g) : Blk w' k t cs := h.grown hg (fun e => by cases e; omega)
/-- A cell of a literal of numbers, all in range. -/
theorem Blk.pickAt {w : World} {g : Nat} {t : TypeId} {k : IntKind} {xs : List Int} {lo hi : Int} (h : Blk w g t (xs.map (Value.int k)).toArray) (hx : ∀ x ∈ xs, lo ≤ x ∧ x ≤ hi) {z : Int} (h0 : 0 ≤ z) (h1 : z < xs.length) :
    ∃ z' : Int, w.cell? ⟨g, z.toNat, none⟩ = some (.int k z') ∧ lo ≤ z' ∧ z' ≤ hi := by
  have hl : z.toNat < xs.length := by omega
  refine ⟨xs[z.toNat], ?_, hx _ (List.getElem_mem hl)⟩
  rw [h.cell]
  simp [List.getElem?_eq_getElem hl]

set_option maxRecDepth 10000 in
set_option maxHeartbeats 1600000 in
theorem drawHealthStep_any (A : Option Addr) (n c : Nat) (zs : List Int) (w : World) (hs : Sl w 0 w.heap.size 1 A n (zs.map (Value.int .u8))) (hnc : n ≤ c) (hc : c ≤ 9223372036854775807) (hz : AllByte zs) :
    Calls Try.prog 15 #[.slice A n c] w (DrawnHealth w) := by
  have b0 := (Below.refl w.heap.size w).alloc (Nat.le_refl _) (.cells #[.bool false, .int .i64 0] 24)
  have K0 := Blk.new w 24 #[.bool false, .int .i64 0]
  go_enter Try.func15, Try.ntmps15
  go_wp2_with fail
  refine (open_anyX w.heap.size _ _ _ zs _ (by simp) (hs.alloc (Nat.le_refl _) _) hnc hc hz).mono ?_
  rintro e w1 ⟨g, hg, rfl, hr, b1, A0, n0, c0, zs0, hz0, hcell, hsl⟩
  have K1 := K0.below b1 (by simp)
  have b01 := b0.trans (b1.mono (by simp))
  simp only [World.size_alloc] at hg
  have D := Dw.start hr
  clear K0 b0 b1 hr
  go_wp2_with fail
  refine (pick_any _ _ _ _ D.rd (by omega) (by omega) (by omega)).mono ?_
  rintro e w2 ⟨v1, a1, a2, rfl, hr2, hg2⟩
  have D2 := D.picked hr2 hg2
  have K2 := K1.picked' hg2 (by omega)
  obtain ⟨u, hu⟩ : ∃ u : Bool, (v1 == 0) = u := ⟨_, rfl⟩
  clear D K1 hr2 hg2
  go_wp2_with fail
  refine (pick_any _ _ _ _ D2.rd (by omega) (by omega) (by omega)).mono ?_
  rintro e w4 ⟨v2, a3, a4, rfl, hr4, hg4⟩
  have D4 := D2.picked hr4 hg4
  have K4 := K2.picked' hg4 (by omega)
  clear D2 K2 hr4 hg4
  have D5 := (D4.alloc (.cells #[.int .i64 v2, .int .i64 10, .int .i64 11, .int .i64 (-1)] 3)).alloc (.cells #[.int .i64 0, .int .i64 0, .int .i64 0, .int .i64 0, .int .i64 1, .int .i64 2, .int .i64 3] 3)
  have K5 := (K4.alloc (.cells #[.int .i64 v2, .int .i64 10, .int .i64 11, .int .i64 (-1)] 3)).alloc (.cells #[.int .i64 0, .int .i64 0, .int .i64 0, .int .i64 0, .int .i64 1, .int .i64 2, .int .i64 3] 3)
  have RA := (Blk.new w4 3 #[.int .i64 v2, .int .i64 10, .int .i64 11, .int .i64 (-1)]).alloc (.cells #[.int .i64 0, .int .i64 0, .int .i64 0, .int .i64 0, .int .i64 1, .int .i64 2, .int .i64 3] 3)
  have RB := Blk.new (w4.alloc (.cells #[.int .i64 v2, .int .i64 10, .int .i64 11, .int .i64 (-1)] 3)) 3 #[.int .i64 0, .int .i64 0, .int .i64 0, .int .i64 0, .int .i64 1, .int .i64 2, .int .i64 3]
  have hlt4 := D4.rd.lt
  go_wp2_with fail
  refine (pick_any _ _ _ _ D5.rd (by omega) (by omega) (by omega)).mono ?_
  rintro e w6 ⟨v3, a5, a6, rfl, hr6, hg6⟩
  have D6 := D5.picked hr6 hg6
  have K6 := K5.picked' hg6 (by omega)
  have RA6 := RA.picked hg6 (by omega)
  have RB6 := RB.picked hg6 (by simp; omega)
  simp only [World.size_alloc] at RB6
  obtain ⟨i, hi, i0, i1⟩ := RB6.pickAt (xs := [0, 0, 0, 0, 1, 2, 3]) (lo := 0) (hi := 3) (by intro x hx; simp at hx; omega) a5 (by simp; omega)
  obtain ⟨k, hk, k0, k1⟩ := RA6.pickAt (xs := [v2, 10, 11, -1]) (lo := -1) (hi := 11) (by intro x hx; simp at hx; omega) i0 (by simp; omega)
  replace a6 : v3 < 7 := by omega
  replace i1 : i < 4 := by omega
  clear D4 K4 D5 K5 RA RB hr6 hg6 RA6 RB6
  go_wp2_with fail
  have D3 := D6.alloc (.cells #[.bool u, .int .i64 k] 24)
  have K3 := K6.alloc (.cells #[.bool u, .int .i64 k] 24)
  have Q3 := Blk.new w6 24 #[.bool u, .int .i64 k]
  have hlt := D6.rd.lt
  have hK := K6.lt
  obtain ⟨q, hq⟩ : ∃ q, w6.heap.size = q := ⟨_, rfl⟩
  obtain ⟨w3, hw3⟩ : ∃ w3, w3 = w6.alloc (.cells #[.bool u, .int .i64 k] 24) := ⟨_, rfl⟩
  have b3 : Below w.heap.size w w3 := by rw [hw3]; exact (D6.out b01 (by omega)).alloc (D6.out b01 (by omega)).size _
  have hsl' : Sl w3 0 w.heap.size 1 A0 n0 (zs0.map (Value.int .u8)) := by
    rw [hw3]
    exact ((hsl.more (Nat.le_refl _) (Nat.le_refl _)).grown D6.gr (by have := D6.lt; omega) (fun k hk => by cases hk; left; omega)).alloc (by omega) _
  rw [← hw3] at D3 K3 Q3 ⊢
  rw [hq] at Q3 hlt hK ⊢
  clear hw3 hq D6 K6 hi hk hu
  have hqg : ¬ (q = g ∨ q = w.heap.size) := by omega
  have hwg : w.heap.size < g := by omega
  have hE0 : Eres g w.heap.size 2 24 A0 n0 c0 zs0 w3.drew := ⟨D3.c0.trans hcell, hsl', _, rfl, K3⟩
  obtain ⟨P1, hP1⟩ : ∃ q, 0 + 1 + 1 + 1 = q := ⟨_, rfl⟩
  rw [hP1] at D3
  have hrd : Rd w3.drew g (P1 + 100 * 0) := D3.rd
  refine wp_region_typed (by kernel_rfl) (tsOf [(2, .pointer (some ⟨w.heap.size, 0, none⟩)), (6, .pointer (some ⟨g, 0, none⟩)), (7, .pointer (some ⟨q, 0, none⟩))] [(24, tLit (.agg #[.bool u, .int .i64 k])), (25, tLit (.pointer (some ⟨g, 0, none⟩))), (26, tInt .i64 0 1), (27, tBool), (28, tLit (.pointer (some ⟨g, 0, none⟩))), (29, tInt .i64 0 4), (30, tLit (.pointer (some ⟨g, 0, none⟩))), (31, tInt .i64 0 4), (32, tLit (.pointer (some ⟨g, 0, none⟩))), (33, tInt .i64 0 13), (34, tInt .i64 0 1), (35, tInt .i64 0 10), (36, tInt .i64 0 14), (3, tBool), (4, tInt .i64 0 4), (5, tInt .i64 0 14)]) (Xe 13 w.heap.size 24 #[.bool u, .int .i64 k]) (Gd w3 g (P1) (fun k => k = g ∨ k = w.heap.size) (Eres g w.heap.size 2 24 A0 n0 c0 zs0)) 17 17 rfl [some 24, some 25, some 26, some 27, some 28, some 29, some 30, some 31, some 32, some 33, some 34, some 35, some 36, none, some 3, some 4, some 5] (by kernel_rfl) (by kernel_rfl) rfl (fun _ _ _ h hg => Gd.more _ _ _ h hg) ⟨hrd, (GrF.refl _ _).drew, rfl, hE0⟩ (ts_old (by intro x hx; simp only [List.mem_cons, List.not_mem_nil, or_false] at hx; rcases hx with rfl | rfl | rfl <;> rfl) (by kernel_rfl)) ?_ ?_
  · obtain ⟨TS, hTS⟩ : ∃ TS, TS = tsOf [(2, .pointer (some ⟨w.heap.size, 0, none⟩)), (6, .pointer (some ⟨g, 0, none⟩)), (7, .pointer (some ⟨q, 0, none⟩))] [(24, tLit (.agg #[.bool u, .int .i64 k])), (25, tLit (.pointer (some ⟨g, 0, none⟩))), (26, tInt .i64 0 1), (27, tBool), (28, tLit (.pointer (some ⟨g, 0, none⟩))), (29, tInt .i64 0 4), (30, tLit (.pointer (some ⟨g, 0, none⟩))), (31, tInt .i64 0 4), (32, tLit (.pointer (some ⟨g, 0, none⟩))), (33, tInt .i64 0 13), (34, tInt .i64 0 1), (35, tInt .i64 0 10), (36, tInt .i64 0 14), (3, tBool), (4, tInt .i64 0 4), (5, tInt .i64 0 14)] := ⟨_, rfl⟩
    rw [← hTS]
    have hst : ∀ s, Stab w3.heap.size (TS s) := fun s => by rw [hTS]; exact stab_ts (by exact ⟨stab_lit _, stab_lit _, stab_int _ _ _, stab_bool, stab_lit _, stab_int _ _ _, stab_lit _, stab_int _ _ _, stab_lit _, stab_int _ _ _, stab_int _ _ _, stab_int _ _ _, stab_int _ _ _, stab_bool, stab_int _ _ _, stab_int _ _ _, trivial⟩) s
    have T2 : TS 2 = tLit (.pointer (some ⟨w.heap.size, 0, none⟩)) := by rw [hTS]; rfl
    have T6 : TS 6 = tLit (.pointer (some ⟨g, 0, none⟩)) := by rw [hTS]; rfl
    have T7 : TS 7 = tLit (.pointer (some ⟨q, 0, none⟩)) := by rw [hTS]; rfl
    have T24 : TS 24 = tLit (.agg #[.bool u, .int .i64 k]) := by rw [hTS]; rfl
    have T25 : TS 25 = tLit (.pointer (some ⟨g, 0, none⟩)) := by rw [hTS]; rfl
    have T26 : TS 26 = tInt .i64 0 1 := by rw [hTS]; rfl
    have T27 : TS 27 = tBool := by rw [hTS]; rfl
    have T28 : TS 28 = tLit (.pointer (some ⟨g, 0, none⟩)) := by rw [hTS]; rfl
    have T29 : TS 29 = tInt .i64 0 4 := by rw [hTS]; rfl
    have T30 : TS 30 = tLit (.pointer (some ⟨g, 0, none⟩)) := by rw [hTS]; rfl
    have T31 : TS 31 = tInt .i64 0 4 := by rw [hTS]; rfl
    have T32 : TS 32 = tLit (.pointer (some ⟨g, 0, none⟩)) := by rw [hTS]; rfl
    have T33 : TS 33 = tInt .i64 0 13 := by rw [hTS]; rfl
    have T34 : TS 34 = tInt .i64 0 1 := by rw [hTS]; rfl
    have T35 : TS 35 = tInt .i64 0 10 := by rw [hTS]; rfl
    have T36 : TS 36 = tInt .i64 0 14 := by rw [hTS]; rfl
    have T3 : TS 3 = tBool := by rw [hTS]; rfl
    have T4 : TS 4 = tInt .i64 0 4 := by rw [hTS]; rfl
    have T5 : TS 5 = tInt .i64 0 14 := by rw [hTS]; rfl
    have C : Ctx Try.prog g (P1) w3.heap.size 17 (fun k => k = g ∨ k = w.heap.size) (Eres g w.heap.size 2 24 A0 n0 c0 zs0) TS (Xe 13 w.heap.size 24 #[.bool u, .int .i64 k]) := ⟨hrd.lt, .inl rfl, by omega, hst, fun j w w' hg hx e => (hg.1.block _ (hx e).lt (by omega)).trans (hx e), fun w w' hg h => h.keep (by omega) w w' hg⟩
    have hXi : ∀ i, i ≠ 13 → ∀ wx, (Xe 13 w.heap.size 24 #[.bool u, .int .i64 k]) i wx := fun i hi wx e => absurd e hi
    clear hst hTS
    exact ⟨t_loadold (i := 0) C (hXi 0 (by omega)) Try.underlying24 rfl (by kernel_rfl) Q3 hqg (ot_tmp T7) T24,
    t_move (i := 1) C (hXi 1 (by omega)) (ot_tmp T6) T25,
    t_pick (i := 2) C (hXi 2 (by omega)) (ot_tmp T25) (ot_const (lo := 2) (hi := 2) (by omega) (by omega)) (by omega) (by omega) (by omega) T26,
    t_eql (i := 3) C (hXi 3 (by omega)) (ot_tmp T26) (ot_const (lo := 0) (hi := 0) (by omega) (by omega)) T27,
    t_move (i := 4) C (hXi 4 (by omega)) (ot_tmp T6) T28,
    t_pick (i := 5) C (hXi 5 (by omega)) (ot_tmp T28) (ot_const (lo := 5) (hi := 5) (by omega) (by omega)) (by omega) (by omega) (by omega) T29,
    t_move (i := 6) C (hXi 6 (by omega)) (ot_tmp T6) T30,
    t_pick (i := 7) C (hXi 7 (by omega)) (ot_tmp T30) (ot_const (lo := 5) (hi := 5) (by omega) (by omega)) (by omega) (by omega) (by omega) T31,
    t_move (i := 8) C (hXi 8 (by omega)) (ot_tmp T6) T32,
    t_pick (i := 9) C (hXi 9 (by omega)) (ot_tmp T32) (ot_const (lo := 14) (hi := 14) (by omega) (by omega)) (by omega) (by omega) (by omega) T33,
    t_quoc (i := 10) C (hXi 10 (by omega)) (ot_tmp T33) (by omega) (by omega) (by omega) (by omega) (by omega) T34,
    t_mulc (i := 11) C (hXi 11 (by omega)) (ot_tmp T34) (by omega) (by omega) (by omega) (by omega) (by omega) T35,
    t_add (i := 12) C (hXi 12 (by omega)) (ot_tmp T31) (ot_tmp T35) (by omega) (by omega) (by omega) (by omega) T36,
    t_storeres C rfl hz0 (by omega) K3.lt (.inr rfl) (ot_tmp T2) (ot_tmp T24) (by kernel_rfl) rfl (by simp [Value.oneCell']) (fun j w hj e => absurd e hj) (fun w h _ => h),
    t_assign (i := 14) C (hXi 14 (by omega)) (ot_tmp T27) T3,
    t_assign (i := 15) C (hXi 15 (by omega)) (ot_tmp T29) T4,
    t_assign (i := 16) C (hXi 16 (by omega)) (ot_tmp T36) T5,
    trivial⟩
  · intro vs w' hG hty _ hX2
    obtain ⟨a, e3⟩ := (show tBool (vs 3) w' from hty 14 3 (by omega) (by omega) rfl)
    obtain ⟨r, r0, r1, e4⟩ := (show tInt .i64 0 4 (vs 4) w' from hty 15 4 (by omega) (by omega) rfl)
    obtain ⟨f, f0, f1, e5⟩ := (show tInt .i64 0 14 (vs 5) w' from hty 16 5 (by omega) (by omega) rfl)
    have KE : Blk w' w.heap.size 24 #[.bool u, .int .i64 k] := hX2 13 (by omega) (by omega) rfl
    have hgr := hG.gr
    have b5 : Below w.heap.size w w' := ⟨hgr.os.trans b3.os, hgr.tape.trans b3.tape, hgr.output.trans b3.output, Nat.le_trans b3.size hgr.size, fun k hk => (hgr.block k (Nat.lt_of_lt_of_le hk b3.size) (by omega)).trans (b3.block k hk)⟩
    clear hty hX2
    refine wpList_nil ?_
    simp only [putL, e3, e4, e5]
    go_wp2
    obtain ⟨x0, x1⟩ := KE.two'
    refine bodyPost_ret (v := .tuple #[.agg #[.bool u, .int .i64 k], .bool a, .int .i64 r, .int .i64 f]) ?_ rfl ⟨u, k, a, r, f, rfl, k0, k1, r0, r1, f0, f1, b5⟩
    simp [results, Try.results15, go_sem, x0, x1]

/-- A draw hands back a list of Bools in a slice of its own. -/
def DrewBools (W : World) (g P : Nat) (e : Ending) (w' : World) : Prop :=
  ∃ (A : Option Addr) (n c : Nat) (zs : List Bool), e = .returned (.slice A n c) ∧ n ≤ 61 ∧ n ≤ c ∧ c ≤ maxLen ∧ w'.ownsRow W.heap.size 4 1 (.slice A n c) n (zs.map Value.bool) ∧ Dw W g P w'

set_option maxHeartbeats 800000 in
theorem tests_any (g P : Nat) (w : World) (h : Rd w g P) (hP : P ≤ 100000000) :
    Calls Try.prog 44 #[.pointer (some ⟨g, 0, none⟩)] w (DrewBools w g (P + 20)) := by
  obtain ⟨i0, ti, tz, ts, tb⟩ := info_parts infoBool
  have D := Dw.start h
  have own0 := World.ownsRow_lit (base := w.heap.size) (e := 4) (size := 1) w #[] 0 (Nat.le_refl _) (by unfold maxLen; omega) (by simp)
  have D0 := D.alloc (.cells #[] 4)
  have hmk := run_make_row' (P := Try.prog) 34 4 (.bool false) 1 Try.underlying34 infoBool rfl .i64 .i64 61 (by omega) (by omega)
  simp only [show ((61 : Nat) : Int) = 61 from rfl] at hmk
  go_enter Try.func44, Try.ntmps44
  go_wp2_with fail
  refine (pick_any _ _ _ _ D0.rd (by omega) (by omega) (by omega)).mono ?_
  rintro e w2 ⟨k0, hk0, hk1, rfl, hr2, hg2⟩
  have D2 := D0.picked hr2 hg2
  have own2 := own_picked own0 hg2 D.lt
  clear own0 D0 hr2 hg2
  go_wp2_with fail
  go_loopw [3, 4] (fun out i wr => ∃ (k p m : Nat) (xs : List Bool), i = .int .i64 k ∧ m + k ≤ 15 ∧ p + k ≤ P + 16 ∧ wr.ownsRow w.heap.size 4 1 out m (xs.map Value.bool) ∧ Dw w g p wr) (fun _ i _ => (intOf i).toNat)
  case atStart => exact ⟨k0.toNat, P + 1, 0, [], by rw [Int.toNat_of_nonneg hk0], by omega, by omega, own2, D2⟩
  case round =>
    obtain ⟨k, p, m, xs, rfl, hm, hp, own, D3⟩ := hrel
    clear own2 D2
    by_cases hlt : 0 < k
    · go_wp2_with fail
      refine (pick_any _ _ _ _ D3.rd (by omega) (by omega) (by omega)).mono ?_
      rintro e w3 ⟨y, hy0, hy1, rfl, hr3, hg3⟩
      have D4 := D3.picked hr3 hg3
      have own3 := own_picked own hg3 D.lt
      obtain ⟨z, hz⟩ : ∃ z : Bool, decide (0 < y) = z := ⟨_, rfl⟩
      clear own hr3 hg3
      go_wp2_with (at_builtin; refine wpList_append_sl _ rfl _ _ 34 rfl w.heap.size 4 i0 _ 1 1 Try.underlying34 ti tz ts tb rfl (by decide) _ m _ (by rfl) (own3.alloc _) _ _ (some ⟨w3.heap.size, 0, none⟩) 1 1 [.bool z] rfl (Sl.new #[.bool z] 4 1 1 rfl) (by intro u hu; simp at hu; subst hu; rfl) (by unfold maxLen; omega) (by omega) (by simp; have := D4.size_; omega) ?_; intro v1 w5 own5 g5 at5)
      have D7 := (D4.alloc (.cells #[.bool z] 4)).append (own3.alloc _) g5
      rw [show (xs.map Value.bool) ++ [.bool z] = (xs ++ [z]).map Value.bool from by simp] at own5
      clear g5 at5 own3 D4 hz
      go_roundw
      case rel => exact ⟨k - 1, p + 1, m + 1, _, by (congr 1; omega), by omega, by omega, own5, D7⟩
      case measure => simp [intOf]; omega
    · obtain rfl : k = 0 := by omega
      clear hlt
      go_wp2_with fail
      refine (odd_any _ _ _ _ D3.rd (by omega) (by omega) (by omega)).mono ?_
      rintro e w3 ⟨b, rfl, hr3, hg3⟩
      have D4 := D3.picked hr3 hg3
      have own3 := own_picked own hg3 D.lt
      clear own D3 hr3 hg3
      rcases b
      · obtain ⟨A', c', rfl, hnc', hmc'⟩ := own_is_slice own3
        go_wp2_with fail
        go_ret
        exact ⟨A', m, c', xs, rfl, by omega, hnc', hmc', own3, D4.more (by omega)⟩
      · have ownm := own_more (own_made w3 (.bool false) 4 61 (by unfold maxLen; omega)) D4.size_
        have Dm := D4.alloc (.cells (madeCells #[.bool false] 61) 4)
        generalize hW : w3.alloc (.cells (madeCells #[.bool false] 61) 4) = wm at ownm Dm
        have hmk' := hmk w3
        rw [hW] at hmk'
        clear hW hmk
        go_wp2
        go_ret
        exact ⟨_, 61, 61, List.replicate 61 false, rfl, by omega, by omega, by unfold maxLen; omega, by rw [List.map_replicate]; exact ownm, Dm.more (by omega)⟩

/-- Tests and what is needed. -/
def DrawnTests (W : World) (e : Ending) (w' : World) : Prop :=
  ∃ (A : Option Addr) (n c : Nat) (zs : List Bool) (r f : Int), e = .returned (.tuple #[.slice A n c, .int .i64 r, .int .i64 f]) ∧ n ≤ 61 ∧ n ≤ c ∧ c ≤ maxLen ∧ 0 ≤ r ∧ r ≤ 4 ∧ 0 ≤ f ∧ f ≤ 3 ∧ w'.ownsRow W.heap.size 4 1 (.slice A n c) n (zs.map Value.bool) ∧ Below W.heap.size W w'
section
variable (A : Option Addr) (n c : Nat) (zs : List Int) (w : World) (hs : Sl w 0 w.heap.size 1 A n (zs.map (Value.int .u8))) (hnc : n ≤ c) (hc : c ≤ 9223372036854775807) (hz : AllByte zs)
include hs hnc hc hz
theorem drawHealthRun_any : Calls Try.prog 21 #[.slice A n c] w (DrawnTests w) := by
  go_enter Try.func21, Try.ntmps21
  go_wp2_with fail
  refine (open_any _ _ _ zs _ hs hnc hc hz).mono ?_
  rintro e w1 ⟨g, hg, rfl, hr, hb⟩
  go_wp2_with fail
  refine (tests_any g 0 _ hr (by omega)).mono ?_
  rintro e w2 ⟨B, m, c', xs, rfl, hm, hmc, hcm, own, D⟩
  have hlt := D.lt
  go_wp2_with fail
  refine (pick_any _ _ _ _ D.rd (by omega) (by omega) (by omega)).mono ?_
  rintro e w3 ⟨v1, a1, a2, rfl, hr3, hg3⟩
  have D3 := D.picked hr3 hg3
  have own3 := own_picked own hg3 hlt
  go_wp2_with fail
  refine (pick_any _ _ _ _ D3.rd (by omega) (by omega) (by omega)).mono ?_
  rintro e w4 ⟨v2, a3, a4, rfl, hr4, hg4⟩
  have D4 := D3.picked hr4 hg4
  have own4 := own_picked own3 hg4 hlt
  go_wp2_with fail
  refine (pick_any _ _ _ _ D4.rd (by omega) (by omega) (by omega)).mono ?_
  rintro e w5 ⟨v3, a5, a6, rfl, hr5, hg5⟩
  have D5 := D4.picked hr5 hg5
  have own5 := own_picked own4 hg5 hlt
  clear D D3 D4 own own3 own4
  go_wp2_with fail
  go_ret3
  exact ⟨B, m, c', xs, v1 + v2, v3, rfl, hm, hmc, hcm, by omega, by omega, by omega, by omega, own_more own5 hb.size, D5.out hb hg⟩
theorem drawHealthChanges_any : Calls Try.prog 24 #[.slice A n c] w (DrawnTests w) := by
  go_enter Try.func24, Try.ntmps24
  go_wp2_with fail
  refine (drawHealthRun_any _ _ _ zs _ hs hnc hc hz).mono ?_
  rintro e w1 ⟨B, m, c', xs, r, f, rfl, h⟩
  go_wp2_with fail
  go_ret3
  exact ⟨B, m, c', xs, r, f, rfl, h⟩
end
end Go.Proofs.Ytnhodloclonfdaa
