/-
  l20Pool: hosts drawn by a reader.
-/
import Derived.Test.YtgdcfhifiincaaaTRec
import Derived.Test.YtgdcfhifiincaaaHost1
namespace Go.Proofs.Ytgdcfhifiincaaa
open Go.RowKit
set_option linter.unusedVariables false

theorem infoH : (Try.prog.info? 50).map (fun i => (i.zero, i.size, i.bytes)) = some (some (.agg #[.int .i64 0, .int .i64 0, .int .i64 0]), 3, 24) := by kernel_rfl
theorem three_of (zs : List Int) (h : zs.length = 3) : ∃ a b c, zs = [a, b, c] := by
  match zs, h with
  | [a, b, c], _ => exact ⟨a, b, c, rfl⟩
theorem built_host (zs : List Int) (h : zs.length = 3) : Try.prog.built 50 (((zs.map (Value.int .i64)).zipIdx 0).map fun x => (x.2, x.1)) = some (zs.map (Value.int .i64)).toArray := by
  obtain ⟨a, b, c, rfl⟩ := three_of zs h
  kernel_rfl
theorem fill_host (zs : List Int) (h : zs.length = 3) : Instr.fill (fun i => some (i * 3, 3)) ((Array.range (1 * 3)).map ((Value.agg #[.int .i64 0, .int .i64 0, .int .i64 0]).cells[· % (Value.agg #[.int .i64 0, .int .i64 0, .int .i64 0]).cells.size]!)) [(0, .agg (zs.map (Value.int .i64)).toArray)] = some (zs.map (Value.int .i64)).toArray := by
  obtain ⟨a, b, c, rfl⟩ := three_of zs h
  kernel_rfl
theorem hosts_snoc (hs : List H3) (a b c : Int) : hostsV hs ++ [.int .i64 a, .int .i64 b, .int .i64 c] = hostsV (hs ++ [(a, b, c)]) := by
  rw [hostsV_append]
  rfl
theorem hosts_snoc2 (hs : List H3) (a b c a' b' c' : Int) : hostsV hs ++ [.int .i64 a, .int .i64 b, .int .i64 c, .int .i64 a', .int .i64 b', .int .i64 c'] = hostsV (hs ++ [(a, b, c), (a', b', c')]) := by
  rw [hostsV_append]
  rfl
theorem three_one (a b c : Int) : ∀ u ∈ [Value.int .i64 a, .int .i64 b, .int .i64 c], u.oneCell' = true := by
  intro u hu
  simp at hu
  rcases hu with rfl | rfl | rfl <;> rfl
theorem three_two (a b c a' b' c' : Int) : ∀ u ∈ [Value.int .i64 a, .int .i64 b, .int .i64 c, .int .i64 a', .int .i64 b', .int .i64 c'], u.oneCell' = true := by
  intro u hu
  simp at hu
  rcases hu with rfl | rfl | rfl | rfl | rfl | rfl <;> rfl

theorem Blk.picked {w w' : World} {g k : Nat} {t : TypeId} {cs : Array Value} (h : Blk w k t cs) (hg : w.grownBy w' (some g)) (hk : g < k) : Blk w' k t cs := h.grown hg (fun e => by cases e; omega)
theorem Blk.pickAt' {w : World} {g : Nat} {t : TypeId} {k : IntKind} {xs : List Int} {lo hi : Int} (h : Blk w g t (xs.map (Value.int k)).toArray) (hx : ∀ x ∈ xs, lo ≤ x ∧ x ≤ hi) {z : Int} (h0 : 0 ≤ z) (h1 : z < xs.length) :
    ∃ z' : Int, w.cell? ⟨g, z.toNat, none⟩ = some (.int k z') ∧ lo ≤ z' ∧ z' ≤ hi := by
  have hl : z.toNat < xs.length := by omega
  refine ⟨xs[z.toNat], ?_, hx _ (List.getElem_mem hl)⟩
  rw [h.cell]
  simp [List.getElem?_eq_getElem hl]
/-- A draw hands back hosts. -/
def DrewPool (W : World) (g P : Nat) (e : Ending) (w' : World) : Prop :=
  ∃ (A : Option Addr) (n c : Nat) (hs : List H3), e = .returned (.slice A n c) ∧ n ≤ 8 ∧ n ≤ c ∧ c ≤ maxLen ∧ w'.ownsRow W.heap.size 50 3 (.slice A n c) n (hostsV hs) ∧ Dw W g P w'

set_option maxRecDepth 10000 in
set_option maxHeartbeats 1600000 in
theorem pool_any (g P : Nat) (n : Int) (w : World) (h : Rd w g P) (hP : P ≤ 50000000) (hn : 0 ≤ n) (hn' : n ≤ 1000) :
    Calls Try.prog 43 #[.pointer (some ⟨g, 0, none⟩), .int .i64 n] w (DrewPool w g (P + 20000)) := by
  have D := Dw.start h
  have hlt := D.lt
  obtain ⟨iH0, iH, tzH, tsH, tbH⟩ := info_parts infoH
  obtain ⟨ii64, tii, tzi64, tsi64, _⟩ := info_parts infoI
  have tzc : (Value.agg #[.int .i64 0, .int .i64 0, .int .i64 0]).cells.size = 3 := by kernel_rfl
  go_enter Try.func43, Try.ntmps43
  go_wp2_with fail
  have own0 := World.ownsRow_lit (base := w.heap.size) (e := 50) (size := 3) w #[] 0 (Nat.le_refl _) (by unfold maxLen; omega) (by simp)
  have D0 := D.alloc (.cells #[] 50)
  refine (pick_any _ _ _ _ D0.rd (by omega) (by omega) (by omega)).mono ?_
  rintro e w1 ⟨k0, hk0, hk1, rfl, hr1, hg1⟩
  have D1 := D0.picked hr1 hg1
  have R1 := own_picked own0 hg1 hlt
  clear D0 own0 hr1 hg1
  go_wp2_with fail
  go_loopw [5, 6, 7] (fun tv nw i wr => ∃ (tvv : Value) (k p m : Nat) (now : Int) (hs : List H3), tvv = tv ∧ i = .int .i64 k ∧ k ≤ 5 ∧ m + k ≤ 5 ∧ p + 2000 * k ≤ P + 15000 ∧ nw = .int .i64 now ∧ 0 ≤ now ∧ now + 10 * k ≤ 100 ∧ wr.ownsRow w.heap.size 50 3 tv m (hostsV hs) ∧ Dw w g p wr) (fun _ _ i _ => (intOf i).toNat)
  case atStart => exact ⟨_, k0.toNat, _, 0, 0, [], rfl, by rw [Int.toNat_of_nonneg hk0], by omega, by omega, by omega, rfl, by omega, by omega, R1, D1⟩
  case round =>
    obtain ⟨tv, k, p0, m', now0, hs, rfl, rfl, hk, hm, hp, rfl, n0, n1, R, D2⟩ := hrel
    clear R1 D1
    by_cases hlt' : 0 < k
    · go_wp2_with fail
      refine (pick_any _ _ _ _ D2.rd (by omega) (by omega) (by omega)).mono ?_
      rintro e w5 ⟨y, hy0, hy1, rfl, hr5, hg5⟩
      have D3 := D2.picked hr5 hg5
      have R3 := own_picked R hg5 hlt
      clear D2 R hr5 hg5
      go_wp2_with fail
      obtain ⟨p, hp1⟩ : ∃ p, p0 + 1 = p := ⟨_, rfl⟩
      rw [hp1] at D3
      obtain ⟨now, hnow⟩ : ∃ z, now0 + y = z := ⟨_, rfl⟩
      have hsz := D3.size_
      try rw [hnow]
      have hrd : Rd w5.drew g (p + 100 * 0) := D3.rd
      refine wp_region_typed (by kernel_rfl) (tsOf [(0, .pointer (some ⟨g, 0, none⟩)), (5, tv), (6, .int .i64 now)] [(19, tLit (tv)), (20, tLit (.int .i64 now)), (21, tLit (.pointer (some ⟨g, 0, none⟩))), (22, tInt .i64 0 4), (23, tInt .i64 1 5), (24, tRow w5.heap.size 2 (tInt .i64 1 5)), (25, tLit (.pointer (some ⟨g, 0, none⟩))), (26, tInt .i64 0 1), (27, tAt w5.heap.size (tInt .i64 1 5)), (28, tInt .i64 1 5), (29, tRow w5.heap.size 5 (tInt .i64 0 2)), (30, tLit (.pointer (some ⟨g, 0, none⟩))), (31, tInt .i64 0 4), (32, tAt w5.heap.size (tInt .i64 0 2)), (33, tInt .i64 0 2), (34, tAgg 3 0 1000), (35, tRec1 w5.heap.size 50 3 0 1000)]) (fun _ _ => True) (Gd w5 g (p) (· = g) (fun _ => True)) 17 19 rfl [some 19, some 20, some 21, some 22, some 23, some 24, some 25, some 26, some 27, some 28, some 29, some 30, some 31, some 32, some 33, some 34, some 35] (by kernel_rfl) (by kernel_rfl) rfl (fun _ _ _ h hg => Gd.more _ _ _ h hg) ⟨hrd, (GrF.refl _ _).drew, rfl, trivial⟩ (ts_old (by intro x hx; simp only [List.mem_cons, List.not_mem_nil, or_false] at hx; rcases hx with rfl | rfl | rfl <;> rfl) (by kernel_rfl)) ?_ ?_
      · obtain ⟨TS, hTS⟩ : ∃ TS, TS = tsOf [(0, .pointer (some ⟨g, 0, none⟩)), (5, tv), (6, .int .i64 now)] [(19, tLit (tv)), (20, tLit (.int .i64 now)), (21, tLit (.pointer (some ⟨g, 0, none⟩))), (22, tInt .i64 0 4), (23, tInt .i64 1 5), (24, tRow w5.heap.size 2 (tInt .i64 1 5)), (25, tLit (.pointer (some ⟨g, 0, none⟩))), (26, tInt .i64 0 1), (27, tAt w5.heap.size (tInt .i64 1 5)), (28, tInt .i64 1 5), (29, tRow w5.heap.size 5 (tInt .i64 0 2)), (30, tLit (.pointer (some ⟨g, 0, none⟩))), (31, tInt .i64 0 4), (32, tAt w5.heap.size (tInt .i64 0 2)), (33, tInt .i64 0 2), (34, tAgg 3 0 1000), (35, tRec1 w5.heap.size 50 3 0 1000)] := ⟨_, rfl⟩
        rw [← hTS]
        have hst : ∀ s, Stab w5.heap.size (TS s) := fun s => by rw [hTS]; exact stab_ts (by exact ⟨stab_lit _, stab_lit _, stab_lit _, stab_int _ _ _, stab_int _ _ _, stab_row (stab_int _ _ _), stab_lit _, stab_int _ _ _, stab_at (stab_int _ _ _), stab_int _ _ _, stab_row (stab_int _ _ _), stab_lit _, stab_int _ _ _, stab_at (stab_int _ _ _), stab_int _ _ _, stab_agg, stab_rec1, trivial⟩) s
        have T0 : TS 0 = tLit (.pointer (some ⟨g, 0, none⟩)) := by rw [hTS]; rfl
        have T5 : TS 5 = tLit (tv) := by rw [hTS]; rfl
        have T6 : TS 6 = tLit (.int .i64 now) := by rw [hTS]; rfl
        have T19 : TS 19 = tLit (tv) := by rw [hTS]; rfl
        have T20 : TS 20 = tLit (.int .i64 now) := by rw [hTS]; rfl
        have T21 : TS 21 = tLit (.pointer (some ⟨g, 0, none⟩)) := by rw [hTS]; rfl
        have T22 : TS 22 = tInt .i64 0 4 := by rw [hTS]; rfl
        have T23 : TS 23 = tInt .i64 1 5 := by rw [hTS]; rfl
        have T24 : TS 24 = tRow w5.heap.size 2 (tInt .i64 1 5) := by rw [hTS]; rfl
        have T25 : TS 25 = tLit (.pointer (some ⟨g, 0, none⟩)) := by rw [hTS]; rfl
        have T26 : TS 26 = tInt .i64 0 1 := by rw [hTS]; rfl
        have T27 : TS 27 = tAt w5.heap.size (tInt .i64 1 5) := by rw [hTS]; rfl
        have T28 : TS 28 = tInt .i64 1 5 := by rw [hTS]; rfl
        have T29 : TS 29 = tRow w5.heap.size 5 (tInt .i64 0 2) := by rw [hTS]; rfl
        have T30 : TS 30 = tLit (.pointer (some ⟨g, 0, none⟩)) := by rw [hTS]; rfl
        have T31 : TS 31 = tInt .i64 0 4 := by rw [hTS]; rfl
        have T32 : TS 32 = tAt w5.heap.size (tInt .i64 0 2) := by rw [hTS]; rfl
        have T33 : TS 33 = tInt .i64 0 2 := by rw [hTS]; rfl
        have T34 : TS 34 = tAgg 3 0 1000 := by rw [hTS]; rfl
        have T35 : TS 35 = tRec1 w5.heap.size 50 3 0 1000 := by rw [hTS]; rfl
        have C : Ctx Try.prog g (p) w5.heap.size 19 (· = g) (fun _ => True) TS (fun _ _ => True) := ⟨hrd.lt, rfl, by omega, hst, fun _ _ _ _ h => h, fun _ _ _ h => h⟩
        have hXi : ∀ w : World, True := fun _ => trivial
        clear hst hTS
        exact ⟨t_move C hXi (ot_tmp T5) T19,
    t_move C hXi (ot_tmp T6) T20,
    t_move C hXi (ot_tmp T0) T21,
    t_pick C hXi (ot_tmp T21) (ot_const (lo := 5) (hi := 5) (by omega) (by omega)) (by omega) (by omega) (by omega) T22,
    t_add C hXi (ot_const (lo := 1) (hi := 1) (by omega) (by omega)) (ot_tmp T22) (by omega) (by omega) (by omega) (by omega) T23,
    t_row C hXi [.const (.int .i64 1), .tmp 23] Try.underlying28 tii tsi64 tzi64 rfl rfl (by omega) (by omega) int_one (stab_int _ _ _) ⟨(ot_const (by omega) (by omega)), (ot_tmp T23), trivial⟩ (Nat.le_refl _) T24,
    t_move C hXi (ot_tmp T0) T25,
    t_pick C hXi (ot_tmp T25) (ot_const (lo := 2) (hi := 2) (by omega) (by omega)) (by omega) (by omega) (by omega) T26,
    t_index C hXi Try.underlying28 tii tsi64 (ot_tmp T24) (ot_tmp T26) (by omega) (by omega) T27,
    t_load C hXi Try.underlying3 rfl (ot_tmp T27) T28,
    t_row C hXi [.const (.int .i64 1), .const (.int .i64 1), .const (.int .i64 1), .const (.int .i64 0), .const (.int .i64 2)] Try.underlying28 tii tsi64 tzi64 rfl rfl (by omega) (by omega) int_one (stab_int _ _ _) ⟨(ot_const (by omega) (by omega)), (ot_const (by omega) (by omega)), (ot_const (by omega) (by omega)), (ot_const (by omega) (by omega)), (ot_const (by omega) (by omega)), trivial⟩ (Nat.le_refl _) T29,
    t_move C hXi (ot_tmp T0) T30,
    t_pick C hXi (ot_tmp T30) (ot_const (lo := 5) (hi := 5) (by omega) (by omega)) (by omega) (by omega) (by omega) T31,
    t_index C hXi Try.underlying28 tii tsi64 (ot_tmp T29) (ot_tmp T31) (by omega) (by omega) T32,
    t_load C hXi Try.underlying3 rfl (ot_tmp T32) T33,
    t_agg C hXi [.tmp 20, .tmp 28, .tmp 33] rfl rfl built_host ⟨(OT.of_lit (ot_tmp T20) (by omega) (by omega)), ((ot_tmp T28).more (by omega) (by omega)), ((ot_tmp T33).more (by omega) (by omega)), trivial⟩ T34,
    t_rec1 C hXi Try.underlying30 iH tsH tzH (by omega) (by omega) fill_host (ot_tmp T34) (Nat.le_refl _) T35,
    trivial⟩
      · intro vs w6 hG hty hfr _
        have e19 : vs 19 = tv := hty 0 19 (by omega) (by omega) rfl
        obtain ⟨q, zs, e35, hq, hzl, hzr, Q⟩ := (show tRec1 w5.heap.size 50 3 0 1000 (vs 35) w6 from hty 16 35 (by omega) (by omega) rfl)
        obtain ⟨a0, a1, a2, rfl⟩ := three_of zs hzl
        have D4 : Dw w g (p + 1900) w6 := (D3.picked hG.rdc hG.gr.to_grown).more (by omega)
        have R4 := own_picked R3 hG.gr.to_grown hlt
        have sQ : Sl w6 q (q + 1) 3 (some ⟨q, 0, none⟩) 1 [.int .i64 a0, .int .i64 a1, .int .i64 a2] := ⟨rfl, fun _ => ⟨q, 0, rfl, Nat.le_refl _, by omega, fun j u hu => by rw [Nat.zero_add, Q.cell]; simpa using hu⟩⟩
        clear hty hfr hG hrd D3 R3
        simp only [putL, Act.put, List.setIfInBounds_toArray, List.set_cons_zero, List.set_cons_succ, e19, e35]
        refine (show wpList _ _ _ [_, _] _ _ from ?_)
        go_wp2_with (at_builtin; refine wpList_append_sl _ rfl _ _ 30 rfl w.heap.size 50 iH0 _ 3 24 Try.underlying30 iH tzH tsH tbH tzc (by decide) _ m' _ (by rfl) R4 _ _ (some ⟨q, 0, none⟩) 1 1 [.int .i64 a0, .int .i64 a1, .int .i64 a2] rfl sQ (three_one _ _ _) (by unfold maxLen; omega) (by omega) D4.size_ ?_; intro v1 w7 own7 g7 at7)
        have D8 := D4.append R4 g7
        rw [hosts_snoc] at own7
        clear g7 at7 R4 D4
        go_roundw
        case rel => exact ⟨_, k - 1, p + 1900, m' + 1, now + 1, _, rfl, by (congr 1; omega), by omega, by omega, by omega, rfl, by omega, by omega, own7, D8⟩
        case measure => simp [intOf]; omega
    · obtain rfl : k = 0 := by omega
      clear hlt'
      go_wp2_with fail
      refine (odd_any _ _ _ _ D2.rd (by omega) (by omega) (by omega)).mono ?_
      rintro e w5 ⟨b, rfl, hr5, hg5⟩
      have D3 := D2.picked hr5 hg5
      have R3 := own_picked R hg5 hlt
      clear D2 R hr5 hg5
      rcases b
      · obtain ⟨A1, a1, rfl, e1, e2⟩ := own_is_slice R3
        go_wp2
        go_ret
        exact ⟨A1, m', a1, hs, rfl, by omega, e1, e2, R3, D3.more (by omega)⟩
      · go_wp2_with fail
        refine (pick_any _ _ _ _ D3.rd (by omega) (by omega) (by omega)).mono ?_
        rintro e w6 ⟨v, a6, b6, rfl, hr6, hg6⟩
        have D4 := D3.picked hr6 hg6
        have R4 := own_picked R3 hg6 hlt
        clear D3 R3 hr6 hg6
        have hcase : v = 0 ∨ v = 1 ∨ v = 2 ∨ v = 3 := by omega
        clear a6 b6
        rcases hcase with rfl | rfl | rfl | rfl
        · skip
          go_wp2_with (at_builtin; refine wpList_append_sl _ rfl _ _ 30 rfl w.heap.size 50 iH0 _ 3 24 Try.underlying30 iH tzH tsH tbH tzc (by decide) _ m' _ (by rfl) (R4.alloc _) _ _ (some ⟨w6.heap.size, 0, none⟩) 1 1 [.int .i64 31, .int .i64 1, .int .i64 0] rfl (Sl.new #[.int .i64 31, .int .i64 1, .int .i64 0] 50 3 1 rfl) (three_one _ _ _) (by unfold maxLen; omega) (by omega) (by simp; have := D4.size_; omega) ?_; intro v1 w8 own8 g8 at8)
          have D8 := (D4.alloc (.cells #[.int .i64 31, .int .i64 1, .int .i64 0] 50)).append (R4.alloc _) g8
          rw [hosts_snoc] at own8
          obtain ⟨A1, a1, rfl, e1, e2⟩ := own_is_slice own8
          go_wp2
          go_ret
          exact ⟨A1, m' + 1, a1, _, rfl, by omega, e1, e2, own8, D8.more (by omega)⟩
        · go_wp2_with fail
          have D5 := D4.alloc (.cells #[.int .i64 0, .int .i64 6] 3)
          have R5 := R4.alloc (.cells #[.int .i64 0, .int .i64 6] 3)
          have K5 := Blk.new w6 3 #[.int .i64 0, .int .i64 6]
          have hs6 := D4.size_
          refine (pick_any _ _ _ _ D5.rd (by omega) (by omega) (by omega)).mono ?_
          rintro e w7 ⟨z, z0, z1, rfl, hr7, hg7⟩
          have K7 := K5.picked hg7 (by omega)
          obtain ⟨z', hz', _, _⟩ := Blk.pickAt' (xs := [0, 6]) (lo := 0) (hi := 6) K7 (by intro x hx; simp at hx; omega) z0 (by simp; omega)
          have D6 := D5.picked hr7 hg7
          have R6 := own_picked R5 hg7 hlt
          replace z1 : z < 2 := by omega
          clear D4 R4 D5 R5 K5 K7 hr7 hg7
          go_wp2_with (at_builtin; refine wpList_append_sl _ rfl _ _ 30 rfl w.heap.size 50 iH0 _ 3 24 Try.underlying30 iH tzH tsH tbH tzc (by decide) _ m' _ (by rfl) (R6.alloc _) _ _ (some ⟨w7.heap.size, 0, none⟩) 1 1 [.int .i64 now0, .int .i64 z', .int .i64 0] rfl (Sl.new #[.int .i64 now0, .int .i64 z', .int .i64 0] 50 3 1 rfl) (three_one _ _ _) (by unfold maxLen; omega) (by omega) (by simp; have := D6.size_; omega) ?_; intro v1 w8 own8 g8 at8)
          have D8 := (D6.alloc (.cells #[.int .i64 now0, .int .i64 z', .int .i64 0] 50)).append (R6.alloc _) g8
          rw [hosts_snoc] at own8
          obtain ⟨A1, a1, rfl, e1, e2⟩ := own_is_slice own8
          go_wp2
          go_ret
          exact ⟨A1, m' + 1, a1, _, rfl, by omega, e1, e2, own8, D8.more (by omega)⟩
        · skip
          go_wp2_with (at_builtin; refine wpList_append_sl _ rfl _ _ 30 rfl w.heap.size 50 iH0 _ 3 24 Try.underlying30 iH tzH tsH tbH tzc (by decide) _ m' _ (by rfl) (R4.alloc _) _ _ (some ⟨w6.heap.size, 0, none⟩) 1 1 [.int .i64 now0, .int .i64 1, .int .i64 3] rfl (Sl.new #[.int .i64 now0, .int .i64 1, .int .i64 3] 50 3 1 rfl) (three_one _ _ _) (by unfold maxLen; omega) (by omega) (by simp; have := D4.size_; omega) ?_; intro v1 w8 own8 g8 at8)
          have D8 := (D4.alloc (.cells #[.int .i64 now0, .int .i64 1, .int .i64 3] 50)).append (R4.alloc _) g8
          rw [hosts_snoc] at own8
          obtain ⟨A1, a1, rfl, e1, e2⟩ := own_is_slice own8
          go_wp2
          go_ret
          exact ⟨A1, m' + 1, a1, _, rfl, by omega, e1, e2, own8, D8.more (by omega)⟩
        · skip
          go_wp2_with (at_builtin; refine wpList_append_sl _ rfl _ _ 30 rfl w.heap.size 50 iH0 _ 3 24 Try.underlying30 iH tzH tsH tbH tzc (by decide) _ m' _ (by rfl) (R4.alloc _) _ _ (some ⟨w6.heap.size, 0, none⟩) 2 2 [.int .i64 now0, .int .i64 1, .int .i64 0, .int .i64 now0, .int .i64 1, .int .i64 0] rfl (Sl.new #[.int .i64 now0, .int .i64 1, .int .i64 0, .int .i64 now0, .int .i64 1, .int .i64 0] 50 3 2 rfl) (three_two _ _ _ _ _ _) (by unfold maxLen; omega) (by omega) (by simp; have := D4.size_; omega) ?_; intro v1 w8 own8 g8 at8)
          have D8 := (D4.alloc (.cells #[.int .i64 now0, .int .i64 1, .int .i64 0, .int .i64 now0, .int .i64 1, .int .i64 0] 50)).append (R4.alloc _) g8
          rw [hosts_snoc2] at own8
          obtain ⟨A1, a1, rfl, e1, e2⟩ := own_is_slice own8
          go_wp2
          go_ret
          exact ⟨A1, m' + 2, a1, _, rfl, by omega, e1, e2, own8, D8.more (by omega)⟩
end Go.Proofs.Ytgdcfhifiincaaa
