/-
  EventsValid of both packages.
-/
import Derived.Test.YtjiebaidjflkjaaEv
import Derived.Test.YtjiebaidjflkjaaExact
namespace Go.Proofs.Ytjiebaidjflkjaa
open Go.RowKit
set_option linter.unusedVariables false

theorem iFlow_is (a b c d k : Int) (w : World) :
    Calls Try.prog 43 #[.agg #[.int .i64 a, .int .i64 b, .int .i64 c, .int .i64 d, .int .i64 k]] w fun e w' => e = .returned (.bool (flowV a b c d k)) ∧ w' = w.alloc (.cells #[.int .i64 a, .int .i64 b, .int .i64 c, .int .i64 d, .int .i64 k] 55) := by
  go_enter Try.func43, Try.ntmps43
  go_wp2_with (go_at_call 40; refine (in_any _ _ _ _).mono ?_; rintro e w' ⟨rfl, rfl⟩)
  all_goals
    go_ret
    refine ⟨ret_bool ?_, rfl⟩
    unfold flowV
    simp [*]
theorem sFlow_is (a b c d k : Int) (w : World) :
    Calls Try.prog 51 #[.agg #[.int .i64 a, .int .i64 b, .int .i64 c, .int .i64 d, .int .i64 k]] w fun e w' => e = .returned (.bool (flowV a b c d k)) ∧ w' = w.alloc (.cells #[.int .i64 a, .int .i64 b, .int .i64 c, .int .i64 d, .int .i64 k] 55) := by
  go_enter Try.func51, Try.ntmps51
  go_wp2_with (go_at_call 39; refine (l1In_any _ _ _ _).mono ?_; rintro e w' ⟨rfl, rfl⟩)
  all_goals
    go_ret
    refine ⟨ret_bool ?_, rfl⟩
    unfold flowV
    simp [*]





theorem wp_gen {P : Program} {c : Code} {Q : Exit → Act → World → Prop} {a : Act} {w : World} (F : World → Prop) (hF : F w) (h : ∀ w', F w' → c.wp P Q a w') : c.wp P Q a w := h w hF
theorem below_of_gr {B : Nat} {W w w' : World} (h : Below B W w) (hg : GrF (fun _ => False) w w') (hB : B ≤ w.heap.size) : Below B W w' := ⟨hg.os.trans h.os, hg.tape.trans h.tape, hg.output.trans h.output, Nat.le_trans h.size hg.size, fun k hk => (hg.block k (by omega) (fun hf => hf)).trans (h.block k hk)⟩

set_option maxHeartbeats 1600000 in
theorem iEventsValid_any (A : Option Addr) (n c : Nat) (es : List Ev6) (w : World) {lo hi : Nat} (hS : Sl w lo hi 6 A n (evsV es)) (hhi : hi ≤ w.heap.size) (hn : n ≤ 1048577) :
    Calls Try.prog 37 #[.slice A n c] w fun e w' => e = .returned (.bool (evV es)) ∧ Below w.heap.size w w' := by
  have HL := Lib.hid hS.elen
  go_enter Try.func37, Try.ntmps37
  go_wp2
  go_loopw [7] (fun i wr => ∃ k : Nat, k ≤ n ∧ i = .int .i64 k ∧ EvRel es k ∧ Below w.heap.size w wr) (fun i _ => n - (intOf i).toNat)
  case atStart => exact ⟨0, Nat.zero_le _, rfl, EvRel.start es, Below.refl _ _⟩
  case round =>
    obtain ⟨k, hk, rfl, hr, hb⟩ := hrel
    have hz := hb.size
    by_cases hlt : k < n
    · have hlk : k < es.length := by rw [HL.out]; exact hlt
      obtain ⟨b, off, hA, _, _, c0, c1, c2, c3, c4, c5⟩ := (hS.below hb hhi).ev hlt
      subst hA
      obtain ⟨⟨x0, x1, x2, x3, x4, x5⟩, hh⟩ : ∃ p, evAt es k = p := ⟨_, rfl⟩
      have hki : (0 : Int) ≤ (k : Int) := by omega
      have hki2 : (k : Int) < (n : Int) := by omega
      rw [hh] at c0 c1 c2 c3 c4 c5
      simp only at c0 c1 c2 c3 c4 c5
      have hbz : b < wr.heap.size := World.block_lt_of_cell? wr _ c0
      have hp : ∀ (hk0 : 0 < k), wr.cell? ⟨b, off + (k - 1) * 6, none⟩ = some (.int .i64 (evAt es (k - 1)).at_) := fun hk0 => by
        obtain ⟨_, _, e, _, _, p0, _⟩ := (hS.below hb hhi).ev (k := k - 1) (by omega)
        injection e with e
        injection e with e1 e2
        subst e1 e2
        exact p0
      obtain ⟨q0, hq⟩ : ∃ q, (evAt es (k - 1)).at_ = q := ⟨_, rfl⟩
      rw [hq] at hp
      go_wp2
      refine wp_gen (fun w4 => (w4.cell? ⟨wr.heap.size, 0, none⟩ = some (.int .i64 x0) ∧ w4.cell? ⟨wr.heap.size, 1, none⟩ = some (.int .i64 x1) ∧ w4.cell? ⟨wr.heap.size, 2, none⟩ = some (.int .i64 x2) ∧ w4.cell? ⟨wr.heap.size, 3, none⟩ = some (.int .i64 x3) ∧ w4.cell? ⟨wr.heap.size, 4, none⟩ = some (.int .i64 x4) ∧ w4.cell? ⟨wr.heap.size, 5, none⟩ = some (.int .i64 x5)) ∧ (∀ (hk0 : 0 < k), w4.cell? ⟨b, off + (k - 1) * 6, none⟩ = some (.int .i64 q0)) ∧ Below w.heap.size w w4) ⟨?_, ?_, ?_⟩ ?_
      · simp
      · exact fun hk0 => (World.cell?_alloc_lt _ _ _ hbz).trans (hp hk0)
      · exact hb.alloc hz _
      rintro w4 ⟨⟨g0, g1, g2, g3, g4, g5⟩, hp4, hb4⟩
      have hz4 := hb4.size
      clear c0 c1 c2 c3 c4 c5 hp hb
      by_cases v0 : inB x0 0 100000 = true
      · have b0 := inB_iff.1 v0
        by_cases v1 : flowV x1 x2 x3 x4 x5 = true
        · by_cases hk0 : 0 < k
          · have p0 := hp4 hk0
            by_cases v2 : x0 < q0
            · have HE := Lib.hid (hr.bad hlk (by rw [hh]; exact evOk_order (by rw [evPrev_pos _ hk0, hq]; exact v2)))
              obtain ⟨L, hL⟩ : ∃ L : List (Nat × Value), L = [(0, .slice (some ⟨b, off, none⟩) (n) (c)), (3, .int .i64 ((k : Int))), (4, .pointer (some ⟨wr.heap.size, 0, none⟩)), (12, .pointer (some ⟨wr.heap.size, 0, none⟩)), (13, .int .i64 (x0)), (14, .bool true), (15, .bool false), (16, .bool false), (17, .pointer (some ⟨wr.heap.size, 0 + 1, none⟩)), (18, .agg #[.int .i64 (x1), .int .i64 (x2), .int .i64 (x3), .int .i64 (x4), .int .i64 (x5)]), (19, .bool true), (20, .bool false), (21, .bool false), (22, .bool false), (23, .int .i64 ((k : Int))), (24, .bool true), (25, .bool true), (26, .pointer (some ⟨wr.heap.size, 0, none⟩)), (27, .int .i64 (x0)), (28, .slice (some ⟨b, off, none⟩) (n) (c)), (29, .int .i64 ((k : Int))), (30, .int .i64 (((k : Int)) - (1))), (31, .pointer (some ⟨b, off + (k - 1) * 6, none⟩)), (32, .pointer (some ⟨b, off + (k - 1) * 6, none⟩)), (33, .int .i64 (q0)), (34, .bool true), (35, .bool true), (36, .bool true)] := ⟨_, rfl⟩
              have V0 : L.lookup 0 = some (.slice (some ⟨b, off, none⟩) (n) (c)) := by rw [hL]; rfl
              have V3 : L.lookup 3 = some (.int .i64 ((k : Int))) := by rw [hL]; rfl
              have V4 : L.lookup 4 = some (.pointer (some ⟨wr.heap.size, 0, none⟩)) := by rw [hL]; rfl
              have V12 : L.lookup 12 = some (.pointer (some ⟨wr.heap.size, 0, none⟩)) := by rw [hL]; rfl
              have V13 : L.lookup 13 = some (.int .i64 (x0)) := by rw [hL]; rfl
              have V14 : L.lookup 14 = some (.bool true) := by rw [hL]; rfl
              have V15 : L.lookup 15 = some (.bool false) := by rw [hL]; rfl
              have V16 : L.lookup 16 = some (.bool false) := by rw [hL]; rfl
              have V17 : L.lookup 17 = some (.pointer (some ⟨wr.heap.size, 0 + 1, none⟩)) := by rw [hL]; rfl
              have V18 : L.lookup 18 = some (.agg #[.int .i64 (x1), .int .i64 (x2), .int .i64 (x3), .int .i64 (x4), .int .i64 (x5)]) := by rw [hL]; rfl
              have V19 : L.lookup 19 = some (.bool true) := by rw [hL]; rfl
              have V20 : L.lookup 20 = some (.bool false) := by rw [hL]; rfl
              have V21 : L.lookup 21 = some (.bool false) := by rw [hL]; rfl
              have V22 : L.lookup 22 = some (.bool false) := by rw [hL]; rfl
              have V23 : L.lookup 23 = some (.int .i64 ((k : Int))) := by rw [hL]; rfl
              have V24 : L.lookup 24 = some (.bool true) := by rw [hL]; rfl
              have V25 : L.lookup 25 = some (.bool true) := by rw [hL]; rfl
              have V26 : L.lookup 26 = some (.pointer (some ⟨wr.heap.size, 0, none⟩)) := by rw [hL]; rfl
              have V27 : L.lookup 27 = some (.int .i64 (x0)) := by rw [hL]; rfl
              have V28 : L.lookup 28 = some (.slice (some ⟨b, off, none⟩) (n) (c)) := by rw [hL]; rfl
              have V29 : L.lookup 29 = some (.int .i64 ((k : Int))) := by rw [hL]; rfl
              have V30 : L.lookup 30 = some (.int .i64 (((k : Int)) - (1))) := by rw [hL]; rfl
              have V31 : L.lookup 31 = some (.pointer (some ⟨b, off + (k - 1) * 6, none⟩)) := by rw [hL]; rfl
              have V32 : L.lookup 32 = some (.pointer (some ⟨b, off + (k - 1) * 6, none⟩)) := by rw [hL]; rfl
              have V33 : L.lookup 33 = some (.int .i64 (q0)) := by rw [hL]; rfl
              have V34 : L.lookup 34 = some (.bool true) := by rw [hL]; rfl
              have V35 : L.lookup 35 = some (.bool true) := by rw [hL]; rfl
              have V36 : L.lookup 36 = some (.bool true) := by rw [hL]; rfl
              refine wp_region_exact (by kernel_rfl) L 25 rfl [some 12, some 13, some 14, some 15, some 16, some 17, some 18, some 19, some 20, some 21, some 22, some 23, some 24, some 25, some 26, some 27, some 28, some 29, some 30, some 31, some 32, some 33, some 34, some 35, some 36] (by kernel_rfl) (by kernel_rfl) (by rw [hL]; rfl) 3 (by rw [hL]; intro x hx; simp only [List.take_succ_cons, List.take_zero, List.mem_cons, List.not_mem_nil, or_false] at hx; rcases hx with rfl | rfl | rfl <;> rfl) (by rw [hL]; rfl) ?_ ?_
              · clear hL
                exact ⟨x_field gok_none (f := 0) (s := 1) (by kernel_rfl) (by omega) (ox_tmp V4) rfl V12,
    x_load1 gok_none (by kernel_rfl) (ox_tmp V12) g0 V13,
    x_call gok_none Try.func44 (by kernel_rfl) (by kernel_rfl) (us := [.int .i64 (x0)]) ⟨(ox_tmp V13), trivial⟩ V14 (fun wx hG => (isTime_any _ _).mono fun e w' h => ⟨by rw [h.1, v0], by rw [← h.2]; exact GrF.refl _ _⟩),
    x_not gok_none (ox_tmp V14) V15,
    x_move gok_none (ox_tmp V15) V16,
    x_field (gok_some rfl V16) (f := 1) (s := 5) (by kernel_rfl) (by omega) (ox_tmp V4) rfl V17,
    x_loadn (gok_some rfl V16) (by kernel_rfl) (by kernel_rfl) (ox_tmp V17) (by intro j v hj; rcases j with _ | _ | _ | _ | _ | j <;> simp at hj <;> subst hj <;> assumption) V18,
    x_call (gok_some rfl V16) Try.func43 (by kernel_rfl) (by kernel_rfl) (us := [.agg #[.int .i64 (x1), .int .i64 (x2), .int .i64 (x3), .int .i64 (x4), .int .i64 (x5)]]) ⟨(ox_tmp V18), trivial⟩ V19 (fun wx hG => (iFlow_is _ _ _ _ _ _).mono fun e w' h => ⟨by rw [h.1, v1], by rw [h.2]; exact GrF.alloc _ _ _⟩),
    x_not (gok_some rfl V16) (ox_tmp V19) V20,
    x_pick gok_none (ox_tmp V16) ox_const (ox_tmp V20) rfl V21,
    x_move gok_none (ox_tmp V21) V22,
    x_move (gok_some rfl V22) (ox_tmp V3) V23,
    x_gtr (gok_some rfl V22) (ox_tmp V23) ox_const (decide_eq_true (by omega)).symm V24,
    x_move (gok_some rfl V22) (ox_tmp V24) V25,
    x_field (gok_some rfl V25) (f := 0) (s := 1) (by kernel_rfl) (by omega) (ox_tmp V4) rfl V26,
    x_load1 (gok_some rfl V25) (by kernel_rfl) (ox_tmp V26) g0 V27,
    x_move (gok_some rfl V25) (ox_tmp V0) V28,
    x_move (gok_some rfl V25) (ox_tmp V3) V29,
    x_sub (gok_some rfl V25) (ox_tmp V29) ox_const rfl (by omega) V30,
    x_index (gok_some rfl V25) (s := 6) (by kernel_rfl) (by omega) (by omega) (ox_tmp V28) (ox_tmp V30) (by rw [show ((k : Int) - 1).toNat = k - 1 from by omega]) V31,
    x_field (gok_some rfl V25) (f := 0) (s := 1) (by kernel_rfl) (by omega) (ox_tmp V31) rfl V32,
    x_load1 (gok_some rfl V25) (by kernel_rfl) (ox_tmp V32) p0 V33,
    x_lss (gok_some rfl V25) (ox_tmp V27) (ox_tmp V33) (decide_eq_true (by omega)).symm V34,
    x_pick (gok_some rfl V22) (ox_tmp V25) (ox_tmp V34) ox_const rfl V35,
    x_pick gok_none (ox_tmp V22) ox_const (ox_tmp V35) rfl V36,
    trivial⟩
              intro w5 hw5
              simp only [putL, Act.put, List.setIfInBounds_toArray, List.set_cons_zero, List.set_cons_succ, V12, V13, V14, V15, V16, V17, V18, V19, V20, V21, V22, V23, V24, V25, V26, V27, V28, V29, V30, V31, V32, V33, V34, V35, V36, Option.getD_some]
              clear hL V0 V3 V4 V12 V13 V14 V15 V16 V17 V18 V19 V20 V21 V22 V23 V24 V25 V26 V27 V28 V29 V30 V31 V32 V33 V34 V35 V36
              have b5 := below_of_gr hb4 hw5 hz4
              go_wp2
              go_ret
              exact ⟨ret_bool HE.out.symm, b5⟩
            · have hnext := Lib.hid (hr.next hlk (by rw [hh]; exact evOk_yes v0 v1 (by rw [evPrev_pos _ hk0, hq]; show q0 ≤ x0; omega)))
              obtain ⟨L, hL⟩ : ∃ L : List (Nat × Value), L = [(0, .slice (some ⟨b, off, none⟩) (n) (c)), (3, .int .i64 ((k : Int))), (4, .pointer (some ⟨wr.heap.size, 0, none⟩)), (12, .pointer (some ⟨wr.heap.size, 0, none⟩)), (13, .int .i64 (x0)), (14, .bool true), (15, .bool false), (16, .bool false), (17, .pointer (some ⟨wr.heap.size, 0 + 1, none⟩)), (18, .agg #[.int .i64 (x1), .int .i64 (x2), .int .i64 (x3), .int .i64 (x4), .int .i64 (x5)]), (19, .bool true), (20, .bool false), (21, .bool false), (22, .bool false), (23, .int .i64 ((k : Int))), (24, .bool true), (25, .bool true), (26, .pointer (some ⟨wr.heap.size, 0, none⟩)), (27, .int .i64 (x0)), (28, .slice (some ⟨b, off, none⟩) (n) (c)), (29, .int .i64 ((k : Int))), (30, .int .i64 (((k : Int)) - (1))), (31, .pointer (some ⟨b, off + (k - 1) * 6, none⟩)), (32, .pointer (some ⟨b, off + (k - 1) * 6, none⟩)), (33, .int .i64 (q0)), (34, .bool false), (35, .bool false), (36, .bool false)] := ⟨_, rfl⟩
              have V0 : L.lookup 0 = some (.slice (some ⟨b, off, none⟩) (n) (c)) := by rw [hL]; rfl
              have V3 : L.lookup 3 = some (.int .i64 ((k : Int))) := by rw [hL]; rfl
              have V4 : L.lookup 4 = some (.pointer (some ⟨wr.heap.size, 0, none⟩)) := by rw [hL]; rfl
              have V12 : L.lookup 12 = some (.pointer (some ⟨wr.heap.size, 0, none⟩)) := by rw [hL]; rfl
              have V13 : L.lookup 13 = some (.int .i64 (x0)) := by rw [hL]; rfl
              have V14 : L.lookup 14 = some (.bool true) := by rw [hL]; rfl
              have V15 : L.lookup 15 = some (.bool false) := by rw [hL]; rfl
              have V16 : L.lookup 16 = some (.bool false) := by rw [hL]; rfl
              have V17 : L.lookup 17 = some (.pointer (some ⟨wr.heap.size, 0 + 1, none⟩)) := by rw [hL]; rfl
              have V18 : L.lookup 18 = some (.agg #[.int .i64 (x1), .int .i64 (x2), .int .i64 (x3), .int .i64 (x4), .int .i64 (x5)]) := by rw [hL]; rfl
              have V19 : L.lookup 19 = some (.bool true) := by rw [hL]; rfl
              have V20 : L.lookup 20 = some (.bool false) := by rw [hL]; rfl
              have V21 : L.lookup 21 = some (.bool false) := by rw [hL]; rfl
              have V22 : L.lookup 22 = some (.bool false) := by rw [hL]; rfl
              have V23 : L.lookup 23 = some (.int .i64 ((k : Int))) := by rw [hL]; rfl
              have V24 : L.lookup 24 = some (.bool true) := by rw [hL]; rfl
              have V25 : L.lookup 25 = some (.bool true) := by rw [hL]; rfl
              have V26 : L.lookup 26 = some (.pointer (some ⟨wr.heap.size, 0, none⟩)) := by rw [hL]; rfl
              have V27 : L.lookup 27 = some (.int .i64 (x0)) := by rw [hL]; rfl
              have V28 : L.lookup 28 = some (.slice (some ⟨b, off, none⟩) (n) (c)) := by rw [hL]; rfl
              have V29 : L.lookup 29 = some (.int .i64 ((k : Int))) := by rw [hL]; rfl
              have V30 : L.lookup 30 = some (.int .i64 (((k : Int)) - (1))) := by rw [hL]; rfl
              have V31 : L.lookup 31 = some (.pointer (some ⟨b, off + (k - 1) * 6, none⟩)) := by rw [hL]; rfl
              have V32 : L.lookup 32 = some (.pointer (some ⟨b, off + (k - 1) * 6, none⟩)) := by rw [hL]; rfl
              have V33 : L.lookup 33 = some (.int .i64 (q0)) := by rw [hL]; rfl
              have V34 : L.lookup 34 = some (.bool false) := by rw [hL]; rfl
              have V35 : L.lookup 35 = some (.bool false) := by rw [hL]; rfl
              have V36 : L.lookup 36 = some (.bool false) := by rw [hL]; rfl
              refine wp_region_exact (by kernel_rfl) L 25 rfl [some 12, some 13, some 14, some 15, some 16, some 17, some 18, some 19, some 20, some 21, some 22, some 23, some 24, some 25, some 26, some 27, some 28, some 29, some 30, some 31, some 32, some 33, some 34, some 35, some 36] (by kernel_rfl) (by kernel_rfl) (by rw [hL]; rfl) 3 (by rw [hL]; intro x hx; simp only [List.take_succ_cons, List.take_zero, List.mem_cons, List.not_mem_nil, or_false] at hx; rcases hx with rfl | rfl | rfl <;> rfl) (by rw [hL]; rfl) ?_ ?_
              · clear hL
                exact ⟨x_field gok_none (f := 0) (s := 1) (by kernel_rfl) (by omega) (ox_tmp V4) rfl V12,
    x_load1 gok_none (by kernel_rfl) (ox_tmp V12) g0 V13,
    x_call gok_none Try.func44 (by kernel_rfl) (by kernel_rfl) (us := [.int .i64 (x0)]) ⟨(ox_tmp V13), trivial⟩ V14 (fun wx hG => (isTime_any _ _).mono fun e w' h => ⟨by rw [h.1, v0], by rw [← h.2]; exact GrF.refl _ _⟩),
    x_not gok_none (ox_tmp V14) V15,
    x_move gok_none (ox_tmp V15) V16,
    x_field (gok_some rfl V16) (f := 1) (s := 5) (by kernel_rfl) (by omega) (ox_tmp V4) rfl V17,
    x_loadn (gok_some rfl V16) (by kernel_rfl) (by kernel_rfl) (ox_tmp V17) (by intro j v hj; rcases j with _ | _ | _ | _ | _ | j <;> simp at hj <;> subst hj <;> assumption) V18,
    x_call (gok_some rfl V16) Try.func43 (by kernel_rfl) (by kernel_rfl) (us := [.agg #[.int .i64 (x1), .int .i64 (x2), .int .i64 (x3), .int .i64 (x4), .int .i64 (x5)]]) ⟨(ox_tmp V18), trivial⟩ V19 (fun wx hG => (iFlow_is _ _ _ _ _ _).mono fun e w' h => ⟨by rw [h.1, v1], by rw [h.2]; exact GrF.alloc _ _ _⟩),
    x_not (gok_some rfl V16) (ox_tmp V19) V20,
    x_pick gok_none (ox_tmp V16) ox_const (ox_tmp V20) rfl V21,
    x_move gok_none (ox_tmp V21) V22,
    x_move (gok_some rfl V22) (ox_tmp V3) V23,
    x_gtr (gok_some rfl V22) (ox_tmp V23) ox_const (decide_eq_true (by omega)).symm V24,
    x_move (gok_some rfl V22) (ox_tmp V24) V25,
    x_field (gok_some rfl V25) (f := 0) (s := 1) (by kernel_rfl) (by omega) (ox_tmp V4) rfl V26,
    x_load1 (gok_some rfl V25) (by kernel_rfl) (ox_tmp V26) g0 V27,
    x_move (gok_some rfl V25) (ox_tmp V0) V28,
    x_move (gok_some rfl V25) (ox_tmp V3) V29,
    x_sub (gok_some rfl V25) (ox_tmp V29) ox_const rfl (by omega) V30,
    x_index (gok_some rfl V25) (s := 6) (by kernel_rfl) (by omega) (by omega) (ox_tmp V28) (ox_tmp V30) (by rw [show ((k : Int) - 1).toNat = k - 1 from by omega]) V31,
    x_field (gok_some rfl V25) (f := 0) (s := 1) (by kernel_rfl) (by omega) (ox_tmp V31) rfl V32,
    x_load1 (gok_some rfl V25) (by kernel_rfl) (ox_tmp V32) p0 V33,
    x_lss (gok_some rfl V25) (ox_tmp V27) (ox_tmp V33) (decide_eq_false (by omega)).symm V34,
    x_pick (gok_some rfl V22) (ox_tmp V25) (ox_tmp V34) ox_const rfl V35,
    x_pick gok_none (ox_tmp V22) ox_const (ox_tmp V35) rfl V36,
    trivial⟩
              intro w5 hw5
              simp only [putL, Act.put, List.setIfInBounds_toArray, List.set_cons_zero, List.set_cons_succ, V12, V13, V14, V15, V16, V17, V18, V19, V20, V21, V22, V23, V24, V25, V26, V27, V28, V29, V30, V31, V32, V33, V34, V35, V36, Option.getD_some]
              clear hL V0 V3 V4 V12 V13 V14 V15 V16 V17 V18 V19 V20 V21 V22 V23 V24 V25 V26 V27 V28 V29 V30 V31 V32 V33 V34 V35 V36
              have b5 := below_of_gr hb4 hw5 hz4
              go_wp2
              go_roundw
              case rel => exact ⟨k + 1, by omega, by go_num, hnext.out, b5⟩
              case measure => simp [intOf]; omega
          · have hnext := Lib.hid (hr.next hlk (by rw [hh]; exact evOk_yes v0 v1 (by rw [show k = 0 from by omega, evPrev_zero]; show (-1 : Int) ≤ x0; omega)))
            obtain ⟨L, hL⟩ : ∃ L : List (Nat × Value), L = [(0, .slice (some ⟨b, off, none⟩) (n) (c)), (3, .int .i64 ((k : Int))), (4, .pointer (some ⟨wr.heap.size, 0, none⟩)), (12, .pointer (some ⟨wr.heap.size, 0, none⟩)), (13, .int .i64 (x0)), (14, .bool true), (15, .bool false), (16, .bool false), (17, .pointer (some ⟨wr.heap.size, 0 + 1, none⟩)), (18, .agg #[.int .i64 (x1), .int .i64 (x2), .int .i64 (x3), .int .i64 (x4), .int .i64 (x5)]), (19, .bool true), (20, .bool false), (21, .bool false), (22, .bool false), (23, .int .i64 ((k : Int))), (24, .bool false), (25, .bool false), (26, undef), (27, undef), (28, undef), (29, undef), (30, undef), (31, undef), (32, undef), (33, undef), (34, undef), (35, .bool false), (36, .bool false)] := ⟨_, rfl⟩
            have V0 : L.lookup 0 = some (.slice (some ⟨b, off, none⟩) (n) (c)) := by rw [hL]; rfl
            have V3 : L.lookup 3 = some (.int .i64 ((k : Int))) := by rw [hL]; rfl
            have V4 : L.lookup 4 = some (.pointer (some ⟨wr.heap.size, 0, none⟩)) := by rw [hL]; rfl
            have V12 : L.lookup 12 = some (.pointer (some ⟨wr.heap.size, 0, none⟩)) := by rw [hL]; rfl
            have V13 : L.lookup 13 = some (.int .i64 (x0)) := by rw [hL]; rfl
            have V14 : L.lookup 14 = some (.bool true) := by rw [hL]; rfl
            have V15 : L.lookup 15 = some (.bool false) := by rw [hL]; rfl
            have V16 : L.lookup 16 = some (.bool false) := by rw [hL]; rfl
            have V17 : L.lookup 17 = some (.pointer (some ⟨wr.heap.size, 0 + 1, none⟩)) := by rw [hL]; rfl
            have V18 : L.lookup 18 = some (.agg #[.int .i64 (x1), .int .i64 (x2), .int .i64 (x3), .int .i64 (x4), .int .i64 (x5)]) := by rw [hL]; rfl
            have V19 : L.lookup 19 = some (.bool true) := by rw [hL]; rfl
            have V20 : L.lookup 20 = some (.bool false) := by rw [hL]; rfl
            have V21 : L.lookup 21 = some (.bool false) := by rw [hL]; rfl
            have V22 : L.lookup 22 = some (.bool false) := by rw [hL]; rfl
            have V23 : L.lookup 23 = some (.int .i64 ((k : Int))) := by rw [hL]; rfl
            have V24 : L.lookup 24 = some (.bool false) := by rw [hL]; rfl
            have V25 : L.lookup 25 = some (.bool false) := by rw [hL]; rfl
            have V26 : L.lookup 26 = some (undef) := by rw [hL]; rfl
            have V27 : L.lookup 27 = some (undef) := by rw [hL]; rfl
            have V28 : L.lookup 28 = some (undef) := by rw [hL]; rfl
            have V29 : L.lookup 29 = some (undef) := by rw [hL]; rfl
            have V30 : L.lookup 30 = some (undef) := by rw [hL]; rfl
            have V31 : L.lookup 31 = some (undef) := by rw [hL]; rfl
            have V32 : L.lookup 32 = some (undef) := by rw [hL]; rfl
            have V33 : L.lookup 33 = some (undef) := by rw [hL]; rfl
            have V34 : L.lookup 34 = some (undef) := by rw [hL]; rfl
            have V35 : L.lookup 35 = some (.bool false) := by rw [hL]; rfl
            have V36 : L.lookup 36 = some (.bool false) := by rw [hL]; rfl
            refine wp_region_exact (by kernel_rfl) L 25 rfl [some 12, some 13, some 14, some 15, some 16, some 17, some 18, some 19, some 20, some 21, some 22, some 23, some 24, some 25, some 26, some 27, some 28, some 29, some 30, some 31, some 32, some 33, some 34, some 35, some 36] (by kernel_rfl) (by kernel_rfl) (by rw [hL]; rfl) 3 (by rw [hL]; intro x hx; simp only [List.take_succ_cons, List.take_zero, List.mem_cons, List.not_mem_nil, or_false] at hx; rcases hx with rfl | rfl | rfl <;> rfl) (by rw [hL]; rfl) ?_ ?_
            · clear hL
              exact ⟨x_field gok_none (f := 0) (s := 1) (by kernel_rfl) (by omega) (ox_tmp V4) rfl V12,
    x_load1 gok_none (by kernel_rfl) (ox_tmp V12) g0 V13,
    x_call gok_none Try.func44 (by kernel_rfl) (by kernel_rfl) (us := [.int .i64 (x0)]) ⟨(ox_tmp V13), trivial⟩ V14 (fun wx hG => (isTime_any _ _).mono fun e w' h => ⟨by rw [h.1, v0], by rw [← h.2]; exact GrF.refl _ _⟩),
    x_not gok_none (ox_tmp V14) V15,
    x_move gok_none (ox_tmp V15) V16,
    x_field (gok_some rfl V16) (f := 1) (s := 5) (by kernel_rfl) (by omega) (ox_tmp V4) rfl V17,
    x_loadn (gok_some rfl V16) (by kernel_rfl) (by kernel_rfl) (ox_tmp V17) (by intro j v hj; rcases j with _ | _ | _ | _ | _ | j <;> simp at hj <;> subst hj <;> assumption) V18,
    x_call (gok_some rfl V16) Try.func43 (by kernel_rfl) (by kernel_rfl) (us := [.agg #[.int .i64 (x1), .int .i64 (x2), .int .i64 (x3), .int .i64 (x4), .int .i64 (x5)]]) ⟨(ox_tmp V18), trivial⟩ V19 (fun wx hG => (iFlow_is _ _ _ _ _ _).mono fun e w' h => ⟨by rw [h.1, v1], by rw [h.2]; exact GrF.alloc _ _ _⟩),
    x_not (gok_some rfl V16) (ox_tmp V19) V20,
    x_pick gok_none (ox_tmp V16) ox_const (ox_tmp V20) rfl V21,
    x_move gok_none (ox_tmp V21) V22,
    x_move (gok_some rfl V22) (ox_tmp V3) V23,
    x_gtr (gok_some rfl V22) (ox_tmp V23) ox_const (decide_eq_false (by omega)).symm V24,
    x_move (gok_some rfl V22) (ox_tmp V24) V25,
    x_skip rfl rfl V25 (by intro e; cases e) (fun d h => by cases h; exact V26),
    x_skip rfl rfl V25 (by intro e; cases e) (fun d h => by cases h; exact V27),
    x_skip rfl rfl V25 (by intro e; cases e) (fun d h => by cases h; exact V28),
    x_skip rfl rfl V25 (by intro e; cases e) (fun d h => by cases h; exact V29),
    x_skip rfl rfl V25 (by intro e; cases e) (fun d h => by cases h; exact V30),
    x_skip rfl rfl V25 (by intro e; cases e) (fun d h => by cases h; exact V31),
    x_skip rfl rfl V25 (by intro e; cases e) (fun d h => by cases h; exact V32),
    x_skip rfl rfl V25 (by intro e; cases e) (fun d h => by cases h; exact V33),
    x_skip rfl rfl V25 (by intro e; cases e) (fun d h => by cases h; exact V34),
    x_pick (gok_some rfl V22) (ox_tmp V25) (ox_tmp V34) ox_const rfl V35,
    x_pick gok_none (ox_tmp V22) ox_const (ox_tmp V35) rfl V36,
    trivial⟩
            intro w5 hw5
            simp only [putL, Act.put, List.setIfInBounds_toArray, List.set_cons_zero, List.set_cons_succ, V12, V13, V14, V15, V16, V17, V18, V19, V20, V21, V22, V23, V24, V25, V26, V27, V28, V29, V30, V31, V32, V33, V34, V35, V36, Option.getD_some]
            clear hL V0 V3 V4 V12 V13 V14 V15 V16 V17 V18 V19 V20 V21 V22 V23 V24 V25 V26 V27 V28 V29 V30 V31 V32 V33 V34 V35 V36
            have b5 := below_of_gr hb4 hw5 hz4
            go_wp2
            go_roundw
            case rel => exact ⟨k + 1, by omega, by go_num, hnext.out, b5⟩
            case measure => simp [intOf]; omega
        · have v1 := Bool.eq_false_iff.2 v1
          have HE := Lib.hid (hr.bad hlk (by rw [hh]; exact evOk_flow v1))
          obtain ⟨L, hL⟩ : ∃ L : List (Nat × Value), L = [(0, .slice (some ⟨b, off, none⟩) (n) (c)), (3, .int .i64 ((k : Int))), (4, .pointer (some ⟨wr.heap.size, 0, none⟩)), (12, .pointer (some ⟨wr.heap.size, 0, none⟩)), (13, .int .i64 (x0)), (14, .bool true), (15, .bool false), (16, .bool false), (17, .pointer (some ⟨wr.heap.size, 0 + 1, none⟩)), (18, .agg #[.int .i64 (x1), .int .i64 (x2), .int .i64 (x3), .int .i64 (x4), .int .i64 (x5)]), (19, .bool false), (20, .bool true), (21, .bool true), (22, .bool true), (23, undef), (24, undef), (25, undef), (26, undef), (27, undef), (28, undef), (29, undef), (30, undef), (31, undef), (32, undef), (33, undef), (34, undef), (35, undef), (36, .bool true)] := ⟨_, rfl⟩
          have V0 : L.lookup 0 = some (.slice (some ⟨b, off, none⟩) (n) (c)) := by rw [hL]; rfl
          have V3 : L.lookup 3 = some (.int .i64 ((k : Int))) := by rw [hL]; rfl
          have V4 : L.lookup 4 = some (.pointer (some ⟨wr.heap.size, 0, none⟩)) := by rw [hL]; rfl
          have V12 : L.lookup 12 = some (.pointer (some ⟨wr.heap.size, 0, none⟩)) := by rw [hL]; rfl
          have V13 : L.lookup 13 = some (.int .i64 (x0)) := by rw [hL]; rfl
          have V14 : L.lookup 14 = some (.bool true) := by rw [hL]; rfl
          have V15 : L.lookup 15 = some (.bool false) := by rw [hL]; rfl
          have V16 : L.lookup 16 = some (.bool false) := by rw [hL]; rfl
          have V17 : L.lookup 17 = some (.pointer (some ⟨wr.heap.size, 0 + 1, none⟩)) := by rw [hL]; rfl
          have V18 : L.lookup 18 = some (.agg #[.int .i64 (x1), .int .i64 (x2), .int .i64 (x3), .int .i64 (x4), .int .i64 (x5)]) := by rw [hL]; rfl
          have V19 : L.lookup 19 = some (.bool false) := by rw [hL]; rfl
          have V20 : L.lookup 20 = some (.bool true) := by rw [hL]; rfl
          have V21 : L.lookup 21 = some (.bool true) := by rw [hL]; rfl
          have V22 : L.lookup 22 = some (.bool true) := by rw [hL]; rfl
          have V23 : L.lookup 23 = some (undef) := by rw [hL]; rfl
          have V24 : L.lookup 24 = some (undef) := by rw [hL]; rfl
          have V25 : L.lookup 25 = some (undef) := by rw [hL]; rfl
          have V26 : L.lookup 26 = some (undef) := by rw [hL]; rfl
          have V27 : L.lookup 27 = some (undef) := by rw [hL]; rfl
          have V28 : L.lookup 28 = some (undef) := by rw [hL]; rfl
          have V29 : L.lookup 29 = some (undef) := by rw [hL]; rfl
          have V30 : L.lookup 30 = some (undef) := by rw [hL]; rfl
          have V31 : L.lookup 31 = some (undef) := by rw [hL]; rfl
          have V32 : L.lookup 32 = some (undef) := by rw [hL]; rfl
          have V33 : L.lookup 33 = some (undef) := by rw [hL]; rfl
          have V34 : L.lookup 34 = some (undef) := by rw [hL]; rfl
          have V35 : L.lookup 35 = some (undef) := by rw [hL]; rfl
          have V36 : L.lookup 36 = some (.bool true) := by rw [hL]; rfl
          refine wp_region_exact (by kernel_rfl) L 25 rfl [some 12, some 13, some 14, some 15, some 16, some 17, some 18, some 19, some 20, some 21, some 22, some 23, some 24, some 25, some 26, some 27, some 28, some 29, some 30, some 31, some 32, some 33, some 34, some 35, some 36] (by kernel_rfl) (by kernel_rfl) (by rw [hL]; rfl) 3 (by rw [hL]; intro x hx; simp only [List.take_succ_cons, List.take_zero, List.mem_cons, List.not_mem_nil, or_false] at hx; rcases hx with rfl | rfl | rfl <;> rfl) (by rw [hL]; rfl) ?_ ?_
          · clear hL
            exact ⟨x_field gok_none (f := 0) (s := 1) (by kernel_rfl) (by omega) (ox_tmp V4) rfl V12,
    x_load1 gok_none (by kernel_rfl) (ox_tmp V12) g0 V13,
    x_call gok_none Try.func44 (by kernel_rfl) (by kernel_rfl) (us := [.int .i64 (x0)]) ⟨(ox_tmp V13), trivial⟩ V14 (fun wx hG => (isTime_any _ _).mono fun e w' h => ⟨by rw [h.1, v0], by rw [← h.2]; exact GrF.refl _ _⟩),
    x_not gok_none (ox_tmp V14) V15,
    x_move gok_none (ox_tmp V15) V16,
    x_field (gok_some rfl V16) (f := 1) (s := 5) (by kernel_rfl) (by omega) (ox_tmp V4) rfl V17,
    x_loadn (gok_some rfl V16) (by kernel_rfl) (by kernel_rfl) (ox_tmp V17) (by intro j v hj; rcases j with _ | _ | _ | _ | _ | j <;> simp at hj <;> subst hj <;> assumption) V18,
    x_call (gok_some rfl V16) Try.func43 (by kernel_rfl) (by kernel_rfl) (us := [.agg #[.int .i64 (x1), .int .i64 (x2), .int .i64 (x3), .int .i64 (x4), .int .i64 (x5)]]) ⟨(ox_tmp V18), trivial⟩ V19 (fun wx hG => (iFlow_is _ _ _ _ _ _).mono fun e w' h => ⟨by rw [h.1, v1], by rw [h.2]; exact GrF.alloc _ _ _⟩),
    x_not (gok_some rfl V16) (ox_tmp V19) V20,
    x_pick gok_none (ox_tmp V16) ox_const (ox_tmp V20) rfl V21,
    x_move gok_none (ox_tmp V21) V22,
    x_skip rfl rfl V22 (by intro e; cases e) (fun d h => by cases h; exact V23),
    x_skip rfl rfl V22 (by intro e; cases e) (fun d h => by cases h; exact V24),
    x_skip rfl rfl V22 (by intro e; cases e) (fun d h => by cases h; exact V25),
    x_skip rfl rfl V25 (by intro e; cases e) (fun d h => by cases h; exact V26),
    x_skip rfl rfl V25 (by intro e; cases e) (fun d h => by cases h; exact V27),
    x_skip rfl rfl V25 (by intro e; cases e) (fun d h => by cases h; exact V28),
    x_skip rfl rfl V25 (by intro e; cases e) (fun d h => by cases h; exact V29),
    x_skip rfl rfl V25 (by intro e; cases e) (fun d h => by cases h; exact V30),
    x_skip rfl rfl V25 (by intro e; cases e) (fun d h => by cases h; exact V31),
    x_skip rfl rfl V25 (by intro e; cases e) (fun d h => by cases h; exact V32),
    x_skip rfl rfl V25 (by intro e; cases e) (fun d h => by cases h; exact V33),
    x_skip rfl rfl V25 (by intro e; cases e) (fun d h => by cases h; exact V34),
    x_skip rfl rfl V22 (by intro e; cases e) (fun d h => by cases h; exact V35),
    x_pick gok_none (ox_tmp V22) ox_const (ox_tmp V35) rfl V36,
    trivial⟩
          intro w5 hw5
          simp only [putL, Act.put, List.setIfInBounds_toArray, List.set_cons_zero, List.set_cons_succ, V12, V13, V14, V15, V16, V17, V18, V19, V20, V21, V22, V23, V24, V25, V26, V27, V28, V29, V30, V31, V32, V33, V34, V35, V36, Option.getD_some]
          clear hL V0 V3 V4 V12 V13 V14 V15 V16 V17 V18 V19 V20 V21 V22 V23 V24 V25 V26 V27 V28 V29 V30 V31 V32 V33 V34 V35 V36
          have b5 := below_of_gr hb4 hw5 hz4
          go_wp2
          go_ret
          exact ⟨ret_bool HE.out.symm, b5⟩
      · have v0 := Bool.eq_false_iff.2 v0
        have HE := Lib.hid (hr.bad hlk (by rw [hh]; exact evOk_time v0))
        obtain ⟨L, hL⟩ : ∃ L : List (Nat × Value), L = [(0, .slice (some ⟨b, off, none⟩) (n) (c)), (3, .int .i64 ((k : Int))), (4, .pointer (some ⟨wr.heap.size, 0, none⟩)), (12, .pointer (some ⟨wr.heap.size, 0, none⟩)), (13, .int .i64 (x0)), (14, .bool false), (15, .bool true), (16, .bool true), (17, undef), (18, undef), (19, undef), (20, undef), (21, .bool true), (22, .bool true), (23, undef), (24, undef), (25, undef), (26, undef), (27, undef), (28, undef), (29, undef), (30, undef), (31, undef), (32, undef), (33, undef), (34, undef), (35, undef), (36, .bool true)] := ⟨_, rfl⟩
        have V0 : L.lookup 0 = some (.slice (some ⟨b, off, none⟩) (n) (c)) := by rw [hL]; rfl
        have V3 : L.lookup 3 = some (.int .i64 ((k : Int))) := by rw [hL]; rfl
        have V4 : L.lookup 4 = some (.pointer (some ⟨wr.heap.size, 0, none⟩)) := by rw [hL]; rfl
        have V12 : L.lookup 12 = some (.pointer (some ⟨wr.heap.size, 0, none⟩)) := by rw [hL]; rfl
        have V13 : L.lookup 13 = some (.int .i64 (x0)) := by rw [hL]; rfl
        have V14 : L.lookup 14 = some (.bool false) := by rw [hL]; rfl
        have V15 : L.lookup 15 = some (.bool true) := by rw [hL]; rfl
        have V16 : L.lookup 16 = some (.bool true) := by rw [hL]; rfl
        have V17 : L.lookup 17 = some (undef) := by rw [hL]; rfl
        have V18 : L.lookup 18 = some (undef) := by rw [hL]; rfl
        have V19 : L.lookup 19 = some (undef) := by rw [hL]; rfl
        have V20 : L.lookup 20 = some (undef) := by rw [hL]; rfl
        have V21 : L.lookup 21 = some (.bool true) := by rw [hL]; rfl
        have V22 : L.lookup 22 = some (.bool true) := by rw [hL]; rfl
        have V23 : L.lookup 23 = some (undef) := by rw [hL]; rfl
        have V24 : L.lookup 24 = some (undef) := by rw [hL]; rfl
        have V25 : L.lookup 25 = some (undef) := by rw [hL]; rfl
        have V26 : L.lookup 26 = some (undef) := by rw [hL]; rfl
        have V27 : L.lookup 27 = some (undef) := by rw [hL]; rfl
        have V28 : L.lookup 28 = some (undef) := by rw [hL]; rfl
        have V29 : L.lookup 29 = some (undef) := by rw [hL]; rfl
        have V30 : L.lookup 30 = some (undef) := by rw [hL]; rfl
        have V31 : L.lookup 31 = some (undef) := by rw [hL]; rfl
        have V32 : L.lookup 32 = some (undef) := by rw [hL]; rfl
        have V33 : L.lookup 33 = some (undef) := by rw [hL]; rfl
        have V34 : L.lookup 34 = some (undef) := by rw [hL]; rfl
        have V35 : L.lookup 35 = some (undef) := by rw [hL]; rfl
        have V36 : L.lookup 36 = some (.bool true) := by rw [hL]; rfl
        refine wp_region_exact (by kernel_rfl) L 25 rfl [some 12, some 13, some 14, some 15, some 16, some 17, some 18, some 19, some 20, some 21, some 22, some 23, some 24, some 25, some 26, some 27, some 28, some 29, some 30, some 31, some 32, some 33, some 34, some 35, some 36] (by kernel_rfl) (by kernel_rfl) (by rw [hL]; rfl) 3 (by rw [hL]; intro x hx; simp only [List.take_succ_cons, List.take_zero, List.mem_cons, List.not_mem_nil, or_false] at hx; rcases hx with rfl | rfl | rfl <;> rfl) (by rw [hL]; rfl) ?_ ?_
        · clear hL
          exact ⟨x_field gok_none (f := 0) (s := 1) (by kernel_rfl) (by omega) (ox_tmp V4) rfl V12,
    x_load1 gok_none (by kernel_rfl) (ox_tmp V12) g0 V13,
    x_call gok_none Try.func44 (by kernel_rfl) (by kernel_rfl) (us := [.int .i64 (x0)]) ⟨(ox_tmp V13), trivial⟩ V14 (fun wx hG => (isTime_any _ _).mono fun e w' h => ⟨by rw [h.1, v0], by rw [← h.2]; exact GrF.refl _ _⟩),
    x_not gok_none (ox_tmp V14) V15,
    x_move gok_none (ox_tmp V15) V16,
    x_skip rfl rfl V16 (by intro e; cases e) (fun d h => by cases h; exact V17),
    x_skip rfl rfl V16 (by intro e; cases e) (fun d h => by cases h; exact V18),
    x_skip rfl rfl V16 (by intro e; cases e) (fun d h => by cases h; exact V19),
    x_skip rfl rfl V16 (by intro e; cases e) (fun d h => by cases h; exact V20),
    x_pick gok_none (ox_tmp V16) ox_const (ox_tmp V20) rfl V21,
    x_move gok_none (ox_tmp V21) V22,
    x_skip rfl rfl V22 (by intro e; cases e) (fun d h => by cases h; exact V23),
    x_skip rfl rfl V22 (by intro e; cases e) (fun d h => by cases h; exact V24),
    x_skip rfl rfl V22 (by intro e; cases e) (fun d h => by cases h; exact V25),
    x_skip rfl rfl V25 (by intro e; cases e) (fun d h => by cases h; exact V26),
    x_skip rfl rfl V25 (by intro e; cases e) (fun d h => by cases h; exact V27),
    x_skip rfl rfl V25 (by intro e; cases e) (fun d h => by cases h; exact V28),
    x_skip rfl rfl V25 (by intro e; cases e) (fun d h => by cases h; exact V29),
    x_skip rfl rfl V25 (by intro e; cases e) (fun d h => by cases h; exact V30),
    x_skip rfl rfl V25 (by intro e; cases e) (fun d h => by cases h; exact V31),
    x_skip rfl rfl V25 (by intro e; cases e) (fun d h => by cases h; exact V32),
    x_skip rfl rfl V25 (by intro e; cases e) (fun d h => by cases h; exact V33),
    x_skip rfl rfl V25 (by intro e; cases e) (fun d h => by cases h; exact V34),
    x_skip rfl rfl V22 (by intro e; cases e) (fun d h => by cases h; exact V35),
    x_pick gok_none (ox_tmp V22) ox_const (ox_tmp V35) rfl V36,
    trivial⟩
        intro w5 hw5
        simp only [putL, Act.put, List.setIfInBounds_toArray, List.set_cons_zero, List.set_cons_succ, V12, V13, V14, V15, V16, V17, V18, V19, V20, V21, V22, V23, V24, V25, V26, V27, V28, V29, V30, V31, V32, V33, V34, V35, V36, Option.getD_some]
        clear hL V0 V3 V4 V12 V13 V14 V15 V16 V17 V18 V19 V20 V21 V22 V23 V24 V25 V26 V27 V28 V29 V30 V31 V32 V33 V34 V35 V36
        have b5 := below_of_gr hb4 hw5 hz4
        go_wp2
        go_ret
        exact ⟨ret_bool HE.out.symm, b5⟩
    · obtain rfl : n = k := by omega
      have HE := Lib.hid (hr.done HL.out)
      go_wp2
      go_ret
      exact ⟨ret_bool HE.out.symm, hb⟩

set_option maxHeartbeats 1600000 in
theorem sEventsValid_any (A : Option Addr) (n c : Nat) (es : List Ev6) (w : World) {lo hi : Nat} (hS : Sl w lo hi 6 A n (evsV es)) (hhi : hi ≤ w.heap.size) (hn : n ≤ 1048577) :
    Calls Try.prog 38 #[.slice A n c] w fun e w' => e = .returned (.bool (evV es)) ∧ Below w.heap.size w w' := by
  have HL := Lib.hid hS.elen
  go_enter Try.func38, Try.ntmps38
  go_wp2
  go_loopw [3] (fun i wr => ∃ k : Nat, k ≤ n ∧ i = .int .i64 k ∧ EvRel es k ∧ Below w.heap.size w wr) (fun i _ => n - (intOf i).toNat)
  case atStart => exact ⟨0, Nat.zero_le _, rfl, EvRel.start es, Below.refl _ _⟩
  case round =>
    obtain ⟨k, hk, rfl, hr, hb⟩ := hrel
    have hz := hb.size
    by_cases hlt : k < n
    · have hlk : k < es.length := by rw [HL.out]; exact hlt
      obtain ⟨b, off, hA, _, _, c0, c1, c2, c3, c4, c5⟩ := (hS.below hb hhi).ev hlt
      subst hA
      obtain ⟨⟨x0, x1, x2, x3, x4, x5⟩, hh⟩ : ∃ p, evAt es k = p := ⟨_, rfl⟩
      have hki : (0 : Int) ≤ (k : Int) := by omega
      have hki2 : (k : Int) < (n : Int) := by omega
      rw [hh] at c0 c1 c2 c3 c4 c5
      simp only at c0 c1 c2 c3 c4 c5
      have hbz : b < wr.heap.size := World.block_lt_of_cell? wr _ c0
      have hp : ∀ (hk0 : 0 < k), wr.cell? ⟨b, off + (k - 1) * 6, none⟩ = some (.int .i64 (evAt es (k - 1)).at_) := fun hk0 => by
        obtain ⟨_, _, e, _, _, p0, _⟩ := (hS.below hb hhi).ev (k := k - 1) (by omega)
        injection e with e
        injection e with e1 e2
        subst e1 e2
        exact p0
      obtain ⟨q0, hq⟩ : ∃ q, (evAt es (k - 1)).at_ = q := ⟨_, rfl⟩
      rw [hq] at hp
      go_wp2
      have g0 := c0
      have g1 := c1
      have g2 := c2
      have g3 := c3
      have g4 := c4
      have g5 := c5
      have hp4 := hp
      have hb4 := hb
      have hz4 := hz
      clear c0 c1 c2 c3 c4 c5 hp hb
      by_cases v0 : inB x0 0 100000 = true
      · have b0 := inB_iff.1 v0
        by_cases v1 : flowV x1 x2 x3 x4 x5 = true
        · by_cases hk0 : 0 < k
          · have p0 := hp4 hk0
            by_cases v2 : x0 < q0
            · have HE := Lib.hid (hr.bad hlk (by rw [hh]; exact evOk_order (by rw [evPrev_pos _ hk0, hq]; exact v2)))
              obtain ⟨L, hL⟩ : ∃ L : List (Nat × Value), L = [(0, .slice (some ⟨b, off, none⟩) (n) (c)), (3, .int .i64 ((k : Int))), (10, .slice (some ⟨b, off, none⟩) (n) (c)), (11, .int .i64 ((k : Int))), (12, .pointer (some ⟨b, off + k * 6, none⟩)), (13, .pointer (some ⟨b, off + k * 6 + 1, none⟩)), (14, .agg #[.int .i64 (x1), .int .i64 (x2), .int .i64 (x3), .int .i64 (x4), .int .i64 (x5)]), (15, .bool true), (16, .bool false), (17, .bool false), (18, .slice (some ⟨b, off, none⟩) (n) (c)), (19, .int .i64 ((k : Int))), (20, .pointer (some ⟨b, off + k * 6, none⟩)), (21, .pointer (some ⟨b, off + k * 6, none⟩)), (22, .int .i64 (x0)), (23, .bool true), (24, .bool false), (25, .bool false), (26, .bool false), (27, .int .i64 ((k : Int))), (28, .bool true), (29, .bool true), (30, .slice (some ⟨b, off, none⟩) (n) (c)), (31, .int .i64 ((k : Int))), (32, .pointer (some ⟨b, off + k * 6, none⟩)), (33, .pointer (some ⟨b, off + k * 6, none⟩)), (34, .int .i64 (x0)), (35, .slice (some ⟨b, off, none⟩) (n) (c)), (36, .int .i64 ((k : Int))), (37, .int .i64 (((k : Int)) - (1))), (38, .pointer (some ⟨b, off + (k - 1) * 6, none⟩)), (39, .pointer (some ⟨b, off + (k - 1) * 6, none⟩)), (40, .int .i64 (q0)), (41, .bool true), (42, .bool true), (43, .bool true)] := ⟨_, rfl⟩
              have V0 : L.lookup 0 = some (.slice (some ⟨b, off, none⟩) (n) (c)) := by rw [hL]; rfl
              have V3 : L.lookup 3 = some (.int .i64 ((k : Int))) := by rw [hL]; rfl
              have V10 : L.lookup 10 = some (.slice (some ⟨b, off, none⟩) (n) (c)) := by rw [hL]; rfl
              have V11 : L.lookup 11 = some (.int .i64 ((k : Int))) := by rw [hL]; rfl
              have V12 : L.lookup 12 = some (.pointer (some ⟨b, off + k * 6, none⟩)) := by rw [hL]; rfl
              have V13 : L.lookup 13 = some (.pointer (some ⟨b, off + k * 6 + 1, none⟩)) := by rw [hL]; rfl
              have V14 : L.lookup 14 = some (.agg #[.int .i64 (x1), .int .i64 (x2), .int .i64 (x3), .int .i64 (x4), .int .i64 (x5)]) := by rw [hL]; rfl
              have V15 : L.lookup 15 = some (.bool true) := by rw [hL]; rfl
              have V16 : L.lookup 16 = some (.bool false) := by rw [hL]; rfl
              have V17 : L.lookup 17 = some (.bool false) := by rw [hL]; rfl
              have V18 : L.lookup 18 = some (.slice (some ⟨b, off, none⟩) (n) (c)) := by rw [hL]; rfl
              have V19 : L.lookup 19 = some (.int .i64 ((k : Int))) := by rw [hL]; rfl
              have V20 : L.lookup 20 = some (.pointer (some ⟨b, off + k * 6, none⟩)) := by rw [hL]; rfl
              have V21 : L.lookup 21 = some (.pointer (some ⟨b, off + k * 6, none⟩)) := by rw [hL]; rfl
              have V22 : L.lookup 22 = some (.int .i64 (x0)) := by rw [hL]; rfl
              have V23 : L.lookup 23 = some (.bool true) := by rw [hL]; rfl
              have V24 : L.lookup 24 = some (.bool false) := by rw [hL]; rfl
              have V25 : L.lookup 25 = some (.bool false) := by rw [hL]; rfl
              have V26 : L.lookup 26 = some (.bool false) := by rw [hL]; rfl
              have V27 : L.lookup 27 = some (.int .i64 ((k : Int))) := by rw [hL]; rfl
              have V28 : L.lookup 28 = some (.bool true) := by rw [hL]; rfl
              have V29 : L.lookup 29 = some (.bool true) := by rw [hL]; rfl
              have V30 : L.lookup 30 = some (.slice (some ⟨b, off, none⟩) (n) (c)) := by rw [hL]; rfl
              have V31 : L.lookup 31 = some (.int .i64 ((k : Int))) := by rw [hL]; rfl
              have V32 : L.lookup 32 = some (.pointer (some ⟨b, off + k * 6, none⟩)) := by rw [hL]; rfl
              have V33 : L.lookup 33 = some (.pointer (some ⟨b, off + k * 6, none⟩)) := by rw [hL]; rfl
              have V34 : L.lookup 34 = some (.int .i64 (x0)) := by rw [hL]; rfl
              have V35 : L.lookup 35 = some (.slice (some ⟨b, off, none⟩) (n) (c)) := by rw [hL]; rfl
              have V36 : L.lookup 36 = some (.int .i64 ((k : Int))) := by rw [hL]; rfl
              have V37 : L.lookup 37 = some (.int .i64 (((k : Int)) - (1))) := by rw [hL]; rfl
              have V38 : L.lookup 38 = some (.pointer (some ⟨b, off + (k - 1) * 6, none⟩)) := by rw [hL]; rfl
              have V39 : L.lookup 39 = some (.pointer (some ⟨b, off + (k - 1) * 6, none⟩)) := by rw [hL]; rfl
              have V40 : L.lookup 40 = some (.int .i64 (q0)) := by rw [hL]; rfl
              have V41 : L.lookup 41 = some (.bool true) := by rw [hL]; rfl
              have V42 : L.lookup 42 = some (.bool true) := by rw [hL]; rfl
              have V43 : L.lookup 43 = some (.bool true) := by rw [hL]; rfl
              refine wp_region_exact (by kernel_rfl) L 34 rfl [some 10, some 11, some 12, some 13, some 14, some 15, some 16, some 17, some 18, some 19, some 20, some 21, some 22, some 23, some 24, some 25, some 26, some 27, some 28, some 29, some 30, some 31, some 32, some 33, some 34, some 35, some 36, some 37, some 38, some 39, some 40, some 41, some 42, some 43] (by kernel_rfl) (by kernel_rfl) (by rw [hL]; rfl) 2 (by rw [hL]; intro x hx; simp only [List.take_succ_cons, List.take_zero, List.mem_cons, List.not_mem_nil, or_false] at hx; rcases hx with rfl | rfl <;> rfl) (by rw [hL]; rfl) ?_ ?_
              · clear hL
                exact ⟨x_move gok_none (ox_tmp V0) V10,
    x_move gok_none (ox_tmp V3) V11,
    x_index gok_none (s := 6) (by kernel_rfl) (by omega) (by omega) (ox_tmp V10) (ox_tmp V11) (by simp) V12,
    x_field gok_none (f := 1) (s := 5) (by kernel_rfl) (by omega) (ox_tmp V12) rfl V13,
    x_loadn gok_none (by kernel_rfl) (by kernel_rfl) (ox_tmp V13) (by intro j v hj; rcases j with _ | _ | _ | _ | _ | j <;> simp at hj <;> subst hj <;> assumption) V14,
    x_call gok_none Try.func51 (by kernel_rfl) (by kernel_rfl) (us := [.agg #[.int .i64 (x1), .int .i64 (x2), .int .i64 (x3), .int .i64 (x4), .int .i64 (x5)]]) ⟨(ox_tmp V14), trivial⟩ V15 (fun wx hG => (sFlow_is _ _ _ _ _ _).mono fun e w' h => ⟨by rw [h.1, v1], by rw [h.2]; exact GrF.alloc _ _ _⟩),
    x_not gok_none (ox_tmp V15) V16,
    x_move gok_none (ox_tmp V16) V17,
    x_move (gok_some rfl V17) (ox_tmp V0) V18,
    x_move (gok_some rfl V17) (ox_tmp V3) V19,
    x_index (gok_some rfl V17) (s := 6) (by kernel_rfl) (by omega) (by omega) (ox_tmp V18) (ox_tmp V19) (by simp) V20,
    x_field (gok_some rfl V17) (f := 0) (s := 1) (by kernel_rfl) (by omega) (ox_tmp V20) rfl V21,
    x_load1 (gok_some rfl V17) (by kernel_rfl) (ox_tmp V21) g0 V22,
    x_call (gok_some rfl V17) Try.func39 (by kernel_rfl) (by kernel_rfl) (us := [.int .i64 (x0), .int .i64 (0), .int .i64 (100000)]) ⟨(ox_tmp V22), ox_const, ox_const, trivial⟩ V23 (fun wx hG => (l1In_any _ _ _ _).mono fun e w' h => ⟨by rw [h.1, v0], by rw [← h.2]; exact GrF.refl _ _⟩),
    x_not (gok_some rfl V17) (ox_tmp V23) V24,
    x_pick gok_none (ox_tmp V17) ox_const (ox_tmp V24) rfl V25,
    x_move gok_none (ox_tmp V25) V26,
    x_move (gok_some rfl V26) (ox_tmp V3) V27,
    x_gtr (gok_some rfl V26) (ox_tmp V27) ox_const (decide_eq_true (by omega)).symm V28,
    x_move (gok_some rfl V26) (ox_tmp V28) V29,
    x_move (gok_some rfl V29) (ox_tmp V0) V30,
    x_move (gok_some rfl V29) (ox_tmp V3) V31,
    x_index (gok_some rfl V29) (s := 6) (by kernel_rfl) (by omega) (by omega) (ox_tmp V30) (ox_tmp V31) (by simp) V32,
    x_field (gok_some rfl V29) (f := 0) (s := 1) (by kernel_rfl) (by omega) (ox_tmp V32) rfl V33,
    x_load1 (gok_some rfl V29) (by kernel_rfl) (ox_tmp V33) g0 V34,
    x_move (gok_some rfl V29) (ox_tmp V0) V35,
    x_move (gok_some rfl V29) (ox_tmp V3) V36,
    x_sub (gok_some rfl V29) (ox_tmp V36) ox_const rfl (by omega) V37,
    x_index (gok_some rfl V29) (s := 6) (by kernel_rfl) (by omega) (by omega) (ox_tmp V35) (ox_tmp V37) (by rw [show ((k : Int) - 1).toNat = k - 1 from by omega]) V38,
    x_field (gok_some rfl V29) (f := 0) (s := 1) (by kernel_rfl) (by omega) (ox_tmp V38) rfl V39,
    x_load1 (gok_some rfl V29) (by kernel_rfl) (ox_tmp V39) p0 V40,
    x_lss (gok_some rfl V29) (ox_tmp V34) (ox_tmp V40) (decide_eq_true (by omega)).symm V41,
    x_pick (gok_some rfl V26) (ox_tmp V29) (ox_tmp V41) ox_const rfl V42,
    x_pick gok_none (ox_tmp V26) ox_const (ox_tmp V42) rfl V43,
    trivial⟩
              intro w5 hw5
              simp only [putL, Act.put, List.setIfInBounds_toArray, List.set_cons_zero, List.set_cons_succ, V10, V11, V12, V13, V14, V15, V16, V17, V18, V19, V20, V21, V22, V23, V24, V25, V26, V27, V28, V29, V30, V31, V32, V33, V34, V35, V36, V37, V38, V39, V40, V41, V42, V43, Option.getD_some]
              clear hL V0 V3 V10 V11 V12 V13 V14 V15 V16 V17 V18 V19 V20 V21 V22 V23 V24 V25 V26 V27 V28 V29 V30 V31 V32 V33 V34 V35 V36 V37 V38 V39 V40 V41 V42 V43
              have b5 := below_of_gr hb4 hw5 hz4
              go_wp2
              go_ret
              exact ⟨ret_bool HE.out.symm, b5⟩
            · have hnext := Lib.hid (hr.next hlk (by rw [hh]; exact evOk_yes v0 v1 (by rw [evPrev_pos _ hk0, hq]; show q0 ≤ x0; omega)))
              obtain ⟨L, hL⟩ : ∃ L : List (Nat × Value), L = [(0, .slice (some ⟨b, off, none⟩) (n) (c)), (3, .int .i64 ((k : Int))), (10, .slice (some ⟨b, off, none⟩) (n) (c)), (11, .int .i64 ((k : Int))), (12, .pointer (some ⟨b, off + k * 6, none⟩)), (13, .pointer (some ⟨b, off + k * 6 + 1, none⟩)), (14, .agg #[.int .i64 (x1), .int .i64 (x2), .int .i64 (x3), .int .i64 (x4), .int .i64 (x5)]), (15, .bool true), (16, .bool false), (17, .bool false), (18, .slice (some ⟨b, off, none⟩) (n) (c)), (19, .int .i64 ((k : Int))), (20, .pointer (some ⟨b, off + k * 6, none⟩)), (21, .pointer (some ⟨b, off + k * 6, none⟩)), (22, .int .i64 (x0)), (23, .bool true), (24, .bool false), (25, .bool false), (26, .bool false), (27, .int .i64 ((k : Int))), (28, .bool true), (29, .bool true), (30, .slice (some ⟨b, off, none⟩) (n) (c)), (31, .int .i64 ((k : Int))), (32, .pointer (some ⟨b, off + k * 6, none⟩)), (33, .pointer (some ⟨b, off + k * 6, none⟩)), (34, .int .i64 (x0)), (35, .slice (some ⟨b, off, none⟩) (n) (c)), (36, .int .i64 ((k : Int))), (37, .int .i64 (((k : Int)) - (1))), (38, .pointer (some ⟨b, off + (k - 1) * 6, none⟩)), (39, .pointer (some ⟨b, off + (k - 1) * 6, none⟩)), (40, .int .i64 (q0)), (41, .bool false), (42, .bool false), (43, .bool false)] := ⟨_, rfl⟩
              have V0 : L.lookup 0 = some (.slice (some ⟨b, off, none⟩) (n) (c)) := by rw [hL]; rfl
              have V3 : L.lookup 3 = some (.int .i64 ((k : Int))) := by rw [hL]; rfl
              have V10 : L.lookup 10 = some (.slice (some ⟨b, off, none⟩) (n) (c)) := by rw [hL]; rfl
              have V11 : L.lookup 11 = some (.int .i64 ((k : Int))) := by rw [hL]; rfl
              have V12 : L.lookup 12 = some (.pointer (some ⟨b, off + k * 6, none⟩)) := by rw [hL]; rfl
              have V13 : L.lookup 13 = some (.pointer (some ⟨b, off + k * 6 + 1, none⟩)) := by rw [hL]; rfl
              have V14 : L.lookup 14 = some (.agg #[.int .i64 (x1), .int .i64 (x2), .int .i64 (x3), .int .i64 (x4), .int .i64 (x5)]) := by rw [hL]; rfl
              have V15 : L.lookup 15 = some (.bool true) := by rw [hL]; rfl
              have V16 : L.lookup 16 = some (.bool false) := by rw [hL]; rfl
              have V17 : L.lookup 17 = some (.bool false) := by rw [hL]; rfl
              have V18 : L.lookup 18 = some (.slice (some ⟨b, off, none⟩) (n) (c)) := by rw [hL]; rfl
              have V19 : L.lookup 19 = some (.int .i64 ((k : Int))) := by rw [hL]; rfl
              have V20 : L.lookup 20 = some (.pointer (some ⟨b, off + k * 6, none⟩)) := by rw [hL]; rfl
              have V21 : L.lookup 21 = some (.pointer (some ⟨b, off + k * 6, none⟩)) := by rw [hL]; rfl
              have V22 : L.lookup 22 = some (.int .i64 (x0)) := by rw [hL]; rfl
              have V23 : L.lookup 23 = some (.bool true) := by rw [hL]; rfl
              have V24 : L.lookup 24 = some (.bool false) := by rw [hL]; rfl
              have V25 : L.lookup 25 = some (.bool false) := by rw [hL]; rfl
              have V26 : L.lookup 26 = some (.bool false) := by rw [hL]; rfl
              have V27 : L.lookup 27 = some (.int .i64 ((k : Int))) := by rw [hL]; rfl
              have V28 : L.lookup 28 = some (.bool true) := by rw [hL]; rfl
              have V29 : L.lookup 29 = some (.bool true) := by rw [hL]; rfl
              have V30 : L.lookup 30 = some (.slice (some ⟨b, off, none⟩) (n) (c)) := by rw [hL]; rfl
              have V31 : L.lookup 31 = some (.int .i64 ((k : Int))) := by rw [hL]; rfl
              have V32 : L.lookup 32 = some (.pointer (some ⟨b, off + k * 6, none⟩)) := by rw [hL]; rfl
              have V33 : L.lookup 33 = some (.pointer (some ⟨b, off + k * 6, none⟩)) := by rw [hL]; rfl
              have V34 : L.lookup 34 = some (.int .i64 (x0)) := by rw [hL]; rfl
              have V35 : L.lookup 35 = some (.slice (some ⟨b, off, none⟩) (n) (c)) := by rw [hL]; rfl
              have V36 : L.lookup 36 = some (.int .i64 ((k : Int))) := by rw [hL]; rfl
              have V37 : L.lookup 37 = some (.int .i64 (((k : Int)) - (1))) := by rw [hL]; rfl
              have V38 : L.lookup 38 = some (.pointer (some ⟨b, off + (k - 1) * 6, none⟩)) := by rw [hL]; rfl
              have V39 : L.lookup 39 = some (.pointer (some ⟨b, off + (k - 1) * 6, none⟩)) := by rw [hL]; rfl
              have V40 : L.lookup 40 = some (.int .i64 (q0)) := by rw [hL]; rfl
              have V41 : L.lookup 41 = some (.bool false) := by rw [hL]; rfl
              have V42 : L.lookup 42 = some (.bool false) := by rw [hL]; rfl
              have V43 : L.lookup 43 = some (.bool false) := by rw [hL]; rfl
              refine wp_region_exact (by kernel_rfl) L 34 rfl [some 10, some 11, some 12, some 13, some 14, some 15, some 16, some 17, some 18, some 19, some 20, some 21, some 22, some 23, some 24, some 25, some 26, some 27, some 28, some 29, some 30, some 31, some 32, some 33, some 34, some 35, some 36, some 37, some 38, some 39, some 40, some 41, some 42, some 43] (by kernel_rfl) (by kernel_rfl) (by rw [hL]; rfl) 2 (by rw [hL]; intro x hx; simp only [List.take_succ_cons, List.take_zero, List.mem_cons, List.not_mem_nil, or_false] at hx; rcases hx with rfl | rfl <;> rfl) (by rw [hL]; rfl) ?_ ?_
              · clear hL
                exact ⟨x_move gok_none (ox_tmp V0) V10,
    x_move gok_none (ox_tmp V3) V11,
    x_index gok_none (s := 6) (by kernel_rfl) (by omega) (by omega) (ox_tmp V10) (ox_tmp V11) (by simp) V12,
    x_field gok_none (f := 1) (s := 5) (by kernel_rfl) (by omega) (ox_tmp V12) rfl V13,
    x_loadn gok_none (by kernel_rfl) (by kernel_rfl) (ox_tmp V13) (by intro j v hj; rcases j with _ | _ | _ | _ | _ | j <;> simp at hj <;> subst hj <;> assumption) V14,
    x_call gok_none Try.func51 (by kernel_rfl) (by kernel_rfl) (us := [.agg #[.int .i64 (x1), .int .i64 (x2), .int .i64 (x3), .int .i64 (x4), .int .i64 (x5)]]) ⟨(ox_tmp V14), trivial⟩ V15 (fun wx hG => (sFlow_is _ _ _ _ _ _).mono fun e w' h => ⟨by rw [h.1, v1], by rw [h.2]; exact GrF.alloc _ _ _⟩),
    x_not gok_none (ox_tmp V15) V16,
    x_move gok_none (ox_tmp V16) V17,
    x_move (gok_some rfl V17) (ox_tmp V0) V18,
    x_move (gok_some rfl V17) (ox_tmp V3) V19,
    x_index (gok_some rfl V17) (s := 6) (by kernel_rfl) (by omega) (by omega) (ox_tmp V18) (ox_tmp V19) (by simp) V20,
    x_field (gok_some rfl V17) (f := 0) (s := 1) (by kernel_rfl) (by omega) (ox_tmp V20) rfl V21,
    x_load1 (gok_some rfl V17) (by kernel_rfl) (ox_tmp V21) g0 V22,
    x_call (gok_some rfl V17) Try.func39 (by kernel_rfl) (by kernel_rfl) (us := [.int .i64 (x0), .int .i64 (0), .int .i64 (100000)]) ⟨(ox_tmp V22), ox_const, ox_const, trivial⟩ V23 (fun wx hG => (l1In_any _ _ _ _).mono fun e w' h => ⟨by rw [h.1, v0], by rw [← h.2]; exact GrF.refl _ _⟩),
    x_not (gok_some rfl V17) (ox_tmp V23) V24,
    x_pick gok_none (ox_tmp V17) ox_const (ox_tmp V24) rfl V25,
    x_move gok_none (ox_tmp V25) V26,
    x_move (gok_some rfl V26) (ox_tmp V3) V27,
    x_gtr (gok_some rfl V26) (ox_tmp V27) ox_const (decide_eq_true (by omega)).symm V28,
    x_move (gok_some rfl V26) (ox_tmp V28) V29,
    x_move (gok_some rfl V29) (ox_tmp V0) V30,
    x_move (gok_some rfl V29) (ox_tmp V3) V31,
    x_index (gok_some rfl V29) (s := 6) (by kernel_rfl) (by omega) (by omega) (ox_tmp V30) (ox_tmp V31) (by simp) V32,
    x_field (gok_some rfl V29) (f := 0) (s := 1) (by kernel_rfl) (by omega) (ox_tmp V32) rfl V33,
    x_load1 (gok_some rfl V29) (by kernel_rfl) (ox_tmp V33) g0 V34,
    x_move (gok_some rfl V29) (ox_tmp V0) V35,
    x_move (gok_some rfl V29) (ox_tmp V3) V36,
    x_sub (gok_some rfl V29) (ox_tmp V36) ox_const rfl (by omega) V37,
    x_index (gok_some rfl V29) (s := 6) (by kernel_rfl) (by omega) (by omega) (ox_tmp V35) (ox_tmp V37) (by rw [show ((k : Int) - 1).toNat = k - 1 from by omega]) V38,
    x_field (gok_some rfl V29) (f := 0) (s := 1) (by kernel_rfl) (by omega) (ox_tmp V38) rfl V39,
    x_load1 (gok_some rfl V29) (by kernel_rfl) (ox_tmp V39) p0 V40,
    x_lss (gok_some rfl V29) (ox_tmp V34) (ox_tmp V40) (decide_eq_false (by omega)).symm V41,
    x_pick (gok_some rfl V26) (ox_tmp V29) (ox_tmp V41) ox_const rfl V42,
    x_pick gok_none (ox_tmp V26) ox_const (ox_tmp V42) rfl V43,
    trivial⟩
              intro w5 hw5
              simp only [putL, Act.put, List.setIfInBounds_toArray, List.set_cons_zero, List.set_cons_succ, V10, V11, V12, V13, V14, V15, V16, V17, V18, V19, V20, V21, V22, V23, V24, V25, V26, V27, V28, V29, V30, V31, V32, V33, V34, V35, V36, V37, V38, V39, V40, V41, V42, V43, Option.getD_some]
              clear hL V0 V3 V10 V11 V12 V13 V14 V15 V16 V17 V18 V19 V20 V21 V22 V23 V24 V25 V26 V27 V28 V29 V30 V31 V32 V33 V34 V35 V36 V37 V38 V39 V40 V41 V42 V43
              have b5 := below_of_gr hb4 hw5 hz4
              go_wp2
              go_roundw
              case rel => exact ⟨k + 1, by omega, by go_num, hnext.out, b5⟩
              case measure => simp [intOf]; omega
          · have hnext := Lib.hid (hr.next hlk (by rw [hh]; exact evOk_yes v0 v1 (by rw [show k = 0 from by omega, evPrev_zero]; show (-1 : Int) ≤ x0; omega)))
            obtain ⟨L, hL⟩ : ∃ L : List (Nat × Value), L = [(0, .slice (some ⟨b, off, none⟩) (n) (c)), (3, .int .i64 ((k : Int))), (10, .slice (some ⟨b, off, none⟩) (n) (c)), (11, .int .i64 ((k : Int))), (12, .pointer (some ⟨b, off + k * 6, none⟩)), (13, .pointer (some ⟨b, off + k * 6 + 1, none⟩)), (14, .agg #[.int .i64 (x1), .int .i64 (x2), .int .i64 (x3), .int .i64 (x4), .int .i64 (x5)]), (15, .bool true), (16, .bool false), (17, .bool false), (18, .slice (some ⟨b, off, none⟩) (n) (c)), (19, .int .i64 ((k : Int))), (20, .pointer (some ⟨b, off + k * 6, none⟩)), (21, .pointer (some ⟨b, off + k * 6, none⟩)), (22, .int .i64 (x0)), (23, .bool true), (24, .bool false), (25, .bool false), (26, .bool false), (27, .int .i64 ((k : Int))), (28, .bool false), (29, .bool false), (30, undef), (31, undef), (32, undef), (33, undef), (34, undef), (35, undef), (36, undef), (37, undef), (38, undef), (39, undef), (40, undef), (41, undef), (42, .bool false), (43, .bool false)] := ⟨_, rfl⟩
            have V0 : L.lookup 0 = some (.slice (some ⟨b, off, none⟩) (n) (c)) := by rw [hL]; rfl
            have V3 : L.lookup 3 = some (.int .i64 ((k : Int))) := by rw [hL]; rfl
            have V10 : L.lookup 10 = some (.slice (some ⟨b, off, none⟩) (n) (c)) := by rw [hL]; rfl
            have V11 : L.lookup 11 = some (.int .i64 ((k : Int))) := by rw [hL]; rfl
            have V12 : L.lookup 12 = some (.pointer (some ⟨b, off + k * 6, none⟩)) := by rw [hL]; rfl
            have V13 : L.lookup 13 = some (.pointer (some ⟨b, off + k * 6 + 1, none⟩)) := by rw [hL]; rfl
            have V14 : L.lookup 14 = some (.agg #[.int .i64 (x1), .int .i64 (x2), .int .i64 (x3), .int .i64 (x4), .int .i64 (x5)]) := by rw [hL]; rfl
            have V15 : L.lookup 15 = some (.bool true) := by rw [hL]; rfl
            have V16 : L.lookup 16 = some (.bool false) := by rw [hL]; rfl
            have V17 : L.lookup 17 = some (.bool false) := by rw [hL]; rfl
            have V18 : L.lookup 18 = some (.slice (some ⟨b, off, none⟩) (n) (c)) := by rw [hL]; rfl
            have V19 : L.lookup 19 = some (.int .i64 ((k : Int))) := by rw [hL]; rfl
            have V20 : L.lookup 20 = some (.pointer (some ⟨b, off + k * 6, none⟩)) := by rw [hL]; rfl
            have V21 : L.lookup 21 = some (.pointer (some ⟨b, off + k * 6, none⟩)) := by rw [hL]; rfl
            have V22 : L.lookup 22 = some (.int .i64 (x0)) := by rw [hL]; rfl
            have V23 : L.lookup 23 = some (.bool true) := by rw [hL]; rfl
            have V24 : L.lookup 24 = some (.bool false) := by rw [hL]; rfl
            have V25 : L.lookup 25 = some (.bool false) := by rw [hL]; rfl
            have V26 : L.lookup 26 = some (.bool false) := by rw [hL]; rfl
            have V27 : L.lookup 27 = some (.int .i64 ((k : Int))) := by rw [hL]; rfl
            have V28 : L.lookup 28 = some (.bool false) := by rw [hL]; rfl
            have V29 : L.lookup 29 = some (.bool false) := by rw [hL]; rfl
            have V30 : L.lookup 30 = some (undef) := by rw [hL]; rfl
            have V31 : L.lookup 31 = some (undef) := by rw [hL]; rfl
            have V32 : L.lookup 32 = some (undef) := by rw [hL]; rfl
            have V33 : L.lookup 33 = some (undef) := by rw [hL]; rfl
            have V34 : L.lookup 34 = some (undef) := by rw [hL]; rfl
            have V35 : L.lookup 35 = some (undef) := by rw [hL]; rfl
            have V36 : L.lookup 36 = some (undef) := by rw [hL]; rfl
            have V37 : L.lookup 37 = some (undef) := by rw [hL]; rfl
            have V38 : L.lookup 38 = some (undef) := by rw [hL]; rfl
            have V39 : L.lookup 39 = some (undef) := by rw [hL]; rfl
            have V40 : L.lookup 40 = some (undef) := by rw [hL]; rfl
            have V41 : L.lookup 41 = some (undef) := by rw [hL]; rfl
            have V42 : L.lookup 42 = some (.bool false) := by rw [hL]; rfl
            have V43 : L.lookup 43 = some (.bool false) := by rw [hL]; rfl
            refine wp_region_exact (by kernel_rfl) L 34 rfl [some 10, some 11, some 12, some 13, some 14, some 15, some 16, some 17, some 18, some 19, some 20, some 21, some 22, some 23, some 24, some 25, some 26, some 27, some 28, some 29, some 30, some 31, some 32, some 33, some 34, some 35, some 36, some 37, some 38, some 39, some 40, some 41, some 42, some 43] (by kernel_rfl) (by kernel_rfl) (by rw [hL]; rfl) 2 (by rw [hL]; intro x hx; simp only [List.take_succ_cons, List.take_zero, List.mem_cons, List.not_mem_nil, or_false] at hx; rcases hx with rfl | rfl <;> rfl) (by rw [hL]; rfl) ?_ ?_
            · clear hL
              exact ⟨x_move gok_none (ox_tmp V0) V10,
    x_move gok_none (ox_tmp V3) V11,
    x_index gok_none (s := 6) (by kernel_rfl) (by omega) (by omega) (ox_tmp V10) (ox_tmp V11) (by simp) V12,
    x_field gok_none (f := 1) (s := 5) (by kernel_rfl) (by omega) (ox_tmp V12) rfl V13,
    x_loadn gok_none (by kernel_rfl) (by kernel_rfl) (ox_tmp V13) (by intro j v hj; rcases j with _ | _ | _ | _ | _ | j <;> simp at hj <;> subst hj <;> assumption) V14,
    x_call gok_none Try.func51 (by kernel_rfl) (by kernel_rfl) (us := [.agg #[.int .i64 (x1), .int .i64 (x2), .int .i64 (x3), .int .i64 (x4), .int .i64 (x5)]]) ⟨(ox_tmp V14), trivial⟩ V15 (fun wx hG => (sFlow_is _ _ _ _ _ _).mono fun e w' h => ⟨by rw [h.1, v1], by rw [h.2]; exact GrF.alloc _ _ _⟩),
    x_not gok_none (ox_tmp V15) V16,
    x_move gok_none (ox_tmp V16) V17,
    x_move (gok_some rfl V17) (ox_tmp V0) V18,
    x_move (gok_some rfl V17) (ox_tmp V3) V19,
    x_index (gok_some rfl V17) (s := 6) (by kernel_rfl) (by omega) (by omega) (ox_tmp V18) (ox_tmp V19) (by simp) V20,
    x_field (gok_some rfl V17) (f := 0) (s := 1) (by kernel_rfl) (by omega) (ox_tmp V20) rfl V21,
    x_load1 (gok_some rfl V17) (by kernel_rfl) (ox_tmp V21) g0 V22,
    x_call (gok_some rfl V17) Try.func39 (by kernel_rfl) (by kernel_rfl) (us := [.int .i64 (x0), .int .i64 (0), .int .i64 (100000)]) ⟨(ox_tmp V22), ox_const, ox_const, trivial⟩ V23 (fun wx hG => (l1In_any _ _ _ _).mono fun e w' h => ⟨by rw [h.1, v0], by rw [← h.2]; exact GrF.refl _ _⟩),
    x_not (gok_some rfl V17) (ox_tmp V23) V24,
    x_pick gok_none (ox_tmp V17) ox_const (ox_tmp V24) rfl V25,
    x_move gok_none (ox_tmp V25) V26,
    x_move (gok_some rfl V26) (ox_tmp V3) V27,
    x_gtr (gok_some rfl V26) (ox_tmp V27) ox_const (decide_eq_false (by omega)).symm V28,
    x_move (gok_some rfl V26) (ox_tmp V28) V29,
    x_skip rfl rfl V29 (by intro e; cases e) (fun d h => by cases h; exact V30),
    x_skip rfl rfl V29 (by intro e; cases e) (fun d h => by cases h; exact V31),
    x_skip rfl rfl V29 (by intro e; cases e) (fun d h => by cases h; exact V32),
    x_skip rfl rfl V29 (by intro e; cases e) (fun d h => by cases h; exact V33),
    x_skip rfl rfl V29 (by intro e; cases e) (fun d h => by cases h; exact V34),
    x_skip rfl rfl V29 (by intro e; cases e) (fun d h => by cases h; exact V35),
    x_skip rfl rfl V29 (by intro e; cases e) (fun d h => by cases h; exact V36),
    x_skip rfl rfl V29 (by intro e; cases e) (fun d h => by cases h; exact V37),
    x_skip rfl rfl V29 (by intro e; cases e) (fun d h => by cases h; exact V38),
    x_skip rfl rfl V29 (by intro e; cases e) (fun d h => by cases h; exact V39),
    x_skip rfl rfl V29 (by intro e; cases e) (fun d h => by cases h; exact V40),
    x_skip rfl rfl V29 (by intro e; cases e) (fun d h => by cases h; exact V41),
    x_pick (gok_some rfl V26) (ox_tmp V29) (ox_tmp V41) ox_const rfl V42,
    x_pick gok_none (ox_tmp V26) ox_const (ox_tmp V42) rfl V43,
    trivial⟩
            intro w5 hw5
            simp only [putL, Act.put, List.setIfInBounds_toArray, List.set_cons_zero, List.set_cons_succ, V10, V11, V12, V13, V14, V15, V16, V17, V18, V19, V20, V21, V22, V23, V24, V25, V26, V27, V28, V29, V30, V31, V32, V33, V34, V35, V36, V37, V38, V39, V40, V41, V42, V43, Option.getD_some]
            clear hL V0 V3 V10 V11 V12 V13 V14 V15 V16 V17 V18 V19 V20 V21 V22 V23 V24 V25 V26 V27 V28 V29 V30 V31 V32 V33 V34 V35 V36 V37 V38 V39 V40 V41 V42 V43
            have b5 := below_of_gr hb4 hw5 hz4
            go_wp2
            go_roundw
            case rel => exact ⟨k + 1, by omega, by go_num, hnext.out, b5⟩
            case measure => simp [intOf]; omega
        · have v1 := Bool.eq_false_iff.2 v1
          have HE := Lib.hid (hr.bad hlk (by rw [hh]; exact evOk_flow v1))
          obtain ⟨L, hL⟩ : ∃ L : List (Nat × Value), L = [(0, .slice (some ⟨b, off, none⟩) (n) (c)), (3, .int .i64 ((k : Int))), (10, .slice (some ⟨b, off, none⟩) (n) (c)), (11, .int .i64 ((k : Int))), (12, .pointer (some ⟨b, off + k * 6, none⟩)), (13, .pointer (some ⟨b, off + k * 6 + 1, none⟩)), (14, .agg #[.int .i64 (x1), .int .i64 (x2), .int .i64 (x3), .int .i64 (x4), .int .i64 (x5)]), (15, .bool false), (16, .bool true), (17, .bool true), (18, undef), (19, undef), (20, undef), (21, undef), (22, undef), (23, undef), (24, undef), (25, .bool true), (26, .bool true), (27, undef), (28, undef), (29, undef), (30, undef), (31, undef), (32, undef), (33, undef), (34, undef), (35, undef), (36, undef), (37, undef), (38, undef), (39, undef), (40, undef), (41, undef), (42, undef), (43, .bool true)] := ⟨_, rfl⟩
          have V0 : L.lookup 0 = some (.slice (some ⟨b, off, none⟩) (n) (c)) := by rw [hL]; rfl
          have V3 : L.lookup 3 = some (.int .i64 ((k : Int))) := by rw [hL]; rfl
          have V10 : L.lookup 10 = some (.slice (some ⟨b, off, none⟩) (n) (c)) := by rw [hL]; rfl
          have V11 : L.lookup 11 = some (.int .i64 ((k : Int))) := by rw [hL]; rfl
          have V12 : L.lookup 12 = some (.pointer (some ⟨b, off + k * 6, none⟩)) := by rw [hL]; rfl
          have V13 : L.lookup 13 = some (.pointer (some ⟨b, off + k * 6 + 1, none⟩)) := by rw [hL]; rfl
          have V14 : L.lookup 14 = some (.agg #[.int .i64 (x1), .int .i64 (x2), .int .i64 (x3), .int .i64 (x4), .int .i64 (x5)]) := by rw [hL]; rfl
          have V15 : L.lookup 15 = some (.bool false) := by rw [hL]; rfl
          have V16 : L.lookup 16 = some (.bool true) := by rw [hL]; rfl
          have V17 : L.lookup 17 = some (.bool true) := by rw [hL]; rfl
          have V18 : L.lookup 18 = some (undef) := by rw [hL]; rfl
          have V19 : L.lookup 19 = some (undef) := by rw [hL]; rfl
          have V20 : L.lookup 20 = some (undef) := by rw [hL]; rfl
          have V21 : L.lookup 21 = some (undef) := by rw [hL]; rfl
          have V22 : L.lookup 22 = some (undef) := by rw [hL]; rfl
          have V23 : L.lookup 23 = some (undef) := by rw [hL]; rfl
          have V24 : L.lookup 24 = some (undef) := by rw [hL]; rfl
          have V25 : L.lookup 25 = some (.bool true) := by rw [hL]; rfl
          have V26 : L.lookup 26 = some (.bool true) := by rw [hL]; rfl
          have V27 : L.lookup 27 = some (undef) := by rw [hL]; rfl
          have V28 : L.lookup 28 = some (undef) := by rw [hL]; rfl
          have V29 : L.lookup 29 = some (undef) := by rw [hL]; rfl
          have V30 : L.lookup 30 = some (undef) := by rw [hL]; rfl
          have V31 : L.lookup 31 = some (undef) := by rw [hL]; rfl
          have V32 : L.lookup 32 = some (undef) := by rw [hL]; rfl
          have V33 : L.lookup 33 = some (undef) := by rw [hL]; rfl
          have V34 : L.lookup 34 = some (undef) := by rw [hL]; rfl
          have V35 : L.lookup 35 = some (undef) := by rw [hL]; rfl
          have V36 : L.lookup 36 = some (undef) := by rw [hL]; rfl
          have V37 : L.lookup 37 = some (undef) := by rw [hL]; rfl
          have V38 : L.lookup 38 = some (undef) := by rw [hL]; rfl
          have V39 : L.lookup 39 = some (undef) := by rw [hL]; rfl
          have V40 : L.lookup 40 = some (undef) := by rw [hL]; rfl
          have V41 : L.lookup 41 = some (undef) := by rw [hL]; rfl
          have V42 : L.lookup 42 = some (undef) := by rw [hL]; rfl
          have V43 : L.lookup 43 = some (.bool true) := by rw [hL]; rfl
          refine wp_region_exact (by kernel_rfl) L 34 rfl [some 10, some 11, some 12, some 13, some 14, some 15, some 16, some 17, some 18, some 19, some 20, some 21, some 22, some 23, some 24, some 25, some 26, some 27, some 28, some 29, some 30, some 31, some 32, some 33, some 34, some 35, some 36, some 37, some 38, some 39, some 40, some 41, some 42, some 43] (by kernel_rfl) (by kernel_rfl) (by rw [hL]; rfl) 2 (by rw [hL]; intro x hx; simp only [List.take_succ_cons, List.take_zero, List.mem_cons, List.not_mem_nil, or_false] at hx; rcases hx with rfl | rfl <;> rfl) (by rw [hL]; rfl) ?_ ?_
          · clear hL
            exact ⟨x_move gok_none (ox_tmp V0) V10,
    x_move gok_none (ox_tmp V3) V11,
    x_index gok_none (s := 6) (by kernel_rfl) (by omega) (by omega) (ox_tmp V10) (ox_tmp V11) (by simp) V12,
    x_field gok_none (f := 1) (s := 5) (by kernel_rfl) (by omega) (ox_tmp V12) rfl V13,
    x_loadn gok_none (by kernel_rfl) (by kernel_rfl) (ox_tmp V13) (by intro j v hj; rcases j with _ | _ | _ | _ | _ | j <;> simp at hj <;> subst hj <;> assumption) V14,
    x_call gok_none Try.func51 (by kernel_rfl) (by kernel_rfl) (us := [.agg #[.int .i64 (x1), .int .i64 (x2), .int .i64 (x3), .int .i64 (x4), .int .i64 (x5)]]) ⟨(ox_tmp V14), trivial⟩ V15 (fun wx hG => (sFlow_is _ _ _ _ _ _).mono fun e w' h => ⟨by rw [h.1, v1], by rw [h.2]; exact GrF.alloc _ _ _⟩),
    x_not gok_none (ox_tmp V15) V16,
    x_move gok_none (ox_tmp V16) V17,
    x_skip rfl rfl V17 (by intro e; cases e) (fun d h => by cases h; exact V18),
    x_skip rfl rfl V17 (by intro e; cases e) (fun d h => by cases h; exact V19),
    x_skip rfl rfl V17 (by intro e; cases e) (fun d h => by cases h; exact V20),
    x_skip rfl rfl V17 (by intro e; cases e) (fun d h => by cases h; exact V21),
    x_skip rfl rfl V17 (by intro e; cases e) (fun d h => by cases h; exact V22),
    x_skip rfl rfl V17 (by intro e; cases e) (fun d h => by cases h; exact V23),
    x_skip rfl rfl V17 (by intro e; cases e) (fun d h => by cases h; exact V24),
    x_pick gok_none (ox_tmp V17) ox_const (ox_tmp V24) rfl V25,
    x_move gok_none (ox_tmp V25) V26,
    x_skip rfl rfl V26 (by intro e; cases e) (fun d h => by cases h; exact V27),
    x_skip rfl rfl V26 (by intro e; cases e) (fun d h => by cases h; exact V28),
    x_skip rfl rfl V26 (by intro e; cases e) (fun d h => by cases h; exact V29),
    x_skip rfl rfl V29 (by intro e; cases e) (fun d h => by cases h; exact V30),
    x_skip rfl rfl V29 (by intro e; cases e) (fun d h => by cases h; exact V31),
    x_skip rfl rfl V29 (by intro e; cases e) (fun d h => by cases h; exact V32),
    x_skip rfl rfl V29 (by intro e; cases e) (fun d h => by cases h; exact V33),
    x_skip rfl rfl V29 (by intro e; cases e) (fun d h => by cases h; exact V34),
    x_skip rfl rfl V29 (by intro e; cases e) (fun d h => by cases h; exact V35),
    x_skip rfl rfl V29 (by intro e; cases e) (fun d h => by cases h; exact V36),
    x_skip rfl rfl V29 (by intro e; cases e) (fun d h => by cases h; exact V37),
    x_skip rfl rfl V29 (by intro e; cases e) (fun d h => by cases h; exact V38),
    x_skip rfl rfl V29 (by intro e; cases e) (fun d h => by cases h; exact V39),
    x_skip rfl rfl V29 (by intro e; cases e) (fun d h => by cases h; exact V40),
    x_skip rfl rfl V29 (by intro e; cases e) (fun d h => by cases h; exact V41),
    x_skip rfl rfl V26 (by intro e; cases e) (fun d h => by cases h; exact V42),
    x_pick gok_none (ox_tmp V26) ox_const (ox_tmp V42) rfl V43,
    trivial⟩
          intro w5 hw5
          simp only [putL, Act.put, List.setIfInBounds_toArray, List.set_cons_zero, List.set_cons_succ, V10, V11, V12, V13, V14, V15, V16, V17, V18, V19, V20, V21, V22, V23, V24, V25, V26, V27, V28, V29, V30, V31, V32, V33, V34, V35, V36, V37, V38, V39, V40, V41, V42, V43, Option.getD_some]
          clear hL V0 V3 V10 V11 V12 V13 V14 V15 V16 V17 V18 V19 V20 V21 V22 V23 V24 V25 V26 V27 V28 V29 V30 V31 V32 V33 V34 V35 V36 V37 V38 V39 V40 V41 V42 V43
          have b5 := below_of_gr hb4 hw5 hz4
          go_wp2
          go_ret
          exact ⟨ret_bool HE.out.symm, b5⟩
      · have v0 := Bool.eq_false_iff.2 v0
        have HE := Lib.hid (hr.bad hlk (by rw [hh]; exact evOk_time v0))
        by_cases v1 : flowV x1 x2 x3 x4 x5 = true
        · skip
          obtain ⟨L, hL⟩ : ∃ L : List (Nat × Value), L = [(0, .slice (some ⟨b, off, none⟩) (n) (c)), (3, .int .i64 ((k : Int))), (10, .slice (some ⟨b, off, none⟩) (n) (c)), (11, .int .i64 ((k : Int))), (12, .pointer (some ⟨b, off + k * 6, none⟩)), (13, .pointer (some ⟨b, off + k * 6 + 1, none⟩)), (14, .agg #[.int .i64 (x1), .int .i64 (x2), .int .i64 (x3), .int .i64 (x4), .int .i64 (x5)]), (15, .bool true), (16, .bool false), (17, .bool false), (18, .slice (some ⟨b, off, none⟩) (n) (c)), (19, .int .i64 ((k : Int))), (20, .pointer (some ⟨b, off + k * 6, none⟩)), (21, .pointer (some ⟨b, off + k * 6, none⟩)), (22, .int .i64 (x0)), (23, .bool false), (24, .bool true), (25, .bool true), (26, .bool true), (27, undef), (28, undef), (29, undef), (30, undef), (31, undef), (32, undef), (33, undef), (34, undef), (35, undef), (36, undef), (37, undef), (38, undef), (39, undef), (40, undef), (41, undef), (42, undef), (43, .bool true)] := ⟨_, rfl⟩
          have V0 : L.lookup 0 = some (.slice (some ⟨b, off, none⟩) (n) (c)) := by rw [hL]; rfl
          have V3 : L.lookup 3 = some (.int .i64 ((k : Int))) := by rw [hL]; rfl
          have V10 : L.lookup 10 = some (.slice (some ⟨b, off, none⟩) (n) (c)) := by rw [hL]; rfl
          have V11 : L.lookup 11 = some (.int .i64 ((k : Int))) := by rw [hL]; rfl
          have V12 : L.lookup 12 = some (.pointer (some ⟨b, off + k * 6, none⟩)) := by rw [hL]; rfl
          have V13 : L.lookup 13 = some (.pointer (some ⟨b, off + k * 6 + 1, none⟩)) := by rw [hL]; rfl
          have V14 : L.lookup 14 = some (.agg #[.int .i64 (x1), .int .i64 (x2), .int .i64 (x3), .int .i64 (x4), .int .i64 (x5)]) := by rw [hL]; rfl
          have V15 : L.lookup 15 = some (.bool true) := by rw [hL]; rfl
          have V16 : L.lookup 16 = some (.bool false) := by rw [hL]; rfl
          have V17 : L.lookup 17 = some (.bool false) := by rw [hL]; rfl
          have V18 : L.lookup 18 = some (.slice (some ⟨b, off, none⟩) (n) (c)) := by rw [hL]; rfl
          have V19 : L.lookup 19 = some (.int .i64 ((k : Int))) := by rw [hL]; rfl
          have V20 : L.lookup 20 = some (.pointer (some ⟨b, off + k * 6, none⟩)) := by rw [hL]; rfl
          have V21 : L.lookup 21 = some (.pointer (some ⟨b, off + k * 6, none⟩)) := by rw [hL]; rfl
          have V22 : L.lookup 22 = some (.int .i64 (x0)) := by rw [hL]; rfl
          have V23 : L.lookup 23 = some (.bool false) := by rw [hL]; rfl
          have V24 : L.lookup 24 = some (.bool true) := by rw [hL]; rfl
          have V25 : L.lookup 25 = some (.bool true) := by rw [hL]; rfl
          have V26 : L.lookup 26 = some (.bool true) := by rw [hL]; rfl
          have V27 : L.lookup 27 = some (undef) := by rw [hL]; rfl
          have V28 : L.lookup 28 = some (undef) := by rw [hL]; rfl
          have V29 : L.lookup 29 = some (undef) := by rw [hL]; rfl
          have V30 : L.lookup 30 = some (undef) := by rw [hL]; rfl
          have V31 : L.lookup 31 = some (undef) := by rw [hL]; rfl
          have V32 : L.lookup 32 = some (undef) := by rw [hL]; rfl
          have V33 : L.lookup 33 = some (undef) := by rw [hL]; rfl
          have V34 : L.lookup 34 = some (undef) := by rw [hL]; rfl
          have V35 : L.lookup 35 = some (undef) := by rw [hL]; rfl
          have V36 : L.lookup 36 = some (undef) := by rw [hL]; rfl
          have V37 : L.lookup 37 = some (undef) := by rw [hL]; rfl
          have V38 : L.lookup 38 = some (undef) := by rw [hL]; rfl
          have V39 : L.lookup 39 = some (undef) := by rw [hL]; rfl
          have V40 : L.lookup 40 = some (undef) := by rw [hL]; rfl
          have V41 : L.lookup 41 = some (undef) := by rw [hL]; rfl
          have V42 : L.lookup 42 = some (undef) := by rw [hL]; rfl
          have V43 : L.lookup 43 = some (.bool true) := by rw [hL]; rfl
          refine wp_region_exact (by kernel_rfl) L 34 rfl [some 10, some 11, some 12, some 13, some 14, some 15, some 16, some 17, some 18, some 19, some 20, some 21, some 22, some 23, some 24, some 25, some 26, some 27, some 28, some 29, some 30, some 31, some 32, some 33, some 34, some 35, some 36, some 37, some 38, some 39, some 40, some 41, some 42, some 43] (by kernel_rfl) (by kernel_rfl) (by rw [hL]; rfl) 2 (by rw [hL]; intro x hx; simp only [List.take_succ_cons, List.take_zero, List.mem_cons, List.not_mem_nil, or_false] at hx; rcases hx with rfl | rfl <;> rfl) (by rw [hL]; rfl) ?_ ?_
          · clear hL
            exact ⟨x_move gok_none (ox_tmp V0) V10,
    x_move gok_none (ox_tmp V3) V11,
    x_index gok_none (s := 6) (by kernel_rfl) (by omega) (by omega) (ox_tmp V10) (ox_tmp V11) (by simp) V12,
    x_field gok_none (f := 1) (s := 5) (by kernel_rfl) (by omega) (ox_tmp V12) rfl V13,
    x_loadn gok_none (by kernel_rfl) (by kernel_rfl) (ox_tmp V13) (by intro j v hj; rcases j with _ | _ | _ | _ | _ | j <;> simp at hj <;> subst hj <;> assumption) V14,
    x_call gok_none Try.func51 (by kernel_rfl) (by kernel_rfl) (us := [.agg #[.int .i64 (x1), .int .i64 (x2), .int .i64 (x3), .int .i64 (x4), .int .i64 (x5)]]) ⟨(ox_tmp V14), trivial⟩ V15 (fun wx hG => (sFlow_is _ _ _ _ _ _).mono fun e w' h => ⟨by rw [h.1, v1], by rw [h.2]; exact GrF.alloc _ _ _⟩),
    x_not gok_none (ox_tmp V15) V16,
    x_move gok_none (ox_tmp V16) V17,
    x_move (gok_some rfl V17) (ox_tmp V0) V18,
    x_move (gok_some rfl V17) (ox_tmp V3) V19,
    x_index (gok_some rfl V17) (s := 6) (by kernel_rfl) (by omega) (by omega) (ox_tmp V18) (ox_tmp V19) (by simp) V20,
    x_field (gok_some rfl V17) (f := 0) (s := 1) (by kernel_rfl) (by omega) (ox_tmp V20) rfl V21,
    x_load1 (gok_some rfl V17) (by kernel_rfl) (ox_tmp V21) g0 V22,
    x_call (gok_some rfl V17) Try.func39 (by kernel_rfl) (by kernel_rfl) (us := [.int .i64 (x0), .int .i64 (0), .int .i64 (100000)]) ⟨(ox_tmp V22), ox_const, ox_const, trivial⟩ V23 (fun wx hG => (l1In_any _ _ _ _).mono fun e w' h => ⟨by rw [h.1, v0], by rw [← h.2]; exact GrF.refl _ _⟩),
    x_not (gok_some rfl V17) (ox_tmp V23) V24,
    x_pick gok_none (ox_tmp V17) ox_const (ox_tmp V24) rfl V25,
    x_move gok_none (ox_tmp V25) V26,
    x_skip rfl rfl V26 (by intro e; cases e) (fun d h => by cases h; exact V27),
    x_skip rfl rfl V26 (by intro e; cases e) (fun d h => by cases h; exact V28),
    x_skip rfl rfl V26 (by intro e; cases e) (fun d h => by cases h; exact V29),
    x_skip rfl rfl V29 (by intro e; cases e) (fun d h => by cases h; exact V30),
    x_skip rfl rfl V29 (by intro e; cases e) (fun d h => by cases h; exact V31),
    x_skip rfl rfl V29 (by intro e; cases e) (fun d h => by cases h; exact V32),
    x_skip rfl rfl V29 (by intro e; cases e) (fun d h => by cases h; exact V33),
    x_skip rfl rfl V29 (by intro e; cases e) (fun d h => by cases h; exact V34),
    x_skip rfl rfl V29 (by intro e; cases e) (fun d h => by cases h; exact V35),
    x_skip rfl rfl V29 (by intro e; cases e) (fun d h => by cases h; exact V36),
    x_skip rfl rfl V29 (by intro e; cases e) (fun d h => by cases h; exact V37),
    x_skip rfl rfl V29 (by intro e; cases e) (fun d h => by cases h; exact V38),
    x_skip rfl rfl V29 (by intro e; cases e) (fun d h => by cases h; exact V39),
    x_skip rfl rfl V29 (by intro e; cases e) (fun d h => by cases h; exact V40),
    x_skip rfl rfl V29 (by intro e; cases e) (fun d h => by cases h; exact V41),
    x_skip rfl rfl V26 (by intro e; cases e) (fun d h => by cases h; exact V42),
    x_pick gok_none (ox_tmp V26) ox_const (ox_tmp V42) rfl V43,
    trivial⟩
          intro w5 hw5
          simp only [putL, Act.put, List.setIfInBounds_toArray, List.set_cons_zero, List.set_cons_succ, V10, V11, V12, V13, V14, V15, V16, V17, V18, V19, V20, V21, V22, V23, V24, V25, V26, V27, V28, V29, V30, V31, V32, V33, V34, V35, V36, V37, V38, V39, V40, V41, V42, V43, Option.getD_some]
          clear hL V0 V3 V10 V11 V12 V13 V14 V15 V16 V17 V18 V19 V20 V21 V22 V23 V24 V25 V26 V27 V28 V29 V30 V31 V32 V33 V34 V35 V36 V37 V38 V39 V40 V41 V42 V43
          have b5 := below_of_gr hb4 hw5 hz4
          go_wp2
          go_ret
          exact ⟨ret_bool HE.out.symm, b5⟩
        · have v1 := Bool.eq_false_iff.2 v1
          obtain ⟨L, hL⟩ : ∃ L : List (Nat × Value), L = [(0, .slice (some ⟨b, off, none⟩) (n) (c)), (3, .int .i64 ((k : Int))), (10, .slice (some ⟨b, off, none⟩) (n) (c)), (11, .int .i64 ((k : Int))), (12, .pointer (some ⟨b, off + k * 6, none⟩)), (13, .pointer (some ⟨b, off + k * 6 + 1, none⟩)), (14, .agg #[.int .i64 (x1), .int .i64 (x2), .int .i64 (x3), .int .i64 (x4), .int .i64 (x5)]), (15, .bool false), (16, .bool true), (17, .bool true), (18, undef), (19, undef), (20, undef), (21, undef), (22, undef), (23, undef), (24, undef), (25, .bool true), (26, .bool true), (27, undef), (28, undef), (29, undef), (30, undef), (31, undef), (32, undef), (33, undef), (34, undef), (35, undef), (36, undef), (37, undef), (38, undef), (39, undef), (40, undef), (41, undef), (42, undef), (43, .bool true)] := ⟨_, rfl⟩
          have V0 : L.lookup 0 = some (.slice (some ⟨b, off, none⟩) (n) (c)) := by rw [hL]; rfl
          have V3 : L.lookup 3 = some (.int .i64 ((k : Int))) := by rw [hL]; rfl
          have V10 : L.lookup 10 = some (.slice (some ⟨b, off, none⟩) (n) (c)) := by rw [hL]; rfl
          have V11 : L.lookup 11 = some (.int .i64 ((k : Int))) := by rw [hL]; rfl
          have V12 : L.lookup 12 = some (.pointer (some ⟨b, off + k * 6, none⟩)) := by rw [hL]; rfl
          have V13 : L.lookup 13 = some (.pointer (some ⟨b, off + k * 6 + 1, none⟩)) := by rw [hL]; rfl
          have V14 : L.lookup 14 = some (.agg #[.int .i64 (x1), .int .i64 (x2), .int .i64 (x3), .int .i64 (x4), .int .i64 (x5)]) := by rw [hL]; rfl
          have V15 : L.lookup 15 = some (.bool false) := by rw [hL]; rfl
          have V16 : L.lookup 16 = some (.bool true) := by rw [hL]; rfl
          have V17 : L.lookup 17 = some (.bool true) := by rw [hL]; rfl
          have V18 : L.lookup 18 = some (undef) := by rw [hL]; rfl
          have V19 : L.lookup 19 = some (undef) := by rw [hL]; rfl
          have V20 : L.lookup 20 = some (undef) := by rw [hL]; rfl
          have V21 : L.lookup 21 = some (undef) := by rw [hL]; rfl
          have V22 : L.lookup 22 = some (undef) := by rw [hL]; rfl
          have V23 : L.lookup 23 = some (undef) := by rw [hL]; rfl
          have V24 : L.lookup 24 = some (undef) := by rw [hL]; rfl
          have V25 : L.lookup 25 = some (.bool true) := by rw [hL]; rfl
          have V26 : L.lookup 26 = some (.bool true) := by rw [hL]; rfl
          have V27 : L.lookup 27 = some (undef) := by rw [hL]; rfl
          have V28 : L.lookup 28 = some (undef) := by rw [hL]; rfl
          have V29 : L.lookup 29 = some (undef) := by rw [hL]; rfl
          have V30 : L.lookup 30 = some (undef) := by rw [hL]; rfl
          have V31 : L.lookup 31 = some (undef) := by rw [hL]; rfl
          have V32 : L.lookup 32 = some (undef) := by rw [hL]; rfl
          have V33 : L.lookup 33 = some (undef) := by rw [hL]; rfl
          have V34 : L.lookup 34 = some (undef) := by rw [hL]; rfl
          have V35 : L.lookup 35 = some (undef) := by rw [hL]; rfl
          have V36 : L.lookup 36 = some (undef) := by rw [hL]; rfl
          have V37 : L.lookup 37 = some (undef) := by rw [hL]; rfl
          have V38 : L.lookup 38 = some (undef) := by rw [hL]; rfl
          have V39 : L.lookup 39 = some (undef) := by rw [hL]; rfl
          have V40 : L.lookup 40 = some (undef) := by rw [hL]; rfl
          have V41 : L.lookup 41 = some (undef) := by rw [hL]; rfl
          have V42 : L.lookup 42 = some (undef) := by rw [hL]; rfl
          have V43 : L.lookup 43 = some (.bool true) := by rw [hL]; rfl
          refine wp_region_exact (by kernel_rfl) L 34 rfl [some 10, some 11, some 12, some 13, some 14, some 15, some 16, some 17, some 18, some 19, some 20, some 21, some 22, some 23, some 24, some 25, some 26, some 27, some 28, some 29, some 30, some 31, some 32, some 33, some 34, some 35, some 36, some 37, some 38, some 39, some 40, some 41, some 42, some 43] (by kernel_rfl) (by kernel_rfl) (by rw [hL]; rfl) 2 (by rw [hL]; intro x hx; simp only [List.take_succ_cons, List.take_zero, List.mem_cons, List.not_mem_nil, or_false] at hx; rcases hx with rfl | rfl <;> rfl) (by rw [hL]; rfl) ?_ ?_
          · clear hL
            exact ⟨x_move gok_none (ox_tmp V0) V10,
    x_move gok_none (ox_tmp V3) V11,
    x_index gok_none (s := 6) (by kernel_rfl) (by omega) (by omega) (ox_tmp V10) (ox_tmp V11) (by simp) V12,
    x_field gok_none (f := 1) (s := 5) (by kernel_rfl) (by omega) (ox_tmp V12) rfl V13,
    x_loadn gok_none (by kernel_rfl) (by kernel_rfl) (ox_tmp V13) (by intro j v hj; rcases j with _ | _ | _ | _ | _ | j <;> simp at hj <;> subst hj <;> assumption) V14,
    x_call gok_none Try.func51 (by kernel_rfl) (by kernel_rfl) (us := [.agg #[.int .i64 (x1), .int .i64 (x2), .int .i64 (x3), .int .i64 (x4), .int .i64 (x5)]]) ⟨(ox_tmp V14), trivial⟩ V15 (fun wx hG => (sFlow_is _ _ _ _ _ _).mono fun e w' h => ⟨by rw [h.1, v1], by rw [h.2]; exact GrF.alloc _ _ _⟩),
    x_not gok_none (ox_tmp V15) V16,
    x_move gok_none (ox_tmp V16) V17,
    x_skip rfl rfl V17 (by intro e; cases e) (fun d h => by cases h; exact V18),
    x_skip rfl rfl V17 (by intro e; cases e) (fun d h => by cases h; exact V19),
    x_skip rfl rfl V17 (by intro e; cases e) (fun d h => by cases h; exact V20),
    x_skip rfl rfl V17 (by intro e; cases e) (fun d h => by cases h; exact V21),
    x_skip rfl rfl V17 (by intro e; cases e) (fun d h => by cases h; exact V22),
    x_skip rfl rfl V17 (by intro e; cases e) (fun d h => by cases h; exact V23),
    x_skip rfl rfl V17 (by intro e; cases e) (fun d h => by cases h; exact V24),
    x_pick gok_none (ox_tmp V17) ox_const (ox_tmp V24) rfl V25,
    x_move gok_none (ox_tmp V25) V26,
    x_skip rfl rfl V26 (by intro e; cases e) (fun d h => by cases h; exact V27),
    x_skip rfl rfl V26 (by intro e; cases e) (fun d h => by cases h; exact V28),
    x_skip rfl rfl V26 (by intro e; cases e) (fun d h => by cases h; exact V29),
    x_skip rfl rfl V29 (by intro e; cases e) (fun d h => by cases h; exact V30),
    x_skip rfl rfl V29 (by intro e; cases e) (fun d h => by cases h; exact V31),
    x_skip rfl rfl V29 (by intro e; cases e) (fun d h => by cases h; exact V32),
    x_skip rfl rfl V29 (by intro e; cases e) (fun d h => by cases h; exact V33),
    x_skip rfl rfl V29 (by intro e; cases e) (fun d h => by cases h; exact V34),
    x_skip rfl rfl V29 (by intro e; cases e) (fun d h => by cases h; exact V35),
    x_skip rfl rfl V29 (by intro e; cases e) (fun d h => by cases h; exact V36),
    x_skip rfl rfl V29 (by intro e; cases e) (fun d h => by cases h; exact V37),
    x_skip rfl rfl V29 (by intro e; cases e) (fun d h => by cases h; exact V38),
    x_skip rfl rfl V29 (by intro e; cases e) (fun d h => by cases h; exact V39),
    x_skip rfl rfl V29 (by intro e; cases e) (fun d h => by cases h; exact V40),
    x_skip rfl rfl V29 (by intro e; cases e) (fun d h => by cases h; exact V41),
    x_skip rfl rfl V26 (by intro e; cases e) (fun d h => by cases h; exact V42),
    x_pick gok_none (ox_tmp V26) ox_const (ox_tmp V42) rfl V43,
    trivial⟩
          intro w5 hw5
          simp only [putL, Act.put, List.setIfInBounds_toArray, List.set_cons_zero, List.set_cons_succ, V10, V11, V12, V13, V14, V15, V16, V17, V18, V19, V20, V21, V22, V23, V24, V25, V26, V27, V28, V29, V30, V31, V32, V33, V34, V35, V36, V37, V38, V39, V40, V41, V42, V43, Option.getD_some]
          clear hL V0 V3 V10 V11 V12 V13 V14 V15 V16 V17 V18 V19 V20 V21 V22 V23 V24 V25 V26 V27 V28 V29 V30 V31 V32 V33 V34 V35 V36 V37 V38 V39 V40 V41 V42 V43
          have b5 := below_of_gr hb4 hw5 hz4
          go_wp2
          go_ret
          exact ⟨ret_bool HE.out.symm, b5⟩
    · obtain rfl : n = k := by omega
      have HE := Lib.hid (hr.done HL.out)
      go_wp2
      go_ret
      exact ⟨ret_bool HE.out.symm, hb⟩
end Go.Proofs.Ytjiebaidjflkjaa
