/-
  eqFlow, eqEntry, eqEntryS, eqTable, szEntryS, szTable, markEntryS, markTable of the laws: their contracts.
-/
import Derived.Test.YtgdcfhifiincaaaEnt1
namespace Go.Proofs.Ytgdcfhifiincaaa
open Go.RowKit
set_option linter.unusedVariables false

theorem eqFlow_yes (h0 h1 h2 h3 h4 : Int) (w : World) :
    Calls Try.prog 72 #[.agg #[.int .i64 h0, .int .i64 h1, .int .i64 h2, .int .i64 h3, .int .i64 h4], .agg #[.int .i64 h0, .int .i64 h1, .int .i64 h2, .int .i64 h3, .int .i64 h4]] w fun e w' => e = .returned (.bool true) ∧ Below w.heap.size w w' := by
  go_enter Try.func72, Try.ntmps72
  go_wp2
  go_ret
  refine ⟨rfl, ?_⟩
  repeat' first | exact Below.refl _ _ | refine Below.alloc ?_ (by simp; try omega) _
theorem eqEntry_yes (h0 h1 h2 h3 h4 h5 h6 : Int) (w : World) :
    Calls Try.prog 58 #[.agg #[.int .i64 h0, .int .i64 h1, .int .i64 h2, .int .i64 h3, .int .i64 h4, .int .i64 h5, .int .i64 h6], .agg #[.int .i64 h0, .int .i64 h1, .int .i64 h2, .int .i64 h3, .int .i64 h4, .int .i64 h5, .int .i64 h6]] w fun e w' => e = .returned (.bool true) ∧ Below w.heap.size w w' := by
  have b0 := (((Below.refl w.heap.size w).alloc (Nat.le_refl _) (.cells #[.int .i64 h0, .int .i64 h1, .int .i64 h2, .int .i64 h3, .int .i64 h4, .int .i64 h5, .int .i64 h6] 56)).alloc (by simp) (.cells #[.int .i64 h0, .int .i64 h1, .int .i64 h2, .int .i64 h3, .int .i64 h4, .int .i64 h5, .int .i64 h6] 56))
  have k0 := (Blk.new w 56 #[.int .i64 h0, .int .i64 h1, .int .i64 h2, .int .i64 h3, .int .i64 h4, .int .i64 h5, .int .i64 h6]).alloc (.cells #[.int .i64 h0, .int .i64 h1, .int .i64 h2, .int .i64 h3, .int .i64 h4, .int .i64 h5, .int .i64 h6] 56)
  have k1 := Blk.new (w.alloc (.cells #[.int .i64 h0, .int .i64 h1, .int .i64 h2, .int .i64 h3, .int .i64 h4, .int .i64 h5, .int .i64 h6] 56)) 56 #[.int .i64 h0, .int .i64 h1, .int .i64 h2, .int .i64 h3, .int .i64 h4, .int .i64 h5, .int .i64 h6]
  have hcon := eqFlow_yes h0 h1 h2 h3 h4 ((w.alloc (.cells #[.int .i64 h0, .int .i64 h1, .int .i64 h2, .int .i64 h3, .int .i64 h4, .int .i64 h5, .int .i64 h6] 56)).alloc (.cells #[.int .i64 h0, .int .i64 h1, .int .i64 h2, .int .i64 h3, .int .i64 h4, .int .i64 h5, .int .i64 h6] 56))
  have hlt : w.heap.size < ((w.alloc (.cells #[.int .i64 h0, .int .i64 h1, .int .i64 h2, .int .i64 h3, .int .i64 h4, .int .i64 h5, .int .i64 h6] 56)).alloc (.cells #[.int .i64 h0, .int .i64 h1, .int .i64 h2, .int .i64 h3, .int .i64 h4, .int .i64 h5, .int .i64 h6] 56)).heap.size := by simp; omega
  have hlt1 : w.heap.size + 1 < ((w.alloc (.cells #[.int .i64 h0, .int .i64 h1, .int .i64 h2, .int .i64 h3, .int .i64 h4, .int .i64 h5, .int .i64 h6] 56)).alloc (.cells #[.int .i64 h0, .int .i64 h1, .int .i64 h2, .int .i64 h3, .int .i64 h4, .int .i64 h5, .int .i64 h6] 56)).heap.size := by simp
  simp only [World.size_alloc] at k1
  go_enter Try.func58, Try.ntmps58
  go_wp2_with fail
  generalize (w.alloc (.cells #[.int .i64 h0, .int .i64 h1, .int .i64 h2, .int .i64 h3, .int .i64 h4, .int .i64 h5, .int .i64 h6] 56)).alloc (.cells #[.int .i64 h0, .int .i64 h1, .int .i64 h2, .int .i64 h3, .int .i64 h4, .int .i64 h5, .int .i64 h6] 56) = wA at hcon b0 k0 k1 hlt hlt1 ⊢
  refine hcon.mono ?_
  rintro e w1 ⟨rfl, hb1⟩
  have j0 := k0.below hb1 hlt
  have j1 := k1.below hb1 hlt1
  have c5 : w1.cell? ⟨w.heap.size, 5, none⟩ = some (.int .i64 h5) := j0.cell 5
  have c6 : w1.cell? ⟨w.heap.size, 6, none⟩ = some (.int .i64 h6) := j0.cell 6
  have d5 : w1.cell? ⟨w.heap.size + 1, 5, none⟩ = some (.int .i64 h5) := j1.cell 5
  have d6 : w1.cell? ⟨w.heap.size + 1, 6, none⟩ = some (.int .i64 h6) := j1.cell 6
  have bb := b0.trans (hb1.mono b0.size)
  go_wp2
  go_ret
  exact ⟨rfl, bb⟩

set_option maxHeartbeats 1600000 in
theorem eqEntryS_yes (A A' : Option Addr) (n c c' : Nat) (es : List En7) (w : World) {lo hi lo' hi' : Nat} (hS : Sl w lo hi 7 A n (ensV es)) (hS' : Sl w lo' hi' 7 A' n (ensV es)) (hhi : hi ≤ w.heap.size) (hhi' : hi' ≤ w.heap.size) (hn : n ≤ 1048576) :
    Calls Try.prog 40 #[.slice A n c, .slice A' n c'] w fun e w' => e = .returned (.bool true) ∧ Below w.heap.size w w' := by
  go_enter Try.func40, Try.ntmps40
  go_wp2
  go_loopw [5] (fun i wr => ∃ k : Nat, k ≤ n ∧ i = .int .i64 k ∧ Below w.heap.size w wr) (fun i _ => n - (intOf i).toNat)
  case atStart => exact ⟨0, Nat.zero_le _, rfl, Below.refl _ _⟩
  case round =>
    obtain ⟨k, hk, rfl, hb⟩ := hrel
    by_cases hlt : k < n
    · obtain ⟨b, off, rfl, _, hbh, c0, c1, c2, c3, c4, c5, c6⟩ := (hS.below hb hhi).en hlt
      obtain ⟨b', off', rfl, _, hbh', c0', c1', c2', c3', c4', c5', c6'⟩ := (hS'.below hb hhi').en hlt
      obtain ⟨⟨h0, h1, h2, h3, h4, h5, h6⟩, hh⟩ : ∃ p, enAt es k = p := ⟨_, rfl⟩
      rw [hh] at c0 c1 c2 c3 c4 c5 c6 c0' c1' c2' c3' c4' c5' c6'
      simp only at c0 c1 c2 c3 c4 c5 c6 c0' c1' c2' c3' c4' c5' c6'
      clear hh
      have hki : (0 : Int) ≤ (k : Int) := by omega
      have hki2 : (k : Int) < (n : Int) := by omega
      go_wp2
      go_region_held3 (fun w' => w'.cell? ⟨b, off + k * 7, none⟩ = some (.int .i64 h0) ∧ w'.cell? ⟨b, off + k * 7 + 1, none⟩ = some (.int .i64 h1) ∧ w'.cell? ⟨b, off + k * 7 + 2, none⟩ = some (.int .i64 h2) ∧ w'.cell? ⟨b, off + k * 7 + 3, none⟩ = some (.int .i64 h3) ∧ w'.cell? ⟨b, off + k * 7 + 4, none⟩ = some (.int .i64 h4) ∧ w'.cell? ⟨b, off + k * 7 + 5, none⟩ = some (.int .i64 h5) ∧ w'.cell? ⟨b, off + k * 7 + 6, none⟩ = some (.int .i64 h6) ∧ w'.cell? ⟨b', off' + k * 7, none⟩ = some (.int .i64 h0) ∧ w'.cell? ⟨b', off' + k * 7 + 1, none⟩ = some (.int .i64 h1) ∧ w'.cell? ⟨b', off' + k * 7 + 2, none⟩ = some (.int .i64 h2) ∧ w'.cell? ⟨b', off' + k * 7 + 3, none⟩ = some (.int .i64 h3) ∧ w'.cell? ⟨b', off' + k * 7 + 4, none⟩ = some (.int .i64 h4) ∧ w'.cell? ⟨b', off' + k * 7 + 5, none⟩ = some (.int .i64 h5) ∧ w'.cell? ⟨b', off' + k * 7 + 6, none⟩ = some (.int .i64 h6)) (first | go_keep | trivial) ((first | (go_at_call 58; refine (eqEntry_yes _ _ _ _ _ _ _ _).mono ?_; rintro e w1 ⟨rfl, hb1⟩; have zz := hb.size; have q0 := hb1.cell (p := ⟨b, off + k * 7, none⟩) (by simp; omega); have q1 := hb1.cell (p := ⟨b, off + k * 7 + 1, none⟩) (by simp; omega); have q2 := hb1.cell (p := ⟨b, off + k * 7 + 2, none⟩) (by simp; omega); have q3 := hb1.cell (p := ⟨b, off + k * 7 + 3, none⟩) (by simp; omega); have q4 := hb1.cell (p := ⟨b, off + k * 7 + 4, none⟩) (by simp; omega); have q5 := hb1.cell (p := ⟨b, off + k * 7 + 5, none⟩) (by simp; omega); have q6 := hb1.cell (p := ⟨b, off + k * 7 + 6, none⟩) (by simp; omega); have r0 := hb1.cell (p := ⟨b', off' + k * 7, none⟩) (by simp; omega); have r1 := hb1.cell (p := ⟨b', off' + k * 7 + 1, none⟩) (by simp; omega); have r2 := hb1.cell (p := ⟨b', off' + k * 7 + 2, none⟩) (by simp; omega); have r3 := hb1.cell (p := ⟨b', off' + k * 7 + 3, none⟩) (by simp; omega); have r4 := hb1.cell (p := ⟨b', off' + k * 7 + 4, none⟩) (by simp; omega); have r5 := hb1.cell (p := ⟨b', off' + k * 7 + 5, none⟩) (by simp; omega); have r6 := hb1.cell (p := ⟨b', off' + k * 7 + 6, none⟩) (by simp; omega))))
      all_goals
        go_wp2
        go_roundw
        case rel => exact ⟨k + 1, by omega, by go_num, hb.drew.trans (hb1.mono hb.size)⟩
        case measure => simp [intOf]; omega
    · obtain rfl : n = k := by omega
      go_wp2
      go_ret
      exact ⟨rfl, hb⟩
theorem eqTable_yes (sz st : Int) (A A' : Option Addr) (n c c' : Nat) (es : List En7) (w : World) {lo hi lo' hi' : Nat} (hS : Sl w lo hi 7 A n (ensV es)) (hS' : Sl w lo' hi' 7 A' n (ensV es)) (hhi : hi ≤ w.heap.size) (hhi' : hi' ≤ w.heap.size) (hn : n ≤ 1048576) :
    Calls Try.prog 15 #[.agg #[.int .i64 sz, .int .i64 st, .slice A n c], .agg #[.int .i64 sz, .int .i64 st, .slice A' n c']] w fun e w' => e = .returned (.bool true) ∧ Below w.heap.size w w' := by
  have b0 := (((Below.refl w.heap.size w).alloc (Nat.le_refl _) (.cells #[.int .i64 sz, .int .i64 st, .slice A n c] 34)).alloc (by simp) (.cells #[.int .i64 sz, .int .i64 st, .slice A' n c'] 34))
  have s1 := (hS.alloc hhi (.cells #[.int .i64 sz, .int .i64 st, .slice A n c] 34)).alloc (by simp; omega) (.cells #[.int .i64 sz, .int .i64 st, .slice A' n c'] 34)
  have s2 := (hS'.alloc hhi' (.cells #[.int .i64 sz, .int .i64 st, .slice A n c] 34)).alloc (by simp; omega) (.cells #[.int .i64 sz, .int .i64 st, .slice A' n c'] 34)
  have hcon := eqEntryS_yes A A' n c c' es _ s1 s2 (by simp; omega) (by simp; omega) hn
  go_enter Try.func15, Try.ntmps15
  go_wp2_with fail
  refine hcon.mono ?_
  rintro e w1 ⟨rfl, hb1⟩
  go_wp2
  go_ret
  exact ⟨rfl, b0.trans (hb1.mono b0.size)⟩
theorem szEntryS_any (A : Option Addr) (n c : Nat) (z : Int) (w : World) (hn : n ≤ 9223372036854775807) (h0 : 0 ≤ z) (h1 : z ≤ 1048576) :
    Calls Try.prog 33 #[.slice A n c, .int .i64 z] w fun e w' => e = .returned (.int .i64 (if z < (n : Int) then -1 else z - n)) ∧ w = w' := by
  by_cases hz : z < (n : Int)
  · rw [if_pos hz]
    go_enter Try.func33, Try.ntmps33
    go_wp2
    go_ret
    exact ⟨rfl, rfl⟩
  · rw [if_neg hz]
    go_enter Try.func33, Try.ntmps33
    go_wp2
    go_ret
    exact ⟨rfl, rfl⟩
theorem szTable_any (sz st : Int) (A : Option Addr) (n c : Nat) (z : Int) (w : World) (hn : n ≤ 9223372036854775807) (h0 : 0 ≤ z) (h1 : z ≤ 1048576) :
    Calls Try.prog 8 #[.agg #[.int .i64 sz, .int .i64 st, .slice A n c], .int .i64 z] w fun e w' => e = .returned (.int .i64 (if z < (n : Int) then -1 else z - n)) ∧ Below w.heap.size w w' := by
  have b0 := (Below.refl w.heap.size w).alloc (Nat.le_refl _) (.cells #[.int .i64 sz, .int .i64 st, .slice A n c] 25)
  have hcon := szEntryS_any A n c z (w.alloc (.cells #[.int .i64 sz, .int .i64 st, .slice A n c] 25)) hn h0 h1
  by_cases hz : z < (n : Int)
  · rw [if_pos hz] at hcon ⊢
    go_enter Try.func8, Try.ntmps8
    go_wp2_with fail
    refine hcon.mono ?_
    rintro e w1 ⟨rfl, rfl⟩
    go_wp2
    go_ret
    exact ⟨rfl, b0⟩
  · rw [if_neg hz] at hcon ⊢
    have hz2 : decide (z - (n : Int) < 0) = false := decide_eq_false (by omega)
    go_enter Try.func8, Try.ntmps8
    go_wp2_with fail
    refine hcon.mono ?_
    rintro e w1 ⟨rfl, rfl⟩
    go_wp2
    go_ret
    exact ⟨rfl, b0⟩
set_option maxHeartbeats 1600000 in
theorem markEntryS_any (g n c : Nat) (k0 : Int) (xs : List Value) (base : Nat) (w : World) (hown : w.ownsRow base 56 7 (.slice (some ⟨g, 0, none⟩) n c) n xs) (hn : n ≤ 1048576) (h0 : 0 ≤ k0) (h1 : k0 ≤ 100000000) :
    Calls Try.prog 41 #[.slice (some ⟨g, 0, none⟩) n c, .int .i64 k0] w fun e w' => e = .returned (.int .i64 (k0 + 7 * n)) ∧ w.grownBy w' (some g) := by
  go_enter Try.func41, Try.ntmps41
  go_wp2
  go_loopw [1, 5] (fun q i wr => ∃ (k : Nat) (ys : List Value), k ≤ n ∧ i = .int .i64 k ∧ q = .int .i64 (k0 + 7 * k) ∧ wr.ownsRow base 56 7 (.slice (some ⟨g, 0, none⟩) n c) n ys ∧ w.grownBy wr (some g)) (fun _ i _ => n - (intOf i).toNat)
  case atStart => exact ⟨0, xs, Nat.zero_le _, rfl, by go_num, hown, World.grownBy.refl _ _⟩
  case round =>
    obtain ⟨k, ys, hk, rfl, rfl, ho, hg⟩ := hrel
    have hyl : ys.length = n * 7 := ho.1
    by_cases hlt : k < n
    · have ex : ∀ j, j < n * 7 → ∃ u, ys[j]? = some u := fun j hj => ⟨_, List.getElem?_eq_getElem (by omega)⟩
      obtain ⟨u0, e0⟩ := ex (k * 7) (by omega)
      have d0 := (ho.cellAt (k * 7) (by omega)).trans e0
      obtain ⟨u1, e1⟩ := ex (k * 7 + 1) (by omega)
      have d1 := (ho.cellAt (k * 7 + 1) (by omega)).trans e1
      obtain ⟨u2, e2⟩ := ex (k * 7 + 2) (by omega)
      have d2 := (ho.cellAt (k * 7 + 2) (by omega)).trans e2
      obtain ⟨u3, e3⟩ := ex (k * 7 + 3) (by omega)
      have d3 := (ho.cellAt (k * 7 + 3) (by omega)).trans e3
      obtain ⟨u4, e4⟩ := ex (k * 7 + 4) (by omega)
      have d4 := (ho.cellAt (k * 7 + 4) (by omega)).trans e4
      obtain ⟨u5, e5⟩ := ex (k * 7 + 5) (by omega)
      have d5 := (ho.cellAt (k * 7 + 5) (by omega)).trans e5
      obtain ⟨u6, e6⟩ := ex (k * 7 + 6) (by omega)
      have d6 := (ho.cellAt (k * 7 + 6) (by omega)).trans e6
      have df := ho.frozenAt
      clear ex
      go_wp2
      have o0 := (ho.stored (k * 7) (.int .i64 (k0 + 7 * (k : Int)))).1
      have o1 := (o0.stored (k * 7 + 1) (.int .i64 (k0 + 7 * (k : Int) + 1))).1
      have o2 := (o1.stored (k * 7 + 2) (.int .i64 (k0 + 7 * (k : Int) + 1 + 1))).1
      have o3 := (o2.stored (k * 7 + 3) (.int .i64 (k0 + 7 * (k : Int) + 1 + 1 + 1))).1
      have o4 := (o3.stored (k * 7 + 4) (.int .i64 (k0 + 7 * (k : Int) + 1 + 1 + 1 + 1))).1
      have o5 := (o4.stored (k * 7 + 5) (.int .i64 (k0 + 7 * (k : Int) + 1 + 1 + 1 + 1 + 1))).1
      have o6 := (o5.stored (k * 7 + 6) (.int .i64 (k0 + 7 * (k : Int) + 1 + 1 + 1 + 1 + 1 + 1))).1
      have g7 := only_setCell (only_setCell (only_setCell (only_setCell (only_setCell (only_setCell (only_setCell hg (p := ⟨g, k * 7, none⟩) (.inl rfl) (.int .i64 (k0 + 7 * (k : Int)))) (p := ⟨g, k * 7 + 1, none⟩) (.inl rfl) (.int .i64 (k0 + 7 * (k : Int) + 1))) (p := ⟨g, k * 7 + 2, none⟩) (.inl rfl) (.int .i64 (k0 + 7 * (k : Int) + 1 + 1))) (p := ⟨g, k * 7 + 3, none⟩) (.inl rfl) (.int .i64 (k0 + 7 * (k : Int) + 1 + 1 + 1))) (p := ⟨g, k * 7 + 4, none⟩) (.inl rfl) (.int .i64 (k0 + 7 * (k : Int) + 1 + 1 + 1 + 1))) (p := ⟨g, k * 7 + 5, none⟩) (.inl rfl) (.int .i64 (k0 + 7 * (k : Int) + 1 + 1 + 1 + 1 + 1))) (p := ⟨g, k * 7 + 6, none⟩) (.inl rfl) (.int .i64 (k0 + 7 * (k : Int) + 1 + 1 + 1 + 1 + 1 + 1))
      go_roundw
      case rel => exact ⟨k + 1, _, by omega, by go_num, by go_num, o6, g7⟩
      case measure => simp [intOf]; omega
    · obtain rfl : n = k := by omega
      go_wp2
      go_ret
      exact ⟨rfl, hg⟩
theorem markTable_any (sz st : Int) (g n c : Nat) (k0 : Int) (xs : List Value) (base : Nat) (w : World) (hown : w.ownsRow base 56 7 (.slice (some ⟨g, 0, none⟩) n c) n xs) (hn : n ≤ 1048576) (h0 : 0 ≤ k0) (h1 : k0 ≤ 100000000) :
    Calls Try.prog 17 #[.agg #[.int .i64 sz, .int .i64 st, .slice (some ⟨g, 0, none⟩) n c], .int .i64 k0] w fun e w' => e = .returned (.int .i64 (k0 + 7 * n)) ∧ w.grownBy w' (some g) := by
  have b0 : w.grownBy (w.alloc (.cells #[.int .i64 sz, .int .i64 st, .slice (some ⟨g, 0, none⟩) n c] 34)) (some g) := only_below (World.grownBy.refl _ _) ((Below.refl w.heap.size w).alloc (Nat.le_refl _) _)
  have hcon := markEntryS_any g n c k0 xs base _ (hown.alloc (.cells #[.int .i64 sz, .int .i64 st, .slice (some ⟨g, 0, none⟩) n c] 34)) hn h0 h1
  go_enter Try.func17, Try.ntmps17
  go_wp2_with fail
  refine hcon.mono ?_
  rintro e w1 ⟨rfl, hg1⟩
  go_wp2
  go_ret
  exact ⟨rfl, b0.trans hg1⟩
end Go.Proofs.Ytgdcfhifiincaaa
