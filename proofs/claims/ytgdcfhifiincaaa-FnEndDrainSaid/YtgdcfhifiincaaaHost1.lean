/-
  toHost, toHostS, eqHost, eqHostS, szHostS, markHostS, heldHostS of the laws: their contracts.
-/
import Derived.Test.YtgdcfhifiincaaaHost0
namespace Go.Proofs.Ytgdcfhifiincaaa
open Go.RowKit
set_option linter.unusedVariables false
attribute [local go_sem ↓] Go.wp_at_zero Go.wp_at_succ

theorem infoHost : (Try.prog.info? 50).map (fun i => (i.zero, i.size, i.bytes)) = some (some (.agg #[.int .i64 0, .int .i64 0, .int .i64 0]), 3, 24) := by kernel_rfl

theorem toHost_any (a b c : Int) (w : World) :
    Calls Try.prog 37 #[.agg #[.int .i64 a, .int .i64 b, .int .i64 c]] w fun e w' => e = .returned (.agg #[.int .i64 a, .int .i64 b, .int .i64 c]) ∧ Below w.heap.size w w' := by
  go_enter Try.func37, Try.ntmps37
  go_wp2
  refine bodyPost_ret (v := .agg #[.int .i64 a, .int .i64 b, .int .i64 c]) (by simp [results, Try.results37, go_sem]) rfl ⟨rfl, ?_⟩
  repeat' first | exact Below.refl _ _ | refine Below.alloc ?_ (by simp; try omega) _

theorem toHostS_any (A : Option Addr) (n c : Nat) (hs : List H3) (w : World) {lo hi : Nat} (hS : Sl w lo hi 3 A n (hostsV hs)) (hhi : hi ≤ w.heap.size) (hn : n ≤ 1048576) :
    Calls Try.prog 10 #[.slice A n c] w fun e w' => e = .returned (.slice (some ⟨w.heap.size, 0, none⟩) n n) ∧ w'.ownsRow w.heap.size 50 3 (.slice (some ⟨w.heap.size, 0, none⟩) n n) n (hostsV hs) ∧ Below w.heap.size w w' := by
  have HL := Lib.hid hS.hlen
  obtain ⟨i0, hi0, hz0, hz1, hz2⟩ := info_parts infoHost
  have hown0 := own_made3 w (.int .i64 0) 50 n (by unfold maxLen; omega)
  have hb0 := (Below.refl w.heap.size w).alloc (Nat.le_refl _) (.cells (madeCells #[.int .i64 0, .int .i64 0, .int .i64 0] (n * 3)) 50)
  have hmk : ∀ W : World, (Instr.makeSlice 30 (.int .i64 (n : Int)) (.int .i64 (n : Int))).run Try.prog W = .ok (.slice (some ⟨W.heap.size, 0, none⟩) n n) (W.alloc (.cells (madeCells #[.int .i64 0, .int .i64 0, .int .i64 0] (n * 3)) 50)) := fun W => by
    have := run_make_rowN (P := Try.prog) 30 50 i0 _ Try.underlying30 hi0 hz0 .i64 .i64 n n (Nat.le_refl _) (by rw [hz2]; omega) (by omega) W
    rw [hz1] at this
    exact this
  go_enter Try.func10, Try.ntmps10
  go_wp2
  obtain ⟨w0, hw0⟩ : ∃ w0, w0 = w.alloc (.cells (madeCells #[.int .i64 0, .int .i64 0, .int .i64 0] (n * 3)) 50) := ⟨_, rfl⟩
  rw [← hw0] at hown0 hb0 ⊢
  clear hw0 hmk
  go_loopw [4] (fun i wr => ∃ k : Nat, k ≤ n ∧ i = .int .i64 k ∧ wr.ownsRow w.heap.size 50 3 (.slice (some ⟨w.heap.size, 0, none⟩) n n) n (fillH hs n k) ∧ Below w.heap.size w wr) (fun i _ => n - (intOf i).toNat)
  case atStart => exact ⟨0, Nat.zero_le _, rfl, by rw [fillH_zero, hostsV_replicate]; exact hown0, hb0⟩
  case round =>
    obtain ⟨k, hk, rfl, hown, hb⟩ := hrel
    by_cases hlt : k < n
    · obtain ⟨b, off, rfl, _, _, c0, c1, c2⟩ := (hS.below hb hhi).host hlt
      obtain ⟨x, y, z, x0, x1, x2⟩ := fillH_cells hs hlt HL.out
      have hst := fillH_set hlt HL.out
      obtain ⟨⟨h0, h1, h2⟩, hh⟩ : ∃ p, hAt hs k = p := ⟨_, rfl⟩
      rw [hh] at c0 c1 c2 hst
      have HST := Lib.hid hst
      clear hst hh
      go_wp2_with (go_at_call 37; refine (toHost_any _ _ _ _).mono ?_; rintro e w1 ⟨rfl, hb1⟩; have hown1 := own_below hown hb1; have d0 := (hown1.cellAt (k * 3) (by omega)).trans x0; have d1 := (hown1.cellAt (k * 3 + 1) (by omega)).trans x1; have d2 := (hown1.cellAt (k * 3 + 2) (by omega)).trans x2; have df := hown1.frozenAt; have hb2 := hb.trans (hb1.mono hb.size))
      have o1 := (hown1.stored (k * 3) (.int .i64 h0)).1
      have o2 := (o1.stored (k * 3 + 1) (.int .i64 h1)).1
      have o3 := (o2.stored (k * 3 + 2) (.int .i64 h2)).1
      rw [HST.out] at o3
      have hb3 := ((hb2.setCell (p := ⟨w.heap.size, k * 3, none⟩) (Nat.le_refl _) (.int .i64 h0)).setCell (p := ⟨w.heap.size, k * 3 + 1, none⟩) (Nat.le_refl _) (.int .i64 h1)).setCell (p := ⟨w.heap.size, k * 3 + 2, none⟩) (Nat.le_refl _) (.int .i64 h2)
      go_roundw
      case rel => exact ⟨k + 1, by omega, by go_num, o3, hb3⟩
      case measure => simp [intOf]; omega
    · obtain rfl : n = k := by omega
      rw [fillH_full HL.out] at hown
      go_wp2
      go_ret
      exact ⟨rfl, hown, hb⟩

theorem eqHost_yes (a b c : Int) (w : World) :
    Calls Try.prog 39 #[.agg #[.int .i64 a, .int .i64 b, .int .i64 c], .agg #[.int .i64 a, .int .i64 b, .int .i64 c]] w fun e w' => e = .returned (.bool true) ∧ Below w.heap.size w w' := by
  go_enter Try.func39, Try.ntmps39
  go_wp2
  go_ret
  refine ⟨rfl, ?_⟩
  repeat' first | exact Below.refl _ _ | refine Below.alloc ?_ (by simp; try omega) _

set_option maxHeartbeats 800000 in
theorem eqHostS_yes (A A' : Option Addr) (n c c' : Nat) (hs : List H3) (w : World) {lo hi lo' hi' : Nat} (hS : Sl w lo hi 3 A n (hostsV hs)) (hS' : Sl w lo' hi' 3 A' n (hostsV hs)) (hhi : hi ≤ w.heap.size) (hhi' : hi' ≤ w.heap.size) (hn : n ≤ 1048576) :
    Calls Try.prog 14 #[.slice A n c, .slice A' n c'] w fun e w' => e = .returned (.bool true) ∧ Below w.heap.size w w' := by
  go_enter Try.func14, Try.ntmps14
  go_wp2
  go_loopw [5] (fun i wr => ∃ k : Nat, k ≤ n ∧ i = .int .i64 k ∧ Below w.heap.size w wr) (fun i _ => n - (intOf i).toNat)
  case atStart => exact ⟨0, Nat.zero_le _, rfl, Below.refl _ _⟩
  case round =>
    obtain ⟨k, hk, rfl, hb⟩ := hrel
    by_cases hlt : k < n
    · obtain ⟨b, off, rfl, _, hbh, c0, c1, c2⟩ := (hS.below hb hhi).host hlt
      obtain ⟨b', off', rfl, _, hbh', c0', c1', c2'⟩ := (hS'.below hb hhi').host hlt
      obtain ⟨⟨h0, h1, h2⟩, hh⟩ : ∃ p, hAt hs k = p := ⟨_, rfl⟩
      rw [hh] at c0 c1 c2 c0' c1' c2'
      clear hh
      have hki : (0 : Int) ≤ (k : Int) := by omega
      have hki2 : (k : Int) < (n : Int) := by omega
      go_wp2
      go_region_held3 (fun w' => w'.cell? ⟨b, off + k * 3, none⟩ = some (.int .i64 h0) ∧ w'.cell? ⟨b, off + k * 3 + 1, none⟩ = some (.int .i64 h1) ∧ w'.cell? ⟨b, off + k * 3 + 2, none⟩ = some (.int .i64 h2) ∧ w'.cell? ⟨b', off' + k * 3, none⟩ = some (.int .i64 h0) ∧ w'.cell? ⟨b', off' + k * 3 + 1, none⟩ = some (.int .i64 h1) ∧ w'.cell? ⟨b', off' + k * 3 + 2, none⟩ = some (.int .i64 h2)) (first | go_keep | trivial) ((first | (go_at_call 39; refine (eqHost_yes _ _ _ _).mono ?_; rintro e w1 ⟨rfl, hb1⟩; have zz := hb.size; have q0 := hb1.cell (p := ⟨b, off + k * 3, none⟩) (by simp; omega); have q1 := hb1.cell (p := ⟨b, off + k * 3 + 1, none⟩) (by simp; omega); have q2 := hb1.cell (p := ⟨b, off + k * 3 + 2, none⟩) (by simp; omega); have r0 := hb1.cell (p := ⟨b', off' + k * 3, none⟩) (by simp; omega); have r1 := hb1.cell (p := ⟨b', off' + k * 3 + 1, none⟩) (by simp; omega); have r2 := hb1.cell (p := ⟨b', off' + k * 3 + 2, none⟩) (by simp; omega))))
      all_goals
        go_wp2
        go_roundw
        case rel => exact ⟨k + 1, by omega, by go_num, hb.drew.trans (hb1.mono hb.size)⟩
        case measure => simp [intOf]; omega
    · obtain rfl : n = k := by omega
      go_wp2
      go_ret
      exact ⟨rfl, hb⟩

theorem szHostS_any (A : Option Addr) (n c : Nat) (z : Int) (w : World) (hn : n ≤ 9223372036854775807) (h0 : 0 ≤ z) (h1 : z ≤ 1048576) :
    Calls Try.prog 7 #[.slice A n c, .int .i64 z] w fun e w' => e = .returned (.int .i64 (if z < (n : Int) then -1 else z - n)) ∧ w = w' := by
  by_cases hz : z < (n : Int)
  · rw [if_pos hz]
    go_enter Try.func7, Try.ntmps7
    go_wp2
    go_ret
    exact ⟨rfl, rfl⟩
  · rw [if_neg hz]
    go_enter Try.func7, Try.ntmps7
    go_wp2
    go_ret
    exact ⟨rfl, rfl⟩

theorem markHostS_any (g n c : Nat) (k0 : Int) (xs : List Value) (base : Nat) (w : World) (hown : w.ownsRow base 50 3 (.slice (some ⟨g, 0, none⟩) n c) n xs) (hn : n ≤ 1048576) (h0 : 0 ≤ k0) (h1 : k0 ≤ 100000000) :
    Calls Try.prog 16 #[.slice (some ⟨g, 0, none⟩) n c, .int .i64 k0] w fun e w' => e = .returned (.int .i64 (k0 + 3 * n)) ∧ (∃ ys, w'.ownsRow base 50 3 (.slice (some ⟨g, 0, none⟩) n c) n ys ∧ Marked k0 (n * 3) ys) ∧ w.grownBy w' (some g) := by
  go_enter Try.func16, Try.ntmps16
  go_wp2
  go_loopw [1, 5] (fun q i wr => ∃ (k : Nat) (ys : List Value), k ≤ n ∧ i = .int .i64 k ∧ q = .int .i64 (k0 + 3 * k) ∧ wr.ownsRow base 50 3 (.slice (some ⟨g, 0, none⟩) n c) n ys ∧ Marked k0 (k * 3) ys ∧ w.grownBy wr (some g)) (fun _ i _ => n - (intOf i).toNat)
  case atStart => exact ⟨0, xs, Nat.zero_le _, rfl, by go_num, hown, Marked.zero _ _, World.grownBy.refl _ _⟩
  case round =>
    obtain ⟨k, ys, hk, rfl, rfl, ho, hm, hg⟩ := hrel
    have hyl : ys.length = n * 3 := ho.1
    by_cases hlt : k < n
    · have ex : ∀ j, j < n * 3 → ∃ u, ys[j]? = some u := fun j hj => ⟨_, List.getElem?_eq_getElem (by omega)⟩
      obtain ⟨u0, e0⟩ := ex (k * 3) (by omega)
      obtain ⟨u1, e1⟩ := ex (k * 3 + 1) (by omega)
      obtain ⟨u2, e2⟩ := ex (k * 3 + 2) (by omega)
      have d0 := (ho.cellAt (k * 3) (by omega)).trans e0
      have d1 := (ho.cellAt (k * 3 + 1) (by omega)).trans e1
      have d2 := (ho.cellAt (k * 3 + 2) (by omega)).trans e2
      have df := ho.frozenAt
      clear ex
      go_wp2
      have o1 := (ho.stored (k * 3) (.int .i64 (k0 + 3 * (k : Int)))).1
      have o2 := (o1.stored (k * 3 + 1) (.int .i64 (k0 + 3 * (k : Int) + 1))).1
      have o3 := (o2.stored (k * 3 + 2) (.int .i64 (k0 + 3 * (k : Int) + 1 + 1))).1
      have m3 := hm.three (x := k0 + 3 * (k : Int)) (y := k0 + 3 * (k : Int) + 1) (z := k0 + 3 * (k : Int) + 1 + 1) (by omega) (by omega) (by omega) (by omega)
      have g3 := only_setCell (only_setCell (only_setCell hg (p := ⟨g, k * 3, none⟩) (.inl rfl) (.int .i64 (k0 + 3 * (k : Int)))) (p := ⟨g, k * 3 + 1, none⟩) (.inl rfl) (.int .i64 (k0 + 3 * (k : Int) + 1))) (p := ⟨g, k * 3 + 2, none⟩) (.inl rfl) (.int .i64 (k0 + 3 * (k : Int) + 1 + 1))
      go_roundw
      case rel => exact ⟨k + 1, _, by omega, by go_num, by go_num, o3, by rw [show (k + 1) * 3 = k * 3 + 3 from by omega]; exact m3, g3⟩
      case measure => simp [intOf]; omega
    · obtain rfl : n = k := by omega
      go_wp2
      go_ret
      exact ⟨rfl, ⟨ys, ho, hm⟩, hg⟩

theorem heldHostS_any (A : Option Addr) (n c : Nat) (k0 : Int) (xs : List Value) (w : World) {lo hi : Nat} (hS : Sl w lo hi 3 A n xs) (hm : Marked k0 (n * 3) xs) (hn : n ≤ 1048576) (h0 : 0 ≤ k0) (h1 : k0 ≤ 100000000) :
    Calls Try.prog 29 #[.slice A n c, .int .i64 k0] w fun e w' => e = .returned (.int .i64 (k0 + 3 * n)) ∧ w = w' := by
  go_enter Try.func29, Try.ntmps29
  go_wp2
  go_loop [1, 5] (fun q i => ∃ k : Nat, k ≤ n ∧ i = .int .i64 k ∧ q = .int .i64 (k0 + 3 * k)) (fun _ i => n - (intOf i).toNat)
  case atStart => exact ⟨0, Nat.zero_le _, rfl, by go_num⟩
  case round =>
    obtain ⟨k, hk, rfl, rfl⟩ := hrel
    by_cases hlt : k < n
    · obtain ⟨b, off, rfl, _, _, hc⟩ := hS.2 (by omega)
      have c0 := hc _ _ (hm (k * 3) (by omega))
      have c1 := hc _ _ (hm (k * 3 + 1) (by omega))
      have c2 := hc _ _ (hm (k * 3 + 2) (by omega))
      rw [show k0 + ((k * 3 : Nat) : Int) = k0 + 3 * k from by omega] at c0
      rw [show k0 + ((k * 3 + 1 : Nat) : Int) = k0 + 3 * k + 1 from by omega] at c1
      rw [show k0 + ((k * 3 + 2 : Nat) : Int) = k0 + 3 * k + 1 + 1 from by omega] at c2
      rw [← Nat.add_assoc] at c1 c2
      clear hc
      go_wp2
      go_round
      case rel => exact ⟨k + 1, by omega, by go_num, by go_num⟩
      case measure => simp [intOf]; omega
    · obtain rfl : n = k := by omega
      go_wp2
      go_ret
      exact ⟨rfl, rfl⟩
end Go.Proofs.Ytgdcfhifiincaaa
