/-
  Packets: eqPacket of the laws; the walk of FnExactPacketValid.
-/
import Derived.Test.YtleammkpfknngaaPktB
import Derived.Test.YtleammkpfknngaaOpenPkt
namespace Go.Proofs.Ytleammkpfknngaa
open Go.RowKit
set_option linter.unusedVariables false
attribute [local go_sem ↓] Go.wp_at_zero Go.wp_at_succ

theorem Blk.five {w : World} {g : Nat} {t : TypeId} {a b c d e : Value} (h : Blk w g t #[a, b, c, d, e]) : w.cell? ⟨g, 0, none⟩ = some a ∧ w.cell? ⟨g, 1, none⟩ = some b ∧ w.cell? ⟨g, 2, none⟩ = some c ∧ w.cell? ⟨g, 3, none⟩ = some d ∧ w.cell? ⟨g, 4, none⟩ = some e :=
  ⟨by rw [h.cell]; rfl, by rw [h.cell]; rfl, by rw [h.cell]; rfl, by rw [h.cell]; rfl, by rw [h.cell]; rfl⟩

theorem eqPacket_yes (f t k l : Int) (A A' : Option Addr) (n c c' : Nat) (zs : List Int) (w : World) {lo hi lo' hi' : Nat} (hs : Sl w lo hi 1 A n (zs.map (Value.int .u8))) (hs' : Sl w lo' hi' 1 A' n (zs.map (Value.int .u8))) (hhi : hi ≤ w.heap.size) (hhi' : hi' ≤ w.heap.size) (hn : n ≤ 1048576) :
    Calls Try.prog 16 #[.agg #[.int .i64 f, .int .i64 t, .int .i64 k, .int .i64 l, .slice A n c], .agg #[.int .i64 f, .int .i64 t, .int .i64 k, .int .i64 l, .slice A' n c']] w fun e w' => e = .returned (.bool true) ∧ Below w.heap.size w w' := by
  go_enter Try.func16, Try.ntmps16
  go_wp2_with fail
  refine (eqByteS_yes _ _ _ _ _ zs _ ((hs.alloc hhi _).alloc (by simp; omega) _) ((hs'.alloc hhi' _).alloc (by simp; omega) _) hn).mono ?_
  rintro e w1 ⟨rfl, b1⟩
  go_wp2_with fail
  go_ret
  exact ⟨rfl, (((Below.refl w.heap.size w).alloc (Nat.le_refl _) _).alloc (by simp) _).trans (b1.mono (by simp; omega))⟩

theorem wFnExactPacketValid (f t k l : Int) (A : Option Addr) (n c : Nat) (zs : List Int) (w : World) (hS : Sl w 0 w.heap.size 1 A n (zs.map (Value.int .u8))) (hnc : n ≤ c) (hm : c ≤ maxLen) (_ : ∀ z ∈ zs, (Lit.int .u8 z).wf = true) :
    Calls Try.prog 3 #[.agg #[.int .i64 f, .int .i64 t, .int .i64 k, .int .i64 l, .slice A n c]] w fun e w' => e = .returned (.bool true) ∧ Below w.heap.size w w' := by
  unfold maxLen at hm
  have e0 := (Below.refl w.heap.size w).alloc (Nat.le_refl _) (.cells #[.int .i64 f, .int .i64 t, .int .i64 k, .int .i64 l, .slice A n c] 24)
  by_cases hn : n ≤ 1048576
  · have hn1 : ¬ ((1048576 : Int) < (n : Int)) := by omega
    go_enter Try.func3, Try.ntmps3
    go_wp2_with fail
    refine (szPacket_any _ _ _ _ _ _ _ _ _ (by omega) (by omega) (by omega)).mono ?_
    rw [if_neg (by omega)]
    rintro e w0 ⟨rfl, b0⟩
    have d0 := e0.trans (b0.mono (by simp))
    have K0 := (Blk.new w 24 #[.int .i64 f, .int .i64 t, .int .i64 k, .int .i64 l, .slice A n c]).below b0 (by simp)
    have z0 := b0.size
    simp only [World.size_alloc] at z0
    obtain ⟨p0, p1, p2, p3, p4⟩ := K0.five
    go_wp2_with fail
    refine (toPacket_any _ _ _ _ _ _ _ zs _ (hS.below d0 (Nat.le_refl _)) d0.size hn).mono ?_
    rintro e w1 ⟨rfl, own1, b1⟩
    have d1 := d0.trans (b1.mono d0.size)
    have K1 := K0.below b1 (by omega)
    clear p0 p1 p2 p3 p4
    go_wp2_with fail
    refine (sPacketValid_any _ _ _ _ _ _ _ _).mono ?_
    rintro e w2 ⟨rfl, hw2⟩
    have b2 := (Below.refl w1.heap.size w1).alloc (Nat.le_refl _) (.cells #[.int .i64 f, .int .i64 t, .int .i64 k, .int .i64 l, .slice (some ⟨w0.heap.size + 1 + 1 + 1, 0, none⟩) n n] 27)
    rw [hw2] at b2
    clear hw2
    have z1 := b1.size
    have z2 := b2.size
    have d2 := d1.trans (b2.mono d1.size)
    have K2 := K1.below b2 (by omega)
    obtain ⟨p0, p1, p2, p3, p4⟩ := K2.five
    go_wp2_with fail
    refine (toPacket_any _ _ _ _ _ _ _ zs _ (hS.below d2 (Nat.le_refl _)) d2.size hn).mono ?_
    rintro e w3 ⟨rfl, own3, b3⟩
    have d3 := d2.trans (b3.mono d2.size)
    have K3 := K2.below b3 (by omega)
    have z3 := b3.size
    clear p0 p1 p2 p3 p4
    obtain ⟨p0, p1, p2, p3, p4⟩ := K3.five
    go_wp2_with fail
    refine (iPacketValid_any _ _ _ _ _ _ _ _).mono ?_
    rintro e w4 ⟨rfl, hw4⟩
    have X4 := (Blk.new w3 27 #[.int .i64 f, .int .i64 t, .int .i64 k, .int .i64 l, .slice (some ⟨w2.heap.size + 1 + 1 + 1, 0, none⟩) n n]).alloc (.cells #[.int .i64 f, .int .i64 t, .int .i64 k, .int .i64 l, .slice (some ⟨w2.heap.size + 1 + 1 + 1, 0, none⟩) n n] 27)
    have b4 := ((Below.refl w3.heap.size w3).alloc (Nat.le_refl _) (.cells #[.int .i64 f, .int .i64 t, .int .i64 k, .int .i64 l, .slice (some ⟨w2.heap.size + 1 + 1 + 1, 0, none⟩) n n] 27)).alloc (by simp) (.cells #[.int .i64 f, .int .i64 t, .int .i64 k, .int .i64 l, .slice (some ⟨w2.heap.size + 1 + 1 + 1, 0, none⟩) n n] 27)
    rw [hw4] at X4 b4
    have z4 : w3.heap.size < w4.heap.size := by rw [← hw4]; simp; omega
    clear hw4 p0 p1 p2 p3 p4
    have d4 := d3.trans (b4.mono d3.size)
    have K4 := K3.below b4 (by omega)
    have own4 := own_below own3 b4
    obtain ⟨p0, p1, p2, p3, p4⟩ := K4.five
    obtain ⟨x0, x1, x2, x3, x4⟩ := X4.five
    go_wp2_with fail
    go_region_held3 (fun w' => w'.cell? ⟨w.heap.size, 0, none⟩ = some (.int .i64 f) ∧ w'.cell? ⟨w.heap.size, 1, none⟩ = some (.int .i64 t) ∧ w'.cell? ⟨w.heap.size, 2, none⟩ = some (.int .i64 k) ∧ w'.cell? ⟨w.heap.size, 3, none⟩ = some (.int .i64 l) ∧ w'.cell? ⟨w.heap.size, 4, none⟩ = some (.slice A n c) ∧ w'.cell? ⟨w3.heap.size, 0, none⟩ = some (.int .i64 f) ∧ w'.cell? ⟨w3.heap.size, 1, none⟩ = some (.int .i64 t) ∧ w'.cell? ⟨w3.heap.size, 2, none⟩ = some (.int .i64 k) ∧ w'.cell? ⟨w3.heap.size, 3, none⟩ = some (.int .i64 l) ∧ w'.cell? ⟨w3.heap.size, 4, none⟩ = some (.slice (some ⟨w2.heap.size + 1 + 1 + 1, 0, none⟩) n n)) (first | go_keep | trivial) (first | (go_at_call 14; refine (toPacket_any _ _ _ _ _ _ _ zs _ (hS.below d4.drew (Nat.le_refl _)) d4.drew.size hn).mono ?_; rintro e w5 ⟨rfl, own5, b5⟩; have q0 := b5.cell (p := ⟨w.heap.size, 0, none⟩) (by show w.heap.size < w4.heap.size; omega); have q1 := b5.cell (p := ⟨w.heap.size, 1, none⟩) (by show w.heap.size < w4.heap.size; omega); have q2 := b5.cell (p := ⟨w.heap.size, 2, none⟩) (by show w.heap.size < w4.heap.size; omega); have q3 := b5.cell (p := ⟨w.heap.size, 3, none⟩) (by show w.heap.size < w4.heap.size; omega); have q4 := b5.cell (p := ⟨w.heap.size, 4, none⟩) (by show w.heap.size < w4.heap.size; omega); have r0 := b5.cell (p := ⟨w3.heap.size, 0, none⟩) (by show w3.heap.size < w4.heap.size; omega); have r1 := b5.cell (p := ⟨w3.heap.size, 1, none⟩) (by show w3.heap.size < w4.heap.size; omega); have r2 := b5.cell (p := ⟨w3.heap.size, 2, none⟩) (by show w3.heap.size < w4.heap.size; omega); have r3 := b5.cell (p := ⟨w3.heap.size, 3, none⟩) (by show w3.heap.size < w4.heap.size; omega); have r4 := b5.cell (p := ⟨w3.heap.size, 4, none⟩) (by show w3.heap.size < w4.heap.size; omega)) | (go_at_call 16; refine (eqPacket_yes _ _ _ _ _ _ _ _ _ zs _ (Sl.of_own (own_below (w := w4.drew) own4 b5)) (Sl.of_own own5) (Nat.le_refl _) (Nat.le_refl _) hn).mono ?_; rintro e w6 ⟨rfl, b6⟩; have y5 : w4.heap.size ≤ w5.heap.size := b5.size; have t0 := (b6.cell (p := ⟨w.heap.size, 0, none⟩) (by show w.heap.size < w5.heap.size; omega)).trans (q0.trans p0); have t1 := (b6.cell (p := ⟨w.heap.size, 1, none⟩) (by show w.heap.size < w5.heap.size; omega)).trans (q1.trans p1); have t2 := (b6.cell (p := ⟨w.heap.size, 2, none⟩) (by show w.heap.size < w5.heap.size; omega)).trans (q2.trans p2); have t3 := (b6.cell (p := ⟨w.heap.size, 3, none⟩) (by show w.heap.size < w5.heap.size; omega)).trans (q3.trans p3); have t4 := (b6.cell (p := ⟨w.heap.size, 4, none⟩) (by show w.heap.size < w5.heap.size; omega)).trans (q4.trans p4); have u0 := (b6.cell (p := ⟨w3.heap.size, 0, none⟩) (by show w3.heap.size < w5.heap.size; omega)).trans (r0.trans x0); have u1 := (b6.cell (p := ⟨w3.heap.size, 1, none⟩) (by show w3.heap.size < w5.heap.size; omega)).trans (r1.trans x1); have u2 := (b6.cell (p := ⟨w3.heap.size, 2, none⟩) (by show w3.heap.size < w5.heap.size; omega)).trans (r2.trans x2); have u3 := (b6.cell (p := ⟨w3.heap.size, 3, none⟩) (by show w3.heap.size < w5.heap.size; omega)).trans (r3.trans x3); have u4 := (b6.cell (p := ⟨w3.heap.size, 4, none⟩) (by show w3.heap.size < w5.heap.size; omega)).trans (r4.trans x4)))
    all_goals
      go_wp2_with fail
      go_ret
      exact ⟨rfl, (d4.drew.trans (b5.mono d4.size)).trans (b6.mono (Nat.le_trans d4.size b5.size))⟩
  · have hn1 : ((1048576 : Int) < (n : Int)) := by omega
    go_enter Try.func3, Try.ntmps3
    go_wp2_with fail
    refine (szPacket_any _ _ _ _ _ _ _ _ _ (by omega) (by omega) (by omega)).mono ?_
    rw [if_pos (by omega)]
    rintro e w0 ⟨rfl, b0⟩
    go_wp2_with fail
    go_ret
    exact ⟨rfl, e0.trans (b0.mono (by simp))⟩
end Go.Proofs.Ytleammkpfknngaa
