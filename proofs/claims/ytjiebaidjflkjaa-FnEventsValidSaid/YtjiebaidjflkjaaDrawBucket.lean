/-
  l20Bucket: a bucket drawn by a reader.
-/
import Derived.Test.YtjiebaidjflkjaaDraw0
namespace Go.Proofs.Ytjiebaidjflkjaa
open Go.RowKit
set_option linter.unusedVariables false

/-- A draw hands back a bucket. -/
def DrewBucket (W : World) (g P : Nat) (e : Ending) (w' : World) : Prop :=
  ∃ r m h l : Int, e = .returned (.agg #[.int .i64 r, .int .i64 m, .int .i64 h, .int .i64 l]) ∧ 0 ≤ r ∧ r ≤ 1001 ∧ 1 ≤ m ∧ m ≤ 10001 ∧ -1 ≤ h ∧ h ≤ 257 ∧ -1 ≤ l ∧ l ≤ 100001 ∧ Dw W g P w'

theorem Blk.picked {w w' : World} {g k : Nat} {t : TypeId} {cs : Array Value} (h : Blk w k t cs) (hg : w.grownBy w' (some g)) (hk : g < k) : Blk w' k t cs := h.grown hg (fun e => by cases e; omega)

theorem Dw.setCell {W w : World} {g P : Nat} (h : Dw W g P w) {p : Addr} (hp : W.heap.size ≤ p.block) (u : Value) : Dw W g P (w.setCell p u) :=
  h.below ((Below.refl W.heap.size w).setCell hp u) (Nat.le_refl _)
theorem Blk.setFour {w : World} {g : Nat} {t : TypeId} {a b c d : Value} (h : Blk w g t #[a, b, c, d]) (x0 x1 x2 x3 : Value) :
    Blk ((((w.setCell ⟨g, 0, none⟩ x0).setCell ⟨g, 1, none⟩ x1).setCell ⟨g, 2, none⟩ x2).setCell ⟨g, 3, none⟩ x3) g t #[x0, x1, x2, x3] := (((h.set_ 0 x0).set_ 1 x1).set_ 2 x2).set_ 3 x3
theorem Dw.setFour {W w : World} {g P k : Nat} (h : Dw W g P w) (hk : W.heap.size ≤ k) (x0 x1 x2 x3 : Value) :
    Dw W g P ((((w.setCell ⟨k, 0, none⟩ x0).setCell ⟨k, 1, none⟩ x1).setCell ⟨k, 2, none⟩ x2).setCell ⟨k, 3, none⟩ x3) := (((h.setCell hk x0).setCell hk x1).setCell hk x2).setCell hk x3

set_option maxHeartbeats 1600000 in
theorem bucket_any (g P : Nat) (n : Int) (w : World) (h : Rd w g P) (hP : P ≤ 100000000) (hn : 0 ≤ n) (hn' : n ≤ 1000) :
    Calls Try.prog 48 #[.pointer (some ⟨g, 0, none⟩), .int .i64 n] w (DrewBucket w g (P + 7)) := by
  have D := Dw.start h
  have hlt := D.lt
  go_enter Try.func48, Try.ntmps48
  go_wp2_with fail
  have D0 := D.alloc (.cells #[.int .i64 0, .int .i64 0, .int .i64 0, .int .i64 0] 38)
  have K0 := Blk.new w 38 #[.int .i64 0, .int .i64 0, .int .i64 0, .int .i64 0]
  refine (pick_any _ _ _ _ D0.rd (by omega) (by omega) (by omega)).mono ?_
  rintro e w1 ⟨v1, a1, b1, rfl, hr1, hg1⟩
  have D1 := D0.picked hr1 hg1
  have K1 := K0.picked hg1 hlt
  clear D0 K0 hr1 hg1
  go_wp2_with fail
  refine (pick_any _ _ _ _ D1.rd (by omega) (by omega) (by omega)).mono ?_
  rintro e w2 ⟨v2, a2, b2, rfl, hr2, hg2⟩
  have D2 := D1.picked hr2 hg2
  have K2 := K1.picked hg2 hlt
  clear D1 K1 hr2 hg2
  go_wp2_with fail
  refine (pick_any _ _ _ _ D2.rd (by omega) (by omega) (by omega)).mono ?_
  rintro e w3 ⟨v3, a3, b3, rfl, hr3, hg3⟩
  have D3 := D2.picked hr3 hg3
  have K3 := K2.picked hg3 hlt
  clear D2 K2 hr3 hg3
  go_wp2_with fail
  refine (pick_any _ _ _ _ D3.rd (by omega) (by omega) (by omega)).mono ?_
  rintro e w4 ⟨v4, a4, b4, rfl, hr4, hg4⟩
  have D4 := D3.picked hr4 hg4
  have K4 := K3.picked hg4 hlt
  clear D3 K3 hr4 hg4
  go_wp2_with fail
  have D5 := D4.alloc (.cells #[.int .i64 (1 + v2), .int .i64 (1 + v1), .int .i64 v3, .int .i64 v4] 38)
  have K5 := K4.alloc (.cells #[.int .i64 (1 + v2), .int .i64 (1 + v1), .int .i64 v3, .int .i64 v4] 38)
  have Q5 := Blk.new w4 38 #[.int .i64 (1 + v2), .int .i64 (1 + v1), .int .i64 v3, .int .i64 v4]
  have hq0 := D4.size_
  have hq1 := K4.lt
  obtain ⟨q, hq⟩ : ∃ q, w4.heap.size = q := ⟨_, rfl⟩
  rw [hq] at Q5 hq0 hq1 ⊢
  refine (odd_any _ _ _ _ D5.rd (by omega) (by omega) (by omega)).mono ?_
  rintro e w5 ⟨b, rfl, hr5, hg5⟩
  have D6 := D5.picked hr5 hg5
  have K6 := K5.picked hg5 hlt
  have Q6 := Q5.picked hg5 (by omega)
  have hqr : ¬ w.heap.size = q := by omega
  have hrq : ¬ q = w.heap.size := by omega
  clear D4 K4 D5 K5 Q5 hr5 hg5 hq D h
  rcases b
  · obtain ⟨c0, c1, c2, c3, cf⟩ := Q6.four
    obtain ⟨d0, d1, d2, d3, df⟩ := K6.four
    go_wp2
    have KE := K6.setFour (.int .i64 (1 + v2)) (.int .i64 (1 + v1)) (.int .i64 v3) (.int .i64 v4)
    have DE := D6.setFour (Nat.le_refl _) (.int .i64 (1 + v2)) (.int .i64 (1 + v1)) (.int .i64 v3) (.int .i64 v4)
    obtain ⟨x0, x1, x2, x3, _⟩ := KE.four
    clear c0 c1 c2 c3 cf d0 d1 d2 d3 df KE
    refine bodyPost_ret (v := .agg #[.int .i64 (1 + v2), .int .i64 (1 + v1), .int .i64 v3, .int .i64 v4]) ?_ rfl ⟨_, _, _, _, rfl, by omega, by omega, by omega, by omega, by omega, by omega, by omega, by omega, DE.more (by omega)⟩
    simp [results, Try.results48, go_sem, x0, x1, x2, x3]
  · go_wp2_with fail
    refine (pick_any _ _ _ _ D6.rd (by omega) (by omega) (by omega)).mono ?_
    rintro e w6 ⟨v, a6, b6, rfl, hr6, hg6⟩
    have D7 := D6.picked hr6 hg6
    have K7 := K6.picked hg6 hlt
    have Q7 := Q6.picked hg6 (by omega)
    clear D6 K6 Q6 hr6 hg6
    have hcase : v = 0 ∨ v = 1 ∨ v = 2 ∨ v = 3 := by omega
    clear a6 b6
    rcases hcase with rfl | rfl | rfl | rfl
    · go_wp2_with fail
      have D8 := D7.alloc (.cells #[.int .i64 0, .int .i64 1001] 3)
      have K8 := K7.alloc (.cells #[.int .i64 0, .int .i64 1001] 3)
      have Q8 := Q7.alloc (.cells #[.int .i64 0, .int .i64 1001] 3)
      have R8 := Blk.new w6 3 #[.int .i64 0, .int .i64 1001]
      have hs6 := D7.size_
      refine (pick_any _ _ _ _ D8.rd (by omega) (by omega) (by omega)).mono ?_
      rintro e w7 ⟨z, a7, b7, rfl, hr7, hg7⟩
      have D9 := D8.picked hr7 hg7
      have K9 := K8.picked hg7 hlt
      have Q9 := Q8.picked hg7 (by omega)
      have R9 := R8.picked hg7 (by omega)
      obtain ⟨i0, i1, _⟩ := R9.two
      obtain ⟨z', hz', z0, z1⟩ : ∃ z' : Int, w7.cell? ⟨w6.heap.size, z.toNat, none⟩ = some (.int .i64 z') ∧ 0 ≤ z' ∧ z' ≤ 1001 := by
        have hc : z = 0 ∨ z = 1 := by omega
        rcases hc with rfl | rfl
        · exact ⟨0, i0, by omega⟩
        · exact ⟨1001, i1, by omega⟩
      replace b7 : z < 2 := by omega
      clear D7 K7 Q7 D8 K8 Q8 R8 R9 hr7 hg7 i0 i1
      obtain ⟨c0, c1, c2, c3, cf⟩ := Q9.four
      obtain ⟨d0, d1, d2, d3, df⟩ := K9.four
      go_wp2
      have KE := (K9.far (p := ⟨q, 0, none⟩) hqr (.int .i64 z')).setFour (.int .i64 z') (.int .i64 (1 + v1)) (.int .i64 v3) (.int .i64 v4)
      have DE := (D9.setCell (p := ⟨q, 0, none⟩) hq0 (.int .i64 z')).setFour (Nat.le_refl _) (.int .i64 z') (.int .i64 (1 + v1)) (.int .i64 v3) (.int .i64 v4)
      obtain ⟨x0, x1, x2, x3, _⟩ := KE.four
      clear c0 c1 c2 c3 cf d0 d1 d2 d3 df KE
      refine bodyPost_ret (v := .agg #[.int .i64 z', .int .i64 (1 + v1), .int .i64 v3, .int .i64 v4]) ?_ rfl ⟨_, _, _, _, rfl, by omega, by omega, by omega, by omega, by omega, by omega, by omega, by omega, DE.more (by omega)⟩
      simp [results, Try.results48, go_sem, x0, x1, x2, x3]
    · go_wp2_with fail
      have D8 := D7.alloc (.cells #[.int .i64 (-1), .int .i64 (1 + v1 + 1)] 3)
      have K8 := K7.alloc (.cells #[.int .i64 (-1), .int .i64 (1 + v1 + 1)] 3)
      have Q8 := Q7.alloc (.cells #[.int .i64 (-1), .int .i64 (1 + v1 + 1)] 3)
      have R8 := Blk.new w6 3 #[.int .i64 (-1), .int .i64 (1 + v1 + 1)]
      have hs6 := D7.size_
      refine (pick_any _ _ _ _ D8.rd (by omega) (by omega) (by omega)).mono ?_
      rintro e w7 ⟨z, a7, b7, rfl, hr7, hg7⟩
      have D9 := D8.picked hr7 hg7
      have K9 := K8.picked hg7 hlt
      have Q9 := Q8.picked hg7 (by omega)
      have R9 := R8.picked hg7 (by omega)
      obtain ⟨i0, i1, _⟩ := R9.two
      obtain ⟨z', hz', z0, z1⟩ : ∃ z' : Int, w7.cell? ⟨w6.heap.size, z.toNat, none⟩ = some (.int .i64 z') ∧ -1 ≤ z' ∧ z' ≤ 257 := by
        have hc : z = 0 ∨ z = 1 := by omega
        rcases hc with rfl | rfl
        · exact ⟨(-1), i0, by omega⟩
        · exact ⟨(1 + v1 + 1), i1, by omega⟩
      replace b7 : z < 2 := by omega
      clear D7 K7 Q7 D8 K8 Q8 R8 R9 hr7 hg7 i0 i1
      obtain ⟨c0, c1, c2, c3, cf⟩ := Q9.four
      obtain ⟨d0, d1, d2, d3, df⟩ := K9.four
      go_wp2
      have KE := (K9.far (p := ⟨q, 2, none⟩) hqr (.int .i64 z')).setFour (.int .i64 (1 + v2)) (.int .i64 (1 + v1)) (.int .i64 z') (.int .i64 v4)
      have DE := (D9.setCell (p := ⟨q, 2, none⟩) hq0 (.int .i64 z')).setFour (Nat.le_refl _) (.int .i64 (1 + v2)) (.int .i64 (1 + v1)) (.int .i64 z') (.int .i64 v4)
      obtain ⟨x0, x1, x2, x3, _⟩ := KE.four
      clear c0 c1 c2 c3 cf d0 d1 d2 d3 df KE
      refine bodyPost_ret (v := .agg #[.int .i64 (1 + v2), .int .i64 (1 + v1), .int .i64 z', .int .i64 v4]) ?_ rfl ⟨_, _, _, _, rfl, by omega, by omega, by omega, by omega, by omega, by omega, by omega, by omega, DE.more (by omega)⟩
      simp [results, Try.results48, go_sem, x0, x1, x2, x3]
    · go_wp2_with fail
      have D8 := D7.alloc (.cells #[.int .i64 (-1), .int .i64 100001] 3)
      have K8 := K7.alloc (.cells #[.int .i64 (-1), .int .i64 100001] 3)
      have Q8 := Q7.alloc (.cells #[.int .i64 (-1), .int .i64 100001] 3)
      have R8 := Blk.new w6 3 #[.int .i64 (-1), .int .i64 100001]
      have hs6 := D7.size_
      refine (pick_any _ _ _ _ D8.rd (by omega) (by omega) (by omega)).mono ?_
      rintro e w7 ⟨z, a7, b7, rfl, hr7, hg7⟩
      have D9 := D8.picked hr7 hg7
      have K9 := K8.picked hg7 hlt
      have Q9 := Q8.picked hg7 (by omega)
      have R9 := R8.picked hg7 (by omega)
      obtain ⟨i0, i1, _⟩ := R9.two
      obtain ⟨z', hz', z0, z1⟩ : ∃ z' : Int, w7.cell? ⟨w6.heap.size, z.toNat, none⟩ = some (.int .i64 z') ∧ -1 ≤ z' ∧ z' ≤ 100001 := by
        have hc : z = 0 ∨ z = 1 := by omega
        rcases hc with rfl | rfl
        · exact ⟨(-1), i0, by omega⟩
        · exact ⟨100001, i1, by omega⟩
      replace b7 : z < 2 := by omega
      clear D7 K7 Q7 D8 K8 Q8 R8 R9 hr7 hg7 i0 i1
      obtain ⟨c0, c1, c2, c3, cf⟩ := Q9.four
      obtain ⟨d0, d1, d2, d3, df⟩ := K9.four
      go_wp2
      have KE := (K9.far (p := ⟨q, 3, none⟩) hqr (.int .i64 z')).setFour (.int .i64 (1 + v2)) (.int .i64 (1 + v1)) (.int .i64 v3) (.int .i64 z')
      have DE := (D9.setCell (p := ⟨q, 3, none⟩) hq0 (.int .i64 z')).setFour (Nat.le_refl _) (.int .i64 (1 + v2)) (.int .i64 (1 + v1)) (.int .i64 v3) (.int .i64 z')
      obtain ⟨x0, x1, x2, x3, _⟩ := KE.four
      clear c0 c1 c2 c3 cf d0 d1 d2 d3 df KE
      refine bodyPost_ret (v := .agg #[.int .i64 (1 + v2), .int .i64 (1 + v1), .int .i64 v3, .int .i64 z']) ?_ rfl ⟨_, _, _, _, rfl, by omega, by omega, by omega, by omega, by omega, by omega, by omega, by omega, DE.more (by omega)⟩
      simp [results, Try.results48, go_sem, x0, x1, x2, x3]
    · obtain ⟨c0, c1, c2, c3, cf⟩ := Q7.four
      obtain ⟨d0, d1, d2, d3, df⟩ := K7.four
      go_wp2
      have KE := (K7.far (p := ⟨q, 1, none⟩) hqr (.int .i64 10001)).setFour (.int .i64 (1 + v2)) (.int .i64 10001) (.int .i64 v3) (.int .i64 v4)
      have DE := (D7.setCell (p := ⟨q, 1, none⟩) hq0 (.int .i64 10001)).setFour (Nat.le_refl _) (.int .i64 (1 + v2)) (.int .i64 10001) (.int .i64 v3) (.int .i64 v4)
      obtain ⟨x0, x1, x2, x3, _⟩ := KE.four
      clear c0 c1 c2 c3 cf d0 d1 d2 d3 df KE
      refine bodyPost_ret (v := .agg #[.int .i64 (1 + v2), .int .i64 10001, .int .i64 v3, .int .i64 v4]) ?_ rfl ⟨_, _, _, _, rfl, by omega, by omega, by omega, by omega, by omega, by omega, by omega, by omega, DE.more (by omega)⟩
      simp [results, Try.results48, go_sem, x0, x1, x2, x3]
end Go.Proofs.Ytjiebaidjflkjaa
