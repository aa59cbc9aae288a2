/-
  The walk of the drawn law FnBucketValid.
-/
import Derived.Test.YtahpnlnplngafaaDrawBucket
import Derived.Test.YtahpnlnplngafaaBucketA
namespace Go.Proofs.Ytahpnlnplngafaa
open Go.RowKit
set_option linter.unusedVariables false

def DrawnBucket (W : World) (e : Ending) (w' : World) : Prop :=
  ∃ r m h l : Int, e = .returned (.agg #[.int .i64 r, .int .i64 m, .int .i64 h, .int .i64 l]) ∧ 0 ≤ r ∧ r ≤ 1001 ∧ 1 ≤ m ∧ m ≤ 10001 ∧ -1 ≤ h ∧ h ≤ 257 ∧ -1 ≤ l ∧ l ≤ 100001 ∧ Below W.heap.size W w'

theorem drawBucketValid_any (A : Option Addr) (n c : Nat) (zs : List Int) (w : World) (hs : Sl w 0 w.heap.size 1 A n (zs.map (Value.int .u8))) (hnc : n ≤ c) (hc : c ≤ 9223372036854775807) (hz : AllByte zs) :
    Calls Try.prog 38 #[.slice A n c] w (DrawnBucket w) := by
  have b0 := (Below.refl w.heap.size w).alloc (Nat.le_refl _) (.cells #[.int .i64 0, .int .i64 0, .int .i64 0, .int .i64 0] 46)
  have K0 := Blk.new w 46 #[.int .i64 0, .int .i64 0, .int .i64 0, .int .i64 0]
  go_enter Try.func38, Try.ntmps38
  go_wp2_with fail
  refine (open_any _ _ _ zs _ ((hs.alloc (Nat.le_refl _) _).more (Nat.le_refl _) (by simp)) hnc hc hz).mono ?_
  rintro e w1 ⟨g, hg, rfl, hr, b1⟩
  have K1 := K0.below b1 (by simp)
  have b01 := b0.trans (b1.mono (by simp))
  simp only [World.size_alloc] at hg
  clear K0 b0 b1
  go_wp2_with fail
  refine (bucket_any _ _ _ _ hr (by omega) (by omega) (by omega)).mono ?_
  rintro e w2 ⟨r, m, h, l, rfl, q1, q2, q3, q4, q5, q6, q7, q8, D⟩
  have K2 := K1.grown D.gr (by simp; omega)
  have b2 := D.out b01 (by omega)
  obtain ⟨d0, d1, d2, d3, df⟩ := K2.four
  clear K1 b01
  go_wp2
  have KE := K2.setFour (.int .i64 r) (.int .i64 m) (.int .i64 h) (.int .i64 l)
  obtain ⟨x0, x1, x2, x3, _⟩ := KE.four
  clear d0 d1 d2 d3 df KE
  refine bodyPost_ret (v := .agg #[.int .i64 r, .int .i64 m, .int .i64 h, .int .i64 l]) ?_ rfl ⟨_, _, _, _, rfl, q1, q2, q3, q4, q5, q6, q7, q8, (((b2.setCell (p := ⟨w.heap.size, 0, none⟩) (Nat.le_refl _) _).setCell (p := ⟨w.heap.size, 1, none⟩) (Nat.le_refl _) _).setCell (p := ⟨w.heap.size, 2, none⟩) (Nat.le_refl _) _).setCell (p := ⟨w.heap.size, 3, none⟩) (Nat.le_refl _) _⟩
  simp [results, Try.results38, go_sem, x0, x1, x2, x3]

set_option maxHeartbeats 800000 in
theorem wFnBucketValid (A : Option Addr) (n c : Nat) (zs : List Int) (w : World) (hs : Sl w 0 w.heap.size 1 A n (zs.map (Value.int .u8))) (hnc : n ≤ c) (hm : c ≤ maxLen) (hw : ∀ z ∈ zs, (Lit.int .u8 z).wf = true) :
    Calls Try.prog 14 #[.slice A n c] w fun e w' => e = .returned (.bool true) ∧ Below w.heap.size w w' := by
  unfold maxLen at hm
  have hz := AllByte.of_wf hw
  clear hw
  by_cases hn : n ≤ 1048576
  · have hn1 : ¬ ((1048576 : Int) < (n : Int)) := by omega
    go_enter Try.func14, Try.ntmps14
    go_wp2_with fail
    refine (drawBucketValid_any _ _ _ zs _ hs hnc (by omega) hz).mono ?_
    rintro e w1 ⟨r, m, h, l, rfl, q1, q2, q3, q4, q5, q6, q7, q8, b1⟩
    have hbad : bucketV r m (m + 1) l = false := by
      rw [Bool.eq_false_iff]; intro hh; have := bucketV_iff.1 hh; omega
    obtain ⟨ok, hok⟩ : ∃ ok, bucketV r m h l = ok := ⟨_, rfl⟩
    have hemp : ok = true → bucketV r m 0 l = true := by
      rintro rfl
      have := bucketV_iff.1 hok
      exact bucketV_iff.2 ⟨this.1, this.2.1, by omega, this.2.2.2⟩
    have HB := Lib.hid hbad
    have HO := Lib.hid hok
    clear hbad hok
    go_wp2_with fail
    refine (iBucketValid_at _ _ _ _ _).mono ?_
    rw [HO.out]
    rintro e w2 ⟨rfl, rfl⟩
    go_wp2_with fail
    refine (sBucketValid_at _ _ _ _ _).mono ?_
    rw [HO.out]
    rintro e w2 ⟨rfl, rfl⟩
    rcases ok
    · go_wp2_with fail
      refine (iBucketValid_at _ _ _ _ _).mono ?_
      rw [HB.out]
      rintro e w2 ⟨rfl, rfl⟩
      go_wp2_with (go_at_call 18; refine (alive_any _).mono ?_; rintro e w4 ⟨rfl, b4⟩)
      go_ret
      have hz1 := b1.size
      refine ⟨rfl, Below.trans (B := w.heap.size) ?_ (b4.mono ?_)⟩
      · repeat' first | exact b1 | refine Below.alloc ?_ (by first | omega | (simp; omega)) _ | refine Below.setCell ?_ (by first | omega | (simp; omega)) _
      · simp; omega
    · have HE := Lib.hid (hemp rfl)
      clear hemp
      go_wp2_with fail
      refine (iBucketValid_at _ _ _ _ _).mono ?_
      rw [HB.out]
      rintro e w2 ⟨rfl, rfl⟩
      go_wp2_with fail
      refine (iBucketValid_at _ _ _ _ _).mono ?_
      rw [HE.out]
      rintro e w2 ⟨rfl, rfl⟩
      go_wp2_with (go_at_call 18; refine (alive_any _).mono ?_; rintro e w4 ⟨rfl, b4⟩)
      go_ret
      have hz1 := b1.size
      refine ⟨rfl, Below.trans (B := w.heap.size) ?_ (b4.mono ?_)⟩
      · repeat' first | exact b1 | refine Below.alloc ?_ (by first | omega | (simp; omega)) _ | refine Below.setCell ?_ (by first | omega | (simp; omega)) _
      · simp; omega
  · have hn1 : (1048576 : Int) < (n : Int) := by omega
    go_enter Try.func14, Try.ntmps14
    go_wp2
    go_ret
    exact ⟨rfl, Below.refl _ _⟩
end Go.Proofs.Ytahpnlnplngafaa
