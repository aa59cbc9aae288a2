/-
  The walks of the drawn laws FnTakeTokens and FnBucketWait.
-/
import Derived.Test.YtjiebaidjflkjaaDrawTake
import Derived.Test.YtjiebaidjflkjaaBucketC
namespace Go.Proofs.Ytjiebaidjflkjaa
open Go.RowKit
set_option linter.unusedVariables false

theorem take_facts (r m h l now many : Int) : takeS r m h l now many = ((0, 0, 0, 0), false, false) ∨
    ∃ (X : Int) (ok : Bool), takeS r m h l now many = ((r, m, X, now), ok, true) ∧ bucketV r m X now = true ∧ (ok = true ∨ X < many) ∧ takeS r m X now now 0 = ((r, m, X, now), true, true) ∧ 1 ≤ r ∧ 0 ≤ X ∧ 0 ≤ many ∧ many ≤ 10000 ∧ 0 ≤ now ∧ now ≤ 100000 := by
  by_cases hv : takeOk r m h l now many = true
  · right
    have hb := take_bd hv
    obtain ⟨h1, h2, h3⟩ := takeOk_iff.1 hv
    obtain ⟨g1, g2, g3, g4⟩ := bucketV_iff.1 h1
    have key : ∀ X : Int, 0 ≤ X → X ≤ m → takeS r m X now now 0 = ((r, m, X, now), true, true) ∧ bucketV r m X now = true := by
      intro X h0 hX
      have hbv : bucketV r m X now = true := bucketV_iff.2 ⟨g1, g2, ⟨h0, hX⟩, by omega, by omega⟩
      have hk : takeOk r m X now now 0 = true := takeOk_iff.2 ⟨hbv, ⟨by omega, by omega⟩, by omega, by omega⟩
      refine ⟨?_, hbv⟩
      rw [takeS_given hk (x := X) (by rw [show now - now = 0 from by omega, Int.mul_zero]; omega) (by omega), Int.sub_zero]
    obtain ⟨x, hx⟩ : ∃ x, min m (h + r * (now - l)) = x := ⟨_, rfl⟩
    by_cases hl : x < many
    · obtain ⟨k1, k2⟩ := key x (by omega) (by omega)
      exact ⟨x, false, takeS_few hv hx hl, k2, .inr hl, k1, by omega, by omega, by omega, by omega, by omega, by omega⟩
    · obtain ⟨k1, k2⟩ := key (x - many) (by omega) (by omega)
      exact ⟨x - many, true, takeS_given hv hx hl, k2, .inl rfl, k1, by omega, by omega, by omega, by omega, by omega, by omega⟩
  · exact .inl (takeS_bad hv)
theorem take_wait {r m X now many : Int} (hv : bucketV r m X now = true) (h0 : 0 ≤ many) (h1 : many ≤ 10000) (hm : many ≤ m) (ht : now + many ≤ 100000) : ∃ Y, takeS r m X now (now + many) many = ((r, m, Y, now + many), true, true) := by
  obtain ⟨g1, g2, g3, g4⟩ := bucketV_iff.1 hv
  have hk : takeOk r m X now (now + many) many = true := takeOk_iff.2 ⟨hv, by omega, by omega, by omega⟩
  obtain ⟨x, hx⟩ : ∃ x, min m (X + r * (now + many - now)) = x := ⟨_, rfl⟩
  have hr : many ≤ r * (now + many - now) := by
    rw [show now + many - now = many from by omega]
    have := Int.mul_le_mul_of_nonneg_right (show 1 ≤ r by omega) h0
    omega
  exact ⟨x - many, takeS_given hk hx (by omega)⟩

set_option maxHeartbeats 1600000 in
theorem wFnTakeTokens (A : Option Addr) (n c : Nat) (zs : List Int) (w : World) (hs : Sl w 0 w.heap.size 1 A n (zs.map (Value.int .u8))) (hnc : n ≤ c) (hm : c ≤ maxLen) (hw : ∀ z ∈ zs, (Lit.int .u8 z).wf = true) :
    Calls Try.prog 10 #[.slice A n c] w fun e w' => e = .returned (.bool true) ∧ Below w.heap.size w w' := by
  unfold maxLen at hm
  have hz := AllByte.of_wf hw
  clear hw
  by_cases hn : n ≤ 1048576
  · have hn1 : ¬ ((1048576 : Int) < (n : Int)) := by omega
    go_enter Try.func10, Try.ntmps10
    go_wp2_with fail
    refine (drawTakeTokens_any _ _ _ zs _ hs hnc (by omega) hz).mono ?_
    rintro e w1 ⟨r, m, h, l, now, many, rfl, q1, q2, q3, q4, q5, q6, q7, q8, n0, n1, t0, t1, b1⟩
    have hz1 := b1.size
    have hf := take_facts r m h l now many
    rcases hf with hf | ⟨X, ok, hf, hbv, hok, hagain, hr1, hX0, hm0, hm1, hw0, hw1⟩
    · have HF := Lib.hid hf
      clear hf
      go_wp2_with fail
      refine (iTake_is HF.out _).mono ?_
      rintro e w2 ⟨rfl, b2⟩
      have K2 := (Blk.new w1 38 #[.int .i64 r, .int .i64 m, .int .i64 h, .int .i64 l]).below b2 (by simp)
      have z2 := b2.size
      simp only [World.size_alloc] at z2
      have y2 : w1.heap.size < w2.heap.size := by omega
      obtain ⟨c0, c1, c2, c3, _⟩ := K2.four
      go_wp2_with fail
      refine (sTake_is HF.out _).mono ?_
      rintro e w3 ⟨rfl, b3⟩
      have z3 := b3.size
      simp only [World.size_alloc] at z3
      have y3 : w2.heap.size < w3.heap.size := by omega
      have X3 := (Blk.new w2 38 #[.int .i64 0, .int .i64 0, .int .i64 0, .int .i64 0]).below b3 (by simp)
      clear c0 c1 c2 c3
      obtain ⟨c0, c1, c2, c3, _⟩ := X3.four
      go_wp2_with (go_at_call 20; refine (alive_any _).mono ?_; rintro e w4 ⟨rfl, b4⟩)
      go_ret
      have d2 := (b1.alloc b1.size (.cells #[.int .i64 r, .int .i64 m, .int .i64 h, .int .i64 l] 38)).trans (b2.mono (by simp; omega))
      have d3 := (d2.alloc d2.size (.cells #[.int .i64 0, .int .i64 0, .int .i64 0, .int .i64 0] 38)).trans (b3.mono (by simp; omega))
      have d4 := (d3.alloc d3.size (.cells #[.int .i64 0, .int .i64 0, .int .i64 0, .int .i64 0] 38)).trans (b4.mono (by simp; omega))
      exact ⟨rfl, d4⟩
    · have HF := Lib.hid hf
      have HA := Lib.hid hagain
      have HB := Lib.hid hbv
      clear hf hagain hbv
      have hr0 : (r == 0) = false := by simp; omega
      go_wp2_with fail
      refine (iTake_is HF.out _).mono ?_
      rintro e w2 ⟨rfl, b2⟩
      have K2 := (Blk.new w1 38 #[.int .i64 r, .int .i64 m, .int .i64 h, .int .i64 l]).below b2 (by simp)
      have z2 := b2.size
      simp only [World.size_alloc] at z2
      have y2 : w1.heap.size < w2.heap.size := by omega
      obtain ⟨c0, c1, c2, c3, _⟩ := K2.four
      go_wp2_with fail
      refine (sTake_is HF.out _).mono ?_
      rintro e w3 ⟨rfl, b3⟩
      have z3 := b3.size
      simp only [World.size_alloc] at z3
      have y3 : w2.heap.size < w3.heap.size := by omega
      have X3 := (Blk.new w2 38 #[.int .i64 r, .int .i64 m, .int .i64 X, .int .i64 now]).below b3 (by simp)
      have K3 := (K2.alloc (.cells #[.int .i64 r, .int .i64 m, .int .i64 X, .int .i64 now] 38)).below b3 (by simp; omega)
      clear c0 c1 c2 c3
      obtain ⟨c0, c1, c2, c3, _⟩ := X3.four
      go_wp2_with fail
      refine (iTake_is HA.out _).mono ?_
      rintro e w4 ⟨rfl, b4⟩
      have z4 := b4.size
      simp only [World.size_alloc] at z4
      have y4 : w3.heap.size < w4.heap.size := by omega
      have X4 := (X3.alloc (.cells #[.int .i64 r, .int .i64 m, .int .i64 X, .int .i64 now] 38)).below b4 (by simp; omega)
      clear c0 c1 c2 c3
      obtain ⟨c0, c1, c2, c3, _⟩ := X4.four
      have y24 : w2.heap.size < w4.heap.size := by omega
      have ne24 : ¬ w2.heap.size = w4.heap.size := by omega
      go_wp2_with fail
      refine (iBucketValid_at _ _ _ _ _).mono ?_
      rw [HB.out]
      rintro e w5 ⟨rfl, rfl⟩
      rcases ok
      · have hl : X < many := hok.resolve_left (by simp)
        have hl' : decide (X < many) = true := by simpa using hl
        go_wp2
        go_ret
        have d2 := (b1.alloc b1.size (.cells #[.int .i64 r, .int .i64 m, .int .i64 h, .int .i64 l] 38)).trans (b2.mono (by simp; omega))
        have d3 := (d2.alloc d2.size (.cells #[.int .i64 r, .int .i64 m, .int .i64 X, .int .i64 now] 38)).trans (b3.mono (by simp; omega))
        have d4 := (d3.alloc d3.size (.cells #[.int .i64 r, .int .i64 m, .int .i64 X, .int .i64 now] 38)).trans (b4.mono (by simp; omega))
        exact ⟨rfl, (d4.alloc d4.size _).alloc (by simp; omega) _⟩
      · go_wp2
        go_ret
        have d2 := (b1.alloc b1.size (.cells #[.int .i64 r, .int .i64 m, .int .i64 h, .int .i64 l] 38)).trans (b2.mono (by simp; omega))
        have d3 := (d2.alloc d2.size (.cells #[.int .i64 r, .int .i64 m, .int .i64 X, .int .i64 now] 38)).trans (b3.mono (by simp; omega))
        have d4 := (d3.alloc d3.size (.cells #[.int .i64 r, .int .i64 m, .int .i64 X, .int .i64 now] 38)).trans (b4.mono (by simp; omega))
        exact ⟨rfl, (d4.alloc d4.size _).alloc (by simp; omega) _⟩
  · have hn1 : (1048576 : Int) < (n : Int) := by omega
    go_enter Try.func10, Try.ntmps10
    go_wp2
    go_ret
    exact ⟨rfl, Below.refl _ _⟩

set_option maxHeartbeats 1600000 in
theorem wFnBucketWait (A : Option Addr) (n c : Nat) (zs : List Int) (w : World) (hs : Sl w 0 w.heap.size 1 A n (zs.map (Value.int .u8))) (hnc : n ≤ c) (hm : c ≤ maxLen) (hw : ∀ z ∈ zs, (Lit.int .u8 z).wf = true) :
    Calls Try.prog 11 #[.slice A n c] w fun e w' => e = .returned (.bool true) ∧ Below w.heap.size w w' := by
  unfold maxLen at hm
  have hz := AllByte.of_wf hw
  clear hw
  by_cases hn : n ≤ 1048576
  · have hn1 : ¬ ((1048576 : Int) < (n : Int)) := by omega
    go_enter Try.func11, Try.ntmps11
    go_wp2_with fail
    refine (drawTakeTokens_any _ _ _ zs _ hs hnc (by omega) hz).mono ?_
    rintro e w1 ⟨r, m, h, l, now, many, rfl, q1, q2, q3, q4, q5, q6, q7, q8, n0, n1, t0, t1, b1⟩
    have hz1 := b1.size
    have hf := take_facts r m h l now many
    rcases hf with hf | ⟨X, ok, hf, hbv, hok, hagain, hr1, hX0, hm0, hm1, hw0, hw1⟩
    · have HF := Lib.hid hf
      clear hf
      go_wp2_with fail
      refine (iTake_is HF.out _).mono ?_
      rintro e w2 ⟨rfl, b2⟩
      have K2 := (Blk.new w1 38 #[.int .i64 r, .int .i64 m, .int .i64 h, .int .i64 l]).below b2 (by simp)
      have z2 := b2.size
      simp only [World.size_alloc] at z2
      have y2 : w1.heap.size < w2.heap.size := by omega
      obtain ⟨c0, c1, c2, c3, _⟩ := K2.four
      go_wp2_with fail
      refine (sTake_is HF.out _).mono ?_
      rintro e w3 ⟨rfl, b3⟩
      have z3 := b3.size
      simp only [World.size_alloc] at z3
      have y3 : w2.heap.size < w3.heap.size := by omega
      have X3 := (Blk.new w2 38 #[.int .i64 0, .int .i64 0, .int .i64 0, .int .i64 0]).below b3 (by simp)
      clear c0 c1 c2 c3
      obtain ⟨c0, c1, c2, c3, _⟩ := X3.four
      go_wp2_with (go_at_call 20; refine (alive_any _).mono ?_; rintro e w4 ⟨rfl, b4⟩)
      go_ret
      have d2 := (b1.alloc b1.size (.cells #[.int .i64 r, .int .i64 m, .int .i64 h, .int .i64 l] 38)).trans (b2.mono (by simp; omega))
      have d3 := (d2.alloc d2.size (.cells #[.int .i64 0, .int .i64 0, .int .i64 0, .int .i64 0] 38)).trans (b3.mono (by simp; omega))
      have d4 := (d3.alloc d3.size (.cells #[.int .i64 0, .int .i64 0, .int .i64 0, .int .i64 0] 38)).trans (b4.mono (by simp; omega))
      exact ⟨rfl, d4⟩
    · have HF := Lib.hid hf
      have HB := Lib.hid hbv
      clear hf hagain
      have hr0 : (r == 0) = false := by simp; omega
      go_wp2_with fail
      refine (iTake_is HF.out _).mono ?_
      rintro e w2 ⟨rfl, b2⟩
      have K2 := (Blk.new w1 38 #[.int .i64 r, .int .i64 m, .int .i64 h, .int .i64 l]).below b2 (by simp)
      have z2 := b2.size
      simp only [World.size_alloc] at z2
      have y2 : w1.heap.size < w2.heap.size := by omega
      obtain ⟨c0, c1, c2, c3, _⟩ := K2.four
      go_wp2_with fail
      refine (sTake_is HF.out _).mono ?_
      rintro e w3 ⟨rfl, b3⟩
      have z3 := b3.size
      simp only [World.size_alloc] at z3
      have y3 : w2.heap.size < w3.heap.size := by omega
      have X3 := (Blk.new w2 38 #[.int .i64 r, .int .i64 m, .int .i64 X, .int .i64 now]).below b3 (by simp)
      have K3 := (K2.alloc (.cells #[.int .i64 r, .int .i64 m, .int .i64 X, .int .i64 now] 38)).below b3 (by simp; omega)
      clear c0 c1 c2 c3
      obtain ⟨c0, c1, c2, c3, _⟩ := X3.four
      obtain ⟨k0, k1, k2, k3, _⟩ := K3.four
      have y13 : w1.heap.size < w3.heap.size := by omega
      have ne13 : ¬ w1.heap.size = w3.heap.size := by omega
      rcases ok
      · by_cases hgt : m < many
        · have hgt' : decide (many > m) = true := by simpa using hgt
          go_wp2_with (go_at_call 20; refine (alive_any _).mono ?_; rintro e w4 ⟨rfl, b4⟩)
          all_goals
            go_ret
            have d2 := (b1.alloc b1.size (.cells #[.int .i64 r, .int .i64 m, .int .i64 h, .int .i64 l] 38)).trans (b2.mono (by simp; omega))
            have d3 := (d2.alloc d2.size (.cells #[.int .i64 r, .int .i64 m, .int .i64 X, .int .i64 now] 38)).trans (b3.mono (by simp; omega))
            have d4 := (d3.alloc d3.size (.cells #[.int .i64 r, .int .i64 m, .int .i64 X, .int .i64 now] 38)).trans (b4.mono (by simp; omega))
            exact ⟨rfl, d4⟩
        · have hgt' : decide (many > m) = false := by simp; omega
          by_cases ht : 100000 < now + many
          · have ht' : decide (now + many > 100000) = true := by simpa using ht
            go_wp2_with (go_at_call 20; refine (alive_any _).mono ?_; rintro e w4 ⟨rfl, b4⟩)
            all_goals
              go_ret
              have d2 := (b1.alloc b1.size (.cells #[.int .i64 r, .int .i64 m, .int .i64 h, .int .i64 l] 38)).trans (b2.mono (by simp; omega))
              have d3 := (d2.alloc d2.size (.cells #[.int .i64 r, .int .i64 m, .int .i64 X, .int .i64 now] 38)).trans (b3.mono (by simp; omega))
              have d4 := (d3.alloc d3.size (.cells #[.int .i64 r, .int .i64 m, .int .i64 X, .int .i64 now] 38)).trans (b4.mono (by simp; omega))
              exact ⟨rfl, d4⟩
          · have ht' : decide (now + many > 100000) = false := by simp; omega
            obtain ⟨Y, hY⟩ := take_wait hbv hm0 hm1 (by omega) (by omega)
            have HY := Lib.hid hY
            clear hY
            go_wp2_with fail
            refine (iTake_is HY.out _).mono ?_
            rintro e w4 ⟨rfl, b4⟩
            go_wp2
            go_ret
            have d2 := (b1.alloc b1.size (.cells #[.int .i64 r, .int .i64 m, .int .i64 h, .int .i64 l] 38)).trans (b2.mono (by simp; omega))
            have d3 := (d2.alloc d2.size (.cells #[.int .i64 r, .int .i64 m, .int .i64 X, .int .i64 now] 38)).trans (b3.mono (by simp; omega))
            have d4 := (d3.alloc d3.size (.cells #[.int .i64 r, .int .i64 m, .int .i64 X, .int .i64 now] 38)).trans (b4.mono (by simp; omega))
            exact ⟨rfl, d4.alloc d4.size _⟩
      · go_wp2_with (go_at_call 20; refine (alive_any _).mono ?_; rintro e w4 ⟨rfl, b4⟩)
        all_goals
          go_ret
          have d2 := (b1.alloc b1.size (.cells #[.int .i64 r, .int .i64 m, .int .i64 h, .int .i64 l] 38)).trans (b2.mono (by simp; omega))
          have d3 := (d2.alloc d2.size (.cells #[.int .i64 r, .int .i64 m, .int .i64 X, .int .i64 now] 38)).trans (b3.mono (by simp; omega))
          have d4 := (d3.alloc d3.size (.cells #[.int .i64 r, .int .i64 m, .int .i64 X, .int .i64 now] 38)).trans (b4.mono (by simp; omega))
          exact ⟨rfl, d4⟩
  · have hn1 : (1048576 : Int) < (n : Int) := by omega
    go_enter Try.func11, Try.ntmps11
    go_wp2
    go_ret
    exact ⟨rfl, Below.refl _ _⟩
end Go.Proofs.Ytjiebaidjflkjaa
