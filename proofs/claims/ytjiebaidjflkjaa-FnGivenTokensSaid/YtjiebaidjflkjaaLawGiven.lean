/-
  The walk of the drawn law FnGivenTokens.
-/
import Derived.Test.YtjiebaidjflkjaaDrawGiven
import Derived.Test.YtjiebaidjflkjaaBucketD
namespace Go.Proofs.Ytjiebaidjflkjaa
open Go.RowKit
set_option linter.unusedVariables false

theorem given_bd {r m : Int} (hr : 1 ≤ r) : ∀ (ts qs : List Int) (h l s : Int), ts.length = qs.length → ts ≠ [] → givenFrom r m h l s ts qs = -1 ∨
    (s ≤ givenFrom r m h l s ts qs ∧ givenFrom r m h l s ts qs ≤ s + h + r * (ts[ts.length - 1]?.getD 0 - l) ∧ l ≤ ts[ts.length - 1]?.getD 0 ∧ ts[ts.length - 1]?.getD 0 ≤ 100000)
  | [], _, h, l, s, _, hne => absurd rfl hne
  | t :: ts, [], h, l, s, hl, _ => by simp at hl
  | t :: ts, a :: qs, h, l, s, hl, _ => by
    rw [givenFrom]
    by_cases hv : takeOk r m h l t a = true
    · obtain ⟨h1, h2, h3⟩ := takeOk_iff.1 hv
      obtain ⟨g1, g2, g3, g4⟩ := bucketV_iff.1 h1
      have hb := take_bd hv
      have key : ∃ (X : Int) (ok : Bool), takeS r m h l t a = ((r, m, X, t), ok, true) ∧ (if ok = true then s + a else s) + X ≤ s + h + r * (t - l) ∧ 0 ≤ X ∧ s ≤ (if ok = true then s + a else s) := by
        obtain ⟨x, hx⟩ : ∃ x, min m (h + r * (t - l)) = x := ⟨_, rfl⟩
        by_cases hq : x < a
        · exact ⟨x, false, takeS_few hv hx hq, by simp; omega, by omega, by simp⟩
        · exact ⟨x - a, true, takeS_given hv hx hq, by simp; omega, by omega, by simp; omega⟩
      obtain ⟨X, ok, hk, k1, k2, k3⟩ := key
      rw [hk]
      simp only [if_true]
      generalize (if ok = true then s + a else s) = s' at k1 k3 ⊢
      by_cases hts : ts = []
      · subst hts
        right
        rw [givenFrom]
        · simp
          omega
        · intro t' ts' a' qs' e; cases e
      · rcases given_bd hr ts qs X t s' (by simpa using hl) hts with hi | ⟨i1, i2, i3, i4⟩
        · exact .inl hi
        · right
          have hlast : (t :: ts)[(t :: ts).length - 1]?.getD 0 = ts[ts.length - 1]?.getD 0 := by
            have : 0 < ts.length := List.length_pos_iff.2 hts
            rw [show (t :: ts).length - 1 = (ts.length - 1) + 1 from by simp; omega, List.getElem?_cons_succ]
          rw [hlast]
          generalize ts[ts.length - 1]?.getD 0 = T at i2 i3 i4 ⊢
          have e1 : r * (T - l) = r * (T - t) + r * (t - l) := by rw [← Int.mul_add]; congr 1; omega
          exact ⟨by omega, by omega, by omega, i4⟩
    · rw [takeS_bad hv]
      left
      rfl
theorem given_facts (r m h l : Int) (ts qs : List Int) : givenS r m h l ts qs = -1 ∨ (0 ≤ givenS r m h l ts qs ∧ (ts = [] → givenS r m h l ts qs = 0) ∧
    (ts ≠ [] → givenS r m h l ts qs ≤ h + r * (ts[ts.length - 1]?.getD 0 - l) ∧ 0 ≤ r * (ts[ts.length - 1]?.getD 0 - l) ∧ r * (ts[ts.length - 1]?.getD 0 - l) ≤ 100000000 ∧ 0 ≤ ts[ts.length - 1]?.getD 0 - l ∧ ts[ts.length - 1]?.getD 0 - l ≤ 100000)) := by
  by_cases hv : givenOk r m h l ts qs = true
  · have HE : givenS r m h l ts qs = givenFrom r m h l 0 ts qs := by unfold givenS; rw [if_pos hv]
    rw [HE]
    unfold givenOk at hv
    simp only [Bool.and_eq_true, decide_eq_true_eq] at hv
    obtain ⟨⟨h1, h2⟩, h3⟩ := hv
    obtain ⟨g1, g2, g3, g4⟩ := bucketV_iff.1 h1
    by_cases hts : ts = []
    · subst hts
      right
      rw [givenFrom]
      · simp
      · intro t' ts' a' qs' e; cases e
    · rcases given_bd (m := m) g1.1 ts qs h l 0 h2 hts with hi | ⟨i1, i2, i3, i4⟩
      · exact .inl hi
      · right
        generalize ts[ts.length - 1]?.getD 0 = T at i2 i3 i4 ⊢
        refine ⟨i1, fun e => absurd e hts, fun _ => ⟨by omega, Int.mul_nonneg (by omega) (by omega), ?_, by omega, by omega⟩⟩
        have a1 : r * (T - l) ≤ 1000 * (T - l) := Int.mul_le_mul_of_nonneg_right g1.2 (by omega)
        omega
  · left
    unfold givenS
    rw [if_neg hv]

set_option maxHeartbeats 1600000 in
theorem wFnGivenTokens (A : Option Addr) (n c : Nat) (zs : List Int) (w : World) (hs : Sl w 0 w.heap.size 1 A n (zs.map (Value.int .u8))) (hnc : n ≤ c) (hm : c ≤ maxLen) (hw : ∀ z ∈ zs, (Lit.int .u8 z).wf = true) :
    Calls Try.prog 13 #[.slice A n c] w fun e w' => e = .returned (.bool true) ∧ Below w.heap.size w w' := by
  unfold maxLen at hm
  have hz := AllByte.of_wf hw
  clear hw
  by_cases hn : n ≤ 1048576
  · have hn1 : ¬ ((1048576 : Int) < (n : Int)) := by omega
    go_enter Try.func13, Try.ntmps13
    go_wp2_with fail
    refine (drawGivenTokens_any _ _ _ zs _ hs hnc (by omega) hz).mono ?_
    rintro e w1 ⟨r, m, h, l, B, k, kc, ts, B', k', kc', qs, rfl, q1, q2, q3, q4, q5, q6, q7, q8, hk, hkc, hkm, hk', hkc', hkm', ht, own, own', b1⟩
    unfold maxLen at hkm hkm'
    have hf := given_facts r m h l ts qs
    have hz1 := b1.size
    have s1 := Sl.of_own own
    have s1' := Sl.of_own own'
    have d2 := b1.alloc b1.size (.cells #[.int .i64 r, .int .i64 m, .int .i64 h, .int .i64 l] 38)
    obtain ⟨N, hN⟩ : ∃ N, givenS r m h l ts qs = N := ⟨_, rfl⟩
    have HN := Lib.hid hN
    rw [hN] at hf
    clear hN
    go_wp2_with fail
    refine (iGiven_any _ _ _ _ _ _ _ _ _ _ ts qs _ (s1.alloc (Nat.le_refl _) _) (s1'.alloc (Nat.le_refl _) _) (by simp) (by simp) (by omega) (by omega)).mono ?_
    rw [HN.out]
    rintro e w2 ⟨rfl, b2⟩
    have K2 := (Blk.new w1 38 #[.int .i64 r, .int .i64 m, .int .i64 h, .int .i64 l]).below b2 (by simp)
    have z2 := b2.size
    simp only [World.size_alloc] at z2
    have y2 : w1.heap.size < w2.heap.size := by omega
    obtain ⟨c0, c1, c2, c3, _⟩ := K2.four
    have s2 := (s1.alloc (Nat.le_refl _) (.cells #[.int .i64 r, .int .i64 m, .int .i64 h, .int .i64 l] 38)).below b2 (by simp)
    have s2' := (s1'.alloc (Nat.le_refl _) (.cells #[.int .i64 r, .int .i64 m, .int .i64 h, .int .i64 l] 38)).below b2 (by simp)
    have d3 := d2.trans (b2.mono (by simp; omega))
    go_wp2_with fail
    refine (sGiven_any _ _ _ _ _ _ _ _ _ _ ts qs _ s2 s2' (by omega) (by omega) (by omega) (by omega)).mono ?_
    rw [HN.out]
    rintro e w3 ⟨rfl, b3⟩
    have K3 := K2.below b3 (by omega)
    have s3 := s2.below b3 (by omega)
    have z3 := b3.size
    have y3 : w1.heap.size < w3.heap.size := by omega
    have d4 := d3.trans (b3.mono d3.size)
    have HL := s3.len
    clear c0 c1 c2 c3
    obtain ⟨c0, c1, c2, c3, cf⟩ := K3.four
    rcases hf with rfl | ⟨f1, f2, f3⟩
    · go_wp2_with (go_at_call 20; refine (alive_any _).mono ?_; rintro e w4 ⟨rfl, b4⟩)
      go_ret
      exact ⟨rfl, d4.trans (b4.mono d4.size)⟩
    · by_cases hk0 : k = 0
      · have hnil : ts = [] := List.length_eq_zero_iff.1 (by omega)
        obtain rfl := f2 hnil
        subst hk0
        go_wp2
        go_ret
        exact ⟨rfl, d4⟩
      · have hne : ts ≠ [] := fun e => by subst e; simp at HL; omega
        obtain ⟨g1, g2, g3, g4, g5⟩ := f3 hne
        obtain ⟨bk, off, rfl, hb1, hb2, hc⟩ := s3.num (i := k - 1) (by omega)
        rw [HL] at g1 g2 g3 g4 g5
        generalize ts[k - 1]?.getD 0 = T at hc g1 g2 g3 g4 g5
        have e1 : IntKind.i64.wrap ((k : Int) - 1) = (k : Int) - 1 := IntWalk.i64_in _ (by omega)
        have e2 : ((k : Int) - 1).toNat = k - 1 := by omega
        have hN0 : ¬ N < 0 := by omega
        have hk1 : ((k : Int) == 0) = false := by simp; omega
        go_wp2_with fail
        go_quiet (fail)
        go_wp2
        go_ret
        exact ⟨rfl, below_drewN d4 _⟩
  · go_enter Try.func13, Try.ntmps13
    go_wp2
    go_ret
    exact ⟨rfl, Below.refl _ _⟩
end Go.Proofs.Ytjiebaidjflkjaa
