/-
  The walks of the drawn laws FnStreamRun and FnStreamClosed.
-/
import Derived.Test.YtahpnlnplngafaaDrawB
namespace Go.Proofs.Ytahpnlnplngafaa
open Go.RowKit
set_option linter.unusedVariables false

theorem runFrom_append (a b : List Int) : ∀ s, runFrom s (a ++ b) = if runFrom s a < 0 then runFrom s a else runFrom (runFrom s a) b := by
  induction a with
  | nil =>
    intro s
    show runFrom s b = if s < 0 then s else runFrom s b
    split
    · rename_i h; exact runFrom_neg s b h
    · rfl
  | cons k r ih =>
    intro s
    show runFrom s (k :: (r ++ b)) = _
    rw [runFrom, runFrom]
    by_cases h : s < 0
    · rw [if_pos h, if_pos h, if_pos h]
    · rw [if_neg h, if_neg h]; exact ih _
theorem runS_append {a b : List Int} (h : 0 ≤ runS a) (hl : (a ++ b).length ≤ 50) : runS (a ++ b) = runFrom (runS a) b := by
  have ha : a.length ≤ 50 := by simp at hl; omega
  rw [runS_short hl, runFrom_append]
  rw [runS_short ha] at h ⊢
  rw [if_neg (by omega)]
theorem runS_neg {a : List Int} (h : runS a < 0) : runS a = -1 := by
  by_cases ha : a.length ≤ 50
  · rw [runS_short ha] at h ⊢
    have := runFrom_bd a 0 (by omega) (by omega)
    omega
  · rw [runS_long (by omega)]
theorem runS_bd (a : List Int) : -1 ≤ runS a ∧ runS a ≤ 3 := by
  unfold runS
  split
  · omega
  · exact runFrom_bd a 0 (by omega) (by omega)
theorem run_closed (s : Int) (h0 : 0 ≤ s) (h1 : s ≤ 3) : runFrom s [1, 4, 1] = 1 := by
  have hs : s = 0 ∨ s = 1 ∨ s = 2 ∨ s = 3 := by omega
  rcases hs with rfl | rfl | rfl | rfl <;> decide
theorem run_one (s k : Int) (h0 : 0 ≤ s) : runFrom s [k] = stepS s k := by
  rw [runFrom, if_neg (by omega)]; rfl

set_option maxHeartbeats 800000 in
theorem wFnStreamClosed (A : Option Addr) (n c : Nat) (zs : List Int) (w : World) (hs : Sl w 0 w.heap.size 1 A n (zs.map (Value.int .u8))) (hnc : n ≤ c) (hm : c ≤ maxLen) (hw : ∀ z ∈ zs, (Lit.int .u8 z).wf = true) :
    Calls Try.prog 10 #[.slice A n c] w fun e w' => e = .returned (.bool true) ∧ Below w.heap.size w w' := by
  unfold maxLen at hm
  obtain ⟨i0, ti, tz, ts, tb⟩ := info_parts infoInt
  have hz := AllByte.of_wf hw
  clear hw
  by_cases hn : n ≤ 1048576
  · have hn1 : ¬ ((1048576 : Int) < (n : Int)) := by omega
    go_enter Try.func10, Try.ntmps10
    go_wp2_with fail
    refine (drawStreamRun_any _ _ _ zs _ hs hnc (by omega) hz).mono ?_
    rintro e w1 ⟨B, m, c', xs, rfl, hm51, hmc, hcm, hx, own, b1⟩
    unfold maxLen at hcm
    have HL := Lib.hid (Sl.of_own own).len
    obtain ⟨s, hse⟩ : ∃ s, runS xs = s := ⟨_, rfl⟩
    have hbd := runS_bd xs
    rw [hse] at hbd
    have HS := Lib.hid hse
    clear hse
    by_cases hneg : s < 0
    · go_wp2_with (first | (go_at_call 18; refine (alive_any _).mono ?_; rintro e w4 ⟨rfl, b4⟩) | (go_at_call 27; refine (iRun_any _ _ _ xs _ (Sl.of_own own) (by omega)).mono ?_; rw [HS.out]; rintro e w4 ⟨rfl, rfl⟩) | (go_at_call 25; refine (sRun_any _ _ _ xs _ (Sl.of_own own) (by omega)).mono ?_; rw [HS.out]; rintro e w4 ⟨rfl, rfl⟩))
      go_ret
      exact ⟨rfl, b1.trans (b4.mono b1.size)⟩
    · replace hneg : 0 ≤ s := by omega
      by_cases h47 : 47 < m
      · go_wp2_with (first | (go_at_call 18; refine (alive_any _).mono ?_; rintro e w4 ⟨rfl, b4⟩) | (go_at_call 27; refine (iRun_any _ _ _ xs _ (Sl.of_own own) (by omega)).mono ?_; rw [HS.out]; rintro e w4 ⟨rfl, rfl⟩) | (go_at_call 25; refine (sRun_any _ _ _ xs _ (Sl.of_own own) (by omega)).mono ?_; rw [HS.out]; rintro e w4 ⟨rfl, rfl⟩))
        all_goals
          go_ret
          exact ⟨rfl, b1.trans (b4.mono b1.size)⟩
      · replace h47 : (m : Int) ≤ 47 := by omega
        have own0 := World.ownsRow_lit (base := w1.heap.size) (e := 3) (size := 1) w1 #[] 0 (Nat.le_refl _) (by unfold maxLen; omega) (by simp)
        go_wp2_with fail
        refine (iRun_any _ _ _ xs _ (Sl.of_own own) (by omega)).mono ?_
        rw [HS.out]
        rintro e w4 ⟨rfl, rfl⟩
        go_wp2_with fail
        refine (sRun_any _ _ _ xs _ (Sl.of_own own) (by omega)).mono ?_
        rw [HS.out]
        rintro e w4 ⟨rfl, rfl⟩
        go_wp2_with (at_builtin; first | (refine wpList_append_sl _ rfl _ _ 35 rfl w1.heap.size 3 i0 _ 1 8 Try.underlying35 ti tz ts tb rfl (by decide) _ 0 _ (by rfl) own0 _ _ B m c' (xs.map (Value.int .i64)) rfl ((Sl.of_own own).alloc (Nat.le_refl _) _) (ints_one _ _) (by unfold maxLen; omega) (by omega) (by simp) ?_; intro v2 w2 own2 g2 at2) | (refine wpList_append_sl _ rfl _ _ 35 rfl w1.heap.size 3 i0 _ 1 8 Try.underlying35 ti tz ts tb rfl (by decide) _ (0 + m) _ (by rfl) (own2.alloc _) _ _ (some ⟨w2.heap.size, 0, none⟩) 3 3 [.int .i64 1, .int .i64 4, .int .i64 1] rfl (Sl.new #[.int .i64 1, .int .i64 4, .int .i64 1] 3 1 3 rfl) (fun u hu => ints_one .i64 [1, 4, 1] u hu) (by unfold maxLen; omega) (by omega) (by simp; have := g2.size; simp at this; omega) ?_; intro v3 w3 own3 g3 at3))
        · exfalso; omega
        · have b2 := ((Below.refl w1.heap.size w1).alloc (Nat.le_refl _) (.cells #[] 3))
          have b3 := below_append b2 own0 g2
          have b4 := below_append (b3.alloc b3.size (.cells #[.int .i64 1, .int .i64 4, .int .i64 1] 3)) (own2.alloc _) g3
          have b14 := b1.trans (b4.mono b1.size)
          rw [show (#[] : Array Value).toList ++ xs.map (Value.int .i64) ++ [.int .i64 1, .int .i64 4, .int .i64 1] = (xs ++ [1, 4, 1]).map (Value.int .i64) from by simp] at own3
          obtain ⟨A3, c3, rfl, hnc3, hmc3⟩ := own_is_slice own3
          clear own2 g2 at2 g3 at3 b2 b3 b4 own0
          refine (iRun_any _ _ _ (xs ++ [1, 4, 1]) _ (Sl.of_own own3) (by omega)).mono ?_
          have HE := Lib.hid (show runS (xs ++ [1, 4, 1]) = 1 from by rw [runS_append (by rw [HS.out]; omega) (by simp; rw [HL.out]; omega), HS.out]; exact run_closed s (by omega) (by omega))
          rw [HE.out]
          rintro e w4 ⟨rfl, rfl⟩
          go_wp2
          go_ret
          exact ⟨rfl, b14⟩
  · have hn1 : (1048576 : Int) < (n : Int) := by omega
    go_enter Try.func10, Try.ntmps10
    go_wp2
    go_ret
    exact ⟨rfl, Below.refl _ _⟩

set_option maxHeartbeats 800000 in
theorem wFnStreamRun (A : Option Addr) (n c : Nat) (zs : List Int) (w : World) (hs : Sl w 0 w.heap.size 1 A n (zs.map (Value.int .u8))) (hnc : n ≤ c) (hm : c ≤ maxLen) (hw : ∀ z ∈ zs, (Lit.int .u8 z).wf = true) :
    Calls Try.prog 9 #[.slice A n c] w fun e w' => e = .returned (.bool true) ∧ Below w.heap.size w w' := by
  unfold maxLen at hm
  obtain ⟨i0, ti, tz, ts, tb⟩ := info_parts infoInt
  have hz := AllByte.of_wf hw
  clear hw
  by_cases hn : n ≤ 1048576
  · have hn1 : ¬ ((1048576 : Int) < (n : Int)) := by omega
    go_enter Try.func9, Try.ntmps9
    go_wp2_with fail
    refine (drawStreamRun_any _ _ _ zs _ hs hnc (by omega) hz).mono ?_
    rintro e w1 ⟨B, m, c', xs, rfl, hm51, hmc, hcm, hx, own, b1⟩
    unfold maxLen at hcm
    have HL := Lib.hid (Sl.of_own own).len
    obtain ⟨s, hse⟩ : ∃ s, runS xs = s := ⟨_, rfl⟩
    have hbd := runS_bd xs
    rw [hse] at hbd
    have HS := Lib.hid hse
    clear hse
    by_cases hneg : s < 0
    · go_wp2_with (first | (go_at_call 18; refine (alive_any _).mono ?_; rintro e w4 ⟨rfl, b4⟩) | (go_at_call 27; refine (iRun_any _ _ _ xs _ (Sl.of_own own) (by omega)).mono ?_; rw [HS.out]; rintro e w4 ⟨rfl, rfl⟩) | (go_at_call 25; refine (sRun_any _ _ _ xs _ (Sl.of_own own) (by omega)).mono ?_; rw [HS.out]; rintro e w4 ⟨rfl, rfl⟩))
      go_ret
      exact ⟨rfl, b1.trans (b4.mono b1.size)⟩
    · replace hneg : 0 ≤ s := by omega
      by_cases h47 : 50 ≤ m
      · go_wp2_with (first | (go_at_call 18; refine (alive_any _).mono ?_; rintro e w4 ⟨rfl, b4⟩) | (go_at_call 27; refine (iRun_any _ _ _ xs _ (Sl.of_own own) (by omega)).mono ?_; rw [HS.out]; rintro e w4 ⟨rfl, rfl⟩) | (go_at_call 25; refine (sRun_any _ _ _ xs _ (Sl.of_own own) (by omega)).mono ?_; rw [HS.out]; rintro e w4 ⟨rfl, rfl⟩))
        all_goals
          go_ret
          exact ⟨rfl, b1.trans (b4.mono b1.size)⟩
      · replace h47 : (m : Int) < 50 := by omega
        have own0 := World.ownsRow_lit (base := w1.heap.size) (e := 3) (size := 1) w1 #[] 0 (Nat.le_refl _) (by unfold maxLen; omega) (by simp)
        go_wp2_with fail
        refine (iRun_any _ _ _ xs _ (Sl.of_own own) (by omega)).mono ?_
        rw [HS.out]
        rintro e w4 ⟨rfl, rfl⟩
        go_wp2_with fail
        refine (sRun_any _ _ _ xs _ (Sl.of_own own) (by omega)).mono ?_
        rw [HS.out]
        rintro e w4 ⟨rfl, rfl⟩
        go_wp2_with (at_builtin; first | (refine wpList_append_sl _ rfl _ _ 35 rfl w1.heap.size 3 i0 _ 1 8 Try.underlying35 ti tz ts tb rfl (by decide) _ 0 _ (by rfl) own0 _ _ B m c' (xs.map (Value.int .i64)) rfl ((Sl.of_own own).alloc (Nat.le_refl _) _) (ints_one _ _) (by unfold maxLen; omega) (by omega) (by simp) ?_; intro v2 w2 own2 g2 at2) | (refine wpList_append_sl _ rfl _ _ 35 rfl w1.heap.size 3 i0 _ 1 8 Try.underlying35 ti tz ts tb rfl (by decide) _ (0 + m) _ (by rfl) (own2.alloc _) _ _ (some ⟨w2.heap.size, 0, none⟩) 1 1 [.int .i64 3] rfl (Sl.new #[.int .i64 3] 3 1 1 rfl) (fun u hu => ints_one .i64 [3] u hu) (by unfold maxLen; omega) (by omega) (by simp; have := g2.size; simp at this; omega) ?_; intro v3 w3 own3 g3 at3))
        · exfalso; omega
        · have b2 := ((Below.refl w1.heap.size w1).alloc (Nat.le_refl _) (.cells #[] 3))
          have b3 := below_append b2 own0 g2
          have b4 := below_append (b3.alloc b3.size (.cells #[.int .i64 3] 3)) (own2.alloc _) g3
          have b14 := b1.trans (b4.mono b1.size)
          rw [show (#[] : Array Value).toList ++ xs.map (Value.int .i64) ++ [.int .i64 3] = (xs ++ [3]).map (Value.int .i64) from by simp] at own3
          obtain ⟨A3, c3, rfl, hnc3, hmc3⟩ := own_is_slice own3
          clear own2 g2 at2 g3 at3 b2 b3 b4 own0
          refine (iRun_any _ _ _ (xs ++ [3]) _ (Sl.of_own own3) (by omega)).mono ?_
          have HE := Lib.hid (show runS (xs ++ [3]) = stepS s 3 from by rw [runS_append (by rw [HS.out]; omega) (by simp; rw [HL.out]; omega), HS.out]; exact run_one s 3 (by omega))
          rw [HE.out]
          rintro e w4 ⟨rfl, rfl⟩
          go_wp2_with (go_at_call 20; refine (iStep_any _ _ _).mono ?_; rintro e w4 ⟨rfl, rfl⟩)
          go_ret
          exact ⟨rfl, b14⟩
  · have hn1 : (1048576 : Int) < (n : Int) := by omega
    go_enter Try.func9, Try.ntmps9
    go_wp2
    go_ret
    exact ⟨rfl, Below.refl _ _⟩
end Go.Proofs.Ytahpnlnplngafaa
