/-
  The walks of the drawn laws FnStayOf and FnStreamStep.
-/
import Derived.Test.YtahpnlnplngafaaDrawA
namespace Go.Proofs.Ytahpnlnplngafaa
open Go.RowKit
set_option linter.unusedVariables false

theorem stayS_out {s : Int} (h : ¬ (0 ≤ s ∧ s ≤ 3)) : stayS s = -1 := by
  unfold stayS
  rw [if_neg (by omega), if_neg (by omega), if_neg (by omega), if_neg (by omega)]
theorem sStay_any (s : Int) (w : World) : Calls Try.prog 24 #[.int .i64 s] w fun e w' => e = .returned (.int .i64 (stayS s)) ∧ Below w.heap.size w w' := by
  by_cases hv : 0 ≤ s ∧ s ≤ 3
  · have hs : s = 0 ∨ s = 1 ∨ s = 2 ∨ s = 3 := by omega
    clear hv
    rcases hs with rfl | rfl | rfl | rfl
    all_goals
      go_enter Try.func24, Try.ntmps24
      go_wp2_with (go_at_call 39; refine (l1In_any _ _ _ _).mono ?_; rw [inB_true (by omega)]; rintro e w' ⟨rfl, rfl⟩)
      go_ret
      exact ⟨ret_int (by decide), by first | exact Below.refl _ _ | exact (Below.refl _ _).alloc (Nat.le_refl _) _⟩
  · have HE := Lib.hid (stayS_out hv)
    have hf := inB_false hv
    clear hv
    go_enter Try.func24, Try.ntmps24
    go_wp2_with (go_at_call 39; refine (l1In_any _ _ _ _).mono ?_; rw [hf]; rintro e w' ⟨rfl, rfl⟩)
    go_ret
    exact ⟨ret_int HE.out.symm, by first | exact Below.refl _ _ | exact (Below.refl _ _).alloc (Nat.le_refl _) _⟩

theorem iStay_any (s : Int) (w : World) : Calls Try.prog 23 #[.int .i64 s] w fun e w' => e = .returned (.int .i64 (stayS s)) ∧ Below w.heap.size w w' := by
  by_cases hv : 0 ≤ s ∧ s ≤ 3
  · have hs : s = 0 ∨ s = 1 ∨ s = 2 ∨ s = 3 := by omega
    clear hv
    rcases hs with rfl | rfl | rfl | rfl
    all_goals
      go_enter Try.func23, Try.ntmps23
      go_wp2_with (go_at_call 40; refine (in_any _ _ _ _).mono ?_; rw [inB_true (by omega)]; rintro e w' ⟨rfl, rfl⟩)
      go_ret
      exact ⟨ret_int (by decide), by first | exact Below.refl _ _ | exact (Below.refl _ _).alloc (Nat.le_refl _) _⟩
  · have HE := Lib.hid (stayS_out hv)
    have hf := inB_false hv
    clear hv
    go_enter Try.func23, Try.ntmps23
    go_wp2_with (go_at_call 40; refine (in_any _ _ _ _).mono ?_; rw [hf]; rintro e w' ⟨rfl, rfl⟩)
    go_ret
    exact ⟨ret_int HE.out.symm, by first | exact Below.refl _ _ | exact (Below.refl _ _).alloc (Nat.le_refl _) _⟩

set_option maxHeartbeats 800000 in
theorem wFnStayOf (A : Option Addr) (n c : Nat) (zs : List Int) (w : World) (hs : Sl w 0 w.heap.size 1 A n (zs.map (Value.int .u8))) (hnc : n ≤ c) (hm : c ≤ maxLen) (hw : ∀ z ∈ zs, (Lit.int .u8 z).wf = true) :
    Calls Try.prog 7 #[.slice A n c] w fun e w' => e = .returned (.bool true) ∧ Below w.heap.size w w' := by
  unfold maxLen at hm
  have hz := AllByte.of_wf hw
  clear hw
  by_cases hn : n ≤ 1048576
  · have hn1 : ¬ ((1048576 : Int) < (n : Int)) := by omega
    go_enter Try.func7, Try.ntmps7
    go_wp2_with fail
    refine (drawStayOf_any _ _ _ zs _ hs hnc (by omega) hz).mono ?_
    rintro e w1 ⟨s, h0, h1, rfl, b1⟩
    have hcase : s = -1 ∨ s = 0 ∨ s = 1 ∨ s = 2 ∨ s = 3 ∨ s = 4 := by omega
    clear h0 h1
    rcases hcase with rfl | rfl | rfl | rfl | rfl | rfl
    all_goals
      go_wp2_with fail
      refine (iStay_any _ _).mono ?_
      rintro e w2 ⟨rfl, b2⟩
      have b12 := b1.trans (b2.mono b1.size)
      clear b1 b2
      simp only [show stayS (-1) = -1 from by decide, show stayS 0 = 30 from by decide, show stayS 1 = 1000 from by decide, show stayS 2 = 60 from by decide, show stayS 3 = 10 from by decide, show stayS 4 = -1 from by decide]
      go_wp2_with fail
      refine (sStay_any _ _).mono ?_
      rintro e w3 ⟨rfl, b3⟩
      have b13 := b12.trans (b3.mono b12.size)
      clear b12 b3
      simp only [show stayS (-1) = -1 from by decide, show stayS 0 = 30 from by decide, show stayS 1 = 1000 from by decide, show stayS 2 = 60 from by decide, show stayS 3 = 10 from by decide, show stayS 4 = -1 from by decide]
      go_wp2_with (first | (go_at_call 18; refine (alive_any _).mono ?_; rintro e w4 ⟨rfl, b4⟩) | (go_at_call 23; refine (iStay_any _ _).mono ?_; simp only [show stayS 1 = 1000 from by decide]; rintro e w4 ⟨rfl, b4⟩; have b13 := b13.trans (b4.mono b13.size)))
      go_ret
      exact ⟨rfl, by first | exact b13.trans (b4.mono b13.size) | exact b13⟩
  · have hn1 : (1048576 : Int) < (n : Int) := by omega
    go_enter Try.func7, Try.ntmps7
    go_wp2
    go_ret
    exact ⟨rfl, Below.refl _ _⟩

theorem stepS_facts (s k : Int) : (stepS s k < 0 → stepS s k = -1) ∧ (0 ≤ stepS s k → stepS s k ≤ 3 ∧ (stepS s k = 0 → s = 0) ∧ (k = 4 → s = 0 ∨ stepS s k = 3)) := by
  by_cases hv : 0 ≤ s ∧ s ≤ 3 ∧ 1 ≤ k ∧ k ≤ 4
  · have hs : s = 0 ∨ s = 1 ∨ s = 2 ∨ s = 3 := by omega
    have hk : k = 1 ∨ k = 2 ∨ k = 3 ∨ k = 4 := by omega
    clear hv
    rcases hs with rfl | rfl | rfl | rfl <;> rcases hk with rfl | rfl | rfl | rfl <;> decide
  · rw [stepS_neg s k hv]
    exact ⟨fun _ => rfl, fun h => absurd h (by decide)⟩

set_option maxHeartbeats 800000 in
theorem wFnStreamStep (A : Option Addr) (n c : Nat) (zs : List Int) (w : World) (hs : Sl w 0 w.heap.size 1 A n (zs.map (Value.int .u8))) (hnc : n ≤ c) (hm : c ≤ maxLen) (hw : ∀ z ∈ zs, (Lit.int .u8 z).wf = true) :
    Calls Try.prog 6 #[.slice A n c] w fun e w' => e = .returned (.bool true) ∧ Below w.heap.size w w' := by
  unfold maxLen at hm
  have hz := AllByte.of_wf hw
  clear hw
  by_cases hn : n ≤ 1048576
  · have hn1 : ¬ ((1048576 : Int) < (n : Int)) := by omega
    go_enter Try.func6, Try.ntmps6
    go_wp2_with fail
    refine (drawStreamStep_any _ _ _ zs _ hs hnc (by omega) hz).mono ?_
    rintro e w1 ⟨s, k, h0, h1, h2, h3, rfl, b1⟩
    obtain ⟨f1, f2⟩ := stepS_facts s k
    obtain ⟨x, hx⟩ : ∃ x, stepS s k = x := ⟨_, rfl⟩
    rw [hx] at f1 f2
    have HX := Lib.hid hx
    clear hx
    by_cases hneg : x < 0
    · obtain rfl : x = -1 := f1 hneg
      clear f1 f2 hneg
      go_wp2_with (first | (go_at_call 18; refine (alive_any _).mono ?_; rintro e w4 ⟨rfl, b4⟩) | (go_at_call 20; refine (iStep_any _ _ _).mono ?_; rw [HX.out]; rintro e w4 ⟨rfl, rfl⟩) | (go_at_call 19; refine (sStep_any _ _ _).mono ?_; rw [HX.out]; rintro e w4 ⟨rfl, rfl⟩))
      go_ret
      exact ⟨rfl, b1.trans (b4.mono b1.size)⟩
    · obtain ⟨g1, g2, g3⟩ := f2 (by omega)
      have G2 := Lib.hid g2
      have G3 := Lib.hid g3
      clear f1 f2 g2 g3
      go_wp2_with (first | (go_at_call 18; refine (alive_any _).mono ?_; rintro e w4 ⟨rfl, b4⟩) | (go_at_call 20; refine (iStep_any _ _ _).mono ?_; rw [HX.out]; rintro e w4 ⟨rfl, rfl⟩) | (go_at_call 19; refine (sStep_any _ _ _).mono ?_; rw [HX.out]; rintro e w4 ⟨rfl, rfl⟩))
      all_goals
        go_ret
        refine ⟨ret_bool ?_, b1⟩
        have g2 := G2.out
        have g3 := G3.out
        first | rfl | (exfalso; omega) | (simp; omega)
  · have hn1 : (1048576 : Int) < (n : Int) := by omega
    go_enter Try.func6, Try.ntmps6
    go_wp2
    go_ret
    exact ⟨rfl, Below.refl _ _⟩
end Go.Proofs.Ytahpnlnplngafaa
