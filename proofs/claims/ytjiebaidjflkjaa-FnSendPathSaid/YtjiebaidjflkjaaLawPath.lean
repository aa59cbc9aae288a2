/-
  The walks of the drawn laws FnPathValid, FnSendPath, FnFindPathSize.
-/
import Derived.Test.YtjiebaidjflkjaaDrawPath
import Derived.Test.YtjiebaidjflkjaaPathC
namespace Go.Proofs.Ytjiebaidjflkjaa
open Go.RowKit
set_option linter.unusedVariables false

set_option maxHeartbeats 800000 in
theorem wFnPathValid (A : Option Addr) (n c : Nat) (zs : List Int) (w : World) (hs : Sl w 0 w.heap.size 1 A n (zs.map (Value.int .u8))) (hnc : n ≤ c) (hm : c ≤ maxLen) (hw : ∀ z ∈ zs, (Lit.int .u8 z).wf = true) :
    Calls Try.prog 4 #[.slice A n c] w fun e w' => e = .returned (.bool true) ∧ Below w.heap.size w w' := by
  unfold maxLen at hm
  have hz := AllByte.of_wf hw
  clear hw
  by_cases hn : n ≤ 1048576
  · have hn1 : ¬ ((1048576 : Int) < (n : Int)) := by omega
    go_enter Try.func4, Try.ntmps4
    go_wp2_with fail
    refine (drawPathValid_any _ _ _ zs _ hs hnc (by omega) hz).mono ?_
    rintro e w1 ⟨B, m, c', xs, rfl, hm11, hmc, hcm, hx, own, b1⟩
    unfold maxLen at hcm
    have HL := Lib.hid (Sl.of_own own).len
    have HN := Lib.hid pathV_nil
    obtain ⟨ok, hok⟩ : ∃ ok, pathV xs = ok := ⟨_, rfl⟩
    have HO := Lib.hid hok
    clear hok
    go_wp2_with fail
    refine (iPathValid_any _ _ _ xs _ (Sl.of_own own) (by omega)).mono ?_
    rw [HO.out]
    rintro e w2 ⟨rfl, rfl⟩
    go_wp2_with fail
    refine (sPathValid_any _ _ _ xs _ (Sl.of_own own) (by omega)).mono ?_
    rw [HO.out]
    rintro e w2 ⟨rfl, rfl⟩
    rcases ok
    · go_wp2_with fail
      refine (iPathValid_any none 0 0 [] _ (lo := 0) (hi := 0) Sl.nil_ (by omega)).mono ?_
      rw [HN.out]
      rintro e w2 ⟨rfl, rfl⟩
      go_wp2_with (go_at_call 20; refine (alive_any _).mono ?_; rintro e w4 ⟨rfl, b4⟩)
      go_ret
      exact ⟨rfl, b1.trans (b4.mono b1.size)⟩
    · have hlen := pathV_len HO.out
      rw [HL.out] at hlen
      by_cases h1 : m = 1
      · subst h1
        go_wp2_with fail
        refine (iPathValid_any none 0 0 [] _ (lo := 0) (hi := 0) Sl.nil_ (by omega)).mono ?_
        rw [HN.out]
        rintro e w2 ⟨rfl, rfl⟩
        go_wp2_with (go_at_call 20; refine (alive_any _).mono ?_; rintro e w4 ⟨rfl, b4⟩)
        go_ret
        exact ⟨rfl, b1.trans (b4.mono b1.size)⟩
      · have HT := Lib.hid (pathV_tail HO.out (by rw [HL.out]; omega))
        obtain ⟨q, cap, hq, hcap, hq1, hq2⟩ := own_slice own (by omega)
        cases hq
        have hcut := (Sl.of_own own).cut (k := 1) (by omega) hcap
        rw [if_neg (by omega)] at hcut
        simp only [Option.map, Addr.add, Nat.one_mul, Nat.zero_add, ← List.map_drop] at hcut
        have hne1 : ((m : Int) == 1) = false := by simp; omega
        have hc1 : ¬ c' = 1 := by omega
        have hm1 : (1 : Int) ≤ m := by omega
        have hc2 : (m : Int) ≤ c' := by omega
        go_wp2_with fail
        refine (iPathValid_any none 0 0 [] _ (lo := 0) (hi := 0) Sl.nil_ (by omega)).mono ?_
        rw [HN.out]
        rintro e w2 ⟨rfl, rfl⟩
        go_wp2_with fail
        refine (iPathValid_any _ _ _ (xs.drop 1) _ hcut (by omega)).mono ?_
        rw [HT.out]
        rintro e w2 ⟨rfl, rfl⟩
        go_wp2_with (go_at_call 20; refine (alive_any _).mono ?_; rintro e w4 ⟨rfl, b4⟩)
        go_ret
        exact ⟨rfl, b1.trans (b4.mono b1.size)⟩
  · have hn1 : (1048576 : Int) < (n : Int) := by omega
    go_enter Try.func4, Try.ntmps4
    go_wp2
    go_ret
    exact ⟨rfl, Below.refl _ _⟩

set_option maxHeartbeats 800000 in
theorem wFnSendPath (A : Option Addr) (n c : Nat) (zs : List Int) (w : World) (hs : Sl w 0 w.heap.size 1 A n (zs.map (Value.int .u8))) (hnc : n ≤ c) (hm : c ≤ maxLen) (hw : ∀ z ∈ zs, (Lit.int .u8 z).wf = true) :
    Calls Try.prog 6 #[.slice A n c] w fun e w' => e = .returned (.bool true) ∧ Below w.heap.size w w' := by
  unfold maxLen at hm
  have hz := AllByte.of_wf hw
  clear hw
  by_cases hn : n ≤ 1048576
  · have hn1 : ¬ ((1048576 : Int) < (n : Int)) := by omega
    go_enter Try.func6, Try.ntmps6
    go_wp2_with fail
    refine (drawSendPath_any _ _ _ zs _ hs hnc (by omega) hz).mono ?_
    rintro e w1 ⟨B, m, c', xs, s, rfl, hm11, hmc, hcm, hx, s0, s1, own, b1⟩
    unfold maxLen at hcm
    have hf := sendS_facts xs s
    obtain ⟨x, hxe⟩ : ∃ x, sendS xs s = x := ⟨_, rfl⟩
    rw [hxe] at hf
    have HX := Lib.hid hxe
    clear hxe
    go_wp2_with fail
    refine (iSend_any _ _ _ xs s _ (Sl.of_own own) (by omega)).mono ?_
    rw [HX.out]
    rintro e w2 ⟨rfl, rfl⟩
    go_wp2_with fail
    refine (sSend_any _ _ _ xs s _ (Sl.of_own own) (by omega)).mono ?_
    rw [HX.out]
    rintro e w2 ⟨rfl, rfl⟩
    rcases hf with rfl | ⟨h0, rfl, h2⟩ | ⟨h0, h2⟩
    · go_wp2_with (go_at_call 20; refine (alive_any _).mono ?_; rintro e w4 ⟨rfl, b4⟩)
      go_ret
      exact ⟨rfl, b1.trans (b4.mono b1.size)⟩
    · by_cases hs0 : s = 0
      · subst hs0
        clear h2
        go_wp2
        go_ret
        exact ⟨rfl, b1⟩
      · have HS := Lib.hid (h2.resolve_left hs0)
        have hs0' : (s == 0) = false := by simp; omega
        clear h2
        go_wp2_with fail
        refine (iSend_any _ _ _ xs (s - 1) _ (Sl.of_own own) (by omega)).mono ?_
        rw [HS.out]
        rintro e w2 ⟨rfl, rfl⟩
        go_wp2
        go_ret
        exact ⟨rfl, b1⟩
    · have e2 : (x == -2) = false := by simp; omega
      have e1 : (x == -1) = false := by simp; omega
      have e3 : decide (x < s) = true := by simpa using h2
      go_wp2
      all_goals
        go_ret
        first | exact ⟨rfl, b1⟩ | exact ⟨ret_bool (by simp; omega), b1⟩
  · have hn1 : (1048576 : Int) < (n : Int) := by omega
    go_enter Try.func6, Try.ntmps6
    go_wp2
    go_ret
    exact ⟨rfl, Below.refl _ _⟩

set_option maxHeartbeats 800000 in
theorem wFnFindPathSize (A : Option Addr) (n c : Nat) (zs : List Int) (w : World) (hs : Sl w 0 w.heap.size 1 A n (zs.map (Value.int .u8))) (hnc : n ≤ c) (hm : c ≤ maxLen) (hw : ∀ z ∈ zs, (Lit.int .u8 z).wf = true) :
    Calls Try.prog 8 #[.slice A n c] w fun e w' => e = .returned (.bool true) ∧ Below w.heap.size w w' := by
  unfold maxLen at hm
  have hz := AllByte.of_wf hw
  clear hw
  by_cases hn : n ≤ 1048576
  · have hn1 : ¬ ((1048576 : Int) < (n : Int)) := by omega
    go_enter Try.func8, Try.ntmps8
    go_wp2_with fail
    refine (drawFindPathSize_any _ _ _ zs _ hs hnc (by omega) hz).mono ?_
    rintro e w1 ⟨B, m, c', xs, s, rfl, hm11, hmc, hcm, hx, s0, s1, own, b1⟩
    unfold maxLen at hcm
    have HL := Lib.hid (Sl.of_own own).len
    have hf := findS_facts xs s
    obtain ⟨⟨x, v⟩, hxe⟩ : ∃ x, findS xs s = x := ⟨_, rfl⟩
    rw [hxe] at hf
    have HX := Lib.hid hxe
    clear hxe
    go_wp2_with fail
    refine (iFind_any _ _ _ xs s _ (Sl.of_own own) (by omega)).mono ?_
    rw [HX.out]
    rintro e w2 ⟨rfl, rfl⟩
    go_wp2_with fail
    refine (sFind_any _ _ _ xs s _ (Sl.of_own own) (by omega)).mono ?_
    rw [HX.out]
    rintro e w2 ⟨rfl, rfl⟩
    rcases hf with hf | ⟨h0, h1, h2, h3⟩
    · cases hf
      go_wp2_with (go_at_call 20; refine (alive_any _).mono ?_; rintro e w4 ⟨rfl, b4⟩)
      go_ret
      exact ⟨rfl, b1.trans (b4.mono b1.size)⟩
    · replace h0 : 0 ≤ x := h0
      replace h1 : x = leastL s xs := h1
      replace h2 : v ≤ xs.length := h2
      replace h3 : sendS xs x = -1 := h3
      rw [HL.out] at h2
      have H1 := Lib.hid h1
      have H3 := Lib.hid h3
      clear h1 h3
      go_wp2_with fail
      go_loop [9, 10] (fun l i => ∃ k : Nat, k ≤ m ∧ i = .int .i64 k ∧ l = .int .i64 (leastL s (xs.take k))) (fun _ i => m - (intOf i).toNat)
      case atStart => exact ⟨0, Nat.zero_le _, rfl, rfl⟩
      case round =>
        obtain ⟨k, hk, rfl, rfl⟩ := hrel
        by_cases hlt : k < m
        · obtain ⟨b, off, rfl, _, _, hc⟩ := (Sl.of_own own).num hlt
          have hst := leastL_step xs s k (by rw [HL.out]; exact hlt)
          obtain ⟨y, hy⟩ : ∃ y, xs[k]?.getD 0 = y := ⟨_, rfl⟩
          obtain ⟨l, hl⟩ : ∃ l, leastL s (xs.take k) = l := ⟨_, rfl⟩
          rw [hy] at hc hst
          rw [hl] at hst ⊢
          have HS := Lib.hid hst
          clear hy hl hst
          by_cases hyl : y < l
          · have HE := Lib.hid (show min l y = y from by omega)
            go_wp2
            go_round
            case rel => exact ⟨k + 1, by omega, by go_num, by rw [HS.out, HE.out]⟩
            case measure => simp [intOf]; omega
          · have HE := Lib.hid (show min l y = l from by omega)
            go_wp2
            go_round
            case rel => exact ⟨k + 1, by omega, by go_num, by rw [HS.out, HE.out]⟩
            case measure => simp [intOf]; omega
        · obtain rfl : m = k := by omega
          have hE : leastL s (xs.take m) = x := by rw [List.take_of_length_le (by rw [HL.out]; exact Nat.le_refl _), H1.out]
          rw [hE]
          clear hE
          have h2' : decide (v ≤ (m : Int)) = true := by simpa using h2
          go_wp2_with (go_at_call 22; refine (iSend_any _ _ _ xs x _ (Sl.of_own own) (by omega)).mono ?_; rw [H3.out]; rintro e w2 ⟨rfl, rfl⟩)
          go_ret
          exact ⟨rfl, b1⟩
  · have hn1 : (1048576 : Int) < (n : Int) := by omega
    go_enter Try.func8, Try.ntmps8
    go_wp2
    go_ret
    exact ⟨rfl, Below.refl _ _⟩
end Go.Proofs.Ytjiebaidjflkjaa
