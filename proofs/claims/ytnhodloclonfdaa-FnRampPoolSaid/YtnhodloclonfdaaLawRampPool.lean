/-
  The walk of the drawn law FnRampPool.
-/
import Derived.Test.YtnhodloclonfdaaDrawRampPool
import Derived.Test.YtnhodloclonfdaaRampPoolS
namespace Go.Proofs.Ytnhodloclonfdaa
open Go.RowKit
set_option linter.unusedVariables false

theorem rampW_le {a b c : Int} (ha : 1 ≤ a ∧ a ≤ 5) (hb : 0 ≤ b ∧ b ≤ 100000) (hc : 1 ≤ c ∧ c ≤ 100000) : 1 ≤ rampW a b c ∧ rampW a b c ≤ a := by
  have hok : rampOk a b c = true := by
    unfold rampOk
    rw [inB_true ha, inB_true hb, inB_true hc]
    rfl
  have e1 : rampW a b c = max 1 (a * min b c / c) := by unfold rampW; rw [if_pos hok]
  have e2 : a * min b c / c ≤ a * c / c := Int.ediv_le_ediv (by omega) (Int.mul_le_mul_of_nonneg_left (by omega) (by omega))
  rw [Int.mul_ediv_cancel _ (by omega)] at e2
  rw [e1]
  omega
theorem poolFrom_zip {now ramp : Int} (hnow : 0 ≤ now ∧ now ≤ 100000) (hr : 1 ≤ ramp ∧ ramp ≤ 100000) : ∀ (hs : List H3) (ss : List Int) (p : Int), poolFrom p hs = true → sinceOk ss now = true → ss.length = hs.length →
    poolFrom p (List.zipWith (rampHost now ramp) hs ss) = true ∧ ∀ k, k < hs.length → (hAt (List.zipWith (rampHost now ramp) hs ss) k).1 = (hAt hs k).1 ∧ (hAt (List.zipWith (rampHost now ramp) hs ss) k).2.2 = (hAt hs k).2.2 ∧ (hAt (List.zipWith (rampHost now ramp) hs ss) k).2.1 ≤ (hAt hs k).2.1
  | [], [], p, _, _, _ => ⟨rfl, fun k hk => by simp at hk⟩
  | [], _ :: _, p, _, _, hl => by simp at hl
  | _ :: _, [], p, _, _, hl => by simp at hl
  | h :: r, s :: ss, p, hp, hs, hl => by
    rw [poolFrom, Bool.and_eq_true] at hp
    unfold sinceOk at hs
    rw [List.all_cons, Bool.and_eq_true] at hs
    obtain ⟨i1, i2⟩ := poolFrom_zip hnow hr r ss h.1 hp.2 hs.2 (by simpa using hl)
    have hsb := inB_iff.1 hs.1
    have ho := hp.1
    unfold hostOk at ho
    simp only [Bool.and_eq_true, decide_eq_true_eq] at ho
    have hw := inB_iff.1 ho.1.2
    have hww := rampW_le hw (b := now - s) (by omega) hr
    refine ⟨?_, ?_⟩
    · rw [List.zipWith_cons_cons, poolFrom, Bool.and_eq_true]
      refine ⟨?_, i1⟩
      unfold hostOk rampHost
      simp only [Bool.and_eq_true, decide_eq_true_eq]
      exact ⟨⟨ho.1.1, inB_true (by omega)⟩, ho.2⟩
    · intro k hk
      cases k with
      | zero => exact ⟨rfl, rfl, hww.2⟩
      | succ k =>
        have := i2 k (by simpa using hk)
        rw [List.zipWith_cons_cons]
        have e1 : ∀ (x : H3) (l : List H3), hAt (x :: l) (k + 1) = hAt l k := fun x l => by simp [hAt]
        rw [e1, e1]
        exact this
theorem rampP_facts (hs : List H3) (ss : List Int) (now ramp : Int) : rampP hs ss now ramp = [] ∨ ((rampP hs ss now ramp).length = hs.length ∧ poolV (rampP hs ss now ramp) = true ∧
    ∀ k, k < hs.length → (hAt (rampP hs ss now ramp) k).1 = (hAt hs k).1 ∧ (hAt (rampP hs ss now ramp) k).2.2 = (hAt hs k).2.2 ∧ (hAt (rampP hs ss now ramp) k).2.1 ≤ (hAt hs k).2.1) := by
  by_cases h : rampPOk hs ss now ramp = true
  · by_cases h2 : sinceOk ss now = true
    · right
      rw [rampP_good h h2]
      unfold rampPOk at h
      simp only [Bool.and_eq_true, decide_eq_true_eq] at h
      obtain ⟨⟨⟨a1, a2⟩, a3⟩, a4⟩ := h
      have hp := a1
      unfold poolV at a1
      simp only [Bool.and_eq_true, decide_eq_true_eq] at a1
      obtain ⟨z1, z2⟩ := poolFrom_zip (inB_iff.1 a3) (inB_iff.1 a4) hs ss (-1) a1.1 h2 a2
      refine ⟨by simp; omega, ?_, z2⟩
      unfold poolV
      simp only [Bool.and_eq_true, decide_eq_true_eq]
      exact ⟨z1, by simp; omega⟩
    · left
      unfold rampP
      rw [h, Bool.eq_false_iff.2 h2]
      rfl
  · exact .inl (rampP_bad (Bool.eq_false_iff.2 h))

set_option maxHeartbeats 1600000 in
theorem samePool_yes (A A' : Option Addr) (n c c' : Nat) (hs : List H3) (w : World) {lo hi lo' hi' : Nat} (hS : Sl w lo hi 3 A n (hostsV hs)) (hS' : Sl w lo' hi' 3 A' n (hostsV hs)) (hhi : hi ≤ w.heap.size) (hhi' : hi' ≤ w.heap.size) (hn : n ≤ 1048576) :
    Calls Try.prog 36 #[.slice A n c, .slice A' n c'] w fun e w' => e = .returned (.bool true) ∧ Below w.heap.size w w' := by
  go_enter Try.func36, Try.ntmps36
  go_wp2
  go_loopw [5] (fun i wr => ∃ k : Nat, k ≤ n ∧ i = .int .i64 k ∧ Below w.heap.size w wr) (fun i _ => n - (intOf i).toNat)
  case atStart => exact ⟨0, Nat.zero_le _, rfl, Below.refl _ _⟩
  case round =>
    obtain ⟨k, hk, rfl, hb⟩ := hrel
    by_cases hlt : k < n
    · obtain ⟨b, off, rfl, _, hbh, c0, c1, c2⟩ := (hS.below hb hhi).host hlt
      obtain ⟨b', off', rfl, _, hbh', c0', c1', c2'⟩ := (hS'.below hb hhi').host hlt
      obtain ⟨⟨h0, h1, h2⟩, hh⟩ : ∃ p, hAt hs k = p := ⟨_, rfl⟩
      rw [hh] at c0 c1 c2 c0' c1' c2'
      clear hh
      have hki : (0 : Int) ≤ (k : Int) := by omega
      have hki2 : (k : Int) < (n : Int) := by omega
      go_wp2
      go_quiet (fail)
      go_wp2
      go_roundw
      case rel => exact ⟨k + 1, by omega, by go_num, below_drewN hb _⟩
      case measure => simp [intOf]; omega
    · obtain rfl : n = k := by omega
      go_wp2
      go_ret
      exact ⟨rfl, hb⟩

set_option maxHeartbeats 1600000 in
theorem wFnRampPool (A : Option Addr) (n c : Nat) (zs : List Int) (w : World) (hs : Sl w 0 w.heap.size 1 A n (zs.map (Value.int .u8))) (hnc : n ≤ c) (hm : c ≤ maxLen) (hw : ∀ z ∈ zs, (Lit.int .u8 z).wf = true) :
    Calls Try.prog 10 #[.slice A n c] w fun e w' => e = .returned (.bool true) ∧ Below w.heap.size w w' := by
  unfold maxLen at hm
  have hz := AllByte.of_wf hw
  clear hw
  by_cases hn : n ≤ 1048576
  · have hn1 : ¬ ((1048576 : Int) < (n : Int)) := by omega
    go_enter Try.func10, Try.ntmps10
    go_wp2_with fail
    refine (drawRampPool_any _ _ _ zs _ hs hnc (by omega) hz).mono ?_
    rintro e w1 ⟨B, k, kc, ps, B', k', kc', ss, now, ramp, rfl, h1, h2, h3, h4, h5, h6, sP, sS, b1⟩
    unfold maxLen at h3 h6
    have hf := rampP_facts ps ss now ramp
    have hP := sP.hlen
    obtain ⟨xs, hxs⟩ : ∃ xs, rampP ps ss now ramp = xs := ⟨_, rfl⟩
    have HX := Lib.hid hxs
    rw [hxs] at hf
    clear hxs
    go_wp2_with fail
    refine (iRampPool_any _ _ _ ps _ _ _ ss _ _ _ sP sS (Nat.le_refl _) (Nat.le_refl _) (by omega) (by omega)).mono ?_
    rw [HX.out]
    intro e w2 ho
    obtain ⟨X, xc, rfl, own2, b2⟩ := ho.form
    have sX := Sl.of_own own2
    have sP2 := sP.below b2 (Nat.le_refl _)
    have sS2 := sS.below b2 (Nat.le_refl _)
    have d2 := b1.trans (b2.mono b1.size)
    have z2 := b2.size
    go_wp2_with fail
    refine (sRampPool_any _ _ _ ps _ _ _ ss _ _ _ sP2 sS2 z2 z2 (by omega) (by omega)).mono ?_
    rw [HX.out]
    intro e w3 ho3
    obtain ⟨Y, yc, rfl, own3, b3⟩ := ho3.form
    have sX3 := sX.below b3 (Nat.le_refl _)
    have sP3 := sP2.below b3 z2
    have d3 := d2.trans (b3.mono d2.size)
    have z3 := b3.size
    clear ho ho3
    have hxl : xs.length ≤ 8 := by
      rcases hf with rfl | ⟨hf, _⟩
      · simp
      · omega
    go_wp2_with fail
    refine (samePool_yes _ _ _ _ _ xs _ sX3 (Sl.of_own own3) (by omega) (Nat.le_refl _) (by omega)).mono ?_
    rintro e w4 ⟨rfl, b4⟩
    have sX4 := sX3.below b4 (by omega)
    have sP4 := sP3.below b4 (by omega)
    have d4 := d3.trans (b4.mono d3.size)
    have z4 := b4.size
    rcases hf with rfl | ⟨f1, f2, f3⟩
    · go_wp2_with (go_at_call 16; refine (alive_any _).mono ?_; rintro e w5 ⟨rfl, b5⟩)
      go_ret
      exact ⟨rfl, d4.trans (b5.mono d4.size)⟩
    · obtain ⟨m, hm'⟩ : ∃ m, xs.length = m := ⟨_, rfl⟩
      have hmk : m = k := by omega
      rw [hm'] at sX4 hxl ⊢
      subst hmk
      by_cases hk0 : m = 0
      · subst hk0
        go_wp2_with (go_at_call 16; refine (alive_any _).mono ?_; rintro e w5 ⟨rfl, b5⟩)
        go_ret
        exact ⟨rfl, d4.trans (b5.mono d4.size)⟩
      · have hk1 : ((m : Int) == 0) = false := by simp; omega
        go_wp2_with fail
        go_loopw [8] (fun i wr => ∃ j : Nat, j ≤ m ∧ i = .int .i64 j ∧ Below w4.heap.size w4 wr) (fun i _ => m - (intOf i).toNat)
        case atStart => exact ⟨0, Nat.zero_le _, rfl, Below.refl _ _⟩
        case round =>
          obtain ⟨j, hj, rfl, hb⟩ := hrel
          by_cases hlt : j < m
          · obtain ⟨b, off, rfl, _, _, c0, c1, c2⟩ := (sX4.below hb (by omega)).host hlt
            obtain ⟨b', off', rfl, _, _, c0', c1', c2'⟩ := (sP4.below hb (by omega)).host hlt
            obtain ⟨e1, e2, e3⟩ := f3 j (by omega)
            obtain ⟨⟨q0, q1, q2⟩, hq⟩ : ∃ p, hAt xs j = p := ⟨_, rfl⟩
            obtain ⟨⟨p0, p1, p2⟩, hp⟩ : ∃ p, hAt ps j = p := ⟨_, rfl⟩
            rw [hq] at c0 c1 c2 e1 e2 e3
            rw [hp] at c0' c1' c2' e1 e2 e3
            simp only at c0 c1 c2 c0' c1' c2' e1 e2 e3
            subst e1 e2
            have hji : (0 : Int) ≤ (j : Int) := by omega
            have hji2 : (j : Int) < (m : Int) := by omega
            have hle : ¬ p1 < q1 := by omega
            clear hq hp
            go_wp2
            go_quiet (fail)
            go_wp2
            go_roundw
            case rel => exact ⟨j + 1, by omega, by go_num, below_drewN hb _⟩
            case measure => simp [intOf]; omega
          · obtain rfl : m = j := by omega
            go_wp2_with (go_at_call 37; refine (iPoolValid_any _ _ _ xs _ (sX4.below hb (by omega)) (by have := hb.size; omega) (by omega)).mono ?_; rw [f2]; rintro e w5 ⟨rfl, b5⟩)
            go_ret
            exact ⟨rfl, (d4.trans (hb.mono d4.size)).trans (b5.mono (Nat.le_trans d4.size hb.size))⟩
  · go_enter Try.func10, Try.ntmps10
    go_wp2
    go_ret
    exact ⟨rfl, Below.refl _ _⟩
end Go.Proofs.Ytnhodloclonfdaa
