/-
  The walk of the drawn law FnSpreadOf.
-/
import Derived.Test.YtfobcggcilbgbaaSameI
import Derived.Test.YtfobcggcilbgbaaDrawHost
namespace Go.Proofs.Ytfobcggcilbgbaa
open Go.RowKit
set_option linter.unusedVariables false

set_option maxRecDepth 100000 in
set_option maxHeartbeats 3200000 in
theorem wFnSpreadOf (A : Option Addr) (n c : Nat) (zs : List Int) (w : World) (hs : Sl w 0 w.heap.size 1 A n (zs.map (Value.int .u8))) (hnc : n ≤ c) (hm : c ≤ maxLen) (hw : ∀ z ∈ zs, (Lit.int .u8 z).wf = true) :
    Calls Try.prog 10 #[.slice A n c] w fun e w' => e = .returned (.bool true) ∧ Below w.heap.size w w' := by
  unfold maxLen at hm
  have hz := AllByte.of_wf hw
  clear hw
  by_cases hn : n ≤ 1048576
  · have hn1 : ¬ ((1048576 : Int) < (n : Int)) := by omega
    go_enter Try.func10, Try.ntmps10
    go_wp2_with fail
    refine (drawSpreadOf_any _ _ _ zs _ hs hnc (by omega) hz).mono ?_
    rintro e w1 ⟨way, B, k, kc, ps, B2, n2, c2, ks, rfl, y0, y1, h1, h2, h3, g1, g2, g3, sP, sK, b1⟩
    unfold maxLen at h3 g3
    have hP := sP.hlen
    have hK := sK.len
    have HF := spread_law way ps ks (by rw [hK]; exact g1)
    rw [hP, hK] at HF
    have HPL := Lib.hid hP
    clear hP hK
    obtain ⟨xs, hxs⟩ : ∃ xs, spreadL way ps ks = xs := ⟨_, rfl⟩
    have HX := Lib.hid hxs
    rw [hxs] at HF
    clear hxs
    obtain ⟨m, hm'⟩ : ∃ m, xs.length = m := ⟨_, rfl⟩
    have hmk : xs = [] ∨ m = k := by
      rcases HF with h | ⟨_, h, _⟩
      · exact .inl h
      · right; omega
    go_wp2_with fail
    refine (iSpread_any _ _ _ _ ps _ _ _ ks _ sP sK (Nat.le_refl _) (Nat.le_refl _) (by omega) (by omega)).mono ?_
    rw [HX.out, hm']
    intro e w2 ho
    obtain ⟨X, xc, rfl, own2, b2⟩ := ho.form
    have sX := Sl.of_own own2
    have sP2 := sP.below b2 (Nat.le_refl _)
    have sK2 := sK.below b2 (Nat.le_refl _)
    have d2 := b1.trans (b2.mono b1.size)
    have z2 := b2.size
    clear ho own2
    go_wp2_with fail
    refine (sSpread_any _ _ _ _ ps _ _ _ ks _ sP2 sK2 z2 z2 (by omega) (by omega)).mono ?_
    rw [HX.out, hm']
    intro e w3 ho
    obtain ⟨Y, yc, rfl, own3, b3⟩ := ho.form
    have sX3 := sX.below b3 (Nat.le_refl _)
    have sP3 := sP2.below b3 z2
    have d3 := d2.trans (b3.mono d2.size)
    have z3 := Nat.le_trans z2 b3.size
    have y3 := b3.size
    clear ho sX sP sK sP2 sK2
    have hm8 : m ≤ 8 := by
      rcases hmk with h | h
      · rw [h] at hm'; simp at hm'; omega
      · omega
    go_wp2_with fail
    refine (sameInts_yes _ _ _ _ _ xs _ sX3 (Sl.of_own own3) y3 (Nat.le_refl _) (by omega)).mono ?_
    rintro e w4 ⟨rfl, b4⟩
    have sX4 := sX3.below b4 y3
    have sP4 := sP3.below b4 z3
    have d4 := d3.trans (b4.mono d3.size)
    have z4 := b4.size
    clear sX3 sP3 own3
    by_cases hm0 : m = 0
    · subst hm0
      go_wp2_with (go_at_call 17; refine (alive_any _).mono ?_; rintro e w5 ⟨rfl, b5⟩)
      go_ret
      exact ⟨rfl, d4.trans (b5.mono d4.size)⟩
    · obtain ⟨hv, he, hf, hsum⟩ := HF.resolve_left (fun e => hm0 (by rw [e] at hm'; simpa using hm'.symm))
      obtain rfl : m = k := by omega
      have hk1 : ((m : Int) == 0) = false := by simp; omega
      have HS := Lib.hid (fun (j : Nat) (h : j < xs.length) => sum_take h)
      have HM := Lib.hid hm'
      have HSUM := Lib.hid hsum
      clear hsum he hm' hmk HF
      go_wp2_with fail
      go_loopw [7, 8] (fun s i wr => ∃ (j : Nat) (t : Int), j ≤ m ∧ i = .int .i64 j ∧ s = .int .i64 t ∧ t = (xs.take j).sum ∧ 0 ≤ t ∧ t ≤ 7 * j ∧ Below w4.heap.size w4 wr) (fun _ i _ => m - (intOf i).toNat)
      case atStart => exact ⟨0, 0, Nat.zero_le _, rfl, rfl, by simp, by omega, by omega, Below.refl _ _⟩
      case round =>
        obtain ⟨j, t, hj, rfl, rfl, ht, ht0, ht1, hb⟩ := hrel
        have hbz := hb.size
        by_cases hlt : j < m
        · obtain ⟨b, off, rfl, _, _, c0⟩ := (sX4.below hb (by omega)).num hlt
          obtain ⟨b', off', rfl, _, _, e0, e1, e2⟩ := (sP4.below hb (by omega)).host hlt
          have HT := HS.out j (by rw [HM.out]; exact hlt)
          obtain ⟨f0, f1, f2⟩ := hf j hlt
          obtain ⟨v, hv'⟩ : ∃ v, xs[j]?.getD 0 = v := ⟨_, rfl⟩
          obtain ⟨q, hq⟩ : ∃ v, (hAt ps j).2.2 = v := ⟨_, rfl⟩
          rw [hv'] at c0 f0 f1 f2 HT
          rw [hq] at e2 f2
          rw [← ht] at HT
          have HTT := Lib.hid HT
          have hji : (0 : Int) ≤ (j : Int) := by omega
          have hji2 : (j : Int) < (m : Int) := by omega
          clear hv' hq HT ht e0 e1
          by_cases hq1 : q = 1
          · subst hq1
            go_wp2
            go_roundw
            case rel => exact ⟨j + 1, t + v, by omega, by go_num, rfl, HTT.out.symm, by omega, by push_cast; omega, hb⟩
            case measure => simp [intOf]; omega
          · obtain rfl : v = 0 := f2 hq1
            have hqb : (q != 1) = true := by simpa using hq1
            go_wp2
            go_roundw
            case rel => exact ⟨j + 1, t, by omega, by go_num, by congr 1 <;> omega, by rw [HTT.out]; omega, by omega, by push_cast; omega, hb⟩
            case measure => simp [intOf]; omega
        · obtain rfl : m = j := by omega
          have htt : t = xs.sum := by rw [ht, ← HM.out, List.take_length]
          have HU := HSUM.out
          rw [← htt] at HU
          clear ht htt
          obtain ⟨u, hu⟩ : ∃ u, (upNV ps).length = u := ⟨_, rfl⟩
          rw [hu] at HU
          rcases HU with ⟨rfl, rfl⟩ | ⟨hu0, rfl⟩
          · go_wp2_with (go_at_call 34; refine (iHostsUp_any _ _ _ ps _ (sP4.below hb (by omega)) (by omega) (by omega)).mono ?_; rw [hu]; intro e w5 ho; obtain ⟨U, uc, rfl, _, b5⟩ := ho.form; clear ho)
            go_ret
            exact ⟨rfl, (d4.trans (hb.mono d4.size)).trans (b5.mono (Nat.le_trans d4.size hbz))⟩
          · have hub : ((u : Int) == 0) = false := by simp; omega
            go_wp2_with (go_at_call 34; refine (iHostsUp_any _ _ _ ps _ (sP4.below hb (by omega)) (by omega) (by omega)).mono ?_; rw [hu]; intro e w5 ho; obtain ⟨U, uc, rfl, _, b5⟩ := ho.form; clear ho)
            go_ret
            exact ⟨rfl, (d4.trans (hb.mono d4.size)).trans (b5.mono (Nat.le_trans d4.size hbz))⟩
  · go_enter Try.func10, Try.ntmps10
    go_wp2
    go_ret
    exact ⟨rfl, Below.refl _ _⟩
end Go.Proofs.Ytfobcggcilbgbaa
