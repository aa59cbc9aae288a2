/-
  RampPool of the reference.
-/
import Derived.Test.YtnhodloclonfdaaRampPool
namespace Go.Proofs.Ytnhodloclonfdaa
open Go.RowKit
set_option linter.unusedVariables false

set_option maxHeartbeats 1600000 in
theorem sRampPool_any (A : Option Addr) (n c : Nat) (hs : List H3) (A' : Option Addr) (n' c' : Nat) (ss : List Int) (now ramp : Int) (w : World) {lo hi lo' hi' : Nat} (hS : Sl w lo hi 3 A n (hostsV hs)) (hS' : Sl w lo' hi' 1 A' n' (ss.map (Value.int .i64)))
    (hhi : hi ≤ w.heap.size) (hhi' : hi' ≤ w.heap.size) (hn : n ≤ 1048576) (hn' : n' ≤ 1048576) :
    Calls Try.prog 26 #[.slice A n c, .slice A' n' c', .int .i64 now, .int .i64 ramp] w (RetOwn w 57 3 (rampP hs ss now ramp).length (hostsV (rampP hs ss now ramp))) := by
  have HL := Lib.hid hS.hlen
  have HL' := Lib.hid hS'.len
  obtain ⟨i0, hi0, hz0, hz1, hz2⟩ := info_parts infoHost
  by_cases hv : rampPOk hs ss now ramp = true
  · have hv' := hv
    unfold rampPOk at hv'
    simp only [Bool.and_eq_true, decide_eq_true_eq] at hv'
    obtain ⟨⟨⟨v0, v1⟩, v2⟩, v3⟩ := hv'
    have HLL := Lib.hid v1
    rw [HL.out, HL'.out] at v1
    subst v1
    have d0 : ((n' : Int) != (n' : Int)) = false := by simp
    have HV := Lib.hid hv
    have b2 := inB_iff.1 v2
    clear hv
    go_enter Try.func26, Try.ntmps26
    go_wp2_with (first | (go_at_call 45; refine (sPoolValid_any _ _ _ hs _ (hS.alloc hhi _) (Nat.le_trans hhi (by simp)) hn).mono ?_; rw [v0]; rintro e w1 ⟨rfl, hb1⟩; have hb1' := ((Below.refl w.heap.size w).alloc (Nat.le_refl _) (.cells #[] 57)).trans (hb1.mono (by simp)); have ho1 := own_below (World.ownsRow_lit (base := w.heap.size) (e := 57) (size := 3) w #[] 0 (Nat.le_refl _) (by unfold maxLen; omega) (by simp)) hb1) | (go_at_call 38; refine (l1In_any _ _ _ _).mono ?_; rintro e w' ⟨rfl, rfl⟩))
    go_loopw [9, 10] (fun o i wr => ∃ (k : Nat) (v : Value), k ≤ n' ∧ i = .int .i64 k ∧ o = v ∧ wr.ownsRow w.heap.size 57 3 v k (hostsV ((List.zipWith (rampHost now ramp) hs ss).take k)) ∧ sinceOk (ss.take k) now = true ∧ Below w.heap.size w wr) (fun _ i _ => n' - (intOf i).toNat)
    case atStart => exact ⟨0, _, Nat.zero_le _, rfl, rfl, by simpa [hostsV] using ho1, rfl, hb1'⟩
    case round =>
      obtain ⟨k, v, hk, rfl, rfl, hown, hso, hb⟩ := hrel
      by_cases hlt : k < n'
      · obtain ⟨b', off', rfl, _, _, cs, _⟩ := (hS'.below hb hhi').Int hlt
        obtain ⟨b, off, rfl, _, _, c0, c1, c2⟩ := (hS.below hb hhi).host hlt
        have hlk : k < hs.length := by rw [HL.out]; exact hlt
        have hlk' : k < ss.length := by rw [HL'.out]; exact hlt
        by_cases hz : inB (ss[k]?.getD 0) 0 now = true
        · have hso' := Lib.hid (sinceOk_take hso hlk' hz)
          have hza := zip_at (now := now) (ramp := ramp) HLL.out hlk
          obtain ⟨s, hse⟩ : ∃ s, ss[k]?.getD 0 = s := ⟨_, rfl⟩
          rw [hse] at hz hza cs
          have hbz := inB_iff.1 hz
          obtain ⟨⟨h0, h1, h2⟩, hh⟩ : ∃ p, hAt hs k = p := ⟨_, rfl⟩
          rw [hh] at c0 c1 c2 hza
          have HT : Hid (hostsV ((List.zipWith (rampHost now ramp) hs ss).take (k + 1)) = hostsV ((List.zipWith (rampHost now ramp) hs ss).take k) ++ [.int .i64 h0, .int .i64 (rampW h1 (now - s) ramp), .int .i64 h2]) := Lib.hid (by
            have hzl : k < (List.zipWith (rampHost now ramp) hs ss).length := by simp [List.length_zipWith]; omega
            rw [List.take_succ_eq_append_getElem hzl, hostsV_append]
            rw [List.getElem?_eq_getElem hzl] at hza
            injection hza with hza
            rw [hza]; rfl)
          clear hso hse hza hlk' hlk hh
          have hbk : b' < wr.heap.size := block_lt_of_cell cs
          have hki : (0 : Int) ≤ (k : Int) := by omega
          have hki2 : (k : Int) < (n' : Int) := by omega
          go_wp2_with (first | (go_at_call 38; refine (l1In_any _ _ _ _).mono ?_; rintro e w' ⟨rfl, rfl⟩))
          have cs' : ∀ o, (wr.alloc o).cell? ⟨b', off' + k, none⟩ = some (.int .i64 s) := fun o => (World.cell?_alloc_lt wr o ⟨b', off' + k, none⟩ hbk).trans cs
          go_region_with (go_at_call 46; refine (sRamp_any _ _ _ _).mono ?_; rintro e w' ⟨rfl, rfl⟩)
          all_goals
            have hsl : Sl (((wr.alloc (.cells #[.int .i64 h0, .int .i64 (rampW h1 (now - s) ramp), .int .i64 h2] 57)).alloc (.cells #[.int .i64 h0, .int .i64 (rampW h1 (now - s) ramp), .int .i64 h2] 57)).drew) (wr.heap.size + 1) (wr.heap.size + 1 + 1) 3 (some ⟨wr.heap.size + 1, 0, none⟩) 1 [.int .i64 h0, .int .i64 (rampW h1 (now - s) ramp), .int .i64 h2] := by
              have hsl0 := Sl.new (w := wr.alloc (.cells #[.int .i64 h0, .int .i64 (rampW h1 (now - s) ramp), .int .i64 h2] 57)) #[.int .i64 h0, .int .i64 (rampW h1 (now - s) ramp), .int .i64 h2] 57 3 1 rfl
              simp only [World.size_alloc] at hsl0
              exact hsl0.drew
            go_wp2_with (at_builtin; (refine wpList_append_sl _ rfl _ _ 45 rfl w.heap.size 57 i0 _ 3 24 Try.underlying45 hi0 hz0 hz1 hz2 rfl (by decide) _ k _ (by rfl) ((hown.alloc _).alloc _).drew _ _ (some ⟨wr.heap.size + 1, 0, none⟩) 1 1 [.int .i64 h0, .int .i64 (rampW h1 (now - s) ramp), .int .i64 h2] rfl hsl (by intro u hu; simp at hu; rcases hu with rfl | rfl | rfl <;> rfl) (by unfold maxLen; omega) (by omega) (by have := hb.size; simp; omega) ?_; intro v' w2 hown2 hg2 hat2))
            rw [← HT.out] at hown2
            have hb2 := below_append (((hb.alloc hb.size _).alloc (by have := hb.size; simp; omega) _).drew) ((hown.alloc _).alloc _).drew hg2
            clear hat2
            go_roundw
            case rel => exact ⟨k + 1, v', by omega, by go_num, rfl, hown2, hso'.out, hb2⟩
            case measure => simp [intOf]; omega
        · have hz' := Bool.eq_false_iff.2 hz
          have HE := Lib.hid (rampP_late (hs := hs) (ramp := ramp) hlk' hz')
          obtain ⟨s, hse⟩ : ∃ s, ss[k]?.getD 0 = s := ⟨_, rfl⟩
          rw [hse] at hz' cs
          clear hz hso hlk' hlk hse
          go_wp2_with (first | (go_at_call 38; refine (l1In_any _ _ _ _).mono ?_; rintro e w' ⟨rfl, rfl⟩))
          go_ret
          rw [HE.out]
          exact RetOwn.mk (World.ownsRow_lit wr #[] 0 hb.size (by unfold maxLen; omega) (by simp)) (hb.alloc hb.size _)
      · obtain rfl : n' = k := by omega
        have hss : sinceOk ss now = true := by rw [← HL'.out, List.take_length] at hso; exact hso
        have HE := Lib.hid (rampP_good HV.out hss)
        have hzl : (List.zipWith (rampHost now ramp) hs ss).length = n' := by rw [List.length_zipWith, HL.out, HL'.out]; omega
        have HF := Lib.hid hzl
        rw [← hzl, List.take_length, hzl] at hown
        clear hso hss hzl
        go_wp2
        go_ret
        rw [HE.out, HF.out]
        exact RetOwn.mk hown hb
  · have HE := Lib.hid (rampP_bad (Bool.eq_false_iff.2 hv))
    rw [HE.out]
    by_cases v0 : poolV hs = true
    · by_cases v1 : n' = n
      · subst v1
        have d0 : ((n' : Int) != (n' : Int)) = false := by simp
        by_cases v2 : inB now 0 100000 = true
        · have v3 : inB ramp 1 100000 = false := by
            unfold rampPOk at hv
            rw [v0, v2, HL.out, HL'.out] at hv
            simpa using hv
          clear hv
          go_enter Try.func26, Try.ntmps26
          go_wp2_with (first | (go_at_call 45; refine (sPoolValid_any _ _ _ hs _ (hS.alloc hhi _) (Nat.le_trans hhi (by simp)) hn).mono ?_; rw [v0]; rintro e w1 ⟨rfl, hb1⟩; have hb1' := ((Below.refl w.heap.size w).alloc (Nat.le_refl _) (.cells #[] 57)).trans (hb1.mono (by simp)); have ho1 := own_below (World.ownsRow_lit (base := w.heap.size) (e := 57) (size := 3) w #[] 0 (Nat.le_refl _) (by unfold maxLen; omega) (by simp)) hb1) | (go_at_call 38; refine (l1In_any _ _ _ _).mono ?_; rintro e w' ⟨rfl, rfl⟩))
          go_ret
          exact RetOwn.mk ho1 hb1'
        · have v2' := Bool.eq_false_iff.2 v2
          clear hv v2
          go_enter Try.func26, Try.ntmps26
          go_wp2_with (first | (go_at_call 45; refine (sPoolValid_any _ _ _ hs _ (hS.alloc hhi _) (Nat.le_trans hhi (by simp)) hn).mono ?_; rw [v0]; rintro e w1 ⟨rfl, hb1⟩; have hb1' := ((Below.refl w.heap.size w).alloc (Nat.le_refl _) (.cells #[] 57)).trans (hb1.mono (by simp)); have ho1 := own_below (World.ownsRow_lit (base := w.heap.size) (e := 57) (size := 3) w #[] 0 (Nat.le_refl _) (by unfold maxLen; omega) (by simp)) hb1) | (go_at_call 38; refine (l1In_any _ _ _ _).mono ?_; rintro e w' ⟨rfl, rfl⟩))
          go_ret
          exact RetOwn.mk ho1 hb1'
      · have d0 : ((n' : Int) != (n : Int)) = true := by simp; omega
        clear hv
        go_enter Try.func26, Try.ntmps26
        go_wp2_with (first | (go_at_call 45; refine (sPoolValid_any _ _ _ hs _ (hS.alloc hhi _) (Nat.le_trans hhi (by simp)) hn).mono ?_; rw [v0]; rintro e w1 ⟨rfl, hb1⟩; have hb1' := ((Below.refl w.heap.size w).alloc (Nat.le_refl _) (.cells #[] 57)).trans (hb1.mono (by simp)); have ho1 := own_below (World.ownsRow_lit (base := w.heap.size) (e := 57) (size := 3) w #[] 0 (Nat.le_refl _) (by unfold maxLen; omega) (by simp)) hb1))
        go_ret
        exact RetOwn.mk ho1 hb1'
    · have v0' := Bool.eq_false_iff.2 v0
      clear hv v0
      go_enter Try.func26, Try.ntmps26
      go_wp2_with (first | (go_at_call 45; refine (sPoolValid_any _ _ _ hs _ (hS.alloc hhi _) (Nat.le_trans hhi (by simp)) hn).mono ?_; rw [v0']; rintro e w1 ⟨rfl, hb1⟩; have hb1' := ((Below.refl w.heap.size w).alloc (Nat.le_refl _) (.cells #[] 57)).trans (hb1.mono (by simp)); have ho1 := own_below (World.ownsRow_lit (base := w.heap.size) (e := 57) (size := 3) w #[] 0 (Nat.le_refl _) (by unfold maxLen; omega) (by simp)) hb1))
      go_ret
      exact RetOwn.mk ho1 hb1'
end Go.Proofs.Ytnhodloclonfdaa
