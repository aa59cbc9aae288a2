/-
  HostBy of both packages.
-/
import Derived.Test.YtfobcggcilbgbaaSlotI
import Derived.Test.YtfobcggcilbgbaaRingS
namespace Go.Proofs.Ytfobcggcilbgbaa
open Go.RowKit
set_option linter.unusedVariables false

/-- The host that a key chooses by a way. -/
def hostBy (way : Int) (hs : List H3) (key : Int) : Int :=
  if poolV hs = true ∧ keyV key = true then
    (if way = 1 then rdv hs key else if way = 2 then ringH (ringO hs) key else if way = 3 then slotH (slotTV hs) key else if way = 4 then jumpH hs key else -1)
  else -1
theorem hostBy_none {way : Int} {hs : List H3} {key : Int} (h : upL hs = []) : hostBy way hs key = -1 := by
  unfold hostBy
  split
  · rename_i hv
    have h1 : rdv hs key = -1 := by unfold rdv; rw [if_pos hv]; unfold ticks; rw [h]; rfl
    have h2 : ringH (ringO hs) key = -1 := by
      unfold ringO
      rw [if_pos hv.1]
      unfold pts
      rw [h]
      have : sortP (([] : List H3).flatMap ptsH) = [] := by unfold sortP; simp
      rw [this]
      rfl
    have h3 : slotH (slotTV hs) key = -1 := by unfold slotTV; rw [if_pos h]; rfl
    have h4 : jumpH hs key = -1 := by unfold jumpH upNV upN; rw [if_pos hv.1, h]; rfl
    rw [h1, h2, h3, h4]
    simp
  · rfl
theorem hostBy_bad {way : Int} {hs : List H3} {key : Int} (h : ¬ (poolV hs = true ∧ keyV key = true)) : hostBy way hs key = -1 := by unfold hostBy; rw [if_neg h]
theorem ringO_len {hs : List H3} (hv : poolV hs = true) : (ringO hs).length ≤ 90 := by
  unfold ringO
  rw [if_pos hv, sortP_len]
  have := pts_len (hs := hs) (fun x hx => (pool_mem hv x hx).2.1.2) hs.length (Nat.le_refl _)
  rw [List.take_length] at this
  have := pool_len hv
  omega
theorem slotTV_len (hs : List H3) : (slotTV hs).length ≤ 31 := by
  unfold slotTV
  split
  · simp
  · rw [slotT_len]; exact Nat.le_refl _

set_option maxRecDepth 100000 in
set_option maxHeartbeats 3200000 in
theorem iHostBy_any (way : Int) (A : Option Addr) (n c : Nat) (key : Int) (hs : List H3) (w : World) {lo hi : Nat} (hS : Sl w lo hi 3 A n (hostsV hs)) (hhi : hi ≤ w.heap.size) (hn : n ≤ 1048576) :
    Calls Try.prog 14 #[.int .i64 way, .slice A n c, .int .i64 key] w fun e w' => e = .returned (.int .i64 (hostBy way hs key)) ∧ Below w.heap.size w w' := by
  have HL := Lib.hid hS.hlen
  by_cases hv : poolV hs = true
  · by_cases hk : keyV key = true
    · have hbk := keyV_iff.1 hk
      have hkin : inB key 0 1000002 = true := by rw [keyV_in]; exact hk
      have hrl := ringO_len hv
      have hsl := slotTV_len hs
      obtain ⟨us, hus⟩ : ∃ us, upL hs = us := ⟨_, rfl⟩
      obtain ⟨m, hml⟩ : ∃ m, us.length = m := ⟨_, rfl⟩
      have hup : ∀ w1, Below w.heap.size w w1 → Calls Try.prog 45 #[.slice A n c] w1 (RetOwn w1 39 3 m (hostsV us)) := fun w1 hb1 => by
        have := up_any A n c hs w1 (hS.below hb1 hhi) (Nat.le_trans hhi hb1.size) hn
        rwa [hus, hml] at this
      by_cases hm0 : m = 0
      · subst hm0
        have hu0 : us = [] := List.eq_nil_of_length_eq_zero hml
        have HE : RowKit.Hid (hostBy way hs key = -1) := Lib.hid (hostBy_none (by rw [hus, hu0]))
        clear hus hml hu0
        go_enter Try.func14, Try.ntmps14
        go_wp2_with (first | (go_at_call 19; refine (iPoolValid_any _ _ _ hs _ hS hhi hn).mono ?_; rw [hv]; rintro e w1 ⟨rfl, hb1⟩) | (go_at_call 44; refine (isKey_any _ _).mono ?_; rw [hk]; rintro e w2 ⟨rfl, rfl⟩) | (go_at_call 45; refine (hup _ hb1).mono ?_; intro e w2 hr; obtain ⟨A2, c2, rfl, own2, hb2⟩ := hr.form; have hbb := hb1.trans (hb2.mono hb1.size); clear own2 hr))
        go_ret
        exact ⟨ret_int HE.out.symm, hbb⟩
      · have hmd : ((m : Int) == 0) = false := by simp; omega
        clear hus hml hm0
        by_cases h1 : way = 1
        · subst h1
          have HE : RowKit.Hid (hostBy 1 hs key = rdv hs key) := Lib.hid (by unfold hostBy; rw [if_pos ⟨hv, hk⟩]; rfl)
          go_enter Try.func14, Try.ntmps14
          go_wp2_with (first | (go_at_call 19; refine (iPoolValid_any _ _ _ hs _ hS hhi hn).mono ?_; rw [hv]; rintro e w1 ⟨rfl, hb1⟩) | (go_at_call 44; refine (isKey_any _ _).mono ?_; rw [hk]; rintro e w2 ⟨rfl, rfl⟩) | (go_at_call 45; refine (hup _ hb1).mono ?_; intro e w2 hr; obtain ⟨A2, c2, rfl, own2, hb2⟩ := hr.form; have hbb := hb1.trans (hb2.mono hb1.size); clear own2 hr) | (go_at_call 46; refine (iRdv_any _ _ _ _ hs _ (hS.below hbb hhi) (Nat.le_trans hhi hbb.size) hn).mono ?_; rintro e w3 ⟨rfl, hb3⟩))
          go_ret
          exact ⟨ret_int HE.out.symm, hbb.trans (hb3.mono hbb.size)⟩
        · have g1 : (way == 1) = false := by simpa using h1
          by_cases h2 : way = 2
          · subst h2
            have HE : RowKit.Hid (hostBy 2 hs key = ringH (ringO hs) key) := Lib.hid (by unfold hostBy; rw [if_pos ⟨hv, hk⟩]; rfl)
            go_enter Try.func14, Try.ntmps14
            go_wp2_with (first | (go_at_call 19; refine (iPoolValid_any _ _ _ hs _ hS hhi hn).mono ?_; rw [hv]; rintro e w1 ⟨rfl, hb1⟩) | (go_at_call 44; refine (isKey_any _ _).mono ?_; rw [hk]; rintro e w2 ⟨rfl, rfl⟩) | (go_at_call 45; refine (hup _ hb1).mono ?_; intro e w2 hr; obtain ⟨A2, c2, rfl, own2, hb2⟩ := hr.form; have hbb := hb1.trans (hb2.mono hb1.size); clear own2 hr) | (go_at_call 48; refine (iRingOf_any _ _ _ hs _ (hS.below hbb hhi) (Nat.le_trans hhi hbb.size) hn).mono ?_; intro e w3 hr3; obtain ⟨A3, c3, rfl, own3, hb3⟩ := hr3.form; have hS3 := Sl.of_own own3; have hb23 := hbb.trans (hb3.mono hbb.size); clear own3 hr3) | (go_at_call 47; refine (iRingHost_any _ _ _ _ (ringO hs) _ hS3 (Nat.le_refl _) (by omega)).mono ?_; rintro e w4 ⟨rfl, hb4⟩))
            go_ret
            exact ⟨ret_int HE.out.symm, hb23.trans (hb4.mono hb23.size)⟩
          · have g2 : (way == 2) = false := by simpa using h2
            by_cases h3 : way = 3
            · subst h3
              have HE : RowKit.Hid (hostBy 3 hs key = slotH (slotTV hs) key) := Lib.hid (by unfold hostBy; rw [if_pos ⟨hv, hk⟩]; rfl)
              go_enter Try.func14, Try.ntmps14
              go_wp2_with (first | (go_at_call 19; refine (iPoolValid_any _ _ _ hs _ hS hhi hn).mono ?_; rw [hv]; rintro e w1 ⟨rfl, hb1⟩) | (go_at_call 44; refine (isKey_any _ _).mono ?_; rw [hk]; rintro e w2 ⟨rfl, rfl⟩) | (go_at_call 45; refine (hup _ hb1).mono ?_; intro e w2 hr; obtain ⟨A2, c2, rfl, own2, hb2⟩ := hr.form; have hbb := hb1.trans (hb2.mono hb1.size); clear own2 hr) | (go_at_call 50; refine (iSlotT_any _ _ _ hs _ (hS.below hbb hhi) (Nat.le_trans hhi hbb.size) hn hv).mono ?_; intro e w3 hr3; obtain ⟨A3, c3, rfl, own3, hb3⟩ := hr3.form; have hS3 := Sl.of_own own3; have hb23 := hbb.trans (hb3.mono hbb.size); clear own3 hr3) | (go_at_call 49; refine (iSlotHost_any _ _ _ _ (slotTV hs) _ hS3 (by omega) hbk.1).mono ?_; rintro e w4 ⟨rfl, rfl⟩))
              go_ret
              exact ⟨ret_int HE.out.symm, hb23⟩
            · have g3 : (way == 3) = false := by simpa using h3
              by_cases h4 : way = 4
              · subst h4
                have HE : RowKit.Hid (hostBy 4 hs key = jumpH hs key) := Lib.hid (by unfold hostBy; rw [if_pos ⟨hv, hk⟩]; rfl)
                go_enter Try.func14, Try.ntmps14
                go_wp2_with (first | (go_at_call 19; refine (iPoolValid_any _ _ _ hs _ hS hhi hn).mono ?_; rw [hv]; rintro e w1 ⟨rfl, hb1⟩) | (go_at_call 44; refine (isKey_any _ _).mono ?_; rw [hk]; rintro e w2 ⟨rfl, rfl⟩) | (go_at_call 45; refine (hup _ hb1).mono ?_; intro e w2 hr; obtain ⟨A2, c2, rfl, own2, hb2⟩ := hr.form; have hbb := hb1.trans (hb2.mono hb1.size); clear own2 hr) | (go_at_call 51; refine (iJumpH_any _ _ _ _ hs _ (hS.below hbb hhi) (Nat.le_trans hhi hbb.size) hn hk hv).mono ?_; rintro e w3 ⟨rfl, hb3⟩))
                go_ret
                exact ⟨ret_int HE.out.symm, hbb.trans (hb3.mono hbb.size)⟩
              · have g4 : (way == 4) = false := by simpa using h4
                have HE : RowKit.Hid (hostBy way hs key = -1) := Lib.hid (by unfold hostBy; rw [if_pos ⟨hv, hk⟩, if_neg h1, if_neg h2, if_neg h3, if_neg h4])
                clear h1 h2 h3 h4
                go_enter Try.func14, Try.ntmps14
                go_wp2_with (first | (go_at_call 19; refine (iPoolValid_any _ _ _ hs _ hS hhi hn).mono ?_; rw [hv]; rintro e w1 ⟨rfl, hb1⟩) | (go_at_call 44; refine (isKey_any _ _).mono ?_; rw [hk]; rintro e w2 ⟨rfl, rfl⟩) | (go_at_call 45; refine (hup _ hb1).mono ?_; intro e w2 hr; obtain ⟨A2, c2, rfl, own2, hb2⟩ := hr.form; have hbb := hb1.trans (hb2.mono hb1.size); clear own2 hr))
                go_ret
                exact ⟨ret_int HE.out.symm, hbb⟩
    · have hk' := Bool.eq_false_iff.2 hk
      have hkin : inB key 0 1000002 = false := by rw [keyV_in]; exact hk'
      have HE : RowKit.Hid (hostBy way hs key = -1) := Lib.hid (hostBy_bad (fun h => hk h.2))
      clear hk
      go_enter Try.func14, Try.ntmps14
      go_wp2_with (first | (go_at_call 19; refine (iPoolValid_any _ _ _ hs _ hS hhi hn).mono ?_; rw [hv]; rintro e w1 ⟨rfl, hb1⟩) | (go_at_call 44; refine (isKey_any _ _).mono ?_; rw [hk']; rintro e w2 ⟨rfl, rfl⟩))
      go_ret
      exact ⟨ret_int HE.out.symm, hb1⟩
  · have hv' := Bool.eq_false_iff.2 hv
    have HE : RowKit.Hid (hostBy way hs key = -1) := Lib.hid (hostBy_bad (fun h => hv h.1))
    clear hv
    go_enter Try.func14, Try.ntmps14
    go_wp2_with (go_at_call 19; refine (iPoolValid_any _ _ _ hs _ hS hhi hn).mono ?_; rw [hv']; rintro e w1 ⟨rfl, hb1⟩)
    go_ret
    exact ⟨ret_int HE.out.symm, hb1⟩

set_option maxRecDepth 100000 in
set_option maxHeartbeats 3200000 in
theorem sHostBy_any (way : Int) (A : Option Addr) (n c : Nat) (key : Int) (hs : List H3) (w : World) {lo hi : Nat} (hS : Sl w lo hi 3 A n (hostsV hs)) (hhi : hi ≤ w.heap.size) (hn : n ≤ 1048576) :
    Calls Try.prog 12 #[.int .i64 way, .slice A n c, .int .i64 key] w fun e w' => e = .returned (.int .i64 (hostBy way hs key)) ∧ Below w.heap.size w w' := by
  have HL := Lib.hid hS.hlen
  by_cases hv : poolV hs = true
  · by_cases hk : keyV key = true
    · have hbk := keyV_iff.1 hk
      have hkin : inB key 0 1000002 = true := by rw [keyV_in]; exact hk
      have hrl := ringO_len hv
      have hsl := slotTV_len hs
      by_cases h1 : way = 1
      · subst h1
        have HE : RowKit.Hid (hostBy 1 hs key = rdv hs key) := Lib.hid (by unfold hostBy; rw [if_pos ⟨hv, hk⟩]; rfl)
        go_enter Try.func12, Try.ntmps12
        go_wp2_with (first | (go_at_call 35; refine (sPoolValid_any _ _ _ hs _ hS hhi hn).mono ?_; rw [hv]; rintro e w1 ⟨rfl, hb1⟩) | (go_at_call 36; refine (l1In_any _ _ _ _).mono ?_; rw [hkin]; rintro e w2 ⟨rfl, rfl⟩) | (go_at_call 37; refine (sRdv_any _ _ _ _ hs _ (hS.below hb1 hhi) (Nat.le_trans hhi hb1.size) hn).mono ?_; rintro e w3 ⟨rfl, hb3⟩))
        go_ret
        exact ⟨ret_int HE.out.symm, hb1.trans (hb3.mono hb1.size)⟩
      · have g1 : (way == 1) = false := by simpa using h1
        by_cases h2 : way = 2
        · subst h2
          have HE : RowKit.Hid (hostBy 2 hs key = ringH (ringO hs) key) := Lib.hid (by unfold hostBy; rw [if_pos ⟨hv, hk⟩]; rfl)
          go_enter Try.func12, Try.ntmps12
          go_wp2_with (first | (go_at_call 35; refine (sPoolValid_any _ _ _ hs _ hS hhi hn).mono ?_; rw [hv]; rintro e w1 ⟨rfl, hb1⟩) | (go_at_call 36; refine (l1In_any _ _ _ _).mono ?_; rw [hkin]; rintro e w2 ⟨rfl, rfl⟩) | (go_at_call 39; refine (sRingOf_any _ _ _ hs _ (hS.below hb1 hhi) (Nat.le_trans hhi hb1.size) hn).mono ?_; intro e w3 hr3; obtain ⟨A3, c3, rfl, own3, hb3⟩ := hr3.form; have hS3 := Sl.of_own own3; have hb23 := hb1.trans (hb3.mono hb1.size); clear own3 hr3) | (go_at_call 38; refine (sRingHost_any _ _ _ _ (ringO hs) _ hS3 (Nat.le_refl _) (by omega)).mono ?_; rintro e w4 ⟨rfl, hb4⟩))
          go_ret
          exact ⟨ret_int HE.out.symm, hb23.trans (hb4.mono hb23.size)⟩
        · have g2 : (way == 2) = false := by simpa using h2
          by_cases h3 : way = 3
          · subst h3
            have HE : RowKit.Hid (hostBy 3 hs key = slotH (slotTV hs) key) := Lib.hid (by unfold hostBy; rw [if_pos ⟨hv, hk⟩]; rfl)
            go_enter Try.func12, Try.ntmps12
            go_wp2_with (first | (go_at_call 35; refine (sPoolValid_any _ _ _ hs _ hS hhi hn).mono ?_; rw [hv]; rintro e w1 ⟨rfl, hb1⟩) | (go_at_call 36; refine (l1In_any _ _ _ _).mono ?_; rw [hkin]; rintro e w2 ⟨rfl, rfl⟩) | (go_at_call 41; refine (sSlotT_any _ _ _ hs _ (hS.below hb1 hhi) (Nat.le_trans hhi hb1.size) hn hv).mono ?_; intro e w3 hr3; obtain ⟨A3, c3, rfl, own3, hb3⟩ := hr3.form; have hS3 := Sl.of_own own3; have hb23 := hb1.trans (hb3.mono hb1.size); clear own3 hr3) | (go_at_call 40; refine (sSlotHost_any _ _ _ _ (slotTV hs) _ hS3 (by omega) hbk.1).mono ?_; rintro e w4 ⟨rfl, rfl⟩))
            go_ret
            exact ⟨ret_int HE.out.symm, hb23⟩
          · have g3 : (way == 3) = false := by simpa using h3
            by_cases h4 : way = 4
            · subst h4
              have HE : RowKit.Hid (hostBy 4 hs key = jumpH hs key) := Lib.hid (by unfold hostBy; rw [if_pos ⟨hv, hk⟩]; rfl)
              go_enter Try.func12, Try.ntmps12
              go_wp2_with (first | (go_at_call 35; refine (sPoolValid_any _ _ _ hs _ hS hhi hn).mono ?_; rw [hv]; rintro e w1 ⟨rfl, hb1⟩) | (go_at_call 36; refine (l1In_any _ _ _ _).mono ?_; rw [hkin]; rintro e w2 ⟨rfl, rfl⟩) | (go_at_call 42; refine (sJumpH_any _ _ _ _ hs _ (hS.below hb1 hhi) (Nat.le_trans hhi hb1.size) hn hk hv).mono ?_; rintro e w3 ⟨rfl, hb3⟩))
              go_ret
              exact ⟨ret_int HE.out.symm, hb1.trans (hb3.mono hb1.size)⟩
            · have g4 : (way == 4) = false := by simpa using h4
              have HE : RowKit.Hid (hostBy way hs key = -1) := Lib.hid (by unfold hostBy; rw [if_pos ⟨hv, hk⟩, if_neg h1, if_neg h2, if_neg h3, if_neg h4])
              clear h1 h2 h3 h4
              go_enter Try.func12, Try.ntmps12
              go_wp2_with (first | (go_at_call 35; refine (sPoolValid_any _ _ _ hs _ hS hhi hn).mono ?_; rw [hv]; rintro e w1 ⟨rfl, hb1⟩) | (go_at_call 36; refine (l1In_any _ _ _ _).mono ?_; rw [hkin]; rintro e w2 ⟨rfl, rfl⟩))
              go_ret
              exact ⟨ret_int HE.out.symm, hb1⟩
    · have hk' := Bool.eq_false_iff.2 hk
      have hkin : inB key 0 1000002 = false := by rw [keyV_in]; exact hk'
      have HE : RowKit.Hid (hostBy way hs key = -1) := Lib.hid (hostBy_bad (fun h => hk h.2))
      clear hk
      go_enter Try.func12, Try.ntmps12
      go_wp2_with (first | (go_at_call 35; refine (sPoolValid_any _ _ _ hs _ hS hhi hn).mono ?_; rw [hv]; rintro e w1 ⟨rfl, hb1⟩) | (go_at_call 36; refine (l1In_any _ _ _ _).mono ?_; rw [hkin]; rintro e w2 ⟨rfl, rfl⟩))
      go_ret
      exact ⟨ret_int HE.out.symm, hb1⟩
  · have hv' := Bool.eq_false_iff.2 hv
    have HE : RowKit.Hid (hostBy way hs key = -1) := Lib.hid (hostBy_bad (fun h => hv h.1))
    clear hv
    go_enter Try.func12, Try.ntmps12
    go_wp2_with (go_at_call 35; refine (sPoolValid_any _ _ _ hs _ hS hhi hn).mono ?_; rw [hv']; rintro e w1 ⟨rfl, hb1⟩)
    go_ret
    exact ⟨ret_int HE.out.symm, hb1⟩
end Go.Proofs.Ytfobcggcilbgbaa
