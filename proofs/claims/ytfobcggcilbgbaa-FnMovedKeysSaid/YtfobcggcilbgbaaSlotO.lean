/-
  SlotOrder of both packages, for numbers of hosts.
-/
import Derived.Test.YtfobcggcilbgbaaWays
namespace Go.Proofs.Ytfobcggcilbgbaa
open Go.RowKit
set_option linter.unusedVariables false

def slotK (n : Int) (k : Nat) : Int := (mixL [n, 1] + (k : Int) * (1 + mixL [n, 2] % 30)) % 31
def slotO (n : Int) : List Int := (List.range 31).map (slotK n)
theorem slotO_len (n : Int) : (slotO n).length = 31 := by simp [slotO]
theorem slotK_bd (n : Int) (k : Nat) : 0 ≤ slotK n k ∧ slotK n k < 31 := by unfold slotK; omega
theorem slotO_take (n : Int) {k : Nat} (hk : k < 31) : (slotO n).take (k + 1) = (slotO n).take k ++ [slotK n k] := by
  unfold slotO
  rw [List.take_succ_eq_append_getElem (by simpa using hk)]
  simp
theorem slotO_all (n : Int) : (slotO n).take 31 = slotO n := by rw [List.take_of_length_le (by rw [slotO_len]; exact Nat.le_refl _)]
theorem slotK_succ (n : Int) (k : Nat) : slotK n (k + 1) = (slotK n k + (1 + mixL [n, 2] % 30)) % 31 := by
  unfold slotK
  obtain ⟨s, hs⟩ : ∃ s, 1 + mixL [n, 2] % 30 = s := ⟨_, rfl⟩
  rw [hs]
  have : ((k + 1 : Nat) : Int) * s = (k : Int) * s + s := by rw [show ((k + 1 : Nat) : Int) = (k : Int) + 1 from by omega, Int.add_mul, Int.one_mul]
  rw [this]
  omega
theorem slotK_zero (n : Int) : slotK n 0 = mixL [n, 1] % 31 := by unfold slotK; simp
theorem keyV_of {n : Int} (h : 0 ≤ n ∧ n ≤ 1000002) : keyV n = true := keyV_iff.2 h

set_option maxRecDepth 100000 in
set_option maxHeartbeats 1600000 in
theorem iSlotO_any (n : Int) (w : World) (h0 : 0 ≤ n) (h1 : n ≤ 30) : Calls Try.prog 75 #[.int .i64 n] w (RetOwn w 3 1 31 ((slotO n).map (Value.int .i64))) := by
  obtain ⟨i0, hi0, hz0, hz1, hz2⟩ := info_parts infoInt
  have hin : inB n 0 30 = true := inB_true ⟨h0, h1⟩
  obtain ⟨x, hx⟩ : ∃ x, mixL [n, 1] = x := ⟨_, rfl⟩
  obtain ⟨y, hy⟩ : ∃ y, mixL [n, 2] = y := ⟨_, rfl⟩
  have hx0 : 0 ≤ x := by rw [← hx]; exact mix2_pos _ _ (keyV_of (by omega)) (keyV_of (by omega))
  have hx1 : x ≤ 1000002 := by rw [← hx]; exact (mixL_bd _).2
  have hy0 : 0 ≤ y := by rw [← hy]; exact mix2_pos _ _ (keyV_of (by omega)) (keyV_of (by omega))
  have hy1 : y ≤ 1000002 := by rw [← hy]; exact (mixL_bd _).2
  have HK : RowKit.Hid (∀ k : Nat, slotK n k = (x + (k : Int) * (1 + y % 30)) % 31) := Lib.hid (fun k => by unfold slotK; rw [hx, hy])
  have HX := Lib.hid hx
  have HY := Lib.hid hy
  clear hx hy
  have hb0 : ∀ o o', Below w.heap.size w ((w.alloc o).alloc o') := fun o o' => ((Below.refl _ _).alloc (Nat.le_refl _) _).alloc (by simp) _
  go_enter Try.func75, Try.ntmps75
  go_wp2_with (first | (go_at_call 59; refine (in_any _ _ _ _).mono ?_; rw [hin]; rintro e w1 ⟨rfl, rfl⟩) | (go_at_call 70; refine (mix_any _ 2 2 [n, 1] _ (sl_new2 _ _ _ (by simp)) (by omega)).mono ?_; rw [HX.out]; rintro e w1 ⟨rfl, rfl⟩) | (go_at_call 70; refine (mix_any _ 2 2 [n, 2] _ (sl_new2 _ _ _ (by simp)) (by omega)).mono ?_; rw [HY.out]; rintro e w1 ⟨rfl, rfl⟩))
  generalize hw0 : (w.alloc _).alloc _ = w0
  have hbw : Below w.heap.size w w0 := by rw [← hw0]; exact hb0 _ _
  clear hw0 hb0
  go_loopw [5, 16] (fun o i wr => ∃ (k : Nat), k ≤ 31 ∧ i = .int .i64 k ∧ wr.ownsRow w.heap.size 3 1 o k (((slotO n).take k).map (Value.int .i64)) ∧ Below w.heap.size w wr) (fun _ i _ => 31 - (intOf i).toNat)
  case atStart => exact ⟨0, by omega, rfl, World.ownsRow_nil _ _ _ _, hbw⟩
  case round =>
    obtain ⟨k, hk, rfl, hown, hb⟩ := hrel
    have hz := hb.size
    by_cases hlt : k < 31
    · have HE := Lib.hid (slotO_take n hlt)
      obtain ⟨s, hs⟩ : ∃ s, 1 + y % 30 = s := ⟨_, rfl⟩
      have hs0 : 1 ≤ s := by omega
      have hs1 : s ≤ 30 := by omega
      obtain ⟨ks, hks⟩ : ∃ z, (k : Int) * s = z := ⟨_, rfl⟩
      have hm0 : 0 ≤ ks := by rw [← hks]; exact Int.mul_nonneg (by omega) (by omega)
      have hm1 : ks ≤ 930 := by
        rw [← hks]
        exact Int.le_trans (Int.mul_le_mul (show (k : Int) ≤ 31 by omega) hs1 (by omega) (by omega)) (by decide)
      have HS : RowKit.Hid (slotK n k = (x + ks) % 31) := Lib.hid (by rw [HK.out k, hs, hks])
      go_wp2_with (at_builtin; (refine wpList_app1 wr w #[.int .i64 ((x + ks) % 31)] rfl _ _ 40 3 rfl i0 _ 1 8 Try.underlying40 hi0 hz0 hz1 hz2 rfl (by decide) _ k _ (by rfl) hown hb wr.heap.size 1 1 rfl rfl rfl (by intro u hu; simp at hu; subst hu; rfl) (by unfold maxLen; omega) (by omega) ?_; intro v' w2 hown2 hb2))
      clear hs hks
      go_roundw
      case rel => exact ⟨k + 1, by omega, by go_num, by rw [HE.out, List.map_append, HS.out]; exact hown2, hb2⟩
      case measure => simp [intOf]; omega
    · obtain rfl : k = 31 := by omega
      rw [slotO_all] at hown
      go_wp2
      go_ret
      exact RetOwn.mk hown hb

set_option maxRecDepth 100000 in
set_option maxHeartbeats 1600000 in
theorem sSlotO_any (n : Int) (w : World) (h0 : 0 ≤ n) (h1 : n ≤ 30) : Calls Try.prog 67 #[.int .i64 n] w (RetOwn w 3 1 31 ((slotO n).map (Value.int .i64))) := by
  obtain ⟨i0, hi0, hz0, hz1, hz2⟩ := info_parts infoInt
  have hin : inB n 0 30 = true := inB_true ⟨h0, h1⟩
  obtain ⟨x, hx⟩ : ∃ x, mixL [n, 1] = x := ⟨_, rfl⟩
  obtain ⟨y, hy⟩ : ∃ y, mixL [n, 2] = y := ⟨_, rfl⟩
  have hx0 : 0 ≤ x := by rw [← hx]; exact mix2_pos _ _ (keyV_of (by omega)) (keyV_of (by omega))
  have hx1 : x ≤ 1000002 := by rw [← hx]; exact (mixL_bd _).2
  have hy0 : 0 ≤ y := by rw [← hy]; exact mix2_pos _ _ (keyV_of (by omega)) (keyV_of (by omega))
  have hy1 : y ≤ 1000002 := by rw [← hy]; exact (mixL_bd _).2
  have HZ : RowKit.Hid (slotK n 0 = x % 31) := Lib.hid (by rw [slotK_zero, hx])
  have HK : RowKit.Hid (∀ k : Nat, slotK n (k + 1) = (slotK n k + (1 + y % 30)) % 31) := Lib.hid (fun k => by rw [slotK_succ, hy])
  have HX := Lib.hid hx
  have HY := Lib.hid hy
  clear hx hy
  have hb0 : ∀ o o' o'', Below w.heap.size w (((w.alloc o).alloc o').alloc o'') := fun o o' o'' => (((Below.refl _ _).alloc (Nat.le_refl _) _).alloc (by simp) _).alloc (by simp; omega) _
  have hlit : ∀ o o', (((w.alloc (.cells #[] 3)).alloc o).alloc o').ownsRow w.heap.size 3 1 (.slice (some ⟨w.heap.size, 0, none⟩) 0 0) 0 [] := fun o o' => ((World.ownsRow_lit (base := w.heap.size) (e := 3) (size := 1) w #[] 0 (Nat.le_refl _) (by unfold maxLen; omega) (by simp)).alloc _).alloc _
  go_enter Try.func67, Try.ntmps67
  go_wp2_with (first | (go_at_call 36; refine (l1In_any _ _ _ _).mono ?_; rw [hin]; rintro e w1 ⟨rfl, rfl⟩) | (go_at_call 65; refine (sMix_any _ 2 2 [n, 1] _ (sl_new2 _ _ _ (by simp)) (by omega)).mono ?_; rw [HX.out]; rintro e w1 ⟨rfl, rfl⟩) | (go_at_call 65; refine (sMix_any _ 2 2 [n, 2] _ (sl_new2 _ _ _ (by simp)) (by omega)).mono ?_; rw [HY.out]; rintro e w1 ⟨rfl, rfl⟩))
  have hl0 := hlit (.cells #[.int .i64 n, .int .i64 1] 3) (.cells #[.int .i64 n, .int .i64 2] 3)
  have hbw := hb0 (.cells #[] 3) (.cells #[.int .i64 n, .int .i64 1] 3) (.cells #[.int .i64 n, .int .i64 2] 3)
  generalize (((w.alloc (.cells #[] 3)).alloc (.cells #[.int .i64 n, .int .i64 1] 3)).alloc (.cells #[.int .i64 n, .int .i64 2] 3)) = w0 at hl0 hbw ⊢
  clear hlit hb0
  go_loopw [3, 4, 6] (fun o p i wr => ∃ (k : Nat), k ≤ 31 ∧ i = .int .i64 k ∧ p = .int .i64 (slotK n k) ∧ wr.ownsRow w.heap.size 3 1 o k (((slotO n).take k).map (Value.int .i64)) ∧ Below w.heap.size w wr) (fun _ _ i _ => 31 - (intOf i).toNat)
  case atStart => exact ⟨0, by omega, rfl, by rw [HZ.out], hl0, hbw⟩
  case round =>
    obtain ⟨k, hk, rfl, rfl, hown, hb⟩ := hrel
    have hz := hb.size
    have HE := Lib.hid (@slotO_take n k)
    have HKK := Lib.hid (HK.out k)
    have hkb := slotK_bd n k
    by_cases hlt : k < 31
    · go_wp2_with (at_builtin; (refine wpList_app1 wr w #[.int .i64 (slotK n k)] rfl _ _ 40 3 rfl i0 _ 1 8 Try.underlying40 hi0 hz0 hz1 hz2 rfl (by decide) _ k _ (by rfl) hown hb wr.heap.size 1 1 rfl rfl rfl (by intro u hu; simp at hu; subst hu; rfl) (by unfold maxLen; omega) (by omega) ?_; intro v' w2 hown2 hb2))
      go_roundw
      case rel => exact ⟨k + 1, by omega, by go_num, by rw [HKK.out], by rw [HE.out hlt, List.map_append]; exact hown2, hb2⟩
      case measure => simp [intOf]; omega
    · obtain rfl : k = 31 := by omega
      rw [slotO_all] at hown
      go_wp2
      go_ret
      exact RetOwn.mk hown hb
end Go.Proofs.Ytfobcggcilbgbaa
