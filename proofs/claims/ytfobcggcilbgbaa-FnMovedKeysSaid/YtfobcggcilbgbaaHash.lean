/-
  MixNumbers of both packages, mix, isKey, l2Mix.
-/
import Derived.Test.YtfobcggcilbgbaaIn
import Derived.Test.YtfobcggcilbgbaaRingL
namespace Go.Proofs.Ytfobcggcilbgbaa
open Go.RowKit
set_option linter.unusedVariables false

theorem mix1_bd (h n : Int) : 0 ≤ mix1 h n ∧ mix1 h n ≤ 1000002 := by unfold mix1; simp only; omega
def mixS (l : List Int) : Int := l.foldl mix1 1
theorem mixS_bd (l : List Int) : 0 ≤ mixS l ∧ mixS l ≤ 1000002 := by
  unfold mixS
  have : ∀ (l : List Int) (s : Int), 0 ≤ s ∧ s ≤ 1000002 → 0 ≤ l.foldl mix1 s ∧ l.foldl mix1 s ≤ 1000002 := by
    intro l
    induction l with
    | nil => intro s h; exact h
    | cons x r ih => intro s _; exact ih _ (mix1_bd s x)
  exact this l 1 (by omega)
theorem mixS_snoc (l : List Int) (x : Int) : mixS (l ++ [x]) = mix1 (mixS l) x := by simp [mixS]
theorem keyV_iff {n : Int} : keyV n = true ↔ 0 ≤ n ∧ n ≤ 1000002 := by unfold keyV; simp
theorem keyV_in (n : Int) : inB n 0 1000002 = keyV n := by rw [Bool.eq_iff_iff, inB_iff, keyV_iff]
theorem mixL_yes {l : List Int} (h : l.length ≤ 8) (hk : ∀ j, j < l.length → keyV (l[j]?.getD 0) = true) : mixL l = mixS l := by
  unfold mixL
  have ha : l.all keyV = true := by
    rw [List.all_eq_true]
    intro x hx
    obtain ⟨j, hj, rfl⟩ := List.mem_iff_getElem.1 hx
    have := hk j hj
    rwa [List.getElem?_eq_getElem hj] at this
  rw [if_pos ⟨h, ha⟩]
  rfl
theorem mixL_long {l : List Int} (h : 8 < l.length) : mixL l = -1 := by
  unfold mixL
  rw [if_neg (by omega)]
theorem mixL_bad {l : List Int} {j : Nat} (hj : j < l.length) (h : keyV (l[j]?.getD 0) = false) : mixL l = -1 := by
  unfold mixL
  rw [if_neg]
  rintro ⟨_, ha⟩
  rw [List.all_eq_true] at ha
  have := ha _ (List.getElem_mem hj)
  rw [List.getElem?_eq_getElem hj] at h
  simp at h
  rw [h] at this
  cases this
theorem mixL_bd (l : List Int) : -1 ≤ mixL l ∧ mixL l ≤ 1000002 := by
  unfold mixL
  split
  · have := mixS_bd l; unfold mixS at this; omega
  · omega
theorem sq_bd (x : Int) (h0 : 0 ≤ x) (h1 : x ≤ 1000002) : 0 ≤ x * x ∧ x * x ≤ 1000004000004 := by
  constructor
  · exact Int.mul_nonneg h0 h0
  · exact Int.le_trans (Int.mul_le_mul h1 h1 h0 (by omega)) (by decide)
theorem mix1_of (h n x : Int) (hx : (31 * h + 7919 * n + 17) % 1000003 = x) : mix1 h n = (x * x + x + 7) % 1000003 := by unfold mix1; simp only; rw [hx]
theorem mix1_of2 (h n x : Int) (hx : (h * 31 + n * 7919 + 17) % 1000003 = x) : mix1 h n = (x * x + x + 7) % 1000003 := mix1_of h n x (by rw [← hx]; congr 2; omega)

theorem isKey_any (n : Int) (w : World) : Calls Try.prog 44 #[.int .i64 n] w fun e w' => e = .returned (.bool (keyV n)) ∧ w = w' := by
  go_enter Try.func44, Try.ntmps44
  go_wp2_with (go_at_call 59; refine (in_any _ _ _ _).mono ?_; rintro e w' ⟨rfl, rfl⟩)
  go_ret
  exact ⟨ret_bool (keyV_in n), rfl⟩
theorem l2Mix_any (n m : Int) (w : World) (h0 : 0 ≤ n) (h1 : n ≤ 1000002) (h2 : 0 ≤ m) (h3 : m ≤ 1000002) :
    Calls Try.prog 80 #[.int .i64 n, .int .i64 m] w fun e w' => e = .returned (.int .i64 (mix1 n m)) ∧ w = w' := by
  obtain ⟨x, hx⟩ : ∃ x, (n * 31 + m * 7919 + 17) % 1000003 = x := ⟨_, rfl⟩
  have HM := Lib.hid (mix1_of2 n m x hx)
  have hx0 : 0 ≤ x := by omega
  have hx1 : x ≤ 1000002 := by omega
  obtain ⟨hq0, hq1⟩ := sq_bd x hx0 hx1
  go_enter Try.func80, Try.ntmps80
  go_wp2
  go_ret
  exact ⟨ret_int HM.out.symm, rfl⟩

theorem sMix_any (A : Option Addr) (n c : Nat) (zs : List Int) (w : World) {lo hi : Nat} (hS : Sl w lo hi 1 A n (zs.map (Value.int .i64))) (hn : n ≤ 1048576) :
    Calls Try.prog 65 #[.slice A n c] w fun e w' => e = .returned (.int .i64 (mixL zs)) ∧ w = w' := by
  have HL := Lib.hid hS.len
  go_enter Try.func65, Try.ntmps65
  go_wp2
  go_loop [3, 4] (fun s i => ∃ k : Nat, k ≤ n ∧ i = .int .i64 k ∧ s = .int .i64 (mixS (zs.take k)) ∧ (∀ j, j < k → keyV (zs[j]?.getD 0) = true) ∧ (0 < k → n ≤ 8)) (fun _ i => n - (intOf i).toNat)
  case atStart => exact ⟨0, Nat.zero_le _, rfl, rfl, fun j hj => absurd hj (by omega), fun h => absurd h (by omega)⟩
  case round =>
    obtain ⟨k, hk, rfl, rfl, hv, h8⟩ := hrel
    by_cases hlt : k < n
    · obtain ⟨b, off, rfl, _, _, c0⟩ := hS.num hlt
      have hlk : k < zs.length := by rw [HL.out]; exact hlt
      have HT := Lib.hid (take_succ_getD zs k hlk)
      have HB := Lib.hid (@mixL_bad zs k hlk)
      have HV := Lib.hid hv
      clear hv
      obtain ⟨x, hx⟩ : ∃ x, zs[k]?.getD 0 = x := ⟨_, rfl⟩
      have HX := Lib.hid hx
      rw [hx] at c0
      clear hx
      obtain ⟨hm0, hm1⟩ := mixS_bd (zs.take k)
      by_cases v : inB x 0 1000002 = true
      · have hb := inB_iff.1 v
        by_cases hl : n ≤ 8
        · go_wp2_with (first | (go_at_call 36; refine (l1In_any _ _ _ _).mono ?_; rintro e w' ⟨rfl, rfl⟩) | (go_at_call 80; refine (l2Mix_any _ _ _ (by omega) (by omega) (by omega) (by omega)).mono ?_; rintro e w' ⟨rfl, rfl⟩))
          go_round
          case rel => exact ⟨k + 1, by omega, by go_num, by rw [HT.out, HX.out, mixS_snoc], fun j hj => by
            rcases Nat.lt_or_ge j k with h | h
            · exact HV.out j h
            · obtain rfl : j = k := by omega
              rw [HX.out, ← keyV_in]; exact v, fun _ => hl⟩
          case measure => simp [intOf]; omega
        · have HG := Lib.hid (mixL_long (l := zs) (by rw [HL.out]; omega))
          go_wp2_with (go_at_call 36; refine (l1In_any _ _ _ _).mono ?_; rintro e w' ⟨rfl, rfl⟩)
          go_ret
          exact ⟨ret_int HG.out.symm, rfl⟩
      · have v' := Bool.eq_false_iff.2 v
        have HG := Lib.hid (HB.out (by rw [HX.out, ← keyV_in]; exact v'))
        clear v
        go_wp2_with (go_at_call 36; refine (l1In_any _ _ _ _).mono ?_; rintro e w' ⟨rfl, rfl⟩)
        go_ret
        exact ⟨ret_int HG.out.symm, rfl⟩
    · obtain rfl : n = k := by omega
      have HE : RowKit.Hid (mixS (zs.take n) = mixL zs) := Lib.hid (by
        by_cases h0 : n = 0
        · have : zs = [] := List.eq_nil_of_length_eq_zero (by rw [HL.out]; exact h0)
          rw [this, List.take_nil, mixL_yes (by simp) (fun j hj => absurd hj (by simp))]
        · rw [mixL_yes (by rw [HL.out]; exact h8 (by omega)) (by rw [HL.out]; exact hv), List.take_of_length_le (by rw [HL.out]; exact Nat.le_refl _)])
      clear hv h8
      go_wp2
      go_ret
      exact ⟨ret_int HE.out, rfl⟩

theorem iMix_any (A : Option Addr) (n c : Nat) (zs : List Int) (w : World) {lo hi : Nat} (hS : Sl w lo hi 1 A n (zs.map (Value.int .i64))) (hn : n ≤ 1048576) :
    Calls Try.prog 81 #[.slice A n c] w fun e w' => e = .returned (.int .i64 (mixL zs)) ∧ w = w' := by
  have HL := Lib.hid hS.len
  by_cases hl : n ≤ 8
  · have hl' : ¬ 8 < n := by omega
    go_enter Try.func81, Try.ntmps81
    go_wp2
    go_loop [3, 12] (fun s i => ∃ k : Nat, k ≤ n ∧ i = .int .i64 k ∧ s = .int .i64 (mixS (zs.take k)) ∧ (∀ j, j < k → keyV (zs[j]?.getD 0) = true)) (fun _ i => n - (intOf i).toNat)
    case atStart => exact ⟨0, Nat.zero_le _, rfl, rfl, fun j hj => absurd hj (by omega)⟩
    case round =>
      obtain ⟨k, hk, rfl, rfl, hv⟩ := hrel
      by_cases hlt : k < n
      · obtain ⟨b, off, rfl, _, _, c0⟩ := hS.num hlt
        have hlk : k < zs.length := by rw [HL.out]; exact hlt
        have HT := Lib.hid (take_succ_getD zs k hlk)
        have HB := Lib.hid (@mixL_bad zs k hlk)
        have HV := Lib.hid hv
        clear hv
        obtain ⟨x, hx⟩ : ∃ x, zs[k]?.getD 0 = x := ⟨_, rfl⟩
        have HX := Lib.hid hx
        rw [hx] at c0
        clear hx
        obtain ⟨hm0, hm1⟩ := mixS_bd (zs.take k)
        by_cases v : keyV x = true
        · have hb := keyV_iff.1 v
          obtain ⟨y, hy⟩ : ∃ y, (31 * mixS (zs.take k) + 7919 * x + 17) % 1000003 = y := ⟨_, rfl⟩
          have HM := Lib.hid (mix1_of (mixS (zs.take k)) x y hy)
          have hy0 : 0 ≤ y := by omega
          have hy1 : y ≤ 1000002 := by omega
          obtain ⟨hq0, hq1⟩ := sq_bd y hy0 hy1
          go_wp2_with (go_at_call 44; refine (isKey_any _ _).mono ?_; rintro e w' ⟨rfl, rfl⟩)
          go_round
          case rel => exact ⟨k + 1, by omega, by go_num, by rw [HT.out, HX.out, mixS_snoc, HM.out], fun j hj => by
            rcases Nat.lt_or_ge j k with h | h
            · exact HV.out j h
            · obtain rfl : j = k := by omega
              rw [HX.out]; exact v⟩
          case measure => simp [intOf]; omega
        · have v' := Bool.eq_false_iff.2 v
          have HG := Lib.hid (HB.out (by rw [HX.out]; exact v'))
          clear v
          go_wp2_with (go_at_call 44; refine (isKey_any _ _).mono ?_; rintro e w' ⟨rfl, rfl⟩)
          go_ret
          exact ⟨ret_int HG.out.symm, rfl⟩
      · obtain rfl : n = k := by omega
        have HE : RowKit.Hid (mixS (zs.take n) = mixL zs) := Lib.hid (by
          rw [mixL_yes (by rw [HL.out]; exact hl) (by rw [HL.out]; exact hv), List.take_of_length_le (by rw [HL.out]; exact Nat.le_refl _)])
        clear hv
        go_wp2
        go_ret
        exact ⟨ret_int HE.out, rfl⟩
  · have HG := Lib.hid (mixL_long (l := zs) (by rw [HL.out]; omega))
    go_enter Try.func81, Try.ntmps81
    go_wp2
    go_ret
    exact ⟨ret_int HG.out.symm, rfl⟩
theorem mix_any (A : Option Addr) (n c : Nat) (zs : List Int) (w : World) {lo hi : Nat} (hS : Sl w lo hi 1 A n (zs.map (Value.int .i64))) (hn : n ≤ 1048576) :
    Calls Try.prog 70 #[.slice A n c] w fun e w' => e = .returned (.int .i64 (mixL zs)) ∧ w = w' := by
  go_enter Try.func70, Try.ntmps70
  go_wp2_with (go_at_call 81; refine (iMix_any _ _ _ zs _ hS hn).mono ?_; rintro e w' ⟨rfl, rfl⟩)
  go_ret
  exact ⟨rfl, rfl⟩
end Go.Proofs.Ytfobcggcilbgbaa
