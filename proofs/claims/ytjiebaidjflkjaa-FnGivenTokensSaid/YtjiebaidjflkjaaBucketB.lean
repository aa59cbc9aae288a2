/-
  TakeTokens of both packages: one Lean function.
-/
import Derived.Test.YtjiebaidjflkjaaBucketA
namespace Go.Proofs.Ytjiebaidjflkjaa
open Go.RowKit
set_option linter.unusedVariables false

def takeOk (r m h l now many : Int) : Bool := bucketV r m h l && inB now l 100000 && inB many 0 10000
/-- The bucket after tokens were asked for (rate, most, have, last), whether they were given, whether that was possible. -/
def takeS (r m h l now many : Int) : (Int × Int × Int × Int) × Bool × Bool :=
  if takeOk r m h l now many then
    (if min m (h + r * (now - l)) < many then ((r, m, min m (h + r * (now - l)), now), false, true) else ((r, m, min m (h + r * (now - l)) - many, now), true, true))
  else ((0, 0, 0, 0), false, false)
theorem takeOk_iff {r m h l now many : Int} : takeOk r m h l now many = true ↔ bucketV r m h l = true ∧ (l ≤ now ∧ now ≤ 100000) ∧ 0 ≤ many ∧ many ≤ 10000 := by
  unfold takeOk
  simp only [Bool.and_eq_true, inB_iff, and_assoc]
theorem takeS_bad {r m h l now many : Int} (hv : ¬ takeOk r m h l now many = true) : takeS r m h l now many = ((0, 0, 0, 0), false, false) := by unfold takeS; rw [if_neg hv]
theorem takeS_few {r m h l now many : Int} (hv : takeOk r m h l now many = true) {x : Int} (hx : min m (h + r * (now - l)) = x) (hl : x < many) : takeS r m h l now many = ((r, m, x, now), false, true) := by
  unfold takeS; rw [if_pos hv, hx, if_pos hl]
theorem takeS_given {r m h l now many : Int} (hv : takeOk r m h l now many = true) {x : Int} (hx : min m (h + r * (now - l)) = x) (hl : ¬ x < many) : takeS r m h l now many = ((r, m, x - many, now), true, true) := by
  unfold takeS; rw [if_pos hv, hx, if_neg hl]
theorem mulB {x y a b : Int} (hx : 0 ≤ x ∧ x ≤ a) (hy : 0 ≤ y ∧ y ≤ b) : 0 ≤ x * y ∧ x * y ≤ a * b :=
  ⟨Int.mul_nonneg hx.1 hy.1, Int.mul_le_mul hx.2 hy.2 hy.1 (by omega)⟩
theorem take_bd {r m h l now many : Int} (hv : takeOk r m h l now many = true) : 0 ≤ r * (now - l) ∧ r * (now - l) ≤ 100000000 := by
  obtain ⟨h1, h2, h3⟩ := takeOk_iff.1 hv
  obtain ⟨g1, g2, g3, g4⟩ := bucketV_iff.1 h1
  have := mulB (x := r) (y := now - l) (a := 1000) (b := 100000) (by omega) (by omega)
  omega
/-- The two results of TakeTokens as one value. -/
def takeV (t : (Int × Int × Int × Int) × Bool × Bool) : Value := .tuple #[.agg #[.int .i64 t.1.1, .int .i64 t.1.2.1, .int .i64 t.1.2.2.1, .int .i64 t.1.2.2.2], .bool t.2.1]
def takeV3 (t : (Int × Int × Int × Int) × Bool × Bool) : Value := .tuple #[.agg #[.int .i64 t.1.1, .int .i64 t.1.2.1, .int .i64 t.1.2.2.1, .int .i64 t.1.2.2.2], .bool t.2.1, .bool t.2.2]
theorem ret_take {x : (Int × Int × Int × Int) × Bool × Bool} {a b c d : Int} {u v : Bool} (h : x = ((a, b, c, d), u, v)) : Ending.returned (.tuple #[.agg #[.int .i64 a, .int .i64 b, .int .i64 c, .int .i64 d], .bool u]) = .returned (takeV x) := by rw [h]; rfl
theorem ret_take3 {x : (Int × Int × Int × Int) × Bool × Bool} {a b c d : Int} {u v : Bool} (h : x = ((a, b, c, d), u, v)) : Ending.returned (.tuple #[.agg #[.int .i64 a, .int .i64 b, .int .i64 c, .int .i64 d], .bool u, .bool v]) = .returned (takeV3 x) := by rw [h]; rfl

set_option maxHeartbeats 1600000 in
theorem sTake_any (r m h l now many : Int) (w : World) :
    Calls Try.prog 27 #[.agg #[.int .i64 r, .int .i64 m, .int .i64 h, .int .i64 l], .int .i64 now, .int .i64 many] w fun e w' => e = .returned (takeV (takeS r m h l now many)) ∧ Below w.heap.size w w' := by
  by_cases hv : takeOk r m h l now many = true
  · have hb := take_bd hv
    obtain ⟨h1, h2, h3⟩ := takeOk_iff.1 hv
    have g := bucketV_iff.1 h1
    have i2 := inB_true h2
    have i3 := inB_true h3
    obtain ⟨x, hx⟩ : ∃ x, min m (h + r * (now - l)) = x := ⟨_, rfl⟩
    by_cases hl : x < many
    · have HE := Lib.hid (takeS_few hv hx hl)
      have hcase : (h + r * (now - l) < m ∧ h + r * (now - l) = x) ∨ (m < h + r * (now - l) ∧ m = x) ∨ ((m ≤ h + r * (now - l) ∧ h + r * (now - l) ≤ m) ∧ m = x) := by omega
      clear hv hx
      rcases hcase with ⟨hc, hxe⟩ | ⟨hc, hxe⟩ | ⟨hc, hxe⟩
      · subst hxe
        go_enter Try.func27, Try.ntmps27
        go_wp2_with (first | (go_at_call 39; refine (l1In_any _ _ _ _).mono ?_; rintro e w' ⟨rfl, rfl⟩) | (go_at_call 46; refine (sBucketValid_at _ _ _ _ _).mono ?_; rintro e w' ⟨rfl, rfl⟩))
        refine bodyPost_ret (v := .tuple #[.agg #[.int .i64 r, .int .i64 m, .int .i64 (h + r * (now - l)), .int .i64 now], .bool false]) (by simp [results, Try.results27, go_sem]) rfl ⟨ret_take HE.out, ?_⟩
        repeat' first | exact Below.refl _ _ | refine Below.alloc ?_ (by simp; try omega) _
      · subst hxe
        go_enter Try.func27, Try.ntmps27
        go_wp2_with (first | (go_at_call 39; refine (l1In_any _ _ _ _).mono ?_; rintro e w' ⟨rfl, rfl⟩) | (go_at_call 46; refine (sBucketValid_at _ _ _ _ _).mono ?_; rintro e w' ⟨rfl, rfl⟩))
        refine bodyPost_ret (v := .tuple #[.agg #[.int .i64 r, .int .i64 m, .int .i64 (m), .int .i64 now], .bool false]) (by simp [results, Try.results27, go_sem]) rfl ⟨ret_take HE.out, ?_⟩
        repeat' first | exact Below.refl _ _ | refine Below.alloc ?_ (by simp; try omega) _
      · subst hxe
        go_enter Try.func27, Try.ntmps27
        go_wp2_with (first | (go_at_call 39; refine (l1In_any _ _ _ _).mono ?_; rintro e w' ⟨rfl, rfl⟩) | (go_at_call 46; refine (sBucketValid_at _ _ _ _ _).mono ?_; rintro e w' ⟨rfl, rfl⟩))
        refine bodyPost_ret (v := .tuple #[.agg #[.int .i64 r, .int .i64 m, .int .i64 (m), .int .i64 now], .bool false]) (by simp [results, Try.results27, go_sem]) rfl ⟨ret_take HE.out, ?_⟩
        repeat' first | exact Below.refl _ _ | refine Below.alloc ?_ (by simp; try omega) _
    · have HE := Lib.hid (takeS_given hv hx hl)
      have hcase : (h + r * (now - l) < m ∧ h + r * (now - l) = x) ∨ (m < h + r * (now - l) ∧ m = x) ∨ ((m ≤ h + r * (now - l) ∧ h + r * (now - l) ≤ m) ∧ m = x) := by omega
      clear hv hx
      rcases hcase with ⟨hc, hxe⟩ | ⟨hc, hxe⟩ | ⟨hc, hxe⟩
      · subst hxe
        go_enter Try.func27, Try.ntmps27
        go_wp2_with (first | (go_at_call 39; refine (l1In_any _ _ _ _).mono ?_; rintro e w' ⟨rfl, rfl⟩) | (go_at_call 46; refine (sBucketValid_at _ _ _ _ _).mono ?_; rintro e w' ⟨rfl, rfl⟩))
        refine bodyPost_ret (v := .tuple #[.agg #[.int .i64 r, .int .i64 m, .int .i64 (h + r * (now - l) - many), .int .i64 now], .bool true]) (by simp [results, Try.results27, go_sem]) rfl ⟨ret_take HE.out, ?_⟩
        repeat' first | exact Below.refl _ _ | refine Below.alloc ?_ (by simp; try omega) _
      · subst hxe
        go_enter Try.func27, Try.ntmps27
        go_wp2_with (first | (go_at_call 39; refine (l1In_any _ _ _ _).mono ?_; rintro e w' ⟨rfl, rfl⟩) | (go_at_call 46; refine (sBucketValid_at _ _ _ _ _).mono ?_; rintro e w' ⟨rfl, rfl⟩))
        refine bodyPost_ret (v := .tuple #[.agg #[.int .i64 r, .int .i64 m, .int .i64 (m - many), .int .i64 now], .bool true]) (by simp [results, Try.results27, go_sem]) rfl ⟨ret_take HE.out, ?_⟩
        repeat' first | exact Below.refl _ _ | refine Below.alloc ?_ (by simp; try omega) _
      · subst hxe
        go_enter Try.func27, Try.ntmps27
        go_wp2_with (first | (go_at_call 39; refine (l1In_any _ _ _ _).mono ?_; rintro e w' ⟨rfl, rfl⟩) | (go_at_call 46; refine (sBucketValid_at _ _ _ _ _).mono ?_; rintro e w' ⟨rfl, rfl⟩))
        refine bodyPost_ret (v := .tuple #[.agg #[.int .i64 r, .int .i64 m, .int .i64 (m - many), .int .i64 now], .bool true]) (by simp [results, Try.results27, go_sem]) rfl ⟨ret_take HE.out, ?_⟩
        repeat' first | exact Below.refl _ _ | refine Below.alloc ?_ (by simp; try omega) _
  · have HE := Lib.hid (takeS_bad hv)
    by_cases v0 : bucketV r m h l = true
    · by_cases v1 : inB now l 100000 = true
      · have v2 : inB many 0 10000 = false := by unfold takeOk at hv; simp_all
        clear hv
        go_enter Try.func27, Try.ntmps27
        go_wp2_with (first | (go_at_call 39; refine (l1In_any _ _ _ _).mono ?_; rintro e w' ⟨rfl, rfl⟩) | (go_at_call 46; refine (sBucketValid_at _ _ _ _ _).mono ?_; rintro e w' ⟨rfl, rfl⟩))
        refine bodyPost_ret (v := .tuple #[.agg #[.int .i64 0, .int .i64 0, .int .i64 0, .int .i64 0], .bool false]) (by simp [results, Try.results27, go_sem]) rfl ⟨ret_take HE.out, ?_⟩
        repeat' first | exact Below.refl _ _ | refine Below.alloc ?_ (by simp; try omega) _
      · have v1' := Bool.eq_false_iff.2 v1
        clear hv v1
        go_enter Try.func27, Try.ntmps27
        go_wp2_with (first | (go_at_call 39; refine (l1In_any _ _ _ _).mono ?_; rintro e w' ⟨rfl, rfl⟩) | (go_at_call 46; refine (sBucketValid_at _ _ _ _ _).mono ?_; rintro e w' ⟨rfl, rfl⟩))
        refine bodyPost_ret (v := .tuple #[.agg #[.int .i64 0, .int .i64 0, .int .i64 0, .int .i64 0], .bool false]) (by simp [results, Try.results27, go_sem]) rfl ⟨ret_take HE.out, ?_⟩
        repeat' first | exact Below.refl _ _ | refine Below.alloc ?_ (by simp; try omega) _
    · have v0' := Bool.eq_false_iff.2 v0
      clear hv v0
      go_enter Try.func27, Try.ntmps27
      go_wp2_with (first | (go_at_call 39; refine (l1In_any _ _ _ _).mono ?_; rintro e w' ⟨rfl, rfl⟩) | (go_at_call 46; refine (sBucketValid_at _ _ _ _ _).mono ?_; rintro e w' ⟨rfl, rfl⟩))
      refine bodyPost_ret (v := .tuple #[.agg #[.int .i64 0, .int .i64 0, .int .i64 0, .int .i64 0], .bool false]) (by simp [results, Try.results27, go_sem]) rfl ⟨ret_take HE.out, ?_⟩
      repeat' first | exact Below.refl _ _ | refine Below.alloc ?_ (by simp; try omega) _

set_option maxHeartbeats 1600000 in
theorem iTake3_few1 (r m h l now many : Int) (w : World) (hb : 0 ≤ r * (now - l) ∧ r * (now - l) ≤ 100000000) (h1 : bucketV r m h l = true) (h2 : l ≤ now ∧ now ≤ 100000) (h3 : 0 ≤ many ∧ many ≤ 10000)
    (g : (1 ≤ r ∧ r ≤ 1000) ∧ (1 ≤ m ∧ m ≤ 10000) ∧ (0 ≤ h ∧ h ≤ m) ∧ 0 ≤ l ∧ l ≤ 100000) (hc : h + r * (now - l) < m) (hl : h + r * (now - l) < many) (HE : Hid (takeS r m h l now many = ((r, m, h + r * (now - l), now), false, true))) :
    Calls Try.prog 47 #[.agg #[.int .i64 r, .int .i64 m, .int .i64 h, .int .i64 l], .int .i64 now, .int .i64 many] w fun e w' => e = .returned (takeV3 (takeS r m h l now many)) ∧ Below w.heap.size w w' := by
  have i2 := inB_true h2
  have i3 := inB_true h3
  go_enter Try.func47, Try.ntmps47
  go_wp2_with (first | (go_at_call 40; refine (in_any _ _ _ _).mono ?_; rintro e w' ⟨rfl, rfl⟩) | (go_at_call 32; refine (iBucketValid_at _ _ _ _ _).mono ?_; rintro e w' ⟨rfl, rfl⟩))
  refine bodyPost_ret (v := .tuple #[.agg #[.int .i64 r, .int .i64 m, .int .i64 (h + r * (now - l)), .int .i64 now], .bool false, .bool true]) (by simp [results, Try.results47, go_sem]) rfl ⟨ret_take3 HE.out, ?_⟩
  repeat' first | exact Below.refl _ _ | refine Below.alloc ?_ (by simp; try omega) _

set_option maxHeartbeats 1600000 in
theorem iTake3_few2 (r m h l now many : Int) (w : World) (hb : 0 ≤ r * (now - l) ∧ r * (now - l) ≤ 100000000) (h1 : bucketV r m h l = true) (h2 : l ≤ now ∧ now ≤ 100000) (h3 : 0 ≤ many ∧ many ≤ 10000)
    (g : (1 ≤ r ∧ r ≤ 1000) ∧ (1 ≤ m ∧ m ≤ 10000) ∧ (0 ≤ h ∧ h ≤ m) ∧ 0 ≤ l ∧ l ≤ 100000) (hc : m < h + r * (now - l)) (hl : m < many) (HE : Hid (takeS r m h l now many = ((r, m, m, now), false, true))) :
    Calls Try.prog 47 #[.agg #[.int .i64 r, .int .i64 m, .int .i64 h, .int .i64 l], .int .i64 now, .int .i64 many] w fun e w' => e = .returned (takeV3 (takeS r m h l now many)) ∧ Below w.heap.size w w' := by
  have i2 := inB_true h2
  have i3 := inB_true h3
  go_enter Try.func47, Try.ntmps47
  go_wp2_with (first | (go_at_call 40; refine (in_any _ _ _ _).mono ?_; rintro e w' ⟨rfl, rfl⟩) | (go_at_call 32; refine (iBucketValid_at _ _ _ _ _).mono ?_; rintro e w' ⟨rfl, rfl⟩))
  refine bodyPost_ret (v := .tuple #[.agg #[.int .i64 r, .int .i64 m, .int .i64 (m), .int .i64 now], .bool false, .bool true]) (by simp [results, Try.results47, go_sem]) rfl ⟨ret_take3 HE.out, ?_⟩
  repeat' first | exact Below.refl _ _ | refine Below.alloc ?_ (by simp; try omega) _

set_option maxHeartbeats 1600000 in
theorem iTake3_few3 (r m h l now many : Int) (w : World) (hb : 0 ≤ r * (now - l) ∧ r * (now - l) ≤ 100000000) (h1 : bucketV r m h l = true) (h2 : l ≤ now ∧ now ≤ 100000) (h3 : 0 ≤ many ∧ many ≤ 10000)
    (g : (1 ≤ r ∧ r ≤ 1000) ∧ (1 ≤ m ∧ m ≤ 10000) ∧ (0 ≤ h ∧ h ≤ m) ∧ 0 ≤ l ∧ l ≤ 100000) (hc : m ≤ h + r * (now - l) ∧ h + r * (now - l) ≤ m) (hl : m < many) (HE : Hid (takeS r m h l now many = ((r, m, m, now), false, true))) :
    Calls Try.prog 47 #[.agg #[.int .i64 r, .int .i64 m, .int .i64 h, .int .i64 l], .int .i64 now, .int .i64 many] w fun e w' => e = .returned (takeV3 (takeS r m h l now many)) ∧ Below w.heap.size w w' := by
  have i2 := inB_true h2
  have i3 := inB_true h3
  go_enter Try.func47, Try.ntmps47
  go_wp2_with (first | (go_at_call 40; refine (in_any _ _ _ _).mono ?_; rintro e w' ⟨rfl, rfl⟩) | (go_at_call 32; refine (iBucketValid_at _ _ _ _ _).mono ?_; rintro e w' ⟨rfl, rfl⟩))
  refine bodyPost_ret (v := .tuple #[.agg #[.int .i64 r, .int .i64 m, .int .i64 (m), .int .i64 now], .bool false, .bool true]) (by simp [results, Try.results47, go_sem]) rfl ⟨ret_take3 HE.out, ?_⟩
  repeat' first | exact Below.refl _ _ | refine Below.alloc ?_ (by simp; try omega) _

set_option maxHeartbeats 1600000 in
theorem iTake3_given1 (r m h l now many : Int) (w : World) (hb : 0 ≤ r * (now - l) ∧ r * (now - l) ≤ 100000000) (h1 : bucketV r m h l = true) (h2 : l ≤ now ∧ now ≤ 100000) (h3 : 0 ≤ many ∧ many ≤ 10000)
    (g : (1 ≤ r ∧ r ≤ 1000) ∧ (1 ≤ m ∧ m ≤ 10000) ∧ (0 ≤ h ∧ h ≤ m) ∧ 0 ≤ l ∧ l ≤ 100000) (hc : h + r * (now - l) < m) (hl : ¬ h + r * (now - l) < many) (HE : Hid (takeS r m h l now many = ((r, m, h + r * (now - l) - many, now), true, true))) :
    Calls Try.prog 47 #[.agg #[.int .i64 r, .int .i64 m, .int .i64 h, .int .i64 l], .int .i64 now, .int .i64 many] w fun e w' => e = .returned (takeV3 (takeS r m h l now many)) ∧ Below w.heap.size w w' := by
  have i2 := inB_true h2
  have i3 := inB_true h3
  go_enter Try.func47, Try.ntmps47
  go_wp2_with (first | (go_at_call 40; refine (in_any _ _ _ _).mono ?_; rintro e w' ⟨rfl, rfl⟩) | (go_at_call 32; refine (iBucketValid_at _ _ _ _ _).mono ?_; rintro e w' ⟨rfl, rfl⟩))
  refine bodyPost_ret (v := .tuple #[.agg #[.int .i64 r, .int .i64 m, .int .i64 (h + r * (now - l) - many), .int .i64 now], .bool true, .bool true]) (by simp [results, Try.results47, go_sem]) rfl ⟨ret_take3 HE.out, ?_⟩
  repeat' first | exact Below.refl _ _ | refine Below.alloc ?_ (by simp; try omega) _

set_option maxHeartbeats 1600000 in
theorem iTake3_given2 (r m h l now many : Int) (w : World) (hb : 0 ≤ r * (now - l) ∧ r * (now - l) ≤ 100000000) (h1 : bucketV r m h l = true) (h2 : l ≤ now ∧ now ≤ 100000) (h3 : 0 ≤ many ∧ many ≤ 10000)
    (g : (1 ≤ r ∧ r ≤ 1000) ∧ (1 ≤ m ∧ m ≤ 10000) ∧ (0 ≤ h ∧ h ≤ m) ∧ 0 ≤ l ∧ l ≤ 100000) (hc : m < h + r * (now - l)) (hl : ¬ m < many) (HE : Hid (takeS r m h l now many = ((r, m, m - many, now), true, true))) :
    Calls Try.prog 47 #[.agg #[.int .i64 r, .int .i64 m, .int .i64 h, .int .i64 l], .int .i64 now, .int .i64 many] w fun e w' => e = .returned (takeV3 (takeS r m h l now many)) ∧ Below w.heap.size w w' := by
  have i2 := inB_true h2
  have i3 := inB_true h3
  go_enter Try.func47, Try.ntmps47
  go_wp2_with (first | (go_at_call 40; refine (in_any _ _ _ _).mono ?_; rintro e w' ⟨rfl, rfl⟩) | (go_at_call 32; refine (iBucketValid_at _ _ _ _ _).mono ?_; rintro e w' ⟨rfl, rfl⟩))
  refine bodyPost_ret (v := .tuple #[.agg #[.int .i64 r, .int .i64 m, .int .i64 (m - many), .int .i64 now], .bool true, .bool true]) (by simp [results, Try.results47, go_sem]) rfl ⟨ret_take3 HE.out, ?_⟩
  repeat' first | exact Below.refl _ _ | refine Below.alloc ?_ (by simp; try omega) _

set_option maxHeartbeats 1600000 in
theorem iTake3_given3 (r m h l now many : Int) (w : World) (hb : 0 ≤ r * (now - l) ∧ r * (now - l) ≤ 100000000) (h1 : bucketV r m h l = true) (h2 : l ≤ now ∧ now ≤ 100000) (h3 : 0 ≤ many ∧ many ≤ 10000)
    (g : (1 ≤ r ∧ r ≤ 1000) ∧ (1 ≤ m ∧ m ≤ 10000) ∧ (0 ≤ h ∧ h ≤ m) ∧ 0 ≤ l ∧ l ≤ 100000) (hc : m ≤ h + r * (now - l) ∧ h + r * (now - l) ≤ m) (hl : ¬ m < many) (HE : Hid (takeS r m h l now many = ((r, m, m - many, now), true, true))) :
    Calls Try.prog 47 #[.agg #[.int .i64 r, .int .i64 m, .int .i64 h, .int .i64 l], .int .i64 now, .int .i64 many] w fun e w' => e = .returned (takeV3 (takeS r m h l now many)) ∧ Below w.heap.size w w' := by
  have i2 := inB_true h2
  have i3 := inB_true h3
  go_enter Try.func47, Try.ntmps47
  go_wp2_with (first | (go_at_call 40; refine (in_any _ _ _ _).mono ?_; rintro e w' ⟨rfl, rfl⟩) | (go_at_call 32; refine (iBucketValid_at _ _ _ _ _).mono ?_; rintro e w' ⟨rfl, rfl⟩))
  refine bodyPost_ret (v := .tuple #[.agg #[.int .i64 r, .int .i64 m, .int .i64 (m - many), .int .i64 now], .bool true, .bool true]) (by simp [results, Try.results47, go_sem]) rfl ⟨ret_take3 HE.out, ?_⟩
  repeat' first | exact Below.refl _ _ | refine Below.alloc ?_ (by simp; try omega) _

set_option maxHeartbeats 1600000 in
theorem iTake3_any (r m h l now many : Int) (w : World) :
    Calls Try.prog 47 #[.agg #[.int .i64 r, .int .i64 m, .int .i64 h, .int .i64 l], .int .i64 now, .int .i64 many] w fun e w' => e = .returned (takeV3 (takeS r m h l now many)) ∧ Below w.heap.size w w' := by
  by_cases hv : takeOk r m h l now many = true
  · have hb := take_bd hv
    obtain ⟨h1, h2, h3⟩ := takeOk_iff.1 hv
    have g := bucketV_iff.1 h1
    have i2 := inB_true h2
    have i3 := inB_true h3
    obtain ⟨x, hx⟩ : ∃ x, min m (h + r * (now - l)) = x := ⟨_, rfl⟩
    by_cases hl : x < many
    · have HE := Lib.hid (takeS_few hv hx hl)
      have hcase : (h + r * (now - l) < m ∧ h + r * (now - l) = x) ∨ (m < h + r * (now - l) ∧ m = x) ∨ ((m ≤ h + r * (now - l) ∧ h + r * (now - l) ≤ m) ∧ m = x) := by omega
      clear hv hx
      rcases hcase with ⟨hc, hxe⟩ | ⟨hc, hxe⟩ | ⟨hc, hxe⟩
      · subst hxe
        exact iTake3_few1 r m h l now many w hb h1 h2 h3 g hc hl HE
      · subst hxe
        exact iTake3_few2 r m h l now many w hb h1 h2 h3 g hc hl HE
      · subst hxe
        exact iTake3_few3 r m h l now many w hb h1 h2 h3 g hc hl HE
    · have HE := Lib.hid (takeS_given hv hx hl)
      have hcase : (h + r * (now - l) < m ∧ h + r * (now - l) = x) ∨ (m < h + r * (now - l) ∧ m = x) ∨ ((m ≤ h + r * (now - l) ∧ h + r * (now - l) ≤ m) ∧ m = x) := by omega
      clear hv hx
      rcases hcase with ⟨hc, hxe⟩ | ⟨hc, hxe⟩ | ⟨hc, hxe⟩
      · subst hxe
        exact iTake3_given1 r m h l now many w hb h1 h2 h3 g hc hl HE
      · subst hxe
        exact iTake3_given2 r m h l now many w hb h1 h2 h3 g hc hl HE
      · subst hxe
        exact iTake3_given3 r m h l now many w hb h1 h2 h3 g hc hl HE
  · have HE := Lib.hid (takeS_bad hv)
    by_cases v0 : bucketV r m h l = true
    · by_cases v1 : inB now l 100000 = true
      · have v2 : inB many 0 10000 = false := by unfold takeOk at hv; simp_all
        clear hv
        go_enter Try.func47, Try.ntmps47
        go_wp2_with (first | (go_at_call 40; refine (in_any _ _ _ _).mono ?_; rintro e w' ⟨rfl, rfl⟩) | (go_at_call 32; refine (iBucketValid_at _ _ _ _ _).mono ?_; rintro e w' ⟨rfl, rfl⟩))
        refine bodyPost_ret (v := .tuple #[.agg #[.int .i64 0, .int .i64 0, .int .i64 0, .int .i64 0], .bool false, .bool false]) (by simp [results, Try.results47, go_sem]) rfl ⟨ret_take3 HE.out, ?_⟩
        repeat' first | exact Below.refl _ _ | refine Below.alloc ?_ (by simp; try omega) _
      · have v1' := Bool.eq_false_iff.2 v1
        clear hv v1
        go_enter Try.func47, Try.ntmps47
        go_wp2_with (first | (go_at_call 40; refine (in_any _ _ _ _).mono ?_; rintro e w' ⟨rfl, rfl⟩) | (go_at_call 32; refine (iBucketValid_at _ _ _ _ _).mono ?_; rintro e w' ⟨rfl, rfl⟩))
        refine bodyPost_ret (v := .tuple #[.agg #[.int .i64 0, .int .i64 0, .int .i64 0, .int .i64 0], .bool false, .bool false]) (by simp [results, Try.results47, go_sem]) rfl ⟨ret_take3 HE.out, ?_⟩
        repeat' first | exact Below.refl _ _ | refine Below.alloc ?_ (by simp; try omega) _
    · have v0' := Bool.eq_false_iff.2 v0
      clear hv v0
      go_enter Try.func47, Try.ntmps47
      go_wp2_with (first | (go_at_call 40; refine (in_any _ _ _ _).mono ?_; rintro e w' ⟨rfl, rfl⟩) | (go_at_call 32; refine (iBucketValid_at _ _ _ _ _).mono ?_; rintro e w' ⟨rfl, rfl⟩))
      refine bodyPost_ret (v := .tuple #[.agg #[.int .i64 0, .int .i64 0, .int .i64 0, .int .i64 0], .bool false, .bool false]) (by simp [results, Try.results47, go_sem]) rfl ⟨ret_take3 HE.out, ?_⟩
      repeat' first | exact Below.refl _ _ | refine Below.alloc ?_ (by simp; try omega) _
end Go.Proofs.Ytjiebaidjflkjaa
