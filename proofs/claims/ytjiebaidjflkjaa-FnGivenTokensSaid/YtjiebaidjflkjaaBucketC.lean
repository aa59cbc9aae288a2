/-
  TakeTokens of the program; the walk of the law FnExactTakeTokens.
-/
import Derived.Test.YtjiebaidjflkjaaBucketB
import Derived.Test.YtjiebaidjflkjaaBucketTo
namespace Go.Proofs.Ytjiebaidjflkjaa
open Go.RowKit
set_option linter.unusedVariables false

theorem sTake_is {r m h l now many a b c d : Int} {u v : Bool} (hx : takeS r m h l now many = ((a, b, c, d), u, v)) (w : World) :
    Calls Try.prog 27 #[.agg #[.int .i64 r, .int .i64 m, .int .i64 h, .int .i64 l], .int .i64 now, .int .i64 many] w fun e w' => e = .returned (.tuple #[.agg #[.int .i64 a, .int .i64 b, .int .i64 c, .int .i64 d], .bool u]) ∧ Below w.heap.size w w' :=
  (sTake_any r m h l now many w).mono fun _ _ ⟨he, hb⟩ => ⟨by rw [he, hx]; rfl, hb⟩
theorem iTake3_is {r m h l now many a b c d : Int} {u v : Bool} (hx : takeS r m h l now many = ((a, b, c, d), u, v)) (w : World) :
    Calls Try.prog 47 #[.agg #[.int .i64 r, .int .i64 m, .int .i64 h, .int .i64 l], .int .i64 now, .int .i64 many] w fun e w' => e = .returned (.tuple #[.agg #[.int .i64 a, .int .i64 b, .int .i64 c, .int .i64 d], .bool u, .bool v]) ∧ Below w.heap.size w w' :=
  (iTake3_any r m h l now many w).mono fun _ _ ⟨he, hb⟩ => ⟨by rw [he, hx]; rfl, hb⟩
theorem iTake_is {r m h l now many a b c d : Int} {u v : Bool} (hx : takeS r m h l now many = ((a, b, c, d), u, v)) (w : World) :
    Calls Try.prog 29 #[.agg #[.int .i64 r, .int .i64 m, .int .i64 h, .int .i64 l], .int .i64 now, .int .i64 many] w fun e w' => e = .returned (.tuple #[.agg #[.int .i64 a, .int .i64 b, .int .i64 c, .int .i64 d], .bool u]) ∧ Below w.heap.size w w' := by
  have HX := Lib.hid hx
  clear hx
  go_enter Try.func29, Try.ntmps29
  go_wp2_with fail
  refine (iTake3_is HX.out _).mono ?_
  rintro e w1 ⟨rfl, hb1⟩
  have fR := Blk.below (Blk.new (w.alloc (.cells #[.int .i64 r, .int .i64 m, .int .i64 h, .int .i64 l] 38)) 38 #[.int .i64 0, .int .i64 0, .int .i64 0, .int .i64 0]) hb1 (by simp)
  simp only [World.size_alloc] at fR
  obtain ⟨R0, R1, R2, R3, R4⟩ := fR.four
  have LR := fR.lt
  have hbW := (((Below.refl w.heap.size w).alloc (Nat.le_refl _) (.cells #[.int .i64 r, .int .i64 m, .int .i64 h, .int .i64 l] 38)).alloc (by simp) (.cells #[.int .i64 0, .int .i64 0, .int .i64 0, .int .i64 0] 38)).trans (hb1.mono (by simp; omega))
  go_wp2
  refine bodyPost_ret (v := .tuple #[.agg #[.int .i64 a, .int .i64 b, .int .i64 c, .int .i64 d], .bool u]) (by simp [results, Try.results29, go_sem, LR, R0, R1, R2, R3]) rfl ⟨rfl, ?_⟩
  repeat' first | exact hbW | refine Below.setCell ?_ (by simp) _ | refine Below.alloc ?_ (by simp; omega) _
theorem eqBucket_yes (a b c d : Int) (w : World) :
    Calls Try.prog 30 #[.agg #[.int .i64 a, .int .i64 b, .int .i64 c, .int .i64 d], .agg #[.int .i64 a, .int .i64 b, .int .i64 c, .int .i64 d]] w fun e w' => e = .returned (.bool true) ∧ Below w.heap.size w w' := by
  go_enter Try.func30, Try.ntmps30
  go_wp2
  go_ret
  refine ⟨rfl, ?_⟩
  repeat' first | exact Below.refl _ _ | refine Below.alloc ?_ (by simp; try omega) _

theorem wFnExactTakeTokens (r m h l now many : Int) (w : World) (_ : -9223372036854775808 ≤ r ∧ r ≤ 9223372036854775807) (_ : -9223372036854775808 ≤ m ∧ m ≤ 9223372036854775807) (_ : -9223372036854775808 ≤ h ∧ h ≤ 9223372036854775807) (_ : -9223372036854775808 ≤ l ∧ l ≤ 9223372036854775807)
    (_ : -9223372036854775808 ≤ now ∧ now ≤ 9223372036854775807) (_ : -9223372036854775808 ≤ many ∧ many ≤ 9223372036854775807) :
    Calls Try.prog 9 #[.agg #[.int .i64 r, .int .i64 m, .int .i64 h, .int .i64 l], .int .i64 now, .int .i64 many] w fun e w' => e = .returned (.bool true) ∧ Below w.heap.size w w' := by
  obtain ⟨⟨⟨a, b, c, d⟩, u, v⟩, hx⟩ : ∃ p, takeS r m h l now many = p := ⟨_, rfl⟩
  have HX := Lib.hid hx
  clear hx
  go_enter Try.func9, Try.ntmps9
  go_wp2_with fail
  refine (toBucket_any _ _ _ _ _).mono ?_
  rintro e w1 ⟨rfl, b1⟩
  go_wp2_with fail
  refine (sTake_is HX.out _).mono ?_
  rintro e w2 ⟨rfl, b2⟩
  have b12 := b1.trans (b2.mono b1.size)
  have c12 := (bcell b12).1
  have z12 := b12.size
  simp only [World.size_alloc] at c12 z12
  have y12 : w.heap.size < w2.heap.size := by omega
  go_wp2_with fail
  refine (toBucket_any _ _ _ _ _).mono ?_
  rintro e w3 ⟨rfl, b3⟩
  go_wp2_with fail
  refine (iTake_is HX.out _).mono ?_
  rintro e w4 ⟨rfl, b4⟩
  have b34 := b3.trans (b4.mono b3.size)
  have c34 := (bcell b34).1
  have z34 := b34.size
  simp only [World.size_alloc] at c34 z34
  have y34 : w2.heap.size < w4.heap.size := by omega
  go_wp2_with fail
  refine (eqBucket_yes _ _ _ _ _).mono ?_
  rintro e w5 ⟨rfl, b5⟩
  go_wp2_with fail
  go_ret
  have e1 := ((Below.refl w.heap.size w).alloc (Nat.le_refl _) _).trans (b12.mono (by simp))
  have e2 := (e1.alloc e1.size _).trans (b34.mono (by simp; omega))
  have e3 := (e2.alloc e2.size _).trans (b5.mono (by simp; omega))
  exact ⟨rfl, e3⟩
end Go.Proofs.Ytjiebaidjflkjaa
