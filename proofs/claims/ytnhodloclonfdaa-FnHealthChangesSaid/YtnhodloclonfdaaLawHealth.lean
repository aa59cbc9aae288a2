/-
  The walks of the drawn laws FnHealthStep, FnHealthRun, FnHealthChanges.
-/
import Derived.Test.YtnhodloclonfdaaDrawHealth
import Derived.Test.YtnhodloclonfdaaHealthC
import Derived.Test.YtnhodloclonfdaaHealthE
import Derived.Deep.DrawnRows
import Derived.Deep.RegionHeld3
namespace Go.Proofs.Ytnhodloclonfdaa
open Go.RowKit
set_option linter.unusedVariables false
attribute [local go_sem ↓] Go.wp_at_zero Go.wp_at_succ

theorem sHealthRun_is {A : Option Addr} {n c : Nat} {zs : List Bool} {r f : Int} {w : World} {lo hi : Nat} (hs : Sl w lo hi 1 A n (zs.map Value.bool)) (hhi : hi ≤ w.heap.size) (hn : n ≤ 9223372036854775807) {u : Bool} {k : Int} (h : runH zs r f = (u, k)) :
    Calls Try.prog 17 #[.slice A n c, .int .i64 r, .int .i64 f] w fun e w' => e = .returned (.agg #[.bool u, .int .i64 k]) ∧ Below w.heap.size w w' :=
  (sHealthRun_any A n c zs r f w hs hhi hn).mono fun _ _ ⟨he, hb⟩ => ⟨by rw [he, h]; rfl, hb⟩
theorem iHealthRun_is {A : Option Addr} {n c : Nat} {zs : List Bool} {r f : Int} {w : World} {lo hi : Nat} (hs : Sl w lo hi 1 A n (zs.map Value.bool)) (hhi : hi ≤ w.heap.size) (hn : n ≤ 9223372036854775807) {u : Bool} {k : Int} (h : runH zs r f = (u, k)) :
    Calls Try.prog 19 #[.slice A n c, .int .i64 r, .int .i64 f] w fun e w' => e = .returned (.agg #[.bool u, .int .i64 k]) ∧ Below w.heap.size w w' :=
  (iHealthRun_any A n c zs r f w hs hhi hn).mono fun _ _ ⟨he, hb⟩ => ⟨by rw [he, h]; rfl, hb⟩

set_option maxHeartbeats 1600000 in
theorem wFnHealthStep (A : Option Addr) (n c : Nat) (zs : List Int) (w : World) (hs : Sl w 0 w.heap.size 1 A n (zs.map (Value.int .u8))) (hnc : n ≤ c) (hm : c ≤ maxLen) (hw : ∀ z ∈ zs, (Lit.int .u8 z).wf = true) :
    Calls Try.prog 4 #[.slice A n c] w fun e w' => e = .returned (.bool true) ∧ Below w.heap.size w w' := by
  unfold maxLen at hm
  have hz := AllByte.of_wf hw
  clear hw
  by_cases hn : n ≤ 1048576
  · have hn1 : ¬ ((1048576 : Int) < (n : Int)) := by omega
    go_enter Try.func4, Try.ntmps4
    go_wp2_with fail
    refine (drawHealthStep_any _ _ _ zs _ hs hnc (by omega) hz).mono ?_
    rintro e w1 ⟨u, k, a, r, f, rfl, k0, k1, r0, r1, f0, f1, b1⟩
    have hz1 := b1.size
    have hf := stepH_facts u k a r f
    obtain ⟨⟨u1, k2⟩, hx⟩ : ∃ p, stepH u k a r f = p := ⟨_, rfl⟩
    rw [hx] at hf
    have HX := Lib.hid hx
    clear hx
    go_wp2_with fail
    refine (iHealthStep_is HX.out _).mono ?_
    rintro e w2 ⟨rfl, b2⟩
    have K2 := (Blk.new w1 24 #[.bool u, .int .i64 k]).below b2 (by simp)
    have z2 := b2.size
    simp only [World.size_alloc] at z2
    have y2 : w1.heap.size < w2.heap.size := by omega
    have X2 := Blk.new w2 24 #[.bool u1, .int .i64 k2]
    have K3 := K2.alloc (.cells #[.bool u1, .int .i64 k2] 24)
    have d2 := (b1.alloc b1.size (.cells #[.bool u, .int .i64 k] 24)).trans (b2.mono (by simp; omega))
    have d3 := d2.alloc d2.size (.cells #[.bool u1, .int .i64 k2] 24)
    obtain ⟨c0, c1⟩ := K3.two'
    obtain ⟨x0, x1⟩ := X2.two'
    go_wp2_with fail
    generalize hW : w2.alloc (.cells #[.bool u1, .int .i64 k2] 24) = w3 at X2 K3 d3 c0 c1 x0 x1 ⊢
    obtain ⟨q, hq⟩ : ∃ q, w2.heap.size = q := ⟨_, rfl⟩
    have hq3 : q < w3.heap.size := by rw [← hq]; exact X2.lt
    rw [hq] at X2 x0 x1 y2 ⊢
    clear hq hW b2 z2 K2 d2
    obtain ⟨p, hp⟩ : ∃ p, w1.heap.size = p := ⟨_, rfl⟩
    have hp3 : p < w3.heap.size := by omega
    rw [hp] at c0 c1 K3 y2 ⊢
    have np : ¬ p = q := by omega
    have nq : ¬ q = p := by omega
    clear hp
    go_region_held3 (fun w' => w'.cell? ⟨p, 0, none⟩ = some (.bool u) ∧ w'.cell? ⟨p, 1, none⟩ = some (.int .i64 k) ∧ w'.cell? ⟨q, 0, none⟩ = some (.bool u1) ∧ w'.cell? ⟨q, 1, none⟩ = some (.int .i64 k2)) (first | go_keep) ((first | (go_at_call 11; refine (sHealthStep_is HX.out _).mono ?_; rintro e w4 ⟨rfl, b4⟩; have e0 := b4.cell (p := ⟨p, 0, none⟩) hp3; have e1 := b4.cell (p := ⟨p, 1, none⟩) hp3; have e2 := b4.cell (p := ⟨q, 0, none⟩) hq3; have e3 := b4.cell (p := ⟨q, 1, none⟩) hq3)))
    have d4 : Below w.heap.size w w4 := d3.drew.trans (b4.mono d3.size)
    rcases hf with ⟨hbad, hf⟩ | ⟨hgood, hf⟩
    · cases hf
      go_wp2_with (go_at_call 16; refine (alive_any _).mono ?_; rintro e w5 ⟨rfl, b5⟩)
      all_goals first
        | (exfalso; omega)
        | (go_ret; exact ⟨rfl, d4.trans (b5.mono d4.size)⟩)
    · rcases hf with ⟨rfl, hf⟩ | ⟨rfl, hf | ⟨hf, hk2⟩⟩
      · cases hf
        cases a
        all_goals
          go_wp2
          all_goals first
            | (exfalso; omega)
            | (go_ret; exact ⟨rfl, d4⟩)
      · cases hf
        cases u
        all_goals
          go_wp2
          all_goals first
            | (exfalso; omega)
            | (go_ret; exact ⟨rfl, d4⟩)
      · cases hf
        have hk2' : decide (k + 1 < 10) = true := by simpa using hk2
        cases u
        all_goals
          go_wp2
          all_goals first
            | (exfalso; omega)
            | (go_ret; exact ⟨rfl, d4⟩)
            | (go_ret; exact ⟨ret_bool (by simp; omega), d4⟩)
  · have hn1 : (1048576 : Int) < (n : Int) := by omega
    go_enter Try.func4, Try.ntmps4
    go_wp2
    go_ret
    exact ⟨rfl, Below.refl _ _⟩

set_option maxHeartbeats 1600000 in
theorem wFnHealthChanges (A : Option Addr) (n c : Nat) (zs : List Int) (w : World) (hs : Sl w 0 w.heap.size 1 A n (zs.map (Value.int .u8))) (hnc : n ≤ c) (hm : c ≤ maxLen) (hw : ∀ z ∈ zs, (Lit.int .u8 z).wf = true) :
    Calls Try.prog 8 #[.slice A n c] w fun e w' => e = .returned (.bool true) ∧ Below w.heap.size w w' := by
  unfold maxLen at hm
  have hz := AllByte.of_wf hw
  clear hw
  by_cases hn : n ≤ 1048576
  · have hn1 : ¬ ((1048576 : Int) < (n : Int)) := by omega
    go_enter Try.func8, Try.ntmps8
    go_wp2_with fail
    refine (drawHealthChanges_any _ _ _ zs _ hs hnc (by omega) hz).mono ?_
    rintro e w1 ⟨B, m, c', xs, r, f, rfl, hm61, hmc, hcm, r0, r1, f0, f1, own, b1⟩
    unfold maxLen at hcm
    have HL : Hid (xs.length = m) := Lib.hid (by have := (Sl.of_own own).1; simpa using this)
    have hf := changes_facts xs r f
    obtain ⟨x, hx⟩ : ∃ x, changesH xs r f = x := ⟨_, rfl⟩
    obtain ⟨⟨u, k⟩, hu⟩ : ∃ p, runH xs r f = p := ⟨_, rfl⟩
    rw [hx, hu] at hf
    have HX := Lib.hid hx
    have HU := Lib.hid hu
    clear hx hu
    go_wp2_with fail
    refine (iHealthChanges_any _ _ _ xs _ _ _ (Sl.of_own own) (Nat.le_refl _) (by omega)).mono ?_
    rw [HX.out]
    rintro e w2 ⟨rfl, b2⟩
    have d2 := b1.trans (b2.mono b1.size)
    have S2 := (Sl.of_own own).below b2 (Nat.le_refl _)
    have z2 := b2.size
    go_wp2_with fail
    refine (sHealthChanges_any _ _ _ xs _ _ _ S2 z2 (by omega)).mono ?_
    rw [HX.out]
    rintro e w3 ⟨rfl, b3⟩
    have d3 := d2.trans (b3.mono d2.size)
    have S3 := S2.below b3 z2
    have z3 := Nat.le_trans z2 b3.size
    rcases hf with rfl | ⟨h0, h1, h2, h3, h4, h5⟩
    · go_wp2_with (go_at_call 16; refine (alive_any _).mono ?_; rintro e w4 ⟨rfl, b4⟩)
      go_ret
      exact ⟨rfl, d3.trans (b4.mono d3.size)⟩
    · rw [HL.out] at h1
      have h6 := mod_bd (x := x) (n := 2) (by omega)
      have hb2 : (x % 2 == 1) = u := by
        cases u
        · simp at h2 ⊢; omega
        · simp at h2 ⊢; omega
      have HB := Lib.hid hb2
      have hx0 : 0 ≤ x * min r f := Int.mul_nonneg h0 (by omega)
      clear h2 hb2
      have hx2 : x % 2 = 0 ∨ x % 2 = 1 := by omega
      by_cases hrf : f < r
      · rw [show min r f = f from by omega] at h1 hx0
        have hfld : ∀ wx : World, (Instr.field 24 (.agg #[.bool u, .int .i64 k]) 0).run Try.prog wx = .ok (.bool u) wx := fun _ => by kernel_rfl
        go_wp2_with fail
        refine (iHealthRun_is S3 z3 (by omega) HU.out).mono ?_
        rintro e w4 ⟨rfl, b4⟩
        go_wp2
        go_ret
        exact ⟨ret_bool (by have := HB.out; simp at this ⊢; omega), d3.trans (b4.mono d3.size)⟩
      · rw [show min r f = r from by omega] at h1 hx0
        have hfld : ∀ wx : World, (Instr.field 24 (.agg #[.bool u, .int .i64 k]) 0).run Try.prog wx = .ok (.bool u) wx := fun _ => by kernel_rfl
        go_wp2_with fail
        refine (iHealthRun_is S3 z3 (by omega) HU.out).mono ?_
        rintro e w4 ⟨rfl, b4⟩
        go_wp2
        go_ret
        exact ⟨ret_bool (by have := HB.out; simp at this ⊢; omega), d3.trans (b4.mono d3.size)⟩
  · have hn1 : (1048576 : Int) < (n : Int) := by omega
    go_enter Try.func8, Try.ntmps8
    go_wp2
    go_ret
    exact ⟨rfl, Below.refl _ _⟩
end Go.Proofs.Ytnhodloclonfdaa
