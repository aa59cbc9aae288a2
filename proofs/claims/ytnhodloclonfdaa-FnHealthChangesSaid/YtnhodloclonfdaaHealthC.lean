/-
  HealthChanges of both packages.
-/
import Derived.Test.YtnhodloclonfdaaHealthB
import Derived.Deep.DrawnRows
import Derived.Deep.RegionHeld3
namespace Go.Proofs.Ytnhodloclonfdaa
open Go.RowKit
set_option linter.unusedVariables false

set_option maxHeartbeats 800000 in
theorem iHealthChanges_any (A : Option Addr) (n c : Nat) (zs : List Bool) (r f : Int) (w : World) {lo hi : Nat} (hs : Sl w lo hi 1 A n (zs.map Value.bool)) (hhi : hi ≤ w.heap.size) (hn : n ≤ 9223372036854775807) :
    Calls Try.prog 23 #[.slice A n c, .int .i64 r, .int .i64 f] w fun e w' => e = .returned (.int .i64 (changesH zs r f)) ∧ Below w.heap.size w w' := by
  have HL : Hid (zs.length = n) := Lib.hid (by have := hs.1; simpa using this)
  by_cases h60 : 60 < n
  · have HE := Lib.hid (changesH_bad (r := r) (f := f) (zs := zs) (.inl (by rw [HL.out]; exact h60)))
    have hd60 : decide ((60 : Int) < (n : Int)) = true := by simp; omega
    go_enter Try.func23, Try.ntmps23
    go_wp2
    go_ret
    exact ⟨ret_int HE.out.symm, Below.refl _ _⟩
  · have hd60 : decide ((60 : Int) < (n : Int)) = false := by simp; omega
    by_cases hv : neededB r f = true
    · have HE := Lib.hid (changesH_ok (zs := zs) (by rw [HL.out]; exact h60) hv)
      have hv2 := Lib.hid hv
      have v0 : inB r 1 10 = true := (Bool.and_eq_true_iff.1 hv).1
      have v1 : inB f 1 10 = true := (Bool.and_eq_true_iff.1 hv).2
      clear hv
      go_enter Try.func23, Try.ntmps23
      go_wp2_with (go_at_call 39; refine (needed_is hv2.out _).mono ?_; rintro e w' ⟨rfl, rfl⟩)
      go_loopw [7, 23] (fun m i wr => ∃ (k : Nat) (u : Bool) (c m' : Int), k ≤ n ∧ i = .int .i64 k ∧ m = .int .i64 m' ∧ ChgRel zs r f k u c m' ∧ Blk wr w.heap.size 24 #[.bool u, .int .i64 c] ∧ Below w.heap.size w wr) (fun _ i _ => n - (intOf i).toNat)
      case atStart => exact ⟨0, false, 0, 0, Nat.zero_le _, rfl, rfl, ChgRel.start zs r f, Blk.new _ _ _, by (repeat' first | exact Below.refl _ _ | refine Below.alloc ?_ (by simp; try omega) _)⟩
      case round =>
        obtain ⟨k, u, c, m, hk, rfl, rfl, hr, hB, hb⟩ := hrel
        have hz := hb.size
        have hz1 := hB.lt
        obtain ⟨e0, e1, e2⟩ := hB.two
        have hm := hr.2
        by_cases hlt : k < n
        · obtain ⟨b, off, rfl, _, hbhi, hc, _⟩ := (hs.below hb hhi).Bool hlt
          obtain ⟨⟨u1, c1⟩, hx⟩ : ∃ p, stepH u c (zs[k]?.getD false) r f = p := ⟨_, rfl⟩
          have hnext := Lib.hid (hr.next (by rw [HL.out]; exact hlt) hx)
          have HX := Lib.hid hx
          clear hx
          cases u <;> cases u1
          · have hnext : Hid (ChgRel zs r f (k + 1) false c1 (m)) := Lib.hid (by simpa using hnext.out)
            go_wp2_with (go_at_call 13; refine (iHealthStep_is HX.out _).mono ?_; rintro e w1 ⟨rfl, hb1⟩; have f0 := hB.below hb1 hz1; obtain ⟨g0, g1, g2⟩ := f0.two; have hb2 := hb.trans (hb1.mono hz); have hz2 := hb1.size; have hz3 : w.heap.size < w1.heap.size := f0.lt)
            have f1 := ((f0.set_ 0 (.bool false)).set_ 1 (.int .i64 c1)).alloc (.cells #[.bool false, .int .i64 c1] 24)
            have hb3 := (below_set (below_set (g := w.heap.size) (i := 0) hb2 (Nat.le_refl _) (.bool false)) (g := w.heap.size) (i := 1) (Nat.le_refl _) (.int .i64 c1)).alloc (by simp; omega) (.cells #[.bool false, .int .i64 c1] 24)
            go_roundw
            case rel => exact ⟨k + 1, false, c1, m, by omega, by go_num, rfl, hnext.out, f1, hb3⟩
            case measure => simp [intOf]; omega
          · have hnext : Hid (ChgRel zs r f (k + 1) true c1 (m + 1)) := Lib.hid (by simpa using hnext.out)
            go_wp2_with (go_at_call 13; refine (iHealthStep_is HX.out _).mono ?_; rintro e w1 ⟨rfl, hb1⟩; have f0 := hB.below hb1 hz1; obtain ⟨g0, g1, g2⟩ := f0.two; have hb2 := hb.trans (hb1.mono hz); have hz2 := hb1.size; have hz3 : w.heap.size < w1.heap.size := f0.lt)
            have f1 := ((f0.set_ 0 (.bool true)).set_ 1 (.int .i64 c1)).alloc (.cells #[.bool true, .int .i64 c1] 24)
            have hb3 := (below_set (below_set (g := w.heap.size) (i := 0) hb2 (Nat.le_refl _) (.bool true)) (g := w.heap.size) (i := 1) (Nat.le_refl _) (.int .i64 c1)).alloc (by simp; omega) (.cells #[.bool true, .int .i64 c1] 24)
            go_roundw
            case rel => exact ⟨k + 1, true, c1, m + 1, by omega, by go_num, rfl, hnext.out, f1, hb3⟩
            case measure => simp [intOf]; omega
          · have hnext : Hid (ChgRel zs r f (k + 1) false c1 (m + 1)) := Lib.hid (by simpa using hnext.out)
            go_wp2_with (go_at_call 13; refine (iHealthStep_is HX.out _).mono ?_; rintro e w1 ⟨rfl, hb1⟩; have f0 := hB.below hb1 hz1; obtain ⟨g0, g1, g2⟩ := f0.two; have hb2 := hb.trans (hb1.mono hz); have hz2 := hb1.size; have hz3 : w.heap.size < w1.heap.size := f0.lt)
            have f1 := ((f0.set_ 0 (.bool false)).set_ 1 (.int .i64 c1)).alloc (.cells #[.bool false, .int .i64 c1] 24)
            have hb3 := (below_set (below_set (g := w.heap.size) (i := 0) hb2 (Nat.le_refl _) (.bool false)) (g := w.heap.size) (i := 1) (Nat.le_refl _) (.int .i64 c1)).alloc (by simp; omega) (.cells #[.bool false, .int .i64 c1] 24)
            go_roundw
            case rel => exact ⟨k + 1, false, c1, m + 1, by omega, by go_num, rfl, hnext.out, f1, hb3⟩
            case measure => simp [intOf]; omega
          · have hnext : Hid (ChgRel zs r f (k + 1) true c1 (m)) := Lib.hid (by simpa using hnext.out)
            go_wp2_with (go_at_call 13; refine (iHealthStep_is HX.out _).mono ?_; rintro e w1 ⟨rfl, hb1⟩; have f0 := hB.below hb1 hz1; obtain ⟨g0, g1, g2⟩ := f0.two; have hb2 := hb.trans (hb1.mono hz); have hz2 := hb1.size; have hz3 : w.heap.size < w1.heap.size := f0.lt)
            have f1 := ((f0.set_ 0 (.bool true)).set_ 1 (.int .i64 c1)).alloc (.cells #[.bool true, .int .i64 c1] 24)
            have hb3 := (below_set (below_set (g := w.heap.size) (i := 0) hb2 (Nat.le_refl _) (.bool true)) (g := w.heap.size) (i := 1) (Nat.le_refl _) (.int .i64 c1)).alloc (by simp; omega) (.cells #[.bool true, .int .i64 c1] 24)
            go_roundw
            case rel => exact ⟨k + 1, true, c1, m, by omega, by go_num, rfl, hnext.out, f1, hb3⟩
            case measure => simp [intOf]; omega
        · obtain rfl : n = k := by omega
          have HD := Lib.hid (HE.out.trans (ChgRel.done (by rw [HL.out]; exact hr)))
          go_wp2
          go_ret
          exact ⟨ret_int HD.out.symm, hb⟩
    · have hv' := Bool.eq_false_iff.2 hv
      have HE := Lib.hid (changesH_bad (zs := zs) (r := r) (f := f) (.inr hv'))
      have hv2 := Lib.hid hv'
      clear hv
      go_enter Try.func23, Try.ntmps23
      go_wp2_with (go_at_call 39; refine (needed_is hv2.out _).mono ?_; rintro e w' ⟨rfl, rfl⟩)
      go_ret
      exact ⟨ret_int HE.out.symm, Below.refl _ _⟩

set_option maxHeartbeats 800000 in
theorem sHealthChanges_any (A : Option Addr) (n c : Nat) (zs : List Bool) (r f : Int) (w : World) {lo hi : Nat} (hs : Sl w lo hi 1 A n (zs.map Value.bool)) (hhi : hi ≤ w.heap.size) (hn : n ≤ 9223372036854775807) :
    Calls Try.prog 22 #[.slice A n c, .int .i64 r, .int .i64 f] w fun e w' => e = .returned (.int .i64 (changesH zs r f)) ∧ Below w.heap.size w w' := by
  have HL : Hid (zs.length = n) := Lib.hid (by have := hs.1; simpa using this)
  by_cases h60 : 60 < n
  · have HE := Lib.hid (changesH_bad (r := r) (f := f) (zs := zs) (.inl (by rw [HL.out]; exact h60)))
    have hd60 : decide ((60 : Int) < (n : Int)) = true := by simp; omega
    go_enter Try.func22, Try.ntmps22
    go_wp2
    go_ret
    exact ⟨ret_int HE.out.symm, Below.refl _ _⟩
  · have hd60 : decide ((60 : Int) < (n : Int)) = false := by simp; omega
    by_cases hv : neededB r f = true
    · have HE := Lib.hid (changesH_ok (zs := zs) (by rw [HL.out]; exact h60) hv)
      have hv2 := Lib.hid hv
      have v0 : inB r 1 10 = true := (Bool.and_eq_true_iff.1 hv).1
      have v1 : inB f 1 10 = true := (Bool.and_eq_true_iff.1 hv).2
      clear hv
      go_enter Try.func22, Try.ntmps22
      go_wp2_with (go_at_call 38; refine (l1In_any _ _ _ _).mono ?_; rintro e w' ⟨rfl, rfl⟩)
      go_loopw [7, 9] (fun m i wr => ∃ (k : Nat) (u : Bool) (c m' : Int), k ≤ n ∧ i = .int .i64 k ∧ m = .int .i64 m' ∧ ChgRel zs r f k u c m' ∧ Blk wr w.heap.size 24 #[.bool u, .int .i64 c] ∧ Below w.heap.size w wr) (fun _ i _ => n - (intOf i).toNat)
      case atStart => exact ⟨0, false, 0, 0, Nat.zero_le _, rfl, rfl, ChgRel.start zs r f, Blk.new _ _ _, by (repeat' first | exact Below.refl _ _ | refine Below.alloc ?_ (by simp; try omega) _)⟩
      case round =>
        obtain ⟨k, u, c, m, hk, rfl, rfl, hr, hB, hb⟩ := hrel
        have hz := hb.size
        have hz1 := hB.lt
        obtain ⟨e0, e1, e2⟩ := hB.two
        have hm := hr.2
        by_cases hlt : k < n
        · obtain ⟨b, off, rfl, _, hbhi, hc, _⟩ := (hs.below hb hhi).Bool hlt
          obtain ⟨⟨u1, c1⟩, hx⟩ : ∃ p, stepH u c (zs[k]?.getD false) r f = p := ⟨_, rfl⟩
          have hnext := Lib.hid (hr.next (by rw [HL.out]; exact hlt) hx)
          have HX := Lib.hid hx
          clear hx
          cases u <;> cases u1
          · have hnext : Hid (ChgRel zs r f (k + 1) false c1 (m)) := Lib.hid (by simpa using hnext.out)
            have ne0 := World.new_ne wr _ e0
            have ne1 := World.new_ne wr _ e1
            have ne2 := World.new_ne wr _ hc
            have fN := Blk.new wr 24 #[.bool false, .int .i64 0]
            have hA := hB.alloc (.cells #[.bool false, .int .i64 0] 24)
            go_wp2
            have hzA : w.heap.size < ((wr.alloc (.cells #[.bool false, .int .i64 0] 24)).drew).heap.size := by show _ < (wr.alloc _).heap.size; simp; omega
            have hzB : wr.heap.size ≤ ((wr.alloc (.cells #[.bool false, .int .i64 0] 24)).drew).heap.size := by show _ ≤ (wr.alloc _).heap.size; simp
            go_region_held3 (fun w' => w'.cell? ⟨w.heap.size, 0, none⟩ = some (.bool false) ∧ w'.cell? ⟨w.heap.size, 1, none⟩ = some (.int .i64 c) ∧ w'.cell? ⟨b, off + k, none⟩ = some (.bool (zs[k]?.getD false))) (first | go_keep) ((first | (go_at_call 11; refine (sHealthStep_is HX.out _).mono ?_; rintro e w1 ⟨rfl, hb1⟩; have q2 := hb1.cell (p := ⟨b, off + k, none⟩) (by simp; omega); first | (have f0 := hB.drew.below hb1 hz1; obtain ⟨g0, g1, g2⟩ := f0.two; have hb2 := hb.drew.trans (hb1.mono hz); have hz3 : w.heap.size < w1.heap.size := f0.lt) | (have f0 := hA.drew.below hb1 hzA; obtain ⟨g0, g1, g2⟩ := f0.two; have hb2 := ((hb.alloc hz _).drew).trans (hb1.mono (Nat.le_trans hz hzB)); have hz3 : w.heap.size < w1.heap.size := f0.lt; have fP := Blk.of_made hb1; obtain ⟨p0, p1, p2⟩ := fP.two))))
            · go_wp2
              have f1 := ((f0.set_ 0 (.bool false)).set_ 1 (.int .i64 c1)).alloc (.cells #[.bool false, .int .i64 c1] 24)
              have hb3 := (below_set (below_set (g := w.heap.size) (i := 0) hb2 (Nat.le_refl _) (.bool false)) (g := w.heap.size) (i := 1) (Nat.le_refl _) (.int .i64 c1)).alloc (by simp; omega) (.cells #[.bool false, .int .i64 c1] 24)
              go_roundw
              case rel => exact ⟨k + 1, false, c1, m, by omega, by go_num, rfl, hnext.out, f1, hb3⟩
              case measure => simp [intOf]; omega
            · go_wp2
              have f1 := (((f0.far (p := ⟨wr.heap.size, 0, none⟩) (by simp; omega) (.bool false)).far (p := ⟨wr.heap.size, 1, none⟩) (by simp; omega) (.int .i64 c1)).set_ 0 (.bool false)).set_ 1 (.int .i64 c1)
              have hb3 := below_set (below_set (below_set (below_set (g := wr.heap.size) (i := 0) hb2 hz (.bool false)) (g := wr.heap.size) (i := 1) hz (.int .i64 c1)) (g := w.heap.size) (i := 0) (Nat.le_refl _) (.bool false)) (g := w.heap.size) (i := 1) (Nat.le_refl _) (.int .i64 c1)
              go_roundw
              case rel => exact ⟨k + 1, false, c1, m, by omega, by go_num, rfl, hnext.out, f1, hb3⟩
              case measure => simp [intOf]; omega
          · have hnext : Hid (ChgRel zs r f (k + 1) true c1 (m + 1)) := Lib.hid (by simpa using hnext.out)
            have ne0 := World.new_ne wr _ e0
            have ne1 := World.new_ne wr _ e1
            have ne2 := World.new_ne wr _ hc
            have fN := Blk.new wr 24 #[.bool false, .int .i64 0]
            have hA := hB.alloc (.cells #[.bool false, .int .i64 0] 24)
            go_wp2
            have hzA : w.heap.size < ((wr.alloc (.cells #[.bool false, .int .i64 0] 24)).drew).heap.size := by show _ < (wr.alloc _).heap.size; simp; omega
            have hzB : wr.heap.size ≤ ((wr.alloc (.cells #[.bool false, .int .i64 0] 24)).drew).heap.size := by show _ ≤ (wr.alloc _).heap.size; simp
            go_region_held3 (fun w' => w'.cell? ⟨w.heap.size, 0, none⟩ = some (.bool false) ∧ w'.cell? ⟨w.heap.size, 1, none⟩ = some (.int .i64 c) ∧ w'.cell? ⟨b, off + k, none⟩ = some (.bool (zs[k]?.getD false))) (first | go_keep) ((first | (go_at_call 11; refine (sHealthStep_is HX.out _).mono ?_; rintro e w1 ⟨rfl, hb1⟩; have q2 := hb1.cell (p := ⟨b, off + k, none⟩) (by simp; omega); first | (have f0 := hB.drew.below hb1 hz1; obtain ⟨g0, g1, g2⟩ := f0.two; have hb2 := hb.drew.trans (hb1.mono hz); have hz3 : w.heap.size < w1.heap.size := f0.lt) | (have f0 := hA.drew.below hb1 hzA; obtain ⟨g0, g1, g2⟩ := f0.two; have hb2 := ((hb.alloc hz _).drew).trans (hb1.mono (Nat.le_trans hz hzB)); have hz3 : w.heap.size < w1.heap.size := f0.lt; have fP := Blk.of_made hb1; obtain ⟨p0, p1, p2⟩ := fP.two))))
            · go_wp2
              have f1 := ((f0.set_ 0 (.bool true)).set_ 1 (.int .i64 c1)).alloc (.cells #[.bool true, .int .i64 c1] 24)
              have hb3 := (below_set (below_set (g := w.heap.size) (i := 0) hb2 (Nat.le_refl _) (.bool true)) (g := w.heap.size) (i := 1) (Nat.le_refl _) (.int .i64 c1)).alloc (by simp; omega) (.cells #[.bool true, .int .i64 c1] 24)
              go_roundw
              case rel => exact ⟨k + 1, true, c1, m + 1, by omega, by go_num, rfl, hnext.out, f1, hb3⟩
              case measure => simp [intOf]; omega
            · go_wp2
              have f1 := (((f0.far (p := ⟨wr.heap.size, 0, none⟩) (by simp; omega) (.bool true)).far (p := ⟨wr.heap.size, 1, none⟩) (by simp; omega) (.int .i64 c1)).set_ 0 (.bool true)).set_ 1 (.int .i64 c1)
              have hb3 := below_set (below_set (below_set (below_set (g := wr.heap.size) (i := 0) hb2 hz (.bool true)) (g := wr.heap.size) (i := 1) hz (.int .i64 c1)) (g := w.heap.size) (i := 0) (Nat.le_refl _) (.bool true)) (g := w.heap.size) (i := 1) (Nat.le_refl _) (.int .i64 c1)
              go_roundw
              case rel => exact ⟨k + 1, true, c1, m + 1, by omega, by go_num, rfl, hnext.out, f1, hb3⟩
              case measure => simp [intOf]; omega
          · have hnext : Hid (ChgRel zs r f (k + 1) false c1 (m + 1)) := Lib.hid (by simpa using hnext.out)
            have ne0 := World.new_ne wr _ e0
            have ne1 := World.new_ne wr _ e1
            have ne2 := World.new_ne wr _ hc
            have fN := Blk.new wr 24 #[.bool false, .int .i64 0]
            have hA := hB.alloc (.cells #[.bool false, .int .i64 0] 24)
            go_wp2
            have hzA : w.heap.size < ((wr.alloc (.cells #[.bool false, .int .i64 0] 24)).drew).heap.size := by show _ < (wr.alloc _).heap.size; simp; omega
            have hzB : wr.heap.size ≤ ((wr.alloc (.cells #[.bool false, .int .i64 0] 24)).drew).heap.size := by show _ ≤ (wr.alloc _).heap.size; simp
            go_region_held3 (fun w' => w'.cell? ⟨w.heap.size, 0, none⟩ = some (.bool true) ∧ w'.cell? ⟨w.heap.size, 1, none⟩ = some (.int .i64 c) ∧ w'.cell? ⟨b, off + k, none⟩ = some (.bool (zs[k]?.getD false))) (first | go_keep) ((first | (go_at_call 11; refine (sHealthStep_is HX.out _).mono ?_; rintro e w1 ⟨rfl, hb1⟩; have q2 := hb1.cell (p := ⟨b, off + k, none⟩) (by simp; omega); first | (have f0 := hB.drew.below hb1 hz1; obtain ⟨g0, g1, g2⟩ := f0.two; have hb2 := hb.drew.trans (hb1.mono hz); have hz3 : w.heap.size < w1.heap.size := f0.lt) | (have f0 := hA.drew.below hb1 hzA; obtain ⟨g0, g1, g2⟩ := f0.two; have hb2 := ((hb.alloc hz _).drew).trans (hb1.mono (Nat.le_trans hz hzB)); have hz3 : w.heap.size < w1.heap.size := f0.lt; have fP := Blk.of_made hb1; obtain ⟨p0, p1, p2⟩ := fP.two))))
            · go_wp2
              have f1 := ((f0.set_ 0 (.bool false)).set_ 1 (.int .i64 c1)).alloc (.cells #[.bool false, .int .i64 c1] 24)
              have hb3 := (below_set (below_set (g := w.heap.size) (i := 0) hb2 (Nat.le_refl _) (.bool false)) (g := w.heap.size) (i := 1) (Nat.le_refl _) (.int .i64 c1)).alloc (by simp; omega) (.cells #[.bool false, .int .i64 c1] 24)
              go_roundw
              case rel => exact ⟨k + 1, false, c1, m + 1, by omega, by go_num, rfl, hnext.out, f1, hb3⟩
              case measure => simp [intOf]; omega
            · go_wp2
              have f1 := (((f0.far (p := ⟨wr.heap.size, 0, none⟩) (by simp; omega) (.bool false)).far (p := ⟨wr.heap.size, 1, none⟩) (by simp; omega) (.int .i64 c1)).set_ 0 (.bool false)).set_ 1 (.int .i64 c1)
              have hb3 := below_set (below_set (below_set (below_set (g := wr.heap.size) (i := 0) hb2 hz (.bool false)) (g := wr.heap.size) (i := 1) hz (.int .i64 c1)) (g := w.heap.size) (i := 0) (Nat.le_refl _) (.bool false)) (g := w.heap.size) (i := 1) (Nat.le_refl _) (.int .i64 c1)
              go_roundw
              case rel => exact ⟨k + 1, false, c1, m + 1, by omega, by go_num, rfl, hnext.out, f1, hb3⟩
              case measure => simp [intOf]; omega
          · have hnext : Hid (ChgRel zs r f (k + 1) true c1 (m)) := Lib.hid (by simpa using hnext.out)
            have ne0 := World.new_ne wr _ e0
            have ne1 := World.new_ne wr _ e1
            have ne2 := World.new_ne wr _ hc
            have fN := Blk.new wr 24 #[.bool false, .int .i64 0]
            have hA := hB.alloc (.cells #[.bool false, .int .i64 0] 24)
            go_wp2
            have hzA : w.heap.size < ((wr.alloc (.cells #[.bool false, .int .i64 0] 24)).drew).heap.size := by show _ < (wr.alloc _).heap.size; simp; omega
            have hzB : wr.heap.size ≤ ((wr.alloc (.cells #[.bool false, .int .i64 0] 24)).drew).heap.size := by show _ ≤ (wr.alloc _).heap.size; simp
            go_region_held3 (fun w' => w'.cell? ⟨w.heap.size, 0, none⟩ = some (.bool true) ∧ w'.cell? ⟨w.heap.size, 1, none⟩ = some (.int .i64 c) ∧ w'.cell? ⟨b, off + k, none⟩ = some (.bool (zs[k]?.getD false))) (first | go_keep) ((first | (go_at_call 11; refine (sHealthStep_is HX.out _).mono ?_; rintro e w1 ⟨rfl, hb1⟩; have q2 := hb1.cell (p := ⟨b, off + k, none⟩) (by simp; omega); first | (have f0 := hB.drew.below hb1 hz1; obtain ⟨g0, g1, g2⟩ := f0.two; have hb2 := hb.drew.trans (hb1.mono hz); have hz3 : w.heap.size < w1.heap.size := f0.lt) | (have f0 := hA.drew.below hb1 hzA; obtain ⟨g0, g1, g2⟩ := f0.two; have hb2 := ((hb.alloc hz _).drew).trans (hb1.mono (Nat.le_trans hz hzB)); have hz3 : w.heap.size < w1.heap.size := f0.lt; have fP := Blk.of_made hb1; obtain ⟨p0, p1, p2⟩ := fP.two))))
            · go_wp2
              have f1 := ((f0.set_ 0 (.bool true)).set_ 1 (.int .i64 c1)).alloc (.cells #[.bool true, .int .i64 c1] 24)
              have hb3 := (below_set (below_set (g := w.heap.size) (i := 0) hb2 (Nat.le_refl _) (.bool true)) (g := w.heap.size) (i := 1) (Nat.le_refl _) (.int .i64 c1)).alloc (by simp; omega) (.cells #[.bool true, .int .i64 c1] 24)
              go_roundw
              case rel => exact ⟨k + 1, true, c1, m, by omega, by go_num, rfl, hnext.out, f1, hb3⟩
              case measure => simp [intOf]; omega
            · go_wp2
              have f1 := (((f0.far (p := ⟨wr.heap.size, 0, none⟩) (by simp; omega) (.bool true)).far (p := ⟨wr.heap.size, 1, none⟩) (by simp; omega) (.int .i64 c1)).set_ 0 (.bool true)).set_ 1 (.int .i64 c1)
              have hb3 := below_set (below_set (below_set (below_set (g := wr.heap.size) (i := 0) hb2 hz (.bool true)) (g := wr.heap.size) (i := 1) hz (.int .i64 c1)) (g := w.heap.size) (i := 0) (Nat.le_refl _) (.bool true)) (g := w.heap.size) (i := 1) (Nat.le_refl _) (.int .i64 c1)
              go_roundw
              case rel => exact ⟨k + 1, true, c1, m, by omega, by go_num, rfl, hnext.out, f1, hb3⟩
              case measure => simp [intOf]; omega
        · obtain rfl : n = k := by omega
          have HD := Lib.hid (HE.out.trans (ChgRel.done (by rw [HL.out]; exact hr)))
          go_wp2
          go_ret
          exact ⟨ret_int HD.out.symm, hb⟩
    · have hv' := Bool.eq_false_iff.2 hv
      have HE := Lib.hid (changesH_bad (zs := zs) (r := r) (f := f) (.inr hv'))
      have hv2 := Lib.hid hv'
      clear hv
      by_cases v0 : inB r 1 10 = true
      · have v1 : inB f 1 10 = false := by unfold neededB at hv'; simp_all
        clear hv'
        go_enter Try.func22, Try.ntmps22
        go_wp2_with (go_at_call 38; refine (l1In_any _ _ _ _).mono ?_; rintro e w' ⟨rfl, rfl⟩)
        go_ret
        exact ⟨ret_int HE.out.symm, Below.refl _ _⟩
      · have v0' := Bool.eq_false_iff.2 v0
        clear hv' v0
        go_enter Try.func22, Try.ntmps22
        go_wp2_with (go_at_call 38; refine (l1In_any _ _ _ _).mono ?_; rintro e w' ⟨rfl, rfl⟩)
        go_ret
        exact ⟨ret_int HE.out.symm, Below.refl _ _⟩
end Go.Proofs.Ytnhodloclonfdaa
