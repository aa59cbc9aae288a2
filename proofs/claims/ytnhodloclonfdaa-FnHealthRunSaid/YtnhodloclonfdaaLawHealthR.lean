/-
  The walk of the drawn law FnHealthRun.
-/
import Derived.Test.YtnhodloclonfdaaLawHealth
namespace Go.Proofs.Ytnhodloclonfdaa
open Go.RowKit
set_option linter.unusedVariables false
attribute [local go_sem ↓] Go.wp_at_zero Go.wp_at_succ

theorem bools_one (l : List Bool) : ∀ u ∈ l.map Value.bool, u.oneCell' = true := by intro u hu; obtain ⟨z, _, rfl⟩ := List.mem_map.1 hu; rfl

set_option maxHeartbeats 1600000 in
theorem wFnHealthRun (A : Option Addr) (n c : Nat) (zs : List Int) (w : World) (hs : Sl w 0 w.heap.size 1 A n (zs.map (Value.int .u8))) (hnc : n ≤ c) (hm : c ≤ maxLen) (hw : ∀ z ∈ zs, (Lit.int .u8 z).wf = true) :
    Calls Try.prog 6 #[.slice A n c] w fun e w' => e = .returned (.bool true) ∧ Below w.heap.size w w' := by
  unfold maxLen at hm
  obtain ⟨i0, ti, tz, ts, tb⟩ := info_parts infoBool
  have hz := AllByte.of_wf hw
  clear hw
  by_cases hn : n ≤ 1048576
  · have hn1 : ¬ ((1048576 : Int) < (n : Int)) := by omega
    go_enter Try.func6, Try.ntmps6
    go_wp2_with fail
    refine (drawHealthRun_any _ _ _ zs _ hs hnc (by omega) hz).mono ?_
    rintro e w1 ⟨B, m, c', xs, r, f, rfl, hm61, hmc, hcm, r0, r1, f0, f1, own, b1⟩
    unfold maxLen at hcm
    have HL : Hid (xs.length = m) := Lib.hid (by have := (Sl.of_own own).1; simpa using this)
    obtain ⟨⟨u, k⟩, hu⟩ : ∃ p, runH xs r f = p := ⟨_, rfl⟩
    have HU := Lib.hid hu
    clear hu
    go_wp2_with fail
    refine (iHealthRun_is (Sl.of_own own) (Nat.le_refl _) (by omega) HU.out).mono ?_
    rintro e w2 ⟨rfl, b2⟩
    have d2 := b1.trans (b2.mono b1.size)
    have S2 := (Sl.of_own own).below b2 (Nat.le_refl _)
    have z2 := b2.size
    have X2 := Blk.new w2 24 #[.bool u, .int .i64 k]
    have d3 := d2.alloc d2.size (.cells #[.bool u, .int .i64 k] 24)
    have S3 := S2.alloc z2 (.cells #[.bool u, .int .i64 k] 24)
    obtain ⟨x0, x1⟩ := X2.two'
    go_wp2_with fail
    generalize hW : w2.alloc (.cells #[.bool u, .int .i64 k] 24) = w3 at X2 d3 S3 x0 x1 ⊢
    have hq3 : w2.heap.size < w3.heap.size := X2.lt
    obtain ⟨q, hq⟩ : ∃ q, w2.heap.size = q := ⟨_, rfl⟩
    have z3 : w1.heap.size ≤ w3.heap.size := by omega
    rw [hq] at X2 x0 x1 hq3 ⊢
    clear hq hW b2 z2 d2 S2
    go_region_held3 (fun w' => w'.cell? ⟨q, 0, none⟩ = some (.bool u) ∧ w'.cell? ⟨q, 1, none⟩ = some (.int .i64 k)) (first | go_keep) ((first | (go_at_call 17; refine (sHealthRun_is (S3.drew) (by exact z3) (by omega) HU.out).mono ?_; rintro e w4 ⟨rfl, b4⟩; have e2 := b4.cell (p := ⟨q, 0, none⟩) hq3; have e3 := b4.cell (p := ⟨q, 1, none⟩) hq3)))
    have d4 : Below w.heap.size w w4 := d3.drew.trans (b4.mono d3.size)
    have S4 := S3.drew.below b4 (by exact z3)
    have z4 : w1.heap.size ≤ w4.heap.size := Nat.le_trans z3 b4.size
    by_cases hgood : 1 ≤ r ∧ 1 ≤ f ∧ (m : Int) + r ≤ 60
    · obtain ⟨g1, g2, g3⟩ := hgood
      have HR := Lib.hid (runH_up (zs := xs) (r := r) (f := f) (neededB_iff.2 (by omega)) (by rw [HL.out]; omega))
      obtain ⟨⟨u', k'⟩, hu'⟩ : ∃ p, runH (xs ++ List.replicate r.toNat true) r f = p := ⟨_, rfl⟩
      have hup : u' = true := by have := HR.out; rw [hu'] at this; exact this
      subst hup
      have HU' := Lib.hid hu'
      clear hu'
      have own0 := World.ownsRow_lit (base := w4.heap.size) (e := 4) (size := 1) w4 #[] 0 (Nat.le_refl _) (by unfold maxLen; omega) (by simp)
      go_wp2_with (at_builtin; refine wpList_append_sl _ rfl _ _ 34 rfl w4.heap.size 4 i0 _ 1 1 Try.underlying34 ti tz ts tb rfl (by decide) _ 0 _ (by rfl) own0 _ _ B m c' (xs.map Value.bool) rfl (S4.alloc z4 _) (bools_one _) (by unfold maxLen; omega) (by omega) (by simp) ?_; intro v1 w5 own5 g5 at5)
      have b5 := below_append ((Below.refl w4.heap.size w4).alloc (Nat.le_refl _) (.cells #[] 4)) own0 g5
      rw [show (#[] : Array Value).toList ++ xs.map Value.bool = (xs ++ List.replicate 0 true).map Value.bool from by simp, Nat.zero_add] at own5
      clear g5 at5 own0
      have hrn : (r.toNat : Int) = r := by omega
      have HR2 := Lib.hid hrn
      clear hrn
      go_loopw [7, 8] (fun out i wr => ∃ j : Nat, j ≤ r.toNat ∧ i = .int .i64 j ∧ wr.ownsRow w4.heap.size 4 1 out (m + j) ((xs ++ List.replicate j true).map Value.bool) ∧ Below w4.heap.size w4 wr) (fun _ i _ => r.toNat - (intOf i).toNat)
      case atStart => exact ⟨0, Nat.zero_le _, rfl, own5, b5⟩
      case round =>
        obtain ⟨j, hj, rfl, ownr, br⟩ := hrel
        clear own5 b5
        have z5 := br.size
        by_cases hlt : j < r.toNat
        · have hlt' : (j : Int) < r := by omega
          go_wp2_with (at_builtin; refine wpList_append_sl _ rfl _ _ 34 rfl w4.heap.size 4 i0 _ 1 1 Try.underlying34 ti tz ts tb rfl (by decide) _ (m + j) _ (by rfl) (ownr.alloc _) _ _ (some ⟨wr.heap.size, 0, none⟩) 1 1 [.bool true] rfl (Sl.new #[.bool true] 4 1 1 rfl) (bools_one [true]) (by unfold maxLen; omega) (by omega) (by simp; omega) ?_; intro v2 w6 own6 g6 at6)
          have b6 := below_append (br.alloc br.size (.cells #[.bool true] 4)) (ownr.alloc _) g6
          rw [show ((xs ++ List.replicate j true).map Value.bool) ++ [.bool true] = (xs ++ List.replicate (j + 1) true).map Value.bool from by simp [List.replicate_succ']] at own6
          clear g6 at6 ownr br
          go_roundw
          case rel => exact ⟨j + 1, by omega, by go_num, own6, b6⟩
          case measure => simp [intOf]; omega
        · obtain rfl : j = r.toNat := by omega
          have hge : r ≤ ((r.toNat : Nat) : Int) := by omega
          obtain ⟨A', c2, rfl, hnc', hmc'⟩ := own_is_slice ownr
          have hfld : ∀ wx : World, (Instr.field 24 (.agg #[.bool true, .int .i64 k']) 0).run Try.prog wx = .ok (.bool true) wx := fun _ => by kernel_rfl
          go_wp2_with fail
          refine (iHealthRun_is (Sl.of_own ownr) (Nat.le_refl _) (by omega) HU'.out).mono ?_
          rintro e w6 ⟨rfl, b6⟩
          go_wp2
          go_ret
          exact ⟨rfl, d4.trans ((br.trans (b6.mono br.size)).mono d4.size)⟩
    · go_wp2_with (go_at_call 16; refine (alive_any _).mono ?_; rintro e w5 ⟨rfl, b5⟩)
      all_goals first
        | (exfalso; omega)
        | (go_ret; exact ⟨rfl, d4.trans (b5.mono d4.size)⟩)
  · have hn1 : (1048576 : Int) < (n : Int) := by omega
    go_enter Try.func6, Try.ntmps6
    go_wp2
    go_ret
    exact ⟨rfl, Below.refl _ _⟩
end Go.Proofs.Ytnhodloclonfdaa
