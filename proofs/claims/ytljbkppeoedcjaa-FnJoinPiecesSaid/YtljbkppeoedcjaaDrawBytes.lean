/-
  l20Bytes: bytes drawn by a reader.
-/
import Derived.Test.YtljbkppeoedcjaaDraw0
import Derived.Test.YtljbkppeoedcjaaCopyByte
namespace Go.Proofs.Ytljbkppeoedcjaa
open Go.RowKit
set_option linter.unusedVariables false

theorem Blk.three {w : World} {g : Nat} {t : TypeId} {a b c : Value} (h : Blk w g t #[a, b, c]) : w.cell? ⟨g, 0, none⟩ = some a ∧ w.cell? ⟨g, 1, none⟩ = some b ∧ w.cell? ⟨g, 2, none⟩ = some c :=
  ⟨by rw [h.cell]; rfl, by rw [h.cell]; rfl, by rw [h.cell]; rfl⟩

set_option maxHeartbeats 800000 in
theorem bytes_any (g P most : Nat) (w : World) (h : Rd w g P) (hP : P ≤ 100000000) (hmost : most ≤ 1000000) :
    Calls Try.prog 29 #[.pointer (some ⟨g, 0, none⟩), .int .i64 most] w (DrewInts w g (P + 1 + 2 * most) 5 .u8 most 0 255) := by
  obtain ⟨i0, ti, tz, ts, tb⟩ := info_parts infoByte
  have D := Dw.start h
  have own0 := World.ownsRow_lit (base := w.heap.size) (e := 5) (size := 1) w #[] 0 (Nat.le_refl _) (by unfold maxLen; omega) (by simp)
  have D0 := D.alloc (.cells #[] 5)
  go_enter Try.func29, Try.ntmps29
  go_wp2_with fail
  refine (pick_any _ _ _ _ D0.rd (by omega) (by omega) (by omega)).mono ?_
  rintro e w2 ⟨k0, hk0, hk1, rfl, hr2, hg2⟩
  have D2 := D0.picked hr2 hg2
  have own2 := own_picked own0 hg2 D.lt
  clear own0 D0 hr2 hg2
  go_wp2_with fail
  go_loopw [5, 6] (fun out i wr => ∃ (k p m : Nat) (xs : List Int), i = .int .i64 k ∧ m + k ≤ most ∧ p + 2 * k ≤ P + 1 + 2 * most ∧ (∀ z ∈ xs, (0 : Int) ≤ z ∧ z ≤ 255) ∧ wr.ownsRow w.heap.size 5 1 out m (xs.map (Value.int .u8)) ∧ Dw w g p wr) (fun _ i _ => (intOf i).toNat)
  case atStart => exact ⟨k0.toNat, P + 1, 0, [], by rw [Int.toNat_of_nonneg hk0], by omega, by omega, by simp, own2, D2⟩
  case round =>
    obtain ⟨k, p, m, xs, rfl, hm, hp, hx, own, D3⟩ := hrel
    clear own2 D2
    by_cases hlt : 0 < k
    · go_wp2_with fail
      refine (pick_any _ _ _ _ D3.rd (by omega) (by omega) (by omega)).mono ?_
      rintro e w3 ⟨y, hy0, hy1, rfl, hr3, hg3⟩
      have D4 := D3.picked hr3 hg3
      have own3 := own_picked own hg3 D.lt
      replace hy1 : y ≤ 255 := by omega
      have hyw : IntKind.u8.wrap y = y := IntWalk.u8_in y (by omega)
      clear own hr3 hg3
      go_wp2_with fail
      have D5 := D4.alloc (.cells #[.int .u8 y, .int .u8 0, .int .u8 255] 5)
      refine (pick_any _ _ _ _ D5.rd (by omega) (by omega) (by omega)).mono ?_
      rintro e w4 ⟨z, hz0, hz1, rfl, hr4, hg4⟩
      have D6 := D5.picked hr4 hg4
      have own4 := own_picked (own3.alloc _) hg4 D.lt
      have bk := (Blk.new w3 5 #[.int .u8 y, .int .u8 0, .int .u8 255]).grown hg4 (by have := D4.size_; have := D.lt; simp; omega)
      obtain ⟨c0, c1, c2⟩ := bk.three
      clear own3 D4 D5 hr4 hg4 bk hyw
      obtain ⟨z', hz', hzz⟩ : ∃ z' : Int, w4.cell? ⟨w3.heap.size, z.toNat, none⟩ = some (.int .u8 z') ∧ (0 ≤ z' ∧ z' ≤ 255) := by
        have hcase : z = 0 ∨ z = 1 ∨ z = 2 := by omega
        rcases hcase with rfl | rfl | rfl
        · exact ⟨y, c0, by omega⟩
        · exact ⟨0, c1, by omega⟩
        · exact ⟨255, c2, by omega⟩
      replace hz1 : z < 3 := by omega
      clear c0 c1 c2
      go_wp2_with (at_builtin; refine wpList_append_sl _ rfl _ _ 22 rfl w.heap.size 5 i0 _ 1 1 Try.underlying22 ti tz ts tb rfl (by decide) _ m _ (by rfl) (own4.alloc _) _ _ (some ⟨w4.heap.size, 0, none⟩) 1 1 [.int .u8 z'] rfl (Sl.new #[.int .u8 z'] 5 1 1 rfl) (one_int _ _) (by unfold maxLen; omega) (by omega) (by simp; have := D6.size_; omega) ?_; intro v1 w5 own5 g5 at5)
      have D7 := (D6.alloc (.cells #[.int .u8 z'] 5)).append (own4.alloc _) g5
      have hx4 := ints_snoc hx hzz
      rw [show (xs.map (Value.int .u8)) ++ [.int .u8 z'] = (xs ++ [z']).map (Value.int .u8) from by simp] at own5
      clear g5 at5 own4 D6 hx hz' hzz
      go_roundw
      case rel => exact ⟨k - 1, p + 1 + 1, m + 1, _, by (congr 1; omega), by omega, by omega, hx4, own5, D7⟩
      case measure => simp [intOf]; omega
    · obtain rfl : k = 0 := by omega
      clear hlt
      obtain ⟨A', c', rfl, hnc', hmc'⟩ := own_is_slice own
      go_wp2_with fail
      go_ret
      exact ⟨A', m, c', xs, rfl, by omega, hnc', hmc', hx, own, D3.more (by omega)⟩
end Go.Proofs.Ytljbkppeoedcjaa
