/-
  DrawStreamRun: a list of kinds of packets.
-/
import Derived.Test.YtahpnlnplngafaaDraw0
import Derived.Test.YtahpnlnplngafaaDrawA
import Derived.Test.YtahpnlnplngafaaCopyInt
namespace Go.Proofs.Ytahpnlnplngafaa
open Go.RowKit
set_option linter.unusedVariables false

def lenOf : Value → Nat
  | .slice _ n _ => n
  | _ => 0
section
variable (A : Option Addr) (n c : Nat) (zs : List Int) (w : World) (hs : Sl w 0 w.heap.size 1 A n (zs.map (Value.int .u8))) (hnc : n ≤ c) (hc : c ≤ 9223372036854775807) (hz : AllByte zs)
include hs hnc hc hz

set_option maxHeartbeats 800000 in
theorem drawStreamRun_any : Calls Try.prog 29 #[.slice A n c] w (DrawnInts w 3 .i64 51 0 5) := by
  obtain ⟨i0, ti, tz, ts, tb⟩ := info_parts infoInt
  go_enter Try.func29, Try.ntmps29
  go_wp2_with fail
  refine (open_any _ _ _ zs _ hs hnc hc hz).mono ?_
  rintro e w1 ⟨g, hg, rfl, hr, hb⟩
  have D := Dw.start hr
  have own0 := World.ownsRow_lit (base := w1.heap.size) (e := 3) (size := 1) w1 #[] 0 (Nat.le_refl _) (by unfold maxLen; omega) (by simp)
  have D0 := D.alloc (.cells #[] 3)
  go_wp2_with fail
  refine (pick_any _ _ _ _ D0.rd (by omega) (by omega) (by omega)).mono ?_
  rintro e w2 ⟨k0, hk0, hk1, rfl, hr2, hg2⟩
  have D2 := D0.picked hr2 hg2
  have own2 := own_picked own0 hg2 D.lt
  clear own0 D0 hr hr2 hg2
  go_wp2_with fail
  go_loopw [4, 5] (fun out i wr => ∃ (k P m : Nat) (xs : List Int), i = .int .i64 k ∧ k ≤ 8 ∧ P + 2 * k ≤ 100 ∧ m + k ≤ 8 ∧ (∀ z ∈ xs, (0 : Int) ≤ z ∧ z ≤ 5) ∧ wr.ownsRow w1.heap.size 3 1 out m (xs.map (Value.int .i64)) ∧ Dw w1 g P wr) (fun _ i _ => (intOf i).toNat)
  case atStart => exact ⟨k0.toNat, _, 0, [], by rw [Int.toNat_of_nonneg hk0], by omega, by omega, by omega, by simp, own2, D2⟩
  case round =>
    obtain ⟨k, P, m, xs, rfl, hk, hP, hm, hx, own, D3⟩ := hrel
    by_cases hlt : 0 < k
    · go_wp2_with fail
      refine (pick_any _ _ _ _ D3.rd (by omega) (by omega) (by omega)).mono ?_
      rintro e w3 ⟨z, hz0, hz1, rfl, hr3, hg3⟩
      have D4 := D3.picked hr3 hg3
      have own3 := own_picked own hg3 D.lt
      clear own
      go_wp2_with (at_builtin; refine wpList_append_sl _ rfl _ _ 35 rfl w1.heap.size 3 i0 _ 1 8 Try.underlying35 ti tz ts tb rfl (by decide) _ m _ (by rfl) (own3.alloc _) _ _ (some ⟨w3.heap.size, 0, none⟩) 1 1 [.int .i64 (1 + z)] rfl (Sl.new #[.int .i64 (1 + z)] 3 1 1 rfl) (one_int _ _) (by unfold maxLen; omega) (by omega) (by simp; have := D4.size_; omega) ?_; intro v1 w4 own4 g4 at4)
      have D5 := (D4.alloc (.cells #[.int .i64 (1 + z)] 3)).append (own3.alloc _) g4
      have hx4 := ints_snoc hx (z := 1 + z) (by omega)
      rw [show (xs.map (Value.int .i64)) ++ [.int .i64 (1 + z)] = (xs ++ [1 + z]).map (Value.int .i64) from by simp] at own4
      clear g4 at4 own3 D4 hx
      go_roundw
      case rel => exact ⟨k - 1, P + 1, m + 1, _, by (congr 1; omega), by omega, by omega, by omega, hx4, own4, D5⟩
      case measure => simp [intOf]; omega
    · obtain rfl : k = 0 := by omega
      clear hlt
      go_wp2_with fail
      refine (odd_any _ _ _ _ D3.rd (by omega) (by omega) (by omega)).mono ?_
      rintro e w3 ⟨b, rfl, hr3, hg3⟩
      have D4 := D3.picked hr3 hg3
      have own3 := own_picked own hg3 D.lt
      have hm9 : m ≤ 9 := by omega
      have hP9 : P + 1 ≤ 101 := by omega
      clear own D3 hr3 hg3 hm hP
      obtain ⟨P1, hP1⟩ : ∃ q, P + 1 = q := ⟨_, rfl⟩
      rw [hP1] at D4 hP9
      clear hP1
      rcases b
      rotate_left
      go_wp2_with fail
      have D5 := D4.alloc (.cells #[.int .i64 0, .int .i64 5] 3)
      refine (pick_any _ _ _ _ D5.rd (by omega) (by omega) (by omega)).mono ?_
      rintro e w4 ⟨z, hz0, hz1, rfl, hr4, hg4⟩
      have D6 := D5.picked hr4 hg4
      have own4 := own_picked (own3.alloc _) hg4 D.lt
      have bk := (Blk.new w3 3 #[.int .i64 0, .int .i64 5]).grown hg4 (by have := D4.size_; have := D.lt; simp; omega)
      obtain ⟨c0, c1, _⟩ := bk.two
      have hcase : z = 0 ∨ z = 1 := by omega
      clear own3 D4 D5 hr4 hg4 bk hz0 hz1
      obtain ⟨z', hz', hzz⟩ : ∃ z' : Int, w4.cell? ⟨w3.heap.size, z.toNat, none⟩ = some (.int .i64 z') ∧ (0 ≤ z' ∧ z' ≤ 5) := by
        rcases hcase with rfl | rfl
        · exact ⟨0, c0, by omega⟩
        · exact ⟨5, c1, by omega⟩
      have hz0 : 0 ≤ z := by omega
      have hz1 : z < 2 := by omega
      clear hcase c0 c1
      go_wp2_with (at_builtin; refine wpList_append_sl _ rfl _ _ 35 rfl w1.heap.size 3 i0 _ 1 8 Try.underlying35 ti tz ts tb rfl (by decide) _ m _ (by rfl) (own4.alloc _) _ _ (some ⟨w4.heap.size, 0, none⟩) 1 1 [.int .i64 z'] rfl (Sl.new #[.int .i64 z'] 3 1 1 rfl) (one_int _ _) (by unfold maxLen; omega) (by omega) (by simp; have := D6.size_; omega) ?_; intro v1 w5 own5 g5 at5)
      have D4 := (D6.alloc (.cells #[.int .i64 z'] 3)).append (own4.alloc _) g5
      have hx4 := ints_snoc hx hzz
      rw [show (xs.map (Value.int .i64)) ++ [.int .i64 z'] = (xs ++ [z']).map (Value.int .i64) from by simp] at own5
      clear g5 at5 own4 D6 hx hz' hzz hz0 hz1
      have hm10 : m + 1 ≤ 10 := by omega
      have hP10 : P1 + 1 ≤ 102 := by omega
      clear hm9 hP9
      obtain ⟨xs1, hxs1⟩ : ∃ q, xs ++ [z'] = q := ⟨_, rfl⟩
      obtain ⟨m1, hm1⟩ : ∃ q, m + 1 = q := ⟨_, rfl⟩
      obtain ⟨P2, hP2⟩ : ∃ q, P1 + 1 = q := ⟨_, rfl⟩
      rw [hxs1] at own5 hx4
      rw [hm1] at own5 hm10
      rw [hP2] at D4 hP10
      clear hxs1 hm1 hP2
      rotate_left
      go_wp2_with fail
      have hm10 : m ≤ 10 := by omega
      have hP10 : P1 ≤ 102 := by omega
      clear hm9 hP9
      obtain ⟨m1, rfl⟩ : ∃ q, q = m := ⟨_, rfl⟩
      obtain ⟨P2, rfl⟩ : ∃ q, q = P1 := ⟨_, rfl⟩
      obtain ⟨xs1, rfl⟩ : ∃ q, q = xs := ⟨_, rfl⟩
      have own5 := own3
      have hx4 := hx
      clear own3 hx
      all_goals
        refine (odd_any _ _ _ _ D4.rd (by omega) (by omega) (by omega)).mono ?_
        rintro e w6 ⟨b, rfl, hr6, hg6⟩
        have D7 := D4.picked hr6 hg6
        have own6 := own_picked own5 hg6 D.lt
        clear own5 D4 hr6 hg6
        rcases b
        · go_wp2
          obtain ⟨A', c', rfl, hnc', hmc'⟩ := own_is_slice own6
          go_ret
          exact ⟨A', m1, c', xs1, rfl, by omega, hnc', hmc', hx4, own_more own6 hb.size, D7.out hb hg⟩
        · go_wp2_with fail
          go_loopw [4] (fun out wr => ∃ (m : Nat) (xs : List Int), m ≤ 51 ∧ (∀ z ∈ xs, (0 : Int) ≤ z ∧ z ≤ 5) ∧ wr.ownsRow w1.heap.size 3 1 out m (xs.map (Value.int .i64)) ∧ Dw w1 g (P2 + 1) wr) (fun out _ => 51 - lenOf out)
          case atStart => exact ⟨m1, xs1, by omega, hx4, own6, D7⟩
          case round =>
            clear own6 D7 hx4
            obtain ⟨m, xs, hm, hx, own, D3⟩ := hrel
            obtain ⟨A', c', rfl, hnc', hmc'⟩ := own_is_slice own
            by_cases hlt : m ≤ 50
            · go_wp2_with (at_builtin; refine wpList_append_sl _ rfl _ _ 35 rfl w1.heap.size 3 i0 _ 1 8 Try.underlying35 ti tz ts tb rfl (by decide) _ m _ (by rfl) (own.alloc _) _ _ (some ⟨wr.heap.size, 0, none⟩) 1 1 [.int .i64 1] rfl (Sl.new #[.int .i64 1] 3 1 1 rfl) (one_int _ _) (by unfold maxLen; omega) (by omega) (by simp; have := D3.size_; omega) ?_; intro v1 w4 own4 g4 at4)
              have D5 := (D3.alloc (.cells #[.int .i64 1] 3)).append (own.alloc _) g4
              have hx4 := ints_snoc hx (z := 1) (by omega)
              rw [show (xs.map (Value.int .i64)) ++ [.int .i64 1] = (xs ++ [1]).map (Value.int .i64) from by simp] at own4
              clear g4 at4 own D3 hx
              obtain ⟨A'', c'', rfl, _, _⟩ := own_is_slice own4
              go_roundw
              case rel => exact ⟨m + 1, _, by omega, hx4, own4, D5⟩
              case measure => simp [lenOf]; omega
            · go_wp2
              go_ret
              exact ⟨A', m, c', xs, rfl, by omega, hnc', hmc', hx, own_more own hb.size, D3.out hb hg⟩
end
end Go.Proofs.Ytahpnlnplngafaa
