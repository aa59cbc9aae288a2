/-
  The walk of the drawn law FnSumOf.
-/
import Derived.Test.YtahpnlnplngafaaDrawBytes
import Derived.Test.YtahpnlnplngafaaSumA
namespace Go.Proofs.Ytahpnlnplngafaa
open Go.RowKit
set_option linter.unusedVariables false

theorem drawSumOf_any (A : Option Addr) (n c : Nat) (zs : List Int) (w : World) (hs : Sl w 0 w.heap.size 1 A n (zs.map (Value.int .u8))) (hnc : n ≤ c) (hc : c ≤ 9223372036854775807) (hz : AllByte zs) :
    Calls Try.prog 34 #[.slice A n c] w (DrawnInts w 5 .u8 20 0 255) := by
  go_enter Try.func34, Try.ntmps34
  go_wp2_with fail
  refine (open_any _ _ _ zs _ hs hnc hc hz).mono ?_
  rintro e w1 ⟨g, hg, rfl, hr, hb⟩
  go_wp2_with fail
  refine (bytes_any g 0 20 _ hr (by omega) (by omega)).mono ?_
  rintro e w2 ⟨B, m, c', xs, rfl, hm, hmc, hcm, hx, own, D⟩
  go_wp2_with fail
  go_ret
  exact ⟨B, m, c', xs, rfl, hm, hmc, hcm, hx, own_more own hb.size, D.out hb hg⟩

theorem drop_rev (xs : List Int) (j : Nat) (h : j < xs.length) : (xs.drop (j + 1)).reverse ++ [xs[j]?.getD 0] = (xs.drop j).reverse := by
  rw [List.drop_eq_getElem_cons h, List.reverse_cons, List.getElem?_eq_getElem h]; rfl
theorem sumS_reverse (xs : List Int) : sumS xs.reverse = sumS xs := by unfold sumS; rw [sumL_reverse]
theorem AllByte.reverse {zs : List Int} (h : AllByte zs) : AllByte zs.reverse := fun z hz => h z (List.mem_reverse.1 hz)

set_option maxHeartbeats 800000 in
theorem wFnSumOf (A : Option Addr) (n c : Nat) (zs : List Int) (w : World) (hs : Sl w 0 w.heap.size 1 A n (zs.map (Value.int .u8))) (hnc : n ≤ c) (hm : c ≤ maxLen) (hw : ∀ z ∈ zs, (Lit.int .u8 z).wf = true) :
    Calls Try.prog 12 #[.slice A n c] w fun e w' => e = .returned (.bool true) ∧ Below w.heap.size w w' := by
  unfold maxLen at hm
  obtain ⟨i0, ti, tz, ts, tb⟩ := info_parts infoByte
  have hz := AllByte.of_wf hw
  clear hw
  by_cases hn : n ≤ 1048576
  · have hn1 : ¬ ((1048576 : Int) < (n : Int)) := by omega
    go_enter Try.func12, Try.ntmps12
    go_wp2_with fail
    refine (drawSumOf_any _ _ _ zs _ hs hnc (by omega) hz).mono ?_
    rintro e w1 ⟨B, m, c', xs, rfl, hm20, hmc, hcm, hx, own, b1⟩
    unfold maxLen at hcm
    have HL := Lib.hid (Sl.of_own own).len
    obtain ⟨s, hse, hs1⟩ : ∃ s, sumS xs = s ∧ 1 ≤ s ∧ s ≤ 255 := ⟨_, rfl, sumS_bd _⟩
    have HS := Lib.hid hse
    have hby : AllByte xs := hx
    clear hse hx
    go_wp2_with fail
    refine (iSum_any _ _ _ xs _ (Sl.of_own own) (by omega) hby).mono ?_
    rw [HS.out]
    rintro e w2 ⟨rfl, rfl⟩
    go_wp2_with fail
    refine (sSum_any _ _ _ xs _ (Sl.of_own own) (by omega) hby).mono ?_
    rw [HS.out]
    rintro e w2 ⟨rfl, rfl⟩
    go_wp2_with fail
    have own0 := World.ownsRow_lit (base := w1.heap.size) (e := 5) (size := 1) w1 #[] 0 (Nat.le_refl _) (by unfold maxLen; omega) (by simp)
    have b0 := ((Below.refl w1.heap.size w1).alloc (Nat.le_refl _) (.cells #[] 5))
    go_loopw [5, 6] (fun out i wr => ∃ j : Nat, j ≤ m ∧ i = .int .i64 ((j : Int) - 1) ∧ wr.ownsRow w1.heap.size 5 1 out (m - j) ((xs.drop j).reverse.map (Value.int .u8)) ∧ Below w1.heap.size w1 wr) (fun _ i _ => (intOf i + 1).toNat)
    case atStart => exact ⟨m, Nat.le_refl _, rfl, by rw [show m - m = 0 from by omega, List.drop_eq_nil_of_le (by rw [HL.out]; exact Nat.le_refl _)]; exact own0, b0⟩
    case round =>
      obtain ⟨j, hj, rfl, ownr, br⟩ := hrel
      clear own0 b0
      have hz1 := br.size
      by_cases hlt : 0 < j
      · obtain ⟨i, rfl⟩ : ∃ i, j = i + 1 := ⟨j - 1, by omega⟩
        rw [show (((i + 1 : Nat) : Int) - 1) = (i : Int) from by omega]
        obtain ⟨b, off, rfl, _, hbl, hc⟩ := ((Sl.of_own own).below br (Nat.le_refl _)).num (i := i) (by omega)
        obtain ⟨y, hy⟩ : ∃ y, xs[i]?.getD 0 = y := ⟨_, rfl⟩
        have hyb := hby.at_ i
        have hd := drop_rev xs i (by rw [HL.out]; omega)
        rw [hy] at hc hyb hd
        have HD := Lib.hid hd
        clear hy hd
        have hlt' : i < m := by omega
        go_wp2_with (at_builtin; refine wpList_append_sl _ rfl _ _ 24 rfl w1.heap.size 5 i0 _ 1 1 Try.underlying24 ti tz ts tb rfl (by decide) _ (m - (i + 1)) _ (by rfl) (ownr.alloc _) _ _ (some ⟨wr.heap.size, 0, none⟩) 1 1 [.int .u8 y] rfl (Sl.new #[.int .u8 y] 5 1 1 rfl) (one_int _ _) (by unfold maxLen; omega) (by omega) (by simp; omega) ?_; intro v1 w5 own5 g5 at5)
        have b5 := below_append (br.alloc br.size (.cells #[.int .u8 y] 5)) (ownr.alloc _) g5
        rw [show ((xs.drop (i + 1)).reverse.map (Value.int .u8)) ++ [.int .u8 y] = ((xs.drop (i + 1)).reverse ++ [y]).map (Value.int .u8) from by simp, HD.out, show m - (i + 1) + 1 = m - i from by omega] at own5
        clear g5 at5 ownr br hc hyb
        go_roundw
        case rel => exact ⟨i, by omega, rfl, own5, b5⟩
        case measure => simp [intOf]
      · obtain rfl : j = 0 := by omega
        obtain ⟨A', c2, rfl, hnc', hmc'⟩ := own_is_slice ownr
        rw [show (((0 : Nat) : Int) - 1) = -1 from rfl]
        simp only [List.drop_zero, Nat.sub_zero] at ownr
        rw [Nat.sub_zero]
        have HR := Lib.hid (sumS_reverse xs)
        go_wp2_with fail
        refine (iSum_any _ _ _ xs.reverse _ (Sl.of_own ownr) (by omega) hby.reverse).mono ?_
        rw [HR.out, HS.out]
        rintro e w2 ⟨rfl, rfl⟩
        go_wp2_with (go_at_call 18; refine (alive_any _).mono ?_; rintro e w4 ⟨rfl, b4⟩)
        go_ret
        exact ⟨rfl, b1.trans ((br.trans (b4.mono br.size)).mono b1.size)⟩
  · have hn1 : (1048576 : Int) < (n : Int) := by omega
    go_enter Try.func12, Try.ntmps12
    go_wp2
    go_ret
    exact ⟨rfl, Below.refl _ _⟩
end Go.Proofs.Ytahpnlnplngafaa
