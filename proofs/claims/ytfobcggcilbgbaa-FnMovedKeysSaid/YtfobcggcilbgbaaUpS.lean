/-
  l4Up, HostsUp of both packages.
-/
import Derived.Test.YtfobcggcilbgbaaUp
import Derived.Test.YtfobcggcilbgbaaCopyInt
namespace Go.Proofs.Ytfobcggcilbgbaa
open Go.RowKit
set_option linter.unusedVariables false

set_option maxRecDepth 100000 in
set_option maxHeartbeats 800000 in
theorem l4Up_any (A : Option Addr) (n c : Nat) (hs : List H3) (w : World) {lo hi : Nat} (hS : Sl w lo hi 3 A n (hostsV hs)) (hhi : hi ≤ w.heap.size) (hn : n ≤ 1048576) :
    Calls Try.prog 66 #[.slice A n c] w (RetOwn w 39 3 (upL hs).length (hostsV (upL hs))) := by
  have HL := Lib.hid hS.hlen
  obtain ⟨i0, hi0, hz0, hz1, hz2⟩ := info_parts infoHost
  go_enter Try.func66, Try.ntmps66
  go_wp2
  go_loopw [3, 4] (fun o i wr => ∃ (k : Nat) (v : Value), k ≤ n ∧ i = .int .i64 k ∧ o = v ∧ wr.ownsRow w.heap.size 39 3 v (upL (hs.take k)).length (hostsV (upL (hs.take k))) ∧ Below w.heap.size w wr) (fun _ i _ => n - (intOf i).toNat)
  case atStart => exact ⟨0, _, Nat.zero_le _, rfl, rfl, World.ownsRow_lit w #[] 0 (Nat.le_refl _) (by unfold maxLen; omega) (by simp), (Below.refl _ _).alloc (Nat.le_refl _) _⟩
  case round =>
    obtain ⟨k, v, hk, rfl, rfl, hown, hb⟩ := hrel
    by_cases hlt : k < n
    · obtain ⟨b, off, rfl, _, _, c0, c1, c2⟩ := (hS.below hb hhi).host hlt
      have hlk : k < hs.length := by rw [HL.out]; exact hlt
      have hz := hb.size
      have hul := upL_take_len hs k
      have HY := Lib.hid (@upL_snoc_yes hs k hlk)
      have HN := Lib.hid (@upL_snoc_no hs k hlk)
      obtain ⟨⟨h0, h1, h2⟩, hh⟩ : ∃ p, hAt hs k = p := ⟨_, rfl⟩
      rw [hh] at c0 c1 c2 HY HN
      clear hh
      by_cases hu : h2 = 1
      · subst hu
        have HE := Lib.hid (HY.out rfl)
        clear HY HN
        go_wp2_with (at_builtin; (refine wpList_app1 wr w #[.int .i64 h0, .int .i64 h1, .int .i64 1] rfl _ _ 25 39 rfl i0 _ 3 24 Try.underlying25 hi0 hz0 hz1 hz2 rfl (by decide) _ _ _ (by rfl) hown hb wr.heap.size 1 1 (by simp) rfl rfl (by intro u hu; simp at hu; rcases hu with rfl | rfl | rfl <;> rfl) (by unfold maxLen; omega) (by omega) ?_; intro v' w2 hown2 hb2))
        go_roundw
        case rel => exact ⟨k + 1, v', by omega, by go_num, rfl, by rw [HE.out, hostsV_snoc, List.length_append]; exact hown2, hb2⟩
        case measure => simp [intOf]; omega
      · have HE := Lib.hid (HN.out hu)
        clear HY HN
        have hu' : (h2 == 1) = false := by simpa using hu
        go_wp2
        go_roundw
        case rel => exact ⟨k + 1, _, by omega, by go_num, rfl, by rw [HE.out]; exact hown, hb⟩
        case measure => simp [intOf]; omega
    · obtain rfl : n = k := by omega
      have hE : hs.take n = hs := by rw [← HL.out, List.take_length]
      rw [hE] at hown
      clear hE
      go_wp2
      go_ret
      exact RetOwn.mk hown hb

def numV (l : List Int) : List Value := l.map (Value.int .i64)
def upN (hs : List H3) : List Int := (upL hs).map (·.1)
def upNV (hs : List H3) : List Int := if poolV hs = true then upN hs else []
theorem upN_snoc_yes {hs : List H3} {k : Nat} (hk : k < hs.length) (h : (hAt hs k).2.2 = 1) : upN (hs.take (k + 1)) = upN (hs.take k) ++ [(hAt hs k).1] := by unfold upN; rw [upL_snoc_yes hk h]; simp
theorem upN_snoc_no {hs : List H3} {k : Nat} (hk : k < hs.length) (h : ¬ (hAt hs k).2.2 = 1) : upN (hs.take (k + 1)) = upN (hs.take k) := by unfold upN; rw [upL_snoc_no hk h]
theorem upN_take_len (hs : List H3) (k : Nat) : (upN (hs.take k)).length ≤ k := by unfold upN; rw [List.length_map]; exact upL_take_len hs k

set_option maxRecDepth 100000 in
set_option maxHeartbeats 800000 in
theorem sHostsUp_any (A : Option Addr) (n c : Nat) (hs : List H3) (w : World) {lo hi : Nat} (hS : Sl w lo hi 3 A n (hostsV hs)) (hhi : hi ≤ w.heap.size) (hn : n ≤ 1048576) :
    Calls Try.prog 68 #[.slice A n c] w (RetOwn w 3 1 (upNV hs).length ((upNV hs).map (Value.int .i64))) := by
  have HL := Lib.hid hS.hlen
  obtain ⟨i0, hi0, hz0, hz1, hz2⟩ := info_parts infoInt
  by_cases hv : poolV hs = true
  · have HV : RowKit.Hid (upNV hs = upN hs) := Lib.hid (by unfold upNV; rw [if_pos hv])
    rw [HV.out]
    go_enter Try.func68, Try.ntmps68
    go_wp2
    go_loopw [3, 4] (fun o i wr => ∃ (k : Nat) (v : Value), k ≤ n ∧ i = .int .i64 k ∧ o = v ∧ wr.ownsRow w.heap.size 3 1 v (upN (hs.take k)).length ((upN (hs.take k)).map (Value.int .i64)) ∧ Below w.heap.size w wr) (fun _ i _ => n - (intOf i).toNat)
    case atStart => exact ⟨0, _, Nat.zero_le _, rfl, rfl, World.ownsRow_lit w #[] 0 (Nat.le_refl _) (by unfold maxLen; omega) (by simp), (Below.refl _ _).alloc (Nat.le_refl _) _⟩
    case round =>
      obtain ⟨k, v, hk, rfl, rfl, hown, hb⟩ := hrel
      by_cases hlt : k < n
      · have hz := hb.size
        have hhi' := Nat.le_trans hhi hz
        have hSr := hS.below hb hhi
        have hlk : k < hs.length := by rw [HL.out]; exact hlt
        have hul := upN_take_len hs k
        have HY := Lib.hid (@upN_snoc_yes hs k hlk)
        have HN := Lib.hid (@upN_snoc_no hs k hlk)
        by_cases hu : (hAt hs k).2.2 = 1
        · have HE := Lib.hid (HY.out hu)
          clear HY HN
          go_wp2_with (first | (go_at_call 35; refine (sPoolValid_any _ _ _ hs _ hSr hhi' hn).mono ?_; rw [hv]; rintro e w1 ⟨rfl, hb1⟩; obtain ⟨b, off, rfl, _, _, c0, c1, c2⟩ := (hSr.below hb1 hhi').host hlt; have hbb := hb.trans (hb1.mono hz); have hown1 := own_below hown hb1; rw [hu] at c2) | (at_builtin; (refine wpList_app1 w1 w #[.int .i64 (hAt hs k).1] rfl _ _ 40 3 rfl i0 _ 1 8 Try.underlying40 hi0 hz0 hz1 hz2 rfl (by decide) _ _ _ (by rfl) hown1 hbb w1.heap.size 1 1 rfl rfl rfl (by intro u hu; simp at hu; subst hu; rfl) (by unfold maxLen; omega) (by omega) ?_; intro v' w2 hown2 hb2)))
          go_roundw
          case rel => exact ⟨k + 1, v', by omega, by go_num, rfl, by rw [HE.out, List.map_append, List.length_append]; exact hown2, hb2⟩
          case measure => simp [intOf]; omega
        · have HE := Lib.hid (HN.out hu)
          clear HY HN
          have hu' : ((hAt hs k).2.2 == 1) = false := by simpa using hu
          go_wp2_with (go_at_call 35; refine (sPoolValid_any _ _ _ hs _ hSr hhi' hn).mono ?_; rw [hv]; rintro e w1 ⟨rfl, hb1⟩; obtain ⟨b, off, rfl, _, _, c0, c1, c2⟩ := (hSr.below hb1 hhi').host hlt; have hbb := hb.trans (hb1.mono hz); have hown1 := own_below hown hb1)
          go_roundw
          case rel => exact ⟨k + 1, _, by omega, by go_num, rfl, by rw [HE.out]; exact hown1, hbb⟩
          case measure => simp [intOf]; omega
      · obtain rfl : n = k := by omega
        have hE : hs.take n = hs := by rw [← HL.out, List.take_length]
        rw [hE] at hown
        clear hE
        go_wp2
        go_ret
        exact RetOwn.mk hown hb
  · have hv' := Bool.eq_false_iff.2 hv
    have HV : RowKit.Hid (upNV hs = []) := Lib.hid (by unfold upNV; rw [if_neg hv])
    rw [HV.out]
    clear hv
    have hlit := World.ownsRow_lit (base := w.heap.size) (e := 3) (size := 1) w #[] 0 (Nat.le_refl _) (by unfold maxLen; omega) (by simp)
    have hb0 := (Below.refl w.heap.size w).alloc (Nat.le_refl _) (.cells #[] 3)
    go_enter Try.func68, Try.ntmps68
    go_wp2
    generalize w.alloc (.cells #[] 3) = w0 at hlit hb0 ⊢
    go_loopw [3, 4] (fun o i wr => i = .int .i64 0 ∧ o = .slice (some ⟨w.heap.size, 0, none⟩) 0 0 ∧ wr.ownsRow w.heap.size 3 1 (.slice (some ⟨w.heap.size, 0, none⟩) 0 0) 0 [] ∧ Below w.heap.size w wr) (fun _ _ _ => 0)
    case atStart => exact ⟨rfl, rfl, hlit, hb0⟩
    case round =>
      obtain ⟨rfl, rfl, hown, hb⟩ := hrel
      by_cases hlt : 0 < n
      · go_wp2_with (go_at_call 35; refine (sPoolValid_any _ _ _ hs _ (hS.below hb hhi) (Nat.le_trans hhi hb.size) hn).mono ?_; rw [hv']; rintro e w1 ⟨rfl, hb1⟩; have hbb := hb.trans (hb1.mono hb.size); have hown1 := own_below hown hb1)
        go_ret
        exact RetOwn.mk hown1 hbb
      · obtain rfl : n = 0 := by omega
        go_wp2
        go_ret
        exact RetOwn.mk hown hb

set_option maxRecDepth 100000 in
set_option maxHeartbeats 800000 in
theorem iHostsUp_any (A : Option Addr) (n c : Nat) (hs : List H3) (w : World) {lo hi : Nat} (hS : Sl w lo hi 3 A n (hostsV hs)) (hhi : hi ≤ w.heap.size) (hn : n ≤ 1048576) :
    Calls Try.prog 34 #[.slice A n c] w (RetOwn w 3 1 (upNV hs).length ((upNV hs).map (Value.int .i64))) := by
  have HL := Lib.hid hS.hlen
  obtain ⟨i0, hi0, hz0, hz1, hz2⟩ := info_parts infoInt
  by_cases hv : poolV hs = true
  · have HV : RowKit.Hid (upNV hs = upN hs) := Lib.hid (by unfold upNV; rw [if_pos hv])
    rw [HV.out]
    obtain ⟨us, hus⟩ : ∃ us, upL hs = us := ⟨_, rfl⟩
    obtain ⟨m, hml⟩ : ∃ m, us.length = m := ⟨_, rfl⟩
    have HU : RowKit.Hid (upN hs = us.map (·.1)) := Lib.hid (by unfold upN; rw [hus])
    have hm : m ≤ 1048576 := by have := upL_len hs; rw [hus, hml, HL.out] at this; omega
    have HS := Lib.hid hus
    have HM := Lib.hid hml
    clear hus hml
    rw [HU.out, List.length_map, HM.out]
    go_enter Try.func34, Try.ntmps34
    go_wp2_with (first | (go_at_call 19; refine (iPoolValid_any _ _ _ hs _ hS hhi hn).mono ?_; rw [hv]; rintro e w1 ⟨rfl, hb1⟩) | (go_at_call 45; refine (up_any _ _ _ hs _ (hS.below hb1 hhi) (Nat.le_trans hhi hb1.size) hn).mono ?_; rw [HS.out, HM.out]; intro e w2 hr; obtain ⟨A2, c2, rfl, own2, hb2⟩ := hr.form; have hS2 := Sl.of_own own2; have hbb := hb1.trans (hb2.mono hb1.size); clear own2 hr))
    go_loopw [3, 12] (fun o i wr => ∃ (k : Nat) (v : Value), k ≤ m ∧ i = .int .i64 k ∧ o = v ∧ wr.ownsRow w2.heap.size 3 1 v k (((us.map (·.1)).take k).map (Value.int .i64)) ∧ Below w2.heap.size w2 wr) (fun _ i _ => m - (intOf i).toNat)
    case atStart => exact ⟨0, _, Nat.zero_le _, rfl, rfl, World.ownsRow_nil _ _ _ _, Below.refl _ _⟩
    case round =>
      obtain ⟨k, v, hk, rfl, rfl, hown, hb⟩ := hrel
      by_cases hlt : k < m
      · obtain ⟨b, off, rfl, _, _, c0, c1, c2⟩ := (hS2.below hb (Nat.le_refl _)).host hlt
        have hlk : k < us.length := by rw [HM.out]; exact hlt
        have hz := hb.size
        have HE : RowKit.Hid ((us.map (·.1)).take (k + 1) = (us.map (·.1)).take k ++ [(hAt us k).1]) := Lib.hid (by
          rw [List.take_succ_eq_append_getElem (by rw [List.length_map]; exact hlk), hAt_eq hlk, List.getElem_map])
        obtain ⟨⟨h0, h1, h2⟩, hh⟩ : ∃ p, hAt us k = p := ⟨_, rfl⟩
        rw [hh] at c0 c1 c2 HE
        clear hh
        go_wp2_with (at_builtin; (refine wpList_app1 (wr.alloc _) w2 #[.int .i64 h0] rfl _ _ 40 3 rfl i0 _ 1 8 Try.underlying40 hi0 hz0 hz1 hz2 rfl (by decide) _ _ _ (by rfl) (hown.alloc _) (hb.alloc hz _) (wr.heap.size + 1) 1 1 (by simp) rfl rfl (by intro u hu; simp at hu; subst hu; rfl) (by unfold maxLen; omega) (by omega) ?_; intro v' w4 hown2 hb2'))
        go_roundw
        case rel => exact ⟨k + 1, v', by omega, by go_num, rfl, by rw [HE.out, List.map_append]; exact hown2, hb2'⟩
        case measure => simp [intOf]; omega
      · obtain rfl : m = k := by omega
        have hE : (us.map (·.1)).take m = us.map (·.1) := by rw [List.take_of_length_le (by rw [List.length_map, HM.out]; exact Nat.le_refl _)]
        rw [hE] at hown
        clear hE
        go_wp2
        go_ret
        exact RetOwn.older hown hb hbb
  · have hv' := Bool.eq_false_iff.2 hv
    have HV : RowKit.Hid (upNV hs = []) := Lib.hid (by unfold upNV; rw [if_neg hv])
    rw [HV.out]
    clear hv
    go_enter Try.func34, Try.ntmps34
    go_wp2_with (go_at_call 19; refine (iPoolValid_any _ _ _ hs _ hS hhi hn).mono ?_; rw [hv']; rintro e w1 ⟨rfl, hb1⟩)
    go_ret
    exact RetOwn.mk (World.ownsRow_nil _ _ _ _) hb1
end Go.Proofs.Ytfobcggcilbgbaa
