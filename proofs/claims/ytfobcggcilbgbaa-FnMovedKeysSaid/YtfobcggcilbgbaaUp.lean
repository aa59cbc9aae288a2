/-
  up, l4Up: the hosts that are up.
-/
import Derived.Test.YtfobcggcilbgbaaPool
import Derived.Test.YtfobcggcilbgbaaApp1
import Derived.Test.YtfobcggcilbgbaaRetOwn
import Derived.Test.YtfobcggcilbgbaaHash
import Derived.Deep.CutBlock
namespace Go.Proofs.Ytfobcggcilbgbaa
open Go.RowKit
set_option linter.unusedVariables false

theorem upL_snoc_yes {hs : List H3} {k : Nat} (hk : k < hs.length) (h : (hAt hs k).2.2 = 1) : upL (hs.take (k + 1)) = upL (hs.take k) ++ [hAt hs k] := by
  rw [List.take_succ_eq_append_getElem hk, ← hAt_eq hk]
  unfold upL
  rw [List.filter_append]
  have : upB (hAt hs k) = true := by unfold upB; simp [h]
  simp [this]
theorem upL_snoc_no {hs : List H3} {k : Nat} (hk : k < hs.length) (h : ¬ (hAt hs k).2.2 = 1) : upL (hs.take (k + 1)) = upL (hs.take k) := by
  rw [List.take_succ_eq_append_getElem hk, ← hAt_eq hk]
  unfold upL
  rw [List.filter_append]
  have : upB (hAt hs k) = false := by unfold upB; simp [h]
  simp [this]
theorem upL_len (hs : List H3) : (upL hs).length ≤ hs.length := List.length_filter_le _ _
theorem upL_take_len (hs : List H3) (k : Nat) : (upL (hs.take k)).length ≤ k := Nat.le_trans (upL_len _) (List.length_take_le _ _)
theorem hostsV_snoc (l : List H3) (a b c : Int) : hostsV (l ++ [(a, b, c)]) = hostsV l ++ [.int .i64 a, .int .i64 b, .int .i64 c] := by rw [hostsV_append]; rfl

set_option maxRecDepth 100000 in
set_option maxHeartbeats 800000 in
theorem up_any (A : Option Addr) (n c : Nat) (hs : List H3) (w : World) {lo hi : Nat} (hS : Sl w lo hi 3 A n (hostsV hs)) (hhi : hi ≤ w.heap.size) (hn : n ≤ 1048576) :
    Calls Try.prog 45 #[.slice A n c] w (RetOwn w 39 3 (upL hs).length (hostsV (upL hs))) := by
  have HL := Lib.hid hS.hlen
  obtain ⟨i0, hi0, hz0, hz1, hz2⟩ := info_parts infoHost
  go_enter Try.func45, Try.ntmps45
  go_wp2
  go_loopw [3, 8] (fun o i wr => ∃ (k : Nat) (v : Value), k ≤ n ∧ i = .int .i64 k ∧ o = v ∧ wr.ownsRow w.heap.size 39 3 v (upL (hs.take k)).length (hostsV (upL (hs.take k))) ∧ Below w.heap.size w wr) (fun _ i _ => n - (intOf i).toNat)
  case atStart => exact ⟨0, _, Nat.zero_le _, rfl, rfl, World.ownsRow_nil _ _ _ _, Below.refl _ _⟩
  case round =>
    obtain ⟨k, v, hk, rfl, rfl, hown, hb⟩ := hrel
    by_cases hlt : k < n
    · obtain ⟨b, off, rfl, _, _, c0, c1, c2⟩ := (hS.below hb hhi).host hlt
      have hlk : k < hs.length := by rw [HL.out]; exact hlt
      have hz := hb.size
      have hul := upL_take_len hs k
      have HY := Lib.hid (@upL_snoc_yes hs k hlk)
      have HN := Lib.hid (@upL_snoc_no hs k hlk)
      obtain ⟨⟨h0, h1, h2⟩, hh⟩ : ∃ p, hAt hs k = p := ⟨_, rfl⟩
      rw [hh] at c0 c1 c2 HY HN
      clear hh
      by_cases hu : h2 = 1
      · subst hu
        have HE := Lib.hid (HY.out rfl)
        clear HY HN
        go_upto_region 6 with fail
        go_wp2_with (at_builtin; (refine wpList_app1 (wr.alloc _) w #[.int .i64 h0, .int .i64 h1, .int .i64 1] rfl _ _ 25 39 rfl i0 _ 3 24 Try.underlying25 hi0 hz0 hz1 hz2 rfl (by decide) _ _ _ (by rfl) (hown.alloc _) (hb.alloc hz _) (wr.heap.size + 1) 1 1 (by simp) rfl rfl (by intro u hu; simp at hu; rcases hu with rfl | rfl | rfl <;> rfl) (by unfold maxLen; omega) (by omega) ?_; intro v' w2 hown2 hb2))
        go_roundw
        case rel => exact ⟨k + 1, v', by omega, by go_num, rfl, by rw [HE.out, hostsV_snoc, List.length_append]; exact hown2, hb2⟩
        case measure => simp [intOf]; omega
      · have HE := Lib.hid (HN.out hu)
        clear HY HN
        have hu' : (h2 == 1) = false := by simpa using hu
        go_wp2
        go_roundw
        case rel => exact ⟨k + 1, _, by omega, by go_num, rfl, by rw [HE.out]; exact hown.alloc _, hb.alloc hz _⟩
        case measure => simp [intOf]; omega
    · obtain rfl : n = k := by omega
      have hE : hs.take n = hs := by rw [← HL.out, List.take_length]
      rw [hE] at hown
      clear hE
      go_wp2
      go_ret
      exact RetOwn.mk hown hb
end Go.Proofs.Ytfobcggcilbgbaa
