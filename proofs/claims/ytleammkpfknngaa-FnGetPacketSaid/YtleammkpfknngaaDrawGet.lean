/-
  DrawGetPacket: bytes of a packet, some of them changed.
-/
import Derived.Test.YtleammkpfknngaaDrawPkt0
import Derived.Test.YtleammkpfknngaaPktPutS
import Derived.Test.YtleammkpfknngaaPktPutD
import Derived.Test.YtleammkpfknngaaGet
import Derived.Deep.RegionHeld3
namespace Go.Proofs.Ytleammkpfknngaa
open Go.RowKit
set_option linter.unusedVariables false
attribute [local go_sem ↓] Go.wp_at_zero Go.wp_at_succ

/-- A call hands back bytes in memory of its own. -/
def DrawnRead (W : World) (e : Ending) (w' : World) : Prop := ∃ (A : Option Addr) (n c : Nat) (zs : List Int), e = .returned (.slice A n c) ∧ n ≤ 87 ∧ n ≤ c ∧ c ≤ maxLen ∧ AllByte zs ∧ Sl w' W.heap.size w'.heap.size 1 A n (zs.map (Value.int .u8)) ∧ Below W.heap.size W w'
theorem wrap_byte (z : Int) : 0 ≤ IntKind.u8.wrap z ∧ IntKind.u8.wrap z ≤ 255 := by rw [IntKind.wrap_u8]; omega
theorem byte_set {bs : List Int} {j : Nat} {y : Int} (h : AllByte bs) (hy : 0 ≤ y ∧ y ≤ 255) : AllByte (bs.set j y) := by
  intro z hz
  rcases List.mem_or_eq_of_mem_set hz with hz | rfl
  · exact h z hz
  · exact hy
theorem DrawnRead.own {W w' : World} {B n c : Nat} {A : Option Addr} {zs : List Int} (h : w'.ownsRow B 5 1 (.slice A n c) n (zs.map (Value.int .u8))) (hB : W.heap.size ≤ B) (hn : n ≤ 87) (hz : AllByte zs) (hb : Below W.heap.size W w') : DrawnRead W (.returned (.slice A n c)) w' := by
  obtain ⟨A', c', e, h1, h2⟩ := own_is_slice h
  cases e
  exact ⟨A, n, c, zs, rfl, hn, h1, h2, hz, (Sl.of_own h).more hB (Nat.le_refl _), hb⟩
theorem DrawnRead.set {W w : World} {B n c r j : Nat} {zs : List Int} {y : Int} (h : w.ownsRow B 5 1 (.slice (some ⟨r, 0, none⟩) n c) n (zs.map (Value.int .u8))) (hB : W.heap.size ≤ B) (hr : B ≤ r) (hn : n ≤ 87) (hz : AllByte zs) (hb : Below W.heap.size W w) (hy : 0 ≤ y ∧ y ≤ 255) : DrawnRead W (.returned (.slice (some ⟨r, 0, none⟩) n c)) (w.setCell ⟨r, j, none⟩ (.int .u8 y)) := by
  have st := (h.stored j (.int .u8 y)).1
  rw [show (zs.map (Value.int .u8)).set j (.int .u8 y) = (zs.set j y).map (Value.int .u8) from by rw [List.map_set]] at st
  exact DrawnRead.own st hB hn (byte_set hz hy) (hb.setCell (p := ⟨r, j, none⟩) (by show _ ≤ r; omega) _)

set_option maxHeartbeats 1600000 in
theorem drawGetPacket_any (A : Option Addr) (n c : Nat) (zs : List Int) (w : World) (hs : Sl w 0 w.heap.size 1 A n (zs.map (Value.int .u8))) (hnc : n ≤ c) (hc : c ≤ 9223372036854775807) (hz : AllByte zs) :
    Calls Try.prog 32 #[.slice A n c] w (DrawnRead w) := by
  obtain ⟨i0, hi0, hz0, hz1, hz2⟩ := info_parts infoByte
  go_enter Try.func32, Try.ntmps32
  go_wp2_with fail
  refine (open_any _ _ _ zs _ hs hnc hc hz).mono ?_
  rintro e w1 ⟨g, hg, rfl, hr, b1⟩
  go_wp2_with fail
  refine (packet0_any _ _ _ hr (by omega)).mono ?_
  rintro e w2 ⟨f, t, k, l, B, m, mc, ps, rfl, hv, hmc, hmx, hps, own2, D2⟩
  have hv5 := pktV_iff.1 hv
  have b2 := D2.out b1 hg
  have hgl := D2.rd.lt
  have hml : ps.length = m := (Sl.of_own own2).len
  have hps' : AllByte ps := hps
  have hq : (putP f t k l ps).length = 6 + m := by rw [putP_len (by rw [hml]; exact hv), hml]
  have hby : AllByte (putP f t k l ps) := by
    rw [putP_good (by rw [hml]; exact hv)]
    have hsb := sumS_bd (restP f t k l ps)
    intro z hm
    simp at hm
    rcases hm with rfl | rfl | rfl | rfl | rfl | rfl | hm
    · omega
    · omega
    · omega
    · omega
    · omega
    · omega
    · exact hps z hm
  go_wp2_with fail
  refine (sPutPacket_any _ _ _ _ _ _ _ ps _ (Sl.of_own own2) (Nat.le_refl _) (by omega) hps').mono ?_
  generalize putP f t k l ps = rs at hq hby ⊢
  rw [hq]
  intro e w3 hr3
  obtain ⟨A3, c3, rfl, own3, b3⟩ := hr3.form
  have D3 := D2.below b3 D2.size_
  have z3 := b3.size
  have b4 := b2.trans (b3.mono b2.size)
  have HQ := Lib.hid hq
  clear hr3 hq hml D2
  obtain ⟨q, hqq⟩ : ∃ q, 6 + m = q := ⟨_, rfl⟩
  rw [hqq] at own3 HQ ⊢
  have hq6 : 6 ≤ q := by omega
  have hq86 : q ≤ 86 := by omega
  clear hqq
  go_wp2_with fail
  refine (odd_any _ _ _ _ D3.rd (by omega) (by omega) (by omega)).mono ?_
  rintro e w4 ⟨b, rfl, hr4, hg4⟩
  have D4 := D3.picked hr4 hg4
  have own4 := own_picked own3 hg4 hgl
  have b5 := D4.out b1 hg
  clear D3 own3 b4 hr4 hg4
  have z2 := b2.size
  rcases b
  · go_wp2_with fail
    go_ret
    exact DrawnRead.own own4 b2.size (by omega) hby b5
  · go_wp2_with fail
    refine (pick_any _ _ _ _ D4.rd (by omega) (by omega) (by omega)).mono ?_
    rintro e w5 ⟨v, v0, v1, rfl, hr5, hg5⟩
    have D5 := D4.picked hr5 hg5
    have own5 := own_picked own4 hg5 hgl
    have b6 := D5.out b1 hg
    clear D4 own4 b5 hr5 hg5
    have hcase : v = 0 ∨ v = 1 ∨ v = 2 := by omega
    clear v0 v1
    obtain ⟨r, cap, hA, hcap, hr1, hr2⟩ := own_slice own5 (by omega)
    injection hA with hA1 hA2 hA3
    subst hA1
    subst hA3
    rcases hcase with rfl | rfl | rfl
    · go_wp2_with fail
      refine (pick_any _ _ _ _ D5.rd (by omega) (by omega) (by omega)).mono ?_
      rintro e w6 ⟨v, v0, v1, rfl, hr6, hg6⟩
      have D6 := D5.picked hr6 hg6
      have own6 := own_picked own5 hg6 hgl
      clear D5 own5 b6 hr6 hg6
      obtain ⟨j, rfl⟩ : ∃ j : Nat, v = (j : Int) := ⟨v.toNat, by omega⟩
      have hj : j < q := by omega
      have hj0 : (0 : Int) ≤ (j : Int) := by omega
      have hj1 : (j : Int) < (q : Int) := by omega
      clear v0 v1
      have hx := hby.at_ j
      obtain ⟨x, hxe⟩ : ∃ x, rs[j]?.getD 0 = x := ⟨_, rfl⟩
      rw [hxe] at hx
      have hcl : w6.cell? ⟨r, j, none⟩ = some (.int .u8 x) := by
        rw [own6.cellAt j (by omega), List.getElem?_map, List.getElem?_eq_getElem (by rw [HQ.out]; omega)]
        rw [List.getElem?_eq_getElem (by rw [HQ.out]; omega)] at hxe
        simp at hxe ⊢
        exact hxe
      have hfz : ∀ i, w6.frozen? ⟨r, i, none⟩ = false := own6.frozenAt
      clear hxe
      have hrg : r ≠ g := by omega
      go_wp2_with fail
      have hr6' : r < w6.heap.size := (own6.lt r rfl).2
      have hne : ∀ {x : Nat}, some r ≠ some g := fun he => hrg (by injection he)
      go_region_with (first | (go_at_call 48; refine (pick_any _ _ _ _ (D6.drewN 1).rd (by omega) (by omega) (by omega)).mono ?_; rintro e w7 ⟨v, v0, v1, rfl, hr7, hg7⟩; have q0 : w7.cell? ⟨r, j, none⟩ = some (.int .u8 x) := (World.cell?_of_block (a := ⟨r, j, none⟩) (hg7.block r hr6' (hne (x := 0)))).trans hcl; have q1 : ∀ i, w7.frozen? ⟨r, i, none⟩ = false := fun i => (World.frozen?_of_block (a := ⟨r, i, none⟩) (hg7.block r hr6' (hne (x := 0)))).trans (hfz i)))
      all_goals
        have D7 := (D6.drewN 1).picked hr7 hg7
        have own7 := own_picked (w := w6.drew) own6 hg7 hgl
        have b7 := D7.out b1 hg
        go_wp2_with fail
        go_ret
        exact DrawnRead.set own7 b2.size hr1 (by omega) hby b7 (wrap_byte _)
    · go_wp2_with fail
      refine (pick_any _ _ _ _ D5.rd (by omega) (by omega) (by omega)).mono ?_
      rintro e w6 ⟨v, v0, v1, rfl, hr6, hg6⟩
      have D6 := D5.picked hr6 hg6
      have own6 := own_picked own5 hg6 hgl
      have b7 := D6.out b1 hg
      clear D5 own5 b6 hr6 hg6
      obtain ⟨j, rfl⟩ : ∃ j : Nat, v = (j : Int) := ⟨v.toNat, by omega⟩
      have hj : j < q := by omega
      have hj0 : (0 : Int) ≤ (j : Int) := by omega
      have hj1 : (j : Int) ≤ (c3 : Int) := by omega
      have hcm := (own_is_slice own6)
      obtain ⟨A', c', e, h1, h2⟩ := hcm
      cases e
      clear v0 v1
      have sl6 := ((Sl.of_own own6).take (k := j) (by omega)).more (Nat.le_trans b2.size (Nat.le_refl _)) (Nat.le_refl _)
      rw [Nat.mul_one, ← List.map_take] at sl6
      go_wp2_with fail
      go_ret
      exact ⟨_, j, _, rs.take j, rfl, by omega, by omega, h2, hby.take j, sl6, b7⟩
    · have ownB := own5.alloc (.cells #[.int .u8 0] 5)
      have hcm := (own_is_slice own5)
      obtain ⟨A', c', e, h1, h2⟩ := hcm
      cases e
      go_wp2_with (at_builtin; refine wpList_append_sl _ rfl _ _ 22 rfl w2.heap.size 5 i0 _ 1 1 Try.underlying22 hi0 hz0 hz1 hz2 rfl (by decide) _ q _ (by rfl) ownB _ _ (some ⟨w5.heap.size, 0, none⟩) 1 1 [.int .u8 0] rfl (Sl.new #[.int .u8 0] 5 1 1 rfl) (by intro u hu; simp at hu; subst hu; rfl) (by unfold maxLen; omega) (by omega) (by have := D5.size_; have := b1.size; simp; omega) ?_; intro v9 w9 own9 g9 at9; obtain ⟨q9, cap9, hv9, hc9, hb9, hl9⟩ := own_slice own9 (by omega); subst hv9)
      go_ret
      rw [show rs.map (Value.int .u8) ++ [.int .u8 0] = (rs ++ [0]).map (Value.int .u8) from by simp] at own9
      refine DrawnRead.own own9 b2.size (by omega) (fun z hzz => ?_) (below_append (b6.alloc b6.size _) (own_more ownB b2.size) g9)
      rcases List.mem_append.1 hzz with h | h
      · exact hby z h
      · simp at h; omega
end Go.Proofs.Ytleammkpfknngaa
