/-
  DrawPacketValid, DrawPutPacket: a packet drawn.
-/
import Derived.Test.YtleammkpfknngaaDrawPacket
namespace Go.Proofs.Ytleammkpfknngaa
open Go.RowKit
set_option linter.unusedVariables false

def DrawnPacket (W : World) (e : Ending) (w' : World) : Prop :=
  ∃ (f t k l : Int) (A : Option Addr) (n c : Nat) (zs : List Int), e = .returned (.agg #[.int .i64 f, .int .i64 t, .int .i64 k, .int .i64 l, .slice A n c]) ∧ n ≤ 81 ∧ n ≤ c ∧ c ≤ maxLen ∧ (∀ z ∈ zs, (0 : Int) ≤ z ∧ z ≤ 255) ∧ w'.ownsRow W.heap.size 5 1 (.slice A n c) n (zs.map (Value.int .u8)) ∧ Below W.heap.size W w'

theorem drawPacketValid_any (A : Option Addr) (n c : Nat) (zs : List Int) (w : World) (hs : Sl w 0 w.heap.size 1 A n (zs.map (Value.int .u8))) (hnc : n ≤ c) (hc : c ≤ 9223372036854775807) (hz : AllByte zs) :
    Calls Try.prog 17 #[.slice A n c] w (DrawnPacket w) := by
  have b0 := (Below.refl w.heap.size w).alloc (Nat.le_refl _) (.cells #[.int .i64 0, .int .i64 0, .int .i64 0, .int .i64 0, .slice none 0 0] 27)
  have K0 := Blk.new w 27 #[.int .i64 0, .int .i64 0, .int .i64 0, .int .i64 0, .slice none 0 0]
  go_enter Try.func17, Try.ntmps17
  go_wp2_with fail
  refine (open_any _ _ _ zs _ ((hs.alloc (Nat.le_refl _) _).more (Nat.le_refl _) (by simp)) hnc hc hz).mono ?_
  rintro e w1 ⟨g, hg, rfl, hr, b1⟩
  have K1 := K0.below b1 (by simp)
  have b01 := b0.trans (b1.mono (by simp))
  simp only [World.size_alloc] at hg
  clear K0 b0 b1
  go_wp2_with fail
  refine (packet_any _ _ _ _ hr (by omega) (by omega) (by omega)).mono ?_
  rintro e w2 ⟨f, t, k, l, A', n', c', ps, rfl, h1, h2, h3, h4, own, D⟩
  have K2 := K1.grown D.gr (by simp; omega)
  have b2 := D.out b01 (by omega)
  have hlt := D.lt
  obtain ⟨d0', d1', d2', d3', d4', df⟩ := K2.five_
  go_wp2
  have KE := K2.setFive (.int .i64 f) (.int .i64 t) (.int .i64 k) (.int .i64 l) (.slice A' n' c')
  have BE := ((((b2.setCell (p := ⟨w.heap.size, 0, none⟩) (Nat.le_refl _) (.int .i64 f)).setCell (p := ⟨w.heap.size, 1, none⟩) (Nat.le_refl _) (.int .i64 t)).setCell (p := ⟨w.heap.size, 2, none⟩) (Nat.le_refl _) (.int .i64 k)).setCell (p := ⟨w.heap.size, 3, none⟩) (Nat.le_refl _) (.int .i64 l)).setCell (p := ⟨w.heap.size, 4, none⟩) (Nat.le_refl _) (.slice A' n' c')
  have RE := own_set5 own (own_ne own K2 (by decide)) (.int .i64 f) (.int .i64 t) (.int .i64 k) (.int .i64 l) (.slice A' n' c')
  obtain ⟨x0, x1, x2, x3, x4, _⟩ := KE.five_
  clear d0' d1' d2' d3' d4' df KE
  refine bodyPost_ret (v := .agg #[.int .i64 f, .int .i64 t, .int .i64 k, .int .i64 l, .slice A' n' c']) ?_ rfl ⟨f, t, k, l, A', n', c', ps, rfl, h1, h2, h3, h4, own_more RE b01.size, BE⟩
  simp [results, Try.results17, go_sem, x0, x1, x2, x3, x4]

theorem drawPutPacket_any (A : Option Addr) (n c : Nat) (zs : List Int) (w : World) (hs : Sl w 0 w.heap.size 1 A n (zs.map (Value.int .u8))) (hnc : n ≤ c) (hc : c ≤ 9223372036854775807) (hz : AllByte zs) :
    Calls Try.prog 25 #[.slice A n c] w (DrawnPacket w) := by
  have b0 := (Below.refl w.heap.size w).alloc (Nat.le_refl _) (.cells #[.int .i64 0, .int .i64 0, .int .i64 0, .int .i64 0, .slice none 0 0] 27)
  have K0 := Blk.new w 27 #[.int .i64 0, .int .i64 0, .int .i64 0, .int .i64 0, .slice none 0 0]
  go_enter Try.func25, Try.ntmps25
  go_wp2_with fail
  refine (open_any _ _ _ zs _ ((hs.alloc (Nat.le_refl _) _).more (Nat.le_refl _) (by simp)) hnc hc hz).mono ?_
  rintro e w1 ⟨g, hg, rfl, hr, b1⟩
  have K1 := K0.below b1 (by simp)
  have b01 := b0.trans (b1.mono (by simp))
  simp only [World.size_alloc] at hg
  clear K0 b0 b1
  go_wp2_with fail
  refine (packet_any _ _ _ _ hr (by omega) (by omega) (by omega)).mono ?_
  rintro e w2 ⟨f, t, k, l, A', n', c', ps, rfl, h1, h2, h3, h4, own, D⟩
  have K2 := K1.grown D.gr (by simp; omega)
  have b2 := D.out b01 (by omega)
  have hlt := D.lt
  obtain ⟨d0', d1', d2', d3', d4', df⟩ := K2.five_
  go_wp2
  have KE := K2.setFive (.int .i64 f) (.int .i64 t) (.int .i64 k) (.int .i64 l) (.slice A' n' c')
  have BE := ((((b2.setCell (p := ⟨w.heap.size, 0, none⟩) (Nat.le_refl _) (.int .i64 f)).setCell (p := ⟨w.heap.size, 1, none⟩) (Nat.le_refl _) (.int .i64 t)).setCell (p := ⟨w.heap.size, 2, none⟩) (Nat.le_refl _) (.int .i64 k)).setCell (p := ⟨w.heap.size, 3, none⟩) (Nat.le_refl _) (.int .i64 l)).setCell (p := ⟨w.heap.size, 4, none⟩) (Nat.le_refl _) (.slice A' n' c')
  have RE := own_set5 own (own_ne own K2 (by decide)) (.int .i64 f) (.int .i64 t) (.int .i64 k) (.int .i64 l) (.slice A' n' c')
  obtain ⟨x0, x1, x2, x3, x4, _⟩ := KE.five_
  clear d0' d1' d2' d3' d4' df KE
  refine bodyPost_ret (v := .agg #[.int .i64 f, .int .i64 t, .int .i64 k, .int .i64 l, .slice A' n' c']) ?_ rfl ⟨f, t, k, l, A', n', c', ps, rfl, h1, h2, h3, h4, own_more RE b01.size, BE⟩
  simp [results, Try.results25, go_sem, x0, x1, x2, x3, x4]
end Go.Proofs.Ytleammkpfknngaa
