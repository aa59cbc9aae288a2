/-
  l20Events, DrawEventsValid: events drawn by a reader.
-/
import Derived.Test.YtjiebaidjflkjaaDrawFlow
import Derived.Test.YtjiebaidjflkjaaEv
import Derived.Test.YtjiebaidjflkjaaHost0
namespace Go.Proofs.Ytjiebaidjflkjaa
open Go.RowKit
set_option linter.unusedVariables false

theorem infoE : (Try.prog.info? 57).map (fun i => (i.zero, i.size, i.bytes)) = some (some (.agg #[.int .i64 0, .int .i64 0, .int .i64 0, .int .i64 0, .int .i64 0, .int .i64 0]), 6, 48) := by kernel_rfl

/-- A draw hands back events. -/
def DrewEvents (W : World) (g P : Nat) (e : Ending) (w' : World) : Prop :=
  ∃ (A : Option Addr) (n c : Nat) (es : List Ev6), e = .returned (.slice A n c) ∧ n ≤ 41 ∧ n ≤ c ∧ c ≤ maxLen ∧ w'.ownsRow W.heap.size 57 6 (.slice A n c) n (evsV es) ∧ Dw W g P w'

theorem evsV_snoc (es : List Ev6) (t a b c d k : Int) : evsV es ++ [.int .i64 t, .int .i64 a, .int .i64 b, .int .i64 c, .int .i64 d, .int .i64 k] = evsV (es ++ [⟨t, a, b, c, d, k⟩]) := by
  unfold evsV
  rw [recV_append]
  rfl
theorem six_int (t a b c d k : Int) : ∀ u ∈ [Value.int .i64 t, .int .i64 a, .int .i64 b, .int .i64 c, .int .i64 d, .int .i64 k], u.oneCell' = true := by
  intro u hu
  simp at hu
  rcases hu with rfl | rfl | rfl | rfl | rfl | rfl <;> rfl

set_option maxRecDepth 10000 in
set_option maxHeartbeats 1600000 in
theorem events_any (g P : Nat) (n : Int) (w : World) (h : Rd w g P) (hP : P ≤ 50000000) (hn : 0 ≤ n) (hn' : n ≤ 1000) :
    Calls Try.prog 50 #[.pointer (some ⟨g, 0, none⟩), .int .i64 n] w (DrewEvents w g (P + 40000)) := by
  have D := Dw.start h
  have hlt := D.lt
  obtain ⟨i0, ti, tz, ts, tb⟩ := info_parts infoE
  have tzc : (Value.agg #[.int .i64 0, .int .i64 0, .int .i64 0, .int .i64 0, .int .i64 0, .int .i64 0]).cells.size = 6 := by kernel_rfl
  have hmk : ∀ W : World, (Instr.makeSlice 51 (.int .i64 41) (.int .i64 41)).run Try.prog W = .ok (.slice (some ⟨W.heap.size, 0, none⟩) 41 41) (W.alloc (.cells (madeCells (Array.replicate (5 + 1) (.int .i64 0)) 246) 57)) := fun W => by
    have := run_make_rowN (P := Try.prog) 51 57 i0 _ Try.underlying51 ti tz .i64 .i64 41 41 (Nat.le_refl _) (by rw [tb]; omega) (by omega) W
    rw [ts] at this
    exact this
  go_enter Try.func50, Try.ntmps50
  go_wp2_with fail
  have own0 := World.ownsRow_lit (base := w.heap.size) (e := 57) (size := 6) w #[] 0 (Nat.le_refl _) (by unfold maxLen; omega) (by simp)
  have D0 := D.alloc (.cells #[] 57)
  refine (pick_any _ _ _ _ D0.rd (by omega) (by omega) (by omega)).mono ?_
  rintro e w1 ⟨k0, hk0, hk1, rfl, hr1, hg1⟩
  have D1 := D0.picked hr1 hg1
  have R1 := own_picked own0 hg1 hlt
  clear D0 own0 hr1 hg1
  go_wp2_with fail
  go_loopw [5, 6, 7] (fun tv nw i wr => ∃ (k p m : Nat) (now : Int) (es : List Ev6), i = .int .i64 k ∧ k ≤ 7 ∧ m + k ≤ 7 ∧ p + 3100 * k ≤ P + 30000 ∧ nw = .int .i64 now ∧ 0 ≤ now ∧ now + 30 * k ≤ 1000 ∧ wr.ownsRow w.heap.size 57 6 tv m (evsV es) ∧ Dw w g p wr) (fun _ _ i _ => (intOf i).toNat)
  case atStart => exact ⟨k0.toNat, _, 0, 0, [], by rw [Int.toNat_of_nonneg hk0], by omega, by omega, by omega, rfl, by omega, by omega, R1, D1⟩
  case round =>
    obtain ⟨k, p, m', now, es, rfl, hk, hm, hp, rfl, n0, n1, R, D2⟩ := hrel
    clear R1 D1
    by_cases hlt' : 0 < k
    · go_wp2_with fail
      refine (pick_any _ _ _ _ D2.rd (by omega) (by omega) (by omega)).mono ?_
      rintro e w5 ⟨y, hy0, hy1, rfl, hr5, hg5⟩
      have D3 := D2.picked hr5 hg5
      have R3 := own_picked R hg5 hlt
      clear D2 R hr5 hg5
      go_wp2_with fail
      refine (flow_any _ _ _ _ D3.rd (by omega) (by omega) (by omega)).mono ?_
      rintro e w6 ⟨f1, f2, f3, f4, f5, rfl, D4⟩
      have D5 := D3.picked ⟨D4.rd, D4.c0⟩ D4.gr
      have R5 := own_picked R3 D4.gr hlt
      clear D3 R3 D4
      go_wp2_with (at_builtin; refine wpList_append_sl _ rfl _ _ 51 rfl w.heap.size 57 i0 _ 6 48 Try.underlying51 ti tz ts tb tzc (by decide) _ m' _ (by rfl) (R5.alloc _) _ _ (some ⟨w6.heap.size, 0, none⟩) 1 1 [.int .i64 (now + y), .int .i64 f1, .int .i64 f2, .int .i64 f3, .int .i64 f4, .int .i64 f5] rfl (Sl.new #[.int .i64 (now + y), .int .i64 f1, .int .i64 f2, .int .i64 f3, .int .i64 f4, .int .i64 f5] 57 6 1 rfl) (six_int _ _ _ _ _ _) (by unfold maxLen; omega) (by omega) (by simp; have := D5.size_; omega) ?_; intro v1 w7 own7 g7 at7)
      have D8 := (D5.alloc (.cells #[.int .i64 (now + y), .int .i64 f1, .int .i64 f2, .int .i64 f3, .int .i64 f4, .int .i64 f5] 57)).append (R5.alloc _) g7
      rw [evsV_snoc] at own7
      clear g7 at7 R5 D5
      go_roundw
      case rel => exact ⟨k - 1, p + 1 + 3000, m' + 1, now + y, _, by (congr 1; omega), by omega, by omega, by omega, rfl, by omega, by omega, own7, D8⟩
      case measure => simp [intOf]; omega
    · obtain rfl : k = 0 := by omega
      clear hlt'
      go_wp2_with fail
      refine (odd_any _ _ _ _ D2.rd (by omega) (by omega) (by omega)).mono ?_
      rintro e w5 ⟨b, rfl, hr5, hg5⟩
      have D3 := D2.picked hr5 hg5
      have R3 := own_picked R hg5 hlt
      clear D2 R hr5 hg5
      rcases b
      · obtain ⟨A1, a1, rfl, e1, e2⟩ := own_is_slice R3
        go_wp2
        go_ret
        exact ⟨A1, m', a1, es, rfl, by omega, e1, e2, R3, D3.more (by omega)⟩
      · go_wp2_with fail
        refine (pick_any _ _ _ _ D3.rd (by omega) (by omega) (by omega)).mono ?_
        rintro e w6 ⟨v, a6, b6, rfl, hr6, hg6⟩
        have D4 := D3.picked hr6 hg6
        have R4 := own_picked R3 hg6 hlt
        clear D3 R3 hr6 hg6
        have hcase : v = 0 ∨ v = 1 ∨ v = 2 := by omega
        clear a6 b6
        rcases hcase with rfl | rfl | rfl
        · go_wp2_with fail
          refine (flow_any _ _ _ _ D4.rd (by omega) (by omega) (by omega)).mono ?_
          rintro e w7 ⟨f1, f2, f3, f4, f5, rfl, Df⟩
          have D5 := D4.picked ⟨Df.rd, Df.c0⟩ Df.gr
          have R5 := own_picked R4 Df.gr hlt
          clear D4 R4 Df
          go_wp2_with (at_builtin; refine wpList_append_sl _ rfl _ _ 51 rfl w.heap.size 57 i0 _ 6 48 Try.underlying51 ti tz ts tb tzc (by decide) _ m' _ (by rfl) (R5.alloc _) _ _ (some ⟨w7.heap.size, 0, none⟩) 1 1 [.int .i64 (-1), .int .i64 f1, .int .i64 f2, .int .i64 f3, .int .i64 f4, .int .i64 f5] rfl (Sl.new #[.int .i64 (-1), .int .i64 f1, .int .i64 f2, .int .i64 f3, .int .i64 f4, .int .i64 f5] 57 6 1 rfl) (six_int _ _ _ _ _ _) (by unfold maxLen; omega) (by omega) (by simp; have := D5.size_; omega) ?_; intro v1 w8 own8 g8 at8)
          have D8 := (D5.alloc (.cells #[.int .i64 (-1), .int .i64 f1, .int .i64 f2, .int .i64 f3, .int .i64 f4, .int .i64 f5] 57)).append (R5.alloc _) g8
          rw [evsV_snoc] at own8
          obtain ⟨A1, a1, rfl, e1, e2⟩ := own_is_slice own8
          go_ret
          exact ⟨A1, m' + 1, a1, _, rfl, by omega, e1, e2, own8, D8.more (by omega)⟩
        · go_wp2_with fail
          refine (flow_any _ _ _ _ D4.rd (by omega) (by omega) (by omega)).mono ?_
          rintro e w7 ⟨f1, f2, f3, f4, f5, rfl, Df⟩
          have D5 := D4.picked ⟨Df.rd, Df.c0⟩ Df.gr
          have R5 := own_picked R4 Df.gr hlt
          clear D4 R4 Df
          go_wp2_with (at_builtin; refine wpList_append_sl _ rfl _ _ 51 rfl w.heap.size 57 i0 _ 6 48 Try.underlying51 ti tz ts tb tzc (by decide) _ m' _ (by rfl) (R5.alloc _) _ _ (some ⟨w7.heap.size, 0, none⟩) 1 1 [.int .i64 now, .int .i64 f1, .int .i64 f2, .int .i64 f3, .int .i64 f4, .int .i64 f5] rfl (Sl.new #[.int .i64 now, .int .i64 f1, .int .i64 f2, .int .i64 f3, .int .i64 f4, .int .i64 f5] 57 6 1 rfl) (six_int _ _ _ _ _ _) (by unfold maxLen; omega) (by omega) (by simp; have := D5.size_; omega) ?_; intro v1 w8 own8 g8 at8)
          have D8 := (D5.alloc (.cells #[.int .i64 now, .int .i64 f1, .int .i64 f2, .int .i64 f3, .int .i64 f4, .int .i64 f5] 57)).append (R5.alloc _) g8
          rw [evsV_snoc] at own8
          obtain ⟨A1, a1, rfl, e1, e2⟩ := own_is_slice own8
          go_ret
          exact ⟨A1, m' + 1, a1, _, rfl, by omega, e1, e2, own8, D8.more (by omega)⟩
        · have ownm := World.ownsRow_lit (base := w6.heap.size) (e := 57) (size := 6) w6 (madeCells (Array.replicate (5 + 1) (.int .i64 0)) 246) 41 (Nat.le_refl _) (by unfold maxLen; omega) (by simp [size_madeCells])
          rw [toList_madeCells_rep, ← recV_replicate (f := evC) (s := 6) 41 ⟨0, 0, 0, 0, 0, 0⟩ (.int .i64 0) rfl] at ownm
          have ownm' := own_more ownm D4.size_
          have Dm := D4.alloc (.cells (madeCells (Array.replicate (5 + 1) (.int .i64 0)) 246) 57)
          obtain ⟨wm, hwm⟩ : ∃ wm, w6.alloc (.cells (madeCells (Array.replicate (5 + 1) (.int .i64 0)) 246) 57) = wm := ⟨_, rfl⟩
          have hmk6 := hmk w6
          rw [hwm] at ownm' Dm hmk6
          clear hwm ownm hmk
          go_wp2
          go_ret
          exact ⟨_, 41, 41, _, rfl, by omega, by omega, by unfold maxLen; omega, ownm', Dm.more (by omega)⟩

def DrawnEvents (W : World) (e : Ending) (w' : World) : Prop :=
  ∃ (A : Option Addr) (n c : Nat) (es : List Ev6), e = .returned (.slice A n c) ∧ n ≤ 41 ∧ n ≤ c ∧ c ≤ maxLen ∧ w'.ownsRow W.heap.size 57 6 (.slice A n c) n (evsV es) ∧ Below W.heap.size W w'
theorem drawEvents_any (A : Option Addr) (n c : Nat) (zs : List Int) (w : World) (hs : Sl w 0 w.heap.size 1 A n (zs.map (Value.int .u8))) (hnc : n ≤ c) (hc : c ≤ 9223372036854775807) (hz : AllByte zs) :
    Calls Try.prog 36 #[.slice A n c] w (DrawnEvents w) := by
  go_enter Try.func36, Try.ntmps36
  go_wp2_with fail
  refine (open_any _ _ _ zs _ hs hnc hc hz).mono ?_
  rintro e w1 ⟨g, hg, rfl, hr, b1⟩
  go_wp2_with fail
  refine (events_any _ _ _ _ hr (by omega) (by omega) (by omega)).mono ?_
  rintro e w2 ⟨A', n', c', es, rfl, h1, h2, h3, own, D⟩
  go_wp2
  go_ret
  exact ⟨A', n', c', es, rfl, h1, h2, h3, own_more own b1.size, D.out b1 (by omega)⟩
end Go.Proofs.Ytjiebaidjflkjaa
