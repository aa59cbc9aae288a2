/-
  DrawRampPool: hosts, their starts, a time and a ramp.
-/
import Derived.Test.YtnhodloclonfdaaDrawPool
namespace Go.Proofs.Ytnhodloclonfdaa
open Go.RowKit
set_option linter.unusedVariables false

def DrawnRampPool (W : World) (e : Ending) (w' : World) : Prop :=
  ∃ (A : Option Addr) (n c : Nat) (hs : List H3) (A' : Option Addr) (n' c' : Nat) (ss : List Int) (now ramp : Int), e = .returned (.tuple #[.slice A n c, .slice A' n' c', .int .i64 now, .int .i64 ramp]) ∧ n ≤ 8 ∧ n ≤ c ∧ c ≤ maxLen ∧ n' ≤ 9 ∧ n' ≤ c' ∧ c' ≤ maxLen ∧ Sl w' 0 w'.heap.size 3 A n (hostsV hs) ∧ Sl w' 0 w'.heap.size 1 A' n' (ss.map (Value.int .i64)) ∧ Below W.heap.size W w'

set_option maxRecDepth 10000 in
set_option maxHeartbeats 1600000 in
theorem drawRampPool_any (A : Option Addr) (n c : Nat) (zs : List Int) (w : World) (hs : Sl w 0 w.heap.size 1 A n (zs.map (Value.int .u8))) (hnc : n ≤ c) (hc : c ≤ 9223372036854775807) (hz : AllByte zs) :
    Calls Try.prog 35 #[.slice A n c] w (DrawnRampPool w) := by
  obtain ⟨i0, ti, tz, ts, tb⟩ := info_parts infoI
  go_enter Try.func35, Try.ntmps35
  go_wp2_with fail
  refine (open_any _ _ _ zs _ hs hnc hc hz).mono ?_
  rintro e w1 ⟨g, hg, rfl, hr, b1⟩
  go_wp2_with fail
  refine (pool_any _ _ _ _ hr (by omega) (by omega) (by omega)).mono ?_
  rintro e w2 ⟨A1, m1, c1, ps, rfl, h1, h2, h3, own1, D⟩
  have hlt := D.lt
  have b2 := D.out b1 (by omega)
  have sP := Sl.of_own own1
  have hrd := D.rd
  obtain ⟨P, hP⟩ : ∃ q, 0 + 20000 = q := ⟨_, rfl⟩
  have hPb : P ≤ 20000 := by omega
  rw [hP] at hrd
  have hw12 := D.size_
  clear own1 D hr hP
  go_wp2_with fail
  have D2 : Dw w2 g P w2 := Dw.start hrd
  have hlt2 := D2.lt
  have own0 := World.ownsRow_lit (base := w2.heap.size) (e := 3) (size := 1) w2 #[] 0 (Nat.le_refl _) (by unfold maxLen; omega) (by simp)
  have D3 := D2.alloc (.cells #[] 3)
  go_loopw [8, 9] (fun tv i wr => ∃ (k p : Nat) (ss : List Int), i = .int .i64 k ∧ k ≤ m1 ∧ p = P + k ∧ wr.ownsRow w2.heap.size 3 1 tv k (ss.map (Value.int .i64)) ∧ Dw w2 g p wr) (fun _ i _ => m1 - (intOf i).toNat)
  case atStart => exact ⟨0, _, [], rfl, by omega, rfl, own0, D3⟩
  case round =>
    obtain ⟨k, p, ss, rfl, hk, rfl, R, D4⟩ := hrel
    clear own0 D3 D2
    by_cases hlk : k < m1
    · have hki : (k : Int) < (m1 : Int) := by omega
      go_wp2_with fail
      refine (pick_any _ _ _ _ D4.rd (by omega) (by omega) (by omega)).mono ?_
      rintro e w5 ⟨y, hy0, hy1, rfl, hr5, hg5⟩
      have D5 := D4.picked hr5 hg5
      have R5 := own_picked R hg5 hlt2
      clear D4 R hr5 hg5
      go_wp2_with (at_builtin; refine wpList_append_sl _ rfl _ _ 43 rfl w2.heap.size 3 i0 _ 1 8 Try.underlying43 ti tz ts tb rfl (by decide) _ k _ (by rfl) (R5.alloc _) _ _ (some ⟨w5.heap.size, 0, none⟩) 1 1 [.int .i64 y] rfl (Sl.new #[.int .i64 y] 3 1 1 rfl) (one_int _ _) (by unfold maxLen; omega) (by omega) (by simp; have := D5.size_; omega) ?_; intro v1 w6 own6 g6 at6)
      have D8 := (D5.alloc (.cells #[.int .i64 y] 3)).append (R5.alloc _) g6
      rw [show (ss.map (Value.int .i64)) ++ [.int .i64 y] = (ss ++ [y]).map (Value.int .i64) from by simp] at own6
      clear g6 at6 R5 D5
      go_roundw
      case rel => exact ⟨k + 1, _, _, by go_num, by omega, rfl, own6, D8⟩
      case measure => simp [intOf]; omega
    · obtain rfl : m1 = k := by omega
      go_wp2_with fail
      refine (odd_any _ _ _ _ D4.rd (by omega) (by omega) (by omega)).mono ?_
      rintro e w5 ⟨b, rfl, hr5, hg5⟩
      have D5 := D4.picked hr5 hg5
      have R5 := own_picked R hg5 hlt2
      clear D4 R hr5 hg5
      rcases b
      · go_wp2_with fail
        refine (pick_any _ _ _ _ D5.rd (by omega) (by omega) (by omega)).mono ?_
        rintro e w6 ⟨y, hy0, hy1, rfl, hr6, hg6⟩
        have D6 := D5.picked hr6 hg6
        have R6 := own_picked R5 hg6 hlt2
        go_wp2_with fail
        refine (pick_any _ _ _ _ D6.rd (by omega) (by omega) (by omega)).mono ?_
        rintro e w7 ⟨y', hy0', hy1', rfl, hr7, hg7⟩
        have D7 := D6.picked hr7 hg7
        have R7 := own_picked R6 hg7 hlt2
        obtain ⟨A2, a2, rfl, e1, e2⟩ := own_is_slice R7
        have hz7 := D7.size_
        have sP7 := sP.grown D7.gr (Nat.le_refl _) (fun q hq => by cases hq; right; omega)
        have b7 := D7.out b2 (by omega)
        go_wp2
        refine bodyPost_ret (v := .tuple #[.slice A1 m1 c1, .slice A2 m1 a2, .int .i64 (50 + y), .int .i64 y']) ?_ rfl ⟨A1, m1, c1, ps, A2, m1, a2, ss, _, _, rfl, h1, h2, h3, by omega, e1, e2, sP7.more (Nat.zero_le _) (by omega), (Sl.of_own R7).more (Nat.zero_le _) (Nat.le_refl _), b7⟩
        simp [results, Try.results35, go_sem]
      · go_wp2_with (at_builtin; refine wpList_append_sl _ rfl _ _ 43 rfl w2.heap.size 3 i0 _ 1 8 Try.underlying43 ti tz ts tb rfl (by decide) _ m1 _ (by rfl) (R5.alloc _) _ _ (some ⟨w5.heap.size, 0, none⟩) 1 1 [.int .i64 1] rfl (Sl.new #[.int .i64 1] 3 1 1 rfl) (one_int _ _) (by unfold maxLen; omega) (by omega) (by simp; have := D5.size_; omega) ?_; intro v1 w5' own6 g6 at6)
        have D8 := (D5.alloc (.cells #[.int .i64 1] 3)).append (R5.alloc _) g6
        rw [show (ss.map (Value.int .i64)) ++ [.int .i64 1] = (ss ++ [1]).map (Value.int .i64) from by simp] at own6
        clear g6 at6 R5 D5
        refine (pick_any _ _ _ _ D8.rd (by omega) (by omega) (by omega)).mono ?_
        rintro e w6 ⟨y, hy0, hy1, rfl, hr6, hg6⟩
        have D6 := D8.picked hr6 hg6
        have R6 := own_picked own6 hg6 hlt2
        go_wp2_with fail
        refine (pick_any _ _ _ _ D6.rd (by omega) (by omega) (by omega)).mono ?_
        rintro e w7 ⟨y', hy0', hy1', rfl, hr7, hg7⟩
        have D7 := D6.picked hr7 hg7
        have R7 := own_picked R6 hg7 hlt2
        obtain ⟨A2, a2, rfl, e1, e2⟩ := own_is_slice R7
        have hz7 := D7.size_
        have sP7 := sP.grown D7.gr (Nat.le_refl _) (fun q hq => by cases hq; right; omega)
        have b7 := D7.out b2 (by omega)
        go_wp2
        refine bodyPost_ret (v := .tuple #[.slice A1 m1 c1, .slice A2 (m1 + 1) a2, .int .i64 (50 + y), .int .i64 y']) ?_ rfl ⟨A1, m1, c1, ps, A2, m1 + 1, a2, _, _, _, rfl, h1, h2, h3, by omega, e1, e2, sP7.more (Nat.zero_le _) (by omega), (Sl.of_own R7).more (Nat.zero_le _) (Nat.le_refl _), b7⟩
        simp [results, Try.results35, go_sem]
end Go.Proofs.Ytnhodloclonfdaa
