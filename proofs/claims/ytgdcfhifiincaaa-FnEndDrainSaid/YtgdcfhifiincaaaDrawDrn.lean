/-
  DrawDrainedHosts, DrawEndDrain: a pool and a table of flows.
-/
import Derived.Test.YtgdcfhifiincaaaDrawTab
namespace Go.Proofs.Ytgdcfhifiincaaa
open Go.RowKit
set_option linter.unusedVariables false

def DrawnTab (W : World) (e : Ending) (w' : World) : Prop :=
  ∃ (A : Option Addr) (n c : Nat) (hs : List H3) (sz st : Int) (A2 : Option Addr) (n2 c2 : Nat) (es : List En7), e = .returned (.tuple #[.slice A n c, .agg #[.int .i64 sz, .int .i64 st, .slice A2 n2 c2]]) ∧ n ≤ 8 ∧ n2 ≤ 8 ∧ n2 ≤ c2 ∧ c2 ≤ maxLen ∧ Sl w' W.heap.size w'.heap.size 3 A n (hostsV hs) ∧ Sl w' W.heap.size w'.heap.size 7 A2 n2 (ensV es) ∧ Below W.heap.size W w'
theorem sl_set3 {w : World} {lo hi size n q : Nat} {A : Option Addr} {xs : List Value} (h : Sl w lo hi size A n xs) (hq : hi ≤ q ∨ q < lo) (x0 x1 x2 : Value) : Sl (set3 w q x0 x1 x2) lo hi size A n xs := ((h.setCell (p := ⟨q, 0, none⟩) hq x0).setCell (p := ⟨q, 1, none⟩) hq x1).setCell (p := ⟨q, 2, none⟩) hq x2

set_option maxRecDepth 100000 in
set_option maxHeartbeats 1600000 in
theorem drawDrained_any (A : Option Addr) (n c : Nat) (zs : List Int) (w : World) (hs : Sl w 0 w.heap.size 1 A n (zs.map (Value.int .u8))) (hnc : n ≤ c) (hc : c ≤ 9223372036854775807) (hz : AllByte zs) :
    Calls Try.prog 20 #[.slice A n c] w (DrawnTab w) := by
  have b0 := (Below.refl w.heap.size w).alloc (Nat.le_refl _) (.cells #[.int .i64 0, .int .i64 0, .slice none 0 0] 34)
  have K0 := Blk.new w 34 #[.int .i64 0, .int .i64 0, .slice none 0 0]
  have s0 := (hs.alloc (Nat.le_refl _) (.cells #[.int .i64 0, .int .i64 0, .slice none 0 0] 34)).more (lo' := 0) (hi' := (w.alloc (.cells #[.int .i64 0, .int .i64 0, .slice none 0 0] 34)).heap.size) (Nat.le_refl _) (by simp)
  go_enter Try.func20, Try.ntmps20
  go_wp2_with fail
  refine (open_any _ _ _ zs _ s0 hnc hc hz).mono ?_
  rintro e w1 ⟨g, hg, rfl, hr, b1⟩
  have K1 := K0.below b1 K0.lt
  have bw1 := b0.trans (b1.mono b0.size)
  have hgw : w.heap.size < g := by have := K0.lt; omega
  go_wp2_with fail
  refine (pool_any _ _ _ _ hr (by omega) (by omega) (by omega)).mono ?_
  rintro e w2 ⟨A1, n1, c1, hs1, rfl, h1, h2, h3, own1, D1⟩
  have K2 : Blk w2 w.heap.size 34 #[.int .i64 0, .int .i64 0, .slice none 0 0] := (D1.gr.block w.heap.size K1.lt (fun e => by cases e; omega)).trans K1
  have bw2 := D1.out bw1 (by omega)
  go_wp2_with fail
  refine (tab_any _ _ _ _ _ hs1 _ _ D1.rd (by omega) (Sl.of_own own1) (Nat.le_refl _) hr.lt (by omega) (by omega) (by omega)).mono ?_
  rintro e w3 ⟨sz, st, A2, n2, c2, es, rfl, m1, m2, m3, own2, D2⟩
  have K3 : Blk w3 w.heap.size 34 #[.int .i64 0, .int .i64 0, .slice none 0 0] := (D2.gr.block w.heap.size K2.lt (fun e => by cases e; omega)).trans K2
  have bw3 := D2.out bw2 (by omega)
  have own1' := own_picked own1 D2.gr hr.lt
  obtain ⟨c0, c1', c2', cf⟩ := K3.three_
  go_wp2
  have KE := K3.set3 (.int .i64 sz) (.int .i64 st) (.slice A2 n2 c2)
  have O1 := own_set3 own1' (own_neN own1' K3 (by decide)) (.int .i64 sz) (.int .i64 st) (.slice A2 n2 c2)
  have O2 := own_set3 own2 (own_neN own2 K3 (by decide)) (.int .i64 sz) (.int .i64 st) (.slice A2 n2 c2)
  have BE := below_set3 bw3 (Nat.le_refl _) (.int .i64 sz) (.int .i64 st) (.slice A2 n2 c2)
  obtain ⟨wE, hwE⟩ : ∃ wE, wE = set3 w3 w.heap.size (.int .i64 sz) (.int .i64 st) (.slice A2 n2 c2) := ⟨_, rfl⟩
  unfold set3 at hwE KE O1 O2 BE
  rw [← hwE] at KE O1 O2 BE ⊢
  obtain ⟨x0, x1, x2, _⟩ := KE.three_
  refine bodyPost_ret (v := .tuple #[.slice A1 n1 c1, .agg #[.int .i64 sz, .int .i64 st, .slice A2 n2 c2]]) ?_ rfl ⟨A1, n1, c1, hs1, sz, st, A2, n2, c2, es, rfl, h1, m1, m2, m3, (Sl.of_own O1).more bw1.size (Nat.le_refl _), (Sl.of_own O2).more bw2.size (Nat.le_refl _), BE⟩
  simp [results, Try.results20, go_sem, x0, x1, x2]
set_option maxRecDepth 100000 in
set_option maxHeartbeats 1600000 in
theorem drawEnd_any (A : Option Addr) (n c : Nat) (zs : List Int) (w : World) (hs : Sl w 0 w.heap.size 1 A n (zs.map (Value.int .u8))) (hnc : n ≤ c) (hc : c ≤ 9223372036854775807) (hz : AllByte zs) :
    Calls Try.prog 30 #[.slice A n c] w (DrawnTab w) := by
  have b0 := (Below.refl w.heap.size w).alloc (Nat.le_refl _) (.cells #[.int .i64 0, .int .i64 0, .slice none 0 0] 34)
  have K0 := Blk.new w 34 #[.int .i64 0, .int .i64 0, .slice none 0 0]
  have s0 := (hs.alloc (Nat.le_refl _) (.cells #[.int .i64 0, .int .i64 0, .slice none 0 0] 34)).more (lo' := 0) (hi' := (w.alloc (.cells #[.int .i64 0, .int .i64 0, .slice none 0 0] 34)).heap.size) (Nat.le_refl _) (by simp)
  go_enter Try.func30, Try.ntmps30
  go_wp2_with fail
  refine (drawDrained_any _ _ _ zs _ s0 hnc hc hz).mono ?_
  rintro e w3 ⟨A1, n1, c1, hs1, sz, st, A2, n2, c2, es, rfl, h1, m1, m2, m3, sP, sE, b3⟩
  have K3 := K0.below b3 K0.lt
  have bw3 := b0.trans (b3.mono b0.size)
  obtain ⟨c0, c1', c2', cf⟩ := K3.three_
  go_wp2
  have hz3 : w3.heap.size = (set3 w3 w.heap.size (.int .i64 sz) (.int .i64 st) (.slice A2 n2 c2)).heap.size := by simp [set3]
  have KE := K3.set3 (.int .i64 sz) (.int .i64 st) (.slice A2 n2 c2)
  have O1 := sl_set3 (q := w.heap.size) sP (.inr (by simp)) (.int .i64 sz) (.int .i64 st) (.slice A2 n2 c2)
  have O2 := sl_set3 (q := w.heap.size) sE (.inr (by simp)) (.int .i64 sz) (.int .i64 st) (.slice A2 n2 c2)
  have BE := below_set3 bw3 (Nat.le_refl _) (.int .i64 sz) (.int .i64 st) (.slice A2 n2 c2)
  obtain ⟨wE, hwE⟩ : ∃ wE, wE = set3 w3 w.heap.size (.int .i64 sz) (.int .i64 st) (.slice A2 n2 c2) := ⟨_, rfl⟩
  rw [← hwE] at hz3
  unfold set3 at hwE KE O1 O2 BE
  rw [← hwE] at KE O1 O2 BE ⊢
  obtain ⟨x0, x1, x2, _⟩ := KE.three_
  refine bodyPost_ret (v := .tuple #[.slice A1 n1 c1, .agg #[.int .i64 sz, .int .i64 st, .slice A2 n2 c2]]) ?_ rfl ⟨A1, n1, c1, hs1, sz, st, A2, n2, c2, es, rfl, h1, m1, m2, m3, O1.more b0.size (by omega), O2.more b0.size (by omega), BE⟩
  simp [results, Try.results30, go_sem, x0, x1, x2]
end Go.Proofs.Ytgdcfhifiincaaa
