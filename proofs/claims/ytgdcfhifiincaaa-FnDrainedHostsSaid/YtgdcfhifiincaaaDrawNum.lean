/-
  l20Number: a number drawn by a reader, mostly of a pool.
-/
import Derived.Test.YtgdcfhifiincaaaDrawPool
import Derived.Test.YtgdcfhifiincaaaPool
namespace Go.Proofs.Ytgdcfhifiincaaa
open Go.RowKit
set_option linter.unusedVariables false

/-- A number drawn, and the reader alone changed. -/
def DrewNum (w : World) (g P : Nat) (e : Ending) (w' : World) : Prop := ∃ v : Int, e = .returned (.int .i64 v) ∧ RdC w w' g P ∧ w.grownBy w' (some g)
set_option maxHeartbeats 800000 in
theorem number_any (g P : Nat) (A : Option Addr) (n c : Nat) (hs : List H3) (w : World) {lo hi : Nat} (h : Rd w g P) (hP : P ≤ 50000000) (hS : Sl w lo hi 3 A n (hostsV hs)) (hhi : hi ≤ w.heap.size) (hg : g < lo) (hn : n ≤ 1000) :
    Calls Try.prog 63 #[.pointer (some ⟨g, 0, none⟩), .slice A n c] w (DrewNum w g (P + 10)) := by
  have D := Dw.start h
  have last : ∀ w1, Dw w g (P + 1) w1 → Calls Try.prog 59 #[.pointer (some ⟨g, 0, none⟩), .int .i64 32] w1 (Picked w1 g (P + 2) 0 31) := fun w1 D1 => pick_any _ _ _ _ D1.rd (by omega) (by omega) (by omega)
  by_cases hn0 : n = 0
  · subst hn0
    go_enter Try.func63, Try.ntmps63
    go_wp2_with fail
    refine (last _ (D.more (by omega))).mono ?_
    rintro e w2 ⟨y, y0, y1, rfl, hr2, hg2⟩
    go_wp2
    go_ret
    exact ⟨_, rfl, ⟨hr2.1.more (by omega), hr2.2⟩, hg2⟩
  · have hn1 : 0 < n := by omega
    go_enter Try.func63, Try.ntmps63
    go_wp2_with fail
    refine (pick_any _ _ _ _ h (by omega) (by omega) (by omega)).mono ?_
    rintro e w1 ⟨y, y0, y1, rfl, hr1, hg1⟩
    have D1 := D.picked hr1 hg1
    have s1 := hS.grown hg1 hhi (fun q hq => by cases hq; right; omega)
    have z1 := hg1.size
    by_cases hy : 0 < y
    · go_wp2_with fail
      refine (pick_any _ _ _ _ D1.rd (by omega) (by omega) (by omega)).mono ?_
      rintro e w2 ⟨z, z0, z1', rfl, hr2, hg2⟩
      have D2 := D1.picked hr2 hg2
      have s2 := s1.grown hg2 (by omega) (fun q hq => by cases hq; right; omega)
      obtain ⟨k, rfl⟩ : ∃ k : Nat, z = (k : Int) := ⟨z.toNat, by omega⟩
      obtain ⟨b, off, rfl, _, _, c0, c1, c2⟩ := s2.host (k := k) (by omega)
      obtain ⟨u, hu⟩ : ∃ u, (hAt hs k).1 = u := ⟨_, rfl⟩
      rw [hu] at c0
      have hki2 : (k : Int) < (n : Int) := by omega
      clear hu c1 c2
      go_wp2
      go_ret
      exact ⟨_, rfl, ⟨D2.rd.more (by omega), D2.c0⟩, D2.gr⟩
    · go_wp2_with fail
      refine (last _ D1).mono ?_
      rintro e w2 ⟨z, z0, z1', rfl, hr2, hg2⟩
      have D2 := D1.picked hr2 hg2
      go_wp2
      go_ret
      exact ⟨_, rfl, ⟨D2.rd.more (by omega), D2.c0⟩, D2.gr⟩

end Go.Proofs.Ytgdcfhifiincaaa
