/-
  toIntS and eqIntS of the laws: a copy is equal to the slice and lies in new memory; the equality tells whether two slices read alike.
-/
import Derived.Test.YtgdcfhifiincaaaCopy0
namespace Go.Proofs.Ytgdcfhifiincaaa
open Go.RowKit
set_option linter.unusedVariables false

theorem infoInt : (Try.prog.info? 3).map (fun i => (i.zero, i.size, i.bytes)) = some (some (.int .i64 0), 1, 8) := by kernel_rfl

theorem Sl.Int {w : World} {lo hi n : Nat} {A : Option Addr} {zs : List Int} (h : Sl w lo hi 1 A n (zs.map (Value.int .i64))) {k : Nat} (hk : k < n) :
    ∃ b off, A = some ⟨b, off, none⟩ ∧ lo ≤ b ∧ b < hi ∧ w.cell? ⟨b, off + k, none⟩ = some (.int .i64 (zs[k]?.getD 0)) ∧ (zs.map (Value.int .i64))[k]? = some (.int .i64 (zs[k]?.getD 0)) := by
  obtain ⟨b, off, u, hA, h1, h2, hx, hc⟩ := h.at_ hk
  have hl : k < zs.length := by have := h.1; simp at this; omega
  have e : u = (.int .i64 (zs[k]?.getD 0)) := by
    simp [List.getElem?_eq_getElem hl] at hx ⊢
    exact hx.symm
  subst e
  exact ⟨b, off, hA, h1, h2, hc, hx⟩


/-- Two lists read alike up to place k. -/
def AlikeInt (xs ys : List Int) (k : Nat) : Prop := ∀ i, i < k → xs[i]?.getD 0 = ys[i]?.getD 0
theorem AlikeInt.all {xs ys : List Int} {n : Nat} (h : AlikeInt xs ys n) (h1 : xs.length = n) (h2 : ys.length = n) : xs = ys := by
  apply List.ext_getElem (by omega)
  intro i hi hj
  have := h i (by omega)
  simpa [List.getElem?_eq_getElem hi, List.getElem?_eq_getElem hj] using this

/-- Slices that are as long and read alike: true. -/
theorem eqIntS_yes (A A' : Option Addr) (n c c' : Nat) (zs : List Int) (w : World) {lo hi lo' hi' : Nat} (hs : Sl w lo hi 1 A n (zs.map (Value.int .i64))) (hs' : Sl w lo' hi' 1 A' n (zs.map (Value.int .i64))) (hn : n ≤ 1048576) :
    Calls Try.prog 13 #[.slice A n c, .slice A' n c'] w fun e w' => e = .returned (.bool true) ∧ Below w.heap.size w w' := by
  go_enter Try.func13, Try.ntmps13
  go_wp2
  go_loopw [5] (fun i wr => ∃ (k m : Nat), k ≤ n ∧ i = .int .i64 k ∧ wr = w.drewN m) (fun i _ => n - (intOf i).toNat)
  case atStart => exact ⟨0, 0, Nat.zero_le _, rfl, rfl⟩
  case round =>
    obtain ⟨k, m, hk, rfl, rfl⟩ := hrel
    by_cases hlt : k < n
    · obtain ⟨b, off, rfl, _, _, hc, _⟩ := hs.Int hlt
      obtain ⟨b', off', rfl, _, _, hc', _⟩ := hs'.Int hlt
      go_wp2
      go_region
      all_goals
        go_wp2
        go_roundw
        case rel => exact ⟨k + 1, m + 1, by omega, by go_num, rfl⟩
        case measure => simp [intOf]; omega
    · obtain rfl : n = k := by omega
      go_wp2
      go_ret
      exact ⟨rfl, below_drewN (Below.refl _ _) _⟩
end Go.Proofs.Ytgdcfhifiincaaa
