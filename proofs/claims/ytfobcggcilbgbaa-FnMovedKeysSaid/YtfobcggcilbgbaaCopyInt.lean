/-
  toIntS and eqIntS of the laws: a copy is equal to the slice and lies in new memory; the equality tells whether two slices read alike.
-/
import Derived.Test.YtfobcggcilbgbaaCopy0
namespace Go.Proofs.Ytfobcggcilbgbaa
open Go.RowKit
set_option linter.unusedVariables false

theorem infoInt : (Try.prog.info? 3).map (fun i => (i.zero, i.size, i.bytes)) = some (some (.int .i64 0), 1, 8) := by kernel_rfl

theorem Sl.Int {w : World} {lo hi n : Nat} {A : Option Addr} {zs : List Int} (h : Sl w lo hi 1 A n (zs.map (Value.int .i64))) {k : Nat} (hk : k < n) :
    ∃ b off, A = some ⟨b, off, none⟩ ∧ lo ≤ b ∧ b < hi ∧ w.cell? ⟨b, off + k, none⟩ = some (.int .i64 (zs[k]?.getD 0)) ∧ (zs.map (Value.int .i64))[k]? = some (.int .i64 (zs[k]?.getD 0)) := by
  obtain ⟨b, off, u, hA, h1, h2, hx, hc⟩ := h.at_ hk
  have hl : k < zs.length := by have := h.1; simp at this; omega
  have e : u = (.int .i64 (zs[k]?.getD 0)) := by
    simp [List.getElem?_eq_getElem hl] at hx ⊢
    exact hx.symm
  subst e
  exact ⟨b, off, hA, h1, h2, hc, hx⟩

theorem toIntS_any (A : Option Addr) (n c : Nat) (zs : List Int) (w : World) {lo hi : Nat} (hs : Sl w lo hi 1 A n (zs.map (Value.int .i64))) (hhi : hi ≤ w.heap.size) (hn : n ≤ 1048576) :
    Calls Try.prog 22 #[.slice A n c] w fun e w' => e = .returned (.slice (some ⟨w.heap.size, 0, none⟩) n n) ∧ w'.ownsRow w.heap.size 3 1 (.slice (some ⟨w.heap.size, 0, none⟩) n n) n (zs.map (Value.int .i64)) ∧ Below w.heap.size w w' := by
  have hl := hs.1
  have HL : Hid ((zs.map (Value.int .i64)).length = n) := Lib.hid (by rw [hl, Nat.mul_one])
  clear hl
  have hown0 := own_made w (.int .i64 0) 3 n (by unfold maxLen; omega)
  have hb0 := (Below.refl w.heap.size w).alloc (Nat.le_refl _) (.cells (madeCells #[(.int .i64 0)] n) 3)
  have hmk := run_make_row' (P := Try.prog) 40 3 (.int .i64 0) 8 Try.underlying40 infoInt rfl .i64 .i64 n (by omega) (by omega)
  go_enter Try.func22, Try.ntmps22
  go_wp2
  obtain ⟨w0, hw0⟩ : ∃ w0, w0 = w.alloc (.cells (madeCells #[(.int .i64 0)] n) 3) := ⟨_, rfl⟩
  rw [← hw0] at hown0 hb0 ⊢
  clear hw0 hmk
  go_loopw [4] (fun i wr => ∃ k : Nat, k ≤ n ∧ i = .int .i64 k ∧ wr.ownsRow w.heap.size 3 1 (.slice (some ⟨w.heap.size, 0, none⟩) n n) n (fillL (zs.map (Value.int .i64)) (.int .i64 0) n k) ∧ Below w.heap.size w wr) (fun i _ => n - (intOf i).toNat)
  case atStart => exact ⟨0, Nat.zero_le _, rfl, by rw [fillL_zero]; exact hown0, hb0⟩
  case round =>
    obtain ⟨k, hk, rfl, hown, hb⟩ := hrel
    by_cases hlt : k < n
    · obtain ⟨b, off, rfl, _, _, hc, hx⟩ := (hs.below hb hhi).Int hlt
      have hd : wr.cell? ⟨w.heap.size, k, none⟩ = some (.int .i64 0) := by rw [hown.cellAt k (by omega)]; exact fillL_at hlt HL.out
      have hf : wr.frozen? ⟨w.heap.size, k, none⟩ = false := hown.frozenAt k
      have hst := (hown.stored k (.int .i64 (zs[k]?.getD 0))).1
      rw [fillL_set hlt HL.out hx] at hst
      have hb' := hb.setCell (p := ⟨w.heap.size, k, none⟩) (Nat.le_refl _) (.int .i64 (zs[k]?.getD 0))
      have HX := Lib.hid hx
      clear hx
      go_wp2
      go_roundw
      case rel => exact ⟨k + 1, by omega, by go_num, hst, hb'⟩
      case measure => simp [intOf]; omega
    · obtain rfl : n = k := by omega
      rw [fillL_full _ HL.out] at hown
      go_wp2
      go_ret
      exact ⟨rfl, hown, hb⟩

/-- Two lists read alike up to place k. -/
def AlikeInt (xs ys : List Int) (k : Nat) : Prop := ∀ i, i < k → xs[i]?.getD 0 = ys[i]?.getD 0
theorem AlikeInt.all {xs ys : List Int} {n : Nat} (h : AlikeInt xs ys n) (h1 : xs.length = n) (h2 : ys.length = n) : xs = ys := by
  apply List.ext_getElem (by omega)
  intro i hi hj
  have := h i (by omega)
  simpa [List.getElem?_eq_getElem hi, List.getElem?_eq_getElem hj] using this

/-- Slices that are as long and read alike: true. -/
theorem eqIntS_yes (A A' : Option Addr) (n c c' : Nat) (zs : List Int) (w : World) {lo hi lo' hi' : Nat} (hs : Sl w lo hi 1 A n (zs.map (Value.int .i64))) (hs' : Sl w lo' hi' 1 A' n (zs.map (Value.int .i64))) (hn : n ≤ 1048576) :
    Calls Try.prog 24 #[.slice A n c, .slice A' n c'] w fun e w' => e = .returned (.bool true) ∧ Below w.heap.size w w' := by
  go_enter Try.func24, Try.ntmps24
  go_wp2
  go_loopw [5] (fun i wr => ∃ (k m : Nat), k ≤ n ∧ i = .int .i64 k ∧ wr = w.drewN m) (fun i _ => n - (intOf i).toNat)
  case atStart => exact ⟨0, 0, Nat.zero_le _, rfl, rfl⟩
  case round =>
    obtain ⟨k, m, hk, rfl, rfl⟩ := hrel
    by_cases hlt : k < n
    · obtain ⟨b, off, rfl, _, _, hc, _⟩ := hs.Int hlt
      obtain ⟨b', off', rfl, _, _, hc', _⟩ := hs'.Int hlt
      go_wp2
      go_region
      all_goals
        go_wp2
        go_roundw
        case rel => exact ⟨k + 1, m + 1, by omega, by go_num, rfl⟩
        case measure => simp [intOf]; omega
    · obtain rfl : n = k := by omega
      go_wp2
      go_ret
      exact ⟨rfl, below_drewN (Below.refl _ _) _⟩
end Go.Proofs.Ytfobcggcilbgbaa
