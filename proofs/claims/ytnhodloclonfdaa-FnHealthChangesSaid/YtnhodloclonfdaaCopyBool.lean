/-
  toBoolS and eqBoolS of the laws: a copy is equal to the slice and lies in new memory; the equality tells whether two slices read alike.
-/
import Derived.Test.YtnhodloclonfdaaCopy0
namespace Go.Proofs.Ytnhodloclonfdaa
open Go.RowKit
set_option linter.unusedVariables false

theorem infoBool : (Try.prog.info? 4).map (fun i => (i.zero, i.size, i.bytes)) = some (some (.bool false), 1, 1) := by kernel_rfl

theorem Sl.Bool {w : World} {lo hi n : Nat} {A : Option Addr} {zs : List Bool} (h : Sl w lo hi 1 A n (zs.map (Value.bool))) {k : Nat} (hk : k < n) :
    ∃ b off, A = some ⟨b, off, none⟩ ∧ lo ≤ b ∧ b < hi ∧ w.cell? ⟨b, off + k, none⟩ = some (.bool (zs[k]?.getD false)) ∧ (zs.map (Value.bool))[k]? = some (.bool (zs[k]?.getD false)) := by
  obtain ⟨b, off, u, hA, h1, h2, hx, hc⟩ := h.at_ hk
  have hl : k < zs.length := by have := h.1; simp at this; omega
  have e : u = (.bool (zs[k]?.getD false)) := by
    simp [List.getElem?_eq_getElem hl] at hx ⊢
    exact hx.symm
  subst e
  exact ⟨b, off, hA, h1, h2, hc, hx⟩

theorem toBoolS_any (A : Option Addr) (n c : Nat) (zs : List Bool) (w : World) {lo hi : Nat} (hs : Sl w lo hi 1 A n (zs.map (Value.bool))) (hhi : hi ≤ w.heap.size) (hn : n ≤ 1048576) :
    Calls Try.prog 18 #[.slice A n c] w fun e w' => e = .returned (.slice (some ⟨w.heap.size, 0, none⟩) n n) ∧ w'.ownsRow w.heap.size 4 1 (.slice (some ⟨w.heap.size, 0, none⟩) n n) n (zs.map (Value.bool)) ∧ Below w.heap.size w w' := by
  have hl := hs.1
  have HL : Hid ((zs.map (Value.bool)).length = n) := Lib.hid (by rw [hl, Nat.mul_one])
  clear hl
  have hown0 := own_made w (.bool false) 4 n (by unfold maxLen; omega)
  have hb0 := (Below.refl w.heap.size w).alloc (Nat.le_refl _) (.cells (madeCells #[(.bool false)] n) 4)
  have hmk := run_make_row' (P := Try.prog) 34 4 (.bool false) 1 Try.underlying34 infoBool rfl .i64 .i64 n (by omega) (by omega)
  go_enter Try.func18, Try.ntmps18
  go_wp2
  obtain ⟨w0, hw0⟩ : ∃ w0, w0 = w.alloc (.cells (madeCells #[(.bool false)] n) 4) := ⟨_, rfl⟩
  rw [← hw0] at hown0 hb0 ⊢
  clear hw0 hmk
  go_loopw [4] (fun i wr => ∃ k : Nat, k ≤ n ∧ i = .int .i64 k ∧ wr.ownsRow w.heap.size 4 1 (.slice (some ⟨w.heap.size, 0, none⟩) n n) n (fillL (zs.map (Value.bool)) (.bool false) n k) ∧ Below w.heap.size w wr) (fun i _ => n - (intOf i).toNat)
  case atStart => exact ⟨0, Nat.zero_le _, rfl, by rw [fillL_zero]; exact hown0, hb0⟩
  case round =>
    obtain ⟨k, hk, rfl, hown, hb⟩ := hrel
    by_cases hlt : k < n
    · obtain ⟨b, off, rfl, _, _, hc, hx⟩ := (hs.below hb hhi).Bool hlt
      have hd : wr.cell? ⟨w.heap.size, k, none⟩ = some (.bool false) := by rw [hown.cellAt k (by omega)]; exact fillL_at hlt HL.out
      have hf : wr.frozen? ⟨w.heap.size, k, none⟩ = false := hown.frozenAt k
      have hst := (hown.stored k (.bool (zs[k]?.getD false))).1
      rw [fillL_set hlt HL.out hx] at hst
      have hb' := hb.setCell (p := ⟨w.heap.size, k, none⟩) (Nat.le_refl _) (.bool (zs[k]?.getD false))
      have HX := Lib.hid hx
      clear hx
      go_wp2
      go_roundw
      case rel => exact ⟨k + 1, by omega, by go_num, hst, hb'⟩
      case measure => simp [intOf]; omega
    · obtain rfl : n = k := by omega
      rw [fillL_full _ HL.out] at hown
      go_wp2
      go_ret
      exact ⟨rfl, hown, hb⟩

/-- Two lists read alike up to place k. -/
def AlikeBool (xs ys : List Bool) (k : Nat) : Prop := ∀ i, i < k → xs[i]?.getD false = ys[i]?.getD false
theorem AlikeBool.all {xs ys : List Bool} {n : Nat} (h : AlikeBool xs ys n) (h1 : xs.length = n) (h2 : ys.length = n) : xs = ys := by
  apply List.ext_getElem (by omega)
  intro i hi hj
  have := h i (by omega)
  simpa [List.getElem?_eq_getElem hi, List.getElem?_eq_getElem hj] using this

/-- Slices that are as long and read alike: true. -/
theorem eqBoolS_yes (A A' : Option Addr) (n c c' : Nat) (zs : List Bool) (w : World) {lo hi lo' hi' : Nat} (hs : Sl w lo hi 1 A n (zs.map (Value.bool))) (hs' : Sl w lo' hi' 1 A' n (zs.map (Value.bool))) (hn : n ≤ 1048576) :
    Calls Try.prog 20 #[.slice A n c, .slice A' n c'] w fun e w' => e = .returned (.bool true) ∧ Below w.heap.size w w' := by
  go_enter Try.func20, Try.ntmps20
  go_wp2
  go_loopw [5] (fun i wr => ∃ (k m : Nat), k ≤ n ∧ i = .int .i64 k ∧ wr = w.drewN m) (fun i _ => n - (intOf i).toNat)
  case atStart => exact ⟨0, 0, Nat.zero_le _, rfl, rfl⟩
  case round =>
    obtain ⟨k, m, hk, rfl, rfl⟩ := hrel
    by_cases hlt : k < n
    · obtain ⟨b, off, rfl, _, _, hc, _⟩ := hs.Bool hlt
      obtain ⟨b', off', rfl, _, _, hc', _⟩ := hs'.Bool hlt
      go_wp2
      go_region
      all_goals
        go_wp2
        go_roundw
        case rel => exact ⟨k + 1, m + 1, by omega, by go_num, rfl⟩
        case measure => simp [intOf]; omega
    · obtain rfl : n = k := by omega
      go_wp2
      go_ret
      exact ⟨rfl, below_drewN (Below.refl _ _) _⟩
end Go.Proofs.Ytnhodloclonfdaa
