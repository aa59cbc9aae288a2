/-
  l9Place: where a flow stands among entries.
-/
import Derived.Test.YtgdcfhifiincaaaEnt
import Derived.Laws.StructEq
namespace Go.Proofs.Ytgdcfhifiincaaa
open Go.RowKit
set_option linter.unusedVariables false

/-- The place of a flow, or -1. -/
def plF (es : List En7) (e : En7) : Int := match es.findIdx? (fun x => sameF x e) with
  | some i => (i : Int)
  | none => -1
theorem plF_found {es : List En7} {e : En7} {k : Nat} (hk : k < es.length) (hj : ∀ j, j < k → sameF (enAt es j) e = false) (h : sameF (enAt es k) e = true) : plF es e = k := by
  have : es.findIdx? (fun x => sameF x e) = some k := by
    rw [List.findIdx?_eq_some_iff_getElem]
    refine ⟨hk, by rw [enAt_eq hk] at h; exact h, fun j hjk => ?_⟩
    have := hj j hjk
    rw [enAt_eq (by omega)] at this
    simpa using this
  unfold plF
  rw [this]
theorem plF_none {es : List En7} {e : En7} (hj : ∀ j, j < es.length → sameF (enAt es j) e = false) : plF es e = -1 := by
  have : es.findIdx? (fun x => sameF x e) = none := by
    rw [List.findIdx?_eq_none_iff]
    intro y hy
    obtain ⟨j, hjl, rfl⟩ := List.mem_iff_getElem.1 hy
    have := hj j hjl
    rw [enAt_eq hjl] at this
    exact this
  unfold plF
  rw [this]
theorem plF_cases (es : List En7) (e : En7) : (plF es e = -1 ∧ seenF es e = false) ∨ ∃ k, k < es.length ∧ plF es e = (k : Nat) ∧ sameF (enAt es k) e = true ∧ (∀ j, j < k → sameF (enAt es j) e = false) ∧ seenF es e = true := by
  unfold plF
  cases h : es.findIdx? (fun x => sameF x e) with
  | none =>
    left
    refine ⟨rfl, ?_⟩
    rw [List.findIdx?_eq_none_iff] at h
    unfold seenF
    rw [List.any_eq_false]
    intro x hx
    simp [h x hx]
  | some i =>
    right
    rw [List.findIdx?_eq_some_iff_getElem] at h
    obtain ⟨hi, h1, h2⟩ := h
    refine ⟨i, hi, rfl, by rw [enAt_eq hi]; exact h1, fun j hj => ?_, ?_⟩
    · have := h2 j hj
      rw [enAt_eq (by omega)]
      simpa using this
    · unfold seenF
      rw [List.any_eq_true]
      exact ⟨_, List.getElem_mem hi, h1⟩

set_option maxRecDepth 100000 in
set_option maxHeartbeats 1600000 in
theorem sPlace_any (A : Option Addr) (n c : Nat) (es : List En7) (f1 f2 f3 f4 f5 ft fl : Int) (w : World) {lo hi : Nat} (hS : Sl w lo hi 7 A n (ensV es)) (hhi : hi ≤ w.heap.size) (hn : n ≤ 1048577) :
    Calls Try.prog 56 #[.slice A n c, .agg #[.int .i64 f1, .int .i64 f2, .int .i64 f3, .int .i64 f4, .int .i64 f5]] w fun e w' => e = .returned (.int .i64 (plF es ⟨f1, f2, f3, f4, f5, ft, fl⟩)) ∧ Below w.heap.size w w' := by
  have HL := Lib.hid hS.nlen
  have hb0 := (Below.refl w.heap.size w).alloc (Nat.le_refl _) (.cells #[.int .i64 f1, .int .i64 f2, .int .i64 f3, .int .i64 f4, .int .i64 f5] 54)
  have hbk0 := Blk.new w 54 #[.int .i64 f1, .int .i64 f2, .int .i64 f3, .int .i64 f4, .int .i64 f5]
  go_enter Try.func56, Try.ntmps56
  go_wp2
  go_loopw [5] (fun i wr => ∃ k : Nat, k ≤ n ∧ i = .int .i64 k ∧ (∀ j, j < k → sameF (enAt es j) ⟨f1, f2, f3, f4, f5, ft, fl⟩ = false) ∧ Blk wr w.heap.size 54 #[.int .i64 f1, .int .i64 f2, .int .i64 f3, .int .i64 f4, .int .i64 f5] ∧ Below w.heap.size w wr) (fun i _ => n - (intOf i).toNat)
  case atStart => exact ⟨0, Nat.zero_le _, rfl, fun j hj => absurd hj (by omega), hbk0, hb0⟩
  case round =>
    clear hbk0 hb0
    obtain ⟨k, hk, rfl, hj, hbk, hb⟩ := hrel
    by_cases hlt : k < n
    · obtain ⟨b, off, rfl, _, _, c0, c1, c2, c3, c4, _, _⟩ := (hS.below hb hhi).en hlt
      have hlk : k < es.length := by rw [HL.out]; exact hlt
      have HF := Lib.hid (fun (h : sameF (enAt es k) ⟨f1, f2, f3, f4, f5, ft, fl⟩ = true) => plF_found hlk hj h)
      have HN : RowKit.Hid (sameF (enAt es k) ⟨f1, f2, f3, f4, f5, ft, fl⟩ = false → ∀ j, j < k + 1 → sameF (enAt es j) ⟨f1, f2, f3, f4, f5, ft, fl⟩ = false) := Lib.hid fun h j hj' => by
        rcases Nat.lt_or_ge j k with h1 | h1
        · exact hj j h1
        · obtain rfl : j = k := by omega
          exact h
      obtain ⟨⟨x1, x2, x3, x4, x5, xt, xl⟩, hh⟩ : ∃ p, enAt es k = p := ⟨_, rfl⟩
      rw [hh] at c0 c1 c2 c3 c4 HF HN
      simp only at c0 c1 c2 c3 c4
      have d0 : wr.cell? ⟨w.heap.size, 0, none⟩ = some (.int .i64 f1) := hbk.cell 0
      have d1 : wr.cell? ⟨w.heap.size, 1, none⟩ = some (.int .i64 f2) := hbk.cell 1
      have d2 : wr.cell? ⟨w.heap.size, 2, none⟩ = some (.int .i64 f3) := hbk.cell 2
      have d3 : wr.cell? ⟨w.heap.size, 3, none⟩ = some (.int .i64 f4) := hbk.cell 3
      have d4 : wr.cell? ⟨w.heap.size, 4, none⟩ = some (.int .i64 f5) := hbk.cell 4
      have hki : (0 : Int) ≤ (k : Int) := by omega
      have hki2 : (k : Int) < (n : Int) := by omega
      clear hh hj
      by_cases hs : sameF ⟨x1, x2, x3, x4, x5, xt, xl⟩ ⟨f1, f2, f3, f4, f5, ft, fl⟩ = true
      · have HE := Lib.hid (HF.out hs)
        obtain ⟨e1, e2, e3, e4, e5⟩ := sameF_iff.1 hs
        simp only at e1 e2 e3 e4 e5
        subst e1 e2 e3 e4 e5
        clear hs HF HN
        go_wp2
        go_quiet (fail)
        go_wp2
        go_ret
        exact ⟨ret_int HE.out.symm, below_drewN hb _⟩
      · have HE := Lib.hid (HN.out (Bool.eq_false_iff.2 hs))
        have hs' : ¬ (x1 = f1 ∧ x2 = f2 ∧ x3 = f3 ∧ x4 = f4 ∧ x5 = f5) := fun h => hs (sameF_iff.2 h)
        clear HF HN hs
        have hcs : (x1 == f1) = false ∨ (x1 = f1 ∧ ((x2 == f2) = false ∨ (x2 = f2 ∧ ((x3 == f3) = false ∨ (x3 = f3 ∧ ((x4 == f4) = false ∨ (x4 = f4 ∧ (x5 == f5) = false))))))) := by simp; omega
        clear hs'
        rcases hcs with h | ⟨rfl, h | ⟨rfl, h | ⟨rfl, h | ⟨rfl, h⟩⟩⟩⟩
        all_goals
          go_wp2
          go_quiet (fail)
          go_wp2
          go_roundw
          case rel => exact ⟨k + 1, by omega, by go_num, HE.out, hbk.drewN _, below_drewN hb _⟩
          case measure => simp [intOf]; omega
    · obtain rfl : n = k := by omega
      have HE := Lib.hid (plF_none (es := es) (e := ⟨f1, f2, f3, f4, f5, ft, fl⟩) (by rw [HL.out]; exact hj))
      go_wp2
      go_ret
      exact ⟨ret_int HE.out.symm, hb⟩
end Go.Proofs.Ytgdcfhifiincaaa
