/-
  A slice of pieces that came in.
-/
import Derived.Test.YtljbkppeoedcjaaOpen
import Derived.Test.YtljbkppeoedcjaaOpenHost
import Derived.Test.YtljbkppeoedcjaaPcs
namespace Go.Proofs.Ytljbkppeoedcjaa
open Go.RowKit Go.ChangeShapes Go.WideShapes Go.Deep Go.Joins
set_option linter.unusedVariables false

section
variable {H : Type} {enc : TypeId × Value → H} {P : Program} {w : World}

theorem piece_cells {e eb : TypeId} {f0 f1 f2 : Field} {base fuel : Nat} {held : Bool} {cs : List Value} {x : DataW H × List MemPlace} (he : P.underlying e = some (.struct #[f0, f1, f2])) (hone : oneCellFields P #[f0, f1, f2] = true)
    (i0 : P.underlying f0.type = some (.int .i64)) (i1 : P.underlying f1.type = some .bool) (i2 : P.underlying f2.type = some (.slice eb)) (ie : P.underlying eb = some (.int .u8)) (hE : P.cellsOf eb = 1) (hl : cs.length = 3)
    (h : DataW.trod enc P w base (fun _ => true) held fuel e cs = some x) : ∃ p : Pv, cs = p.cs ∧ (-9223372036854775808 ≤ p.at_ ∧ p.at_ ≤ 9223372036854775807) ∧ Sl w 0 w.heap.size 1 p.A p.n (p.zs.map (Value.int .u8)) ∧ p.n ≤ p.c ∧ p.c ≤ maxLen ∧ AllByte p.zs := by
  match cs, hl with
  | [c0, c1, c2], _ =>
    obtain ⟨xs, n, _, hx, _, hlen, hg⟩ := DataW.trod_struct he h
    obtain ⟨o0, k0⟩ := hone_of hone 0 f0 rfl
    obtain ⟨o1, k1⟩ := hone_of hone 1 f1 rfl
    obtain ⟨o2, k2⟩ := hone_of hone 2 f2 rfl
    match xs, hlen with
    | [y0, y1, y2], _ =>
      have h0 : DataW.trod enc P w base (fun _ => true) held n f0.type [c0] = some y0 := by simpa [o0, k0] using hg 0 f0 rfl
      have h1 : DataW.trod enc P w base (fun _ => true) held n f1.type [c1] = some y1 := by simpa [o1, k1] using hg 1 f1 rfl
      have h2 : DataW.trod enc P w base (fun _ => true) held n f2.type [c2] = some y2 := by simpa [o2, k2] using hg 2 f2 rfl
      obtain ⟨a0, rfl, w0⟩ := open_int_cell i0 h0
      obtain ⟨a1, rfl⟩ := open_bool_cell i1 h1
      have hsl : ∃ A m c, c2 = .slice A m c := by
        rcases open_slice i2 h2 with ⟨hcs, _⟩ | ⟨a, len, cap, m, n', D, Pl, hcs, _⟩
        · simp at hcs; exact ⟨_, _, _, hcs⟩
        · simp at hcs; exact ⟨_, _, _, hcs⟩
      obtain ⟨A, m, c, rfl⟩ := hsl
      obtain ⟨zs, g1, g2, g3, g4⟩ := open_nums_cells i2 ie hE h2
      exact ⟨⟨a0, a1, A, m, c, zs⟩, rfl, bounds_i64 w0, g1, g2, g3, AllByte.of_wf g4⟩

theorem open_pieces {t e eb : TypeId} {f0 f1 f2 : Field} {v : Value} {d : DataW H} {p : List MemPlace} {b0 : Nat} (ht : P.underlying t = some (.slice e)) (he : P.underlying e = some (.struct #[f0, f1, f2])) (hone : oneCellFields P #[f0, f1, f2] = true) (hC : P.cellsOf e = 3)
    (i0 : P.underlying f0.type = some (.int .i64)) (i1 : P.underlying f1.type = some .bool) (i2 : P.underlying f2.type = some (.slice eb)) (ie : P.underlying eb = some (.int .u8)) (hE : P.cellsOf eb = 1)
    (hval : Value.okWide P w .any b0 t v) (h : DataW.Trod enc P w 0 (fun _ => true) true t v d p) :
    ∃ A n c, ∃ ps : List Pv, v = .slice A n c ∧ Pcs w 0 w.heap.size A n ps ∧ n ≤ c ∧ c ≤ maxLen ∧ ∀ p ∈ ps, -9223372036854775808 ≤ p.at_ ∧ p.at_ ≤ 9223372036854775807 := by
  obtain ⟨A, n, c, rfl⟩ := okWide_slice ht hval
  obtain ⟨fuel, hf⟩ := h
  rcases open_slice ht (by simpa [Value.cells] using hf) with ⟨hcs, _⟩ | ⟨a, l, cp, m, n', D, Pl, hcs, _, hl, hm, hmm, _, hi⟩
  · simp at hcs
    obtain ⟨rfl, rfl, rfl⟩ := hcs
    exact ⟨none, 0, 0, [], rfl, ⟨Sl.nil_, fun p hp => by simp at hp⟩, Nat.le_refl _, by unfold maxLen; omega, fun p hp => by simp at hp⟩
  · simp at hcs
    obtain ⟨rfl, rfl, rfl⟩ := hcs
    simp at hmm
    have each : ∀ i, i < n → ∃ q : Pv, (∀ j, j < 3 → w.cell? (a.add (i * 3 + j)) = q.cs[j]?) ∧ (-9223372036854775808 ≤ q.at_ ∧ q.at_ ≤ 9223372036854775807) ∧ Sl w 0 w.heap.size 1 q.A q.n (q.zs.map (Value.int .u8)) ∧ q.n ≤ q.c ∧ q.c ≤ maxLen ∧ AllByte q.zs := fun i hin => by
      obtain ⟨cs', hc, ht'⟩ := hi i (by omega)
      rw [hC] at hc
      obtain ⟨_, hcl, hat⟩ := World.cells?_some hc
      obtain ⟨q, rfl, hq⟩ := piece_cells he hone i0 i1 i2 ie hE hcl ht'
      refine ⟨q, fun j hj => ?_, hq⟩
      rw [← Go.Deep.add_add]
      exact hat j hj
    obtain ⟨F, hF⟩ := choose_lt each
    have hmem : ∀ p ∈ (List.range n).map F, ∃ i, i < n ∧ p = F i := fun p hp => by
      obtain ⟨i, hi, rfl⟩ := List.mem_map.1 hp
      exact ⟨i, List.mem_range.1 hi, rfl⟩
    refine ⟨some a, n, c, (List.range n).map F, rfl, ⟨?_, fun p hp => ?_⟩, hl, hm, fun p hp => ?_⟩
    · refine sl_of_cellsN (by rw [pvs_length]; simp) (fun j u hu => ?_) (by omega)
      have hj : j < n * 3 := by
        rcases Nat.lt_or_ge j (n * 3) with h | h
        · exact h
        · rw [List.getElem?_eq_none (by rw [pvs_length]; simp; omega)] at hu; cases hu
      have hq : j / 3 < n := by omega
      obtain ⟨a0, a1, a2⟩ := pvs_at ((List.range n).map F) (j / 3) (by simpa using hq)
      have ha : pAt ((List.range n).map F) (j / 3) = F (j / 3) := by unfold pAt; simp [hq]
      rw [ha] at a0 a1 a2
      have hc := (hF (j / 3) hq).1 (j % 3) (Nat.mod_lt _ (by omega))
      rw [show j / 3 * 3 + j % 3 = j from by omega] at hc
      rw [hc, ← hu]
      have hm3 : j % 3 = 0 ∨ j % 3 = 1 ∨ j % 3 = 2 := by omega
      rcases hm3 with h | h | h
      · rw [h]
        rw [show j / 3 * 3 = j from by omega] at a0
        rw [a0]; rfl
      · rw [h]
        rw [show j / 3 * 3 + 1 = j from by omega] at a1
        rw [a1]; rfl
      · rw [h]
        rw [show j / 3 * 3 + 2 = j from by omega] at a2
        rw [a2]; rfl
    · obtain ⟨i, hi, rfl⟩ := hmem p hp
      exact (hF i hi).2.2
    · obtain ⟨i, hi, rfl⟩ := hmem p hp
      exact (hF i hi).2.1
end
end Go.Proofs.Ytljbkppeoedcjaa
