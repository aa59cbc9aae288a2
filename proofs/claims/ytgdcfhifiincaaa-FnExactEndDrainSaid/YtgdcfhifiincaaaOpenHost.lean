/-
  A slice of hosts that came in: what the walk is told of it.
-/
import Derived.Test.YtgdcfhifiincaaaOpen
import Derived.Test.YtgdcfhifiincaaaHost0
namespace Go.Proofs.Ytgdcfhifiincaaa
open Go.RowKit Go.ChangeShapes Go.WideShapes Go.Deep Go.Joins
set_option linter.unusedVariables false

section
variable {H : Type} {enc : TypeId × Value → H} {P : Program} {w : World}

/-- From the cells at 'a.add i' to a slice that reads as a list, whatever the elements' size. -/
theorem sl_of_cellsN {a : Addr} {n size : Nat} {xs : List Value} (hl : xs.length = n * size) (hc : ∀ i u, xs[i]? = some u → w.cell? (a.add i) = some u) (hsz : 0 < size) : Sl w 0 w.heap.size size (some a) n xs := by
  refine ⟨hl, fun hn => ?_⟩
  have hpos : 0 < xs.length := by rw [hl]; exact Nat.mul_pos hn hsz
  obtain ⟨b, off, spot⟩ := a
  have h0 := hc 0 (xs[0]'hpos) (List.getElem?_eq_getElem hpos)
  have hspot : spot = none := by simpa [Addr.add] using World.cell?_spot h0
  subst hspot
  have hb : b < w.heap.size := by simpa [Addr.add] using block_lt_of_cell h0
  refine ⟨b, off, rfl, Nat.zero_le _, hb, fun j u hu => ?_⟩
  have := hc j u hu
  have e : (⟨b, off, none⟩ : Addr).add j = ⟨b, off + j, none⟩ := by unfold Addr.add; split <;> simp_all
  rwa [e] at this

theorem three_cells {e : TypeId} {f0 f1 f2 : Field} {base fuel : Nat} {held : Bool} {cs : List Value} {x : DataW H × List MemPlace} (he : P.underlying e = some (.struct #[f0, f1, f2])) (hone : oneCellFields P #[f0, f1, f2] = true)
    (i0 : P.underlying f0.type = some (.int .i64)) (i1 : P.underlying f1.type = some (.int .i64)) (i2 : P.underlying f2.type = some (.int .i64)) (hl : cs.length = 3)
    (h : DataW.trod enc P w base (fun _ => true) held fuel e cs = some x) : ∃ p : H3, cs = [.int .i64 p.1, .int .i64 p.2.1, .int .i64 p.2.2] := by
  match cs, hl with
  | [c0, c1, c2], _ =>
    obtain ⟨xs, n, _, hx, _, hlen, hg⟩ := DataW.trod_struct he h
    obtain ⟨o0, k0⟩ := hone_of hone 0 f0 rfl
    obtain ⟨o1, k1⟩ := hone_of hone 1 f1 rfl
    obtain ⟨o2, k2⟩ := hone_of hone 2 f2 rfl
    match xs, hlen with
    | [y0, y1, y2], _ =>
      have h0 : DataW.trod enc P w base (fun _ => true) held n f0.type [c0] = some y0 := by simpa [o0, k0] using hg 0 f0 rfl
      have h1 : DataW.trod enc P w base (fun _ => true) held n f1.type [c1] = some y1 := by simpa [o1, k1] using hg 1 f1 rfl
      have h2 : DataW.trod enc P w base (fun _ => true) held n f2.type [c2] = some y2 := by simpa [o2, k2] using hg 2 f2 rfl
      obtain ⟨a0, rfl, _⟩ := open_int_cell i0 h0
      obtain ⟨a1, rfl, _⟩ := open_int_cell i1 h1
      obtain ⟨a2, rfl, _⟩ := open_int_cell i2 h2
      exact ⟨(a0, a1, a2), rfl⟩

theorem open_hosts {t e : TypeId} {f0 f1 f2 : Field} {v : Value} {d : DataW H} {p : List MemPlace} {b0 : Nat} (ht : P.underlying t = some (.slice e)) (he : P.underlying e = some (.struct #[f0, f1, f2])) (hone : oneCellFields P #[f0, f1, f2] = true) (hC : P.cellsOf e = 3)
    (i0 : P.underlying f0.type = some (.int .i64)) (i1 : P.underlying f1.type = some (.int .i64)) (i2 : P.underlying f2.type = some (.int .i64))
    (hval : Value.okWide P w .any b0 t v) (h : DataW.Trod enc P w 0 (fun _ => true) true t v d p) :
    ∃ A n c, ∃ hs : List H3, v = .slice A n c ∧ Sl w 0 w.heap.size 3 A n (hostsV hs) ∧ n ≤ c ∧ c ≤ maxLen := by
  obtain ⟨A, n, c, rfl⟩ := okWide_slice ht hval
  obtain ⟨fuel, hf⟩ := h
  rcases open_slice ht (by simpa [Value.cells] using hf) with ⟨hcs, _⟩ | ⟨a, l, cp, m, n', D, Pl, hcs, _, hl, hm, hmm, _, hi⟩
  · simp at hcs
    obtain ⟨rfl, rfl, rfl⟩ := hcs
    exact ⟨none, 0, 0, [], rfl, Sl.nil_, Nat.le_refl _, by unfold maxLen; omega⟩
  · simp at hcs
    obtain ⟨rfl, rfl, rfl⟩ := hcs
    simp at hmm
    have each : ∀ i, i < n → ∃ q : H3, ∀ j, j < 3 → w.cell? (a.add (i * 3 + j)) = (hostC q)[j]? := fun i hin => by
      obtain ⟨cs', hc, ht'⟩ := hi i (by omega)
      rw [hC] at hc
      obtain ⟨_, hcl, hat⟩ := World.cells?_some hc
      obtain ⟨q, rfl⟩ := three_cells he hone i0 i1 i2 hcl ht'
      refine ⟨q, fun j hj => ?_⟩
      rw [← Go.Deep.add_add]
      exact hat j hj
    obtain ⟨F, hF⟩ := choose_lt each
    refine ⟨some a, n, c, (List.range n).map F, rfl, ?_, hl, hm⟩
    refine sl_of_cellsN (by rw [hostsV_length]; simp) (fun j u hu => ?_) (by omega)
    have hj : j < n * 3 := by
      rcases Nat.lt_or_ge j (n * 3) with h | h
      · exact h
      · rw [List.getElem?_eq_none (by rw [hostsV_length]; simp; omega)] at hu; cases hu
    have hq : j / 3 < n := by omega
    obtain ⟨a0, a1, a2⟩ := hostsV_at ((List.range n).map F) (j / 3) (by simpa using hq)
    have ha : hAt ((List.range n).map F) (j / 3) = F (j / 3) := by unfold hAt; simp [hq]
    rw [ha] at a0 a1 a2
    have hc := hF (j / 3) hq (j % 3) (Nat.mod_lt _ (by omega))
    rw [show j / 3 * 3 + j % 3 = j from by omega] at hc
    rw [hc, ← hu]
    have hm3 : j % 3 = 0 ∨ j % 3 = 1 ∨ j % 3 = 2 := by omega
    rcases hm3 with h | h | h
    · rw [h]
      rw [show j / 3 * 3 = j from by omega] at a0
      rw [a0]; rfl
    · rw [h]
      rw [show j / 3 * 3 + 1 = j from by omega] at a1
      rw [a1]; rfl
    · rw [h]
      rw [show j / 3 * 3 + 2 = j from by omega] at a2
      rw [a2]; rfl
end
end Go.Proofs.Ytgdcfhifiincaaa
