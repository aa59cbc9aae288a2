/-
  A table of flows that came in: two numbers and a slice of entries.
-/
import Derived.Test.YtgdcfhifiincaaaOpenHost
import Derived.Test.YtgdcfhifiincaaaEnt
namespace Go.Proofs.Ytgdcfhifiincaaa
open Go.RowKit Go.ChangeShapes Go.WideShapes Go.Deep Go.Joins
set_option linter.unusedVariables false

section
variable {H : Type} {enc : TypeId × Value → H} {P : Program} {w : World}

theorem flow_cells {e : TypeId} {f0 f1 f2 f3 f4 : Field} {base fuel : Nat} {held : Bool} {cs : List Value} {x : DataW H × List MemPlace} (he : P.underlying e = some (.struct #[f0, f1, f2, f3, f4])) (hone : oneCellFields P #[f0, f1, f2, f3, f4] = true)
    (i0 : P.underlying f0.type = some (.int .i64)) (i1 : P.underlying f1.type = some (.int .i64)) (i2 : P.underlying f2.type = some (.int .i64)) (i3 : P.underlying f3.type = some (.int .i64)) (i4 : P.underlying f4.type = some (.int .i64)) (hl : cs.length = 5)
    (h : DataW.trod enc P w base (fun _ => true) held fuel e cs = some x) : ∃ a b c d k : Int, cs = [.int .i64 a, .int .i64 b, .int .i64 c, .int .i64 d, .int .i64 k] := by
  match cs, hl with
  | [c0, c1, c2, c3, c4], _ =>
    obtain ⟨xs, n, _, hx, _, hlen, hg⟩ := DataW.trod_struct he h
    obtain ⟨o0, k0⟩ := hone_of hone 0 f0 rfl
    obtain ⟨o1, k1⟩ := hone_of hone 1 f1 rfl
    obtain ⟨o2, k2⟩ := hone_of hone 2 f2 rfl
    obtain ⟨o3, k3⟩ := hone_of hone 3 f3 rfl
    obtain ⟨o4, k4⟩ := hone_of hone 4 f4 rfl
    match xs, hlen with
    | [y0, y1, y2, y3, y4], _ =>
      have h0 : DataW.trod enc P w base (fun _ => true) held n f0.type [c0] = some y0 := by simpa [o0, k0] using hg 0 f0 rfl
      have h1 : DataW.trod enc P w base (fun _ => true) held n f1.type [c1] = some y1 := by simpa [o1, k1] using hg 1 f1 rfl
      have h2 : DataW.trod enc P w base (fun _ => true) held n f2.type [c2] = some y2 := by simpa [o2, k2] using hg 2 f2 rfl
      have h3 : DataW.trod enc P w base (fun _ => true) held n f3.type [c3] = some y3 := by simpa [o3, k3] using hg 3 f3 rfl
      have h4 : DataW.trod enc P w base (fun _ => true) held n f4.type [c4] = some y4 := by simpa [o4, k4] using hg 4 f4 rfl
      obtain ⟨a0, rfl, _⟩ := open_int_cell i0 h0
      obtain ⟨a1, rfl, _⟩ := open_int_cell i1 h1
      obtain ⟨a2, rfl, _⟩ := open_int_cell i2 h2
      obtain ⟨a3, rfl, _⟩ := open_int_cell i3 h3
      obtain ⟨a4, rfl, _⟩ := open_int_cell i4 h4
      exact ⟨a0, a1, a2, a3, a4, rfl⟩
theorem ent_cells {e : TypeId} {g0 g1 g2 f0 f1 f2 f3 f4 : Field} {base fuel : Nat} {held : Bool} {cs : List Value} {x : DataW H × List MemPlace} (he : P.underlying e = some (.struct #[g0, g1, g2]))
    (ho : (g0.offset, P.cellsOf g0.type, g1.offset, P.cellsOf g1.type, g2.offset, P.cellsOf g2.type) = (0, 5, 5, 1, 6, 1))
    (hf : P.underlying g0.type = some (.struct #[f0, f1, f2, f3, f4])) (hone : oneCellFields P #[f0, f1, f2, f3, f4] = true)
    (i0 : P.underlying f0.type = some (.int .i64)) (i1 : P.underlying f1.type = some (.int .i64)) (i2 : P.underlying f2.type = some (.int .i64)) (i3 : P.underlying f3.type = some (.int .i64)) (i4 : P.underlying f4.type = some (.int .i64))
    (j1 : P.underlying g1.type = some (.int .i64)) (j2 : P.underlying g2.type = some (.int .i64)) (hl : cs.length = 7)
    (h : DataW.trod enc P w base (fun _ => true) held fuel e cs = some x) : ∃ q : En7, cs = enC q := by
  simp only [Prod.mk.injEq] at ho
  obtain ⟨o0, k0, o1, k1, o2, k2⟩ := ho
  match cs, hl with
  | [c0, c1, c2, c3, c4, c5, c6], _ =>
    obtain ⟨xs, n, _, hx, _, hlen, hg⟩ := DataW.trod_struct he h
    match xs, hlen with
    | [y0, y1, y2], _ =>
      have h0 : DataW.trod enc P w base (fun _ => true) held n g0.type [c0, c1, c2, c3, c4] = some y0 := by simpa [o0, k0] using hg 0 g0 rfl
      have h1 : DataW.trod enc P w base (fun _ => true) held n g1.type [c5] = some y1 := by simpa [o1, k1] using hg 1 g1 rfl
      have h2 : DataW.trod enc P w base (fun _ => true) held n g2.type [c6] = some y2 := by simpa [o2, k2] using hg 2 g2 rfl
      obtain ⟨a, b, c, d, k, e0⟩ := flow_cells hf hone i0 i1 i2 i3 i4 rfl h0
      obtain ⟨t, rfl, _⟩ := open_int_cell j1 h1
      obtain ⟨l, rfl, _⟩ := open_int_cell j2 h2
      simp only [List.cons.injEq, and_true] at e0
      obtain ⟨rfl, rfl, rfl, rfl, rfl⟩ := e0
      exact ⟨⟨a, b, c, d, k, t, l⟩, rfl⟩
theorem open_table {t e : TypeId} {t0 t1 t2 g0 g1 g2 f0 f1 f2 f3 f4 : Field} {v : Value} {d : DataW H} {p : List MemPlace} {b0 : Nat} (hs : P.underlying t = some (.struct #[t0, t1, t2])) (hone3 : oneCellFields P #[t0, t1, t2] = true) (hC3 : P.cellsOf t = 3)
    (u0 : P.underlying t0.type = some (.int .i64)) (u1 : P.underlying t1.type = some (.int .i64)) (u2 : P.underlying t2.type = some (.slice e))
    (he : P.underlying e = some (.struct #[g0, g1, g2])) (hC : P.cellsOf e = 7)
    (ho : (g0.offset, P.cellsOf g0.type, g1.offset, P.cellsOf g1.type, g2.offset, P.cellsOf g2.type) = (0, 5, 5, 1, 6, 1))
    (hf : P.underlying g0.type = some (.struct #[f0, f1, f2, f3, f4])) (hone : oneCellFields P #[f0, f1, f2, f3, f4] = true)
    (i0 : P.underlying f0.type = some (.int .i64)) (i1 : P.underlying f1.type = some (.int .i64)) (i2 : P.underlying f2.type = some (.int .i64)) (i3 : P.underlying f3.type = some (.int .i64)) (i4 : P.underlying f4.type = some (.int .i64))
    (j1 : P.underlying g1.type = some (.int .i64)) (j2 : P.underlying g2.type = some (.int .i64))
    (hval : Value.okWide P w .any b0 t v) (h : DataW.Trod enc P w 0 (fun _ => true) true t v d p) :
    ∃ (sz st : Int) (A : Option Addr) (n c : Nat) (es : List En7), v = .agg #[.int .i64 sz, .int .i64 st, .slice A n c] ∧ Sl w 0 w.heap.size 7 A n (ensV es) ∧ n ≤ c ∧ c ≤ maxLen := by
  obtain ⟨cs, rfl, hsz⟩ := okWide_struct hs hval
  obtain ⟨l⟩ := cs
  match l, hsz.trans hC3 with
  | [c0, c1, c2], _ =>
    obtain ⟨fuel, hfu⟩ := h
    obtain ⟨xs, n, _, hx, _, hlen, hg⟩ := DataW.trod_struct hs hfu
    obtain ⟨o0, k0⟩ := hone_of hone3 0 t0 rfl
    obtain ⟨o1, k1⟩ := hone_of hone3 1 t1 rfl
    obtain ⟨o2, k2⟩ := hone_of hone3 2 t2 rfl
    match xs, hlen with
    | [y0, y1, y2], _ =>
      have h0 : DataW.trod enc P w 0 (fun _ => true) true n t0.type [c0] = some y0 := by simpa [Value.cells, o0, k0] using hg 0 t0 rfl
      have h1 : DataW.trod enc P w 0 (fun _ => true) true n t1.type [c1] = some y1 := by simpa [Value.cells, o1, k1] using hg 1 t1 rfl
      have h2 : DataW.trod enc P w 0 (fun _ => true) true n t2.type [c2] = some y2 := by simpa [Value.cells, o2, k2] using hg 2 t2 rfl
      obtain ⟨a0, rfl, _⟩ := open_int_cell u0 h0
      obtain ⟨a1, rfl, _⟩ := open_int_cell u1 h1
      rcases open_slice u2 h2 with ⟨hcs, _⟩ | ⟨a, l, cp, m, n', D, Pl, hcs, _, hl, hm, hmm, _, hi⟩
      · simp at hcs
        subst hcs
        exact ⟨a0, a1, none, 0, 0, [], rfl, Sl.nil_, Nat.le_refl _, by unfold maxLen; omega⟩
      · simp at hcs
        subst hcs
        simp at hmm
        have each : ∀ i, i < l → ∃ q : En7, ∀ j, j < 7 → w.cell? (a.add (i * 7 + j)) = (enC q)[j]? := fun i hin => by
          obtain ⟨cs', hc, ht'⟩ := hi i (by omega)
          rw [hC] at hc
          obtain ⟨_, hcl, hat⟩ := World.cells?_some hc
          obtain ⟨q, rfl⟩ := ent_cells he ho hf hone i0 i1 i2 i3 i4 j1 j2 hcl ht'
          refine ⟨q, fun j hj => ?_⟩
          rw [← Go.Deep.add_add]
          exact hat j hj
        haveI : Inhabited En7 := ⟨En7.zero⟩
        obtain ⟨F, hF⟩ := choose_lt each
        refine ⟨a0, a1, some a, l, cp, (List.range l).map F, rfl, ?_, hl, hm⟩
        have hlen7 : (ensV ((List.range l).map F)).length = l * 7 := by rw [recV_length enC_len]; simp
        refine sl_of_cellsN hlen7 (fun j u hu => ?_) (by omega)
        have hj : j < l * 7 := by
          rcases Nat.lt_or_ge j (l * 7) with h | h
          · exact h
          · rw [List.getElem?_eq_none (by rw [hlen7]; omega)] at hu; cases hu
        have hq : j / 7 < l := by omega
        have hr := recV_at enC_len ((List.range l).map F) (j / 7) (j % 7) (by simpa using hq) (Nat.mod_lt _ (by omega))
        rw [show j / 7 * 7 + j % 7 = j from by omega] at hr
        have hc := hF (j / 7) hq (j % 7) (Nat.mod_lt _ (by omega))
        rw [show j / 7 * 7 + j % 7 = j from by omega] at hc
        rw [hc, ← hu]
        refine Eq.trans ?_ hr.symm
        simp
end
end Go.Proofs.Ytgdcfhifiincaaa
