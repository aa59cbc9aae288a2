/-
  The map of flows that have been seen (map[Flow]bool): what a lookup and a store do.
-/
import Derived.Test.YtgdcfhifiincaaaEnt
import Derived.Maps.OwnSet
import Derived.DeepKeys4
namespace Go.Proofs.Ytgdcfhifiincaaa
open Go.RowKit
set_option linter.unusedVariables false
set_option maxRecDepth 100000

def flowA (e : En7) : Value := .agg #[.int .i64 e.a, .int .i64 e.b, .int .i64 e.c, .int .i64 e.d, .int .i64 e.k]
theorem flow_law : WideMaps.KeyLaw Try.prog 54 := deep_law_laid (by kernel_rfl) (m := 3) (by omega) (of_decide_eq_true (by kernel_rfl)) (by kernel_rfl) (by rw [Try.underlying54])
theorem flow_keyed : Maps.Keyed Try.prog 54 := Maps.Keyed.of_law flow_law
theorem flow_key (e : En7) (h : enF e = true) : ∃ l, keyOf Try.prog 54 (flowA e) = some l := by
  have hk : Try.prog.keyType 54 = true := by kernel_rfl
  have hc : Try.prog.cellsOf 54 = 5 := by kernel_rfl
  have hi : Try.prog.cellsOf 3 = 1 := by kernel_rfl
  obtain ⟨m, hm⟩ : ∃ m, Try.prog.types.size = m + 1 := ⟨Try.prog.types.size - 1, by kernel_rfl⟩
  unfold enF flowV at h
  simp only [Bool.and_eq_true, inB_iff] at h
  obtain ⟨⟨⟨⟨h1, h2⟩, h3⟩, h4⟩, h5⟩ := h
  have w : ∀ z : Int, 0 ≤ z → z ≤ 1000 → (Lit.int .i64 z).wf = true := fun z h1 h2 => by
    simp only [Lit.wf, Bool.and_eq_true, decide_eq_true_eq]
    exact ⟨show (-9223372036854775808 : Int) ≤ z by omega, show z ≤ (9223372036854775807 : Int) by omega⟩
  have w1 := w e.a (by omega) (by omega)
  have w2 := w e.b (by omega) (by omega)
  have w3 := w e.c (by omega) (by omega)
  have w4 := w e.d (by omega) (by omega)
  have w5 := w e.k (by omega) (by omega)
  have L : ∀ (n : Nat) (z : Int), (Lit.int .i64 z).wf = true → Try.prog.keyLits (n + 1) 3 [.int .i64 z] = some [.int .i64 z] := fun n z hz => by
    unfold Program.keyLits
    rw [Try.underlying3]
    simp only [hz, and_self, if_true]
  have hf : (flowA e).formed Try.prog 54 = true := by
    unfold flowA Value.formed
    rw [Try.underlying54]
    simp only [hc]
    rfl
  have hl : ∃ ls, Try.prog.keyLits (Try.prog.types.size + 1) 54 (flowA e).cells.toList = some ls := by
    rw [hm]
    unfold Program.keyLits flowA
    rw [Try.underlying54]
    refine ⟨[.int .i64 e.a, .int .i64 e.b, .int .i64 e.c, .int .i64 e.d, .int .i64 e.k], ?_⟩
    simp only [hc, hi, Value.cells]
    simp [hi, L _ _ w1, L _ _ w2, L _ _ w3, L _ _ w4, L _ _ w5]
  obtain ⟨ls, hl⟩ := hl
  unfold keyOf
  rw [Try.underlying54]
  simp only [hk, hf, hl, Bool.and_self, if_true, Option.map_some]
  exact ⟨_, rfl⟩
/-- The key that a flow is told as. -/
noncomputable def flowK (e : En7) : Lit := (keyOf Try.prog 54 (flowA e)).getD (.bool false)
theorem flowK_of {e : En7} (h : enF e = true) : keyOf Try.prog 54 (flowA e) = some (flowK e) := by
  obtain ⟨l, hl⟩ := flow_key e h
  unfold flowK; rw [hl]; rfl
theorem flowA_inj {x e : En7} : flowA x = flowA e ↔ sameF x e = true := by
  rw [sameF_iff]; simp [flowA]
theorem flowK_inj {x e : En7} (hx : enF x = true) (he : enF e = true) : flowK x = flowK e ↔ sameF x e = true := by
  rw [← flowA_inj]
  constructor
  · intro h; exact flow_keyed.inj (flowK_of hx) (h ▸ flowK_of he)
  · intro h; unfold flowK; rw [h]
/-- What the map of those seen reads as. -/
noncomputable def seenD (es : List En7) : DataW Unit := es.foldl (fun D e => D.put (flowK e) (.lit (.bool true))) (.map [])
theorem seenD_snoc (es : List En7) (e : En7) : seenD (es ++ [e]) = (seenD es).put (flowK e) (.lit (.bool true)) := by simp [seenD]
theorem seenD_map (es : List En7) : Maps.IsMap (seenD es) := by
  have : ∀ (es : List En7) (D : DataW Unit), Maps.IsMap D → Maps.IsMap (es.foldl (fun D e => D.put (flowK e) (.lit (.bool true))) D) := by
    intro es
    induction es with
    | nil => intro D h; exact h
    | cons e r ih => intro D h; exact ih _ (by obtain ⟨l, rfl⟩ := h; exact ⟨_, rfl⟩)
  exact this es _ ⟨_, rfl⟩
theorem seenD_at : ∀ (n : Nat) (es : List En7), es.length = n → (∀ x ∈ es, enF x = true) → ∀ {e : En7}, enF e = true → (seenD es).atKey (flowK e) (.lit (.bool false)) = .lit (.bool (seenF es e))
  | 0, es, hn, _, e, _ => by
    obtain rfl : es = [] := List.eq_nil_of_length_eq_zero hn
    rfl
  | n + 1, es, hn, hes, e, he => by
    obtain ⟨r, x, rfl⟩ : ∃ r x, es = r ++ [x] := ⟨es.dropLast, es.getLast (by intro h; simp [h] at hn), (List.dropLast_concat_getLast _).symm⟩
    rw [seenD_snoc]
    have hx := hes x (by simp)
    by_cases h : sameF x e = true
    · rw [← (flowK_inj hx he).2 h, Maps.atKey_put_same (seenD_map r) (flow_keyed.key (flowK_of hx))]
      simp [seenF, h]
    · rw [Maps.atKey_put_other (fun e' => h ((flowK_inj hx he).1 e'.symm)), seenD_at n r (by simpa using hn) (fun y hy => hes y (by simp [hy])) he]
      simp [seenF, h]
/-- Block b of w is the map of the flows seen. -/
def SeenM (w : World) (b : Nat) (es : List En7) : Prop := w.ownsMap Try.prog 54 (plainElem (H := Unit) Try.prog 4) b es.length (seenD es)
theorem SeenM.made (w : World) : SeenM (w.alloc (.map #[] 0)) w.heap.size [] := World.ownsMap_made w _ _ _
theorem SeenM.look {w : World} {b : Nat} {es : List En7} (h : SeenM w b es) (hes : ∀ x ∈ es, enF x = true) {e : En7} (he : enF e = true) :
    (Instr.lookup 70 (.map (some b)) (flowA e) false).run Try.prog w = .ok (.bool (seenF es e)) w := by
  obtain ⟨v, ps, hrun, hv⟩ := World.ownsMap.lookup h flow_keyed Try.underlying70 (z := .bool false) (by kernel_rfl) (zd := .lit (.bool false)) (zp := []) (plainElem_bool Try.underlying4 false) (flowK_of he)
  rw [seenD_at _ es rfl hes he] at hv
  unfold plainElem at hv
  rw [Try.underlying4] at hv
  cases v <;> simp at hv
  obtain ⟨rfl, _⟩ := hv
  exact hrun
theorem SeenM.store {w : World} {b : Nat} {es : List En7} (h : SeenM w b es) (hn : es.length < maxLen) {e : En7} (he : enF e = true) :
    ∃ w', (Instr.mapUpdate 70 (.map (some b)) (flowA e) (.bool true)).run Try.prog w = .ok () w' ∧ SeenM w' b (es ++ [e]) ∧ w.grownBy w' (some b) := by
  obtain ⟨w', h1, h2, h3⟩ := World.ownsMap.update h flow_keyed Try.underlying70 hn (flowK_of he) (plainElem_bool Try.underlying4 true)
  exact ⟨w', h1, by unfold SeenM; rw [seenD_snoc, List.length_append]; exact h2, h3⟩
end Go.Proofs.Ytgdcfhifiincaaa
