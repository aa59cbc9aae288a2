/-
  A literal of one struct of numbers, in a drawing region.
-/
import Derived.Test.YtgdcfhifiincaaaTMore
namespace Go.Proofs.Ytgdcfhifiincaaa
open Go.RowKit
set_option linter.unusedVariables false

/-- A slice of one struct of n numbers, all in range. -/
def tRec1 (B : Nat) (t : TypeId) (n : Nat) (lo hi : Int) : VT := fun u w => ∃ (b : Nat) (zs : List Int), u = .slice (some ⟨b, 0, none⟩) 1 1 ∧ B ≤ b ∧ zs.length = n ∧ (∀ z ∈ zs, lo ≤ z ∧ z ≤ hi) ∧ Blk w b t (zs.map (Value.int .i64)).toArray
theorem stab_rec1 {B n : Nat} {t : TypeId} {lo hi : Int} : Stab B (tRec1 B t n lo hi) := by
  rintro v w w' hg ⟨b, zs, rfl, hB, hn, hz, hb⟩
  exact ⟨b, zs, rfl, hB, hn, hz, (hg.block b hb.lt (by omega)).trans hb⟩
theorem OT.of_lit {TS : Nat → Value → World → Prop} {x : Operand} {k : IntKind} {z lo hi : Int} (h : OT TS x (tLit (.int k z))) (h1 : lo ≤ z) (h2 : z ≤ hi) : OT TS x (tInt k lo hi) := fun o b w hm ho => ⟨z, h1, h2, h o b w hm ho⟩
section
variable {P : Program} {Q : Exit → Act → World → Prop} {TS : Nat → Value → World → Prop} {X : Nat → World → Prop} {W : World} {g P0 B N : Nat} {F : Nat → Prop} {E : World → Prop} (C : Ctx P g P0 B N F E TS X) {i : Nat} (hXi : ∀ w, X i w) {d : Nat} {ty t t2 : TypeId} {pos : String} {af : Array Edge} {x y : Operand}
include C hXi
theorem t_rec1 {n : Nat} {lo hi : Int} {e : TypeId} {ie : TypeInfo} {z : Value} (ht : P.underlying t = some (.slice e)) (hie : P.info? e = some ie) (hs : ie.size = n) (hz : ie.zero = some z) (hn0 : 0 < n) (hn1 : n ≤ 1000)
    (hfill : ∀ zs : List Int, zs.length = n → Instr.fill (fun i => some (i * n, n)) ((Array.range (1 * n)).map (z.cells[· % z.cells.size]!)) [(0, .agg (zs.map (Value.int .i64)).toArray)] = some (zs.map (Value.int .i64)).toArray)
    (hx : OT TS x (tAgg n lo hi)) (hWB : B ≤ W.heap.size) (hd : TS d = tRec1 B e n lo hi) :
    TStep P Q TS X (Gd W g P0 F E) N i ⟨some d, .buildSlice t 1 #[(0, x)], ty, pos, af, none⟩ :=
  step_run C.gB C.e C.st C.x hXi fun b w p hG ho => by
    obtain ⟨zs, hl, hr, ez⟩ := hx _ b w (by simp [Op.operands]) ho
    refine ⟨.slice (some ⟨w.heap.size, 0, none⟩) 1 1, w.alloc (.cells (zs.map (Value.int .i64)).toArray e), ?_, GrF.alloc _ _ _, fun d' hd' => ?_⟩
    · unfold execOp
      simp only [Sem.run_bind]
      rw [run_buildSlice w t e 1 _ (zs.map (Value.int .i64)).toArray ie z ht hie hz (by rw [hs]; omega) (by rw [hs]; omega) ?_]
      · rfl
      · rw [hs]
        simp only [List.map_toArray, List.map_cons, List.map_nil, ez]
        exact hfill zs hl
    · cases hd'
      rw [hd]
      exact ⟨w.heap.size, zs, rfl, Nat.le_trans hWB hG.gr.size, hl, hr, Blk.new _ _ _⟩
end
end Go.Proofs.Ytgdcfhifiincaaa
