/-
  Steps of XMix for rows of numbers that are put together at once, and for points.
-/
import Derived.Test.YtfobcggcilbgbaaMixB
namespace Go.Proofs.Ytfobcggcilbgbaa
open Go.RowKit
set_option linter.unusedVariables false

/-- A new slice of n elements, its cells known. -/
def tRowN (B : Nat) (e : TypeId) (n : Nat) (cs : Array Value) : VT := fun u w => ∃ b, u = .slice (some ⟨b, 0, none⟩) n n ∧ B ≤ b ∧ Blk w b e cs
theorem keep_rowN {B : Nat} {e : TypeId} {n : Nat} {cs : Array Value} : Keep (tRowN B e n cs) := by
  rintro v w w' hg ⟨b, rfl, h1, h⟩
  exact ⟨b, rfl, h1, New.blk hg h⟩
theorem Blk.sl {w : World} {b size n : Nat} {e : TypeId} {cs : Array Value} (h : Blk w b e cs) (hn : cs.size = n * size) : Sl w b (b + 1) size (some ⟨b, 0, none⟩) n cs.toList := by
  refine ⟨by simpa using hn, fun _ => ⟨b, 0, rfl, Nat.le_refl _, by omega, fun j u hu => ?_⟩⟩
  rw [h.cell]
  simpa using hu
section
variable {P : Program} {ops : Array Oper} {Q : Exit → Act → World → Prop} {l : List (Nat × VT)} {W : World} {N i : Nat} {d : Nat} {ty t t2 : TypeId} {pos : String} {af : Array Edge} {x y z : Operand} {gd : Option (Nat × Bool)}
theorem m_row2 {e : TypeId} {ie : TypeInfo} {zv : Value} {B : Nat} {k : IntKind} {u v : Int} {zk : Int} (hk : KeepL l) (hg : GOkM ops l gd) (ht : P.underlying t = some (.slice e)) (hi : P.info? e = some ie) (hz : ie.zero = some zv) (hzv : zv = .int k zk) (hsize : ie.size = 1) (hB : B ≤ W.heap.size)
    (hx : OM l x (tLit (.int k u))) (hy : OM l y (tLit (.int k v)))
    (hd : l.lookup d = some (tRowN B e 2 #[.int k u, .int k v])) : TStepG P ops Q (tsM l) (fun _ _ => True) (GX W) N i ⟨some d, .buildSlice t 2 #[(0, x), (1, y)], ty, pos, af, gd⟩ :=
  m_gen hk hg (fun d' h => by cases h; exact hd) fun b w hG ho => by
    have e1 : b.eval x = .int k u := hx _ b w (by simp [Op.operands]) ho
    have e2 : b.eval y = .int k v := hy _ b w (by simp [Op.operands]) ho
    refine ⟨.slice (some ⟨w.heap.size, 0, none⟩) 2 2, w.alloc (.cells #[.int k u, .int k v] e), ?_, GrF.alloc _ _ _, w.heap.size, rfl, Nat.le_trans hB hG.size, Blk.new _ _ _⟩
    generalize b.eval = ev at e1 e2 ⊢
    unfold execOp
    subst hzv
    simp [go_sem, run_underlying ht, sizeOf, typeInfo, zeroValue, hi, hz, hsize, e1, e2]
theorem m_rowS {e : TypeId} {ie : TypeInfo} {zv : Value} {B : Nat} {u v : Int} (hk : KeepL l) (hg : GOkM ops l gd) (ht : P.underlying t = some (.slice e)) (hi : P.info? e = some ie) (hz : ie.zero = some zv) (hzv : zv = .agg #[.int .i64 0, .int .i64 0]) (hsize : ie.size = 2) (hB : B ≤ W.heap.size)
    (hx : OM l x (tLit (.agg #[.int .i64 u, .int .i64 v])))
    (hd : l.lookup d = some (tRowN B e 1 #[.int .i64 u, .int .i64 v])) : TStepG P ops Q (tsM l) (fun _ _ => True) (GX W) N i ⟨some d, .buildSlice t 1 #[(0, x)], ty, pos, af, gd⟩ :=
  m_gen hk hg (fun d' h => by cases h; exact hd) fun b w hG ho => by
    have e1 : b.eval x = .agg #[.int .i64 u, .int .i64 v] := hx _ b w (by simp [Op.operands]) ho
    refine ⟨.slice (some ⟨w.heap.size, 0, none⟩) 1 1, w.alloc (.cells #[.int .i64 u, .int .i64 v] e), ?_, GrF.alloc _ _ _, w.heap.size, rfl, Nat.le_trans hB hG.size, Blk.new _ _ _⟩
    generalize b.eval = ev at e1 ⊢
    unfold execOp
    subst hzv
    simp [go_sem, run_underlying ht, sizeOf, typeInfo, zeroValue, hi, hz, hsize, e1]
end
end Go.Proofs.Ytfobcggcilbgbaa
