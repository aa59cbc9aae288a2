/-
  Steps of XMix for rows of one's own that are full.
-/
import Derived.Test.YtgdcfhifiincaaaMixB
namespace Go.Proofs.Ytgdcfhifiincaaa
open Go.RowKit
set_option linter.unusedVariables false

/-- A slice of one's own, full. -/
def tFull1 (B : Nat) (e : TypeId) (size n : Nat) (xs : List Value) : VT := fun u w => ∃ A, u = .slice A n n ∧ w.ownsRow B e size (.slice A n n) n xs
theorem keep_full1 {B : Nat} {e : TypeId} {size n : Nat} {xs : List Value} : Keep (tFull1 B e size n xs) := by
  rintro v w w' hg ⟨A, rfl, h⟩
  exact ⟨A, rfl, New.own hg h⟩
section
variable {P : Program} {ops : Array Oper} {Q : Exit → Act → World → Prop} {l : List (Nat × VT)} {W : World} {N i : Nat} {d : Nat} {ty t t2 : TypeId} {pos : String} {af : Array Edge} {x y z : Operand} {gd : Option (Nat × Bool)}
/-- append of a slice that is known, to a full row of one's own. -/
theorem m_appendl {e : TypeId} {ie : TypeInfo} {zv : Value} {B lo hi c size bytes n m : Nat} {A : Option Addr} {xs news : List Value} (hk : KeepL l) (hg : GOkM ops l gd) (ht : P.underlying t = some (.slice e)) (hi' : P.info? e = some ie) (hz : ie.zero = some zv) (hsize : ie.size = size) (hby : ie.bytes = bytes) (hzs : zv.cells.size = size) (hsz : 0 < size)
    (hx : OM l x (tFull1 B e size n xs)) (hy : OM l y (tLit (.slice A m c))) (hS : Sl W lo hi size A m news) (hh : hi ≤ W.heap.size) (h1 : ∀ u ∈ news, u.oneCell' = true) (h63 : n + m ≤ maxLen) (hbytes : (n + m) * bytes ≤ 140737488355328) (hB : B ≤ W.heap.size)
    (hd : l.lookup d = some (tOwn B e size (n + m) (xs ++ news))) :
    TStepG P ops Q (tsM l) (fun _ _ => True) (GX W) N i ⟨some d, .call { callee := .builtin .append, args := #[x, y], argTypes := #[t, t] }, ty, pos, af, gd⟩ :=
  m_gen hk hg (fun d' h => by cases h; exact hd) fun b w hG ho => by
    obtain ⟨A0, e1, own⟩ := hx _ b w (by simp [Op.operands, Call.operands]) ho
    have e2 : b.eval y = .slice A m c := hy _ b w (by simp [Op.operands, Call.operands]) ho
    obtain ⟨v', w', hrun, h2, h3⟩ := run_append_tight (P := P) w B t ty e ie zv size bytes ht hi' hz hsize hby hzs hsz A0 n xs own lo _ A m c news (New.sl (w := W) hG hS hh) h1 h63 hbytes (Nat.le_trans hB hG.size)
    refine ⟨v', w', ?_, h3, ?_⟩
    · unfold execOp
      simp only [resolve, invoke, builtin, Sem.run_bind, Sem.run_pure, Result.andThen_ok, List.map_toArray, List.map_cons, List.map_nil, e1, e2, hrun]
    · obtain ⟨A3, c3, rfl, q1, q2⟩ := own_is_slice h2
      exact ⟨A3, c3, rfl, q1, q2, h2⟩
end
theorem own_neN {w : World} {B q size : Nat} {e t : TypeId} {n : Nat} {v : Value} {xs : List Value} {cs : Array Value} (h : w.ownsRow B e size v n xs) (hq : Blk w q t cs) (hne : e ≠ t) : v.ownBlock ≠ some q := by
  rcases h.2 with ⟨rfl, _⟩ | ⟨g, cap, cur, rfl, _, hg, _⟩
  · simp [Value.ownBlock]
  · intro e'
    simp only [Value.ownBlock, Option.some.injEq] at e'
    subst e'
    unfold Blk at hq
    rw [hg] at hq
    simp at hq
    exact hne hq.2
end Go.Proofs.Ytgdcfhifiincaaa
