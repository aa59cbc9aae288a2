/-
  append of elements that were just put into a block of their own, onto a row of one's own.
-/
import Derived.Test.YtgdcfhifiincaaaAppend
import Derived.Test.YtgdcfhifiincaaaRetOwn
namespace Go.Proofs.Ytgdcfhifiincaaa
open Go.RowKit
set_option linter.unusedVariables false

theorem Sl.newAt {w : World} (cs : Array Value) (t : TypeId) (size n : Nat) (h : cs.size = n * size) {g : Nat} (hg : g = w.heap.size) : Sl (w.alloc (.cells cs t)) w.heap.size (w.heap.size + 1) size (some ⟨g, 0, none⟩) n cs.toList := by
  subst hg; exact Sl.new cs t size n h
section
variable {P : Program}
theorem wpList_app1 {ops : Array Oper} {rest : List Oper} {o : Oper} {a : Act} {Q : Exit → Act → World → Prop} (W W0 : World) (cs : Array Value) (hgd : o.guard = none) (s x : Operand) (t e : TypeId)
    (ho : o.op = .call { callee := .builtin .append, args := #[s, x], argTypes := #[t, t] })
    (i : TypeInfo) (z : Value) (size bytes : Nat) (ht : P.underlying t = some (.slice e)) (hi : P.info? e = some i) (hz : i.zero = some z)
    (hsize : i.size = size) (hby : i.bytes = bytes) (hzs : z.cells.size = size) (hsz : 0 < size)
    (v : Value) (n : Nat) (xs : List Value) (hs : a.eval s = v) (hown : W.ownsRow W0.heap.size e size v n xs) (hb : Below W0.heap.size W0 W)
    (g m c : Nat) (hg : g = W.heap.size) (hx : a.eval x = .slice (some ⟨g, 0, none⟩) m c) (hcs : cs.size = m * size) (h1 : ∀ u ∈ cs.toList, u.oneCell' = true)
    (h63 : n + m ≤ maxLen) (hbytes : (n + m) * bytes ≤ 140737488355328)
    (h : ∀ v' w', w'.ownsRow W0.heap.size e size v' (n + m) (xs ++ cs.toList) → Below W0.heap.size W0 w' → wpList P ops Q rest (a.put o.dst v') w') : wpList P ops Q (o :: rest) a (W.alloc (.cells cs e)) :=
  wpList_append_sl _ hgd s x t ho W0.heap.size e i z size bytes ht hi hz hsize hby hzs hsz v n xs hs (hown.alloc _) _ _ (some ⟨g, 0, none⟩) m c cs.toList hx (Sl.newAt cs e size m hcs hg) h1 h63 hbytes (Nat.le_trans hb.size (by simp)) fun v' w' ho' hg' _ =>
    h v' w' ho' (below_append (hb.alloc hb.size _) (hown.alloc _) hg')
end
theorem own_base {w : World} {b b' : Nat} {e : TypeId} {size n : Nat} {v : Value} {xs : List Value} (h : w.ownsRow b e size v n xs) (hb : b' ≤ b) : w.ownsRow b' e size v n xs := by
  refine ⟨h.1, ?_⟩
  rcases h.2 with h | ⟨g, cap, cur, h1, h2, h3⟩
  · exact .inl h
  · exact .inr ⟨g, cap, cur, h1, Nat.le_trans hb h2, h3⟩
/-- What a call that makes memory alone handed back, seen from an older world. -/
theorem RetOwn.older {W w w' : World} {T : TypeId} {size n : Nat} {xs : List Value} {v : Value} (h : w'.ownsRow w.heap.size T size v n xs) (hb : Below w.heap.size w w') (ho : Below W.heap.size W w) : RetOwn W T size n xs (.returned v) w' :=
  RetOwn.mk (own_base h ho.size) (ho.trans (hb.mono ho.size))
end Go.Proofs.Ytgdcfhifiincaaa
