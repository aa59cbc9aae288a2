/-
  The step that builds a packet, the bounds of each field.
-/
import Derived.Test.YtleammkpfknngaaTPkt
namespace Go.Proofs.Ytleammkpfknngaa
open Go.RowKit
set_option linter.unusedVariables false

/-- A packet: four numbers and bytes of its own. -/
def tPktB (B most : Nat) (fl fh tl th kl kh ll lh : Int) : VT := fun u w => ∃ (f t k l : Int) (A : Option Addr) (n c : Nat) (zs : List Int), u = .agg #[.int .i64 f, .int .i64 t, .int .i64 k, .int .i64 l, .slice A n c] ∧ (fl ≤ f ∧ f ≤ fh) ∧ (tl ≤ t ∧ t ≤ th) ∧ (kl ≤ k ∧ k ≤ kh) ∧ (ll ≤ l ∧ l ≤ lh) ∧ n ≤ most ∧ n ≤ c ∧ c ≤ maxLen ∧ (∀ z ∈ zs, (0 : Int) ≤ z ∧ z ≤ 255) ∧ w.ownsRow B 5 1 (.slice A n c) n (zs.map (Value.int .u8))
theorem stab_pktb {B most : Nat} {fl fh tl th kl kh ll lh : Int} : Stab B (tPktB B most fl fh tl th kl kh ll lh) := by
  rintro v w w' hg ⟨f, t, k, l, A, n, c, zs, rfl, h1, h2, h3, h4, h5, h6, h7, h8, own⟩
  obtain ⟨A', n', c', zs', e, _, _, _, _, own'⟩ := stab_list (B := B) (t := 5) (k := .u8) (lo := 0) (hi := 255) (most := most) _ w w' hg ⟨A, n, c, zs, rfl, h5, h6, h7, h8, own⟩
  refine ⟨f, t, k, l, A, n, c, zs, rfl, h1, h2, h3, h4, h5, h6, h7, h8, own.1, ?_⟩
  rcases own.2 with h | ⟨g, cap, cur, e1, e2, e3, e4⟩
  · exact .inl h
  · exact .inr ⟨g, cap, cur, e1, e2, (hg.block g (Array.getElem?_eq_some_iff.1 e3).1 (by omega)).trans e3, e4⟩
section
variable {Q : Exit → Act → World → Prop} {TS : Nat → Value → World → Prop} {X : Nat → World → Prop} {W : World} {g P0 B N : Nat} {F : Nat → Prop} {E : World → Prop} (C : Ctx Try.prog g P0 B N F E TS X) {i : Nat} (hXi : ∀ w, X i w) {d : Nat} {ty t t2 : TypeId} {pos : String} {af : Array Edge} {x y x0 x1 x2 x3 x4 : Operand}
include C hXi
theorem t_pktb {most : Nat} {fl fh tl th kl kh ll lh : Int} (h0 : OT TS x0 (tInt .i64 fl fh)) (h1 : OT TS x1 (tInt .i64 tl th)) (h2 : OT TS x2 (tInt .i64 kl kh)) (h3 : OT TS x3 (tInt .i64 ll lh)) (h4 : OT TS x4 (tList B 5 .u8 0 255 most)) (hd : TS d = tPktB B most fl fh tl th kl kh ll lh) :
    TStep Try.prog Q TS X (Gd W g P0 F E) N i ⟨some d, .build 27 #[(0, x0), (1, x1), (2, x2), (3, x3), (4, x4)], ty, pos, af, none⟩ :=
  step_same C.gB C.e C.st C.x hXi fun b w p hG ho => by
    obtain ⟨f, f1, f2, ef⟩ := h0 _ b w (by simp [Op.operands]) ho
    obtain ⟨t, t1, t2, et⟩ := h1 _ b w (by simp [Op.operands]) ho
    obtain ⟨k, k1, k2, ek⟩ := h2 _ b w (by simp [Op.operands]) ho
    obtain ⟨l, l1, l2, el⟩ := h3 _ b w (by simp [Op.operands]) ho
    obtain ⟨A, n, c, zs, es, n1, n2, n3, n4, own⟩ := h4 _ b w (by simp [Op.operands]) ho
    refine ⟨.agg #[.int .i64 f, .int .i64 t, .int .i64 k, .int .i64 l, .slice A n c], ?_, fun d' hd' => by cases hd'; rw [hd]; exact ⟨f, t, k, l, A, n, c, zs, rfl, ⟨f1, f2⟩, ⟨t1, t2⟩, ⟨k1, k2⟩, ⟨l1, l2⟩, n1, n2, n3, n4, own⟩⟩
    have hb : Try.prog.built 27 [(0, .int .i64 f), (1, .int .i64 t), (2, .int .i64 k), (3, .int .i64 l), (4, .slice A n c)] = some #[.int .i64 f, .int .i64 t, .int .i64 k, .int .i64 l, .slice A n c] := by kernel_rfl
    unfold execOp
    simp only [Sem.run_bind]
    rw [run_build w _ _ #[.int .i64 f, .int .i64 t, .int .i64 k, .int .i64 l, .slice A n c] (by simp only [List.map_toArray, List.map_cons, List.map_nil, ef, et, ek, el, es]; exact hb)]
    rfl
end
end Go.Proofs.Ytleammkpfknngaa
