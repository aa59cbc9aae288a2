/-
  pick and odd as steps of a drawn region.
-/
import Derived.Test.YtgdcfhifiincaaaTStep
namespace Go.Proofs.Ytgdcfhifiincaaa
open Go.RowKit
set_option linter.unusedVariables false

theorem infoI : (Try.prog.info? 3).map (fun i => (i.zero, i.size, i.bytes)) = some (some (.int .i64 0), 1, 8) := by kernel_rfl
theorem infoB : (Try.prog.info? 5).map (fun i => (i.zero, i.size, i.bytes)) = some (some (.int .u8 0), 1, 1) := by kernel_rfl

section
variable {Q : Exit → Act → World → Prop} {TS : Nat → Value → World → Prop} {X : Nat → World → Prop} {W : World} {g P0 B N : Nat} {F : Nat → Prop} {E : World → Prop} (C : Ctx Try.prog g P0 B N F E TS X) {i : Nat} (hXi : ∀ w, X i w) {d : Nat} {ty t t2 : TypeId} {pos : String} {af : Array Edge} {x y : Operand}
include C hXi

theorem t_pick {ts : Array TypeId} {lo hi hi' : Int} (hx : OT TS x (tLit (.pointer (some ⟨g, 0, none⟩)))) (hy : OT TS y (tInt .i64 lo hi)) (h1 : 1 ≤ lo) (h2 : hi ≤ 1000000000) (h3 : hi - 1 ≤ hi') (hd : TS d = tInt .i64 0 hi') :
    TStep Try.prog Q TS X (Gd W g P0 F E) N i ⟨some d, .call { callee := .value (.func 59), args := #[x, y], argTypes := ts }, ty, pos, af, none⟩ :=
  t_call C hXi Try.func59 (by kernel_rfl) (by kernel_rfl) hd fun b w ho q hq hr => by
    have e1 : b.eval x = .pointer (some ⟨g, 0, none⟩) := hx _ b w (by simp [Op.operands, Call.operands]) ho
    obtain ⟨n, n1, n2, e2⟩ := hy _ b w (by simp [Op.operands, Call.operands]) ho
    have e3 : (#[x, y] : Array Operand).map b.eval = #[.pointer (some ⟨g, 0, none⟩), .int .i64 n] := by simp [e1, e2]
    rw [e3]
    refine (pick_any g q n w hr (by omega) (by omega) (by omega)).mono ?_
    rintro e w' ⟨v, v0, v1, rfl, hr', hg'⟩
    exact ⟨_, rfl, ⟨hr'.1.more (by omega), hr'.2⟩, hg', v, v0, by omega, rfl⟩
end
end Go.Proofs.Ytgdcfhifiincaaa
