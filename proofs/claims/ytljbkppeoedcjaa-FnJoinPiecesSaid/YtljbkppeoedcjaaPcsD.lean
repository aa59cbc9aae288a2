/-
  Pieces of one's own beside marks; markPieceS of a row, nil or not; how long split pieces are.
-/
import Derived.Test.YtljbkppeoedcjaaPcsC
import Derived.Test.YtljbkppeoedcjaaPieceL
namespace Go.Proofs.Ytljbkppeoedcjaa
open Go.RowKit
set_option linter.unusedVariables false

section
variable {w w' : World} {base n U lo hi : Nat} {v : Value} {ps : List Pv}
theorem OwnPcs.only (h : OwnPcs w base v n ps) (hu : UnderP U v ps) (hb : ∀ g, base ≤ g → g < U → g < w.heap.size → w'.heap[g]? = w.heap[g]?) : OwnPcs w' base v n ps := by
  have key : ∀ {e : TypeId} {size n : Nat} {v : Value} {xs : List Value}, w.ownsRow base e size v n xs → (∀ g, v.ownBlock = some g → g < U) → w'.ownsRow base e size v n xs := fun h hv => by
    refine ⟨h.1, ?_⟩
    rcases h.2 with h | ⟨g, cap, cur, e1, e2, e3, e4⟩
    · exact .inl h
    · exact .inr ⟨g, cap, cur, e1, e2, (hb g e2 (hv g (by rw [e1]; rfl)) (Array.getElem?_eq_some_iff.1 e3).1).trans e3, e4⟩
  exact ⟨key h.row hu.1, fun p hp => key (h.bodies p hp) (hu.2 p hp), h.byte, h.apart⟩
theorem OwnPcs.grown1 {k : Nat} (h : OwnPcs w base v n ps) (hu : UnderP U v ps) (hg : w.grownBy w' (some k)) (hk : k < base ∨ U ≤ k) : OwnPcs w' base v n ps :=
  h.only hu fun g h1 h2 h3 => hg.block g h3 (by intro e; injection e with e; omega)
theorem OwnPcs.rng (h : OwnPcs w base v n ps) (hu : UnderP U v ps) (hr : Rng lo hi w w') (hk : hi ≤ base ∨ U ≤ lo) : OwnPcs w' base v n ps :=
  h.only hu fun g h1 h2 h3 => hr.block g h3 (by omega)
end
theorem UnderP.mono {U U' : Nat} {v : Value} {ps : List Pv} (h : UnderP U v ps) (hU : U ≤ U') : UnderP U' v ps := ⟨fun g hg => Nat.lt_of_lt_of_le (h.1 g hg) hU, fun p hp g hg => Nat.lt_of_lt_of_le (h.2 p hp g hg) hU⟩

theorem markPieceS_nil (k0 : Int) (w : World) :
    Calls Try.prog 13 #[.slice none 0 0, .int .i64 k0] w fun e w' => e = .returned (.int .i64 k0) ∧ w = w' := by
  go_enter Try.func13, Try.ntmps13
  go_wp2
  go_loop [1, 5] (fun q i => i = .int .i64 0 ∧ q = .int .i64 k0) (fun _ _ => 0)
  case atStart => exact ⟨rfl, rfl⟩
  case round =>
    obtain ⟨rfl, rfl⟩ := hrel
    go_wp2
    go_ret
    exact ⟨rfl, rfl⟩
theorem markPieceS_own (A : Option Addr) (n c : Nat) (k0 : Int) (ps : List Pv) (base : Nat) (w : World) (hown : OwnPcs w base (.slice A n c) n ps) (hn : n ≤ 1048576) (hN : sumN ps ≤ 1048576) (h0 : 0 ≤ k0) (h1 : k0 ≤ 1000000) :
    Calls Try.prog 13 #[.slice A n c, .int .i64 k0] w fun e w' => e = .returned (.int .i64 (k0 + 2 * n + sumN ps)) ∧ OwnPcs w' base (.slice A n c) n (markPs k0 ps) ∧ Rng base w.heap.size w w' := by
  rcases hown.row.2 with ⟨hv, hx⟩ | ⟨g, cap, cur, hv, _⟩
  · injection hv with h1 h2 h3
    subst h1 h2 h3
    have hl := hown.len
    have : ps = [] := List.eq_nil_of_length_eq_zero hl
    subst this
    refine (markPieceS_nil k0 w).mono ?_
    rintro e w' ⟨rfl, rfl⟩
    exact ⟨by simp [sumN], hown, Rng.refl _ _ _⟩
  · injection hv with h1' h2 h3
    subst h1'
    exact markPieceS_any g n c k0 ps base w.heap.size w hown hown.under hn hN h0 h1

theorem sumN_bd {ps : List Pv} {M : Nat} (h : ∀ p ∈ ps, p.n ≤ M) : sumN ps ≤ M * ps.length := by
  induction ps with
  | nil => simp [sumN]
  | cons p r ih =>
    have h1 := h p (by simp)
    have h2 := ih fun q hq => h q (by simp [hq])
    simp only [sumN, List.length_cons, Nat.mul_add, Nat.mul_one]
    omega
theorem split_bds (zs : List Int) (size : Int) : (splitP zs size).length ≤ 80 ∧ ∀ p ∈ splitP zs size, p.body.length ≤ 40 := by
  by_cases hv : zs.length ≤ 80 ∧ 1 ≤ size ∧ size ≤ 40
  · exact ⟨split_len hv, fun p hp => by have := (split_parts hv p hp).2; omega⟩
  · unfold splitP
    rw [if_neg hv]
    exact ⟨by simp, fun p hp => absurd hp (by simp)⟩
theorem split_sum {zs : List Int} {size : Int} {ps : List Pv} {w : World} {base n : Nat} {v : Value} (h : ps.map Pv.pc = splitP zs size) (ho : OwnPcs w base v n ps) : sumN ps ≤ 3200 := by
  obtain ⟨h1, h2⟩ := split_bds zs size
  have hp : ∀ p ∈ ps, p.n ≤ 40 := fun p hp => by
    have e := h2 p.pc (by rw [← h]; exact List.mem_map_of_mem hp)
    have : (p.zs.map (Value.int .u8)).length = p.n * 1 := (ho.bodies p hp).1
    simp at this
    have e2 : p.zs.length ≤ 40 := e
    omega
  have hl : ps.length ≤ 80 := by
    have := congrArg List.length h
    simp at this
    omega
  have h3 := sumN_bd hp
  have h4 : 40 * ps.length ≤ 40 * 80 := Nat.mul_le_mul_left _ hl
  omega
end Go.Proofs.Ytljbkppeoedcjaa
