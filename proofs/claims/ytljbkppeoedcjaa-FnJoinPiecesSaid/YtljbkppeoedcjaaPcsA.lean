/-
  Pieces: szPieceS, toPieceS, eqPieceS of the laws; words for rows of pieces.
-/
import Derived.Test.YtljbkppeoedcjaaPcs
import Derived.Deep.DrawnRows
import Derived.Deep.RegionHeld3
namespace Go.Proofs.Ytljbkppeoedcjaa
open Go.RowKit
set_option linter.unusedVariables false
attribute [local go_sem ↓] Go.wp_at_zero Go.wp_at_succ

theorem Blk.tri {w : World} {g : Nat} {t : TypeId} {a b c : Value} (h : Blk w g t #[a, b, c]) : w.cell? ⟨g, 0, none⟩ = some a ∧ w.cell? ⟨g, 1, none⟩ = some b ∧ w.cell? ⟨g, 2, none⟩ = some c ∧ (∀ i, w.frozen? ⟨g, i, none⟩ = false) :=
  ⟨by rw [h.cell]; rfl, by rw [h.cell]; rfl, by rw [h.cell]; rfl, h.frozen⟩
/-- Rows of two types lie in two blocks. -/
theorem own_types {w : World} {b1 b2 s1 s2 n1 n2 : Nat} {e1 e2 : TypeId} {v1 v2 : Value} {x1 x2 : List Value} (h1 : w.ownsRow b1 e1 s1 v1 n1 x1) (h2 : w.ownsRow b2 e2 s2 v2 n2 x2) (hne : e1 ≠ e2) : ∀ g, v1.ownBlock = some g → v2.ownBlock ≠ some g := by
  intro g hg hh
  rcases h1.2 with ⟨rfl, _⟩ | ⟨k1, cap1, cur1, rfl, _, f1, _⟩
  · simp [Value.ownBlock] at hg
  · rcases h2.2 with ⟨rfl, _⟩ | ⟨k2, cap2, cur2, rfl, _, f2, _⟩
    · simp [Value.ownBlock] at hh
    · simp [Value.ownBlock] at hg hh
      subst hg
      subst hh
      rw [f1] at f2
      simp at f2
      exact hne f2.2
theorem own_apart2 {w w1 : World} {base : Nat} {e : TypeId} {size n : Nat} {v : Value} {xs : List Value} {row : Option Nat} (h : w.ownsRow base e size v n xs) (hg : w.grownBy w1 row) (hne : ∀ k, v.ownBlock = some k → row ≠ some k) : w1.ownsRow base e size v n xs := by
  refine h.kept hg ?_
  cases hv : v.ownBlock with
  | none => exact .inl rfl
  | some k => exact .inr fun e => hne k hv e.symm
theorem own_store {w : World} {B k i s n : Nat} {e : TypeId} {v : Value} {xs : List Value} (h : w.ownsRow B e s v n xs) (hk : v.ownBlock ≠ some k) (u : Value) : (w.setCell ⟨k, i, none⟩ u).ownsRow B e s v n xs :=
  own_other h (only_setCell (World.grownBy.refl w (some k)) (p := ⟨k, i, none⟩) (.inl rfl) u) hk
/-- The three cells of a piece, written. -/
def setP (w : World) (g o : Nat) (p : Pv) : World := ((w.setCell ⟨g, o, none⟩ (.int .i64 p.at_)).setCell ⟨g, o + 1, none⟩ (.bool p.more)).setCell ⟨g, o + 2, none⟩ p.body
theorem own_setP {w : World} {B g o s n : Nat} {p : Pv} {e : TypeId} {v : Value} {xs : List Value} (h : w.ownsRow B e s v n xs) (hk : v.ownBlock ≠ some g) : (setP w g o p).ownsRow B e s v n xs :=
  own_store (own_store (own_store h hk _) hk _) hk _
theorem pair_set {α : Type} {R : α → α → Prop} (hs : ∀ a b, R a b → R b a) {l : List α} (h : l.Pairwise R) {k : Nat} {p : α} (hp : ∀ q ∈ l, R q p) : (l.set k p).Pairwise R := by
  rw [List.pairwise_iff_getElem] at h ⊢
  intro i j hi hj hij
  simp only [List.length_set] at hi hj
  rw [List.getElem_set, List.getElem_set]
  by_cases h1 : k = i
  · rw [if_pos h1, if_neg (by omega)]
    exact hs _ _ (hp _ (List.getElem_mem _))
  · rw [if_neg h1]
    by_cases h2 : k = j
    · rw [if_pos h2]
      exact hp _ (List.getElem_mem _)
    · rw [if_neg h2]
      exact h i j hi hj hij
theorem apart_symm (p q : Pv) (h : ∀ g, p.body.ownBlock = some g → q.body.ownBlock ≠ some g) : ∀ g, q.body.ownBlock = some g → p.body.ownBlock ≠ some g := fun g h1 h2 => h g h2 h1
theorem piece_ne : (5 : TypeId) ≠ 35 := by decide
section
variable {w w2 w3 : World} {base g n c : Nat} {v v' : Value} {ps : List Pv}
theorem OwnPcs.body_ne (h : OwnPcs w base v n ps) {p : Pv} (hp : p ∈ ps) {k : Nat} (hk : v.ownBlock = some k) : p.body.ownBlock ≠ some k := fun he => own_types (h.bodies p hp) h.row piece_ne k he hk
/-- One place of a row of pieces written anew. -/
theorem OwnPcs.put (h : OwnPcs w base (.slice (some ⟨g, 0, none⟩) n c) n ps) (hg : New w w2) {k : Nat} (hk : k < n) (p : Pv) (hp : w2.ownsRow base 5 1 p.body p.n (p.zs.map (Value.int .u8))) (hf : ∀ b, p.body.ownBlock = some b → w.heap.size ≤ b) (hb : AllByte p.zs) :
    OwnPcs (setP w2 g (k * 3) p) base (.slice (some ⟨g, 0, none⟩) n c) n (ps.set k p) := by
  have hl := h.len
  have h2 := h.new hg
  have hgl := (h.row.lt g rfl).2
  have hpg : p.body.ownBlock ≠ some g := fun he => by have := hf g he; omega
  refine ⟨?_, fun q hq => ?_, fun q hq => ?_, ?_⟩
  · have s1 := (h2.row.stored (k * 3) (.int .i64 p.at_)).1
    have s2 := (s1.stored (k * 3 + 1) (.bool p.more)).1
    have s3 := (s2.stored (k * 3 + 2) p.body).1
    rw [pvs_set ps k p (by omega)] at s3
    exact s3
  · rcases List.mem_or_eq_of_mem_set hq with hq | rfl
    · exact own_setP (h2.bodies q hq) (h2.body_ne hq rfl)
    · exact own_setP hp hpg
  · rcases List.mem_or_eq_of_mem_set hq with hq | rfl
    · exact h.byte q hq
    · exact hb
  · exact pair_set apart_symm h.apart fun q hq g' hg' he => by
      have := hf g' he
      have := ((h.bodies q hq).lt g' hg').2
      omega
/-- One piece behind a row of pieces. -/
theorem OwnPcs.snoc (h : OwnPcs w base v n ps) (hg : New w w2) (p : Pv) (hp : w2.ownsRow base 5 1 p.body p.n (p.zs.map (Value.int .u8))) (hf : ∀ b, p.body.ownBlock = some b → w.heap.size ≤ b) (hb : AllByte p.zs)
    (hrow : w3.ownsRow base 35 3 v' (n + 1) (pvs ps ++ p.cs)) (hgr : w2.grownBy w3 v.ownBlock) : OwnPcs w3 base v' (n + 1) (ps ++ [p]) := by
  have h2 := h.new hg
  refine ⟨by rw [pvs_append, pvs_one]; exact hrow, fun q hq => ?_, fun q hq => ?_, ?_⟩
  · rcases List.mem_append.1 hq with hq | hq
    · exact own_apart2 (h2.bodies q hq) hgr fun k hk he => own_types (h2.bodies q hq) h2.row piece_ne k hk he
    · simp at hq
      subst hq
      exact own_apart2 hp hgr fun k hk he => by
        have := hf k hk
        have := (h.row.lt k he).2
        omega
  · rcases List.mem_append.1 hq with hq | hq
    · exact h.byte q hq
    · simp at hq
      subst hq
      exact hb
  · rw [List.pairwise_append]
    refine ⟨h.apart, by simp, fun q hq r hr => ?_⟩
    simp at hr
    subst hr
    intro g' hg' he
    have := hf g' he
    have := ((h.bodies q hq).lt g' hg').2
    omega
theorem OwnPcs.nil_ (w : World) (base : Nat) : OwnPcs w base (.slice none 0 0) 0 [] := ⟨World.ownsRow_nil _ _ _ _, fun p hp => by simp at hp, fun p hp => by simp at hp, List.Pairwise.nil⟩
theorem OwnPcs.more {B' : Nat} (h : OwnPcs w base v n ps) (hB : B' ≤ base) : OwnPcs w B' v n ps := ⟨own_more h.row hB, fun p hp => own_more (h.bodies p hp) hB, h.byte, h.apart⟩
end
/-- The sum of the bodies' lengths. -/
def sumN : List Pv → Nat
  | [] => 0
  | p :: r => p.n + sumN r
theorem sumN_append (a b : List Pv) : sumN (a ++ b) = sumN a + sumN b := by
  induction a with
  | nil => simp [sumN]
  | cons p r ih => simp [sumN, ih]; omega
theorem take_succ_p {ps : List Pv} {k : Nat} (h : k < ps.length) : ps.take (k + 1) = ps.take k ++ [pAt ps k] := by
  rw [List.take_succ_eq_append_getElem h, pAt_eq h]
theorem sumN_step {ps : List Pv} {k : Nat} (h : k < ps.length) : sumN (ps.take (k + 1)) = sumN (ps.take k) + (pAt ps k).n := by
  rw [take_succ_p h, sumN_append]; simp [sumN]
theorem sumN_le {ps : List Pv} {p : Pv} (h : p ∈ ps) : p.n ≤ sumN ps := by
  induction ps with
  | nil => simp at h
  | cons q r ih =>
    rcases List.mem_cons.1 h with rfl | h
    · simp [sumN]
    · have := ih h; simp [sumN]; omega
theorem sumN_take_le (ps : List Pv) (k : Nat) : sumN (ps.take k) ≤ sumN ps := by
  have := sumN_append (ps.take k) (ps.drop k)
  rw [List.take_append_drop] at this
  omega

theorem szByteS_any (A : Option Addr) (n c : Nat) (z : Int) (w : World) (hn : n ≤ 9223372036854775807) (h0 : 0 ≤ z) (h1 : z ≤ 1048576) :
    Calls Try.prog 35 #[.slice A n c, .int .i64 z] w fun e w' => e = .returned (.int .i64 (if z < (n : Int) then -1 else z - n)) ∧ w = w' := by
  by_cases hz : z < (n : Int)
  · rw [if_pos hz]
    go_enter Try.func35, Try.ntmps35
    go_wp2
    go_ret
    exact ⟨rfl, rfl⟩
  · rw [if_neg hz]
    go_enter Try.func35, Try.ntmps35
    go_wp2
    go_ret
    exact ⟨rfl, rfl⟩
theorem szPiece_any (a : Int) (m : Bool) (A : Option Addr) (n c : Nat) (z : Int) (w : World) (hn : n ≤ 9223372036854775807) (h0 : 0 ≤ z) (h1 : z ≤ 1048576) :
    Calls Try.prog 33 #[.agg #[.int .i64 a, .bool m, .slice A n c], .int .i64 z] w fun e w' => e = .returned (.int .i64 (if z < (n : Int) then -1 else z - n)) ∧ Below w.heap.size w w' := by
  by_cases hz : z < (n : Int)
  · rw [if_pos hz]
    go_enter Try.func33, Try.ntmps33
    go_wp2_with (go_at_call 35; refine (szByteS_any _ _ _ _ _ hn h0 h1).mono ?_; rw [if_pos hz]; rintro e w' ⟨rfl, rfl⟩)
    go_ret
    exact ⟨rfl, (Below.refl _ _).alloc (Nat.le_refl _) _⟩
  · rw [if_neg hz]
    go_enter Try.func33, Try.ntmps33
    go_wp2_with (go_at_call 35; refine (szByteS_any _ _ _ _ _ hn h0 h1).mono ?_; rw [if_neg hz]; rintro e w' ⟨rfl, rfl⟩)
    go_ret
    exact ⟨rfl, (Below.refl _ _).alloc (Nat.le_refl _) _⟩
/-- What is left of z: nothing (-1), or z without the places of all pieces. -/
def SzPcs (z : Int) (n : Nat) (ps : List Pv) (W : World) (e : Ending) (w' : World) : Prop := ∃ z' : Int, e = .returned (.int .i64 z') ∧ (z' = -1 ∨ (0 ≤ z' ∧ z' = z - n - sumN ps)) ∧ Below W.heap.size W w'
theorem szPieceS_any (A : Option Addr) (n c : Nat) (ps : List Pv) (z : Int) (w : World) (hS : Pcs w 0 w.heap.size A n ps) (hn : n ≤ 9223372036854775807) (h0 : 0 ≤ z) (h1 : z ≤ 1048576) :
    Calls Try.prog 20 #[.slice A n c, .int .i64 z] w (SzPcs z n ps w) := by
  have HL := Lib.hid hS.len
  by_cases hz : z < (n : Int)
  · go_enter Try.func20, Try.ntmps20
    go_wp2
    go_ret
    exact ⟨-1, rfl, .inl rfl, Below.refl _ _⟩
  · go_enter Try.func20, Try.ntmps20
    go_wp2
    go_loopw [1, 5] (fun q i wr => ∃ (k : Nat) (y : Int), k ≤ n ∧ i = .int .i64 k ∧ q = .int .i64 y ∧ 0 ≤ y ∧ y ≤ 1048576 ∧ Hid (y = z - n - sumN (ps.take k)) ∧ Below w.heap.size w wr) (fun _ i _ => n - (intOf i).toNat)
    case atStart => exact ⟨0, z - n, Nat.zero_le _, rfl, rfl, by omega, by omega, Lib.hid (by simp [sumN]), Below.refl _ _⟩
    case round =>
      obtain ⟨k, y, hk, rfl, rfl, hy0, hy1, HY, hb⟩ := hrel
      by_cases hlt : k < n
      · obtain ⟨b, off, rfl, _, hbh, c0, c1, c2, _, hnc, hcm, _⟩ := (hS.below hb (Nat.le_refl _)).piece hlt
        have hstep : Hid (sumN (ps.take (k + 1)) = sumN (ps.take k) + (pAt ps k).n) := Lib.hid (sumN_step (by rw [HL.out]; exact hlt))
        obtain ⟨⟨a, mo, B, m, mc, zs⟩, hp⟩ : ∃ p, pAt ps k = p := ⟨_, rfl⟩
        rw [hp] at c0 c1 c2 hnc hcm hstep
        clear hp
        simp only at c0 c1 c2 hnc hcm
        unfold maxLen at hcm
        by_cases hzm : y < (m : Int)
        · go_wp2_with (go_at_call 33; refine (szPiece_any _ _ _ _ _ _ _ (by omega) hy0 hy1).mono ?_; rw [if_pos hzm]; rintro e w1 ⟨rfl, b1⟩)
          go_ret
          exact ⟨-1, rfl, .inl rfl, hb.trans (b1.mono hb.size)⟩
        · go_wp2_with (go_at_call 33; refine (szPiece_any _ _ _ _ _ _ _ (by omega) hy0 hy1).mono ?_; rw [if_neg hzm]; rintro e w1 ⟨rfl, b1⟩)
          go_roundw
          case rel => exact ⟨k + 1, y - m, by omega, by go_num, rfl, by omega, by omega, Lib.hid (by have := HY.out; have := hstep.out; omega), hb.trans (b1.mono hb.size)⟩
          case measure => simp [intOf]; omega
      · obtain rfl : n = k := by omega
        go_wp2
        go_ret
        exact ⟨y, rfl, .inr ⟨hy0, by have := HY.out; rwa [List.take_of_length_le (by rw [HL.out]; exact Nat.le_refl _)] at this⟩, hb⟩
end Go.Proofs.Ytljbkppeoedcjaa
