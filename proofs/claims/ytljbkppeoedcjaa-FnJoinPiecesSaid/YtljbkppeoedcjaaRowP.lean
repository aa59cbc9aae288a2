/-
  A row of pieces of one's own, the bodies in rows of one's own, some of them perhaps the same: what a drawing function may do to it.
-/
import Derived.Test.YtljbkppeoedcjaaPcsD
import Derived.Test.YtljbkppeoedcjaaSplit
import Derived.Test.YtljbkppeoedcjaaDraw0
namespace Go.Proofs.Ytljbkppeoedcjaa
open Go.RowKit
set_option linter.unusedVariables false

structure RowP (M : Int) (w : World) (base : Nat) (v : Value) (n : Nat) (ps : List Pv) : Prop where
  row : w.ownsRow base 35 3 v n (pvs ps)
  bodies : ∀ p ∈ ps, w.ownsRow base 5 1 p.body p.n (p.zs.map (Value.int .u8))
  byte : ∀ p ∈ ps, AllByte p.zs
  small : ∀ p ∈ ps, -1 ≤ p.at_ ∧ p.at_ ≤ M ∧ (p.n : Int) ≤ M
section
variable {M : Int} {w w' : World} {base n g c : Nat} {v : Value} {ps : List Pv}
theorem RowP.len (h : RowP M w base v n ps) : ps.length = n := by have := h.row.1; rw [pvs_length] at this; omega
theorem RowP.of_own (h : OwnPcs w base v n ps) (hs : ∀ p ∈ ps, -1 ≤ p.at_ ∧ p.at_ ≤ M ∧ (p.n : Int) ≤ M) : RowP M w base v n ps := ⟨h.row, h.bodies, h.byte, hs⟩
theorem RowP.picked {r : Nat} (h : RowP M w base v n ps) (hg : w.grownBy w' (some r)) (hr : r < base) : RowP M w' base v n ps := ⟨own_picked h.row hg hr, fun p hp => own_picked (h.bodies p hp) hg hr, h.byte, h.small⟩
theorem RowP.alloc (h : RowP M w base v n ps) (o : Obj) : RowP M (w.alloc o) base v n ps := ⟨h.row.alloc o, fun p hp => (h.bodies p hp).alloc o, h.byte, h.small⟩
theorem RowP.drew (h : RowP M w base v n ps) : RowP M w.drew base v n ps := ⟨h.row, h.bodies, h.byte, h.small⟩
theorem RowP.more {B' : Nat} (h : RowP M w base v n ps) (hB : B' ≤ base) : RowP M w B' v n ps := ⟨own_more h.row hB, fun p hp => own_more (h.bodies p hp) hB, h.byte, h.small⟩
theorem RowP.weak {M' : Int} (h : RowP M w base v n ps) (hM : M ≤ M') : RowP M' w base v n ps := ⟨h.row, h.bodies, h.byte, fun p hp => by have := h.small p hp; omega⟩
theorem RowP.body_ne (h : RowP M w base v n ps) {p : Pv} (hp : p ∈ ps) {k : Nat} (hk : v.ownBlock = some k) : p.body.ownBlock ≠ some k := fun he => own_types (h.bodies p hp) h.row piece_ne k he hk
theorem RowP.under {u : Value} {m : Nat} {zs : List Value} (h : RowP M w base v n ps) (hu : w.ownsRow base 5 1 u m zs) {k : Nat} (hk : v.ownBlock = some k) : u.ownBlock ≠ some k := fun he => own_types hu h.row piece_ne k he hk
/-- One place written. -/
theorem RowP.put (h : RowP M w base (.slice (some ⟨g, 0, none⟩) n c) n ps) {k : Nat} (hk : k < n) (p : Pv) (hp : w.ownsRow base 5 1 p.body p.n (p.zs.map (Value.int .u8))) (hb : AllByte p.zs) (hs : -1 ≤ p.at_ ∧ p.at_ ≤ M ∧ (p.n : Int) ≤ M) :
    RowP M (setP w g (k * 3) p) base (.slice (some ⟨g, 0, none⟩) n c) n (ps.set k p) := by
  have hl := h.len
  refine ⟨?_, fun q hq => ?_, fun q hq => ?_, fun q hq => ?_⟩
  · have s1 := (h.row.stored (k * 3) (.int .i64 p.at_)).1
    have s2 := (s1.stored (k * 3 + 1) (.bool p.more)).1
    have s3 := (s2.stored (k * 3 + 2) p.body).1
    rw [pvs_set ps k p (by omega)] at s3
    exact s3
  · rcases List.mem_or_eq_of_mem_set hq with hq | rfl
    · exact own_setP (h.bodies q hq) (h.body_ne hq rfl)
    · exact own_setP hp (h.under hp rfl)
  · rcases List.mem_or_eq_of_mem_set hq with hq | rfl
    · exact h.byte q hq
    · exact hb
  · rcases List.mem_or_eq_of_mem_set hq with hq | rfl
    · exact h.small q hq
    · exact hs
/-- A cell of one place written. -/
theorem RowP.set0 (h : RowP M w base (.slice (some ⟨g, 0, none⟩) n c) n ps) {k : Nat} (hk : k < n) (a : Int) {M' : Int} (hM : M ≤ M') (ha : -1 ≤ a ∧ a ≤ M') : RowP M' (w.setCell ⟨g, k * 3, none⟩ (.int .i64 a)) base (.slice (some ⟨g, 0, none⟩) n c) n (ps.set k ⟨a, (pAt ps k).more, (pAt ps k).A, (pAt ps k).n, (pAt ps k).c, (pAt ps k).zs⟩) := by
  have hl := h.len
  have hm := pAt_mem (ps := ps) (k := k) (by omega)
  obtain ⟨p, hp⟩ : ∃ p, pAt ps k = p := ⟨_, rfl⟩
  obtain ⟨a0, a1, a2⟩ := pvs_at ps k (by omega)
  rw [hp] at hm a0 a1 a2 ⊢
  refine ⟨?_, fun q hq => ?_, fun q hq => ?_, fun q hq => ?_⟩
  · have s1 := (h.row.stored (k * 3) (.int .i64 a)).1
    rw [← pvs_set ps k ⟨a, p.more, p.A, p.n, p.c, p.zs⟩ (by omega)]
    rw [set_same (l := ((pvs ps).set (k * 3) (.int .i64 a)).set (k * 3 + 1) (.bool p.more)) (i := k * 3 + 2), set_same (l := (pvs ps).set (k * 3) (.int .i64 a)) (i := k * 3 + 1)]
    · exact s1
    · rw [List.getElem?_set, if_neg (by omega)]; exact a1
    · rw [List.getElem?_set, if_neg (by omega), List.getElem?_set, if_neg (by omega)]; exact a2
  · rcases List.mem_or_eq_of_mem_set hq with hq | rfl
    · exact own_store (h.bodies q hq) (h.body_ne hq rfl) _
    · exact own_store (h.bodies p hm) (h.body_ne hm rfl) _
  · rcases List.mem_or_eq_of_mem_set hq with hq | rfl
    · exact h.byte q hq
    · exact h.byte p hm
  · rcases List.mem_or_eq_of_mem_set hq with hq | rfl
    · have := h.small q hq; omega
    · have := h.small p hm; exact ⟨ha.1, ha.2, by simp only; omega⟩
theorem RowP.set1 (h : RowP M w base (.slice (some ⟨g, 0, none⟩) n c) n ps) {k : Nat} (hk : k < n) (b : Bool) : RowP M (w.setCell ⟨g, k * 3 + 1, none⟩ (.bool b)) base (.slice (some ⟨g, 0, none⟩) n c) n (ps.set k ⟨(pAt ps k).at_, b, (pAt ps k).A, (pAt ps k).n, (pAt ps k).c, (pAt ps k).zs⟩) := by
  have hl := h.len
  have hm := pAt_mem (ps := ps) (k := k) (by omega)
  obtain ⟨p, hp⟩ : ∃ p, pAt ps k = p := ⟨_, rfl⟩
  obtain ⟨a0, a1, a2⟩ := pvs_at ps k (by omega)
  rw [hp] at hm a0 a1 a2 ⊢
  refine ⟨?_, fun q hq => ?_, fun q hq => ?_, fun q hq => ?_⟩
  · have s1 := (h.row.stored (k * 3 + 1) (.bool b)).1
    rw [← pvs_set ps k ⟨p.at_, b, p.A, p.n, p.c, p.zs⟩ (by omega)]
    rw [set_same (l := ((pvs ps).set (k * 3) (.int .i64 p.at_)).set (k * 3 + 1) (.bool b)) (i := k * 3 + 2), set_same (l := pvs ps) (i := k * 3)]
    · exact s1
    · exact a0
    · rw [List.getElem?_set, if_neg (by omega), List.getElem?_set, if_neg (by omega)]; exact a2
  · rcases List.mem_or_eq_of_mem_set hq with hq | rfl
    · exact own_store (h.bodies q hq) (h.body_ne hq rfl) _
    · exact own_store (h.bodies p hm) (h.body_ne hm rfl) _
  · rcases List.mem_or_eq_of_mem_set hq with hq | rfl
    · exact h.byte q hq
    · exact h.byte p hm
  · rcases List.mem_or_eq_of_mem_set hq with hq | rfl
    · exact h.small q hq
    · exact h.small p hm
/-- Another row, its pieces all of this one's. -/
theorem RowP.row_ {v' : Value} {n' : Nat} {qs : List Pv} (h : RowP M w base v n ps) (hb : ∀ p ∈ ps, w'.ownsRow base 5 1 p.body p.n (p.zs.map (Value.int .u8))) (hr : w'.ownsRow base 35 3 v' n' (pvs qs)) (hq : ∀ q ∈ qs, q ∈ ps) : RowP M w' base v' n' qs :=
  ⟨hr, fun q hqm => hb q (hq q hqm), fun q hqm => h.byte q (hq q hqm), fun q hqm => h.small q (hq q hqm)⟩
theorem RowP.pcs {A : Option Addr} (h : RowP M w base (.slice A n c) n ps) : Pcs w base w.heap.size A n ps :=
  ⟨Sl.of_own h.row, fun p hp => ⟨Sl.of_own (h.bodies p hp), by
    obtain ⟨A', c', e, h1, h2⟩ := own_is_slice (h.bodies p hp)
    unfold Pv.body at e
    cases e
    exact ⟨h1, h2, h.byte p hp⟩⟩⟩
/-- The three cells of one place. -/
theorem RowP.cells (h : RowP M w base (.slice (some ⟨g, 0, none⟩) n c) n ps) {k : Nat} (hk : k < n) : w.cell? ⟨g, k * 3, none⟩ = some (.int .i64 (pAt ps k).at_) ∧ w.cell? ⟨g, k * 3 + 1, none⟩ = some (.bool (pAt ps k).more) ∧ w.cell? ⟨g, k * 3 + 2, none⟩ = some (.slice (pAt ps k).A (pAt ps k).n (pAt ps k).c) := by
  obtain ⟨a0, a1, a2⟩ := pvs_at ps k (by rw [h.len]; exact hk)
  exact ⟨(h.row.cellAt _ (by omega)).trans a0, (h.row.cellAt _ (by omega)).trans a1, (h.row.cellAt _ (by omega)).trans a2⟩
theorem RowP.at_ (h : RowP M w base v n ps) {k : Nat} (hk : k < n) : (-1 ≤ (pAt ps k).at_ ∧ (pAt ps k).at_ ≤ M ∧ ((pAt ps k).n : Int) ≤ M) ∧ AllByte (pAt ps k).zs ∧ w.ownsRow base 5 1 (pAt ps k).body (pAt ps k).n ((pAt ps k).zs.map (Value.int .u8)) := by
  have hm := pAt_mem (ps := ps) (k := k) (by rw [h.len]; exact hk)
  exact ⟨h.small _ hm, h.byte _ hm, h.bodies _ hm⟩
end
/-- A draw hands back pieces. -/
def DrawnPieces (W : World) (e : Ending) (w' : World) : Prop := ∃ (A : Option Addr) (n c : Nat) (ps : List Pv), e = .returned (.slice A n c) ∧ n ≤ 90 ∧ Pcs w' W.heap.size w'.heap.size A n ps ∧ (n ≤ c ∧ c ≤ maxLen) ∧ (∀ p ∈ ps, -1 ≤ p.at_ ∧ p.at_ ≤ 101 ∧ p.n ≤ 101) ∧ Below W.heap.size W w'
theorem DrawnPieces.mk {M : Int} (hM : M ≤ 101) {W w' : World} {base n c : Nat} {A : Option Addr} {ps : List Pv} (h : RowP M w' base (.slice A n c) n ps) (hB : W.heap.size ≤ base) (hn : n ≤ 90) (hb : Below W.heap.size W w') : DrawnPieces W (.returned (.slice A n c)) w' := by
  obtain ⟨A', c', e, h1, h2⟩ := own_is_slice h.row
  cases e
  exact ⟨A, n, c, ps, rfl, hn, h.pcs.more hB (Nat.le_refl _), ⟨h1, h2⟩, fun p hp => by have := h.small p hp; omega, hb⟩
end Go.Proofs.Ytljbkppeoedcjaa
