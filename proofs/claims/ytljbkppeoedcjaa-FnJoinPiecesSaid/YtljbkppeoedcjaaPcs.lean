/-
  Words for slices of pieces: a piece is a number, a bool and a slice of bytes; a slice of n pieces is a row of 3 n cells.
-/
import Derived.Test.YtljbkppeoedcjaaPieceL
import Derived.Test.YtljbkppeoedcjaaCopyByte
import Derived.Test.YtljbkppeoedcjaaHost0
import Derived.Test.YtljbkppeoedcjaaMix
namespace Go.Proofs.Ytljbkppeoedcjaa
open Go.RowKit
set_option linter.unusedVariables false

/-- A piece in memory. -/
structure Pv where
  at_ : Int
  more : Bool
  A : Option Addr
  n : Nat
  c : Nat
  zs : List Int
instance : Inhabited Pv := ⟨⟨0, false, none, 0, 0, []⟩⟩
def Pv.pc (p : Pv) : Pc := ⟨p.at_, p.more, p.zs⟩
def Pv.body (p : Pv) : Value := .slice p.A p.n p.c
def Pv.cs (p : Pv) : List Value := [.int .i64 p.at_, .bool p.more, p.body]
def pvs (ps : List Pv) : List Value := ps.flatMap Pv.cs
theorem pvs_length (ps : List Pv) : (pvs ps).length = ps.length * 3 := by
  induction ps with
  | nil => rfl
  | cons p r ih => simp only [pvs, List.flatMap_cons, List.length_append] at ih ⊢; rw [ih]; simp [Pv.cs]; omega
theorem pvs_append (a b : List Pv) : pvs (a ++ b) = pvs a ++ pvs b := by simp [pvs]
theorem pvs_one (p : Pv) : pvs [p] = p.cs := by simp [pvs]
theorem pvs_cons (p : Pv) (r : List Pv) : pvs (p :: r) = p.cs ++ pvs r := rfl
def pAt (ps : List Pv) (k : Nat) : Pv := ps[k]?.getD default
theorem pAt_eq {ps : List Pv} {k : Nat} (h : k < ps.length) : pAt ps k = ps[k] := by unfold pAt; rw [List.getElem?_eq_getElem h]; rfl
theorem pAt_mem {ps : List Pv} {k : Nat} (h : k < ps.length) : pAt ps k ∈ ps := by rw [pAt_eq h]; exact List.getElem_mem h
theorem pvs_at (ps : List Pv) : ∀ (k : Nat), k < ps.length → (pvs ps)[k * 3]? = some (.int .i64 (pAt ps k).at_) ∧ (pvs ps)[k * 3 + 1]? = some (.bool (pAt ps k).more) ∧ (pvs ps)[k * 3 + 2]? = some (pAt ps k).body := by
  induction ps with
  | nil => intro k h; simp at h
  | cons x r ih =>
    intro k h
    cases k with
    | zero => exact ⟨rfl, rfl, rfl⟩
    | succ k =>
      have := ih k (by simpa using h)
      have e : pAt (x :: r) (k + 1) = pAt r k := by simp [pAt]
      rw [e, show (k + 1) * 3 = k * 3 + 1 + 1 + 1 from by omega]
      exact this
theorem pvs_take (ps : List Pv) (k : Nat) : (pvs ps).take (k * 3) = pvs (ps.take k) := by
  induction ps generalizing k with
  | nil => simp [pvs]
  | cons x r ih =>
    cases k with
    | zero => simp [pvs]
    | succ k =>
      rw [show (k + 1) * 3 = k * 3 + 1 + 1 + 1 from by omega, pvs_cons, List.take_succ_cons, pvs_cons]
      simp [Pv.cs, ih]
theorem pvs_drop (ps : List Pv) (k : Nat) : (pvs ps).drop (k * 3) = pvs (ps.drop k) := by
  induction ps generalizing k with
  | nil => simp [pvs]
  | cons x r ih =>
    cases k with
    | zero => simp [pvs]
    | succ k =>
      rw [show (k + 1) * 3 = k * 3 + 1 + 1 + 1 from by omega, pvs_cons, List.drop_succ_cons]
      simp [Pv.cs, ih]
theorem pvs_set (ps : List Pv) : ∀ (k : Nat) (p : Pv), k < ps.length → (((pvs ps).set (k * 3) (.int .i64 p.at_)).set (k * 3 + 1) (.bool p.more)).set (k * 3 + 2) p.body = pvs (ps.set k p) := by
  induction ps with
  | nil => intro k p h; simp at h
  | cons x r ih =>
    intro k p hk
    cases k with
    | zero => rfl
    | succ k =>
      have := ih k p (by simpa using hk)
      rw [show (k + 1) * 3 = k * 3 + 1 + 1 + 1 from by omega, List.set_cons_succ, pvs_cons, pvs_cons]
      simp only [Pv.cs, List.cons_append, List.nil_append, List.set_cons_succ]
      rw [this]

/-- The bodies read as their lists of bytes. -/
def Bodies (w : World) (lo hi : Nat) (ps : List Pv) : Prop := ∀ p ∈ ps, Sl w lo hi 1 p.A p.n (p.zs.map (Value.int .u8)) ∧ p.n ≤ p.c ∧ p.c ≤ maxLen ∧ AllByte p.zs
theorem Bodies.len {w : World} {lo hi : Nat} {ps : List Pv} (h : Bodies w lo hi ps) {p : Pv} (hp : p ∈ ps) : p.zs.length = p.n := (h p hp).1.len
theorem Bodies.keep {w w' : World} {lo hi : Nat} {ps : List Pv} (h : Bodies w lo hi ps) (hk : ∀ b o, lo ≤ b → b < hi → w'.cell? ⟨b, o, none⟩ = w.cell? ⟨b, o, none⟩) : Bodies w' lo hi ps := fun p hp => ⟨(h p hp).1.keep hk, (h p hp).2⟩
theorem Bodies.below {w w' : World} {lo hi B : Nat} {ps : List Pv} (h : Bodies w lo hi ps) (hb : Below B w w') (hB : hi ≤ B) : Bodies w' lo hi ps := fun p hp => ⟨(h p hp).1.below hb hB, (h p hp).2⟩
theorem Bodies.new {w w' : World} {lo hi : Nat} {ps : List Pv} (h : Bodies w lo hi ps) (hg : New w w') (hB : hi ≤ w.heap.size) : Bodies w' lo hi ps := fun p hp => ⟨New.sl hg (h p hp).1 hB, (h p hp).2⟩
theorem Bodies.more {w : World} {lo hi lo' hi' : Nat} {ps : List Pv} (h : Bodies w lo hi ps) (h1 : lo' ≤ lo) (h2 : hi ≤ hi') : Bodies w lo' hi' ps := fun p hp => ⟨(h p hp).1.more h1 h2, (h p hp).2⟩
/-- A slice of pieces that reads as a list. -/
def Pcs (w : World) (lo hi : Nat) (A : Option Addr) (n : Nat) (ps : List Pv) : Prop := Sl w lo hi 3 A n (pvs ps) ∧ Bodies w lo hi ps
section
variable {w w' : World} {lo hi lo' hi' n B : Nat} {A : Option Addr} {ps : List Pv}
theorem Pcs.len (h : Pcs w lo hi A n ps) : ps.length = n := by have := h.1.1; rw [pvs_length] at this; omega
theorem Pcs.keep (h : Pcs w lo hi A n ps) (hk : ∀ b o, lo ≤ b → b < hi → w'.cell? ⟨b, o, none⟩ = w.cell? ⟨b, o, none⟩) : Pcs w' lo hi A n ps := ⟨h.1.keep hk, h.2.keep hk⟩
theorem Pcs.below (h : Pcs w lo hi A n ps) (hb : Below B w w') (hB : hi ≤ B) : Pcs w' lo hi A n ps := ⟨h.1.below hb hB, h.2.below hb hB⟩
theorem Pcs.new (h : Pcs w lo hi A n ps) (hg : New w w') (hB : hi ≤ w.heap.size) : Pcs w' lo hi A n ps := ⟨New.sl hg h.1 hB, h.2.new hg hB⟩
theorem Pcs.alloc (h : Pcs w lo hi A n ps) (hB : hi ≤ w.heap.size) (o : Obj) : Pcs (w.alloc o) lo hi A n ps := h.new (GrF.alloc _ _ _) hB
theorem Pcs.more (h : Pcs w lo hi A n ps) (h1 : lo' ≤ lo) (h2 : hi ≤ hi') : Pcs w lo' hi' A n ps := ⟨h.1.more h1 h2, h.2.more h1 h2⟩
/-- One piece of a slice of pieces. -/
theorem Pcs.piece (h : Pcs w lo hi A n ps) {k : Nat} (hk : k < n) :
    ∃ b off, A = some ⟨b, off, none⟩ ∧ lo ≤ b ∧ b < hi ∧ w.cell? ⟨b, off + k * 3, none⟩ = some (.int .i64 (pAt ps k).at_) ∧ w.cell? ⟨b, off + k * 3 + 1, none⟩ = some (.bool (pAt ps k).more) ∧ w.cell? ⟨b, off + k * 3 + 2, none⟩ = some (.slice (pAt ps k).A (pAt ps k).n (pAt ps k).c) ∧
      Sl w lo hi 1 (pAt ps k).A (pAt ps k).n ((pAt ps k).zs.map (Value.int .u8)) ∧ (pAt ps k).n ≤ (pAt ps k).c ∧ (pAt ps k).c ≤ maxLen ∧ AllByte (pAt ps k).zs := by
  have hl := h.len
  obtain ⟨b, off, e, h1, h2, hc⟩ := h.1.2 (by omega)
  obtain ⟨a0, a1, a2⟩ := pvs_at ps k (by omega)
  exact ⟨b, off, e, h1, h2, hc _ _ a0, hc _ _ a1, hc _ _ a2, h.2 _ (pAt_mem (by omega))⟩
end
/-- Pieces that a call made: the row is owned, the bodies are owned, all in blocks of their own. -/
structure OwnPcs (w : World) (base : Nat) (v : Value) (n : Nat) (ps : List Pv) : Prop where
  row : w.ownsRow base 35 3 v n (pvs ps)
  bodies : ∀ p ∈ ps, w.ownsRow base 5 1 p.body p.n (p.zs.map (Value.int .u8))
  byte : ∀ p ∈ ps, AllByte p.zs
  apart : ps.Pairwise fun p q => ∀ g, p.body.ownBlock = some g → q.body.ownBlock ≠ some g
theorem OwnPcs.len {w : World} {base n : Nat} {v : Value} {ps : List Pv} (h : OwnPcs w base v n ps) : ps.length = n := by have := h.row.1; rw [pvs_length] at this; omega
theorem OwnPcs.kept {w w' : World} {base n : Nat} {v : Value} {ps : List Pv} (h : OwnPcs w base v n ps) (hb : ∀ g, base ≤ g → g < w.heap.size → w'.heap[g]? = w.heap[g]?) : OwnPcs w' base v n ps := by
  have key : ∀ {e : TypeId} {size n : Nat} {v : Value} {xs : List Value}, w.ownsRow base e size v n xs → w'.ownsRow base e size v n xs := fun h => by
    refine ⟨h.1, ?_⟩
    rcases h.2 with h | ⟨g, cap, cur, e1, e2, e3, e4⟩
    · exact .inl h
    · exact .inr ⟨g, cap, cur, e1, e2, (hb g e2 (Array.getElem?_eq_some_iff.1 e3).1).trans e3, e4⟩
  exact ⟨key h.row, fun p hp => key (h.bodies p hp), h.byte, h.apart⟩
theorem OwnPcs.new {w w' : World} {base n : Nat} {v : Value} {ps : List Pv} (h : OwnPcs w base v n ps) (hg : New w w') : OwnPcs w' base v n ps := h.kept fun g _ hl => hg.block g hl (fun hf => hf)
theorem OwnPcs.below {w w' : World} {base n : Nat} {v : Value} {ps : List Pv} (h : OwnPcs w base v n ps) (hb : Below w.heap.size w w') : OwnPcs w' base v n ps := h.new (New.of_below hb)
theorem OwnPcs.pcs {w : World} {base n c : Nat} {A : Option Addr} {ps : List Pv} (h : OwnPcs w base (.slice A n c) n ps) : Pcs w base w.heap.size A n ps :=
  ⟨Sl.of_own h.row, fun p hp => ⟨Sl.of_own (h.bodies p hp), by
    obtain ⟨A', c', e, h1, h2⟩ := own_is_slice (h.bodies p hp)
    unfold Pv.body at e
    cases e
    exact ⟨h1, h2, h.byte p hp⟩⟩⟩
/-- Since w only blocks of lo .. hi-1 and new blocks have changed. -/
structure Rng (lo hi : Nat) (w w' : World) : Prop where
  os : w'.os = w.os
  tape : w'.tape = w.tape
  output : w'.output = w.output
  size : w.heap.size ≤ w'.heap.size
  block : ∀ k, k < w.heap.size → (k < lo ∨ hi ≤ k) → w'.heap[k]? = w.heap[k]?
section
variable {lo hi : Nat} {w w1 w' : World}
theorem Rng.refl (lo hi : Nat) (w : World) : Rng lo hi w w := ⟨rfl, rfl, rfl, Nat.le_refl _, fun _ _ _ => rfl⟩
theorem Rng.of_only {g : Nat} (h : w.grownBy w' (some g)) (h1 : lo ≤ g) (h2 : g < hi) : Rng lo hi w w' := ⟨h.os, h.tape, h.output, h.size, fun k hk hn => h.block k hk (fun e => by cases e; omega)⟩
theorem Rng.of_grown {row : Option Nat} (h : w.grownBy w' row) (h1 : ∀ g, row = some g → lo ≤ g ∧ g < hi) : Rng lo hi w w' := ⟨h.os, h.tape, h.output, h.size, fun k hk hn => h.block k hk (fun e => by have := h1 k e.symm; omega)⟩
theorem Rng.of_new (h : New w w') : Rng lo hi w w' := ⟨h.os, h.tape, h.output, h.size, fun k hk _ => h.block k hk (fun hf => hf)⟩
theorem Rng.trans (h : Rng lo hi w w1) (h1 : Rng lo hi w1 w') : Rng lo hi w w' :=
  ⟨h1.os.trans h.os, h1.tape.trans h.tape, h1.output.trans h.output, Nat.le_trans h.size h1.size, fun k hk hn => (h1.block k (Nat.lt_of_lt_of_le hk h.size) hn).trans (h.block k hk hn)⟩
theorem Rng.setCell (h : Rng lo hi w w') {p : Addr} (h1 : lo ≤ p.block) (h2 : p.block < hi) (u : Value) : Rng lo hi w (w'.setCell p u) :=
  ⟨h.os, h.tape, h.output, by simpa [World.setCell] using h.size, fun k hk hn => (Below.heap_setCell w' p u k (fun e => by omega)).trans (h.block k hk hn)⟩
theorem Rng.below {W : World} (h : Rng lo hi w w') (hb : Below W.heap.size W w) (hl : W.heap.size ≤ lo) : Below W.heap.size W w' :=
  ⟨h.os.trans hb.os, h.tape.trans hb.tape, h.output.trans hb.output, Nat.le_trans hb.size h.size, fun k hk => (h.block k (Nat.lt_of_lt_of_le hk hb.size) (.inl (by omega))).trans (hb.block k hk)⟩
theorem Rng.own (h : Rng lo hi w w') {base n size : Nat} {e : TypeId} {v : Value} {xs : List Value} (ho : w.ownsRow base e size v n xs) (ha : ∀ g, v.ownBlock = some g → g < lo ∨ hi ≤ g) : w'.ownsRow base e size v n xs := by
  refine ⟨ho.1, ?_⟩
  rcases ho.2 with h0 | ⟨g, cap, cur, e1, e2, e3, e4⟩
  · exact .inl h0
  · exact .inr ⟨g, cap, cur, e1, e2, (h.block g (Array.getElem?_eq_some_iff.1 e3).1 (ha g (by rw [e1]; rfl))).trans e3, e4⟩
theorem Rng.sl (h : Rng lo hi w w') {l2 h2 n size : Nat} {A : Option Addr} {xs : List Value} (hs : Sl w l2 h2 size A n xs) (hh : h2 ≤ w.heap.size) (ha : h2 ≤ lo ∨ hi ≤ l2) : Sl w' l2 h2 size A n xs :=
  hs.keep fun b o h1 hb => World.cell?_of_block (a := ⟨b, o, none⟩) (h.block b (by omega) (by omega))
end
end Go.Proofs.Ytljbkppeoedcjaa
