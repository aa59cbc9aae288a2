/-
  Words for slices of hosts: a host is three numbers, a slice of n hosts is a row of 3 n cells; rows of numbers that a marking loop has filled.
-/
import Derived.Test.YtgdcfhifiincaaaCopy0
import Derived.Deep.DrawnRows
import Derived.Deep.RegionHeld3
namespace Go.Proofs.Ytgdcfhifiincaaa
open Go.RowKit
set_option linter.unusedVariables false

/-- number, weight, state -/
abbrev H3 := Int × Int × Int
def hostC (h : H3) : List Value := [.int .i64 h.1, .int .i64 h.2.1, .int .i64 h.2.2]
def hostsV : List H3 → List Value
  | [] => []
  | h :: r => hostC h ++ hostsV r
theorem hostsV_length (hs : List H3) : (hostsV hs).length = hs.length * 3 := by
  induction hs with
  | nil => rfl
  | cons h r ih => simp [hostsV, hostC, ih]; omega
theorem hostsV_append (a b : List H3) : hostsV (a ++ b) = hostsV a ++ hostsV b := by
  induction a with
  | nil => rfl
  | cons h r ih => simp [hostsV, ih]
/-- Host k of a list, zeros beyond its end. -/
def hAt (hs : List H3) (k : Nat) : H3 := hs[k]?.getD (0, 0, 0)
theorem hAt_eq {hs : List H3} {k : Nat} (h : k < hs.length) : hAt hs k = hs[k] := by unfold hAt; rw [List.getElem?_eq_getElem h]; rfl
theorem hostsV_at (hs : List H3) : ∀ (k : Nat), k < hs.length → (hostsV hs)[k * 3]? = some (.int .i64 (hAt hs k).1) ∧ (hostsV hs)[k * 3 + 1]? = some (.int .i64 (hAt hs k).2.1) ∧ (hostsV hs)[k * 3 + 2]? = some (.int .i64 (hAt hs k).2.2) := by
  induction hs with
  | nil => intro k h; simp at h
  | cons x r ih =>
    intro k h
    cases k with
    | zero => exact ⟨rfl, rfl, rfl⟩
    | succ k =>
      have := ih k (by simpa using h)
      have e : hAt (x :: r) (k + 1) = hAt r k := by simp [hAt]
      rw [e]
      have e0 : (k + 1) * 3 = k * 3 + 1 + 1 + 1 := by omega
      rw [e0]
      exact this
theorem hosts_ext {a b : List H3} (h : hostsV a = hostsV b) : a = b := by
  induction a generalizing b with
  | nil => cases b with
    | nil => rfl
    | cons y s => simp [hostsV, hostC] at h
  | cons x r ih => cases b with
    | nil => simp [hostsV, hostC] at h
    | cons y s =>
      obtain ⟨x1, x2, x3⟩ := x
      obtain ⟨y1, y2, y3⟩ := y
      simp [hostsV, hostC] at h
      obtain ⟨h1, h2, h3, h4⟩ := h
      rw [h1, h2, h3, ih h4]
theorem hostsV_take (hs : List H3) (k : Nat) : (hostsV hs).take (k * 3) = hostsV (hs.take k) := by
  induction hs generalizing k with
  | nil => simp [hostsV]
  | cons x r ih =>
    cases k with
    | zero => simp [hostsV]
    | succ k =>
      have e0 : (k + 1) * 3 = k * 3 + 1 + 1 + 1 := by omega
      rw [e0]
      simp [hostsV, hostC, ih]
theorem hostsV_drop (hs : List H3) (k : Nat) : (hostsV hs).drop (k * 3) = hostsV (hs.drop k) := by
  induction hs generalizing k with
  | nil => simp [hostsV]
  | cons x r ih =>
    cases k with
    | zero => simp [hostsV]
    | succ k =>
      have e0 : (k + 1) * 3 = k * 3 + 1 + 1 + 1 := by omega
      rw [e0]
      simp [hostsV, hostC, ih]

theorem Sl.hlen {w : World} {lo hi n : Nat} {A : Option Addr} {hs : List H3} (h : Sl w lo hi 3 A n (hostsV hs)) : hs.length = n := by
  have := h.1; rw [hostsV_length] at this; omega
/-- One host of a slice of hosts: the address and the three cells. -/
theorem Sl.host {w : World} {lo hi n : Nat} {A : Option Addr} {hs : List H3} (h : Sl w lo hi 3 A n (hostsV hs)) {k : Nat} (hk : k < n) :
    ∃ b off, A = some ⟨b, off, none⟩ ∧ lo ≤ b ∧ b < hi ∧ w.cell? ⟨b, off + k * 3, none⟩ = some (.int .i64 (hAt hs k).1) ∧ w.cell? ⟨b, off + k * 3 + 1, none⟩ = some (.int .i64 (hAt hs k).2.1) ∧ w.cell? ⟨b, off + k * 3 + 2, none⟩ = some (.int .i64 (hAt hs k).2.2) := by
  have hl := h.hlen
  obtain ⟨b, off, e, h1, h2, hc⟩ := h.2 (by omega)
  obtain ⟨a0, a1, a2⟩ := hostsV_at hs k (by omega)
  exact ⟨b, off, e, h1, h2, hc _ _ a0, hc _ _ a1, hc _ _ a2⟩

/-- The first m cells hold k0, k0 + 1 .. -/
def Marked (k0 : Int) (m : Nat) (xs : List Value) : Prop := ∀ j, j < m → xs[j]? = some (.int .i64 (k0 + j))
theorem Marked.zero (k0 : Int) (xs : List Value) : Marked k0 0 xs := fun j h => absurd h (by omega)
theorem Marked.step {k0 : Int} {m : Nat} {xs : List Value} (h : Marked k0 m xs) (hm : m < xs.length) : Marked k0 (m + 1) (xs.set m (.int .i64 (k0 + m))) := fun j hj => by
  rw [List.getElem?_set]
  by_cases e : m = j
  · subst e; simp [hm]
  · rw [if_neg e]; exact h j (by omega)
/-- Several cells from place 'at' on stand in for those of a row. -/
def fillH (hs : List H3) (n k : Nat) : List Value := hostsV (hs.take k ++ List.replicate (n - k) (0, 0, 0))
theorem fillH_zero (hs : List H3) (n : Nat) : fillH hs n 0 = hostsV (List.replicate n (0, 0, 0)) := by simp [fillH]
theorem fillH_full {hs : List H3} {n : Nat} (h : hs.length = n) : fillH hs n n = hostsV hs := by subst h; simp [fillH]
theorem hostsV_set (hs : List H3) : ∀ (k : Nat) (x y z : Int), k < hs.length → (((hostsV hs).set (k * 3) (.int .i64 x)).set (k * 3 + 1) (.int .i64 y)).set (k * 3 + 2) (.int .i64 z) = hostsV (hs.set k (x, y, z)) := by
  induction hs with
  | nil => intro k x y z h; simp at h
  | cons h r ih =>
    intro k x y z hk
    cases k with
    | zero => simp [hostsV, hostC]
    | succ k =>
      have e0 : (k + 1) * 3 = k * 3 + 1 + 1 + 1 := by omega
      rw [e0]
      have := ih k x y z (by simpa using hk)
      simp only [List.set_cons_succ, hostsV, hostC, List.cons_append, List.nil_append]
      rw [← this]
theorem fillH_set {hs : List H3} {n k : Nat} (hk : k < n) (hl : hs.length = n) : (((fillH hs n k).set (k * 3) (.int .i64 (hAt hs k).1)).set (k * 3 + 1) (.int .i64 (hAt hs k).2.1)).set (k * 3 + 2) (.int .i64 (hAt hs k).2.2) = fillH hs n (k + 1) := by
  unfold fillH
  rw [hostsV_set _ _ _ _ _ (by simp; omega)]
  congr 1
  have hkl : k < hs.length := by omega
  apply List.ext_getElem?
  intro j
  rw [List.getElem?_set]
  by_cases hj : k = j
  · subst hj
    rw [if_pos rfl, if_pos (by simp; omega), List.getElem?_append_left (by simp; omega), List.getElem?_take, if_pos (by omega), hAt_eq hkl, List.getElem?_eq_getElem hkl]
  · rw [if_neg hj]
    by_cases hjk : j < k
    · rw [List.getElem?_append_left (by simp; omega), List.getElem?_append_left (by simp; omega), List.getElem?_take, List.getElem?_take, if_pos hjk, if_pos (by omega)]
    · rw [List.getElem?_append_right (by simp; omega), List.getElem?_append_right (by simp; omega), List.getElem?_replicate, List.getElem?_replicate]
      simp only [List.length_take]
      have e1 : min k hs.length = k := by omega
      have e2 : min (k + 1) hs.length = k + 1 := by omega
      rw [e1, e2]
      by_cases hjn : j < n
      · rw [if_pos (by omega), if_pos (by omega)]
      · rw [if_neg (by omega), if_neg (by omega)]
theorem hostsV_replicate (n : Nat) : hostsV (List.replicate n (0, 0, 0)) = List.replicate (n * 3) (.int .i64 0) := by
  induction n with
  | zero => rfl
  | succ n ih =>
    rw [List.replicate_succ, hostsV, ih, show (n + 1) * 3 = n * 3 + 1 + 1 + 1 from by omega, List.replicate_succ, List.replicate_succ, List.replicate_succ]
    rfl
theorem toList_madeCells_rep (z : Value) (s n : Nat) : (madeCells (Array.replicate (s + 1) z) n).toList = List.replicate n z := by
  apply List.ext_getElem?
  intro j
  by_cases hj : j < n
  · have : j % (s + 1) < s + 1 := Nat.mod_lt _ (by omega)
    simp [madeCells, hj]
    rw [getElem!_pos _ _ (by simpa using this)]
    simp
  · simp [madeCells, hj]
/-- make of n elements of three numbers: the row that the call owns. -/
theorem own_made3 (w : World) (z : Value) (e : TypeId) (n : Nat) (hm : n ≤ maxLen) :
    (w.alloc (.cells (madeCells #[z, z, z] (n * 3)) e)).ownsRow w.heap.size e 3 (.slice (some ⟨w.heap.size, 0, none⟩) n n) n (List.replicate (n * 3) z) := by
  have := World.ownsRow_lit (base := w.heap.size) (e := e) (size := 3) w (madeCells #[z, z, z] (n * 3)) n (Nat.le_refl _) hm (by simp [size_madeCells])
  rwa [show (#[z, z, z] : Array Value) = Array.replicate (2 + 1) z from rfl, toList_madeCells_rep] at this
theorem run_make_rowN {P : Program} (t e : TypeId) (i : TypeInfo) (z : Value) (ht : P.underlying t = some (.slice e)) (hi : P.info? e = some i) (hz : i.zero = some z)
    (kl kc : IntKind) (n c : Nat) (hnc : n ≤ c) (hbytes : i.bytes * c ≤ 281474976710656) (h63 : c ≤ 9223372036854775807) (w : World) :
    (Instr.makeSlice t (.int kl (n : Int)) (.int kc (c : Int))).run P w = .ok (.slice (some ⟨w.heap.size, 0, none⟩) n c) (w.alloc (.cells (madeCells z.cells (c * i.size)) e)) := by
  have hb : (i.bytes : Int) * (c : Int) ≤ 281474976710656 := by
    have h : ((i.bytes * c : Nat) : Int) ≤ 281474976710656 := by omega
    rwa [Int.natCast_mul] at h
  have hr := run_make (P := P) w t e i z ht hi hz kl kc n c (by omega) (by omega) hb (by omega)
  simp only [Int.toNat_natCast] at hr
  exact hr
theorem only_of_below {a w : World} (h : Below a.heap.size a w) (row : Option Nat) : a.grownBy w row := ⟨h.os, h.tape, h.output, h.size, fun i hi _ => h.block i hi⟩
/-- What is owned stays owned behind a call that makes memory alone. -/
theorem own_below {w w1 : World} {base : Nat} {e : TypeId} {size n : Nat} {v : Value} {xs : List Value} (h : w.ownsRow base e size v n xs) (hb : Below w.heap.size w w1) : w1.ownsRow base e size v n xs :=
  h.kept (only_of_below hb none) (by cases hv : v.ownBlock <;> simp)
theorem fillH_cells (hs : List H3) {n k : Nat} (hk : k < n) (hl : hs.length = n) : ∃ x y z, (fillH hs n k)[k * 3]? = some (.int .i64 x) ∧ (fillH hs n k)[k * 3 + 1]? = some (.int .i64 y) ∧ (fillH hs n k)[k * 3 + 2]? = some (.int .i64 z) := by
  have := hostsV_at (hs.take k ++ List.replicate (n - k) (0, 0, 0)) k (by simp; omega)
  exact ⟨_, _, _, this⟩
theorem only_setCell {a w : World} {g : Nat} (h : a.grownBy w (some g)) {p : Addr} (hp : p.block = g ∨ a.heap.size ≤ p.block) (u : Value) : a.grownBy (w.setCell p u) (some g) :=
  ⟨h.os, h.tape, h.output, by simpa [World.setCell] using h.size, fun i hi hne => (Below.heap_setCell w p u i (by
    rintro rfl
    rcases hp with hp | hp
    · exact hne (by rw [hp])
    · omega)).trans (h.block i hi hne)⟩
theorem only_drewN {a w : World} {row : Option Nat} (h : a.grownBy w row) (n : Nat) : a.grownBy (w.drewN n) row := ⟨h.os, h.tape, h.output, h.size, h.block⟩
/-- Three marks more. -/
theorem Marked.three {k0 x y z : Int} {m : Nat} {xs : List Value} (h : Marked k0 m xs) (hm : m + 3 ≤ xs.length) (hx : x = k0 + m) (hy : y = k0 + m + 1) (hz : z = k0 + m + 2) :
    Marked k0 (m + 3) (((xs.set m (.int .i64 x)).set (m + 1) (.int .i64 y)).set (m + 2) (.int .i64 z)) := by
  subst hx
  have h1 := h.step (by omega)
  have h2 := h1.step (by simp; omega)
  have h3 := h2.step (by simp; omega)
  have e1 : k0 + ((m + 1 : Nat) : Int) = y := by omega
  have e2 : k0 + ((m + 1 + 1 : Nat) : Int) = z := by omega
  rw [e1, e2] at h3
  exact h3
theorem only_below {a w w1 : World} {row : Option Nat} (h : a.grownBy w row) (hb : Below w.heap.size w w1) : a.grownBy w1 row :=
  ⟨hb.os.trans h.os, hb.tape.trans h.tape, hb.output.trans h.output, Nat.le_trans h.size hb.size, fun i hi hn => (hb.block i (Nat.lt_of_lt_of_le hi h.size)).trans (h.block i hi hn)⟩
/-- What is owned stays owned where another block is written. -/
theorem own_other {w w1 : World} {base : Nat} {e : TypeId} {size n : Nat} {v : Value} {xs : List Value} {g : Nat} (h : w.ownsRow base e size v n xs) (hg : w.grownBy w1 (some g)) (hne : v.ownBlock ≠ some g) : w1.ownsRow base e size v n xs :=
  h.kept hg (.inr hne)
end Go.Proofs.Ytgdcfhifiincaaa
