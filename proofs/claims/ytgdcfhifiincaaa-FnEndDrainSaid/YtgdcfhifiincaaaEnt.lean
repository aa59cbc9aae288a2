/-
  Entries of a table of flows: seven cells each; TableValid's Lean function.
-/
import Derived.Test.YtgdcfhifiincaaaEv
namespace Go.Proofs.Ytgdcfhifiincaaa
open Go.RowKit
set_option linter.unusedVariables false

/-- From, FromPort, To, ToPort, Kind, the host, when last -/
structure En7 where
  a : Int
  b : Int
  c : Int
  d : Int
  k : Int
  t : Int
  l : Int
def En7.zero : En7 := ⟨0, 0, 0, 0, 0, 0, 0⟩
def enC (e : En7) : List Value := [.int .i64 e.a, .int .i64 e.b, .int .i64 e.c, .int .i64 e.d, .int .i64 e.k, .int .i64 e.t, .int .i64 e.l]
theorem enC_len (e : En7) : (enC e).length = 7 := rfl
abbrev ensV (es : List En7) : List Value := recV enC es
def enAt (es : List En7) (k : Nat) : En7 := es[k]?.getD En7.zero
theorem enAt_eq {es : List En7} {k : Nat} (h : k < es.length) : enAt es k = es[k] := by unfold enAt; rw [List.getElem?_eq_getElem h]; rfl
theorem enAt_mem {es : List En7} {k : Nat} (h : k < es.length) : enAt es k ∈ es := by rw [enAt_eq h]; exact List.getElem_mem h
theorem Sl.nlen {w : World} {lo hi n : Nat} {A : Option Addr} {es : List En7} (h : Sl w lo hi 7 A n (ensV es)) : es.length = n := by
  have := h.1; rw [recV_length enC_len] at this; omega
/-- One entry of a slice of entries: the address and the seven cells. -/
theorem Sl.en {w : World} {lo hi n : Nat} {A : Option Addr} {es : List En7} (h : Sl w lo hi 7 A n (ensV es)) {k : Nat} (hk : k < n) :
    ∃ b off, A = some ⟨b, off, none⟩ ∧ lo ≤ b ∧ b < hi ∧ w.cell? ⟨b, off + k * 7, none⟩ = some (.int .i64 (enAt es k).a) ∧ w.cell? ⟨b, off + k * 7 + 1, none⟩ = some (.int .i64 (enAt es k).b) ∧ w.cell? ⟨b, off + k * 7 + 2, none⟩ = some (.int .i64 (enAt es k).c) ∧ w.cell? ⟨b, off + k * 7 + 3, none⟩ = some (.int .i64 (enAt es k).d) ∧ w.cell? ⟨b, off + k * 7 + 4, none⟩ = some (.int .i64 (enAt es k).k) ∧ w.cell? ⟨b, off + k * 7 + 5, none⟩ = some (.int .i64 (enAt es k).t) ∧ w.cell? ⟨b, off + k * 7 + 6, none⟩ = some (.int .i64 (enAt es k).l) := by
  have hl := h.nlen
  obtain ⟨b, off, e, h1, h2, hc⟩ := h.2 (by omega)
  have hkl : k < es.length := by omega
  have key : ∀ j, j < 7 → (ensV es)[k * 7 + j]? = (enC (enAt es k))[j]? := fun j hj => by rw [enAt_eq hkl]; exact recV_at enC_len es k j hkl hj
  exact ⟨b, off, e, h1, h2, hc _ _ (key 0 (by omega)), hc _ _ (key 1 (by omega)), hc _ _ (key 2 (by omega)), hc _ _ (key 3 (by omega)), hc _ _ (key 4 (by omega)), hc _ _ (key 5 (by omega)), hc _ _ (key 6 (by omega))⟩

/-- The same flow. -/
def sameF (x e : En7) : Bool := decide (x.a = e.a) && decide (x.b = e.b) && decide (x.c = e.c) && decide (x.d = e.d) && decide (x.k = e.k)
theorem sameF_iff {x e : En7} : sameF x e = true ↔ x.a = e.a ∧ x.b = e.b ∧ x.c = e.c ∧ x.d = e.d ∧ x.k = e.k := by
  unfold sameF; simp only [Bool.and_eq_true, decide_eq_true_eq]; constructor
  · rintro ⟨⟨⟨⟨h1, h2⟩, h3⟩, h4⟩, h5⟩; exact ⟨h1, h2, h3, h4, h5⟩
  · rintro ⟨h1, h2, h3, h4, h5⟩; exact ⟨⟨⟨⟨h1, h2⟩, h3⟩, h4⟩, h5⟩
theorem sameF_refl (x : En7) : sameF x x = true := sameF_iff.2 ⟨rfl, rfl, rfl, rfl, rfl⟩
theorem sameF_comm (x e : En7) : sameF x e = sameF e x := by
  rw [Bool.eq_iff_iff, sameF_iff, sameF_iff]
  constructor <;> rintro ⟨h1, h2, h3, h4, h5⟩ <;> exact ⟨h1.symm, h2.symm, h3.symm, h4.symm, h5.symm⟩
theorem sameF_trans {x y z : En7} (h : sameF x y = true) (h2 : sameF y z = true) : sameF x z = true := by
  rw [sameF_iff] at h h2 ⊢
  obtain ⟨a, b, c, d, e⟩ := h
  obtain ⟨a', b', c', d', e'⟩ := h2
  exact ⟨a.trans a', b.trans b', c.trans c', d.trans d', e.trans e'⟩
def enF (e : En7) : Bool := flowV e.a e.b e.c e.d e.k
/-- The flow is among those of the list. -/
def seenF (s : List En7) (e : En7) : Bool := s.any (sameF · e)
/-- Entry k of a list is well, behind those before it. -/
def enOk (es : List En7) (k : Nat) : Bool :=
  enF (enAt es k) && !seenF (es.take k) (enAt es k) && inB (enAt es k).t 0 30 && inB (enAt es k).l 0 100000 && (k == 0 || decide ((enAt es (k - 1)).l ≤ (enAt es k).l))
def tabV (sz st : Int) (es : List En7) : Bool := inB sz 1 12 && inB st 1 100000 && decide ((es.length : Int) ≤ sz) && (List.range es.length).all (enOk es)
def EnRel (es : List En7) (k : Nat) : Prop := ∀ j, j < k → enOk es j = true
theorem EnRel.start (es : List En7) : EnRel es 0 := fun j h => absurd h (by omega)
theorem EnRel.next {es : List En7} {k : Nat} (h : EnRel es k) (ho : enOk es k = true) : EnRel es (k + 1) := fun j hj => by
  rcases Nat.lt_or_ge j k with h1 | h1
  · exact h j h1
  · obtain rfl : j = k := by omega
    exact ho
theorem EnRel.all {es : List En7} {n : Nat} (h : EnRel es n) (hn : es.length = n) : (List.range es.length).all (enOk es) = true := by
  rw [List.all_eq_true]; intro j hj; exact h j (by rw [← hn]; simpa using hj)
theorem tab_bad {sz st : Int} {es : List En7} {k : Nat} (hk : k < es.length) (ho : enOk es k = false) : tabV sz st es = false := by
  have : (List.range es.length).all (enOk es) = false := by
    rw [List.all_eq_false]; exact ⟨k, by simpa using hk, by simp [ho]⟩
  unfold tabV; rw [this, Bool.and_false]
theorem EnRel.of_tab {sz st : Int} {es : List En7} (h : tabV sz st es = true) : EnRel es es.length := fun j hj => by
  unfold tabV at h
  simp only [Bool.and_eq_true] at h
  exact (List.all_eq_true.1 h.2) j (by simpa using hj)
theorem tab_facts {sz st : Int} {es : List En7} (h : tabV sz st es = true) : 1 ≤ sz ∧ sz ≤ 12 ∧ 1 ≤ st ∧ st ≤ 100000 ∧ (es.length : Int) ≤ sz := by
  unfold tabV at h
  simp only [Bool.and_eq_true, decide_eq_true_eq] at h
  have h1 := inB_iff.1 h.1.1.1
  have h2 := inB_iff.1 h.1.1.2
  exact ⟨h1.1, h1.2, h2.1, h2.2, h.1.2⟩
/-- How many entries go to a host. -/
def flowsOn (es : List En7) (x : Int) : Nat := es.countP (fun e => decide (e.t = x))
end Go.Proofs.Ytgdcfhifiincaaa
