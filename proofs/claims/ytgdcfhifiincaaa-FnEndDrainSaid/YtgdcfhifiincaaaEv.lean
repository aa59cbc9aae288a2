/-
  Events: a time and a flow, six cells each; EventsValid's Lean function.
-/
import Derived.Test.YtgdcfhifiincaaaIn
import Derived.Test.YtgdcfhifiincaaaTime
import Derived.Test.YtgdcfhifiincaaaRec
namespace Go.Proofs.Ytgdcfhifiincaaa
open Go.RowKit
set_option linter.unusedVariables false

structure Ev6 where
  at_ : Int
  a : Int
  b : Int
  c : Int
  d : Int
  k : Int
def evC (e : Ev6) : List Value := [.int .i64 e.at_, .int .i64 e.a, .int .i64 e.b, .int .i64 e.c, .int .i64 e.d, .int .i64 e.k]
theorem evC_len (e : Ev6) : (evC e).length = 6 := rfl
abbrev evsV (es : List Ev6) : List Value := recV evC es
def evAt (es : List Ev6) (k : Nat) : Ev6 := es[k]?.getD ⟨0, 0, 0, 0, 0, 0⟩
theorem evAt_eq {es : List Ev6} {k : Nat} (h : k < es.length) : evAt es k = es[k] := by unfold evAt; rw [List.getElem?_eq_getElem h]; rfl
theorem Sl.elen {w : World} {lo hi n : Nat} {A : Option Addr} {es : List Ev6} (h : Sl w lo hi 6 A n (evsV es)) : es.length = n := by
  have := h.1; rw [recV_length evC_len] at this; omega
/-- One event of a slice of events: the address and the six cells. -/
theorem Sl.ev {w : World} {lo hi n : Nat} {A : Option Addr} {es : List Ev6} (h : Sl w lo hi 6 A n (evsV es)) {k : Nat} (hk : k < n) :
    ∃ b off, A = some ⟨b, off, none⟩ ∧ lo ≤ b ∧ b < hi ∧ w.cell? ⟨b, off + k * 6, none⟩ = some (.int .i64 (evAt es k).at_) ∧ w.cell? ⟨b, off + k * 6 + 1, none⟩ = some (.int .i64 (evAt es k).a) ∧ w.cell? ⟨b, off + k * 6 + 2, none⟩ = some (.int .i64 (evAt es k).b) ∧ w.cell? ⟨b, off + k * 6 + 3, none⟩ = some (.int .i64 (evAt es k).c) ∧ w.cell? ⟨b, off + k * 6 + 4, none⟩ = some (.int .i64 (evAt es k).d) ∧ w.cell? ⟨b, off + k * 6 + 5, none⟩ = some (.int .i64 (evAt es k).k) := by
  have hl := h.elen
  obtain ⟨b, off, e, h1, h2, hc⟩ := h.2 (by omega)
  have hkl : k < es.length := by omega
  have key : ∀ j, j < 6 → (evsV es)[k * 6 + j]? = (evC (evAt es k))[j]? := fun j hj => by rw [evAt_eq hkl]; exact recV_at evC_len es k j hkl hj
  exact ⟨b, off, e, h1, h2, hc _ _ (key 0 (by omega)), hc _ _ (key 1 (by omega)), hc _ _ (key 2 (by omega)), hc _ _ (key 3 (by omega)), hc _ _ (key 4 (by omega)), hc _ _ (key 5 (by omega))⟩

def evF (e : Ev6) : Bool := flowV e.a e.b e.c e.d e.k
def evOk (prev : Int) (e : Ev6) : Bool := inB e.at_ 0 100000 && evF e && decide (prev ≤ e.at_)
def evFrom : Int → List Ev6 → Bool
  | _, [] => true
  | p, e :: r => evOk p e && evFrom e.at_ r
def evV (es : List Ev6) : Bool := evFrom (-1) es && decide (es.length ≤ 40)
def evPrev (es : List Ev6) (k : Nat) : Int := if k = 0 then -1 else (evAt es (k - 1)).at_
def EvRel (es : List Ev6) (k : Nat) : Prop := evFrom (-1) es = evFrom (evPrev es k) (es.drop k)
theorem EvRel.start (es : List Ev6) : EvRel es 0 := by simp [EvRel, evPrev]
theorem evFrom_drop (p : Int) (es : List Ev6) (k : Nat) (h : k < es.length) : evFrom p (es.drop k) = (evOk p (evAt es k) && evFrom (evAt es k).at_ (es.drop (k + 1))) := by
  rw [List.drop_eq_getElem_cons h, evFrom, evAt_eq h]
theorem EvRel.next {es : List Ev6} {k : Nat} (h : EvRel es k) (hk : k < es.length) (ho : evOk (evPrev es k) (evAt es k) = true) : EvRel es (k + 1) := by
  unfold EvRel at h ⊢
  rw [h, evFrom_drop _ _ _ hk, ho, Bool.true_and]
  simp [evPrev]
theorem EvRel.bad {es : List Ev6} {k : Nat} (h : EvRel es k) (hk : k < es.length) (ho : evOk (evPrev es k) (evAt es k) = false) : evV es = false := by
  unfold EvRel at h
  unfold evV
  rw [h, evFrom_drop _ _ _ hk, ho, Bool.false_and, Bool.false_and]
theorem EvRel.done {es : List Ev6} {n : Nat} (h : EvRel es n) (hn : es.length = n) : evV es = decide ((n : Int) ≤ 40) := by
  unfold EvRel at h
  unfold evV
  rw [h, ← hn, List.drop_length, evFrom, Bool.true_and]
  congr 1
  simp
  omega
theorem evOk_time {p : Int} {e : Ev6} (h : inB e.at_ 0 100000 = false) : evOk p e = false := by unfold evOk; simp [h]
theorem evOk_flow {p : Int} {e : Ev6} (h : evF e = false) : evOk p e = false := by unfold evOk; simp [h]
theorem evOk_order {p : Int} {e : Ev6} (h : e.at_ < p) : evOk p e = false := by unfold evOk; simp; omega
theorem evOk_yes {p : Int} {e : Ev6} (h0 : inB e.at_ 0 100000 = true) (h1 : evF e = true) (h2 : p ≤ e.at_) : evOk p e = true := by unfold evOk; simp [h0, h1, h2]
theorem evPrev_zero (es : List Ev6) : evPrev es 0 = -1 := rfl
theorem evPrev_pos (es : List Ev6) {k : Nat} (h : 0 < k) : evPrev es k = (evAt es (k - 1)).at_ := by unfold evPrev; rw [if_neg (by omega)]
theorem evFrom_low : ∀ {es : List Ev6} {p : Int}, evFrom p es = true → evFrom (-1) es = true
  | [], _, _ => rfl
  | e :: r, p, h => by
    rw [evFrom, Bool.and_eq_true] at h ⊢
    refine ⟨?_, h.2⟩
    have h1 := h.1
    unfold evOk at h1 ⊢
    simp only [Bool.and_eq_true, decide_eq_true_eq] at h1 ⊢
    have := inB_iff.1 h1.1.1
    exact ⟨h1.1, by omega⟩
theorem evFrom_tail : ∀ (k : Nat) {es : List Ev6} {p : Int}, evFrom p es = true → evFrom (-1) (es.drop k) = true
  | 0, es, p, h => by simpa using evFrom_low h
  | k + 1, [], p, h => by simp [evFrom]
  | k + 1, e :: r, p, h => by
    rw [evFrom, Bool.and_eq_true] at h
    exact evFrom_tail k h.2
theorem evV_drop {es : List Ev6} (k : Nat) (h : evV es = true) : evV (es.drop k) = true := by
  unfold evV at h ⊢
  simp only [Bool.and_eq_true, decide_eq_true_eq] at h ⊢
  exact ⟨evFrom_tail k h.1, by simp; omega⟩
theorem evFrom_bad : ∀ (es : List Ev6) (p : Int) (e : Ev6), inB e.at_ 0 100000 = false → evFrom p (es ++ [e]) = false
  | [], p, e, h => by simp [evFrom, evOk_time h]
  | x :: r, p, e, h => by simp [evFrom, evFrom_bad r x.at_ e h]
theorem evV_bad (es : List Ev6) (e : Ev6) (h : inB e.at_ 0 100000 = false) : evV (es ++ [e]) = false := by
  unfold evV; rw [evFrom_bad _ _ _ h, Bool.false_and]
end Go.Proofs.Ytgdcfhifiincaaa
