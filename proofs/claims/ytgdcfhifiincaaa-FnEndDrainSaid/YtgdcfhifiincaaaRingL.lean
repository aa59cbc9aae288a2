/-
  The plain law of ways to choose a host: rings and tickets, when a host goes or comes up. No program.
-/
import Derived.Test.YtgdcfhifiincaaaHost0
namespace Go.Proofs.Ytgdcfhifiincaaa
set_option linter.unusedVariables false
/-- One step of the hash. -/
def mix1 (h n : Int) : Int := let x := (31 * h + 7919 * n + 17) % 1000003; (x * x + x + 7) % 1000003
def keyV (n : Int) : Bool := decide (0 ≤ n) && decide (n ≤ 1000002)
def mixL (l : List Int) : Int := if l.length ≤ 8 ∧ l.all keyV = true then l.foldl mix1 1 else -1
def upB (h : H3) : Bool := h.2.2 == 1
def upL (hs : List H3) : List H3 := hs.filter upB
/-- The tickets of one host for a key: number and hash. -/
def tickH (key : Int) (h : H3) : List (Int × Int) := (List.range h.2.1.toNat).map fun (t : Nat) => (h.1, mixL [key, h.1, (t : Int)])
def ticks (hs : List H3) (key : Int) : List (Int × Int) := (upL hs).flatMap (tickH key)
def best1 (s : Int × Int) (x : Int × Int) : Int × Int := if s.2 < x.2 then x else s
def bestT (l : List (Int × Int)) : Int × Int := l.foldl best1 (-1, -1)
/-- The points of one host: place and number. -/
def ptsH (h : H3) : List (Int × Int) := (List.range (3 * h.2.1).toNat).map fun (i : Nat) => (mixL [h.1, (i : Int)], h.1)
def pts (hs : List H3) : List (Int × Int) := (upL hs).flatMap ptsH
def ptLe (a b : Int × Int) : Prop := a.1 < b.1 ∨ (a.1 = b.1 ∧ a.2 ≤ b.2)
/-- The ring: the points sorted. -/
def IsRing (hs : List H3) (r : List (Int × Int)) : Prop := r.Perm (pts hs) ∧ r.Pairwise ptLe
def ringH (r : List (Int × Int)) (key : Int) : Int := match r.find? (fun x => decide (key ≤ x.1)) with
  | some x => x.2
  | none => match r with
    | [] => -1
    | x :: _ => x.2
theorem ptLe_trans {a b c : Int × Int} (h : ptLe a b) (h' : ptLe b c) : ptLe a c := by unfold ptLe at *; omega
theorem ptLe_anti {a b : Int × Int} (h : ptLe a b) (h' : ptLe b a) : a = b := by
  unfold ptLe at *
  apply Prod.ext <;> omega
/-- Sorted lists of the same points are equal. -/
theorem sorted_unique : ∀ (a b : List (Int × Int)), a.Perm b → a.Pairwise ptLe → b.Pairwise ptLe → a = b := by
  intro a
  induction a with
  | nil => intro b h _ _; exact (List.nil_perm.1 h).symm
  | cons x r ih =>
    intro b h h1 h2
    cases b with
    | nil => exact absurd h.symm (by simp)
    | cons y s =>
      have hx : x ∈ y :: s := h.subset (by simp)
      have hy : y ∈ x :: r := h.symm.subset (by simp)
      have e : x = y := by
        rcases List.mem_cons.1 hx with e | hx
        · exact e
        · rcases List.mem_cons.1 hy with e | hy
          · exact e.symm
          · exact ptLe_anti ((List.pairwise_cons.1 h1).1 y hy) ((List.pairwise_cons.1 h2).1 x hx)
      subst e
      rw [ih s (List.perm_cons x |>.1 h) (List.pairwise_cons.1 h1).2 (List.pairwise_cons.1 h2).2]
theorem ring_unique {hs : List H3} {a b : List (Int × Int)} (h : IsRing hs a) (h' : IsRing hs b) : a = b := sorted_unique a b (h.1.trans h'.1.symm) h.2 h'.2
theorem ring_filter {hs hs' : List H3} {r r' : List (Int × Int)} {k : Int} (h : IsRing hs r) (h' : IsRing hs' r') (e : pts hs' = (pts hs).filter fun x => x.2 != k) : r' = r.filter fun x => x.2 != k := by
  refine sorted_unique _ _ ?_ h'.2 (h.2.filter _)
  exact (h'.1.trans (by rw [e])).trans ((h.1.filter _).symm)
theorem ringH_filter {r : List (Int × Int)} {key k : Int} (h : ringH r key ≠ k) : ringH (r.filter fun x => x.2 != k) key = ringH r key := by
  have key1 : ∀ x, r.find? (fun x => decide (key ≤ x.1)) = some x → x.2 ≠ k → (r.filter fun x => x.2 != k).find? (fun x => decide (key ≤ x.1)) = some x := by
    intro x hf hx
    rw [List.find?_filter, List.find?_eq_some_iff_append]
    rw [List.find?_eq_some_iff_append] at hf
    obtain ⟨h1, p1, p2, e, h2⟩ := hf
    refine ⟨by simpa using ⟨hx, by simpa using h1⟩, p1, p2, e, fun a ha => ?_⟩
    have := h2 a ha
    simp at this ⊢
    omega
  have key2 : r.find? (fun x => decide (key ≤ x.1)) = none → (r.filter fun x => x.2 != k).find? (fun x => decide (key ≤ x.1)) = none := by
    intro hf
    rw [List.find?_filter, List.find?_eq_none]
    rw [List.find?_eq_none] at hf
    intro a ha
    have := hf a ha
    simp at this ⊢
    intro _
    omega
  unfold ringH at h ⊢
  rcases hf : r.find? (fun x => decide (key ≤ x.1)) with _ | x
  · rw [hf] at h
    rw [key2 hf]
    cases r with
    | nil => rfl
    | cons x s =>
      have hx : x.2 ≠ k := h
      have : ((x :: s).filter fun y => y.2 != k) = x :: s.filter fun y => y.2 != k := by
        rw [List.filter_cons_of_pos]
        simpa using hx
      rw [this, hf]
  · rw [hf] at h
    rw [key1 x hf h, hf]
theorem best_filter_aux (k : Int) : ∀ (l : List (Int × Int)) (s s' : Int × Int), (s = s' ∨ (s.1 = k ∧ s'.2 ≤ s.2)) → (l.foldl best1 s = (l.filter fun x => x.1 != k).foldl best1 s' ∨ ((l.foldl best1 s).1 = k ∧ ((l.filter fun x => x.1 != k).foldl best1 s').2 ≤ (l.foldl best1 s).2)) := by
  intro l
  induction l with
  | nil => intro s s' h; simpa using h
  | cons x r ih =>
    intro s s' h
    by_cases hx : x.1 = k
    · have e : ((x :: r).filter fun x => x.1 != k) = r.filter fun x => x.1 != k := by rw [List.filter_cons_of_neg]; simpa using hx
      rw [e, List.foldl_cons]
      apply ih
      unfold best1
      split
      · right
        refine ⟨hx, ?_⟩
        rcases h with h | h
        · subst h; omega
        · omega
      · exact h
    · have e : ((x :: r).filter fun x => x.1 != k) = x :: r.filter fun x => x.1 != k := by rw [List.filter_cons_of_pos]; simpa using hx
      rw [e, List.foldl_cons, List.foldl_cons]
      apply ih
      unfold best1
      rcases h with h | h
      · subst h; exact .inl rfl
      · by_cases h1 : s.2 < x.2
        · rw [if_pos h1, if_pos (by omega)]; exact .inl rfl
        · rw [if_neg h1]
          right
          refine ⟨h.1, ?_⟩
          split <;> omega
theorem best_filter {l : List (Int × Int)} {k : Int} (h : (bestT l).1 ≠ k) : bestT (l.filter fun x => x.1 != k) = bestT l := by
  rcases best_filter_aux k l (-1, -1) (-1, -1) (.inl rfl) with h' | h'
  · exact h'.symm
  · exact absurd h'.1 h
/-- The state of a host. -/
def setSt (hs : List H3) (k s : Int) : List H3 := hs.map fun h => if h.1 = k then (h.1, h.2.1, s) else h
theorem upL_down (hs : List H3) (k : Int) : upL (setSt hs k 0) = (upL hs).filter fun h => h.1 != k := by
  induction hs with
  | nil => rfl
  | cons h r ih =>
    unfold upL setSt at *
    rw [List.map_cons]
    by_cases e : h.1 = k
    · have e0 : upB (h.1, h.2.1, 0) = false := rfl
      rw [if_pos e, List.filter_cons, e0, ih]
      by_cases e1 : upB h = true
      · simp [e1, e]
      · simp [e1]
    · rw [if_neg e, List.filter_cons, List.filter_cons, ih]
      by_cases e1 : upB h = true
      · simp [e1, e]
      · simp [e1]
theorem upL_up (hs : List H3) (k : Int) : (upL hs).filter (fun h => h.1 != k) = (upL (setSt hs k 1)).filter fun h => h.1 != k := by
  induction hs with
  | nil => rfl
  | cons h r ih =>
    unfold upL setSt at *
    rw [List.map_cons]
    by_cases e : h.1 = k
    · have e0 : upB (h.1, h.2.1, 1) = true := rfl
      rw [if_pos e, List.filter_cons, List.filter_cons, e0]
      by_cases e1 : upB h = true
      · simp [e1, e, ← ih]
      · simp [e1, e, ← ih]
    · rw [if_neg e, List.filter_cons, List.filter_cons]
      by_cases e1 : upB h = true
      · simp [e1, e, ih]
      · simp [e1, ih]
theorem ptsH_num (h : H3) : ∀ x ∈ ptsH h, x.2 = h.1 := by
  intro x hx
  unfold ptsH at hx
  simp at hx
  obtain ⟨t, _, rfl⟩ := hx
  rfl
theorem tickH_num (key : Int) (h : H3) : ∀ x ∈ tickH key h, x.1 = h.1 := by
  intro x hx
  unfold tickH at hx
  simp at hx
  obtain ⟨t, _, rfl⟩ := hx
  rfl
theorem flat_filter {α β : Type} (g : α → List β) (p : α → Bool) (q : β → Bool) (h : ∀ a, ∀ x ∈ g a, q x = p a) : ∀ l : List α, (l.flatMap g).filter q = (l.filter p).flatMap g := by
  intro l
  induction l with
  | nil => rfl
  | cons a r ih =>
    rw [List.flatMap_cons, List.filter_append, ih]
    by_cases e : p a = true
    · rw [List.filter_cons_of_pos e, List.flatMap_cons, List.filter_eq_self.2 fun x hx => by rw [h a x hx]; exact e]
    · rw [List.filter_cons_of_neg e]
      have : (g a).filter q = [] := List.filter_eq_nil_iff.2 fun x hx => by rw [h a x hx]; exact e
      rw [this]; rfl
theorem pts_filter (hs : List H3) (k : Int) : (pts hs).filter (fun x => x.2 != k) = ((upL hs).filter fun h => h.1 != k).flatMap ptsH :=
  flat_filter ptsH _ _ (fun h x hx => by rw [ptsH_num h x hx]) _
theorem ticks_filter (hs : List H3) (key k : Int) : (ticks hs key).filter (fun x => x.1 != k) = ((upL hs).filter fun h => h.1 != k).flatMap (tickH key) :=
  flat_filter (tickH key) _ _ (fun h x hx => by rw [tickH_num key h x hx]) _
/-- When host k goes, a key that did not choose it chooses as before (ring). -/
theorem ring_moves {hs : List H3} {r r' : List (Int × Int)} {k key : Int} (h : IsRing hs r) (h' : IsRing (setSt hs k 0) r') (hk : ringH r key ≠ k) : ringH r' key = ringH r key := by
  have e : pts (setSt hs k 0) = (pts hs).filter fun x => x.2 != k := by
    rw [pts_filter, ← upL_down]; rfl
  rw [ring_filter h h' e]
  exact ringH_filter hk
/-- A host that comes up takes keys alone (ring). -/
theorem ring_new {hs : List H3} {r r' : List (Int × Int)} {k key : Int} (h : IsRing hs r) (h' : IsRing (setSt hs k 1) r') (hd : ∀ x ∈ hs, x.1 = k → x.2.2 ≠ 1) : ringH r' key = ringH r key ∨ ringH r' key = k := by
  by_cases hk : ringH r' key = k
  · exact .inr hk
  · left
    have e0 : (upL hs).filter (fun h => h.1 != k) = upL hs := List.filter_eq_self.2 fun x hx => by
      unfold upL at hx
      simp [upB] at hx
      have := hd x hx.1
      simp
      intro e
      exact this e hx.2
    have e : pts hs = (pts (setSt hs k 1)).filter fun x => x.2 != k := by
      rw [pts_filter, ← upL_up, e0]; rfl
    rw [ring_filter h' h e]
    exact (ringH_filter hk).symm
theorem ticks_new {hs : List H3} {k key : Int} (hd : ∀ x ∈ hs, x.1 = k → x.2.2 ≠ 1) : (bestT (ticks (setSt hs k 1) key)).1 = (bestT (ticks hs key)).1 ∨ (bestT (ticks (setSt hs k 1) key)).1 = k := by
  by_cases hk : (bestT (ticks (setSt hs k 1) key)).1 = k
  · exact .inr hk
  · left
    have e0 : (upL hs).filter (fun h => h.1 != k) = upL hs := List.filter_eq_self.2 fun x hx => by
      unfold upL at hx
      simp [upB] at hx
      have := hd x hx.1
      simp
      intro e
      exact this e hx.2
    have e : ticks hs key = (ticks (setSt hs k 1) key).filter fun x => x.1 != k := by
      rw [ticks_filter, ← upL_up, e0]; rfl
    rw [e, best_filter hk]
end Go.Proofs.Ytgdcfhifiincaaa
