/-
  The plain law of pieces: what SplitBody and JoinPieces compute, and that parts that cover all bytes can be joined. No program.
-/
import Derived.Test.YtljbkppeoedcjaaBase
namespace Go.Proofs.Ytljbkppeoedcjaa
set_option linter.unusedVariables false
/-- at, more, body -/
structure Pc where
  at_ : Int
  more : Bool
  body : List Int
/-- The pieces of zs from place a on, at most f of them. -/
def pcsFrom (zs : List Int) (size : Nat) : Nat → Nat → List Pc
  | 0, _ => []
  | f + 1, a => ⟨(a : Int), decide (a + size < zs.length), (zs.drop a).take size⟩ :: if zs.length ≤ a + size then [] else pcsFrom zs size f (a + size)
def splitP (zs : List Int) (size : Int) : List Pc := if zs.length ≤ 80 ∧ 1 ≤ size ∧ size ≤ 40 then pcsFrom zs size.toNat (zs.length + 1) 0 else []

/-- A piece of zs: its body stands at its place; more tells whether something follows. -/
def IsPart (zs : List Int) (p : Pc) : Prop := ∃ a n : Nat, p.at_ = (a : Int) ∧ a + n ≤ zs.length ∧ p.body = (zs.drop a).take n ∧ p.more = decide (a + n < zs.length)
theorem IsPart.len {zs : List Int} {p : Pc} (h : IsPart zs p) : ∃ a n : Nat, p.at_ = (a : Int) ∧ a + n ≤ zs.length ∧ p.body = (zs.drop a).take n ∧ p.more = decide (a + n < zs.length) ∧ p.body.length = n := by
  obtain ⟨a, n, h1, h2, h3, h4⟩ := h
  exact ⟨a, n, h1, h2, h3, h4, by rw [h3]; simp; omega⟩
theorem pcs_part (zs : List Int) (size : Nat) (hs : 1 ≤ size) : ∀ f a, a ≤ zs.length → ∀ p ∈ pcsFrom zs size f a, IsPart zs p ∧ p.body.length ≤ size := by
  intro f
  induction f with
  | zero => intro a _ p hp; simp [pcsFrom] at hp
  | succ f ih =>
    intro a ha p hp
    simp only [pcsFrom, List.mem_cons] at hp
    rcases hp with rfl | hp
    · refine ⟨?_, by simp; omega⟩
      by_cases h : a + size < zs.length
      · exact ⟨a, size, rfl, by omega, rfl, rfl⟩
      · refine ⟨a, zs.length - a, rfl, by omega, ?_, by simp; omega⟩
        rw [List.take_of_length_le (by simp; omega), List.take_of_length_le (by simp)]
    · split at hp
      · simp at hp
      · exact ih (a + size) (by omega) p hp
/-- Every place from a on is covered. -/
theorem pcs_cover (zs : List Int) (size : Nat) (hs : 1 ≤ size) : ∀ f a, zs.length < a + f → ∀ i, a ≤ i → i < zs.length → ∃ p ∈ pcsFrom zs size f a, ∃ b : Nat, p.at_ = (b : Int) ∧ b ≤ i ∧ i < b + p.body.length := by
  intro f
  induction f with
  | zero => intro a h i h1 h2; omega
  | succ f ih =>
    intro a h i h1 h2
    by_cases hi : i < a + size
    · refine ⟨_, List.mem_cons_self .., a, rfl, h1, ?_⟩
      simp
      omega
    · obtain ⟨p, hp, hb⟩ := ih (a + size) (by omega) i (by omega) h2
      refine ⟨p, ?_, hb⟩
      simp only [pcsFrom, List.mem_cons]
      right
      rw [if_neg (by omega)]
      exact hp
/-- The last piece has no more. -/
theorem pcs_more (zs : List Int) (size : Nat) (hs : 1 ≤ size) : ∀ f a, zs.length < a + f → a ≤ zs.length → ∀ k p, (pcsFrom zs size f a)[k]? = some p → (p.more = true ↔ k + 1 < (pcsFrom zs size f a).length) := by
  intro f
  induction f with
  | zero => intro a h ha k p hp; simp [pcsFrom] at hp
  | succ f ih =>
    intro a h ha k p hp
    by_cases hc : zs.length ≤ a + size
    · have e : pcsFrom zs size (f + 1) a = [⟨(a : Int), decide (a + size < zs.length), (zs.drop a).take size⟩] := by simp [pcsFrom, hc]
      rw [e] at hp ⊢
      cases k with
      | zero => simp at hp; subst hp; simp; omega
      | succ k => simp at hp
    · have e : pcsFrom zs size (f + 1) a = ⟨(a : Int), decide (a + size < zs.length), (zs.drop a).take size⟩ :: pcsFrom zs size f (a + size) := by simp [pcsFrom, hc]
      rw [e] at hp ⊢
      cases k with
      | zero =>
        simp at hp
        subst hp
        have : 0 < (pcsFrom zs size f (a + size)).length := by
          cases f with
          | zero => omega
          | succ f => simp [pcsFrom]
        simp
        omega
      | succ k =>
        simp at hp
        rw [ih (a + size) (by omega) (by omega) k p hp]
        simp
theorem pcs_pos (zs : List Int) (size f a : Nat) : 0 < (pcsFrom zs size (f + 1) a).length := by simp [pcsFrom]

/-- One byte more. -/
def putB (st : List (Option Int)) (i : Nat) (x : Int) : Option (List (Option Int)) := match st[i]? with
  | some (some y) => if y = x then some st else none
  | some none => some (st.set i (some x))
  | none => none
/-- The bytes of a body from place a on. -/
def fillB : List (Option Int) → Nat → List Int → Option (List (Option Int))
  | st, _, [] => some st
  | st, a, x :: r => match putB st a x with
    | some st' => fillB st' (a + 1) r
    | none => none
def fillPs : List (Option Int) → List Pc → Option (List (Option Int))
  | st, [] => some st
  | st, p :: r => match fillB st p.at_.toNat p.body with
    | some st' => fillPs st' r
    | none => none
def fits (p : Pc) : Bool := decide (0 ≤ p.at_) && decide (p.at_ + p.body.length ≤ 80)
def ends (ps : List Pc) : Nat := ps.foldl (fun m p => max m (p.at_.toNat + p.body.length)) 0
def mored (L : Nat) (p : Pc) : Bool := p.more == decide (p.at_.toNat + p.body.length ≠ L)
def joinP (ps : List Pc) : Option (List Int) :=
  if 1 ≤ ps.length ∧ ps.length ≤ 80 ∧ ps.all fits = true ∧ ps.all (mored (ends ps)) = true then
    match fillPs (List.replicate (ends ps) none) ps with
    | some st => if st.all Option.isSome then some (st.map fun o => o.getD 0) else none
    | none => none
  else none

theorem putB_some {st st' : List (Option Int)} {i : Nat} {x : Int} (h : putB st i x = some st') : st'.length = st.length ∧ (∀ (j : Nat) (v : Int), st[j]? = some (some v) → st'[j]? = some (some v)) ∧ st'[i]? = some (some x) := by
  unfold putB at h
  split at h
  · rename_i y hy
    split at h
    · rename_i e
      subst e
      injection h with h
      subst h
      exact ⟨rfl, fun j v hj => hj, hy⟩
    · cases h
  · rename_i hy
    injection h with h
    subst h
    have hi : i < st.length := by
      rcases Nat.lt_or_ge i st.length with h | h
      · exact h
      · rw [List.getElem?_eq_none h] at hy; cases hy
    refine ⟨by simp, fun j v hj => ?_, by simp [hi]⟩
    rw [List.getElem?_set]
    by_cases e : i = j
    · subst e; rw [hy] at hj; cases hj
    · rw [if_neg e]; exact hj
  · cases h
theorem fillB_some : ∀ (body : List Int) (st st' : List (Option Int)) (a : Nat), fillB st a body = some st' → st'.length = st.length ∧ (∀ (j : Nat) (v : Int), st[j]? = some (some v) → st'[j]? = some (some v)) ∧ ∀ (j : Nat) (x : Int), body[j]? = some x → st'[a + j]? = some (some x) := by
  intro body
  induction body with
  | nil =>
    intro st st' a h
    simp [fillB] at h
    subst h
    exact ⟨rfl, fun j v hj => hj, fun j x hx => by simp at hx⟩
  | cons y r ih =>
    intro st st' a h
    unfold fillB at h
    split at h
    · rename_i s hs
      obtain ⟨l1, k1, c1⟩ := putB_some hs
      obtain ⟨l2, k2, c2⟩ := ih _ _ _ h
      refine ⟨by omega, fun j v hj => k2 j v (k1 j v hj), fun j x hx => ?_⟩
      cases j with
      | zero => simp at hx; subst hx; exact k2 _ _ c1
      | succ j =>
        have := c2 j x (by simpa using hx)
        rw [show a + (j + 1) = a + 1 + j from by omega]
        exact this
    · cases h
theorem fillPs_some : ∀ (ps : List Pc) (st st' : List (Option Int)), fillPs st ps = some st' → st'.length = st.length ∧ (∀ (j : Nat) (v : Int), st[j]? = some (some v) → st'[j]? = some (some v)) ∧ ∀ p ∈ ps, ∀ (j : Nat) (x : Int), p.body[j]? = some x → st'[p.at_.toNat + j]? = some (some x) := by
  intro ps
  induction ps with
  | nil =>
    intro st st' h
    simp [fillPs] at h
    subst h
    exact ⟨rfl, fun j v hj => hj, fun p hp => by simp at hp⟩
  | cons q r ih =>
    intro st st' h
    unfold fillPs at h
    split at h
    · rename_i s hs
      obtain ⟨l1, k1, c1⟩ := fillB_some _ _ _ _ hs
      obtain ⟨l2, k2, c2⟩ := ih _ _ h
      refine ⟨by omega, fun j v hj => k2 j v (k1 j v hj), fun p hp j x hx => ?_⟩
      rcases List.mem_cons.1 hp with rfl | hp
      · exact k2 _ _ (c1 j x hx)
      · exact c2 p hp j x hx
    · cases h
theorem ends_ge : ∀ (ps : List Pc) (m : Nat), m ≤ ps.foldl (fun m p => max m (p.at_.toNat + p.body.length)) m ∧ ∀ p ∈ ps, p.at_.toNat + p.body.length ≤ ps.foldl (fun m p => max m (p.at_.toNat + p.body.length)) m := by
  intro ps
  induction ps with
  | nil => intro m; simp
  | cons q r ih =>
    intro m
    obtain ⟨h1, h2⟩ := ih (max m (q.at_.toNat + q.body.length))
    refine ⟨by simp only [List.foldl_cons]; omega, fun p hp => ?_⟩
    rcases List.mem_cons.1 hp with rfl | hp
    · simp only [List.foldl_cons]; omega
    · exact h2 p hp
theorem ends_le : ∀ (ps : List Pc) (m L : Nat), m ≤ L → (∀ p ∈ ps, p.at_.toNat + p.body.length ≤ L) → ps.foldl (fun m p => max m (p.at_.toNat + p.body.length)) m ≤ L := by
  intro ps
  induction ps with
  | nil => intro m L h _; simpa using h
  | cons q r ih =>
    intro m L h hp
    have := hp q (by simp)
    have h' := ih (max m (q.at_.toNat + q.body.length)) L (by omega) fun p hpr => hp p (by simp [hpr])
    simpa only [List.foldl_cons] using h'
theorem join_some {ps : List Pc} {bs : List Int} (h : joinP ps = some bs) : bs.length = ends ps ∧ ∀ p ∈ ps, 0 ≤ p.at_ ∧ p.at_.toNat + p.body.length ≤ bs.length ∧ p.body = (bs.drop p.at_.toNat).take p.body.length ∧ (p.more = true ↔ p.at_.toNat + p.body.length ≠ bs.length) := by
  unfold joinP at h
  split at h
  · rename_i hc
    obtain ⟨_, _, hf, hm⟩ := hc
    split at h
    · rename_i st hst
      split at h
      · injection h with h
        obtain ⟨l1, _, c1⟩ := fillPs_some _ _ _ hst
        have hl : bs.length = ends ps := by subst h; simp [l1]
        refine ⟨hl, fun p hp => ?_⟩
        have f1 := List.all_eq_true.1 hf p hp
        have m1 := List.all_eq_true.1 hm p hp
        simp [fits] at f1
        have e1 : p.at_.toNat + p.body.length ≤ ends ps := (ends_ge ps 0).2 p hp
        refine ⟨f1.1, by omega, ?_, ?_⟩
        · apply List.ext_getElem?
          intro j
          by_cases hj : j < p.body.length
          · have hx := c1 p hp j p.body[j] (List.getElem?_eq_getElem hj)
            rw [List.getElem?_eq_getElem hj, List.getElem?_take, if_pos hj, List.getElem?_drop, ← h, List.getElem?_map, hx]
            rfl
          · rw [List.getElem?_eq_none (by omega), List.getElem?_take, if_neg hj]
        · rw [hl]
          simp only [mored, beq_iff_eq] at m1
          rw [m1]
          simp
      · cases h
    · cases h
  · cases h

def Agree (st : List (Option Int)) (zs : List Int) : Prop := ∀ (i : Nat) (v : Int), st[i]? = some (some v) → zs[i]? = some v
theorem putB_ok {st : List (Option Int)} {zs : List Int} {i : Nat} {x : Int} (ha : Agree st zs) (hl : st.length = zs.length) (hx : zs[i]? = some x) : ∃ st', putB st i x = some st' ∧ Agree st' zs := by
  have hi : i < zs.length := by
    rcases Nat.lt_or_ge i zs.length with h | h
    · exact h
    · rw [List.getElem?_eq_none h] at hx; cases hx
  unfold putB
  rw [List.getElem?_eq_getElem (show i < st.length by omega)]
  cases hs : st[i]'(by omega) with
  | none =>
    refine ⟨_, rfl, fun j v hj => ?_⟩
    rw [List.getElem?_set] at hj
    by_cases e : i = j
    · subst e
      rw [if_pos rfl, if_pos (by omega)] at hj
      injection hj with hj
      injection hj with hj
      subst hj
      exact hx
    · rw [if_neg e] at hj
      exact ha j v hj
  | some y =>
    have : zs[i]? = some y := ha i y (by rw [List.getElem?_eq_getElem (show i < st.length by omega), hs])
    rw [hx] at this
    injection this with this
    subst this
    exact ⟨st, by simp, ha⟩
theorem fillB_ok {zs : List Int} : ∀ (body : List Int) (st : List (Option Int)) (a : Nat), Agree st zs → st.length = zs.length → (∀ (j : Nat) (x : Int), body[j]? = some x → zs[a + j]? = some x) → ∃ st', fillB st a body = some st' ∧ Agree st' zs ∧ st'.length = zs.length := by
  intro body
  induction body with
  | nil => intro st a ha hl _; exact ⟨st, rfl, ha, hl⟩
  | cons y r ih =>
    intro st a ha hl hb
    obtain ⟨s, hs, has⟩ := putB_ok ha hl (hb 0 y (by simp))
    obtain ⟨s2, hs2, h2⟩ := ih s (a + 1) has (by rw [(putB_some hs).1]; exact hl) fun j x hx => by
      have := hb (j + 1) x (by simpa using hx)
      rwa [show a + 1 + j = a + (j + 1) from by omega]
    refine ⟨s2, ?_, h2⟩
    unfold fillB
    rw [show putB st a y = some s from hs]
    exact hs2
theorem part_at {zs : List Int} {p : Pc} (h : IsPart zs p) : ∀ (j : Nat) (x : Int), p.body[j]? = some x → zs[p.at_.toNat + j]? = some x := by
  obtain ⟨a, n, h1, h2, h3, h4⟩ := h
  intro j x hx
  rw [h3, List.getElem?_take] at hx
  split at hx
  · rw [List.getElem?_drop] at hx
    rw [h1]
    exact hx
  · cases hx
theorem fillPs_ok {zs : List Int} : ∀ (ps : List Pc) (st : List (Option Int)), Agree st zs → st.length = zs.length → (∀ p ∈ ps, IsPart zs p) → ∃ st', fillPs st ps = some st' ∧ Agree st' zs ∧ st'.length = zs.length := by
  intro ps
  induction ps with
  | nil => intro st ha hl _; exact ⟨st, rfl, ha, hl⟩
  | cons q r ih =>
    intro st ha hl hp
    obtain ⟨s, hs, has, hls⟩ := fillB_ok q.body st q.at_.toNat ha hl (part_at (hp q (by simp)))
    obtain ⟨s2, hs2, h2⟩ := ih s has hls fun p h => hp p (by simp [h])
    refine ⟨s2, ?_, h2⟩
    unfold fillPs
    rw [hs]
    exact hs2
/-- Parts that cover all bytes can be joined. -/
theorem join_parts {zs : List Int} {ps : List Pc} (hz : zs.length ≤ 80) (h1 : 1 ≤ ps.length) (h2 : ps.length ≤ 80) (hp : ∀ p ∈ ps, IsPart zs p) (hc : ∀ i, i < zs.length → ∃ p ∈ ps, ∃ b : Nat, p.at_ = (b : Int) ∧ b ≤ i ∧ i < b + p.body.length) : joinP ps = some zs := by
  have he : ends ps = zs.length := by
    apply Nat.le_antisymm
    · refine ends_le ps 0 _ (Nat.zero_le _) fun p hpp => ?_
      obtain ⟨a, n, e1, e2, _, _, e5⟩ := (hp p hpp).len
      rw [e1, e5]
      exact e2
    · rcases Nat.eq_zero_or_pos zs.length with h0 | h0
      · omega
      · obtain ⟨p, hpp, b, e1, e2, e3⟩ := hc (zs.length - 1) (by omega)
        have : p.at_.toNat + p.body.length ≤ ends ps := (ends_ge ps 0).2 p hpp
        rw [e1] at this
        simp at this
        omega
  have hf : ps.all fits = true := List.all_eq_true.2 fun p hpp => by
    obtain ⟨a, n, e1, e2, _, _, e5⟩ := (hp p hpp).len
    simp [fits, e1, e5]
    omega
  have hm : ps.all (mored (ends ps)) = true := List.all_eq_true.2 fun p hpp => by
    obtain ⟨a, n, e1, e2, _, e4, e5⟩ := (hp p hpp).len
    unfold mored
    rw [beq_iff_eq, e4, he, e1, e5, decide_eq_decide]
    simp
    omega
  obtain ⟨st, hst, ha, hl⟩ := fillPs_ok (zs := zs) ps (List.replicate (ends ps) none) (fun i v hi => by
    rw [List.getElem?_replicate] at hi
    split at hi
    · cases hi
    · cases hi) (by simp [he]) hp
  have hcov := (fillPs_some _ _ _ hst).2.2
  have hall : ∀ i, i < st.length → ∃ v, st[i]? = some (some v) := by
    intro i hi
    obtain ⟨p, hpp, b, e1, e2, e3⟩ := hc i (by omega)
    have := hcov p hpp (i - b) p.body[i - b] (List.getElem?_eq_getElem (by omega))
    rw [e1] at this
    simp at this
    rw [show b + (i - b) = i from by omega] at this
    exact ⟨_, this⟩
  have hs : st.all Option.isSome = true := List.all_eq_true.2 fun o ho => by
    obtain ⟨i, hi, rfl⟩ := List.getElem_of_mem ho
    obtain ⟨v, hv⟩ := hall i hi
    rw [List.getElem?_eq_getElem hi] at hv
    injection hv with hv
    rw [hv]
    rfl
  have hmap : st.map (fun o => o.getD 0) = zs := by
    apply List.ext_getElem?
    intro i
    rw [List.getElem?_map]
    rcases Nat.lt_or_ge i st.length with hi | hi
    · obtain ⟨v, hv⟩ := hall i hi
      rw [hv, ha i v hv]
      rfl
    · rw [List.getElem?_eq_none hi, List.getElem?_eq_none (by omega)]
      rfl
  unfold joinP
  rw [if_pos ⟨h1, h2, hf, hm⟩, hst]
  simp only [hs, if_true, hmap]
theorem split_parts {zs : List Int} {size : Int} (h : zs.length ≤ 80 ∧ 1 ≤ size ∧ size ≤ 40) : ∀ p ∈ splitP zs size, IsPart zs p ∧ (p.body.length : Int) ≤ size := by
  intro p hp
  unfold splitP at hp
  rw [if_pos h] at hp
  have := pcs_part zs size.toNat (by omega) _ 0 (Nat.zero_le _) p hp
  exact ⟨this.1, by omega⟩
theorem split_cover {zs : List Int} {size : Int} (h : zs.length ≤ 80 ∧ 1 ≤ size ∧ size ≤ 40) : ∀ i, i < zs.length → ∃ p ∈ splitP zs size, ∃ b : Nat, p.at_ = (b : Int) ∧ b ≤ i ∧ i < b + p.body.length := by
  intro i hi
  unfold splitP
  rw [if_pos h]
  exact pcs_cover zs size.toNat (by omega) _ 0 (by omega) i (Nat.zero_le _) hi
theorem split_more {zs : List Int} {size : Int} (h : zs.length ≤ 80 ∧ 1 ≤ size ∧ size ≤ 40) : ∀ k p, (splitP zs size)[k]? = some p → (p.more = true ↔ k + 1 < (splitP zs size).length) := by
  unfold splitP
  rw [if_pos h]
  exact pcs_more zs size.toNat (by omega) _ 0 (by omega) (Nat.zero_le _)
theorem split_pos {zs : List Int} {size : Int} (h : zs.length ≤ 80 ∧ 1 ≤ size ∧ size ≤ 40) : 0 < (splitP zs size).length := by
  unfold splitP
  rw [if_pos h]
  exact pcs_pos _ _ _ _
theorem pcs_len (zs : List Int) (size : Nat) (hs : 1 ≤ size) : ∀ f a, (pcsFrom zs size f a).length ≤ max 1 (zs.length - a) := by
  intro f
  induction f with
  | zero => intro a; simp [pcsFrom]
  | succ f ih =>
    intro a
    by_cases hc : zs.length ≤ a + size
    · have e : pcsFrom zs size (f + 1) a = [⟨(a : Int), decide (a + size < zs.length), (zs.drop a).take size⟩] := by simp [pcsFrom, hc]
      rw [e]
      simp
      omega
    · have e : pcsFrom zs size (f + 1) a = ⟨(a : Int), decide (a + size < zs.length), (zs.drop a).take size⟩ :: pcsFrom zs size f (a + size) := by simp [pcsFrom, hc]
      rw [e]
      have := ih (a + size)
      simp
      omega
theorem split_len {zs : List Int} {size : Int} (h : zs.length ≤ 80 ∧ 1 ≤ size ∧ size ≤ 40) : (splitP zs size).length ≤ 80 := by
  unfold splitP
  rw [if_pos h]
  have := pcs_len zs size.toNat (by omega) (zs.length + 1) 0
  omega
end Go.Proofs.Ytljbkppeoedcjaa
