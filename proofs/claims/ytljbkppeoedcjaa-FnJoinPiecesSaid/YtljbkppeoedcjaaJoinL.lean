/-
  The plain law of joining, step by step: prefixes of pieces; what the rows of bytes and of marks hold.
-/
import Derived.Test.YtljbkppeoedcjaaPcsC
namespace Go.Proofs.Ytljbkppeoedcjaa
open Go.RowKit
set_option linter.unusedVariables false

theorem fillB_append (st : List (Option Int)) (a : Nat) (b c : List Int) : fillB st a (b ++ c) = (fillB st a b).bind fun s => fillB s (a + b.length) c := by
  induction b generalizing st a with
  | nil => simp [fillB]
  | cons x r ih =>
    simp only [List.cons_append, fillB]
    cases putB st a x with
    | none => rfl
    | some s =>
      simp only [ih, List.length_cons]
      congr 2
      funext s
      congr 1
      omega
theorem fillPs_append (st : List (Option Int)) (b c : List Pc) : fillPs st (b ++ c) = (fillPs st b).bind fun s => fillPs s c := by
  induction b generalizing st with
  | nil => simp [fillPs]
  | cons x r ih =>
    simp only [List.cons_append, fillPs]
    cases fillB st x.at_.toNat x.body with
    | none => rfl
    | some s => simp only [ih]
def pcAt (ps : List Pc) (k : Nat) : Pc := ps[k]?.getD ⟨0, false, []⟩
theorem pcAt_eq {ps : List Pc} {k : Nat} (h : k < ps.length) : pcAt ps k = ps[k] := by unfold pcAt; rw [List.getElem?_eq_getElem h]; rfl
theorem pcAt_mem {ps : List Pc} {k : Nat} (h : k < ps.length) : pcAt ps k ∈ ps := by rw [pcAt_eq h]; exact List.getElem_mem h
theorem take_succ_pc {ps : List Pc} {k : Nat} (h : k < ps.length) : ps.take (k + 1) = ps.take k ++ [pcAt ps k] := by rw [List.take_succ_eq_append_getElem h, pcAt_eq h]
theorem drop_pc {ps : List Pc} {k : Nat} (h : k < ps.length) : ps.drop k = pcAt ps k :: ps.drop (k + 1) := by rw [List.drop_eq_getElem_cons h, pcAt_eq h]
theorem pcAt_map {ps : List Pv} {k : Nat} (h : k < ps.length) : pcAt (ps.map Pv.pc) k = (pAt ps k).pc := by
  rw [pcAt_eq (by simpa using h), pAt_eq h]
  simp
theorem byteAt_step {zs : List Int} {j : Nat} (h : j < zs.length) : zs.take (j + 1) = zs.take j ++ [zs[j]?.getD 0] := take_succ_getD zs j h
/-- One byte more of a body. -/
theorem fillB_step {st0 st : List (Option Int)} {a j : Nat} {zs : List Int} (h : fillB st0 a (zs.take j) = some st) (hj : j < zs.length) : fillB st0 a (zs.take (j + 1)) = putB st (a + j) (zs[j]?.getD 0) := by
  rw [byteAt_step hj, fillB_append, h]
  simp only [Option.bind_some, List.length_take, fillB, show min j zs.length = j from by omega]
  cases putB st (a + j) (zs[j]?.getD 0) <;> rfl
theorem fillB_none {st0 st : List (Option Int)} {a j : Nat} {zs : List Int} (h : fillB st0 a (zs.take j) = some st) (hj : j < zs.length) (hn : putB st (a + j) (zs[j]?.getD 0) = none) : fillB st0 a zs = none := by
  have h1 := fillB_step h hj
  rw [hn] at h1
  have := fillB_append st0 a (zs.take (j + 1)) (zs.drop (j + 1))
  rw [List.take_append_drop, h1] at this
  exact this
/-- One piece more. -/
theorem fillPs_step {st0 st : List (Option Int)} {ps : List Pc} {k : Nat} (h : fillPs st0 (ps.take k) = some st) (hk : k < ps.length) : fillPs st0 (ps.take (k + 1)) = fillB st (pcAt ps k).at_.toNat (pcAt ps k).body := by
  rw [take_succ_pc hk, fillPs_append, h]
  simp only [Option.bind_some, fillPs]
  cases fillB st (pcAt ps k).at_.toNat (pcAt ps k).body <;> rfl
theorem fillPs_none {st0 st : List (Option Int)} {ps : List Pc} {k : Nat} (h : fillPs st0 (ps.take k) = some st) (hk : k < ps.length) (hn : fillB st (pcAt ps k).at_.toNat (pcAt ps k).body = none) : fillPs st0 ps = none := by
  have h1 := fillPs_step h hk
  rw [hn] at h1
  have := fillPs_append st0 (ps.take (k + 1)) (ps.drop (k + 1))
  rw [List.take_append_drop, h1] at this
  exact this
theorem fillB_len {st st' : List (Option Int)} {a : Nat} {zs : List Int} (h : fillB st a zs = some st') : st'.length = st.length := (fillB_some _ _ _ _ h).1
theorem fillPs_len {st st' : List (Option Int)} {ps : List Pc} (h : fillPs st ps = some st') : st'.length = st.length := (fillPs_some _ _ _ h).1
theorem all_take_succ {α : Type} {f : α → Bool} {ps : List α} {k : Nat} {x : α} (h : (ps.take k).all f = true) (hx : ps[k]? = some x) (hf : f x = true) : (ps.take (k + 1)).all f = true := by
  have hk : k < ps.length := by
    rcases Nat.lt_or_ge k ps.length with h | h
    · exact h
    · rw [List.getElem?_eq_none h] at hx; cases hx
  rw [List.take_succ_eq_append_getElem hk, List.all_append, h]
  rw [List.getElem?_eq_getElem hk] at hx
  injection hx with hx
  simp [hx, hf]
theorem all_false {α : Type} {f : α → Bool} {ps : List α} {x : α} (h : x ∈ ps) (hf : f x = false) : ps.all f = false := by
  rw [Bool.eq_false_iff]
  intro ha
  have := List.all_eq_true.1 ha x h
  rw [hf] at this
  cases this
theorem ends_step {ps : List Pc} {k : Nat} (h : k < ps.length) : ends (ps.take (k + 1)) = max (ends (ps.take k)) ((pcAt ps k).at_.toNat + (pcAt ps k).body.length) := by
  rw [take_succ_pc h]
  unfold ends
  rw [List.foldl_append]
  rfl
theorem joinP_count {ps : List Pc} (h : ¬ (1 ≤ ps.length ∧ ps.length ≤ 80)) : joinP ps = none := by unfold joinP; rw [if_neg (fun hh => h ⟨hh.1, hh.2.1⟩)]
theorem joinP_fits {ps : List Pc} (h : ps.all fits = false) : joinP ps = none := by unfold joinP; rw [if_neg (fun hh => by rw [h] at hh; exact absurd hh.2.2.1 (by simp))]
theorem joinP_mored {ps : List Pc} (h : ps.all (mored (ends ps)) = false) : joinP ps = none := by unfold joinP; rw [if_neg (fun hh => by rw [h] at hh; exact absurd hh.2.2.2 (by simp))]
theorem joinP_fill {ps : List Pc} (h : fillPs (List.replicate (ends ps) none) ps = none) : joinP ps = none := by
  unfold joinP
  rw [h]
  split <;> rfl
theorem joinP_cover {ps : List Pc} {st : List (Option Int)} (h : fillPs (List.replicate (ends ps) none) ps = some st) (hc : st.all Option.isSome = false) : joinP ps = none := by
  unfold joinP
  rw [h]
  simp only [hc]
  split <;> rfl
theorem joinP_yes {ps : List Pc} {st : List (Option Int)} (h1 : 1 ≤ ps.length ∧ ps.length ≤ 80) (h2 : ps.all fits = true) (h3 : ps.all (mored (ends ps)) = true) (h : fillPs (List.replicate (ends ps) none) ps = some st) (hc : st.all Option.isSome = true) : joinP ps = some (st.map fun o => o.getD 0) := by
  unfold joinP
  rw [if_pos ⟨h1.1, h1.2, h2, h3⟩, h]
  simp only [hc, if_true]
theorem ends_le80 {ps : List Pc} (h : ps.all fits = true) : ends ps ≤ 80 := by
  refine ends_le ps 0 80 (by omega) fun p hp => ?_
  have := List.all_eq_true.1 h p hp
  simp [fits] at this
  omega
/-- Some piece ends where the bytes end. -/
theorem ends_at {ps : List Pc} (h : 1 ≤ ps.length) (hf : ps.all fits = true) : ∃ p ∈ ps, p.at_.toNat + p.body.length = ends ps := by
  have key : ∀ (l : List Pc) (m : Nat), (∃ p ∈ l, p.at_.toNat + p.body.length = l.foldl (fun m p => max m (p.at_.toNat + p.body.length)) m) ∨ l.foldl (fun m p => max m (p.at_.toNat + p.body.length)) m = m := by
    intro l
    induction l with
    | nil => intro m; right; rfl
    | cons q r ih =>
      intro m
      rw [List.foldl_cons]
      rcases ih (max m (q.at_.toNat + q.body.length)) with ⟨p, hp, e⟩ | e
      · left; exact ⟨p, by simp [hp], e⟩
      · by_cases hm : q.at_.toNat + q.body.length ≤ m
        · right; rw [e]; omega
        · left; exact ⟨q, by simp, by rw [e]; omega⟩
  rcases key ps 0 with ⟨p, hp, e⟩ | e
  · exact ⟨p, hp, e⟩
  · match ps, h with
    | q :: r, _ =>
      refine ⟨q, by simp, ?_⟩
      have := (ends_ge (q :: r) 0).2 q (by simp)
      rw [e] at this
      unfold ends
      rw [e]
      omega
theorem mored_iff {L : Nat} {p : Pc} : mored L p = true ↔ (p.more = true ↔ p.at_.toNat + p.body.length ≠ L) := by
  unfold mored
  rw [beq_iff_eq]
  constructor
  · intro h; rw [h]; simp
  · intro h
    cases hm : p.more <;> rw [hm] at h <;> simp at h <;> simp [h]

/-- What the rows of bytes and of marks hold. -/
def outL (st : List (Option Int)) : List Value := st.map fun o => .int .u8 (o.getD 0)
def hasL (st : List (Option Int)) : List Value := st.map fun o => .bool o.isSome
theorem outL_none (L : Nat) : outL (List.replicate L none) = List.replicate L (.int .u8 0) := by simp [outL]
theorem hasL_none (L : Nat) : hasL (List.replicate L none) = List.replicate L (.bool false) := by simp [hasL]
theorem outL_at {st : List (Option Int)} {i : Nat} {o : Option Int} (h : st[i]? = some o) : (outL st)[i]? = some (.int .u8 (o.getD 0)) ∧ (hasL st)[i]? = some (.bool o.isSome) := by
  unfold outL hasL
  rw [List.getElem?_map, List.getElem?_map, h]
  exact ⟨rfl, rfl⟩
theorem put_free {st : List (Option Int)} {i : Nat} (x : Int) (h : st[i]? = some none) : ∃ st', putB st i x = some st' ∧ (outL st).set i (.int .u8 x) = outL st' ∧ (hasL st).set i (.bool true) = hasL st' := by
  refine ⟨st.set i (some x), by unfold putB; rw [h], ?_, ?_⟩
  · unfold outL; rw [List.map_set]; rfl
  · unfold hasL; rw [List.map_set]; rfl
theorem put_same {st : List (Option Int)} {i : Nat} {x : Int} (h : st[i]? = some (some x)) : putB st i x = some st ∧ (outL st).set i (.int .u8 x) = outL st ∧ (hasL st).set i (.bool true) = hasL st := by
  refine ⟨by unfold putB; rw [h]; simp, set_same (outL_at h).1, set_same (outL_at h).2⟩
theorem put_bad {st : List (Option Int)} {i : Nat} {x y : Int} (h : st[i]? = some (some y)) (hne : y ≠ x) : putB st i x = none := by unfold putB; rw [h]; simp [hne]
/-- All bytes that are there are bytes. -/
def ByteO (st : List (Option Int)) : Prop := ∀ (i : Nat) (v : Int), st[i]? = some (some v) → 0 ≤ v ∧ v ≤ 255
theorem ByteO.none_ (L : Nat) : ByteO (List.replicate L none) := by
  intro i v h
  rw [List.getElem?_replicate] at h
  split at h <;> cases h
theorem ByteO.put {st st' : List (Option Int)} {i : Nat} {x : Int} (h : ByteO st) (hp : putB st i x = some st') (hx : 0 ≤ x ∧ x ≤ 255) : ByteO st' := by
  unfold putB at hp
  split at hp
  · split at hp
    · injection hp with hp; subst hp; exact h
    · cases hp
  · injection hp with hp
    subst hp
    intro j v hj
    rw [List.getElem?_set] at hj
    by_cases e : i = j
    · subst e
      rw [if_pos rfl] at hj
      split at hj
      · injection hj with hj; injection hj with hj; subst hj; exact hx
      · cases hj
    · rw [if_neg e] at hj; exact h j v hj
  · cases hp
theorem outL_ints (st : List (Option Int)) : outL st = (st.map fun o => o.getD 0).map (Value.int .u8) := by unfold outL; rw [List.map_map]; rfl
theorem ByteO.all (st : List (Option Int)) (h : ByteO st) : AllByte (st.map fun o => o.getD 0) := by
  intro z hz
  obtain ⟨o, ho, rfl⟩ := List.mem_map.1 hz
  obtain ⟨i, hi, rfl⟩ := List.getElem_of_mem ho
  cases hs : st[i] with
  | none => simp
  | some v => exact h i v (by rw [List.getElem?_eq_getElem hi, hs])
theorem all_some_step {st : List (Option Int)} {k : Nat} {x : Int} (h : (st.take k).all Option.isSome = true) (hx : st[k]? = some (some x)) : (st.take (k + 1)).all Option.isSome = true := all_take_succ h hx rfl
theorem all_some_bad {st : List (Option Int)} {k : Nat} (hx : st[k]? = some none) : st.all Option.isSome = false := by
  have hk : k < st.length := by
    rcases Nat.lt_or_ge k st.length with h | h
    · exact h
    · rw [List.getElem?_eq_none h] at hx; cases hx
  rw [List.getElem?_eq_getElem hk] at hx
  injection hx with hx
  exact all_false (List.getElem_mem hk) (by rw [hx]; rfl)
end Go.Proofs.Ytljbkppeoedcjaa
