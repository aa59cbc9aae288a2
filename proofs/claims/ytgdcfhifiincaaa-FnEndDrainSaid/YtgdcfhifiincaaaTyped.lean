/-
  A region that draws its order, walked once: each operation is shown by itself, from what its own operands are known to be; no function of the program.
-/
import Derived.Test.YtgdcfhifiincaaaBase
namespace Go.Proofs.Ytgdcfhifiincaaa
open Go.RowKit
set_option linter.unusedVariables false

/-- The destination of operation i. -/
def dstAt (ops : Array Oper) (i : Nat) : Option Tmp := (ops[i]?).bind (·.dst)
/-- Which operations must come before m (m itself marked), one pass downward. -/
def markGo (ops : Array Oper) : Nat → List Nat → List Nat
  | 0, ms => ms
  | i + 1, ms => markGo ops i (if ms.contains i then ((ops[i]?).map fun o => (o.after.toList.filter (Region.binds .any)).map (·.on)).getD [] ++ ms else ms)
/-- The closed test on a region: the first m operations have no guard, destinations of their own, and look at what their edges name; the others come behind them, one by one. -/
def tchk (ops : Array Oper) (m0 m N : Nat) : Bool :=
  decide (m0 ≤ m) && decide (m ≤ ops.size) &&
  (List.range m).all (fun i => decide (i < m0) || match ops[i]? with
    | none => false
    | some o => o.guard.isNone && (match o.dst with | none => true | some d => decide (d < N) && (List.range m).all (fun j => decide (j < m0) || i == j || dstAt ops j != some d))
      && o.op.operands.toList.all (fun x => match x with
        | .tmp t => (List.range m).all (fun j => decide (j < m0) || dstAt ops j != some t) || o.after.toList.any (fun e => Region.binds .any e && decide (m0 ≤ e.on) && decide (e.on < m) && dstAt ops e.on == some t)
        | _ => true)) &&
  (List.range ops.size).all (fun i => match ops[i]? with
    | none => false
    | some o => o.after.toList.all (fun e => !Region.binds .any e || decide (e.on < i))) &&
  (List.range ops.size).all (fun i => decide (i < m) || (List.range m).all (fun j => (markGo ops (i + 1) [i]).contains j))
/-- Behind operation m each one waits for the one before it. -/
def chain (ops : Array Oper) (m : Nat) : Bool :=
  (List.range ops.size).all (fun i => decide (i ≤ m) || (match ops[i]? with | none => false | some o => o.after.toList.any (fun e => Region.binds .any e && e.on == i - 1)))
/-- The first m operations are done, the others are not. -/
def Upto (ops : Array Oper) (m : Nat) (listed : Array Bool) : Prop := listed.size = ops.size ∧ ∀ i, i < ops.size → (listed.getD i false = true ↔ i < m)

/-- Values laid into the slots of a list. -/
def putL : List (Option Tmp) → (Nat → Value) → Act → Act
  | [], _, a => a
  | none :: r, vs, a => putL r vs a
  | some d :: r, vs, a => putL r vs (a.put (some d) (vs d))
theorem putL_defers (l : List (Option Tmp)) (vs : Nat → Value) : ∀ a, (putL l vs a).defers = a.defers := by
  induction l with
  | nil => intro a; rfl
  | cons x r ih =>
    intro a
    cases x with
    | none => exact ih a
    | some d => exact (ih _).trans rfl
theorem putL_size (l : List (Option Tmp)) (vs : Nat → Value) : ∀ a, (putL l vs a).tmps.size = a.tmps.size := by
  induction l with
  | nil => intro a; rfl
  | cons x r ih =>
    intro a
    cases x with
    | none => exact ih a
    | some d => exact (ih _).trans (by simp [Act.put])
theorem putL_get (l : List (Option Tmp)) (vs : Nat → Value) : ∀ (a : Act) (s : Nat), s < a.tmps.size → (putL l vs a).tmps[s]? = if some s ∈ l then some (vs s) else a.tmps[s]? := by
  induction l with
  | nil => intro a s hs; simp [putL]
  | cons x r ih =>
    intro a s hs
    cases x with
    | none =>
      rw [putL, ih a s hs]
      simp
    | some d =>
      rw [putL, ih _ s (by simpa [Act.put] using hs)]
      by_cases hr : some s ∈ r
      · simp [hr]
      · by_cases hd : d = s
        · subst hd
          simp [hr, Act.put, hs]
        · have hd' : ¬ s = d := fun e => hd e.symm
          simp [hr, hd', Act.put, Array.getElem?_setIfInBounds_ne hd]

section
variable {P : Program} {ops : Array Oper} {Q : Exit → Act → World → Prop}

/-- One operation, shown by itself. -/
def TStep (P : Program) (Q : Exit → Act → World → Prop) (TS : Nat → Value → World → Prop) (X : Nat → World → Prop) (G : Nat → World → Prop) (N i : Nat) (o : Oper) : Prop :=
  ∀ (b : Act) (w : World) (p : Nat), p < N → G p w → (∀ t, Operand.tmp t ∈ o.op.operands.toList → TS t (b.tmps.getD t undef) w) → ∀ K : Act → World → Prop,
    (∀ v w', G (p + 1) w' → (∀ s u, TS s u w → TS s u w') → (∀ j, j ≠ i → X j w → X j w') → (∀ d, o.dst = some d → TS d v w') → X i w' → K (b.put o.dst v) w') → o.wp P b w K Q

def TSteps (P : Program) (Q : Exit → Act → World → Prop) (TS : Nat → Value → World → Prop) (X : Nat → World → Prop) (G : Nat → World → Prop) (N : Nat) : Nat → List Oper → Prop
  | _, [] => True
  | i, o :: r => TStep P Q TS X G N i o ∧ TSteps P Q TS X G N (i + 1) r
theorem TSteps.at_ {TS : Nat → Value → World → Prop} {X : Nat → World → Prop} {G : Nat → World → Prop} {N : Nat} : ∀ (l : List Oper) (k i : Nat) (o : Oper), TSteps P Q TS X G N k l → l[i]? = some o → TStep P Q TS X G N (k + i) o
  | [], _, _, _, _, h => by simp at h
  | o :: r, k, 0, o', h, hh => by simp at hh; subst hh; exact h.1
  | o :: r, k, i + 1, o', h, hh => by
    have := TSteps.at_ r (k + 1) i o' h.2 (by simpa using hh)
    rwa [show k + 1 + i = k + (i + 1) from by omega] at this

theorem mark_sound (L : Nat → Prop) (m : Nat) (hcl : ∀ i o, (L i ∨ i = m) → ops[i]? = some o → ∀ e ∈ o.after, Region.binds .any e = true → L e.on) :
    ∀ (k : Nat) (ms : List Nat), (∀ j ∈ ms, L j ∨ j = m) → ∀ j ∈ markGo ops k ms, L j ∨ j = m := by
  intro k
  induction k with
  | zero => intro ms h; exact h
  | succ k ih =>
    intro ms h
    rw [markGo]
    refine ih _ ?_
    intro j hj
    split at hj
    · rename_i hc
      rcases List.mem_append.1 hj with hj | hj
      · cases ho : ops[k]? with
        | none => simp [ho] at hj
        | some o =>
          simp only [ho, Option.map_some, Option.getD_some, List.mem_map, List.mem_filter] at hj
          obtain ⟨e, ⟨he, hb⟩, rfl⟩ := hj
          exact .inl (hcl k o (h k (List.contains_iff_mem.1 hc)) ho e (Array.mem_toList_iff.1 he) hb)
      · exact h j hj
    · exact h j hj

/-- Behind the first k operations the order is forced. -/
theorem wpAny_forced (m : Nat) (hdep : ∀ i o, ops[i]? = some o → ∀ e ∈ o.after, Region.binds .any e = true → e.on < i)
    (hch : ∀ i o, m < i → ops[i]? = some o → ∃ e ∈ o.after, Region.binds .any e = true ∧ e.on = i - 1) :
    ∀ (fuel k : Nat) (listed : Array Bool) (b : Act) (w : World), m ≤ k → k ≤ ops.size → listed.size = ops.size → ops.size ≤ fuel + k → (∀ i, i < ops.size → (listed.getD i false = true ↔ i < k)) →
      wpList P ops Q (ops.toList.drop k) b w → wpAny P .any ops Q fuel listed b w := by
  intro fuel
  have ready_nil : ∀ (k : Nat) (listed : Array Bool), k = ops.size → listed.size = ops.size → (∀ i, i < ops.size → (listed.getD i false = true ↔ i < k)) → Region.ready .any ops listed = [] := by
    intro k listed hk hsz hl
    rw [List.eq_nil_iff_forall_not_mem]
    intro i hi
    obtain ⟨h0, o, ho, _⟩ := mem_ready.1 hi
    have hlt : i < ops.size := (Array.getElem?_eq_some_iff.1 ho).1
    have := (hl i hlt).2 (by omega)
    rw [Array.getD_eq_getD_getElem?, Array.getElem?_eq_getElem (by omega)] at h0 this
    simp at h0 this
    rw [h0] at this
    cases this
  induction fuel with
  | zero =>
    intro k listed b w hmk hk hsz hf hl h
    have hkk : k = ops.size := by omega
    refine ⟨ready_nil k listed hkk hsz hl, ?_⟩
    rw [List.drop_eq_nil_of_le (by simp; omega)] at h
    exact h
  | succ fuel ih =>
    intro k listed b w hmk hk hsz hf hl h
    rcases Nat.lt_or_ge k ops.size with hlt | hge
    · have hok : ops[k]? = some ops[k] := Array.getElem?_eq_getElem hlt
      have hunl : ∀ i, i < ops.size → k ≤ i → listed.getD i true = false := by
        intro i hi hki
        have h1 := (hl i hi)
        rw [Array.getD_eq_getD_getElem?, Array.getElem?_eq_getElem (by omega)] at h1 ⊢
        simp at h1 ⊢
        have : ¬ i < k := by omega
        simpa [this] using h1
      have hkr : k ∈ Region.ready .any ops listed := mem_ready.2 ⟨hunl k hlt (Nat.le_refl _), _, hok, fun e he hb => (hl e.on (by have := hdep k _ hok e he hb; omega)).2 (hdep k _ hok e he hb)⟩
      refine ⟨fun h0 => (by rw [h0] at hkr; cases hkr), ?_⟩
      intro i hi
      obtain ⟨h0, o, ho, hall⟩ := mem_ready.1 hi
      have hilt : i < ops.size := (Array.getElem?_eq_some_iff.1 ho).1
      have hik : i = k := by
        rcases Nat.lt_trichotomy i k with hx | hx | hx
        · have h1 := (hl i hilt).2 hx
          rw [Array.getD_eq_getD_getElem?, Array.getElem?_eq_getElem (by omega)] at h0 h1
          simp at h0 h1
          rw [h0] at h1
          cases h1
        · exact hx
        · obtain ⟨e, he, hb, heq⟩ := hch i o (by omega) ho
          have h1 := hall e he hb
          have h2 := (hl e.on (by omega)).1 h1
          omega
      subst hik
      rw [List.drop_eq_getElem_cons (by simpa using hlt)] at h
      have hoo : o = ops[i] := by rw [hok] at ho; exact (Option.some.inj ho).symm
      have hw : wpOp P ops Q i (wpList P ops Q (ops.toList.drop (i + 1))) b w := by
        unfold wpOp
        rw [hok]
        simpa [wpList] using h
      refine wpOp_mono (fun a w hh => ih (i + 1) _ a w (by omega) (by omega) (by simpa using hsz) (by omega) ?_ hh) hw
      intro j hj
      by_cases hji : i = j
      · subst hji
        simp [Array.getD_eq_getD_getElem?, hsz, hj]
      · rw [getD_set_ne false hji, hl j hj]
        omega
    · have hkk : k = ops.size := by omega
      rw [List.drop_eq_nil_of_le (by simp; omega)] at h
      exact wpAny_done (ready_nil k listed hkk hsz hl) h _

theorem chain_spec {ops : Array Oper} {m : Nat} (h : chain ops m = true) : ∀ i o, m < i → ops[i]? = some o → ∃ e ∈ o.after, Region.binds .any e = true ∧ e.on = i - 1 := by
  intro i o hi ho
  have hlt : i < ops.size := (Array.getElem?_eq_some_iff.1 ho).1
  have := List.all_eq_true.1 h i (List.mem_range.2 hlt)
  rw [ho] at this
  rcases Bool.or_eq_true_iff.1 this with hh | hh
  · simp at hh; omega
  · obtain ⟨e, he, hh⟩ := List.any_eq_true.1 hh
    simp only [Bool.and_eq_true] at hh
    exact ⟨e, Array.mem_toList_iff.1 he, hh.1, by simpa using hh.2⟩
theorem tchk_spec {ops : Array Oper} {m0 m N : Nat} (h : tchk ops m0 m N = true) :
    m0 ≤ m ∧ m ≤ ops.size ∧
    (∀ i, m0 ≤ i → i < m → ∀ o, ops[i]? = some o → o.guard = none ∧ (∀ d, o.dst = some d → d < N ∧ ∀ j, m0 ≤ j → j < m → j ≠ i → dstAt ops j ≠ some d) ∧
      (∀ t, Operand.tmp t ∈ o.op.operands.toList → (∀ j, m0 ≤ j → j < m → dstAt ops j ≠ some t) ∨ ∃ e ∈ o.after, Region.binds .any e = true ∧ m0 ≤ e.on ∧ e.on < m ∧ dstAt ops e.on = some t)) ∧
    (∀ i o, ops[i]? = some o → ∀ e ∈ o.after, Region.binds .any e = true → e.on < i) ∧
    (∀ i, m ≤ i → i < ops.size → ∀ j, j < m → j ∈ markGo ops (i + 1) [i]) := by
  unfold tchk at h
  simp only [Bool.and_eq_true, decide_eq_true_eq] at h
  obtain ⟨⟨⟨⟨h00, h0⟩, h1⟩, h2⟩, h3⟩ := h
  refine ⟨h00, h0, ?_, ?_, ?_⟩
  · intro i hi0 hi o ho
    have := List.all_eq_true.1 h1 i (List.mem_range.2 hi)
    rw [ho] at this
    rcases Bool.or_eq_true_iff.1 this with hh | this
    · simp at hh; omega
    simp only [Bool.and_eq_true] at this
    obtain ⟨⟨a1, a2⟩, a3⟩ := this
    refine ⟨by simpa using a1, ?_, ?_⟩
    · intro d hd
      rw [hd] at a2
      simp only [Bool.and_eq_true, decide_eq_true_eq] at a2
      refine ⟨a2.1, fun j hj0 hj hne => ?_⟩
      have := List.all_eq_true.1 a2.2 j (List.mem_range.2 hj)
      simp at this
      rcases this with (hh | hh) | hh
      · omega
      · exact absurd hh.symm hne
      · exact hh
    · intro t ht
      have := List.all_eq_true.1 a3 _ ht
      simp only [Bool.or_eq_true] at this
      rcases this with hh | hh
      · left
        intro j hj0 hj
        have := List.all_eq_true.1 hh j (List.mem_range.2 hj)
        simp at this
        rcases this with h' | h'
        · omega
        · exact h'
      · right
        obtain ⟨e, he, hh⟩ := List.any_eq_true.1 hh
        simp only [Bool.and_eq_true, decide_eq_true_eq] at hh
        exact ⟨e, Array.mem_toList_iff.1 he, hh.1.1.1, hh.1.1.2, hh.1.2, by simpa using hh.2⟩
  · intro i o ho e he hb
    have hlt : i < ops.size := (Array.getElem?_eq_some_iff.1 ho).1
    have := List.all_eq_true.1 h2 i (List.mem_range.2 hlt)
    rw [ho] at this
    have := List.all_eq_true.1 this e (Array.mem_toList_iff.2 he)
    simpa [hb] using this
  · intro i hmi hi j hj
    have := List.all_eq_true.1 h3 i (List.mem_range.2 hi)
    rcases Bool.or_eq_true_iff.1 this with hh | hh
    · simp at hh; omega
    · exact List.contains_iff_mem.1 (List.all_eq_true.1 hh j (List.mem_range.2 hj))

/-- What is known while some of the operations from m0 to m are done. -/
structure TInv (ops : Array Oper) (m0 m : Nat) (a : Act) (TS : Nat → Value → World → Prop) (X : Nat → World → Prop) (G : Nat → World → Prop) (listed : Array Bool) (b : Act) (w : World) (cnt : Nat) : Prop where
  sz : listed.size = ops.size
  tsz : b.tmps.size = a.tmps.size
  df : b.defers = a.defers
  g : G cnt w
  ct : listed.toList.countP (· = true) = cnt
  un : ∀ s, (∀ i, m0 ≤ i → i < m → listed.getD i false = true → dstAt ops i ≠ some s) → b.tmps[s]? = a.tmps[s]?
  ty : ∀ i d, m0 ≤ i → i < m → listed.getD i false = true → dstAt ops i = some d → TS d (b.tmps.getD d undef) w
  fr : ∀ t, (∀ i, m0 ≤ i → i < m → dstAt ops i ≠ some t) → TS t (b.tmps.getD t undef) w
  xs : ∀ i, m0 ≤ i → i < m → listed.getD i false = true → X i w
  pre : ∀ i, i < m0 → listed.getD i false = true
  tl : ∀ i, m ≤ i → listed.getD i false = false
  cl : ∀ i o, listed.getD i false = true → ops[i]? = some o → ∀ e ∈ o.after, Region.binds .any e = true → listed.getD e.on false = true

theorem act_eq {p q : Act} (h1 : p.tmps = q.tmps) (h2 : p.defers = q.defers) : p = q := by
  cases p
  cases q
  simp only at h1 h2
  rw [h1, h2]

theorem getD_of_unlisted {listed : Array Bool} {i : Nat} (h : listed.getD i true = false) : i < listed.size ∧ listed.getD i false = false := by
  rcases Nat.lt_or_ge i listed.size with hlt | hge
  · refine ⟨hlt, ?_⟩
    rw [Array.getD_eq_getD_getElem?, Array.getElem?_eq_getElem hlt] at h ⊢
    simpa using h
  · rw [Array.getD_eq_getD_getElem?, Array.getElem?_eq_none hge] at h
    cases h

theorem countP_upto : ∀ (l : List Bool) (m : Nat), m ≤ l.length → (∀ i (h : i < l.length), l[i] = true ↔ i < m) → l.countP (· = true) = m
  | [], m, h, _ => by simp at h; simp [h]
  | x :: r, m, h, hl => by
    rw [List.countP_cons]
    cases m with
    | zero =>
      have hx : x = false := by have := hl 0 (by simp); simpa using this
      rw [countP_upto r 0 (by omega) (fun i hi => by have := hl (i + 1) (by simpa using hi); simpa using this), hx]
      rfl
    | succ m =>
      have hx : x = true := by have := hl 0 (by simp); simpa using this
      rw [countP_upto r m (by simpa using h) (fun i hi => by have := hl (i + 1) (by simpa using hi); simpa using this), hx]
      rfl
theorem wpAny_typed {a : Act} {TS : Nat → Value → World → Prop} {X : Nat → World → Prop} {G : Nat → World → Prop} {m0 m : Nat} (chk : tchk ops m0 m a.tmps.size = true)
    (hG : ∀ p p' w, p ≤ p' → G p w → G p' w)
    (steps : ∀ i o, m0 ≤ i → i < m → ops[i]? = some o → TStep P Q TS X G ops.size i o)
    (done : ∀ fuel listed vs w', Upto ops m listed → ops.size = fuel + m → G ops.size w' → (∀ i d, m0 ≤ i → i < m → dstAt ops i = some d → TS d (vs d) w') → (∀ t, (∀ i, m0 ≤ i → i < m → dstAt ops i ≠ some t) → TS t (a.tmps.getD t undef) w') → (∀ i, m0 ≤ i → i < m → X i w') → wpAny P .any ops Q fuel listed (putL ((List.range' m0 (m - m0)).map (dstAt ops)) vs a) w') :
    ∀ (fuel : Nat) (listed : Array Bool) (b : Act) (w : World) (cnt : Nat), cnt + fuel = ops.size → TInv ops m0 m a TS X G listed b w cnt → wpAny P .any ops Q fuel listed b w := by
  obtain ⟨c00, c0, c1, c2, c3⟩ := tchk_spec chk
  intro fuel
  -- all of the first m are done
  have fin : ∀ (fuel : Nat) (listed : Array Bool) (b : Act) (w : World) (cnt : Nat), cnt + fuel = ops.size → TInv ops m0 m a TS X G listed b w cnt → (∀ j, j < m → listed.getD j false = true) → wpAny P .any ops Q fuel listed b w := by
    intro fuel listed b w cnt hf I hall
    have hb : b = putL ((List.range' m0 (m - m0)).map (dstAt ops)) (fun s => b.tmps.getD s undef) a := by
      have hs : b.tmps = (putL ((List.range' m0 (m - m0)).map (dstAt ops)) (fun s => b.tmps.getD s undef) a).tmps := by
        apply Array.ext_getElem?
        intro s
        rcases Nat.lt_or_ge s a.tmps.size with hlt | hge
        · rw [putL_get _ _ _ _ hlt]
          split
          · rw [Array.getD_eq_getD_getElem?, Array.getElem?_eq_getElem (by rw [I.tsz]; exact hlt)]
            rfl
          · rename_i hn
            refine I.un s fun i hi0 hi _ he => hn ?_
            exact List.mem_map.2 ⟨i, List.mem_range'_1.2 ⟨hi0, by omega⟩, he⟩
        · rw [Array.getElem?_eq_none (by rw [I.tsz]; exact hge), Array.getElem?_eq_none (by rw [putL_size]; exact hge)]
      have hd := putL_defers ((List.range' m0 (m - m0)).map (dstAt ops)) (fun s => b.tmps.getD s undef) a
      have hd' := I.df
      exact act_eq hs (hd'.trans hd.symm)
    have hcm2 : cnt = m := by
      rw [← I.ct]
      refine countP_upto _ _ (by rw [Array.length_toList, I.sz]; exact c0) (fun i hi => ?_)
      have hi' : i < listed.size := by simpa using hi
      constructor
      · intro h
        rcases Nat.lt_or_ge i m with h' | h'
        · exact h'
        · have := I.tl i h'
          rw [Array.getD_eq_getD_getElem?, Array.getElem?_eq_getElem hi'] at this
          simp at this h
          rw [h] at this
          cases this
      · intro h
        have := hall i h
        rw [Array.getD_eq_getD_getElem?, Array.getElem?_eq_getElem hi'] at this
        simpa using this
    rw [hb]
    refine done fuel listed _ w ⟨I.sz, ?_⟩ (by omega) (hG _ _ _ (by omega) I.g) (fun i d hi0 hi hd => I.ty i d hi0 hi (hall i hi) hd) ?_ (fun i hi0 hi => I.xs i hi0 hi (hall i hi))
    · intro i hi
      constructor
      · intro h
        rcases Nat.lt_or_ge i m with h' | h'
        · exact h'
        · rw [I.tl i h'] at h; cases h
      · exact hall i
    · intro t ht
      have h1 := I.fr t ht
      have h2 := I.un t (fun i hi0 hi _ => ht i hi0 hi)
      rw [Array.getD_eq_getD_getElem?, h2, ← Array.getD_eq_getD_getElem?] at h1
      exact h1
  have hdec : ∀ listed : Array Bool, (∀ j, j < m → listed.getD j false = true) ∨ ∃ j, j < m ∧ listed.getD j false = false := by
    intro listed
    by_cases h : ∀ j, j < m → listed.getD j false = true
    · exact .inl h
    · right
      simp only [Classical.not_forall] at h
      obtain ⟨j, hj, h⟩ := h
      exact ⟨j, hj, by simpa using h⟩
  induction fuel with
  | zero =>
    intro listed b w cnt hf I
    rcases hdec listed with hall | ⟨j, hj, hjf⟩
    · exact fin 0 listed b w cnt hf I hall
    · exfalso
      have h1 : listed.toList.countP (· = true) = listed.toList.length := by rw [I.ct, Array.length_toList, I.sz]; omega
      have h2 := List.countP_eq_length.1 h1
      have hjl : j < listed.size := by rw [I.sz]; omega
      have h3 := h2 listed[j] (Array.mem_toList_iff.2 (Array.getElem_mem hjl))
      rw [Array.getD_eq_getD_getElem?, Array.getElem?_eq_getElem hjl] at hjf
      simp at hjf h3
      rw [h3] at hjf
      cases hjf
  | succ fuel ih =>
    intro listed b w cnt hf I
    rcases hdec listed with hall | ⟨j, hj, hjf⟩
    · exact fin (fuel + 1) listed b w cnt hf I hall
    · refine ⟨?_, ?_⟩
      · intro h0
        exfalso
        -- the least that is not done is ready
        have hex : ∃ j, j < m ∧ listed.getD j false = false ∧ ∀ k, k < j → listed.getD k false = true := by
          clear h0
          induction j using Nat.strongRecOn with
          | _ j IH =>
            by_cases hk : ∃ k, k < j ∧ listed.getD k false = false
            · obtain ⟨k, hk1, hk2⟩ := hk
              exact IH k hk1 (by omega) hk2
            · refine ⟨j, hj, hjf, fun k hk1 => ?_⟩
              cases hv : listed.getD k false with
              | true => rfl
              | false => exact absurd ⟨k, hk1, hv⟩ hk
        obtain ⟨j, hj, hjf, hmin⟩ := hex
        have hjs : j < ops.size := by omega
        have hr : j ∈ Region.ready .any ops listed := by
          refine mem_ready.2 ⟨?_, ops[j], Array.getElem?_eq_getElem hjs, fun e he hb => hmin _ (c2 j _ (Array.getElem?_eq_getElem hjs) e he hb)⟩
          rw [Array.getD_eq_getD_getElem?, Array.getElem?_eq_getElem (by rw [I.sz]; exact hjs)] at hjf ⊢
          simpa using hjf
        rw [h0] at hr
        cases hr
      · intro i hi
        obtain ⟨hu, o, ho, hdeps⟩ := mem_ready.1 hi
        have hilt : i < ops.size := (Array.getElem?_eq_some_iff.1 ho).1
        obtain ⟨hisz, hif⟩ := getD_of_unlisted hu
        rcases Nat.lt_or_ge i m with him | him
        · have him0 : m0 ≤ i := by
            rcases Nat.lt_or_ge i m0 with h' | h'
            · rw [I.pre i h'] at hif; cases hif
            · exact h'
          obtain ⟨g1, g2, g3⟩ := c1 i him0 him o ho
          unfold wpOp
          rw [ho]
          have hwant : Region.wanted o (yielded ops b.tmps) = true := by simp [Region.wanted, g1]
          simp only [hwant, if_true]
          refine .inl (steps i o him0 him ho b w cnt (by omega) I.g ?_ _ ?_)
          · intro t ht
            rcases g3 t ht with hh | ⟨e, he, hb, hem0, hem, hed⟩
            · exact I.fr t hh
            · exact I.ty e.on t hem0 hem (hdeps e he hb) hed
          · intro v w' hg hts hxs hd hx
            have hset : ∀ j, j ≠ i → (listed.setIfInBounds i true).getD j false = listed.getD j false := fun j hne => getD_set_ne false (Ne.symm hne)
            have hself : (listed.setIfInBounds i true).getD i false = true := by simp [Array.getD_eq_getD_getElem?, hisz]
            refine ih _ _ _ (cnt + 1) (by omega) ⟨by simpa using I.sz, ?_, ?_, hg, ?_, ?_, ?_, ?_, ?_, ?_, ?_, ?_⟩
            · rw [← I.tsz]; unfold Act.put; split <;> simp
            · rw [← I.df]; unfold Act.put; split <;> rfl
            · have hl : i < listed.toList.length := by simpa using hisz
              rw [Array.toList_setIfInBounds, List.countP_set hl]
              have hf' : listed.toList[i] = false := by
                rw [Array.getD_eq_getD_getElem?, Array.getElem?_eq_getElem hisz] at hif
                simpa using hif
              rw [hf', I.ct]
              simp
            · intro s hs
              have hne : ∀ d, o.dst = some d → d ≠ s := fun d hd' e => hs i him0 him hself (by unfold dstAt; rw [ho]; simp [hd', e])
              have : (b.put o.dst v).tmps[s]? = b.tmps[s]? := by
                unfold Act.put
                split
                · rename_i d hd'
                  exact Array.getElem?_setIfInBounds_ne (hne d hd')
                · rfl
              rw [this]
              refine I.un s fun j hj0 hj hjl => ?_
              by_cases hji : j = i
              · subst hji; rw [hif] at hjl; cases hjl
              · exact hs j hj0 hj (by rw [hset j hji]; exact hjl)
            · intro j d hj0 hj hjl hjd
              by_cases hji : j = i
              · subst hji
                have hod : o.dst = some d := by unfold dstAt at hjd; rw [ho] at hjd; simpa using hjd
                have hdN := (g2 d hod).1
                have : (b.put o.dst v).tmps.getD d undef = v := by
                  rw [hod]
                  simp [Act.put, Array.getD_eq_getD_getElem?, I.tsz, hdN]
                rw [this]
                exact hd d hod
              · rw [hset j hji] at hjl
                have h1 := hts d _ (I.ty j d hj0 hj hjl hjd)
                have : (b.put o.dst v).tmps.getD d undef = b.tmps.getD d undef := by
                  unfold Act.put
                  split
                  · rename_i d' hd'
                    have hne : d' ≠ d := by
                      rintro rfl
                      exact (g2 d' hd').2 j hj0 hj hji hjd
                    simp [Array.getD_eq_getD_getElem?, Array.getElem?_setIfInBounds_ne hne]
                  · rfl
                rw [this]
                exact h1
            · intro t ht
              have h1 := hts t _ (I.fr t ht)
              have : (b.put o.dst v).tmps.getD t undef = b.tmps.getD t undef := by
                unfold Act.put
                split
                · rename_i d' hd'
                  have hne : d' ≠ t := by
                    rintro rfl
                    exact ht i him0 him (by unfold dstAt; rw [ho]; simpa using hd')
                  simp [Array.getD_eq_getD_getElem?, Array.getElem?_setIfInBounds_ne hne]
                · rfl
              rw [this]
              exact h1
            · intro j hj0 hj hjl
              by_cases hji : j = i
              · subst hji; exact hx
              · rw [hset j hji] at hjl
                exact hxs j hji (I.xs j hj0 hj hjl)
            · intro j hj
              rw [hset j (by omega)]
              exact I.pre j hj
            · intro j hj
              rw [hset j (by omega)]
              exact I.tl j hj
            · intro j o' hjl ho' e he hb
              by_cases hji : j = i
              · subst hji
                rw [ho] at ho'
                cases ho'
                exact getD_set_true (hdeps e he hb)
              · rw [hset j hji] at hjl
                exact getD_set_true (I.cl j o' hjl ho' e he hb)
        · exfalso
          have hmem := c3 i him hilt j hj
          have := mark_sound (ops := ops) (fun k => listed.getD k false = true) i (fun k o' hk ho' e he hb => by
            rcases hk with hk | rfl
            · exact I.cl k o' hk ho' e he hb
            · rw [ho] at ho'
              cases ho'
              exact hdeps e he hb) (i + 1) [i] (by simp) j hmem
          rcases this with hh | hh
          · rw [hjf] at hh; cases hh
          · omega

theorem wpAny_of_upto {m : Nat} (hdep : ∀ i o, ops[i]? = some o → ∀ e ∈ o.after, Region.binds .any e = true → e.on < i) (hc : chain ops m = true) (hm : m ≤ ops.size) {fuel : Nat} {listed : Array Bool} {b : Act} {w : World} (hu : Upto ops m listed) (hf : ops.size ≤ fuel + m)
    (h : wpList P ops Q (ops.toList.drop m) b w) : wpAny P .any ops Q fuel listed b w :=
  wpAny_forced m hdep (chain_spec hc) fuel m listed b w (Nat.le_refl _) hm hu.1 hf hu.2 h

/-- THE LAW: a region that draws its order, its first m operations shown one by one, the others in the text's order. -/
theorem wp_region_typed {id : Nat} {a : Act} {W : World} (hm : P.follows .mixedOrders = true) (TS : Nat → Value → World → Prop) (X : Nat → World → Prop) (G : Nat → World → Prop) (m N : Nat) (hN : ops.size = N) (ds : List (Option Tmp)) (chk : tchk ops 0 m a.tmps.size = true) (hch : chain ops m = true) (hds : (List.range' 0 (m - 0)).map (dstAt ops) = ds)
    (hG : ∀ p p' w, p ≤ p' → G p w → G p' w) (h0 : G 0 W.drew) (hfr : ∀ t, (∀ i, 0 ≤ i → i < m → dstAt ops i ≠ some t) → TS t (a.tmps.getD t undef) W.drew)
    (steps : TSteps P Q TS X G N 0 (ops.toList.take m))
    (done : ∀ vs w', G N w' → (∀ i d, 0 ≤ i → i < m → dstAt ops i = some d → TS d (vs d) w') → (∀ t, (∀ i, 0 ≤ i → i < m → dstAt ops i ≠ some t) → TS t (a.tmps.getD t undef) w') → (∀ i, 0 ≤ i → i < m → X i w') → wpList P ops Q (ops.toList.drop m) (putL ds vs a) w') :
    (Code.region id ops true).wp P Q a W := by
  subst hds hN
  obtain ⟨_, c0, _, c2, _⟩ := tchk_spec chk
  refine wp_region_any hm ?_
  refine wpAny_typed (TS := TS) (X := X) chk hG ?_ (fun fuel listed vs w' hu hf h1 h2 h3 h4 => wpAny_of_upto c2 hch c0 hu (by omega) (done vs w' h1 h2 h3 h4)) ops.size _ a _ 0 (by omega) ⟨by simp, rfl, rfl, h0, ?_, fun s _ => rfl, ?_, hfr, ?_, fun i hi => by omega, ?_, ?_⟩
  · intro i o _ hi ho
    have := TSteps.at_ (ops.toList.take m) 0 i o steps (by rw [List.getElem?_take, if_pos hi]; simpa using ho)
    simpa using this
  · rw [List.countP_eq_zero]
    intro x hx
    simp at hx
    simp [hx.2]
  · intro i d _ hi h
    rw [Array.getD_eq_getD_getElem?, Array.getElem?_replicate] at h
    split at h <;> simp at h
  · intro i _ hi h
    rw [Array.getD_eq_getD_getElem?, Array.getElem?_replicate] at h
    split at h <;> simp at h
  · intro i hi
    rw [Array.getD_eq_getD_getElem?, Array.getElem?_replicate]
    split <;> rfl
  · intro i o h
    rw [Array.getD_eq_getD_getElem?, Array.getElem?_replicate] at h
    split at h <;> simp at h

/-- THE SECOND LAW: the operations behind m0, shown one by one in their turn (what is known may be other than before); all of them. -/
theorem wpAny_typed_rest {a : Act} (TS : Nat → Value → World → Prop) (X : Nat → World → Prop) (G : Nat → World → Prop) (m0 N : Nat) (hN : ops.size = N) (ds : List (Option Tmp)) (chk : tchk ops m0 ops.size a.tmps.size = true) (hds : (List.range' m0 (ops.size - m0)).map (dstAt ops) = ds) {fuel : Nat} {listed : Array Bool} {w : World} (hu : Upto ops m0 listed) (hf : ops.size = fuel + m0)
    (hG : ∀ p p' w, p ≤ p' → G p w → G p' w) (h0 : G m0 w) (hfr : ∀ t, (∀ i, m0 ≤ i → i < ops.size → dstAt ops i ≠ some t) → TS t (a.tmps.getD t undef) w)
    (steps : TSteps P Q TS X G N m0 (ops.toList.drop m0))
    (done : ∀ vs w', G N w' → (∀ i d, m0 ≤ i → i < N → dstAt ops i = some d → TS d (vs d) w') → (∀ t, (∀ i, m0 ≤ i → i < N → dstAt ops i ≠ some t) → TS t (a.tmps.getD t undef) w') → (∀ i, m0 ≤ i → i < N → X i w') → Q .normal (putL ds vs a) w') :
    wpAny P .any ops Q fuel listed a w := by
  subst hds hN
  obtain ⟨c00, c0, c1, c2, _⟩ := tchk_spec chk
  refine wpAny_typed (TS := TS) (X := X) chk hG ?_ (fun fuel listed vs w' hu hf h1 h2 h3 h4 => ?_) fuel listed a w m0 (by omega) ⟨hu.1, rfl, rfl, h0, ?_, fun s _ => rfl, ?_, hfr, ?_, ?_, ?_, ?_⟩
  · intro i o hi0 hi ho
    have := TSteps.at_ (ops.toList.drop m0) m0 (i - m0) o steps (by rw [List.getElem?_drop, show m0 + (i - m0) = i from by omega]; simpa using ho)
    rwa [show m0 + (i - m0) = i from by omega] at this
  · have hr : Region.ready .any ops listed = [] := by
      rw [List.eq_nil_iff_forall_not_mem]
      intro i hi
      obtain ⟨hx, o, ho, _⟩ := mem_ready.1 hi
      have hlt : i < ops.size := (Array.getElem?_eq_some_iff.1 ho).1
      have h5 := (getD_of_unlisted hx).2
      have h6 := (hu.2 i hlt).2 hlt
      rw [h5] at h6
      cases h6
    exact wpAny_done hr (done vs w' h1 h2 h3 h4) fuel
  · refine countP_upto _ _ (by rw [Array.length_toList, hu.1]; omega) (fun i hi => ?_)
    have hi' : i < listed.size := by simpa using hi
    have := hu.2 i (by rw [← hu.1]; exact hi')
    rw [Array.getD_eq_getD_getElem?, Array.getElem?_eq_getElem hi'] at this
    simpa using this
  · intro i d hi0 hi h
    have := (hu.2 i hi).1 h
    omega
  · intro i hi0 hi h
    have := (hu.2 i hi).1 h
    omega
  · intro i hi
    exact (hu.2 i (by omega)).2 hi
  · intro i hi
    rw [Array.getD_eq_getD_getElem?, Array.getElem?_eq_none (by rw [hu.1]; exact hi)]
    rfl
  · intro i o h ho e he hb
    have hlt : i < ops.size := (Array.getElem?_eq_some_iff.1 ho).1
    have h1 := (hu.2 i hlt).1 h
    have h2 := c2 i o ho e he hb
    exact (hu.2 e.on (by omega)).2 (by omega)

/-- Both laws, one behind the other: the first m operations, then the others, whose order may be open too. -/
theorem wp_region_typed2 {id : Nat} {a : Act} {W : World} (hm : P.follows .mixedOrders = true) (TS : Nat → Value → World → Prop) (X : Nat → World → Prop) (G : Nat → World → Prop) (m N : Nat) (hN : ops.size = N) (ds : List (Option Tmp)) (chk : tchk ops 0 m a.tmps.size = true) (hds : (List.range' 0 (m - 0)).map (dstAt ops) = ds)
    (hG : ∀ p p' w, p ≤ p' → G p w → G p' w) (h0 : G 0 W.drew) (hfr : ∀ t, (∀ i, 0 ≤ i → i < m → dstAt ops i ≠ some t) → TS t (a.tmps.getD t undef) W.drew)
    (steps : TSteps P Q TS X G N 0 (ops.toList.take m))
    (done : ∀ fuel listed vs w', Upto ops m listed → ops.size = fuel + m → G N w' → (∀ i d, 0 ≤ i → i < m → dstAt ops i = some d → TS d (vs d) w') → wpAny P .any ops Q fuel listed (putL ds vs a) w') :
    (Code.region id ops true).wp P Q a W := by
  subst hds hN
  refine wp_region_any hm ?_
  refine wpAny_typed (TS := TS) (X := X) chk hG ?_ (fun fuel listed vs w' hu hf h1 h2 h3 h4 => ?_) ops.size _ a _ 0 (by omega) ⟨by simp, rfl, rfl, h0, ?_, fun s _ => rfl, ?_, hfr, ?_, fun i hi => by omega, ?_, ?_⟩
  · intro i o _ hi ho
    have := TSteps.at_ (ops.toList.take m) 0 i o steps (by rw [List.getElem?_take, if_pos hi]; simpa using ho)
    simpa using this
  · exact done fuel listed vs w' hu hf h1 h2
  · rw [List.countP_eq_zero]
    intro x hx
    simp at hx
    simp [hx.2]
  · intro i d _ hi h
    rw [Array.getD_eq_getD_getElem?, Array.getElem?_replicate] at h
    split at h <;> simp at h
  · intro i _ hi h
    rw [Array.getD_eq_getD_getElem?, Array.getElem?_replicate] at h
    split at h <;> simp at h
  · intro i hi
    rw [Array.getD_eq_getD_getElem?, Array.getElem?_replicate]
    split <;> rfl
  · intro i o h
    rw [Array.getD_eq_getD_getElem?, Array.getElem?_replicate] at h
    split at h <;> simp at h
end
end Go.Proofs.Ytgdcfhifiincaaa
