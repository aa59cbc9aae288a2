/-
  The plain law of slot tables: in rounds every host takes the next slot in its order that is free.
-/
import Derived.Test.YtfobcggcilbgbaaSlotO
namespace Go.Proofs.Ytfobcggcilbgbaa
set_option linter.unusedVariables false

def sltAt (T : List Int) (s : Int) : Int := T[s.toNat]?.getD 0
def freeB (T : List Int) (s : Int) : Bool := decide (sltAt T s < 0)
def take1 (n : Int) (T : List Int) : List Int := match (slotO n).find? (freeB T) with
  | some s => T.set s.toNat n
  | none => T
def takeN (n : Int) : Nat → List Int → List Int
  | 0, T => T
  | w + 1, T => take1 n (takeN n w T)
def tkHost (T : List Int) (h : H3) : List Int := takeN h.1 h.2.1.toNat T
def round1 (us : List H3) (T : List Int) : List Int := us.foldl tkHost T
def rounds (us : List H3) : Nat → List Int → List Int
  | 0, T => T
  | r + 1, T => round1 us (rounds us r T)
def freeN (T : List Int) : Nat := T.countP (fun z => decide (z < 0))
def T0 : List Int := List.replicate 31 (-1)
/-- A table under way: 31 slots. -/
def TabOk (T : List Int) : Prop := T.length = 31

theorem slotO_at (n : Int) {k : Nat} (h : k < 31) : (slotO n)[k]? = some (slotK n k) := by unfold slotO; simp [List.getElem?_range h]
theorem slotO_mem {n s : Int} (h : s ∈ slotO n) : ∃ k, k < 31 ∧ s = slotK n k := by
  unfold slotO at h
  simp at h
  obtain ⟨k, hk, rfl⟩ := h
  exact ⟨k, hk, rfl⟩
theorem cover_nat : ∀ s, s < 31 → 0 < s → ∀ d, d < 31 → ∃ k, k < 31 ∧ k * s % 31 = d := by decide +kernel
/-- Every slot stands in the order of every host. -/
theorem cover (n : Int) (h0 : 0 ≤ mixL [n, 1]) (h2 : 0 ≤ mixL [n, 2]) (s : Nat) (hs : s < 31) : ∃ k, k < 31 ∧ slotK n k = (s : Int) := by
  obtain ⟨a, ha⟩ : ∃ a : Nat, mixL [n, 1] = a := ⟨_, (Int.toNat_of_nonneg h0).symm⟩
  obtain ⟨b, hb⟩ : ∃ b : Nat, mixL [n, 2] = b := ⟨_, (Int.toNat_of_nonneg h2).symm⟩
  obtain ⟨k, hk, he⟩ := cover_nat (1 + b % 30) (by omega) (by omega) ((s + 31 - a % 31) % 31) (by omega)
  refine ⟨k, hk, ?_⟩
  unfold slotK
  rw [ha, hb]
  have e : (k : Int) * (1 + (b : Int) % 30) = ((k * (1 + b % 30) : Nat) : Int) := by push_cast; rfl
  rw [e]
  obtain ⟨m, hm⟩ : ∃ m, k * (1 + b % 30) = m := ⟨_, rfl⟩
  rw [hm] at he ⊢
  omega
theorem take1_len (n : Int) (T : List Int) : (take1 n T).length = T.length := by
  unfold take1
  split <;> simp
theorem takeN_len (n : Int) (w : Nat) (T : List Int) : (takeN n w T).length = T.length := by
  induction w with
  | zero => rfl
  | succ w ih => rw [takeN, take1_len, ih]
theorem round1_len (us : List H3) (T : List Int) : (round1 us T).length = T.length := by
  unfold round1
  induction us generalizing T with
  | nil => rfl
  | cons h r ih => rw [List.foldl_cons, ih]; exact takeN_len _ _ _
theorem rounds_len (us : List H3) (r : Nat) (T : List Int) : (rounds us r T).length = T.length := by
  induction r with
  | zero => rfl
  | succ r ih => rw [rounds, round1_len, ih]
theorem free_none {T : List Int} (h : freeN T = 0) (s : Int) : freeB T s = false := by
  unfold freeN at h
  rw [List.countP_eq_zero] at h
  unfold freeB sltAt
  by_cases hs : s.toNat < T.length
  · rw [List.getElem?_eq_getElem hs]
    have := h _ (List.getElem_mem hs)
    simpa using this
  · rw [List.getElem?_eq_none (by omega)]
    simp
theorem freeN_le {T : List Int} (hT : TabOk T) : freeN T ≤ 31 := by
  have := List.countP_le_length (p := fun z : Int => decide (z < 0)) (l := T)
  unfold TabOk at hT
  unfold freeN
  omega
theorem take1_full {n : Int} {T : List Int} (h : freeN T = 0) : take1 n T = T := by
  unfold take1
  have : (slotO n).find? (freeB T) = none := by
    rw [List.find?_eq_none]
    intro x _
    rw [free_none h]
    simp
  rw [this]
theorem free_some {T : List Int} (hT : TabOk T) (h : 0 < freeN T) : ∃ s : Nat, s < 31 ∧ freeB T (s : Int) = true := by
  unfold freeN at h
  rw [List.countP_pos_iff] at h
  obtain ⟨x, hx, hx0⟩ := h
  obtain ⟨s, hs, rfl⟩ := List.mem_iff_getElem.1 hx
  refine ⟨s, by unfold TabOk at hT; omega, ?_⟩
  unfold freeB sltAt
  rw [Int.toNat_natCast, List.getElem?_eq_getElem hs]
  simpa using hx0
/-- Where the first free slot of an order stands. -/
theorem find_at {n : Int} {T : List Int} {p : Nat} (hp : p < 31) (hj : ∀ j, j < p → freeB T (slotK n j) = false) (h : freeB T (slotK n p) = true) : (slotO n).find? (freeB T) = some (slotK n p) := by
  rw [List.find?_eq_some_iff_getElem]
  refine ⟨h, p, by rw [slotO_len]; exact hp, ?_, fun j hjp => ?_⟩
  · have := slotO_at n hp
    rw [List.getElem?_eq_getElem (by rw [slotO_len]; exact hp)] at this
    injection this
  · have h1 := slotO_at n (show j < 31 by omega)
    rw [List.getElem?_eq_getElem (by rw [slotO_len]; omega)] at h1
    injection h1 with h1
    rw [h1, hj j hjp]
    rfl
theorem place_lt {n : Int} {T : List Int} {p : Nat} (h1 : 0 ≤ mixL [n, 1]) (h2 : 0 ≤ mixL [n, 2]) (hT : TabOk T) (hf : 0 < freeN T) (hj : ∀ j, j < p → j < 31 → freeB T (slotK n j) = false) : p < 31 := by
  obtain ⟨s, hs, hfs⟩ := free_some hT hf
  obtain ⟨k, hk, he⟩ := cover n h1 h2 s hs
  rcases Nat.lt_or_ge p 31 with h | h
  · exact h
  · have := hj k (by omega) hk
    rw [he, hfs] at this
    cases this
theorem all_taken {n : Int} {T : List Int} (h1 : 0 ≤ mixL [n, 1]) (h2 : 0 ≤ mixL [n, 2]) (hT : TabOk T) (hj : ∀ j, j < 31 → freeB T (slotK n j) = false) : freeN T = 0 := by
  rcases Nat.eq_zero_or_pos (freeN T) with h | h
  · exact h
  · have := place_lt (p := 31) h1 h2 hT h (fun j hj' _ => hj j hj')
    omega
theorem countP_set {T : List Int} {k : Nat} (hk : k < T.length) (h : T[k] < 0) {n : Int} (hn : 0 ≤ n) : freeN (T.set k n) + 1 = freeN T := by
  unfold freeN
  induction T generalizing k with
  | nil => simp at hk
  | cons x r ih =>
    cases k with
    | zero =>
      have hx : x < 0 := h
      rw [List.set_cons_zero, List.countP_cons_of_neg (by simp; omega), List.countP_cons_of_pos (by simpa using hx)]
    | succ k =>
      have := ih (k := k) (by simpa using hk) (by simpa using h)
      rw [List.set_cons_succ]
      by_cases hx : x < 0
      · rw [List.countP_cons_of_pos (by simpa using hx), List.countP_cons_of_pos (by simpa using hx)]; omega
      · rw [List.countP_cons_of_neg (by simpa using hx), List.countP_cons_of_neg (by simpa using hx)]; omega
/-- A host takes the slot at place p of its order. -/
theorem take1_at {n : Int} {T : List Int} {p : Nat} (hT : TabOk T) (hn : 0 ≤ n) (hp : p < 31) (hj : ∀ j, j < p → freeB T (slotK n j) = false) (h : freeB T (slotK n p) = true) : take1 n T = T.set (slotK n p).toNat n ∧ freeN (take1 n T) + 1 = freeN T := by
  have e : take1 n T = T.set (slotK n p).toNat n := by
    unfold take1
    rw [find_at hp hj h]
  refine ⟨e, ?_⟩
  rw [e]
  have hb := slotK_bd n p
  have hl : (slotK n p).toNat < T.length := by unfold TabOk at hT; omega
  refine countP_set hl ?_ hn
  unfold freeB sltAt at h
  rw [List.getElem?_eq_getElem hl] at h
  simpa using h
/-- What is taken stays taken. -/
theorem set_taken {n : Int} {T : List Int} {k : Nat} {s : Int} (hn : 0 ≤ n) (h : freeB T s = false) : freeB (T.set k n) s = false := by
  unfold freeB sltAt at *
  rw [List.getElem?_set]
  by_cases e : k = s.toNat
  · subst e
    rw [if_pos rfl]
    by_cases hl : s.toNat < T.length
    · rw [if_pos hl]; simp; omega
    · rw [if_neg hl]; simp
  · rw [if_neg e]; exact h
theorem set_takes {n : Int} {T : List Int} {s : Int} (hn : 0 ≤ n) : freeB (T.set s.toNat n) s = false := by
  unfold freeB sltAt
  rw [List.getElem?_set, if_pos rfl]
  by_cases hl : s.toNat < T.length
  · rw [if_pos hl]; simp; omega
  · rw [if_neg hl]; simp
theorem take1_taken {n : Int} {T : List Int} {s : Int} (hn : 0 ≤ n) (h : freeB T s = false) : freeB (take1 n T) s = false := by
  unfold take1
  split
  · exact set_taken hn h
  · exact h
theorem take1_le (n : Int) (hn : 0 ≤ n) {T : List Int} : freeN (take1 n T) ≤ freeN T := by
  unfold take1
  split
  · rename_i s hs
    have hf := List.find?_some hs
    unfold freeB sltAt at hf
    by_cases hl : s.toNat < T.length
    · rw [List.getElem?_eq_getElem hl] at hf
      have := countP_set hl (by simpa using hf) hn
      omega
    · rw [List.set_eq_of_length_le (by omega)]; exact Nat.le_refl _
  · exact Nat.le_refl _
theorem takeN_le (n : Int) (hn : 0 ≤ n) (w : Nat) (T : List Int) : freeN (takeN n w T) ≤ freeN T := by
  induction w with
  | zero => exact Nat.le_refl _
  | succ w ih => exact Nat.le_trans (take1_le n hn) ih
theorem takeN_full {n : Int} {T : List Int} (w : Nat) (h : freeN T = 0) : takeN n w T = T := by
  induction w with
  | zero => rfl
  | succ w ih => rw [takeN, ih, take1_full h]
/-- Behind a full table the rest of a host's takes changes nothing. -/
theorem takeN_rest {n : Int} {T : List Int} {s w : Nat} (hs : s ≤ w) (h : freeN (takeN n s T) = 0) : takeN n w T = takeN n s T := by
  induction w with
  | zero => obtain rfl : s = 0 := by omega
            rfl
  | succ w ih =>
    rcases Nat.lt_or_ge s (w + 1) with h1 | h1
    · rw [takeN, ih (by omega), take1_full h]
    · obtain rfl : s = w + 1 := by omega
      rfl
theorem foldl_full {us : List H3} {T : List Int} (h : freeN T = 0) : us.foldl tkHost T = T := by
  induction us with
  | nil => rfl
  | cons x r ih => rw [List.foldl_cons, show tkHost T x = T from takeN_full _ h, ih]
theorem foldl_le (us : List H3) (hu : ∀ x ∈ us, 0 ≤ x.1) (T : List Int) : freeN (us.foldl tkHost T) ≤ freeN T := by
  induction us generalizing T with
  | nil => exact Nat.le_refl _
  | cons x r ih => rw [List.foldl_cons]; exact Nat.le_trans (ih (fun y hy => hu y (by simp [hy])) _) (takeN_le _ (hu x (by simp)) _ _)
theorem round1_full {us : List H3} {T : List Int} (h : freeN T = 0) : round1 us T = T := foldl_full h
/-- A host in order. -/
def HostOk1 (x : H3) : Prop := 0 ≤ x.1 ∧ x.1 ≤ 30 ∧ 1 ≤ x.2.1 ∧ x.2.1 ≤ 5
theorem host_mix {x : H3} (h : HostOk1 x) : 0 ≤ mixL [x.1, 1] ∧ 0 ≤ mixL [x.1, 2] :=
  ⟨mix2_pos _ _ (keyV_of (by unfold HostOk1 at h; omega)) (keyV_of (by omega)), mix2_pos _ _ (keyV_of (by unfold HostOk1 at h; omega)) (keyV_of (by omega))⟩
theorem take1_lt {x : H3} {T : List Int} (hT : TabOk T) (hx : HostOk1 x) (h : 0 < freeN T) : freeN (take1 x.1 T) < freeN T := by
  obtain ⟨m1, m2⟩ := host_mix hx
  obtain ⟨s, hs, hfs⟩ := free_some hT h
  obtain ⟨k, hk, he⟩ := cover x.1 m1 m2 s hs
  cases hf : (slotO x.1).find? (freeB T) with
  | none =>
    rw [List.find?_eq_none] at hf
    have hm : slotK x.1 k ∈ slotO x.1 := List.mem_of_getElem? (slotO_at x.1 hk)
    have := hf _ hm
    rw [he, hfs] at this
    simp at this
  | some z =>
    have hz := List.find?_some hf
    have hzm := List.mem_of_find?_eq_some hf
    obtain ⟨j, hj, rfl⟩ := slotO_mem hzm
    have hb := slotK_bd x.1 j
    have hl : (slotK x.1 j).toNat < T.length := by unfold TabOk at hT; omega
    have e : take1 x.1 T = T.set (slotK x.1 j).toNat x.1 := by unfold take1; rw [hf]
    rw [e]
    unfold freeB sltAt at hz
    rw [List.getElem?_eq_getElem hl] at hz
    have := countP_set hl (by simpa using hz) (n := x.1) hx.1
    omega
theorem tkHost_lt {x : H3} {T : List Int} (hT : TabOk T) (hx : HostOk1 x) (h : 0 < freeN T) : freeN (tkHost T x) < freeN T := by
  unfold tkHost
  obtain ⟨w, hw⟩ : ∃ w, x.2.1.toNat = w + 1 := ⟨x.2.1.toNat - 1, by unfold HostOk1 at hx; omega⟩
  rw [hw]
  have e : ∀ w, takeN x.1 (w + 1) T = takeN x.1 w (take1 x.1 T) := by
    intro w
    induction w with
    | zero => rfl
    | succ w ih => rw [takeN, ih, takeN]
  rw [e]
  exact Nat.lt_of_le_of_lt (takeN_le _ hx.1 _ _) (take1_lt hT hx h)
theorem round1_lt {us : List H3} {T : List Int} (hT : TabOk T) (hu : ∀ x ∈ us, HostOk1 x) (hn : us ≠ []) (h : 0 < freeN T) : freeN (round1 us T) < freeN T := by
  cases us with
  | nil => exact absurd rfl hn
  | cons x r =>
    unfold round1
    rw [List.foldl_cons]
    exact Nat.lt_of_le_of_lt (foldl_le r (fun y hy => (hu y (by simp [hy])).1) _) (tkHost_lt hT (hu x (by simp)) h)
theorem freeN_T0 : freeN T0 = 31 := by decide
theorem tab_T0 : TabOk T0 := by unfold TabOk T0; simp
theorem rounds_ok (us : List H3) (r : Nat) : TabOk (rounds us r T0) := (rounds_len us r T0).trans tab_T0
theorem rounds_free {us : List H3} (hu : ∀ x ∈ us, HostOk1 x) (hn : us ≠ []) : ∀ r, freeN (rounds us r T0) + r ≤ 31 ∨ freeN (rounds us r T0) = 0 := by
  intro r
  induction r with
  | zero => left; show freeN T0 + 0 ≤ 31; rw [freeN_T0]; omega
  | succ r ih =>
    rcases Nat.eq_zero_or_pos (freeN (rounds us r T0)) with h | h
    · right; rw [rounds, round1_full h]; exact h
    · have := round1_lt (rounds_ok us r) hu hn h
      rw [rounds]
      left
      omega
theorem rounds_stop {us : List H3} {a : Nat} (h : freeN (rounds us a T0) = 0) : ∀ d, rounds us (a + d) T0 = rounds us a T0 := by
  intro d
  induction d with
  | zero => rfl
  | succ d ih => rw [← Nat.add_assoc, rounds, ih, round1_full h]
/-- The table of slots. -/
def slotT (us : List H3) : List Int := rounds us 31 T0
theorem slotT_is {us : List H3} (hu : ∀ x ∈ us, HostOk1 x) (hn : us ≠ []) {r : Nat} (h : freeN (rounds us r T0) = 0) : rounds us r T0 = slotT us := by
  have h31 : freeN (rounds us 31 T0) = 0 := by rcases rounds_free hu hn 31 with h' | h' <;> omega
  unfold slotT
  rcases Nat.le_total r 31 with hr | hr
  · obtain ⟨d, hd⟩ : ∃ d, 31 = r + d := ⟨31 - r, by omega⟩
    rw [hd, rounds_stop h]
  · obtain ⟨d, hd⟩ : ∃ d, r = 31 + d := ⟨r - 31, by omega⟩
    rw [hd, rounds_stop h31]
theorem slotT_len (us : List H3) : (slotT us).length = 31 := rounds_ok us 31
/-- The numbers in a table are those of the hosts. -/
theorem take1_mem {n : Int} {T : List Int} {z : Int} (h : z ∈ take1 n T) : z ∈ T ∨ z = n := by
  unfold take1 at h
  split at h
  · exact List.mem_or_eq_of_mem_set h
  · exact .inl h
theorem takeN_mem {n : Int} {w : Nat} {T : List Int} {z : Int} (h : z ∈ takeN n w T) : z ∈ T ∨ z = n := by
  induction w with
  | zero => exact .inl h
  | succ w ih =>
    rcases take1_mem h with h | h
    · exact ih h
    · exact .inr h
theorem foldl_mem {us : List H3} : ∀ {T : List Int} {z : Int}, z ∈ us.foldl tkHost T → z ∈ T ∨ ∃ x ∈ us, z = x.1 := by
  induction us with
  | nil => intro T z h; exact .inl h
  | cons x r ih =>
    intro T z h
    rw [List.foldl_cons] at h
    rcases ih h with h | ⟨y, hy, rfl⟩
    · rcases takeN_mem h with h | h
      · exact .inl h
      · exact .inr ⟨x, by simp, h⟩
    · exact .inr ⟨y, by simp [hy], rfl⟩
theorem rounds_mem {us : List H3} {r : Nat} {z : Int} (h : z ∈ rounds us r T0) : z = -1 ∨ ∃ x ∈ us, z = x.1 := by
  induction r with
  | zero => left; exact List.eq_of_mem_replicate h
  | succ r ih =>
    rcases foldl_mem h with h | h
    · exact ih h
    · exact .inr h
theorem slotT_mem {us : List H3} (hu : ∀ x ∈ us, HostOk1 x) (hn : us ≠ []) {z : Int} (h : z ∈ slotT us) : ∃ x ∈ us, z = x.1 := by
  rcases rounds_mem h with h1 | h1
  · exfalso
    have h31 : freeN (slotT us) = 0 := by rcases rounds_free hu hn 31 with h' | h' <;> (unfold slotT; omega)
    unfold freeN at h31
    rw [List.countP_eq_zero] at h31
    have := h31 z h
    simp at this
    omega
  · exact h1
end Go.Proofs.Ytfobcggcilbgbaa
