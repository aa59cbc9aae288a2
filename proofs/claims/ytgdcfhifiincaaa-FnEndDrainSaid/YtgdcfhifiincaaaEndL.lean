/-
  Plain words for EndDrain: pools whose hosts are set down, one by one or all at once.
-/
import Derived.Test.YtgdcfhifiincaaaHostAt0
import Derived.Test.YtgdcfhifiincaaaDrnI
import Derived.Test.YtgdcfhifiincaaaRingL
namespace Go.Proofs.Ytgdcfhifiincaaa
open Go.RowKit
set_option linter.unusedVariables false

theorem poolFrom_mem : ∀ (hs : List H3) (p : Int), poolFrom p hs = true → ∀ h ∈ hs, (0 ≤ h.1 ∧ h.1 ≤ 30) ∧ (1 ≤ h.2.1 ∧ h.2.1 ≤ 5) ∧ (0 ≤ h.2.2 ∧ h.2.2 ≤ 2) := by
  intro hs
  induction hs with
  | nil => intro p _ h hm; cases hm
  | cons x r ih =>
    intro p h y hy
    unfold poolFrom at h
    simp only [Bool.and_eq_true] at h
    rcases List.mem_cons.1 hy with rfl | hy
    · have := h.1
      unfold hostOk at this
      simp only [Bool.and_eq_true, inB_iff, decide_eq_true_eq] at this
      exact ⟨this.1.1.1, this.1.2, this.2⟩
    · exact ih _ h.2 y hy
theorem pool_mem {hs : List H3} (h : poolV hs = true) : ∀ x ∈ hs, (0 ≤ x.1 ∧ x.1 ≤ 30) ∧ (1 ≤ x.2.1 ∧ x.2.1 ≤ 5) ∧ (0 ≤ x.2.2 ∧ x.2.2 ≤ 2) := by
  unfold poolV at h
  simp only [Bool.and_eq_true] at h
  exact poolFrom_mem hs _ h.1
theorem pool_len {hs : List H3} (h : poolV hs = true) : hs.length ≤ 6 := by
  unfold poolV at h
  simp only [Bool.and_eq_true, decide_eq_true_eq] at h
  exact h.2
theorem hAt_mem {hs : List H3} {k : Nat} (h : k < hs.length) : hAt hs k ∈ hs := by rw [hAt_eq h]; exact List.getElem_mem h
theorem poolFrom_lt : ∀ (hs : List H3) (p : Int), poolFrom p hs = true → (hs.Pairwise fun a b => a.1 < b.1) ∧ ∀ x ∈ hs, p < x.1 := by
  intro hs
  induction hs with
  | nil => intro p _; exact ⟨List.Pairwise.nil, fun x h => by cases h⟩
  | cons x r ih =>
    intro p h
    unfold poolFrom at h
    simp only [Bool.and_eq_true] at h
    obtain ⟨h1, h2⟩ := ih _ h.2
    have hx : p < x.1 := by
      have := h.1
      unfold hostOk at this
      simp only [Bool.and_eq_true, decide_eq_true_eq] at this
      exact this.1.1.2
    refine ⟨List.pairwise_cons.2 ⟨h2, h1⟩, fun y hy => ?_⟩
    rcases List.mem_cons.1 hy with rfl | hy
    · exact hx
    · have := h2 y hy; omega
theorem pool_asc' {hs : List H3} (h : poolV hs = true) : hs.Pairwise fun a b => a.1 < b.1 := by
  unfold poolV at h
  simp only [Bool.and_eq_true] at h
  exact (poolFrom_lt hs _ h.1).1
theorem num_inj {hs : List H3} (hv : poolV hs = true) {x y : H3} (hx : x ∈ hs) (hy : y ∈ hs) (e : x.1 = y.1) : x = y := by
  have ha := List.pairwise_iff_getElem.1 (pool_asc' hv)
  obtain ⟨i, hi, rfl⟩ := List.mem_iff_getElem.1 hx
  obtain ⟨j, hj, rfl⟩ := List.mem_iff_getElem.1 hy
  rcases Nat.lt_trichotomy i j with h | h | h
  · have := ha i j hi hj h; omega
  · subst h; rfl
  · have := ha j i hj hi h; omega
theorem poolFrom_set (x s : Int) (h0 : 0 ≤ s) (h2 : s ≤ 2) : ∀ (hs : List H3) (p : Int), poolFrom p hs = true → poolFrom p (setSt hs x s) = true := by
  intro hs
  induction hs with
  | nil => intro p h; exact h
  | cons h r ih =>
    intro p hp
    unfold setSt
    rw [List.map_cons]
    have hf : (if h.1 = x then (h.1, h.2.1, s) else h).1 = h.1 := by split <;> rfl
    unfold poolFrom at hp ⊢
    rw [Bool.and_eq_true] at hp ⊢
    refine ⟨?_, by rw [hf]; exact ih _ hp.2⟩
    have h1 := hp.1
    split
    · unfold hostOk at h1 ⊢
      simp only [Bool.and_eq_true, inB_iff] at h1 ⊢
      simp_all
    · exact h1
theorem poolV_set {hs : List H3} (x s : Int) (h0 : 0 ≤ s) (h2 : s ≤ 2) (hv : poolV hs = true) : poolV (setSt hs x s) = true := by
  unfold poolV at hv ⊢
  rw [Bool.and_eq_true] at hv ⊢
  exact ⟨poolFrom_set x s h0 h2 hs _ hv.1, by unfold setSt; rw [List.length_map]; exact hv.2⟩
theorem hostsV_set2 (hs : List H3) : ∀ (k : Nat) (y : Int), k < hs.length → (hostsV hs).set (k * 3 + 2) (.int .i64 y) = hostsV (hs.set k ((hAt hs k).1, (hAt hs k).2.1, y)) := by
  induction hs with
  | nil => intro k y h; simp at h
  | cons h r ih =>
    intro k y hk
    cases k with
    | zero => simp [hostsV, hostC, hAt]
    | succ k =>
      have e0 : (k + 1) * 3 + 2 = k * 3 + 2 + 1 + 1 + 1 := by omega
      rw [e0]
      have := ih k y (by simpa using hk)
      have e : hAt (h :: r) (k + 1) = hAt r k := by simp [hAt]
      simp only [List.set_cons_succ, hostsV, hostC, List.cons_append, List.nil_append, e]
      rw [← this]
theorem hosts_ones (hs : List H3) : ∀ u ∈ hostsV hs, u.oneCell' = true := by
  induction hs with
  | nil => intro u h; simp [hostsV] at h
  | cons x r ih =>
    intro u h
    simp [hostsV, hostC] at h
    rcases h with rfl | rfl | rfl | h
    · rfl
    · rfl
    · rfl
    · exact ih u h
theorem setSt_at {hs : List H3} (hv : poolV hs = true) {k : Nat} (hk : k < hs.length) {x s : Int} (hx : (hAt hs k).1 = x) : setSt hs x s = hs.set k ((hAt hs k).1, (hAt hs k).2.1, s) := by
  have e0 : setSt hs x s = hs.map fun h => if h.1 = x then (h.1, h.2.1, s) else h := rfl
  rw [e0]
  apply List.ext_getElem
  · simp
  · intro j h1 h2
    have hj : j < hs.length := by simpa using h1
    rw [List.getElem_set, List.getElem_map]
    by_cases e : k = j
    · subst e
      rw [if_pos rfl, if_pos (by rw [← hAt_eq hj]; exact hx), hAt_eq hj]
    · rw [if_neg e, if_neg]
      intro h
      have ha := List.pairwise_iff_getElem.1 (pool_asc' hv)
      rw [hAt_eq hk] at hx
      rcases Nat.lt_or_gt_of_ne e with h' | h'
      · have := ha k j hk hj h'; omega
      · have := ha j k hj hk h'; omega

/-- The hosts whose numbers are in a list are down. -/
def downL (ds : List Int) (hs : List H3) : List H3 := hs.map fun h => if h.1 ∈ ds then (h.1, h.2.1, 0) else h
def downS (ds : List Int) (hs : List H3) : List H3 := ds.foldl (fun o x => setSt o x 0) hs
theorem downL_len (ds : List Int) (hs : List H3) : (downL ds hs).length = hs.length := by unfold downL; rw [List.length_map]
theorem downS_is : ∀ (ds : List Int) (hs : List H3), downS ds hs = downL ds hs := by
  intro ds
  induction ds with
  | nil => intro hs; simp [downS, downL]
  | cons d r ih =>
    intro hs
    show downS r (setSt hs d 0) = downL (d :: r) hs
    rw [ih]
    unfold downL setSt
    rw [List.map_map]
    apply List.map_congr_left
    intro h _
    simp only [Function.comp, List.mem_cons]
    by_cases e : h.1 = d
    · simp [e]
    · simp [e]
theorem downS_snoc {ds : List Int} {k : Nat} (hk : k < ds.length) (hs : List H3) : downS (ds.take (k + 1)) hs = setSt (downS (ds.take k) hs) (ds[k]?.getD 0) 0 := by
  rw [take_succ_getD ds k hk]
  unfold downS
  rw [List.foldl_append]
  rfl
theorem downS_pool {hs : List H3} (hv : poolV hs = true) : ∀ ds : List Int, poolV (downS ds hs) = true := by
  intro ds
  induction ds generalizing hs with
  | nil => exact hv
  | cons d r ih => exact ih (poolV_set d 0 (by omega) (by omega) hv)
theorem downS_len (ds : List Int) (hs : List H3) : (downS ds hs).length = hs.length := by rw [downS_is, downL_len]
theorem downS_num (ds : List Int) (hs : List H3) {k : Nat} (hk : k < hs.length) : (hAt (downS ds hs) k).1 = (hAt hs k).1 := by
  rw [downS_is, hAt_eq (by rw [downL_len]; exact hk), hAt_eq hk]
  unfold downL
  rw [List.getElem_map]
  split <;> rfl
/-- What EndDrain answers. -/
def endL (hs : List H3) (sz st : Int) (es : List En7) : List H3 := if poolV hs = true ∧ tabV sz st es = true then downL (drN es hs) hs else []
theorem endL_len (hs : List H3) (sz st : Int) (es : List En7) : (endL hs sz st es).length ≤ hs.length := by
  unfold endL; split
  · rw [downL_len]; exact Nat.le_refl _
  · simp
theorem drN_mem {es : List En7} {hs : List H3} {x : Int} (h : x ∈ drN es hs) : ∃ k, k < hs.length ∧ (hAt hs k).1 = x ∧ drF es (hAt hs k) = true := by
  unfold drN at h
  obtain ⟨y, hy, rfl⟩ := List.mem_map.1 h
  obtain ⟨h1, h2⟩ := List.mem_filter.1 hy
  obtain ⟨k, hk, rfl⟩ := List.mem_iff_getElem.1 h1
  exact ⟨k, hk, by rw [hAt_eq hk], by rw [hAt_eq hk]; exact h2⟩
/-- The first k hosts are as they shall be, the others as they were. -/
def downK (ds : List Int) (hs : List H3) (k : Nat) : List H3 := downL ds (hs.take k) ++ hs.drop k
theorem downK_zero (ds : List Int) (hs : List H3) : downK ds hs 0 = hs := by simp [downK, downL]
theorem downK_full {ds : List Int} {hs : List H3} {n : Nat} (h : hs.length = n) : downK ds hs n = downL ds hs := by subst h; simp [downK]
theorem downK_len (ds : List Int) (hs : List H3) (k : Nat) : (downK ds hs k).length = hs.length := by
  unfold downK; rw [List.length_append, downL_len, List.length_take, List.length_drop]; omega
theorem downK_at {ds : List Int} {hs : List H3} {k : Nat} (hk : k < hs.length) : hAt (downK ds hs k) k = hAt hs k := by
  have hl : (downL ds (hs.take k)).length = k := by rw [downL_len, List.length_take]; omega
  unfold hAt downK
  rw [List.getElem?_append_right (by omega), hl, List.getElem?_drop]
  simp
theorem downK_drop {ds : List Int} {hs : List H3} {k : Nat} (hk : k < hs.length) : downK ds hs k = downL ds (hs.take k) ++ hAt hs k :: hs.drop (k + 1) := by
  unfold downK
  rw [List.drop_eq_getElem_cons hk, hAt_eq hk]
theorem downK_snoc (ds : List Int) (hs : List H3) {k : Nat} (hk : k < hs.length) : downK ds hs (k + 1) = downL ds (hs.take k) ++ (if (hAt hs k).1 ∈ ds then ((hAt hs k).1, (hAt hs k).2.1, 0) else hAt hs k) :: hs.drop (k + 1) := by
  unfold downK
  rw [List.take_succ_eq_append_getElem hk, ← hAt_eq hk]
  unfold downL
  rw [List.map_append, List.append_assoc]
  rfl
theorem downK_no {ds : List Int} {hs : List H3} {k : Nat} (hk : k < hs.length) (h : (hAt hs k).1 ∉ ds) : downK ds hs (k + 1) = downK ds hs k := by
  rw [downK_snoc ds hs hk, downK_drop hk, if_neg h]
theorem downK_yes {ds : List Int} {hs : List H3} {k : Nat} (hk : k < hs.length) (h : (hAt hs k).1 ∈ ds) : hostsV (downK ds hs (k + 1)) = (hostsV (downK ds hs k)).set (k * 3 + 2) (.int .i64 0) := by
  rw [hostsV_set2 _ k 0 (by rw [downK_len]; exact hk), downK_at hk, downK_snoc ds hs hk, if_pos h]
  congr 1
  conv => rhs; rw [downK_drop hk]
  have hl : (downL ds (hs.take k)).length = k := by rw [downL_len, List.length_take]; omega
  rw [List.set_append_right _ _ (by omega), hl, Nat.sub_self, List.set_cons_zero]
end Go.Proofs.Ytgdcfhifiincaaa
