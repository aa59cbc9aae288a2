/-
  The plain laws of draining: what is drained is HostDrain and has no flow; an ended drain leaves every host with a flow as it was.
-/
import Derived.Test.YtgdcfhifiincaaaEndL
import Derived.Test.YtgdcfhifiincaaaPlace
namespace Go.Proofs.Ytgdcfhifiincaaa
set_option linter.unusedVariables false

/-- The state of a host of a valid pool. -/
theorem stH_at {hs : List H3} (hv : poolV hs = true) {k : Nat} (hk : k < hs.length) : stH hs (hAt hs k).1 = (hAt hs k).2.2 := by
  rcases atH_cases hs (hAt hs k).1 with ⟨_, hn⟩ | ⟨j, hj, e, hj1, _⟩
  · exact absurd rfl (hn k hk)
  · unfold stH
    rw [if_pos ⟨hv, by omega⟩, e, Int.toNat_natCast, num_inj hv (hAt_mem hj) (hAt_mem hk) hj1]
theorem stH_none {hs : List H3} {x : Int} (h : ∀ j, j < hs.length → (hAt hs j).1 ≠ x) : stH hs x = 0 := by
  rcases atH_cases hs x with ⟨e, _⟩ | ⟨j, hj, e, hj1, _⟩
  · unfold stH; rw [e, if_neg (by omega)]
  · exact absurd hj1 (h j hj)
/-- Each drained host is HostDrain and has no flows. -/
theorem drL_at {hs : List H3} {sz st : Int} {es : List En7} {k : Nat} (hk : k < (drL hs sz st es).length) : stH hs ((drL hs sz st es)[k]?.getD 0) = 2 ∧ flOn sz st es ((drL hs sz st es)[k]?.getD 0) = 0 := by
  by_cases hg : poolV hs = true ∧ tabV sz st es = true
  · have e : drL hs sz st es = drN es hs := by unfold drL; rw [if_pos hg]
    rw [e] at hk ⊢
    rw [List.getElem?_eq_getElem hk]
    obtain ⟨j, hj, ej, hf⟩ := drN_mem (es := es) (hs := hs) (x := (drN es hs)[k]) (List.getElem_mem hk)
    show stH hs (drN es hs)[k] = 2 ∧ flOn sz st es (drN es hs)[k] = 0
    rw [← ej]
    unfold drF at hf
    simp only [Bool.and_eq_true, beq_iff_eq] at hf
    refine ⟨by rw [stH_at hg.1 hj]; exact hf.1, ?_⟩
    unfold flOn
    rw [if_pos hg.2, hf.2]
    rfl
  · have e : drL hs sz st es = [] := by unfold drL; rw [if_neg hg]
    rw [e] at hk
    simp at hk
theorem drL_bad {hs : List H3} {sz st : Int} {es : List En7} (h : ¬ (poolV hs = true ∧ tabV sz st es = true)) : (drL hs sz st es).length = 0 := by unfold drL; rw [if_neg h]; rfl
theorem drL_lt {hs : List H3} {sz st : Int} {es : List En7} : (drL hs sz st es).length ≤ hs.length := by
  unfold drL
  split
  · have := drN_le es hs hs.length
    rwa [List.take_length] at this
  · simp
theorem tab_nil {sz st : Int} {es : List En7} (h : tabV sz st es = true) : tabV sz st [] = true := by
  have h2 := tab_facts h
  unfold tabV at h ⊢
  simp only [Bool.and_eq_true, decide_eq_true_eq] at h ⊢
  exact ⟨⟨h.1.1, by simp; omega⟩, by simp⟩
/-- How many hosts drain. -/
def cnt2 (hs : List H3) : Nat := hs.countP fun h => h.2.2 == 2
theorem cnt2_snoc {hs : List H3} {k : Nat} (hk : k < hs.length) : cnt2 (hs.take (k + 1)) = cnt2 (hs.take k) + if (hAt hs k).2.2 = 2 then 1 else 0 := by
  rw [List.take_succ_eq_append_getElem hk, ← hAt_eq hk]
  unfold cnt2
  rw [List.countP_append]
  by_cases h : (hAt hs k).2.2 = 2 <;> simp [h]
theorem cnt2_le (hs : List H3) (k : Nat) : cnt2 (hs.take k) ≤ k := Nat.le_trans List.countP_le_length (List.length_take_le _ _)
theorem drL_all {hs : List H3} {sz st : Int} {es : List En7} (hv : poolV hs = true) (ht : tabV sz st es = true) : (drL hs sz st []).length = cnt2 hs := by
  unfold drL drN cnt2
  rw [if_pos ⟨hv, tab_nil ht⟩, List.length_map, List.countP_eq_length_filter]
  congr 1
  apply List.filter_congr
  intro x _
  unfold drF flowsOn
  simp

/-! ### the ended drain -/
theorem poolFrom_down (ds : List Int) : ∀ (hs : List H3) (p : Int), poolFrom p hs = true → poolFrom p (downL ds hs) = true := by
  intro hs
  induction hs with
  | nil => intro p h; exact h
  | cons h r ih =>
    intro p hp
    unfold downL
    rw [List.map_cons]
    have hf : (if h.1 ∈ ds then (h.1, h.2.1, 0) else h).1 = h.1 := by split <;> rfl
    unfold poolFrom at hp ⊢
    rw [Bool.and_eq_true] at hp ⊢
    refine ⟨?_, by rw [hf]; exact ih _ hp.2⟩
    have h1 := hp.1
    split
    · unfold hostOk at h1 ⊢
      simp only [Bool.and_eq_true, inB_iff] at h1 ⊢
      simp_all
    · exact h1
theorem poolV_down {ds : List Int} {hs : List H3} (hv : poolV hs = true) : poolV (downL ds hs) = true := by
  unfold poolV at hv ⊢
  rw [Bool.and_eq_true] at hv ⊢
  exact ⟨poolFrom_down ds hs _ hv.1, by rw [downL_len]; exact hv.2⟩
theorem downL_at {ds : List Int} {hs : List H3} {k : Nat} (hk : k < hs.length) : hAt (downL ds hs) k = if (hAt hs k).1 ∈ ds then ((hAt hs k).1, (hAt hs k).2.1, 0) else hAt hs k := by
  rw [hAt_eq (by rw [downL_len]; exact hk), hAt_eq hk]
  unfold downL
  rw [List.getElem_map]
theorem stH_down {ds : List Int} {hs : List H3} {x : Int} (hv : poolV hs = true) (hx : x ∉ ds) : stH (downL ds hs) x = stH hs x := by
  rcases atH_cases hs x with ⟨_, hn⟩ | ⟨j, hj, e, hj1, _⟩
  · rw [stH_none hn, stH_none (hs := downL ds hs)]
    intro j hj
    rw [downL_len] at hj
    have := hn j hj
    rw [downL_at hj]
    split
    · exact this
    · exact this
  · have e1 := stH_at hv hj
    rw [hj1] at e1
    have e2 := stH_at (poolV_down (ds := ds) hv) (k := j) (by rw [downL_len]; exact hj)
    rw [downL_at hj, if_neg (by rw [hj1]; exact hx), hj1] at e2
    rw [e1, e2]
/-- The host of an entry is not drained. -/
theorem ent_not {hs : List H3} {es : List En7} {k : Nat} (hk : k < es.length) : (enAt es k).t ∉ drN es hs := by
  intro h
  obtain ⟨j, _, ej, hf⟩ := drN_mem h
  unfold drF at hf
  simp only [Bool.and_eq_true, beq_iff_eq] at hf
  rw [ej] at hf
  have h0 := hf.2
  unfold flowsOn at h0
  rw [List.countP_eq_zero] at h0
  exact h0 _ (enAt_mem hk) (by simp)
theorem endL_ok {hs : List H3} {sz st : Int} {es : List En7} (hv : poolV hs = true) (ht : tabV sz st es = true) : endL hs sz st es = downL (drN es hs) hs := by unfold endL; rw [if_pos ⟨hv, ht⟩]
theorem endL_bad {hs : List H3} {sz st : Int} {es : List En7} (h : ¬ (poolV hs = true ∧ tabV sz st es = true)) : (endL hs sz st es).length = 0 := by unfold endL; rw [if_neg h]; rfl
theorem end_law {hs : List H3} {sz st : Int} {es : List En7} (hv : poolV hs = true) (ht : tabV sz st es = true) : poolV (endL hs sz st es) = true ∧ (endL hs sz st es).length = hs.length ∧ (drL (endL hs sz st es) sz st es).length = 0 ∧ ∀ k, k < es.length → stH (endL hs sz st es) (enAt es k).t = stH hs (enAt es k).t := by
  rw [endL_ok hv ht]
  refine ⟨poolV_down hv, downL_len _ _, ?_, fun k hk => stH_down hv (ent_not hk)⟩
  unfold drL
  rw [if_pos ⟨poolV_down hv, ht⟩]
  unfold drN
  rw [List.length_map, List.length_eq_zero_iff, List.filter_eq_nil_iff]
  intro x hx hf
  unfold downL at hx
  obtain ⟨y, hy, rfl⟩ := List.mem_map.1 hx
  by_cases hd : y.1 ∈ (hs.filter (drF es)).map (·.1)
  · rw [if_pos hd] at hf
    unfold drF at hf
    simp at hf
  · rw [if_neg hd] at hf
    exact hd (List.mem_map.2 ⟨y, List.mem_filter.2 ⟨hy, hf⟩, rfl⟩)
theorem plF_same (es : List En7) (a b c d k t l t' l' : Int) : plF es ⟨a, b, c, d, k, t, l⟩ = plF es ⟨a, b, c, d, k, t', l'⟩ := rfl
/-- An entry's flow is found at its own place. -/
theorem plF_own {sz st : Int} {es : List En7} (ht : tabV sz st es = true) {k : Nat} (hk : k < es.length) : plF es (enAt es k) = (k : Int) := by
  have hr := EnRel.of_tab ht
  refine plF_found hk (fun j hj => ?_) (sameF_refl _)
  have ho := hr k hk
  unfold enOk at ho
  simp only [Bool.and_eq_true, Bool.not_eq_true'] at ho
  have hs := ho.1.1.1.2
  unfold seenF at hs
  rw [List.any_eq_false] at hs
  have hj' : j < es.length := by omega
  have := hs (es[j]) (List.mem_iff_getElem.2 ⟨j, by rw [List.length_take]; omega, by rw [List.getElem_take]⟩)
  rw [enAt_eq hj']
  simpa using this
theorem ent_ok {sz st : Int} {es : List En7} (ht : tabV sz st es = true) {k : Nat} (hk : k < es.length) : enF (enAt es k) = true ∧ 0 ≤ (enAt es k).t ∧ (enAt es k).t ≤ 30 := by
  have ho := EnRel.of_tab ht k hk
  unfold enOk at ho
  simp only [Bool.and_eq_true, inB_iff] at ho
  exact ⟨ho.1.1.1.1, ho.1.1.2⟩
end Go.Proofs.Ytgdcfhifiincaaa
