/-
  The plain law of the ways to choose a host: what is chosen is up; what a state that changes does to the choice.
-/
import Derived.Test.YtfobcggcilbgbaaHostAt
import Derived.Test.YtfobcggcilbgbaaHostBy
namespace Go.Proofs.Ytfobcggcilbgbaa
set_option linter.unusedVariables false

theorem best_mem0 : ∀ (l : List (Int × Int)) (s : Int × Int), l.foldl best1 s = s ∨ l.foldl best1 s ∈ l := by
  intro l
  induction l with
  | nil => intro s; exact .inl rfl
  | cons x r ih =>
    intro s
    rw [List.foldl_cons]
    have hb : best1 s x = x ∨ best1 s x = s := by unfold best1; split <;> simp
    rcases ih (best1 s x) with h | h
    · rcases hb with e | e
      · right; rw [h, e]; simp
      · left; rw [h, e]
    · right; exact List.mem_cons_of_mem _ h
theorem best_mem {l : List (Int × Int)} (h : ∀ x ∈ l, 0 ≤ x.2) (hn : l ≠ []) : bestT l ∈ l := by
  cases l with
  | nil => exact absurd rfl hn
  | cons x r =>
    unfold bestT
    rw [List.foldl_cons]
    have hx := h x (by simp)
    have e : best1 (-1, -1) x = x := by unfold best1; simp only; rw [if_pos (by omega)]
    rw [e]
    rcases best_mem0 r x with h | h
    · rw [h]; simp
    · exact List.mem_cons_of_mem _ h
theorem tick_pos {hs : List H3} {key : Int} (hv : poolV hs = true) (hk : keyV key = true) : ∀ x ∈ ticks hs key, 0 ≤ x.2 ∧ x.1 ∈ upN hs := by
  intro x hx
  unfold ticks at hx
  rw [List.mem_flatMap] at hx
  obtain ⟨h, hh, hx⟩ := hx
  have hb := pool_mem hv h (up_mem hh).1
  have hn := tickH_num key h x hx
  refine ⟨?_, by rw [hn]; unfold upN; exact List.mem_map.2 ⟨h, hh, rfl⟩⟩
  unfold tickH at hx
  simp only [List.mem_map, List.mem_range] at hx
  obtain ⟨t, ht, rfl⟩ := hx
  show 0 ≤ mixL [key, h.1, (t : Int)]
  rw [mixL_yes (by simp) (fun j hj => ?_)]
  · exact (mixS_bd _).1
  · have : j = 0 ∨ j = 1 ∨ j = 2 := by simp at hj; omega
    rcases this with rfl | rfl | rfl
    · simpa using hk
    · simp; exact keyV_iff.2 (by omega)
    · simp; exact keyV_iff.2 (by omega)
theorem flat_ne {α β : Type} {l : List α} {f : α → List β} (hl : l ≠ []) (hf : ∀ x ∈ l, f x ≠ []) : l.flatMap f ≠ [] := by
  cases l with
  | nil => exact absurd rfl hl
  | cons a r =>
    rw [List.flatMap_cons]
    intro h
    exact hf a (by simp) (List.append_eq_nil_iff.1 h).1
theorem rdv_mem {hs : List H3} {key : Int} (hv : poolV hs = true) (hk : keyV key = true) (hu : upL hs ≠ []) : rdv hs key ∈ upN hs := by
  unfold rdv
  rw [if_pos ⟨hv, hk⟩]
  have hm := best_mem (fun x hx => (tick_pos hv hk x hx).1) (l := ticks hs key) (flat_ne hu fun x hx e => by
    have := tickH_len key x
    rw [e] at this
    have hb := pool_mem hv x (up_mem hx).1
    simp at this
    omega)
  exact (tick_pos hv hk _ hm).2
theorem ringH_mem {r : List (Int × Int)} {key : Int} (hr : r ≠ []) : ∃ x ∈ r, ringH r key = x.2 := by
  unfold ringH
  split
  · rename_i x h
    exact ⟨x, List.mem_of_find?_eq_some h, rfl⟩
  · cases r with
    | nil => exact absurd rfl hr
    | cons x s => exact ⟨x, by simp, rfl⟩
theorem ring_mem {hs : List H3} {key : Int} (hv : poolV hs = true) (hu : upL hs ≠ []) : ringH (ringO hs) key ∈ upN hs := by
  have hi := ringO_is hs hv
  have hp : pts hs ≠ [] := flat_ne hu fun x hx e => by
    have := ptsH_len x
    rw [e] at this
    have hb := pool_mem hv x (up_mem hx).1
    simp at this
    omega
  obtain ⟨x, hx, e⟩ := ringH_mem (key := key) (r := ringO hs) (fun e => hp (by have := hi.1; rw [e] at this; exact List.nil_perm.1 this))
  rw [e]
  have hx := hi.1.subset hx
  unfold pts at hx
  rw [List.mem_flatMap] at hx
  obtain ⟨h, hh, hx⟩ := hx
  rw [ptsH_num h x hx]
  exact List.mem_map.2 ⟨h, hh, rfl⟩
theorem slot_mem {hs : List H3} {key : Int} (hv : poolV hs = true) (hu : upL hs ≠ []) : slotH (slotTV hs) key ∈ upN hs := by
  have hl := slotT_len (upL hs)
  unfold slotTV
  rw [if_neg hu]
  unfold slotH
  rw [if_neg (by rw [hl]; simp), hl]
  have hm := Int.emod_nonneg key (show ((31 : Nat) : Int) ≠ 0 by simp)
  have hm2 := Int.emod_lt_of_pos key (show (0 : Int) < ((31 : Nat) : Int) by simp)
  have hi : (key % ((31 : Nat) : Int)).toNat < (slotT (upL hs)).length := by omega
  rw [List.getElem?_eq_getElem hi]
  obtain ⟨x, hx, e⟩ := slotT_mem (up_ok hv) hu (List.getElem_mem hi)
  show (slotT (upL hs))[(key % ((31 : Nat) : Int)).toNat] ∈ upN hs
  rw [e]
  exact List.mem_map.2 ⟨x, hx, rfl⟩
theorem jump_mem {hs : List H3} {key : Int} (hv : poolV hs = true) (hu : upL hs ≠ []) : jumpH hs key ∈ upN hs := by
  have e : upNV hs = upN hs := by unfold upNV; rw [if_pos hv]
  have hl : 0 < (upN hs).length := by
    unfold upN
    rw [List.length_map]
    exact List.length_pos_iff.2 hu
  unfold jumpH
  rw [e, if_neg (by omega)]
  have hb := jumpB_bd key (upN hs).length hl
  rw [List.getElem?_eq_getElem (by omega)]
  exact List.getElem_mem _
theorem hostBy_in {way : Int} {hs : List H3} {key : Int} (h1 : 1 ≤ way) (h4 : way ≤ 4) (hv : poolV hs = true) (hk : keyV key = true) (hu : upL hs ≠ []) : hostBy way hs key ∈ upN hs := by
  unfold hostBy
  rw [if_pos ⟨hv, hk⟩]
  have hw : way = 1 ∨ way = 2 ∨ way = 3 ∨ way = 4 := by omega
  rcases hw with rfl | rfl | rfl | rfl
  · exact rdv_mem hv hk hu
  · exact ring_mem hv hu
  · exact slot_mem hv hu
  · exact jump_mem hv hu
theorem upN_pos {hs : List H3} (hv : poolV hs = true) {n : Int} (h : n ∈ upN hs) : 0 ≤ n ∧ n ≤ 30 := by
  unfold upN at h
  obtain ⟨x, hx, rfl⟩ := List.mem_map.1 h
  exact (pool_mem hv x (up_mem hx).1).1
theorem hostBy_cases (way : Int) (hs : List H3) (key : Int) : hostBy way hs key = -1 ∨ (poolV hs = true ∧ keyV key = true ∧ upL hs ≠ [] ∧ hostBy way hs key ∈ upN hs) := by
  by_cases hg : poolV hs = true ∧ keyV key = true
  · by_cases hu : upL hs = []
    · exact .inl (hostBy_none hu)
    · by_cases hw : 1 ≤ way ∧ way ≤ 4
      · exact .inr ⟨hg.1, hg.2, hu, hostBy_in hw.1 hw.2 hg.1 hg.2 hu⟩
      · left
        unfold hostBy
        rw [if_pos hg, if_neg (by omega), if_neg (by omega), if_neg (by omega), if_neg (by omega)]
  · exact .inl (hostBy_bad hg)
theorem pool_asc' {hs : List H3} (h : poolV hs = true) : hs.Pairwise fun a b => a.1 < b.1 := by
  unfold poolV at h
  simp only [Bool.and_eq_true] at h
  exact (poolFrom_lt hs _ h.1).1
theorem num_inj {hs : List H3} (hv : poolV hs = true) {x y : H3} (hx : x ∈ hs) (hy : y ∈ hs) (e : x.1 = y.1) : x = y := by
  have ha := List.pairwise_iff_getElem.1 (pool_asc' hv)
  obtain ⟨i, hi, rfl⟩ := List.mem_iff_getElem.1 hx
  obtain ⟨j, hj, rfl⟩ := List.mem_iff_getElem.1 hy
  rcases Nat.lt_trichotomy i j with h | h | h
  · have := ha i j hi hj h; omega
  · subst h; rfl
  · have := ha j i hj hi h; omega
theorem up_st {hs : List H3} (hv : poolV hs = true) {n : Int} (h : n ∈ upN hs) : stH hs n = 1 := by
  unfold upN at h
  obtain ⟨x, hx, rfl⟩ := List.mem_map.1 h
  obtain ⟨hm, h1⟩ := up_mem hx
  rcases atH_cases hs x.1 with ⟨_, hn⟩ | ⟨k, hk, e, hk1, _⟩
  · obtain ⟨j, hj, e⟩ := List.mem_iff_getElem.1 hm
    exact absurd (by rw [hAt_eq hj, e]) (hn j hj)
  · unfold stH
    rw [if_pos ⟨hv, by omega⟩, e, Int.toNat_natCast, num_inj hv (hAt_mem hk) hm hk1, h1]
/-- What the law says of a host that was chosen. -/
theorem hostBy_law (way : Int) (hs : List H3) (key : Int) : hostBy way hs key = -1 ∨ (0 ≤ hostBy way hs key ∧ stH hs (hostBy way hs key) = 1 ∧ ∀ o, 1 ≤ o → o ≤ 4 → stH hs (hostBy o hs key) = 1) := by
  rcases hostBy_cases way hs key with h | ⟨hv, hk, hu, h⟩
  · exact .inl h
  · exact .inr ⟨(upN_pos hv h).1, up_st hv h, fun o h1 h4 => up_st hv (hostBy_in h1 h4 hv hk hu)⟩

theorem poolFrom_set (x s : Int) (h0 : 0 ≤ s) (h2 : s ≤ 2) : ∀ (hs : List H3) (p : Int), poolFrom p hs = true → poolFrom p (setSt hs x s) = true := by
  intro hs
  induction hs with
  | nil => intro p h; exact h
  | cons h r ih =>
    intro p hp
    unfold setSt
    rw [List.map_cons]
    have hf : (if h.1 = x then (h.1, h.2.1, s) else h).1 = h.1 := by split <;> rfl
    unfold poolFrom at hp ⊢
    rw [Bool.and_eq_true] at hp ⊢
    refine ⟨?_, by rw [hf]; exact ih _ hp.2⟩
    have h1 := hp.1
    split
    · unfold hostOk at h1 ⊢
      simp only [Bool.and_eq_true, inB_iff] at h1 ⊢
      simp_all
    · exact h1
theorem poolV_set {hs : List H3} (x s : Int) (h0 : 0 ≤ s) (h2 : s ≤ 2) (hv : poolV hs = true) : poolV (setSt hs x s) = true := by
  unfold poolV at hv ⊢
  rw [Bool.and_eq_true] at hv ⊢
  exact ⟨poolFrom_set x s h0 h2 hs _ hv.1, by unfold setSt; rw [List.length_map]; exact hv.2⟩
theorem set_same {hs : List H3} {x s : Int} (h : ∀ y ∈ hs, y.1 = x → y.2.2 = s) : setSt hs x s = hs := by
  unfold setSt
  conv => rhs; rw [← List.map_id hs]
  apply List.map_congr_left
  intro y hy
  by_cases e : y.1 = x
  · rw [if_pos e, ← h y hy e]; rfl
  · rw [if_neg e]; rfl
theorem hostBy_ring {hs : List H3} {key : Int} (hv : poolV hs = true) (hk : keyV key = true) : hostBy 2 hs key = ringH (ringO hs) key := by
  unfold hostBy
  rw [if_pos ⟨hv, hk⟩]
  rfl
theorem hostBy_rdv {hs : List H3} {key : Int} (hv : poolV hs = true) (hk : keyV key = true) : hostBy 1 hs key = (bestT (ticks hs key)).1 := by
  unfold hostBy
  rw [if_pos ⟨hv, hk⟩, if_pos rfl]
  unfold rdv
  rw [if_pos ⟨hv, hk⟩]
/-- A host that goes down takes no key of another (ring). -/
theorem moves_law {hs : List H3} {key x : Int} (hn : 0 ≤ hostBy 2 hs key) (hx : x ≠ hostBy 2 hs key) : hostBy 2 (setSt hs x 0) key = hostBy 2 hs key := by
  rcases hostBy_cases 2 hs key with h | ⟨hv, hk, _, _⟩
  · omega
  · have hv' := poolV_set x 0 (by omega) (by omega) hv
    rw [hostBy_ring hv hk] at hx ⊢
    rw [hostBy_ring hv' hk]
    exact ring_moves (ringO_is hs hv) (ringO_is _ hv') (fun e => hx e.symm)
/-- A host that comes up takes keys alone. -/
theorem new_law {hs : List H3} {key x : Int} {k : Nat} (hv : poolV hs = true) (hkl : k < hs.length) (hx : (hAt hs k).1 = x) (way : Int) (hw : way = 1 ∨ way = 2) : hostBy way (setSt hs x 1) key = hostBy way hs key ∨ hostBy way (setSt hs x 1) key = x := by
  by_cases h1 : (hAt hs k).2.2 = 1
  · left
    rw [set_same fun y hy e => ?_]
    rw [num_inj hv hy (hAt_mem hkl) (by rw [e, hx]), h1]
  · have hd : ∀ y ∈ hs, y.1 = x → y.2.2 ≠ 1 := fun y hy e => by
      rw [num_inj hv hy (hAt_mem hkl) (by rw [e, hx])]; exact h1
    have hv' := poolV_set x 1 (by omega) (by omega) hv
    by_cases hk : keyV key = true
    · rcases hw with rfl | rfl
      · rw [hostBy_rdv hv hk, hostBy_rdv hv' hk]
        exact ticks_new hd
      · rw [hostBy_ring hv hk, hostBy_ring hv' hk]
        exact ring_new (ringO_is hs hv) (ringO_is _ hv') hd
    · left
      rw [hostBy_bad (fun h => hk h.2), hostBy_bad (fun h => hk h.2)]
end Go.Proofs.Ytfobcggcilbgbaa
