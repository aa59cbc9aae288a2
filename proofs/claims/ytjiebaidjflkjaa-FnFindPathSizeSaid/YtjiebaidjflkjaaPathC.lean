/-
  Plain laws of paths: what goes through, the least link, how often it was tried.
-/
import Derived.Test.YtjiebaidjflkjaaPathA
namespace Go.Proofs.Ytjiebaidjflkjaa
open Go.RowKit
set_option linter.unusedVariables false

theorem pathV_all {zs : List Int} (h : pathV zs = true) : ∀ z ∈ zs, 1 ≤ z ∧ z ≤ 100000 := by
  unfold pathV linksOk at h
  have h1 := (Bool.and_eq_true_iff.1 h).1
  rw [List.all_eq_true] at h1
  exact fun z hz => inB_iff.1 (h1 z hz)
theorem pathV_nil : pathV [] = false := by decide
theorem pathV_tail {zs : List Int} (h : pathV zs = true) (hl : 2 ≤ zs.length) : pathV (zs.drop 1) = true := by
  have h1 := pathV_len h
  have h2 := pathV_all h
  unfold pathV linksOk
  rw [Bool.and_eq_true_iff, List.all_eq_true]
  exact ⟨fun z hz => inB_true (h2 z (List.mem_of_mem_drop hz)), inB_true (by simp; omega)⟩
theorem firstLess_none {s : Int} {zs : List Int} (hp : ∀ z ∈ zs, 1 ≤ z) : firstLess s zs = -1 ↔ ∀ z ∈ zs, s ≤ z := by
  induction zs with
  | nil => simp [firstLess]
  | cons z r ih =>
    have ih' := ih fun y hy => hp y (by simp [hy])
    have hz := hp z (by simp)
    rw [firstLess]
    split
    · constructor
      · intro h; omega
      · intro h; have := h z (by simp); omega
    · rw [ih']
      constructor
      · intro h y hy
        rcases List.mem_cons.1 hy with rfl | hy
        · omega
        · exact h y hy
      · intro h y hy; exact h y (by simp [hy])
/-- What SendPath says of a valid path and size. -/
theorem sendS_facts (zs : List Int) (s : Int) : sendS zs s = -2 ∨ (0 ≤ s ∧ sendS zs s = -1 ∧ (s = 0 ∨ sendS zs (s - 1) = -1)) ∨ (0 ≤ sendS zs s ∧ sendS zs s < s) := by
  cases hok : sendOk zs s with
  | false => left; exact sendS_no hok
  | true =>
    right
    rw [sendS_ok hok]
    have hp := (Bool.and_eq_true_iff.1 (by unfold sendOk at hok; exact hok))
    have hs := inB_iff.1 hp.2
    have hall := pathV_all hp.1
    by_cases h1 : firstLess s zs = -1
    · left
      refine ⟨hs.1, h1, ?_⟩
      by_cases h0 : s = 0
      · exact .inl h0
      · right
        have hok' : sendOk zs (s - 1) = true := by unfold sendOk; rw [hp.1, inB_true (by omega)]; rfl
        rw [sendS_ok hok']
        have h2 := (firstLess_none (fun z hz => (hall z hz).1)).1 h1
        exact (firstLess_none (fun z hz => (hall z hz).1)).2 fun z hz => by have := h2 z hz; omega
    · right
      have := firstLess_bd hp.1 h1
      omega

/-- The least one of s and the links. -/
def leastL (s : Int) (zs : List Int) : Int := zs.foldl min s
def IsLeast (L s : Int) (zs : List Int) : Prop := L ≤ s ∧ (∀ z ∈ zs, L ≤ z) ∧ (L = s ∨ L ∈ zs)
theorem leastL_is (zs : List Int) : ∀ s, IsLeast (leastL s zs) s zs := by
  induction zs with
  | nil => intro s; exact ⟨Int.le_refl _, by simp, .inl rfl⟩
  | cons z r ih =>
    intro s
    obtain ⟨h1, h2, h3⟩ := ih (min s z)
    show IsLeast (leastL (min s z) r) s (z :: r)
    refine ⟨by omega, ?_, ?_⟩
    · intro y hy
      rcases List.mem_cons.1 hy with rfl | hy
      · omega
      · exact h2 y hy
    · rcases h3 with h3 | h3
      · rcases Int.le_total s z with h | h
        · left; omega
        · right; rw [show leastL (min s z) r = z from by omega]; simp
      · right; simp [h3]
theorem IsLeast.eq {L M s : Int} {zs : List Int} (h : IsLeast L s zs) (h' : IsLeast M s zs) : L = M := by
  have key : ∀ {A B : Int}, IsLeast A s zs → IsLeast B s zs → A ≤ B := by
    rintro A B ⟨a1, a2, a3⟩ ⟨b1, b2, b3⟩
    rcases b3 with rfl | b3
    · exact a1
    · exact a2 _ b3
  have := key h h'
  have := key h' h
  omega
theorem leastL_step (zs : List Int) (s : Int) (k : Nat) (h : k < zs.length) : leastL s (zs.take (k + 1)) = min (leastL s (zs.take k)) (zs[k]?.getD 0) := by
  rw [take_succ_getD zs k h]
  unfold leastL
  rw [List.foldl_append]; rfl
def cntLess (s : Int) (zs : List Int) : Nat := zs.countP (· < s)
theorem cntLess_lt {t s : Int} {zs : List Int} (ht : t ∈ zs) (hlt : t < s) : cntLess t zs + 1 ≤ cntLess s zs := by
  unfold cntLess
  induction zs with
  | nil => cases ht
  | cons z r ih =>
    have hle : r.countP (· < t) ≤ r.countP (· < s) := List.countP_mono_left fun y _ hy => by simp at hy ⊢; omega
    simp only [List.countP_cons]
    rcases List.mem_cons.1 ht with rfl | hr
    · simp [hlt]
      omega
    · have := ih hr
      by_cases h1 : z < t
      · have h2 : z < s := by omega
        simp [h1, h2]; omega
      · simp [h1]; omega
theorem findFrom_spec {zs : List Int} (hp : ∀ z ∈ zs, 1 ≤ z) : ∀ (f : Nat) (s v : Int), 0 ≤ s → s.toNat < f →
    (findFrom zs f s v).1 = leastL s zs ∧ (findFrom zs f s v).2 ≤ v + cntLess s zs ∧ 0 ≤ (findFrom zs f s v).1 ∧ firstLess (findFrom zs f s v).1 zs = -1 ∧ (findFrom zs f s v).1 ≤ s := by
  intro f
  induction f with
  | zero => intro s v _ h; omega
  | succ f ih =>
    intro s v h0 hf
    rw [findFrom]
    split
    · rename_i hneg
      rcases firstLess_cases s zs with h1 | ⟨_, h2⟩
      · have h2 := (firstLess_none hp).1 h1
        refine ⟨IsLeast.eq ⟨Int.le_refl _, h2, .inl rfl⟩ (leastL_is zs s), by simp; omega, h0, h1, Int.le_refl _⟩
      · have := hp _ h2; omega
    · rename_i hneg
      rcases firstLess_cases s zs with h1 | ⟨h1, h2⟩
      · omega
      · have hc := cntLess_lt h2 h1
        obtain ⟨i1, i2, i3, i4, i5⟩ := ih (firstLess s zs) (v + 1) (by omega) (by omega)
        refine ⟨?_, by omega, i3, i4, by omega⟩
        rw [i1]
        refine IsLeast.eq (s := s) (zs := zs) ?_ (leastL_is zs s)
        obtain ⟨l1, l2, l3⟩ := leastL_is zs (firstLess s zs)
        refine ⟨by omega, l2, .inr ?_⟩
        rcases l3 with l3 | l3
        · rw [l3]; exact h2
        · exact l3
theorem findS_facts (zs : List Int) (s : Int) : findS zs s = (-1, -1) ∨ (0 ≤ (findS zs s).1 ∧ (findS zs s).1 = leastL s zs ∧ (findS zs s).2 ≤ zs.length ∧ sendS zs (findS zs s).1 = -1) := by
  cases hok : sendOk zs s with
  | false => left; unfold findS; rw [if_neg (by rw [hok]; simp)]
  | true =>
    right
    unfold findS
    rw [if_pos hok]
    have hp := (Bool.and_eq_true_iff.1 (by unfold sendOk at hok; exact hok))
    have hs := inB_iff.1 hp.2
    have hall := pathV_all hp.1
    obtain ⟨i1, i2, i3, i4, i5⟩ := findFrom_spec (zs := zs) (fun z hz => (hall z hz).1) (s.toNat + 1) s 0 hs.1 (by omega)
    have hc : cntLess s zs ≤ zs.length := List.countP_le_length
    refine ⟨i3, i1, by omega, ?_⟩
    rw [sendS_ok (by unfold sendOk; rw [hp.1, inB_true (by omega)]; rfl)]
    exact i4
end Go.Proofs.Ytjiebaidjflkjaa
