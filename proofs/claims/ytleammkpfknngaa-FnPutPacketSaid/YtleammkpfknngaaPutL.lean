/-
  The plain law of packets: what was put can be got; a byte that is changed by one is noticed. No program.
-/
import Derived.Test.YtleammkpfknngaaGet
namespace Go.Proofs.Ytleammkpfknngaa
open Go.RowKit
set_option linter.unusedVariables false

theorem get_put {f t k l : Int} {zs : List Int} (h : pktV f t k l zs.length = true) : getV (putP f t k l zs) = true ∧ getF (putP f t k l zs) 4 = f ∧ getF (putP f t k l zs) 5 = t ∧ getF (putP f t k l zs) 1 = k ∧ getF (putP f t k l zs) 2 = l ∧ getB (putP f t k l zs) = zs := by
  have hg := putP_good h
  have h4 : (putP f t k l zs)[4]?.getD 0 = f := by rw [hg]; rfl
  have h5 : (putP f t k l zs)[5]?.getD 0 = t := by rw [hg]; rfl
  have h1 : (putP f t k l zs)[1]?.getD 0 = k := by rw [hg]; rfl
  have h2 : (putP f t k l zs)[2]?.getD 0 = l := by rw [hg]; rfl
  have hd : (putP f t k l zs).drop 6 = zs := by rw [hg]; rfl
  have hl := putP_len h
  have hv : getV (putP f t k l zs) = true := by
    rw [getV_long (by omega), h4, h5, h1, h2, hd]
    simp
  unfold getF getB
  rw [hv]
  exact ⟨rfl, h4, h5, h1, h2, hd⟩
/-- The bytes of a packet hold their sum. -/
theorem sum_held {bs : List Int} (h : getV bs = true) : 6 ≤ bs.length ∧ bs[3]?.getD 0 = 255 - (sumL bs - bs[3]?.getD 0) % 255 := by
  obtain ⟨h6, hv, he⟩ := getV_valid h
  refine ⟨h6, ?_⟩
  match bs, h6 with
  | a :: b :: c :: d :: e :: g :: r, _ =>
    simp only [List.getElem?_cons_succ, List.getElem?_cons_zero, Option.getD_some, List.drop_succ_cons, List.drop_zero] at hv he ⊢
    rw [putP_good hv] at he
    simp only [List.cons_append, List.nil_append, List.cons.injEq] at he
    obtain ⟨e1, _, _, e2, _⟩ := he
    unfold sumS restP at e2
    simp only [List.cons_append, List.nil_append, sumL] at e2 ⊢
    rw [e1] at e2
    generalize sumL r = s at e2 ⊢
    omega
theorem sumL_set (zs : List Int) (j : Nat) (y : Int) (h : j < zs.length) : sumL (zs.set j y) = sumL zs - zs[j]?.getD 0 + y := by
  induction zs generalizing j with
  | nil => simp at h
  | cons z r ih =>
    cases j with
    | zero => simp [sumL]; omega
    | succ j =>
      have := ih j (by simpa using h)
      simp [sumL, this]
      omega
theorem bad_put {bs : List Int} {j : Nat} {y : Int} (h : getV bs = true) (hj : j < bs.length) (hy : y = bs[j]?.getD 0 + 1 ∨ y = bs[j]?.getD 0 - 1) : getV (bs.set j y) = false := by
  rw [Bool.eq_false_iff]
  intro hb
  have h1 := (sum_held h).2
  have h2 := (sum_held hb).2
  rw [sumL_set bs j y hj] at h2
  by_cases e : j = 3
  · subst e
    have e3 : (bs.set 3 y)[3]?.getD 0 = y := by rw [List.getElem?_set]; simp [hj]
    rw [e3] at h2
    omega
  · have e3 : (bs.set j y)[3]?.getD 0 = bs[3]?.getD 0 := by rw [List.getElem?_set]; simp [e]
    rw [e3] at h2
    omega
theorem set_byte {bs : List Int} {j : Nat} {y : Int} (h : AllByte bs) (hy : 0 ≤ y ∧ y ≤ 255) : AllByte (bs.set j y) := by
  intro z hz
  rcases List.mem_or_eq_of_mem_set hz with hz | rfl
  · exact h z hz
  · exact hy
end Go.Proofs.Ytleammkpfknngaa
