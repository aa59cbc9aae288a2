/-
  The plain law of the reference's RingOf: putting a point in at its place.
-/
import Derived.Test.YtfobcggcilbgbaaRingI
namespace Go.Proofs.Ytfobcggcilbgbaa
set_option linter.unusedVariables false

theorem sortP_snoc (l r : List Pt2) (x : Pt2) (hr : r.Perm (l ++ [x])) (hs : r.Pairwise ptLe) : r = sortP (l ++ [x]) :=
  sorted_unique r _ (hr.trans (sortP_perm _).symm) hs (sortP_sorted _)
theorem ptLe_total (a b : Pt2) : ptLe a b ∨ ptLe b a := by unfold ptLe; omega
/-- The point at place a of a sorted list. -/
theorem put_sorted {r : List Pt2} {x : Pt2} {a : Nat} (hs : r.Pairwise ptLe) (ha : a ≤ r.length) (hgt : ∀ j, a ≤ j → j < r.length → ptLe x (ptAt r j)) (hlt : 0 < a → ptLe (ptAt r (a - 1)) x) : (r.take a ++ [x] ++ r.drop a).Pairwise ptLe := by
  have h1 : ∀ y ∈ r.take a, ptLe y x := by
    intro y hy
    obtain ⟨j, hj, rfl⟩ := List.mem_iff_getElem.1 hy
    have hja : j < a := by simp at hj; omega
    have hjl : j < r.length := by simp at hj; omega
    have hp := hlt (by omega)
    rw [ptAt_eq (by omega)] at hp
    rw [List.getElem_take]
    rcases Nat.lt_or_ge j (a - 1) with h | h
    · exact ptLe_trans ((List.pairwise_iff_getElem.1 hs) j (a - 1) hjl (by omega) h) hp
    · have : j = a - 1 := by omega
      subst this
      exact hp
  have h2 : ∀ y ∈ r.drop a, ptLe x y := by
    intro y hy
    obtain ⟨j, hj, rfl⟩ := List.mem_iff_getElem.1 hy
    have hjl : a + j < r.length := by simp at hj; omega
    have := hgt (a + j) (by omega) hjl
    rw [ptAt_eq hjl] at this
    rw [List.getElem_drop]
    exact this
  rw [List.append_assoc, List.pairwise_append]
  refine ⟨hs.sublist (List.take_sublist _ _), ?_, ?_⟩
  · rw [List.singleton_append, List.pairwise_cons]
    exact ⟨h2, hs.sublist (List.drop_sublist _ _)⟩
  · intro y hy z hz
    rw [List.singleton_append] at hz
    rcases List.mem_cons.1 hz with rfl | hz
    · exact h1 y hy
    · exact ptLe_trans (h1 y hy) (h2 z hz)
theorem put_is {l : List Pt2} {x : Pt2} {a : Nat} (ha : a ≤ (sortP l).length) (hgt : ∀ j, a ≤ j → j < (sortP l).length → ptLe x (ptAt (sortP l) j)) (hlt : 0 < a → ptLe (ptAt (sortP l) (a - 1)) x) :
    (sortP l).take a ++ [x] ++ (sortP l).drop a = sortP (l ++ [x]) := by
  refine sortP_snoc l _ x ?_ (put_sorted (sortP_sorted l) ha hgt hlt)
  have h1 : ((sortP l).take a ++ [x] ++ (sortP l).drop a).Perm (((sortP l).take a ++ (sortP l).drop a) ++ [x]) := by
    rw [List.append_assoc, List.append_assoc]
    exact List.Perm.append_left _ List.perm_append_comm
  rw [List.take_append_drop] at h1
  exact h1.trans ((sortP_perm l).append_right _)
theorem pts_part {l r : List Pt2} {x : Pt2} {a : Nat} (h : (l.take a ++ [x] ++ l.drop a) = r) : ptsV r = (ptsV l).take (a * 2) ++ [.int .i64 x.1, .int .i64 x.2] ++ (ptsV l).drop (a * 2) := by
  subst h
  unfold ptsV
  rw [recV_append, recV_append, recV_take ptC_len, recV_drop ptC_len]
  rfl
/-- The points of the hosts before k, and t of host k's. -/
def ringD (hs : List H3) (k t : Nat) : List Pt2 := pts (hs.take k) ++ (ptsH (hAt hs k)).take t
theorem ringD_zero (hs : List H3) (k : Nat) : ringD hs k 0 = pts (hs.take k) := by unfold ringD; simp
theorem ringD_step (hs : List H3) (k t : Nat) (ht : t < (3 * (hAt hs k).2.1).toNat) : ringD hs k (t + 1) = ringD hs k t ++ [(mixL [(hAt hs k).1, (t : Int)], (hAt hs k).1)] := by
  unfold ringD
  rw [List.take_add_one, ptsH_at _ t ht]
  simp
theorem ringD_up {hs : List H3} {k : Nat} (hk : k < hs.length) (h : (hAt hs k).2.2 = 1) : ringD hs k (3 * (hAt hs k).2.1).toNat = pts (hs.take (k + 1)) := by
  unfold ringD pts
  rw [upL_snoc_yes hk h, List.flatMap_append, List.take_of_length_le (l := ptsH (hAt hs k)) (by rw [ptsH_len]; exact Nat.le_refl _)]
  simp
theorem pts_no {hs : List H3} {k : Nat} (hk : k < hs.length) (h : ¬ (hAt hs k).2.2 = 1) : pts (hs.take (k + 1)) = pts (hs.take k) := by
  unfold pts
  rw [upL_snoc_no hk h]
theorem pts_len {hs : List H3} (h5 : ∀ x ∈ hs, x.2.1 ≤ 5) : ∀ k, k ≤ hs.length → (pts (hs.take k)).length ≤ 15 * k := by
  intro k hk
  unfold pts
  have h1 : ∀ us : List H3, (∀ x ∈ us, x.2.1 ≤ 5) → (us.flatMap ptsH).length ≤ 15 * us.length := by
    intro us
    induction us with
    | nil => intro _; simp
    | cons x s ih =>
      intro h
      have h2 := ih (fun y hy => h y (by simp [hy]))
      have h3 := h x (by simp)
      rw [List.flatMap_cons, List.length_append, List.length_cons, ptsH_len]
      omega
  have h2 := h1 (upL (hs.take k)) (fun x hx => h5 x (List.mem_of_mem_take (up_mem hx).1))
  have h3 := upL_take_len hs k
  omega
theorem ringD_len {hs : List H3} (h5 : ∀ x ∈ hs, x.2.1 ≤ 5) {k t : Nat} (hk : k ≤ hs.length) : (ringD hs k t).length ≤ 15 * k + t := by
  unfold ringD
  rw [List.length_append]
  have h1 := pts_len h5 k hk
  have h2 : ((ptsH (hAt hs k)).take t).length ≤ t := List.length_take_le _ _
  omega
end Go.Proofs.Ytfobcggcilbgbaa
