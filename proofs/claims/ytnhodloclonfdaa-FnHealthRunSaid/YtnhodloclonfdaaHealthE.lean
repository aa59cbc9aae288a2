/-
  Plain laws of health: what a test does, what follows of many.
-/
import Derived.Test.YtnhodloclonfdaaHealthB
namespace Go.Proofs.Ytnhodloclonfdaa
open Go.RowKit
set_option linter.unusedVariables false

theorem healthOk_iff {r f c : Int} : healthOk r f c = true ↔ (1 ≤ r ∧ r ≤ 10) ∧ (1 ≤ f ∧ f ≤ 10) ∧ 0 ≤ c ∧ c ≤ 10 := by
  unfold healthOk
  simp only [Bool.and_eq_true, inB_iff, and_assoc]
theorem neededB_iff {r f : Int} : neededB r f = true ↔ (1 ≤ r ∧ r ≤ 10) ∧ 1 ≤ f ∧ f ≤ 10 := by
  unfold neededB
  simp only [Bool.and_eq_true, inB_iff, and_assoc]
/-- What a test says, all cases. -/
theorem stepH_facts (u : Bool) (c : Int) (a : Bool) (r f : Int) : (¬ (1 ≤ r ∧ r ≤ 10 ∧ 1 ≤ f ∧ f ≤ 10 ∧ 0 ≤ c ∧ c ≤ 10) ∧ stepH u c a r f = (false, 0)) ∨
    ((1 ≤ r ∧ r ≤ 10 ∧ 1 ≤ f ∧ f ≤ 10 ∧ 0 ≤ c ∧ c ≤ 10) ∧ ((a = u ∧ stepH u c a r f = (u, 0)) ∨ (a = !u ∧ (stepH u c a r f = (!u, 0) ∨ (stepH u c a r f = (u, c + 1) ∧ c + 1 < 10))))) := by
  by_cases h : healthOk r f c = true
  · right
    have hb := healthOk_iff.1 h
    refine ⟨by omega, ?_⟩
    cases u <;> cases a
    · exact .inl ⟨rfl, stepH_same h⟩
    · right
      refine ⟨rfl, ?_⟩
      by_cases hn : r ≤ c + 1
      · exact .inl (stepH_up h hn)
      · exact .inr ⟨stepH_notup h hn, by omega⟩
    · right
      refine ⟨rfl, ?_⟩
      by_cases hn : f ≤ c + 1
      · exact .inl (stepH_down h hn)
      · exact .inr ⟨stepH_notdown h hn, by omega⟩
    · exact .inl ⟨rfl, stepH_same h⟩
  · left
    refine ⟨fun hh => h (healthOk_iff.2 (by omega)), stepH_bad h⟩

/-- Less than what is needed has been counted. -/
def CntOk (r f : Int) (h : Bool × Int) : Prop := 0 ≤ h.2 ∧ h.2 < (if h.1 then f else r)
theorem CntOk.start {r f : Int} (h : neededB r f = true) : CntOk r f (false, 0) := by
  have := neededB_iff.1 h
  exact ⟨by simp, by simp; omega⟩
theorem CntOk.next {r f : Int} (hn : neededB r f = true) {u : Bool} {c : Int} (h : CntOk r f (u, c)) (a : Bool) : CntOk r f (stepH u c a r f) := by
  have hb := neededB_iff.1 hn
  obtain ⟨h0, h1⟩ := h
  simp only at h0 h1
  have hok : healthOk r f c = true := healthOk_iff.2 ⟨hb.1, hb.2, h0, by cases u <;> simp at h1 <;> omega⟩
  cases u <;> cases a <;> simp only [Bool.false_eq_true, if_false, if_true] at h1
  · rw [stepH_same hok]; exact ⟨by simp, by simp; omega⟩
  · by_cases hle : r ≤ c + 1
    · rw [stepH_up hok hle]; exact ⟨by simp, by simp; omega⟩
    · rw [stepH_notup hok hle]; exact ⟨by simp; omega, by simp; omega⟩
  · by_cases hle : f ≤ c + 1
    · rw [stepH_down hok hle]; exact ⟨by simp, by simp; omega⟩
    · rw [stepH_notdown hok hle]; exact ⟨by simp; omega, by simp; omega⟩
  · rw [stepH_same hok]; exact ⟨by simp, by simp; omega⟩
theorem foldH_append (r f : Int) (a b : List Bool) : foldH r f (a ++ b) = b.foldl (fun h a => stepH h.1 h.2 a r f) (foldH r f a) := by
  unfold foldH
  rw [List.foldl_append]
theorem cnt_foldl {r f : Int} (hn : neededB r f = true) (l : List Bool) : ∀ h, CntOk r f h → CntOk r f (l.foldl (fun h a => stepH h.1 h.2 a r f) h) := by
  induction l with
  | nil => intro h hh; exact hh
  | cons a t ih => intro h hh; exact ih _ (CntOk.next hn (u := h.1) (c := h.2) hh a)
theorem up_after {r f : Int} (hn : neededB r f = true) : ∀ (k : Nat) (h : Bool × Int), CntOk r f h → (h.1 = true ∨ r ≤ h.2 + k) → ((List.replicate k true).foldl (fun h a => stepH h.1 h.2 a r f) h).1 = true := by
  have hb := neededB_iff.1 hn
  intro k
  induction k with
  | zero =>
    intro h hh hd
    rcases hd with hd | hd
    · exact hd
    · rcases h with ⟨u, c⟩
      cases u
      · have := hh.2; simp at this hd; omega
      · rfl
  | succ k ih =>
    intro h hh hd
    rw [List.replicate_succ, List.foldl_cons]
    refine ih _ (CntOk.next hn (u := h.1) (c := h.2) hh true) ?_
    rcases h with ⟨u, c⟩
    have h0 := hh.1
    have h1 := hh.2
    simp only at h0 h1 hd
    have hok : healthOk r f c = true := healthOk_iff.2 ⟨hb.1, hb.2, h0, by cases u <;> simp at h1 <;> omega⟩
    cases u
    · by_cases hle : r ≤ c + 1
      · left; show (stepH false c true r f).1 = true; rw [stepH_up hok hle]
      · right
        show r ≤ (stepH false c true r f).2 + k
        rw [stepH_notup hok hle]
        rcases hd with hd | hd
        · cases hd
        · simp; omega
    · left; show (stepH true c true r f).1 = true; rw [stepH_same hok]
/-- As many good tests as are needed bring a host up. -/
theorem runH_up {zs : List Bool} {r f : Int} (hn : neededB r f = true) (hl : (zs.length : Int) + r ≤ 60) : (runH (zs ++ List.replicate r.toNat true) r f).1 = true := by
  have hb := neededB_iff.1 hn
  rw [runH_short (by simp; omega), foldH_append]
  have hc : CntOk r f (foldH r f zs) := cnt_foldl hn zs _ (CntOk.start hn)
  refine up_after hn _ _ hc (.inr ?_)
  have := hc.1
  omega

/-- Changes, tests and what is held. -/
def ChgOk (r f : Int) (k : Nat) (h : Bool × Int × Int) : Prop := 0 ≤ h.2.2 ∧ CntOk r f (h.1, h.2.1) ∧ h.2.2 * min r f + h.2.1 ≤ k ∧ (h.2.2 % 2 = 1 ↔ h.1 = true)
theorem chg_step {r f : Int} (hn : neededB r f = true) {k : Nat} {u : Bool} {c m : Int} (h : ChgOk r f k (u, c, m)) (a : Bool) :
    ChgOk r f (k + 1) ((stepH u c a r f).1, (stepH u c a r f).2, if (stepH u c a r f).1 = u then m else m + 1) := by
  have hb := neededB_iff.1 hn
  obtain ⟨h0, h1, h2, h3⟩ := h
  have hc := CntOk.next hn h1 a
  have k0 := h1.1
  have k1 := h1.2
  simp only at h0 h2 h3 k0 k1
  have hok : healthOk r f c = true := healthOk_iff.2 ⟨hb.1, hb.2, k0, by cases u <;> simp at k1 <;> omega⟩
  have hm : (m + 1) * min r f = m * min r f + min r f := by rw [Int.add_mul, Int.one_mul]
  cases u <;> cases a <;> simp only [Bool.false_eq_true, if_false, if_true] at k1
  · rw [stepH_same hok] at hc ⊢
    exact ⟨by simpa using h0, hc, by simp; omega, by simpa using h3⟩
  · by_cases hle : r ≤ c + 1
    · rw [stepH_up hok hle] at hc ⊢
      refine ⟨by simp; omega, hc, by simp only [Bool.true_eq_false, if_false]; rw [hm]; omega, ?_⟩
      simp at h3 ⊢; omega
    · rw [stepH_notup hok hle] at hc ⊢
      exact ⟨by simpa using h0, hc, by simp; omega, by simpa using h3⟩
  · by_cases hle : f ≤ c + 1
    · rw [stepH_down hok hle] at hc ⊢
      refine ⟨by simp; omega, hc, by simp only [Bool.false_eq_true, if_false]; rw [hm]; omega, ?_⟩
      simp at h3 ⊢; omega
    · rw [stepH_notdown hok hle] at hc ⊢
      exact ⟨by simpa using h0, hc, by simp; omega, by simpa using h3⟩
  · rw [stepH_same hok] at hc ⊢
    exact ⟨by simpa using h0, hc, by simp; omega, by simpa using h3⟩
theorem chg_foldl {r f : Int} (hn : neededB r f = true) (l : List Bool) : ∀ (k : Nat) (h : Bool × Int × Int), ChgOk r f k h →
    ChgOk r f (k + l.length) (l.foldl (fun h a => ((stepH h.1 h.2.1 a r f).1, (stepH h.1 h.2.1 a r f).2, if (stepH h.1 h.2.1 a r f).1 = h.1 then h.2.2 else h.2.2 + 1)) h) := by
  induction l with
  | nil => intro k h hh; exact hh
  | cons a t ih =>
    intro k h hh
    rw [List.foldl_cons, List.length_cons, show k + (t.length + 1) = (k + 1) + t.length from by omega]
    exact ih _ _ (chg_step hn (u := h.1) (c := h.2.1) (m := h.2.2) hh a)
theorem chg_fold_same {r f : Int} (l : List Bool) : ∀ (h : Bool × Int × Int) (h' : Bool × Int), h' = (h.1, h.2.1) →
    l.foldl (fun h a => stepH h.1 h.2 a r f) h' = ((l.foldl (fun h a => ((stepH h.1 h.2.1 a r f).1, (stepH h.1 h.2.1 a r f).2, if (stepH h.1 h.2.1 a r f).1 = h.1 then h.2.2 else h.2.2 + 1)) h).1, (l.foldl (fun h a => ((stepH h.1 h.2.1 a r f).1, (stepH h.1 h.2.1 a r f).2, if (stepH h.1 h.2.1 a r f).1 = h.1 then h.2.2 else h.2.2 + 1)) h).2.1) := by
  induction l with
  | nil => intro h h' e; exact e
  | cons a t ih =>
    intro h h' e
    rw [List.foldl_cons, List.foldl_cons]
    refine ih _ _ ?_
    subst e
    rfl
/-- Few changes need many tests; what is held is their parity. -/
theorem changes_facts (zs : List Bool) (r f : Int) : changesH zs r f = -1 ∨ (0 ≤ changesH zs r f ∧ changesH zs r f * min r f ≤ zs.length ∧ (changesH zs r f % 2 = 1 ↔ (runH zs r f).1 = true) ∧ 1 ≤ min r f ∧ min r f ≤ 10 ∧ changesH zs r f ≤ 60) := by
  by_cases hb : 60 < zs.length ∨ neededB r f = false
  · exact .inl (changesH_bad hb)
  · right
    have hl : ¬ 60 < zs.length := fun h => hb (.inl h)
    have hn : neededB r f = true := by
      cases h : neededB r f with
      | true => rfl
      | false => exact absurd (.inr h) hb
    have hbb := neededB_iff.1 hn
    rw [changesH_ok hl hn, runH_short hl]
    have hc : ChgOk r f (0 + zs.length) (chgH r f zs) := chg_foldl hn zs 0 (false, 0, 0) ⟨by simp, CntOk.start hn, by simp, by simp⟩
    have he : foldH r f zs = ((chgH r f zs).1, (chgH r f zs).2.1) := chg_fold_same (r := r) (f := f) zs (false, 0, 0) (false, 0) rfl
    rw [he]
    obtain ⟨⟨u, c, m⟩, hp⟩ : ∃ p, chgH r f zs = p := ⟨_, rfl⟩
    rw [hp] at hc ⊢
    obtain ⟨c0, c1, c2, c3⟩ := hc
    have c4 := c1.1
    simp only [Nat.zero_add] at c0 c2 c3 c4 ⊢
    refine ⟨c0, by omega, c3, by omega, by omega, ?_⟩
    have := Int.mul_le_mul_of_nonneg_left (show 1 ≤ min r f by omega) c0
    omega
end Go.Proofs.Ytnhodloclonfdaa
