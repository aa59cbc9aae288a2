/-
  sameInts; the plain law of spreads.
-/
import Derived.Test.YtfobcggcilbgbaaHostL
import Derived.Test.YtfobcggcilbgbaaSpread
namespace Go.Proofs.Ytfobcggcilbgbaa
open Go.RowKit
set_option linter.unusedVariables false

set_option maxHeartbeats 1600000 in
theorem sameInts_yes (A A' : Option Addr) (n c c' : Nat) (ks : List Int) (w : World) {lo hi lo' hi' : Nat} (hS : Sl w lo hi 1 A n (ks.map (Value.int .i64))) (hS' : Sl w lo' hi' 1 A' n (ks.map (Value.int .i64))) (hhi : hi ≤ w.heap.size) (hhi' : hi' ≤ w.heap.size) (hn : n ≤ 1048576) :
    Calls Try.prog 29 #[.slice A n c, .slice A' n c'] w fun e w' => e = .returned (.bool true) ∧ Below w.heap.size w w' := by
  go_enter Try.func29, Try.ntmps29
  go_wp2
  go_loopw [5] (fun i wr => ∃ k : Nat, k ≤ n ∧ i = .int .i64 k ∧ Below w.heap.size w wr) (fun i _ => n - (intOf i).toNat)
  case atStart => exact ⟨0, Nat.zero_le _, rfl, Below.refl _ _⟩
  case round =>
    obtain ⟨k, hk, rfl, hb⟩ := hrel
    by_cases hlt : k < n
    · obtain ⟨b, off, rfl, _, hbh, c0⟩ := (hS.below hb hhi).num hlt
      obtain ⟨b', off', rfl, _, hbh', c0'⟩ := (hS'.below hb hhi').num hlt
      obtain ⟨h0, hh⟩ : ∃ p, ks[k]?.getD 0 = p := ⟨_, rfl⟩
      rw [hh] at c0 c0'
      clear hh
      have hki : (0 : Int) ≤ (k : Int) := by omega
      have hki2 : (k : Int) < (n : Int) := by omega
      go_wp2
      go_quiet (fail)
      go_wp2
      go_roundw
      case rel => exact ⟨k + 1, by omega, by go_num, below_drewN hb _⟩
      case measure => simp [intOf]; omega
    · obtain rfl : n = k := by omega
      go_wp2
      go_ret
      exact ⟨rfl, hb⟩

/-! ### the plain law of spreads -/
def cntH (zs : List Int) (hs : List H3) : Int := (hs.map fun h => ((cntL zs h.1 : Nat) : Int)).sum
theorem cntL_cons (zs : List Int) (y x : Int) : cntL (y :: zs) x = cntL zs x + if y = x then 1 else 0 := by
  unfold cntL
  rw [List.countP_cons]
  by_cases h : y = x <;> simp [h]
theorem cntH_cons (y : Int) (zs : List Int) (hs : List H3) : cntH (y :: zs) hs = cntH zs hs + ((hs.countP fun h => h.1 == y : Nat) : Int) := by
  induction hs with
  | nil => rfl
  | cons h r ih =>
    unfold cntH at ih ⊢
    rw [List.map_cons, List.map_cons, List.sum_cons, List.sum_cons, ih, cntL_cons, List.countP_cons]
    by_cases e : y = h.1
    · rw [if_pos e, if_pos (by simp [e])]; push_cast; omega
    · rw [if_neg e, if_neg (by simp; exact fun h' => e h'.symm)]; push_cast; omega
theorem count_none {hs : List H3} {y : Int} (h : ∀ x ∈ hs, x.1 ≠ y) : hs.countP (fun h => h.1 == y) = 0 := by
  rw [List.countP_eq_zero]
  intro x hx
  simpa using h x hx
theorem count_one {hs : List H3} (ha : hs.Pairwise fun a b => a.1 < b.1) {y : Int} (h : ∃ x ∈ hs, x.1 = y) : hs.countP (fun h => h.1 == y) = 1 := by
  induction hs with
  | nil => obtain ⟨x, hx, _⟩ := h; cases hx
  | cons a r ih =>
    obtain ⟨h1, h2⟩ := List.pairwise_cons.1 ha
    rw [List.countP_cons]
    by_cases e : a.1 = y
    · rw [if_pos (by simp [e]), count_none (fun x hx e2 => by have := h1 x hx; omega)]
    · rw [if_neg (by simpa using e)]
      obtain ⟨x, hx, hy⟩ := h
      rcases List.mem_cons.1 hx with rfl | hx
      · exact absurd hy e
      · rw [ih h2 ⟨x, hx, hy⟩]
theorem cntH_all {hs : List H3} (ha : hs.Pairwise fun a b => a.1 < b.1) : ∀ zs : List Int, (∀ y ∈ zs, ∃ x ∈ hs, x.1 = y) → cntH zs hs = zs.length := by
  intro zs
  induction zs with
  | nil =>
    intro _
    unfold cntH
    simp [cntL]
    induction hs with
    | nil => rfl
    | cons a r ih => simp; exact ih (List.pairwise_cons.1 ha).2 (fun y hy => by cases hy)
  | cons y r ih =>
    intro h
    rw [cntH_cons, ih (fun z hz => h z (List.mem_cons_of_mem _ hz)), count_one ha (h y (by simp))]
    simp
theorem cntH_none {hs : List H3} : ∀ zs : List Int, (∀ y ∈ zs, ∀ x ∈ hs, x.1 ≠ y) → cntH zs hs = 0 := by
  intro zs
  induction zs with
  | nil =>
    intro _
    unfold cntH
    simp [cntL]
    induction hs with
    | nil => rfl
    | cons a r ih => simp; exact ih (fun y hy => by cases hy)
  | cons y r ih =>
    intro h
    rw [cntH_cons, ih (fun z hz => h z (List.mem_cons_of_mem _ hz)), count_none (h y (by simp))]
    rfl
/-- What the law says of spreads. -/
theorem spread_law (way : Int) (hs : List H3) (ks : List Int) (h7 : ks.length ≤ 7) : spreadL way hs ks = [] ∨ (poolV hs = true ∧ (spreadL way hs ks).length = hs.length ∧ (∀ j, j < hs.length → 0 ≤ (spreadL way hs ks)[j]?.getD 0 ∧ (spreadL way hs ks)[j]?.getD 0 ≤ 7 ∧ ((hAt hs j).2.2 ≠ 1 → (spreadL way hs ks)[j]?.getD 0 = 0)) ∧ (((upNV hs).length = 0 ∧ (spreadL way hs ks).sum = 0) ∨ ((upNV hs).length ≠ 0 ∧ (spreadL way hs ks).sum = (ks.length : Int)))) := by
  by_cases hc : poolV hs = true ∧ fitK way ks = true
  · right
    obtain ⟨hv, hf⟩ := hc
    have e : spreadL way hs ks = spreadR way hs ks := by unfold spreadL; rw [if_pos ⟨hv, hf⟩]
    rw [e]
    obtain ⟨_, hway, hkey⟩ := fit_facts hf
    have hw := inB_iff.1 hway
    have hkm : ∀ y ∈ ks, keyV y = true := fun y hy => by
      obtain ⟨j, hj, rfl⟩ := List.mem_iff_getElem.1 hy
      have := hkey j hj
      rwa [List.getElem?_eq_getElem hj] at this
    have hsum : (spreadR way hs ks).sum = cntH (ks.map (hostBy way hs)) hs := rfl
    have hun : (upNV hs).length = (upL hs).length := by unfold upNV upN; rw [if_pos hv, List.length_map]
    refine ⟨hv, spreadR_len _ _ _, fun j hj => ?_, ?_⟩
    · rw [spreadR_at way hs ks hj]
      have hle := cntL_le (ks.map (hostBy way hs)) (hAt hs j).1
      rw [List.length_map] at hle
      refine ⟨by simp, by simp; omega, fun hne => ?_⟩
      have : cntL (ks.map (hostBy way hs)) (hAt hs j).1 = 0 := by
        unfold cntL
        rw [List.countP_eq_zero]
        intro y hy
        simp only [beq_iff_eq]
        intro he
        obtain ⟨z, hz, rfl⟩ := List.mem_map.1 hy
        have hb := pool_mem hv _ (hAt_mem hj)
        rcases hostBy_cases way hs z with h | ⟨_, _, _, h⟩
        · omega
        · unfold upN at h
          obtain ⟨x, hx, hx1⟩ := List.mem_map.1 h
          obtain ⟨hm, h1⟩ := up_mem hx
          have := num_inj hv hm (hAt_mem hj) (by rw [hx1, he])
          rw [this] at h1
          exact hne h1
      rw [this]
      rfl
    · rw [hsum]
      by_cases hu : upL hs = []
      · left
        refine ⟨by rw [hun, hu]; rfl, cntH_none _ fun y hy x hx e => ?_⟩
        obtain ⟨z, hz, rfl⟩ := List.mem_map.1 hy
        rw [hostBy_none hu] at e
        have := pool_mem hv x hx
        omega
      · right
        refine ⟨by rw [hun]; exact fun h => hu (List.eq_nil_of_length_eq_zero h), ?_⟩
        rw [cntH_all (pool_asc' hv) _ fun y hy => ?_, List.length_map]
        obtain ⟨z, hz, rfl⟩ := List.mem_map.1 hy
        have h := hostBy_in hw.1 hw.2 hv (hkm z hz) hu
        unfold upN at h
        obtain ⟨x, hx, hx1⟩ := List.mem_map.1 h
        exact ⟨x, (up_mem hx).1, hx1⟩
  · left
    unfold spreadL
    rw [if_neg hc]
theorem sum_take {xs : List Int} {k : Nat} (h : k < xs.length) : (xs.take (k + 1)).sum = (xs.take k).sum + xs[k]?.getD 0 := by
  rw [List.take_succ_eq_append_getElem h, List.sum_append, List.getElem?_eq_getElem h]
  simp
end Go.Proofs.Ytfobcggcilbgbaa
