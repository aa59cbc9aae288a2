/-
  PoolValid of both packages: one Lean function.
-/
import Derived.Test.YtgdcfhifiincaaaHost1
import Derived.Test.YtgdcfhifiincaaaIn
namespace Go.Proofs.Ytgdcfhifiincaaa
open Go.RowKit
set_option linter.unusedVariables false

def hostOk (prev : Int) (h : H3) : Bool := inB h.1 0 30 && decide (prev < h.1) && inB h.2.1 1 5 && inB h.2.2 0 2
def poolFrom : Int → List H3 → Bool
  | _, [] => true
  | p, h :: r => hostOk p h && poolFrom h.1 r
def poolV (hs : List H3) : Bool := poolFrom (-1) hs && decide (hs.length ≤ 6)
def prevOf (hs : List H3) (k : Nat) : Int := if k = 0 then -1 else (hAt hs (k - 1)).1
def PoolRel (hs : List H3) (k : Nat) : Prop := poolFrom (-1) hs = poolFrom (prevOf hs k) (hs.drop k)
theorem PoolRel.start (hs : List H3) : PoolRel hs 0 := by simp [PoolRel, prevOf]
theorem poolFrom_drop (p : Int) (hs : List H3) (k : Nat) (h : k < hs.length) : poolFrom p (hs.drop k) = (hostOk p (hAt hs k) && poolFrom (hAt hs k).1 (hs.drop (k + 1))) := by
  rw [List.drop_eq_getElem_cons h, poolFrom, hAt_eq h]
theorem PoolRel.next {hs : List H3} {k : Nat} (h : PoolRel hs k) (hk : k < hs.length) (ho : hostOk (prevOf hs k) (hAt hs k) = true) : PoolRel hs (k + 1) := by
  unfold PoolRel at h ⊢
  rw [h, poolFrom_drop _ _ _ hk, ho, Bool.true_and]
  simp [prevOf]
theorem PoolRel.bad {hs : List H3} {k : Nat} (h : PoolRel hs k) (hk : k < hs.length) (ho : hostOk (prevOf hs k) (hAt hs k) = false) : poolV hs = false := by
  unfold PoolRel at h
  unfold poolV
  rw [h, poolFrom_drop _ _ _ hk, ho, Bool.false_and, Bool.false_and]
theorem PoolRel.done {hs : List H3} {n : Nat} (h : PoolRel hs n) (hn : hs.length = n) : poolV hs = decide ((n : Int) ≤ 6) := by
  unfold PoolRel at h
  unfold poolV
  rw [h, ← hn, List.drop_length, poolFrom, Bool.true_and]
  congr 1
  simp
  omega
/-- How host k fares, in the order of the tests. -/
theorem hostOk_number {p : Int} {h : H3} (h0 : inB h.1 0 30 = false) : hostOk p h = false := by unfold hostOk; simp [h0]
theorem hostOk_weight {p : Int} {h : H3} (h0 : inB h.2.1 1 5 = false) : hostOk p h = false := by unfold hostOk; simp [h0]
theorem hostOk_state {p : Int} {h : H3} (h0 : inB h.2.2 0 2 = false) : hostOk p h = false := by unfold hostOk; simp [h0]
theorem hostOk_order {p : Int} {h : H3} (h0 : ¬ p < h.1) : hostOk p h = false := by unfold hostOk; simp [h0]
theorem hostOk_yes {p : Int} {h : H3} (h0 : inB h.1 0 30 = true) (h1 : p < h.1) (h2 : inB h.2.1 1 5 = true) (h3 : inB h.2.2 0 2 = true) : hostOk p h = true := by unfold hostOk; simp [h0, h1, h2, h3]
theorem prevOf_zero (hs : List H3) : prevOf hs 0 = -1 := rfl
theorem prevOf_pos (hs : List H3) {k : Nat} (h : 0 < k) : prevOf hs k = (hAt hs (k - 1)).1 := by unfold prevOf; rw [if_neg (by omega)]

theorem quiet_left {P : Program} {f : FuncId} {args : Array Value} {w : World} {n : Nat} {v : Value}
    (h : Calls P f args (w.drewN n) fun e w' => e = .returned v ∧ w.drewN n = w') : Calls P f args (w.drewN n) fun e w'' => e = .returned v ∧ ∃ m, w'' = w.drewN m :=
  h.mono fun _ _ ⟨he, hm⟩ => ⟨he, n, hm.symm⟩

set_option maxHeartbeats 1600000 in
theorem iPoolValid_any (A : Option Addr) (n c : Nat) (hs : List H3) (w : World) {lo hi : Nat} (hS : Sl w lo hi 3 A n (hostsV hs)) (hhi : hi ≤ w.heap.size) (hn : n ≤ 1048576) :
    Calls Try.prog 24 #[.slice A n c] w fun e w' => e = .returned (.bool (poolV hs)) ∧ Below w.heap.size w w' := by
  have HL := Lib.hid hS.hlen
  go_enter Try.func24, Try.ntmps24
  go_wp2
  go_loopw [7] (fun i wr => ∃ k : Nat, k ≤ n ∧ i = .int .i64 k ∧ PoolRel hs k ∧ Below w.heap.size w wr) (fun i _ => n - (intOf i).toNat)
  case atStart => exact ⟨0, Nat.zero_le _, rfl, PoolRel.start hs, Below.refl _ _⟩
  case round =>
    obtain ⟨k, hk, rfl, hr, hb⟩ := hrel
    have hz := hb.size
    by_cases hlt : k < n
    · have hlk : k < hs.length := by rw [HL.out]; exact hlt
      obtain ⟨b, off, rfl, _, _, c0, c1, c2⟩ := (hS.below hb hhi).host hlt
      obtain ⟨⟨h0, h1, h2⟩, hh⟩ : ∃ p, hAt hs k = p := ⟨_, rfl⟩
      have hki : (0 : Int) ≤ (k : Int) := by omega
      have hki2 : (k : Int) < (n : Int) := by omega
      rw [hh] at c0 c1 c2
      by_cases v0 : inB h0 0 30 = true
      · have b0 := inB_iff.1 v0
        by_cases hk0 : k = 0
        · have d0 : decide (0 < k) = false := by simp; omega
          by_cases v1 : inB h1 1 5 = true
          · by_cases v2 : inB h2 0 2 = true
            · have hnext := Lib.hid (hr.next hlk (by subst hk0; rw [hh]; exact hostOk_yes v0 (by rw [prevOf_zero]; show -1 < h0; omega) v1 v2))
              clear hh hk0
              go_wp2
              go_quiet ((go_at_call 46; exact quiet_left (in_any _ _ _ _)))
              go_wp2
              go_roundw
              case rel => exact ⟨k + 1, by omega, by go_num, hnext.out, below_drewN (hb.alloc hz _) _⟩
              case measure => simp [intOf]; omega
            · have HE := Lib.hid (hr.bad hlk (by rw [hh]; exact hostOk_state (Bool.eq_false_iff.2 v2)))
              have v2' := Bool.eq_false_iff.2 v2
              clear hh hk0 v2
              go_wp2
              go_quiet ((go_at_call 46; exact quiet_left (in_any _ _ _ _)))
              go_wp2
              go_ret
              exact ⟨ret_bool HE.out.symm, below_drewN (hb.alloc hz _) _⟩
          · have HE := Lib.hid (hr.bad hlk (by rw [hh]; exact hostOk_weight (Bool.eq_false_iff.2 v1)))
            have v1' := Bool.eq_false_iff.2 v1
            clear hh hk0 v1
            go_wp2
            go_quiet ((go_at_call 46; exact quiet_left (in_any _ _ _ _)))
            go_wp2
            go_ret
            exact ⟨ret_bool HE.out.symm, below_drewN (hb.alloc hz _) _⟩
        · have d0 : decide (0 < k) = true := by simp; omega
          have hp := prevOf_pos hs (k := k) (by omega)
          obtain ⟨_, _, e, _, _, p0, p1, p2⟩ := (hS.below hb hhi).host (k := k - 1) (by omega)
          injection e with e
          injection e with e1 e2
          subst e1 e2
          obtain ⟨⟨q0, q1, q2⟩, hq⟩ : ∃ p, hAt hs (k - 1) = p := ⟨_, rfl⟩
          rw [hq] at p0 p1 p2 hp
          have hbz : b < wr.heap.size := block_lt_of_cell p0
          have p0' : ∀ o, (wr.alloc o).cell? ⟨b, off + (k - 1) * 3, none⟩ = some (.int .i64 q0) := fun o => (World.cell?_alloc_lt wr o ⟨b, off + (k - 1) * 3, none⟩ hbz).trans p0
          have hkm : (0 : Int) ≤ (k : Int) - 1 := by omega
          have hkm2 : (k : Int) - 1 < (n : Int) := by omega
          have hkm3 : (1 : Int) ≤ (k : Int) := by omega
          have hkm4 : 1 ≤ k := by omega
          have hkm5 : k - 1 < n := by omega
          have hkm6 : ¬ (n : Int) ≤ (k : Int) - 1 := by omega
          by_cases v3 : q0 < h0
          · have d3 : decide (h0 ≤ q0) = false := by simp; omega
            by_cases v1 : inB h1 1 5 = true
            · by_cases v2 : inB h2 0 2 = true
              · have hnext := Lib.hid (hr.next hlk (by rw [hh, hp]; exact hostOk_yes v0 v3 v1 v2))
                clear hh hk0 hp hq v3
                have w1 : IntKind.i64.wrap ((k : Int) - 1) = (k : Int) - 1 := IntWalk.i64_in _ (by omega)
                have w2 : ((k : Int) - 1).toNat = k - 1 := by omega
                go_wp2
                go_quiet ((go_at_call 46; exact quiet_left (in_any _ _ _ _)))
                clear w1 w2
                go_wp2
                go_roundw
                case rel => exact ⟨k + 1, by omega, by go_num, hnext.out, below_drewN (hb.alloc hz _) _⟩
                case measure => simp [intOf]; omega
              · have HE := Lib.hid (hr.bad hlk (by rw [hh]; exact hostOk_state (Bool.eq_false_iff.2 v2)))
                have v2' := Bool.eq_false_iff.2 v2
                clear hh hk0 v2 hp hq v3
                have w1 : IntKind.i64.wrap ((k : Int) - 1) = (k : Int) - 1 := IntWalk.i64_in _ (by omega)
                have w2 : ((k : Int) - 1).toNat = k - 1 := by omega
                go_wp2
                go_quiet ((go_at_call 46; exact quiet_left (in_any _ _ _ _)))
                clear w1 w2
                go_wp2
                go_ret
                exact ⟨ret_bool HE.out.symm, below_drewN (hb.alloc hz _) _⟩
            · have HE := Lib.hid (hr.bad hlk (by rw [hh]; exact hostOk_weight (Bool.eq_false_iff.2 v1)))
              have v1' := Bool.eq_false_iff.2 v1
              clear hh hk0 v1 hp hq v3
              have w1 : IntKind.i64.wrap ((k : Int) - 1) = (k : Int) - 1 := IntWalk.i64_in _ (by omega)
              have w2 : ((k : Int) - 1).toNat = k - 1 := by omega
              go_wp2
              go_quiet ((go_at_call 46; exact quiet_left (in_any _ _ _ _)))
              clear w1 w2
              go_wp2
              go_ret
              exact ⟨ret_bool HE.out.symm, below_drewN (hb.alloc hz _) _⟩
          · have d3 : decide (h0 ≤ q0) = true := by simp; omega
            have HE := Lib.hid (hr.bad hlk (by rw [hh, hp]; exact hostOk_order v3))
            clear hh hk0 hp hq v3
            have w1 : IntKind.i64.wrap ((k : Int) - 1) = (k : Int) - 1 := IntWalk.i64_in _ (by omega)
            have w2 : ((k : Int) - 1).toNat = k - 1 := by omega
            go_wp2
            go_quiet ((go_at_call 46; exact quiet_left (in_any _ _ _ _)))
            clear w1 w2
            go_wp2
            go_ret
            exact ⟨ret_bool HE.out.symm, below_drewN (hb.alloc hz _) _⟩
      · have HE := Lib.hid (hr.bad hlk (by rw [hh]; exact hostOk_number (Bool.eq_false_iff.2 v0)))
        have v0' := Bool.eq_false_iff.2 v0
        clear hh v0
        go_wp2
        go_quiet ((go_at_call 46; exact quiet_left (in_any _ _ _ _)))
        go_wp2
        go_ret
        exact ⟨ret_bool HE.out.symm, below_drewN (hb.alloc hz _) _⟩
    · obtain rfl : n = k := by omega
      have HE := Lib.hid (hr.done HL.out)
      go_wp2
      go_ret
      exact ⟨ret_bool HE.out.symm, hb⟩

set_option maxHeartbeats 1600000 in
theorem sPoolValid_any (A : Option Addr) (n c : Nat) (hs : List H3) (w : World) {lo hi : Nat} (hS : Sl w lo hi 3 A n (hostsV hs)) (hhi : hi ≤ w.heap.size) (hn : n ≤ 1048576) :
    Calls Try.prog 34 #[.slice A n c] w fun e w' => e = .returned (.bool (poolV hs)) ∧ Below w.heap.size w w' := by
  have HL := Lib.hid hS.hlen
  go_enter Try.func34, Try.ntmps34
  go_wp2
  go_loopw [3] (fun i wr => ∃ k : Nat, k ≤ n ∧ i = .int .i64 k ∧ PoolRel hs k ∧ Below w.heap.size w wr) (fun i _ => n - (intOf i).toNat)
  case atStart => exact ⟨0, Nat.zero_le _, rfl, PoolRel.start hs, Below.refl _ _⟩
  case round =>
    obtain ⟨k, hk, rfl, hr, hb⟩ := hrel
    have hz := hb.size
    by_cases hlt : k < n
    · have hlk : k < hs.length := by rw [HL.out]; exact hlt
      obtain ⟨b, off, rfl, _, _, c0, c1, c2⟩ := (hS.below hb hhi).host hlt
      obtain ⟨⟨h0, h1, h2⟩, hh⟩ : ∃ p, hAt hs k = p := ⟨_, rfl⟩
      have hki : (0 : Int) ≤ (k : Int) := by omega
      have hki2 : (k : Int) < (n : Int) := by omega
      rw [hh] at c0 c1 c2
      by_cases v0 : inB h0 0 30 = true
      · have b0 := inB_iff.1 v0
        by_cases hk0 : k = 0
        · have d0 : decide (0 < k) = false := by simp; omega
          by_cases v1 : inB h1 1 5 = true
          · by_cases v2 : inB h2 0 2 = true
            · have hnext := Lib.hid (hr.next hlk (by subst hk0; rw [hh]; exact hostOk_yes v0 (by rw [prevOf_zero]; show -1 < h0; omega) v1 v2))
              clear hh hk0
              go_wp2
              go_quiet ((go_at_call 54; exact quiet_left (l1In_any _ _ _ _)))
              go_wp2
              go_roundw
              case rel => exact ⟨k + 1, by omega, by go_num, hnext.out, below_drewN hb _⟩
              case measure => simp [intOf]; omega
            · have HE := Lib.hid (hr.bad hlk (by rw [hh]; exact hostOk_state (Bool.eq_false_iff.2 v2)))
              have v2' := Bool.eq_false_iff.2 v2
              clear hh hk0 v2
              go_wp2
              go_quiet ((go_at_call 54; exact quiet_left (l1In_any _ _ _ _)))
              go_wp2
              go_ret
              exact ⟨ret_bool HE.out.symm, below_drewN hb _⟩
          · have HE := Lib.hid (hr.bad hlk (by rw [hh]; exact hostOk_weight (Bool.eq_false_iff.2 v1)))
            have v1' := Bool.eq_false_iff.2 v1
            clear hh hk0 v1
            go_wp2
            go_quiet ((go_at_call 54; exact quiet_left (l1In_any _ _ _ _)))
            go_wp2
            go_ret
            exact ⟨ret_bool HE.out.symm, below_drewN hb _⟩
        · have d0 : decide (0 < k) = true := by simp; omega
          have hp := prevOf_pos hs (k := k) (by omega)
          obtain ⟨_, _, e, _, _, p0, p1, p2⟩ := (hS.below hb hhi).host (k := k - 1) (by omega)
          injection e with e
          injection e with e1 e2
          subst e1 e2
          obtain ⟨⟨q0, q1, q2⟩, hq⟩ : ∃ p, hAt hs (k - 1) = p := ⟨_, rfl⟩
          rw [hq] at p0 p1 p2 hp
          have hbz : b < wr.heap.size := block_lt_of_cell p0
          have p0' : ∀ o, (wr.alloc o).cell? ⟨b, off + (k - 1) * 3, none⟩ = some (.int .i64 q0) := fun o => (World.cell?_alloc_lt wr o ⟨b, off + (k - 1) * 3, none⟩ hbz).trans p0
          have hkm : (0 : Int) ≤ (k : Int) - 1 := by omega
          have hkm2 : (k : Int) - 1 < (n : Int) := by omega
          have hkm3 : (1 : Int) ≤ (k : Int) := by omega
          have hkm4 : 1 ≤ k := by omega
          have hkm5 : k - 1 < n := by omega
          have hkm6 : ¬ (n : Int) ≤ (k : Int) - 1 := by omega
          by_cases v3 : q0 < h0
          · have d3 : decide (h0 ≤ q0) = false := by simp; omega
            by_cases v1 : inB h1 1 5 = true
            · by_cases v2 : inB h2 0 2 = true
              · have hnext := Lib.hid (hr.next hlk (by rw [hh, hp]; exact hostOk_yes v0 v3 v1 v2))
                clear hh hk0 hp hq v3
                have w1 : IntKind.i64.wrap ((k : Int) - 1) = (k : Int) - 1 := IntWalk.i64_in _ (by omega)
                have w2 : ((k : Int) - 1).toNat = k - 1 := by omega
                go_wp2
                go_quiet ((go_at_call 54; exact quiet_left (l1In_any _ _ _ _)))
                clear w1 w2
                go_wp2
                go_roundw
                case rel => exact ⟨k + 1, by omega, by go_num, hnext.out, below_drewN hb _⟩
                case measure => simp [intOf]; omega
              · have HE := Lib.hid (hr.bad hlk (by rw [hh]; exact hostOk_state (Bool.eq_false_iff.2 v2)))
                have v2' := Bool.eq_false_iff.2 v2
                clear hh hk0 v2 hp hq v3
                go_wp2
                go_quiet ((go_at_call 54; exact quiet_left (l1In_any _ _ _ _)))
                go_wp2
                go_ret
                exact ⟨ret_bool HE.out.symm, below_drewN hb _⟩
            · have HE := Lib.hid (hr.bad hlk (by rw [hh]; exact hostOk_weight (Bool.eq_false_iff.2 v1)))
              have v1' := Bool.eq_false_iff.2 v1
              clear hh hk0 v1 hp hq v3
              go_wp2
              go_quiet ((go_at_call 54; exact quiet_left (l1In_any _ _ _ _)))
              go_wp2
              go_ret
              exact ⟨ret_bool HE.out.symm, below_drewN hb _⟩
          · have d3 : decide (h0 ≤ q0) = true := by simp; omega
            have HE := Lib.hid (hr.bad hlk (by rw [hh, hp]; exact hostOk_order v3))
            clear hh hk0 hp hq v3
            by_cases v1 : inB h1 1 5 = true
            · by_cases v2 : inB h2 0 2 = true
              · have w1 : IntKind.i64.wrap ((k : Int) - 1) = (k : Int) - 1 := IntWalk.i64_in _ (by omega)
                have w2 : ((k : Int) - 1).toNat = k - 1 := by omega
                go_wp2
                go_quiet ((go_at_call 54; exact quiet_left (l1In_any _ _ _ _)))
                clear w1 w2
                go_wp2
                go_ret
                exact ⟨ret_bool HE.out.symm, below_drewN hb _⟩
              · have v2' := Bool.eq_false_iff.2 v2
                clear v2
                go_wp2
                go_quiet ((go_at_call 54; exact quiet_left (l1In_any _ _ _ _)))
                go_wp2
                go_ret
                exact ⟨ret_bool HE.out.symm, below_drewN hb _⟩
            · have v1' := Bool.eq_false_iff.2 v1
              clear v1
              go_wp2
              go_quiet ((go_at_call 54; exact quiet_left (l1In_any _ _ _ _)))
              go_wp2
              go_ret
              exact ⟨ret_bool HE.out.symm, below_drewN hb _⟩
      · have HE := Lib.hid (hr.bad hlk (by rw [hh]; exact hostOk_number (Bool.eq_false_iff.2 v0)))
        have v0' := Bool.eq_false_iff.2 v0
        clear hh v0
        go_wp2
        go_quiet ((go_at_call 54; exact quiet_left (l1In_any _ _ _ _)))
        go_wp2
        go_ret
        exact ⟨ret_bool HE.out.symm, below_drewN hb _⟩
    · obtain rfl : n = k := by omega
      have HE := Lib.hid (hr.done HL.out)
      go_wp2
      go_ret
      exact ⟨ret_bool HE.out.symm, hb⟩
end Go.Proofs.Ytgdcfhifiincaaa
