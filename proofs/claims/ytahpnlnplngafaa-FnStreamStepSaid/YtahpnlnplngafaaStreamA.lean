/-
  StreamStep, StayOf and StreamRun of both packages: one Lean function each.
-/
import Derived.Test.YtahpnlnplngafaaIn
namespace Go.Proofs.Ytahpnlnplngafaa
open Go.RowKit
set_option linter.unusedVariables false

def stepS (s k : Int) : Int :=
  if inB s 0 3 && inB k 1 4 then
    (if k = 4 ∧ s ≠ 0 then 3 else if k = 1 ∧ (s = 0 ∨ s = 3) then 1 else if k = 3 ∧ s = 1 then 2 else if k = 3 ∧ s = 2 then 3 else s)
  else -1
theorem stepS_bd (s k : Int) : -1 ≤ stepS s k ∧ stepS s k ≤ 3 := by
  unfold stepS
  split
  · rename_i h
    have h' := inB_iff.1 (Bool.and_eq_true_iff.1 h).1
    repeat' split
    all_goals omega
  · omega
theorem stepS_neg (s k : Int) (h : ¬ (0 ≤ s ∧ s ≤ 3 ∧ 1 ≤ k ∧ k ≤ 4)) : stepS s k = -1 := by
  unfold stepS
  rw [if_neg]
  intro hh
  have h1 := inB_iff.1 (Bool.and_eq_true_iff.1 hh).1
  have h2 := inB_iff.1 (Bool.and_eq_true_iff.1 hh).2
  omega
def runFrom : Int → List Int → Int
  | s, [] => s
  | s, k :: r => if s < 0 then s else runFrom (stepS s k) r
theorem runFrom_neg (s : Int) (l : List Int) (h : s < 0) : runFrom s l = s := by
  cases l with
  | nil => rfl
  | cons k r => rw [runFrom, if_pos h]
theorem runFrom_bd (l : List Int) : ∀ s : Int, -1 ≤ s → s ≤ 3 → -1 ≤ runFrom s l ∧ runFrom s l ≤ 3 := by
  induction l with
  | nil => intro s h1 h2; exact ⟨h1, h2⟩
  | cons k r ih =>
    intro s h1 h2
    rw [runFrom]
    split
    · exact ⟨h1, h2⟩
    · have := stepS_bd s k
      exact ih _ this.1 this.2
theorem runFrom_drop (zs : List Int) (s : Int) (k : Nat) (h : k < zs.length) (hs : 0 ≤ s) : runFrom s (zs.drop k) = runFrom (stepS s (zs[k]?.getD 0)) (zs.drop (k + 1)) := by
  rw [List.drop_eq_getElem_cons h, runFrom, if_neg (by omega)]
  simp [List.getElem?_eq_getElem h]
def runS (zs : List Int) : Int := if zs.length > 50 then -1 else runFrom 0 zs
theorem runS_long {zs : List Int} (h : 50 < zs.length) : runS zs = -1 := by unfold runS; rw [if_pos h]
theorem runS_short {zs : List Int} (h : zs.length ≤ 50) : runS zs = runFrom 0 zs := by unfold runS; rw [if_neg (by omega)]
/-- After some packets the state is st, the others are still to come. -/
def RunRel (zs : List Int) (k : Nat) (st : Int) : Prop := runFrom 0 zs = runFrom st (zs.drop k) ∧ -1 ≤ st ∧ st ≤ 3
theorem RunRel.start (zs : List Int) : RunRel zs 0 0 := ⟨by simp, by omega, by omega⟩
theorem RunRel.next {zs : List Int} {k : Nat} {st : Int} (h : RunRel zs k st) (hk : k < zs.length) (hs : 0 ≤ st) : RunRel zs (k + 1) (stepS st (zs[k]?.getD 0)) :=
  ⟨by rw [h.1]; exact runFrom_drop zs st k hk hs, (stepS_bd _ _).1, (stepS_bd _ _).2⟩
theorem RunRel.done {zs : List Int} {st : Int} (h : RunRel zs zs.length st) : runFrom 0 zs = st := by rw [h.1, List.drop_length]; rfl
theorem RunRel.out {zs : List Int} {k : Nat} {st : Int} (h : RunRel zs k st) (hs : st < 0) : runFrom 0 zs = st := by rw [h.1]; exact runFrom_neg _ _ hs
theorem RunRel.neg {zs : List Int} {k : Nat} {st : Int} (h : RunRel zs k st) (hs : st < 0) : st = -1 := by have := h.2; omega

def stayS (s : Int) : Int := if s = 0 then 30 else if s = 1 then 1000 else if s = 2 then 60 else if s = 3 then 10 else -1

theorem sStep_any (s k : Int) (w : World) :
    Calls Try.prog 19 #[.int .i64 s, .int .i64 k] w fun e w' => e = .returned (.int .i64 (stepS s k)) ∧ w = w' := by
  by_cases hv : 0 ≤ s ∧ s ≤ 3 ∧ 1 ≤ k ∧ k ≤ 4
  · have hs : s = 0 ∨ s = 1 ∨ s = 2 ∨ s = 3 := by omega
    have hk : k = 1 ∨ k = 2 ∨ k = 3 ∨ k = 4 := by omega
    clear hv
    rcases hs with rfl | rfl | rfl | rfl <;> rcases hk with rfl | rfl | rfl | rfl
    all_goals
      go_enter Try.func19, Try.ntmps19
      go_wp2_with (go_at_call 39; refine (l1In_any _ _ _ _).mono ?_; rw [inB_true (by omega)]; rintro e w' ⟨rfl, rfl⟩)
      go_ret
      exact ⟨ret_int (by decide), rfl⟩
  · have e := stepS_neg s k hv
    rw [e]
    clear e
    by_cases h1 : 0 ≤ s ∧ s ≤ 3
    · have e1 := inB_true h1
      have e2 : inB k 1 4 = false := inB_false (by omega)
      clear hv h1
      go_enter Try.func19, Try.ntmps19
      go_wp2_with (go_at_call 39; refine (l1In_any _ _ _ _).mono ?_; rintro e w' ⟨rfl, rfl⟩)
      go_ret
      exact ⟨rfl, rfl⟩
    · have e1 := inB_false h1
      clear hv h1
      go_enter Try.func19, Try.ntmps19
      go_wp2_with (go_at_call 39; refine (l1In_any _ _ _ _).mono ?_; rintro e w' ⟨rfl, rfl⟩)
      go_ret
      exact ⟨rfl, rfl⟩

theorem iStep_any (s k : Int) (w : World) :
    Calls Try.prog 20 #[.int .i64 s, .int .i64 k] w fun e w' => e = .returned (.int .i64 (stepS s k)) ∧ w = w' := by
  by_cases hv : 0 ≤ s ∧ s ≤ 3 ∧ 1 ≤ k ∧ k ≤ 4
  · have hs : s = 0 ∨ s = 1 ∨ s = 2 ∨ s = 3 := by omega
    have hk : k = 1 ∨ k = 2 ∨ k = 3 ∨ k = 4 := by omega
    clear hv
    rcases hs with rfl | rfl | rfl | rfl <;> rcases hk with rfl | rfl | rfl | rfl
    all_goals
      go_enter Try.func20, Try.ntmps20
      go_wp2_with (go_at_call 40; refine (in_any _ _ _ _).mono ?_; rw [inB_true (by omega)]; rintro e w' ⟨rfl, rfl⟩)
      go_ret
      exact ⟨ret_int (by decide), rfl⟩
  · have e := stepS_neg s k hv
    rw [e]
    clear e
    by_cases h1 : 0 ≤ s ∧ s ≤ 3
    · have e1 := inB_true h1
      have e2 : inB k 1 4 = false := inB_false (by omega)
      clear hv h1
      go_enter Try.func20, Try.ntmps20
      go_wp2_with (go_at_call 40; refine (in_any _ _ _ _).mono ?_; rintro e w' ⟨rfl, rfl⟩)
      go_ret
      exact ⟨rfl, rfl⟩
    · have e1 := inB_false h1
      clear hv h1
      go_enter Try.func20, Try.ntmps20
      go_wp2_with (go_at_call 40; refine (in_any _ _ _ _).mono ?_; rintro e w' ⟨rfl, rfl⟩)
      go_ret
      exact ⟨rfl, rfl⟩

theorem sRun_any (A : Option Addr) (n c : Nat) (zs : List Int) (w : World) {lo hi : Nat} (hs : Sl w lo hi 1 A n (zs.map (Value.int .i64))) (hn : n ≤ 9223372036854775807) :
    Calls Try.prog 25 #[.slice A n c] w fun e w' => e = .returned (.int .i64 (runS zs)) ∧ w = w' := by
  have hl := hs.len
  have HL := Lib.hid hl
  clear hl
  go_enter Try.func25, Try.ntmps25
  go_wp2
  go_loop [3, 4] (fun s i => ∃ (k : Nat) (st : Int), k ≤ n ∧ i = .int .i64 k ∧ s = .int .i64 st ∧ RunRel zs k st) (fun _ i => n - (intOf i).toNat)
  case atStart => exact ⟨0, 0, Nat.zero_le _, rfl, rfl, RunRel.start zs⟩
  case round =>
    obtain ⟨k, st, hk, rfl, rfl, hr⟩ := hrel
    have hst := hr.2
    by_cases hlt : k < n
    · by_cases hs0 : 0 ≤ st
      · obtain ⟨b, off, rfl, _, _, hc⟩ := hs.num hlt
        have hnext := hr.next (by rw [HL.out]; exact hlt) hs0
        go_wp2_with (go_at_call 19; refine (sStep_any _ _ _).mono ?_; rintro e w' ⟨rfl, rfl⟩)
        go_round
        case rel => exact ⟨k + 1, _, by omega, by go_num, rfl, hnext⟩
        case measure => simp [intOf]; omega
      · have e1 := hr.out (by omega)
        have e2 := hr.neg (by omega)
        have hs1 : st < 0 := by omega
        by_cases h50 : 50 < n
        · have HE := Lib.hid (runS_long (zs := zs) (by rw [HL.out]; exact h50))
          clear e1 e2
          go_wp2
          go_ret
          exact ⟨ret_int HE.out.symm, rfl⟩
        · have HE := Lib.hid ((runS_short (zs := zs) (by rw [HL.out]; omega)).trans e1)
          clear e1 e2
          go_wp2
          go_ret
          exact ⟨ret_int HE.out.symm, rfl⟩
    · obtain rfl : n = k := by omega
      have e1 : runFrom 0 zs = st := RunRel.done (by rw [HL.out]; exact hr)
      by_cases h50 : 50 < n
      · have HE := Lib.hid (runS_long (zs := zs) (by rw [HL.out]; exact h50))
        clear e1
        go_wp2
        go_ret
        exact ⟨ret_int HE.out.symm, rfl⟩
      · have HE := Lib.hid ((runS_short (zs := zs) (by rw [HL.out]; omega)).trans e1)
        clear e1
        go_wp2
        go_ret
        exact ⟨ret_int HE.out.symm, rfl⟩

theorem iRun_any (A : Option Addr) (n c : Nat) (zs : List Int) (w : World) {lo hi : Nat} (hs : Sl w lo hi 1 A n (zs.map (Value.int .i64))) (hn : n ≤ 9223372036854775807) :
    Calls Try.prog 27 #[.slice A n c] w fun e w' => e = .returned (.int .i64 (runS zs)) ∧ w = w' := by
  have hl := hs.len
  have HL := Lib.hid hl
  clear hl
  by_cases h50 : 50 < n
  · have HE := Lib.hid (runS_long (zs := zs) (by rw [HL.out]; exact h50))
    go_enter Try.func27, Try.ntmps27
    go_wp2
    go_ret
    exact ⟨ret_int HE.out.symm, rfl⟩
  · have HE := Lib.hid (runS_short (zs := zs) (by rw [HL.out]; omega))
    go_enter Try.func27, Try.ntmps27
    go_wp2
    go_loop [3, 11] (fun s i => ∃ (k : Nat) (st : Int), k ≤ n ∧ i = .int .i64 k ∧ s = .int .i64 st ∧ RunRel zs k st ∧ 0 ≤ st) (fun _ i => n - (intOf i).toNat)
    case atStart => exact ⟨0, 0, Nat.zero_le _, rfl, rfl, RunRel.start zs, by omega⟩
    case round =>
      obtain ⟨k, st, hk, rfl, rfl, hr, hs0⟩ := hrel
      have hst := hr.2
      by_cases hlt : k < n
      · obtain ⟨b, off, rfl, _, _, hc⟩ := hs.num hlt
        have hnext := hr.next (by rw [HL.out]; exact hlt) hs0
        obtain ⟨x, hx⟩ : ∃ x, stepS st (zs[k]?.getD 0) = x := ⟨_, rfl⟩
        rw [hx] at hnext
        by_cases hx0 : x < 0
        · have HX := Lib.hid ((HE.out.trans (hnext.out hx0)).trans (hnext.neg hx0))
          have hxx := Lib.hid hx
          clear hx
          go_wp2_with (go_at_call 20; refine (iStep_any _ _ _).mono ?_; rw [hxx.out]; rintro e w' ⟨rfl, rfl⟩)
          go_ret
          exact ⟨ret_int HX.out.symm, rfl⟩
        · have hxx := Lib.hid hx
          clear hx
          go_wp2_with (go_at_call 20; refine (iStep_any _ _ _).mono ?_; rw [hxx.out]; rintro e w' ⟨rfl, rfl⟩)
          go_round
          case rel => exact ⟨k + 1, _, by omega, by go_num, rfl, hnext, by omega⟩
          case measure => simp [intOf]; omega
      · obtain rfl : n = k := by omega
        have e1 : runFrom 0 zs = st := RunRel.done (by rw [HL.out]; exact hr)
        have HX := Lib.hid (HE.out.trans e1)
        clear e1
        go_wp2
        go_ret
        exact ⟨ret_int HX.out.symm, rfl⟩
end Go.Proofs.Ytahpnlnplngafaa
