/-
  HealthRun and HealthChanges of both packages: one Lean function each.
-/
import Derived.Test.YtnhodloclonfdaaHealthA
import Derived.Test.YtnhodloclonfdaaCopyBool
namespace Go.Proofs.Ytnhodloclonfdaa
open Go.RowKit
set_option linter.unusedVariables false

theorem sHealthStep_is {u : Bool} {c : Int} {a : Bool} {r f : Int} {u1 : Bool} {c1 : Int} (h : stepH u c a r f = (u1, c1)) (w : World) :
    Calls Try.prog 11 #[.agg #[.bool u, .int .i64 c], .bool a, .int .i64 r, .int .i64 f] w fun e w' => e = .returned (.agg #[.bool u1, .int .i64 c1]) ∧ Below w.heap.size w w' :=
  (sHealthStep_any u c a r f w).mono fun _ _ ⟨he, hb⟩ => ⟨by rw [he, h]; rfl, hb⟩
theorem iHealthStep_is {u : Bool} {c : Int} {a : Bool} {r f : Int} {u1 : Bool} {c1 : Int} (h : stepH u c a r f = (u1, c1)) (w : World) :
    Calls Try.prog 13 #[.agg #[.bool u, .int .i64 c], .bool a, .int .i64 r, .int .i64 f] w fun e w' => e = .returned (.agg #[.bool u1, .int .i64 c1]) ∧ Below w.heap.size w w' :=
  (iHealthStep_any u c a r f w).mono fun _ _ ⟨he, hb⟩ => ⟨by rw [he, h]; rfl, hb⟩

/-- What is known after the first tests, and how often it has changed. -/
def foldH (r f : Int) : List Bool → Bool × Int
  | l => l.foldl (fun h a => stepH h.1 h.2 a r f) (false, 0)
theorem foldH_succ (r f : Int) (zs : List Bool) (k : Nat) (h : k < zs.length) : foldH r f (zs.take (k + 1)) = stepH (foldH r f (zs.take k)).1 (foldH r f (zs.take k)).2 (zs[k]?.getD false) r f := by
  unfold foldH
  rw [List.take_succ_eq_append_getElem h, List.foldl_append, List.getElem?_eq_getElem h]
  rfl
def neededB (r f : Int) : Bool := inB r 1 10 && inB f 1 10
theorem needed_is {r f : Int} {b : Bool} (h : neededB r f = b) (w : World) : Calls Try.prog 39 #[.int .i64 r, .int .i64 f] w fun e w' => e = .returned (.bool b) ∧ w = w' :=
  (needed_any r f w).mono fun _ _ ⟨he, hw⟩ => ⟨he.trans (ret_bool h), hw⟩
theorem stepH_unneeded {r f : Int} (h : neededB r f = false) (u : Bool) (c : Int) (a : Bool) : stepH u c a r f = (false, 0) :=
  stepH_bad (by unfold healthOk; unfold neededB at h; rw [h]; simp)
theorem foldH_unneeded {r f : Int} (h : neededB r f = false) (zs : List Bool) : foldH r f zs = (false, 0) := by
  have gen : ∀ (l : List Bool) (x : Bool × Int), x = (false, 0) → l.foldl (fun h a => stepH h.1 h.2 a r f) x = (false, 0) := by
    intro l
    induction l with
    | nil => intro x hx; exact hx
    | cons a t ih => intro x hx; exact ih _ (stepH_unneeded h _ _ _)
  exact gen zs _ rfl
def runH (zs : List Bool) (r f : Int) : Bool × Int := if zs.length > 60 then (false, 0) else foldH r f zs
theorem runH_long {zs : List Bool} {r f : Int} (h : 60 < zs.length) : runH zs r f = (false, 0) := by unfold runH; rw [if_pos h]
theorem runH_short {zs : List Bool} {r f : Int} (h : ¬ 60 < zs.length) : runH zs r f = foldH r f zs := by unfold runH; rw [if_neg (by omega)]

/-- How often what is held changes on the first tests. -/
def chgH (r f : Int) : List Bool → Bool × Int × Int
  | l => l.foldl (fun h a => ((stepH h.1 h.2.1 a r f).1, (stepH h.1 h.2.1 a r f).2, if (stepH h.1 h.2.1 a r f).1 = h.1 then h.2.2 else h.2.2 + 1)) (false, 0, 0)
theorem chgH_succ (r f : Int) (zs : List Bool) (k : Nat) (h : k < zs.length) {u : Bool} {c m : Int} (e : chgH r f (zs.take k) = (u, c, m)) {u1 : Bool} {c1 : Int} (e1 : stepH u c (zs[k]?.getD false) r f = (u1, c1)) :
    chgH r f (zs.take (k + 1)) = (u1, c1, if u1 = u then m else m + 1) := by
  have : chgH r f (zs.take (k + 1)) = ((stepH u c (zs[k]?.getD false) r f).1, (stepH u c (zs[k]?.getD false) r f).2, if (stepH u c (zs[k]?.getD false) r f).1 = u then m else m + 1) := by
    have hu : (chgH r f (zs.take k)).1 = u := by rw [e]
    have hc : (chgH r f (zs.take k)).2.1 = c := by rw [e]
    have hm : (chgH r f (zs.take k)).2.2 = m := by rw [e]
    rw [← hu, ← hc, ← hm]
    unfold chgH
    rw [List.take_succ_eq_append_getElem h, List.foldl_append, List.getElem?_eq_getElem h]
    rfl
  rw [this, e1]
def changesH (zs : List Bool) (r f : Int) : Int := if zs.length > 60 ∨ neededB r f = false then -1 else (chgH r f zs).2.2
theorem changesH_bad {zs : List Bool} {r f : Int} (h : 60 < zs.length ∨ neededB r f = false) : changesH zs r f = -1 := by unfold changesH; rw [if_pos h]
theorem changesH_ok {zs : List Bool} {r f : Int} (h : ¬ 60 < zs.length) (h2 : neededB r f = true) : changesH zs r f = (chgH r f zs).2.2 := by unfold changesH; rw [if_neg]; rw [h2]; simp; omega
/-- The loop's relation of HealthChanges: what is known and the count after k tests. -/
def ChgRel (zs : List Bool) (r f : Int) (k : Nat) (u : Bool) (c m : Int) : Prop := chgH r f (zs.take k) = (u, c, m) ∧ 0 ≤ m ∧ m ≤ k
theorem ChgRel.start (zs : List Bool) (r f : Int) : ChgRel zs r f 0 false 0 0 := ⟨rfl, by omega, by omega⟩
theorem ChgRel.next {zs : List Bool} {r f : Int} {k : Nat} {u : Bool} {c m : Int} (h : ChgRel zs r f k u c m) (hk : k < zs.length) {u1 : Bool} {c1 : Int} (e1 : stepH u c (zs[k]?.getD false) r f = (u1, c1)) :
    ChgRel zs r f (k + 1) u1 c1 (if u1 = u then m else m + 1) := by
  refine ⟨chgH_succ r f zs k hk h.1 e1, ?_, ?_⟩
  · have := h.2; split <;> omega
  · have := h.2; split <;> omega
theorem ChgRel.done {zs : List Bool} {r f : Int} {u : Bool} {c m : Int} (h : ChgRel zs r f zs.length u c m) : (chgH r f zs).2.2 = m := by
  have := h.1
  rw [List.take_length] at this
  rw [this]
/-- The loop's relation of HealthRun. -/
def RunHRel (zs : List Bool) (r f : Int) (k : Nat) (u : Bool) (c : Int) : Prop := foldH r f (zs.take k) = (u, c)
theorem RunHRel.start (zs : List Bool) (r f : Int) : RunHRel zs r f 0 false 0 := rfl
theorem RunHRel.next {zs : List Bool} {r f : Int} {k : Nat} {u : Bool} {c : Int} (h : RunHRel zs r f k u c) (hk : k < zs.length) {u1 : Bool} {c1 : Int} (e1 : stepH u c (zs[k]?.getD false) r f = (u1, c1)) : RunHRel zs r f (k + 1) u1 c1 := by
  unfold RunHRel at h ⊢
  rw [foldH_succ r f zs k hk, h]; exact e1
theorem RunHRel.done {zs : List Bool} {r f : Int} {u : Bool} {c : Int} (h : RunHRel zs r f zs.length u c) : foldH r f zs = (u, c) := by
  have := h
  unfold RunHRel at this
  rwa [List.take_length] at this
theorem below_set {w wr : World} {g i : Nat} (h : Below w.heap.size w wr) (hg : w.heap.size ≤ g) (u : Value) : Below w.heap.size w (wr.setCell ⟨g, i, none⟩ u) := h.setCell (p := ⟨g, i, none⟩) hg u

theorem sHealthRun_any (A : Option Addr) (n c : Nat) (zs : List Bool) (r f : Int) (w : World) {lo hi : Nat} (hs : Sl w lo hi 1 A n (zs.map Value.bool)) (hhi : hi ≤ w.heap.size) (hn : n ≤ 9223372036854775807) :
    Calls Try.prog 17 #[.slice A n c, .int .i64 r, .int .i64 f] w fun e w' => e = .returned (hV (runH zs r f)) ∧ Below w.heap.size w w' := by
  have HL : Hid (zs.length = n) := Lib.hid (by have := hs.1; simpa using this)
  by_cases h60 : 60 < n
  · have HE := Lib.hid (runH_long (r := r) (f := f) (zs := zs) (by rw [HL.out]; exact h60))
    go_enter Try.func17, Try.ntmps17
    go_wp2
    exact bodyPost_ret (v := .agg #[.bool false, .int .i64 0]) (by simp [results, Try.results17, go_sem]) rfl ⟨ret_h HE.out, by (repeat' first | exact Below.refl _ _ | refine Below.alloc ?_ (by simp; try omega) _)⟩
  · have HE := Lib.hid (runH_short (r := r) (f := f) (zs := zs) (by rw [HL.out]; exact h60))
    have hd60 : decide ((60 : Int) < (n : Int)) = false := by simp; omega
    go_enter Try.func17, Try.ntmps17
    go_wp2
    go_loopw [8] (fun i wr => ∃ (k : Nat) (u : Bool) (c : Int), k ≤ n ∧ i = .int .i64 k ∧ RunHRel zs r f k u c ∧ Blk wr w.heap.size 24 #[.bool false, .int .i64 0] ∧ Blk wr (w.heap.size + 1) 24 #[.bool u, .int .i64 c] ∧ Below w.heap.size w wr) (fun i _ => n - (intOf i).toNat)
    case atStart => exact ⟨0, false, 0, Nat.zero_le _, rfl, RunHRel.start zs r f, (Blk.new _ _ _).alloc _, by simpa using Blk.new (w.alloc (.cells #[.bool false, .int .i64 0] 24)) 24 #[.bool false, .int .i64 0], by (repeat' first | exact Below.refl _ _ | refine Below.alloc ?_ (by simp; try omega) _)⟩
    case round =>
      obtain ⟨k, u, c, hk, rfl, hr, hB0, hB1, hb⟩ := hrel
      have hz := hb.size
      have hz1 := hB1.lt
      obtain ⟨d0, d1, d2⟩ := hB0.two
      obtain ⟨e0, e1, e2⟩ := hB1.two
      by_cases hlt : k < n
      · obtain ⟨b, off, rfl, _, _, hc, _⟩ := (hs.below hb hhi).Bool hlt
        obtain ⟨⟨u1, c1⟩, hx⟩ : ∃ p, stepH u c (zs[k]?.getD false) r f = p := ⟨_, rfl⟩
        have hnext := hr.next (by rw [HL.out]; exact hlt) hx
        have HX := Lib.hid hx
        clear hx
        go_wp2
        go_region_with (go_at_call 11; refine (sHealthStep_is HX.out _).mono ?_; rintro e w1 ⟨rfl, hb1⟩; have f0 := ((hB0.drew).below hb1 (by simp; omega)); have f1 := ((hB1.drew).below hb1 hz1); obtain ⟨g0, g1, g2⟩ := f1.two; have hb2 := (hb.drew).trans (hb1.mono hz))
        all_goals
          have hN := ((f1.set_ 0 (.bool u1)).set_ 1 (.int .i64 c1))
          have hM := (f0.far (p := ⟨w.heap.size + 1, 0, none⟩) (by simp) (.bool u1)).far (p := ⟨w.heap.size + 1, 1, none⟩) (by simp) (.int .i64 c1)
          have hb3 := below_set (below_set (g := w.heap.size + 1) (i := 0) hb2 (by omega) (.bool u1)) (g := w.heap.size + 1) (i := 1) (by omega) (.int .i64 c1)
          go_wp2
          go_roundw
          case rel => exact ⟨k + 1, u1, c1, by omega, by go_num, hnext, hM, hN, hb3⟩
          case measure => simp [intOf]; omega
      · obtain rfl : n = k := by omega
        have HD := Lib.hid (HE.out.trans (RunHRel.done (by rw [HL.out]; exact hr)))
        go_wp2
        refine bodyPost_ret (v := .agg #[.bool u, .int .i64 c]) (by simp [results, Try.results17, go_sem, d0, d1]) rfl ⟨ret_h HD.out, ?_⟩
        exact below_set (below_set hb (Nat.le_refl _) _) (Nat.le_refl _) _

theorem iHealthRun_any (A : Option Addr) (n c : Nat) (zs : List Bool) (r f : Int) (w : World) {lo hi : Nat} (hs : Sl w lo hi 1 A n (zs.map Value.bool)) (hhi : hi ≤ w.heap.size) (hn : n ≤ 9223372036854775807) :
    Calls Try.prog 19 #[.slice A n c, .int .i64 r, .int .i64 f] w fun e w' => e = .returned (hV (runH zs r f)) ∧ Below w.heap.size w w' := by
  have HL : Hid (zs.length = n) := Lib.hid (by have := hs.1; simpa using this)
  by_cases h60 : 60 < n
  · have HE := Lib.hid (runH_long (r := r) (f := f) (zs := zs) (by rw [HL.out]; exact h60))
    go_enter Try.func19, Try.ntmps19
    go_wp2
    exact bodyPost_ret (v := .agg #[.bool false, .int .i64 0]) (by simp [results, Try.results19, go_sem]) rfl ⟨ret_h HE.out, by (repeat' first | exact Below.refl _ _ | refine Below.alloc ?_ (by simp; try omega) _)⟩
  · have HE := Lib.hid (runH_short (r := r) (f := f) (zs := zs) (by rw [HL.out]; exact h60))
    have hd60 : decide ((60 : Int) < (n : Int)) = false := by simp; omega
    by_cases hv : neededB r f = true
    · have hv2 := Lib.hid hv
      clear hv
      go_enter Try.func19, Try.ntmps19
      go_wp2_with (go_at_call 39; refine (needed_is hv2.out _).mono ?_; rintro e w' ⟨rfl, rfl⟩)
      go_loopw [22] (fun i wr => ∃ (k : Nat) (u : Bool) (c : Int), k ≤ n ∧ i = .int .i64 k ∧ RunHRel zs r f k u c ∧ Blk wr w.heap.size 24 #[.bool false, .int .i64 0] ∧ Blk wr (w.heap.size + 1) 24 #[.bool u, .int .i64 c] ∧ Below w.heap.size w wr) (fun i _ => n - (intOf i).toNat)
      case atStart => exact ⟨0, false, 0, Nat.zero_le _, rfl, RunHRel.start zs r f, (Blk.new _ _ _).alloc _, by simpa using Blk.new (w.alloc (.cells #[.bool false, .int .i64 0] 24)) 24 #[.bool false, .int .i64 0], by (repeat' first | exact Below.refl _ _ | refine Below.alloc ?_ (by simp; try omega) _)⟩
      case round =>
        obtain ⟨k, u, c, hk, rfl, hr, hB0, hB1, hb⟩ := hrel
        have hz := hb.size
        have hz1 := hB1.lt
        obtain ⟨d0, d1, d2⟩ := hB0.two
        obtain ⟨e0, e1, e2⟩ := hB1.two
        by_cases hlt : k < n
        · obtain ⟨b, off, rfl, _, _, hc, _⟩ := (hs.below hb hhi).Bool hlt
          obtain ⟨⟨u1, c1⟩, hx⟩ : ∃ p, stepH u c (zs[k]?.getD false) r f = p := ⟨_, rfl⟩
          have hnext := hr.next (by rw [HL.out]; exact hlt) hx
          have HX := Lib.hid hx
          clear hx
          go_wp2_with (go_at_call 13; refine (iHealthStep_is HX.out _).mono ?_; rintro e w1 ⟨rfl, hb1⟩; have f0 := (hB0.below hb1 (by omega)); have f1 := (hB1.below hb1 hz1); obtain ⟨g0, g1, g2⟩ := f1.two; have hb2 := hb.trans (hb1.mono hz))
          have hN := ((f1.set_ 0 (.bool u1)).set_ 1 (.int .i64 c1))
          have hM := (f0.far (p := ⟨w.heap.size + 1, 0, none⟩) (by simp) (.bool u1)).far (p := ⟨w.heap.size + 1, 1, none⟩) (by simp) (.int .i64 c1)
          have hb3 := below_set (below_set (g := w.heap.size + 1) (i := 0) hb2 (by omega) (.bool u1)) (g := w.heap.size + 1) (i := 1) (by omega) (.int .i64 c1)
          go_roundw
          case rel => exact ⟨k + 1, u1, c1, by omega, by go_num, hnext, hM, hN, hb3⟩
          case measure => simp [intOf]; omega
        · obtain rfl : n = k := by omega
          have HD := Lib.hid (HE.out.trans (RunHRel.done (by rw [HL.out]; exact hr)))
          go_wp2
          refine bodyPost_ret (v := .agg #[.bool u, .int .i64 c]) (by simp [results, Try.results19, go_sem, d0, d1]) rfl ⟨ret_h HD.out, ?_⟩
          exact below_set (below_set hb (Nat.le_refl _) _) (Nat.le_refl _) _
    · have hv' := Bool.eq_false_iff.2 hv
      have HU := Lib.hid (HE.out.trans (foldH_unneeded hv' zs))
      have hv2 := Lib.hid hv'
      clear hv hv'
      go_enter Try.func19, Try.ntmps19
      go_wp2_with (go_at_call 39; refine (needed_is hv2.out _).mono ?_; rintro e w' ⟨rfl, rfl⟩)
      exact bodyPost_ret (v := .agg #[.bool false, .int .i64 0]) (by simp [results, Try.results19, go_sem]) rfl ⟨ret_h HU.out, by (repeat' first | exact Below.refl _ _ | refine Below.alloc ?_ (by simp; try omega) _)⟩
end Go.Proofs.Ytnhodloclonfdaa
