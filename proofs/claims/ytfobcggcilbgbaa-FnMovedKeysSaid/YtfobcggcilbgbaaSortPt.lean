/-
  The points of a ring sorted: slices.SortFunc with the closure of RingOf.
-/
import Derived.Test.YtfobcggcilbgbaaSortShelf
import Derived.Test.YtfobcggcilbgbaaWays
import Derived.StillTailTactics
namespace Go.Proofs.Ytfobcggcilbgbaa
open Go.Shelf Go.RowKit Go.Lib Go.Sort
set_option linter.unusedVariables false

def orC (a b : Int) : Int := if a = 0 then b else a
theorem or_any (A : Addr) (a b : Int) (w : World) {lo hi : Nat} (hS : Sl w lo hi 1 (some A) 2 ([a, b].map (Value.int .i64))) :
    Calls Try.prog 73 #[.slice (some A) 2 2] w fun e w' => e = .returned (.int .i64 (orC a b)) ∧ w = w' := by
  obtain ⟨bb, off, e, _, _, c0⟩ := hS.num (i := 0) (by omega)
  obtain ⟨_, _, e', _, _, c1⟩ := hS.num (i := 1) (by omega)
  cases e
  cases e'
  simp only [List.getElem?_cons_zero, List.getElem?_cons_succ, Option.getD_some, Nat.add_zero] at c0 c1
  go_enter Try.func73, Try.ntmps73
  go_wp2
  go_loop [8] (fun i => ∃ k : Nat, k ≤ 2 ∧ i = .int .i64 k ∧ (1 ≤ k → a = 0) ∧ (2 ≤ k → b = 0)) (fun i => 2 - (intOf i).toNat)
  case atStart => exact ⟨0, by omega, rfl, fun h => absurd h (by omega), fun h => absurd h (by omega)⟩
  case round =>
    obtain ⟨k, hk, rfl, ha, hb⟩ := hrel
    rcases (show k = 0 ∨ k = 1 ∨ k = 2 by omega) with rfl | rfl | rfl
    · by_cases h0 : a = 0
      · have HA := Lib.hid h0
        have hn : (a != 0) = false := by simpa using h0
        clear h0
        go_wp2
        go_round
        case rel => exact ⟨1, by omega, rfl, fun _ => HA.out, fun h => absurd h (by omega)⟩
        case measure => simp [intOf]
      · have hn : (a != 0) = true := by simpa using h0
        have HO : RowKit.Hid (orC a b = a) := Lib.hid (by unfold orC; rw [if_neg h0])
        clear h0
        go_wp2
        go_ret
        exact ⟨ret_int HO.out.symm, rfl⟩
    · have HA := Lib.hid (ha (by omega))
      have HO : RowKit.Hid (orC a b = b) := Lib.hid (by unfold orC; rw [if_pos HA.out])
      clear ha
      by_cases h0 : b = 0
      · have HB := Lib.hid h0
        have hn : (b != 0) = false := by simpa using h0
        clear h0
        go_wp2
        go_round
        case rel => exact ⟨2, by omega, rfl, fun _ => HA.out, fun _ => HB.out⟩
        case measure => simp [intOf]
      · have hn : (b != 0) = true := by simpa using h0
        clear h0
        go_wp2
        go_ret
        exact ⟨ret_int HO.out.symm, rfl⟩
    · have HO : RowKit.Hid (orC a b = 0) := Lib.hid (by unfold orC; rw [if_pos (ha (by omega))]; exact hb (by omega))
      clear ha hb
      go_wp2
      go_ret
      exact ⟨ret_int HO.out.symm, rfl⟩

def cmpPt (x y : Int × Int) : Int := orC (Lib.compareInt x.1 y.1) (Lib.compareInt x.2 y.2)
set_option maxRecDepth 100000 in
set_option maxHeartbeats 1600000 in
theorem closure_any (x y : Int × Int) (W : World) : Calls Try.prog 72 #[.agg #[.int .i64 x.1, .int .i64 x.2], .agg #[.int .i64 y.1, .int .i64 y.2]] W fun e w' => e = .returned (.int .i64 (cmpPt x y)) ∧ ∃ q os', w' = grow (W.drewN q) os' := by
  have hcon := fun (p q : Int) W' => AnyG.cmp_Compare_int cmpIntL p q W'
  change ∀ p q W', Calls Try.prog 74 _ _ _ at hcon
  unfold cmpPt
  generalize Lib.compareInt = ci at hcon ⊢
  obtain ⟨x1, x2⟩ := x
  obtain ⟨y1, y2⟩ := y
  go_enter Try.func72, Try.ntmps72
  go_wp2
  generalize hW2 : (W.alloc (.cells #[.int .i64 x1, .int .i64 x2] 75)).alloc (.cells #[.int .i64 y1, .int .i64 y2] 75) = W2
  have hx : Blk W2 W.heap.size 75 #[.int .i64 x1, .int .i64 x2] := by rw [← hW2]; exact (Blk.new _ _ _).alloc _
  have hy : Blk W2 (W.heap.size + 1) 75 #[.int .i64 y1, .int .i64 y2] := by
    rw [← hW2]
    have := Blk.new (W.alloc (.cells #[.int .i64 x1, .int .i64 x2] 75)) 75 #[.int .i64 y1, .int .i64 y2]
    rwa [World.size_alloc] at this
  obtain ⟨a0, a1, _⟩ := hx.two
  obtain ⟨b0, b1, _⟩ := hy.two
  have HW := Lib.hid hW2
  clear hW2 hx hy
  refine wp_region_still_tail 10 (by kernel_rfl) (by kernel_rfl) ?_
  simp only [List.take_succ_cons, List.take_zero, List.drop_succ_cons, List.drop_zero]
  repeat (first | still_step | still_call (hcon _ _ _))
  refine wpStill_nil ?_
  change wpList _ _ _ _ _ W2.drew
  clear a0 a1 b0 b1
  generalize hW3 : W2.drew = W3
  have HW3 := Lib.hid hW3
  clear hW3
  go_wp2_with (go_at_call 73; refine (or_any _ _ _ _ (sl_new2 _ _ _ rfl)).mono ?_; rintro e w1 ⟨rfl, rfl⟩)
  go_ret
  refine ⟨rfl, 1, ?_⟩
  rw [← HW3.out, ← HW.out, alloc_eq_grow, alloc_eq_grow, alloc_eq_grow]
  refine ⟨#[.cells #[.int .i64 x1, .int .i64 x2] 75] ++ (#[.cells #[.int .i64 y1, .int .i64 y2] 75] ++ #[.cells #[.int .i64 (ci x1 y1), .int .i64 (ci x2 y2)] 3]), ?_⟩
  show grow (grow (grow (W.drewN 1) _) _) _ = _
  rw [grow_grow, grow_grow]

theorem ltPt (x y : Int × Int) : ltOf cmpPt x y = decide (x.1 < y.1 ∨ (x.1 = y.1 ∧ x.2 < y.2)) := by
  unfold ltOf cmpPt orC Lib.compareInt
  by_cases h1 : x.1 < y.1
  · simp [h1]
  · by_cases h2 : y.1 < x.1
    · have : ¬ x.1 = y.1 := by omega
      simp [h1, h2, this]
    · have e : x.1 = y.1 := by omega
      by_cases h3 : x.2 < y.2
      · simp [e, h3]
      · by_cases h4 : y.2 < x.2 <;> simp [e, h3, h4]
theorem swoPt : SWO (ltOf cmpPt) where
  irrefl x := by rw [ltPt]; simp
  trans x y z h1 h2 := by rw [ltPt] at *; simp at *; omega
  ntrans x y z h1 h2 := by rw [ltPt] at *; simp at *; omega
theorem totPt (x y : Int × Int) (h1 : ltOf cmpPt x y = false) (h2 : ltOf cmpPt y x = false) : x = y := by
  rw [ltPt] at h1 h2
  simp at h1 h2
  apply Prod.ext <;> omega
/-- The sorted points. -/
def sortP (l : List (Int × Int)) : List (Int × Int) := l.mergeSort fun x y => !(ltOf cmpPt) y x
theorem sortP_perm (l : List (Int × Int)) : (sortP l).Perm l := List.mergeSort_perm _ _
theorem sortP_sorted (l : List (Int × Int)) : (sortP l).Pairwise ptLe := by
  have := List.pairwise_mergeSort (le := fun x y => !(ltOf cmpPt) y x) (fun a b c => by simp only [ltPt]; simp; omega) (fun a b => by simp only [ltPt]; simp; omega) l
  refine this.imp ?_
  intro a b h
  simp only [ltPt] at h
  unfold ptLe
  simp at h
  omega
theorem sortP_len (l : List (Int × Int)) : (sortP l).length = l.length := (sortP_perm l).length_eq

theorem flat_pts (r : List (Int × Int)) : flatK ptC 2 r.toArray = (ptsV r).toArray := by
  have hs : (flatK ptC 2 r.toArray).size = r.length * 2 := by simp
  have hl : (ptsV r).length = r.length * 2 := recV_length ptC_len r
  refine ext_get! (by rw [hs]; simp [hl]) fun t ht => ?_
  rw [hs] at ht
  rw [get_flatK _ _ _ t (by simpa using ht)]
  have h1 : t / 2 < r.length := by omega
  have h2 : t % 2 < 2 := by omega
  have := recV_at ptC_len r (t / 2) (t % 2) h1 h2
  rw [show t / 2 * 2 + t % 2 = t from by omega] at this
  have e1 : r.toArray[t / 2]! = r[t / 2] := by rw [getElem!_pos _ _ (by simpa using h1)]; simp
  rw [e1]
  have e2 : (ptsV r).toArray[t]! = (ptsV r)[t]'(by rw [hl]; exact ht) := by rw [getElem!_pos _ _ (by simpa [hl] using ht)]; simp
  rw [e2]
  have e3 : (ptC r[t / 2])[t % 2]! = (ptC r[t / 2])[t % 2]'(by rw [ptC_len]; exact h2) := by rw [getElem!_pos]
  rw [e3]
  rw [List.getElem?_eq_getElem (by rw [hl]; exact ht), List.getElem?_eq_getElem (by rw [ptC_len]; exact h2)] at this
  injection this with this
  exact this.symm
theorem holds_pts {w : World} {base g n c : Nat} {r : List (Int × Int)} (h : w.ownsRow base 75 2 (.slice (some ⟨g, 0, none⟩) n c) n (ptsV r)) : HoldsK ptC 2 w g 0 r.toArray := by
  unfold HoldsK
  rw [flat_pts]
  intro j hj
  have hl : (ptsV r).length = n * 2 := h.1
  have hj' : j < n * 2 := by simpa [hl] using hj
  refine ⟨?_, h.frozenAt _⟩
  have h2 : j < (ptsV r).length := by omega
  have h3 : (ptsV r).toArray[j]! = (ptsV r)[j] := by rw [getElem!_pos (ptsV r).toArray j (by simpa using h2)]; simp
  rw [Nat.zero_add, h.cellAt j hj', List.getElem?_eq_getElem h2, h3]
  rfl
theorem owns_put {w : World} {base g n c : Nat} {xs ys : List Value} (h : w.ownsRow base 75 2 (.slice (some ⟨g, 0, none⟩) n c) n xs) (hl : ys.length = n * 2) (m : Nat) (os : Array Obj) :
    (grow (putRow id (Sort.ahead w m) g 0 ys.toArray) os).ownsRow base 75 2 (.slice (some ⟨g, 0, none⟩) n c) n ys ∧ w.grownBy (grow (putRow id (Sort.ahead w m) g 0 ys.toArray) os) (some g) := by
  have hlt : g < w.heap.size := (h.lt g rfl).2
  constructor
  · refine ⟨hl, .inr ?_⟩
    rcases h.2 with ⟨h1, _⟩ | ⟨g', cap, cur, h1, h2, h3, h4, h5, h6, h7⟩
    · cases h1
    · injection h1 with e1 _ e2
      injection e1 with e1
      injection e1 with e1
      subst e1 e2
      refine ⟨g, c, putCells id 0 ys.toArray cur, rfl, h2, ?_, h4, h5, by unfold putCells; simp [h6], ?_⟩
      · show ((w.heap.modify g (onCells (putCells id 0 ys.toArray))) ++ os)[g]? = _
        rw [Array.getElem?_append_left (by simpa using hlt), Array.getElem?_modify, if_pos rfl, h3]
        rfl
      · apply List.ext_getElem?
        intro j
        have hn : n * 2 ≤ cur.size := by rw [h6]; omega
        by_cases hj : j < n * 2
        · rw [List.getElem?_take, if_pos hj]
          simp [putCells, hl, hj, show j < cur.size by omega]
        · rw [List.getElem?_eq_none (by simp; omega), List.getElem?_eq_none (by omega)]
  · refine ⟨rfl, rfl, rfl, by simp [putRow, mapBlock, Sort.ahead], fun i hi hne => ?_⟩
    show ((w.heap.modify g (onCells (putCells id 0 ys.toArray))) ++ os)[i]? = _
    rw [Array.getElem?_append_left (by simpa using hi), Array.getElem?_modify, if_neg (fun e => hne (by rw [e]))]
theorem isAggPt : ∀ w, (isAgg 75).run Try.prog w = .ok true w := fun w => by kernel_rfl
theorem sizePt : ∀ w, (Go.sizeOf 75).run Try.prog w = .ok 2 w := fun w => by kernel_rfl
/-- slices.SortFunc on a row of points of one's own. -/
theorem sort_any (base g n c : Nat) (r : List (Int × Int)) (w : World) (h : w.ownsRow base 75 2 (.slice (some ⟨g, 0, none⟩) n c) n (ptsV r)) (hn : n ≤ 1048576) :
    Calls Try.prog 71 #[.slice (some ⟨g, 0, none⟩) n c, .func (.func 72) #[] #[]] w fun e w' => e = .returned (.tuple #[]) ∧ w'.ownsRow base 75 2 (.slice (some ⟨g, 0, none⟩) n c) n (ptsV (sortP r)) ∧ w.grownBy w' (some g) := by
  have hrl : r.length = n := by have := h.1; rw [recV_length ptC_len] at this; omega
  have eg : ∀ args w, (callFunc 72 args).run Try.prog w = .ok (.enter 72 args) w := enters_of Try.func72 (by kernel_rfl) rfl
  have hcon := AnyQ.slices_SortFunc_total sortPt 2 isAggPt sizePt ptC (fun _ => rfl) (fun x v hv => by simp [ptC] at hv; rcases hv with rfl | rfl <;> rfl) cmpPt swoPt 72 #[] g 0 c r.toArray w eg (fun _ _ _ _ x y => closure_any x y _) (holds_pts h) (h.lt g rfl).2 (by simp; omega) totPt
  have hsz : r.toArray.size = n := by simpa using hrl
  rw [hsz] at hcon
  refine hcon.mono ?_
  rintro e w' ⟨he, m, os, hw⟩
  refine ⟨he, ?_⟩
  rw [hw]
  unfold sortWorldK putRowK
  have e2 : (r.toArray.toList.mergeSort fun x y => !(ltOf cmpPt) y x) = sortP r := by simp [sortP]
  rw [e2, flat_pts]
  exact owns_put h (by rw [recV_length ptC_len, sortP_len, hrl]) m os
end Go.Proofs.Ytfobcggcilbgbaa
