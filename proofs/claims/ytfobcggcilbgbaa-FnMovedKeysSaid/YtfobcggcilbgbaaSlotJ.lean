/-
  The memory of the program's slot table under way: the table, what is taken, the orders in a map.
-/
import Derived.Test.YtfobcggcilbgbaaSlotW
import Derived.Test.YtfobcggcilbgbaaDraw0
import Derived.Test.YtfobcggcilbgbaaMixR
import Derived.Maps.Own
import Derived.Maps.Views
namespace Go.Proofs.Ytfobcggcilbgbaa
open Go.RowKit
set_option linter.unusedVariables false

def RH : Value → Option (DataW Value × List MemPlace) := fun v => some (.held v, [])
/-- Block b is a map from numbers to values. -/
def MapS (w : World) (b n : Nat) (D : DataW Value) : Prop := w.ownsMap Try.prog 3 RH b n D
def Held (D : DataW Value) (n : Int) (v : Value) : Prop := D.atKey (.int .i64 n) (.held (.slice none 0 0)) = .held v
theorem keyI : Maps.Keyed Try.prog 3 := Maps.int_keyed Try.underlying3
theorem wfI {n : Int} (h : 0 ≤ n ∧ n ≤ 1000) : (Lit.int .i64 n).wf = true := by
  simp only [Lit.wf, Bool.and_eq_true, decide_eq_true_eq]
  exact ⟨show (-9223372036854775808 : Int) ≤ n by omega, show n ≤ (9223372036854775807 : Int) by omega⟩
theorem keyI_of {n : Int} (h : 0 ≤ n ∧ n ≤ 1000) : keyOf Try.prog 3 (.int .i64 n) = some (.int .i64 n) := Maps.keyOf_int_mk Try.underlying3 (wfI h)
set_option maxRecDepth 100000 in
theorem MapS.look {w : World} {b n : Nat} {D : DataW Value} {k : Int} {v : Value} (h : MapS w b n D) (hk : 0 ≤ k ∧ k ≤ 1000) (hv : Held D k v) :
    (Instr.lookup 83 (.map (some b)) (.int .i64 k) false).run Try.prog w = .ok v w := by
  obtain ⟨v', ps, hrun, hr⟩ := World.ownsMap.lookup h keyI Try.underlying83 (z := .slice none 0 0) (by kernel_rfl) (zd := .held (.slice none 0 0)) (zp := []) rfl (keyI_of hk)
  unfold Held at hv
  rw [hv] at hr
  unfold RH at hr
  injection hr with hr
  injection hr with h1 h2
  injection h1 with h1
  rw [h1] at hrun
  exact hrun
set_option maxRecDepth 100000 in
theorem MapS.store {w : World} {b n : Nat} {D : DataW Value} {k : Int} (h : MapS w b n D) (hn : n < maxLen) (hk : 0 ≤ k ∧ k ≤ 1000) (v : Value) :
    ∃ w', (Instr.mapUpdate 83 (.map (some b)) (.int .i64 k) v).run Try.prog w = .ok () w' ∧ MapS w' b (n + 1) (D.put (.int .i64 k) (.held v)) ∧ w.grownBy w' (some b) :=
  World.ownsMap.update h keyI Try.underlying83 hn (keyI_of hk) (ps := []) rfl
theorem Held.same {D : DataW Value} (hD : Maps.IsMap D) {k : Int} (hk : 0 ≤ k ∧ k ≤ 1000) (v : Value) : Held (D.put (.int .i64 k) (.held v)) k v := Maps.atKey_put_same hD (keyI.key (keyI_of hk)) _ _
theorem Held.other {D : DataW Value} {k j : Int} {u : Value} (h : Held D j u) (hne : j ≠ k) (v : Value) : Held (D.put (.int .i64 k) (.held v)) j u := by
  unfold Held at *
  rw [Maps.atKey_put_other (fun e => hne (by injection e))]
  exact h
theorem put_isMap {D : DataW Value} (hD : Maps.IsMap D) (k : Lit) (v : DataW Value) : Maps.IsMap (D.put k v) := by obtain ⟨l, rfl⟩ := hD; exact ⟨_, rfl⟩
/-- The numbers of the hosts that are up ascend. -/
theorem poolFrom_lt : ∀ (hs : List H3) (p : Int), poolFrom p hs = true → (hs.Pairwise fun a b => a.1 < b.1) ∧ ∀ x ∈ hs, p < x.1 := by
  intro hs
  induction hs with
  | nil => intro p _; exact ⟨List.Pairwise.nil, fun x h => by cases h⟩
  | cons x r ih =>
    intro p h
    unfold poolFrom at h
    simp only [Bool.and_eq_true] at h
    obtain ⟨h1, h2⟩ := ih _ h.2
    have hx : p < x.1 := by
      have := h.1
      unfold hostOk at this
      simp only [Bool.and_eq_true, decide_eq_true_eq] at this
      exact this.1.1.2
    refine ⟨List.pairwise_cons.2 ⟨h2, h1⟩, fun y hy => ?_⟩
    rcases List.mem_cons.1 hy with rfl | hy
    · exact hx
    · have := h2 y hy; omega
theorem up_lt {hs : List H3} (h : poolV hs = true) : (upL hs).Pairwise fun a b => a.1 < b.1 := by
  unfold poolV at h
  simp only [Bool.and_eq_true] at h
  exact (poolFrom_lt hs _ h.1).1.sublist List.filter_sublist
theorem up_ne {us : List H3} (h : us.Pairwise fun a b => a.1 < b.1) {i j : Nat} (hi : i < us.length) (hj : j < us.length) (hne : i ≠ j) : (hAt us i).1 ≠ (hAt us j).1 := by
  rw [hAt_eq hi, hAt_eq hj]
  rcases Nat.lt_or_gt_of_ne hne with h' | h'
  · have := (List.pairwise_iff_getElem.1 h) i j hi hj h'; omega
  · have := (List.pairwise_iff_getElem.1 h) j i hj hi h'; omega
def tabZ (z : Int) : Value := .int .i64 (if z < 0 then 0 else z)
def takZ (z : Int) : Value := .bool (decide (0 ≤ z))
def takC (T : List Int) : Array Value := (T.map takZ).toArray
/-- What is left of an order behind p places. -/
def OrdV (v : Value) (b c p : Nat) : Prop := ∃ o, v = .slice (some ⟨b, o, none⟩) (31 - p) (c - p) ∧ (p < 31 → o = p)
/-- The orders of the first k hosts, in the map D; their rows lie in blocks from B1 to S1. -/
def OrdM (wr : World) (D : DataW Value) (B1 S1 : Nat) (us : List H3) (k : Nat) (P : List Nat) : Prop := ∀ j, j < k → ∃ v b c, Held D (hAt us j).1 v ∧ OrdV v b c (P[j]?.getD 0) ∧ 31 ≤ c ∧ c ≤ maxLen ∧ B1 ≤ b ∧ b < S1 ∧ ∀ i, i < 31 → wr.cell? ⟨b, i, none⟩ = some (.int .i64 (slotK (hAt us j).1 i))
theorem OrdM.keep {wr w' : World} {D : DataW Value} {B1 S1 S2 : Nat} {us : List H3} {k : Nat} {P : List Nat} (h : OrdM wr D B1 S1 us k P) (hS : S1 ≤ S2) (hk : ∀ b o, B1 ≤ b → b < S1 → w'.cell? ⟨b, o, none⟩ = wr.cell? ⟨b, o, none⟩) : OrdM w' D B1 S2 us k P := fun j hj => by
  obtain ⟨v, b, c, h1, h2, h3, h3', h4, h5, h6⟩ := h j hj
  exact ⟨v, b, c, h1, h2, h3, h3', h4, by omega, fun i hi => (hk _ _ h4 h5).trans (h6 i hi)⟩
theorem OrdM.put {wr : World} {D : DataW Value} {B1 S1 : Nat} {us : List H3} {m k : Nat} {P : List Nat} (h : OrdM wr D B1 S1 us m P) (hD : Maps.IsMap D) (hu : us.Pairwise fun a b => a.1 < b.1) (hm : m ≤ us.length) (hk : k < m) (hx : 0 ≤ (hAt us k).1 ∧ (hAt us k).1 ≤ 30) {v : Value} {b c p : Nat} (hl : P.length = us.length)
    (hv : OrdV v b c p) (hc : 31 ≤ c) (hc' : c ≤ maxLen) (hb : B1 ≤ b) (hb' : b < S1) (hcell : ∀ i, i < 31 → wr.cell? ⟨b, i, none⟩ = some (.int .i64 (slotK (hAt us k).1 i))) : OrdM wr (D.put (.int .i64 (hAt us k).1) (.held v)) B1 S1 us m (P.set k p) := fun j hj => by
  by_cases e : k = j
  · subst e
    refine ⟨v, b, c, Held.same hD (by omega) v, ?_, hc, hc', hb, hb', hcell⟩
    rw [List.getElem?_set, if_pos rfl, if_pos (by omega), Option.getD_some]
    exact hv
  · obtain ⟨v', b', c', h1, h2, h3⟩ := h j hj
    refine ⟨v', b', c', h1.other (up_ne hu (by omega) (by omega) (fun e' => e e'.symm)) v, ?_, h3⟩
    rw [List.getElem?_set, if_neg e]
    exact h2
structure ISt (B B1 S1 : Nat) (w : World) (gt gk mb K : Nat) (D : DataW Value) (A2 : Option Addr) (us : List H3) (m : Nat) (T : List Int) (P : List Nat) (wr : World) : Prop where
  tab : wr.ownsRow B 3 1 (.slice (some ⟨gt, 0, none⟩) 31 31) 31 (T.map tabZ)
  tak : Blk wr gk 82 (takC T)
  map : MapS wr mb K D
  isM : Maps.IsMap D
  ord : OrdM wr D B1 S1 us m P
  hst : Sl wr B gt 3 A2 m (hostsV us)
  lt1 : gt < gk ∧ gk < mb ∧ mb < B1 ∧ S1 ≤ wr.heap.size
  bel : Below B w wr
section
variable {B B1 S1 : Nat} {w wr : World} {gt gk mb K : Nat} {D : DataW Value} {A2 : Option Addr} {us : List H3} {m : Nat} {T : List Int} {P : List Nat}
/-- Writes to one block of table, taken and map, or to new memory. -/
theorem ISt.go (h : ISt B B1 S1 w gt gk mb K D A2 us m T P wr) {w' : World} {row : Option Nat} (hg : wr.grownBy w' row) (hr : ∀ g, row = some g → gt ≤ g ∧ (g < B1 ∨ S1 ≤ g)) {T' : List Int} {D' : DataW Value} {K' : Nat} {P' : List Nat}
    (h1 : w'.ownsRow B 3 1 (.slice (some ⟨gt, 0, none⟩) 31 31) 31 (T'.map tabZ)) (h2 : Blk w' gk 82 (takC T')) (h3 : MapS w' mb K' D') (h4 : Maps.IsMap D') (h5 : OrdM wr D' B1 S1 us m P') : ISt B B1 S1 w gt gk mb K' D' A2 us m T' P' w' where
  tab := h1
  tak := h2
  map := h3
  isM := h4
  ord := h5.keep (Nat.le_refl _) fun b o hb1 hb2 => World.cell?_of_block (a := ⟨b, o, none⟩) (hg.block b (by have := h.lt1; omega) (fun e => by have := hr b e.symm; omega))
  hst := h.hst.keep fun b o hb1 hb2 => World.cell?_of_block (a := ⟨b, o, none⟩) (hg.block b (by have := h.lt1; have := (h.tab.lt gt rfl).2; omega) (fun e => by have := hr b e.symm; omega))
  lt1 := ⟨h.lt1.1, h.lt1.2.1, h.lt1.2.2.1, Nat.le_trans h.lt1.2.2.2 hg.size⟩
  bel := h.bel.grown hg (by have := h.lt1; have := (h.tab.lt gt rfl); omega) fun g e => by have := (hr g e).1; have := (h.tab.lt gt rfl).1; omega
theorem ISt.drewN (h : ISt B B1 S1 w gt gk mb K D A2 us m T P wr) (n : Nat) : ISt B B1 S1 w gt gk mb K D A2 us m T P (wr.drewN n) := ⟨h.tab, h.tak, h.map, h.isM, h.ord, h.hst, h.lt1, below_drewN h.bel n⟩
theorem ISt.drew (h : ISt B B1 S1 w gt gk mb K D A2 us m T P wr) : ISt B B1 S1 w gt gk mb K D A2 us m T P wr.drew := ⟨h.tab, h.tak, h.map, h.isM, h.ord, h.hst, h.lt1, h.bel.drew⟩
theorem ISt.alloc (h : ISt B B1 S1 w gt gk mb K D A2 us m T P wr) (o : Obj) : ISt B B1 S1 w gt gk mb K D A2 us m T P (wr.alloc o) :=
  h.go (World.grownBy_alloc wr o none) (fun g e => by cases e) (h.tab.alloc o) (h.tak.alloc o) (World.ownsMap.alloc h.map o) h.isM h.ord
/-- Both stores of a take. -/
theorem ISt.take (h : ISt B B1 S1 w gt gk mb K D A2 us m T P wr) (s : Nat) {z : Int} (hz : 0 ≤ z) : ISt B B1 S1 w gt gk mb K D A2 us m (T.set s z) P ((wr.setCell ⟨gt, s, none⟩ (.int .i64 z)).setCell ⟨gk, s, none⟩ (.bool true)) := by
  have hlt := h.lt1
  have s1 := h.tab.stored s (.int .i64 z)
  have e1 : (T.map tabZ).set s (.int .i64 z) = (T.set s z).map tabZ := by rw [List.map_set]; congr 1; unfold tabZ; rw [if_neg (by omega)]
  have e2 : (takC T).setIfInBounds s (.bool true) = takC (T.set s z) := by
    unfold takC
    rw [List.map_set]
    simp only [List.setIfInBounds_toArray]
    congr 2
    unfold takZ
    simp; omega
  rw [e1] at s1
  have g2 := only_setCell (World.grownBy.refl (wr.setCell ⟨gt, s, none⟩ (.int .i64 z)) (some gk)) (p := ⟨gk, s, none⟩) (.inl rfl) (.bool true)
  have hst1 : ISt B B1 S1 w gt gk mb K D A2 us m T P wr := h
  have t1 : (wr.setCell ⟨gt, s, none⟩ (.int .i64 z)).ownsRow B 3 1 (.slice (some ⟨gt, 0, none⟩) 31 31) 31 ((T.set s z).map tabZ) := s1.1
  have k1 : Blk (wr.setCell ⟨gt, s, none⟩ (.int .i64 z)) gk 82 (takC T) := h.tak.grown s1.2 (by simp; omega)
  have m1 : MapS (wr.setCell ⟨gt, s, none⟩ (.int .i64 z)) mb K D := World.ownsMap.kept h.map s1.2 (by simp; omega)
  have hB : B ≤ gt := (h.tab.lt gt rfl).1
  refine ⟨t1.kept g2 (.inr (by simp [Value.ownBlock]; omega)), ?_, World.ownsMap.kept m1 g2 (by simp; omega), h.isM, ?_, ?_, ?_, ?_⟩
  · rw [← e2]; exact k1.set_ s (.bool true)
  · refine (h.ord.keep (Nat.le_refl _) fun b o h1 h2 => ?_)
    exact (World.cell?_setCell_other _ ⟨gk, s, none⟩ ⟨b, o, none⟩ _ (fun e => by injection e with e; omega)).trans (World.cell?_setCell_other _ ⟨gt, s, none⟩ ⟨b, o, none⟩ _ (fun e => by injection e with e; omega))
  · refine h.hst.keep fun b o h1 h2 => ?_
    exact (World.cell?_setCell_other _ ⟨gk, s, none⟩ ⟨b, o, none⟩ _ (fun e => by injection e with e; omega)).trans (World.cell?_setCell_other _ ⟨gt, s, none⟩ ⟨b, o, none⟩ _ (fun e => by injection e with e; omega))
  · exact ⟨hlt.1, hlt.2.1, hlt.2.2.1, Nat.le_trans hlt.2.2.2 (Nat.le_trans s1.2.size g2.size)⟩
  · exact (h.bel.setCell (p := ⟨gt, s, none⟩) hB _).setCell (p := ⟨gk, s, none⟩) (by show B ≤ gk; omega) _
theorem ISt.takAt (h : ISt B B1 S1 w gt gk mb K D A2 us m T P wr) {s : Nat} (hs : s < 31) : wr.cell? ⟨gk, s, none⟩ = some (.bool (!freeB T (s : Int))) := by
  have hl : T.length = 31 := by have := h.tab.1; simpa using this
  rw [h.tak.cell]
  unfold takC takZ freeB sltAt
  simp [List.getElem?_eq_getElem (show s < T.length by omega)]
  rw [Bool.eq_iff_iff]
  simp
theorem ISt.tabAt (h : ISt B B1 S1 w gt gk mb K D A2 us m T P wr) {s : Nat} (hs : s < 31) : ∃ z, wr.cell? ⟨gt, s, none⟩ = some (.int .i64 z) := by
  have hl : T.length = 31 := by have := h.tab.1; simpa using this
  rw [h.tab.cellAt s (by omega)]
  unfold tabZ
  simp [List.getElem?_eq_getElem (show s < T.length by omega)]
theorem ISt.tabOk (h : ISt B B1 S1 w gt gk mb K D A2 us m T P wr) : TabOk T := by
  have := h.tab.1; unfold TabOk; simpa using this
/-- A full table reads as its numbers. -/
theorem tab_full {T : List Int} (hT : TabOk T) (h : freeN T = 0) : T.map tabZ = T.map (Value.int .i64) := by
  apply List.map_congr_left
  intro z hz
  unfold freeN at h
  rw [List.countP_eq_zero] at h
  have := h z hz
  unfold tabZ
  rw [if_neg (by simpa using this)]
end
end Go.Proofs.Ytfobcggcilbgbaa
