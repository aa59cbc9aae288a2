/-
  toFlow, toEntry, toEntryS, toTable, eqFlow, eqEntry, eqEntryS, eqTable, szEntryS, szTable, markEntryS, markTable of the laws: their contracts.
-/
import Derived.Test.YtgdcfhifiincaaaEnt
import Derived.Test.YtgdcfhifiincaaaHost1
import Derived.Test.YtgdcfhifiincaaaApp1
import Derived.OneCell
namespace Go.Proofs.Ytgdcfhifiincaaa
open Go.RowKit
set_option linter.unusedVariables false
attribute [local go_sem ↓] Go.wp_at_zero Go.wp_at_succ

theorem infoEnt : (Try.prog.info? 56).map (fun i => (i.zero, i.size, i.bytes)) = some (some (.agg #[.int .i64 0, .int .i64 0, .int .i64 0, .int .i64 0, .int .i64 0, .int .i64 0, .int .i64 0]), 7, 56) := by kernel_rfl
theorem own_made7 (w : World) (z : Value) (e : TypeId) (n : Nat) (hm : n ≤ maxLen) :
    (w.alloc (.cells (madeCells #[z, z, z, z, z, z, z] (n * 7)) e)).ownsRow w.heap.size e 7 (.slice (some ⟨w.heap.size, 0, none⟩) n n) n (List.replicate (n * 7) z) := by
  have := World.ownsRow_lit (base := w.heap.size) (e := e) (size := 7) w (madeCells #[z, z, z, z, z, z, z] (n * 7)) n (Nat.le_refl _) hm (by simp [size_madeCells])
  rwa [show (#[z, z, z, z, z, z, z] : Array Value) = Array.replicate (6 + 1) z from rfl, toList_madeCells_rep] at this
def fillE (es : List En7) (n k : Nat) : List Value := ensV (es.take k ++ List.replicate (n - k) En7.zero)
theorem fillE_zero (es : List En7) (n : Nat) : fillE es n 0 = List.replicate (n * 7) (.int .i64 0) := by
  unfold fillE
  rw [List.take_zero, List.nil_append, Nat.sub_zero]
  exact recV_replicate n En7.zero (.int .i64 0) rfl
theorem fillE_full {es : List En7} {n : Nat} (h : es.length = n) : fillE es n n = ensV es := by subst h; simp [fillE]
theorem ensV_set7 (es : List En7) : ∀ (k : Nat) (e : En7), k < es.length → (((((((ensV es).set (k * 7) (.int .i64 e.a)).set (k * 7 + 1) (.int .i64 e.b)).set (k * 7 + 2) (.int .i64 e.c)).set (k * 7 + 3) (.int .i64 e.d)).set (k * 7 + 4) (.int .i64 e.k)).set (k * 7 + 5) (.int .i64 e.t)).set (k * 7 + 6) (.int .i64 e.l) = ensV (es.set k e) := by
  induction es with
  | nil => intro k e h; simp at h
  | cons x r ih =>
    intro k e hk
    cases k with
    | zero => simp [ensV, recV, enC]
    | succ k =>
      have e0 : ∀ j, (k + 1) * 7 + j = k * 7 + j + 1 + 1 + 1 + 1 + 1 + 1 + 1 := by intro j; omega
      have e1 : (k + 1) * 7 = k * 7 + 1 + 1 + 1 + 1 + 1 + 1 + 1 := by omega
      have := ih k e (by simpa using hk)
      simp only [e0, e1, List.set_cons_succ, ensV, recV, enC, List.cons_append, List.nil_append] at this ⊢
      rw [← this]
theorem fillE_len {es : List En7} {n k : Nat} (hk : k ≤ n) (hl : es.length = n) : (es.take k ++ List.replicate (n - k) En7.zero).length = n := by simp; omega
theorem fillE_set {es : List En7} {n k : Nat} (hk : k < n) (hl : es.length = n) : (((((((fillE es n k).set (k * 7) (.int .i64 (enAt es k).a)).set (k * 7 + 1) (.int .i64 (enAt es k).b)).set (k * 7 + 2) (.int .i64 (enAt es k).c)).set (k * 7 + 3) (.int .i64 (enAt es k).d)).set (k * 7 + 4) (.int .i64 (enAt es k).k)).set (k * 7 + 5) (.int .i64 (enAt es k).t)).set (k * 7 + 6) (.int .i64 (enAt es k).l) = fillE es n (k + 1) := by
  unfold fillE
  rw [ensV_set7 _ k (enAt es k) (by rw [fillE_len (by omega) hl]; exact hk)]
  congr 1
  rw [List.take_succ_eq_append_getElem (by omega), enAt_eq (by omega), List.set_append_right _ _ (by simp; omega)]
  have e1 : n - k = (n - (k + 1)) + 1 := by omega
  have e2 : k - (es.take k).length = 0 := by simp; omega
  rw [e1, List.replicate_succ, e2]
  simp only [List.set_cons_zero, List.append_assoc, List.cons_append, List.nil_append]

theorem toFlow_any (h0 h1 h2 h3 h4 : Int) (w : World) :
    Calls Try.prog 71 #[.agg #[.int .i64 h0, .int .i64 h1, .int .i64 h2, .int .i64 h3, .int .i64 h4]] w fun e w' => e = .returned (.agg #[.int .i64 h0, .int .i64 h1, .int .i64 h2, .int .i64 h3, .int .i64 h4]) ∧ ((w.alloc (.cells #[.int .i64 h0, .int .i64 h1, .int .i64 h2, .int .i64 h3, .int .i64 h4] 80)).alloc (.cells #[.int .i64 h0, .int .i64 h1, .int .i64 h2, .int .i64 h3, .int .i64 h4] 54)).alloc (.cells #[.int .i64 h0, .int .i64 h1, .int .i64 h2, .int .i64 h3, .int .i64 h4] 54) = w' := by
  go_enter Try.func71, Try.ntmps71
  go_wp2
  refine bodyPost_ret (v := .agg #[.int .i64 h0, .int .i64 h1, .int .i64 h2, .int .i64 h3, .int .i64 h4]) (by simp [results, Try.results71, go_sem]) rfl ⟨rfl, ?_⟩
  rfl

theorem toEntry_any (h0 h1 h2 h3 h4 h5 h6 : Int) (w : World) :
    Calls Try.prog 57 #[.agg #[.int .i64 h0, .int .i64 h1, .int .i64 h2, .int .i64 h3, .int .i64 h4, .int .i64 h5, .int .i64 h6]] w fun e w' => e = .returned (.agg #[.int .i64 h0, .int .i64 h1, .int .i64 h2, .int .i64 h3, .int .i64 h4, .int .i64 h5, .int .i64 h6]) ∧ Below w.heap.size w w' := by
  go_enter Try.func57, Try.ntmps57
  go_wp2_with (go_at_call 71; refine (toFlow_any _ _ _ _ _ _).mono ?_; rintro e w1 ⟨rfl, rfl⟩)
  refine bodyPost_ret (v := .agg #[.int .i64 h0, .int .i64 h1, .int .i64 h2, .int .i64 h3, .int .i64 h4, .int .i64 h5, .int .i64 h6]) (by simp [results, Try.results57, go_sem]) rfl ⟨rfl, ?_⟩
  repeat' first | exact Below.refl _ _ | refine Below.alloc ?_ (by simp; try omega) _

theorem fillE_cells (es : List En7) {n k : Nat} (hk : k < n) (hl : es.length = n) : ∀ j, j < 7 → ∃ u, (fillE es n k)[k * 7 + j]? = some u := fun j hj => by
  have : (fillE es n k).length = n * 7 := by unfold fillE; rw [recV_length enC_len, fillE_len (by omega) hl]
  exact ⟨_, List.getElem?_eq_getElem (by omega)⟩
set_option maxHeartbeats 800000 in
theorem toEntryS_any (A : Option Addr) (n c : Nat) (es : List En7) (w : World) {lo hi : Nat} (hS : Sl w lo hi 7 A n (ensV es)) (hhi : hi ≤ w.heap.size) (hn : n ≤ 1048576) :
    Calls Try.prog 38 #[.slice A n c] w fun e w' => e = .returned (.slice (some ⟨w.heap.size, 0, none⟩) n n) ∧ w'.ownsRow w.heap.size 56 7 (.slice (some ⟨w.heap.size, 0, none⟩) n n) n (ensV es) ∧ Below w.heap.size w w' := by
  have HL := Lib.hid hS.nlen
  obtain ⟨i0, hi0, hz0, hz1, hz2⟩ := info_parts infoEnt
  have hown0 := own_made7 w (.int .i64 0) 56 n (by unfold maxLen; omega)
  have hb0 := (Below.refl w.heap.size w).alloc (Nat.le_refl _) (.cells (madeCells #[.int .i64 0, .int .i64 0, .int .i64 0, .int .i64 0, .int .i64 0, .int .i64 0, .int .i64 0] (n * 7)) 56)
  have hmk : ∀ W : World, (Instr.makeSlice 32 (.int .i64 (n : Int)) (.int .i64 (n : Int))).run Try.prog W = .ok (.slice (some ⟨W.heap.size, 0, none⟩) n n) (W.alloc (.cells (madeCells #[.int .i64 0, .int .i64 0, .int .i64 0, .int .i64 0, .int .i64 0, .int .i64 0, .int .i64 0] (n * 7)) 56)) := fun W => by
    have := run_make_rowN (P := Try.prog) 32 56 i0 _ Try.underlying32 hi0 hz0 .i64 .i64 n n (Nat.le_refl _) (by rw [hz2]; omega) (by omega) W
    rw [hz1] at this
    exact this
  go_enter Try.func38, Try.ntmps38
  go_wp2
  obtain ⟨w0, hw0⟩ : ∃ w0, w0 = w.alloc (.cells (madeCells #[.int .i64 0, .int .i64 0, .int .i64 0, .int .i64 0, .int .i64 0, .int .i64 0, .int .i64 0] (n * 7)) 56) := ⟨_, rfl⟩
  rw [← hw0] at hown0 hb0 ⊢
  clear hw0 hmk
  go_loopw [4] (fun i wr => ∃ k : Nat, k ≤ n ∧ i = .int .i64 k ∧ wr.ownsRow w.heap.size 56 7 (.slice (some ⟨w.heap.size, 0, none⟩) n n) n (fillE es n k) ∧ Below w.heap.size w wr) (fun i _ => n - (intOf i).toNat)
  case atStart => exact ⟨0, Nat.zero_le _, rfl, by rw [fillE_zero]; exact hown0, hb0⟩
  case round =>
    obtain ⟨k, hk, rfl, hown, hb⟩ := hrel
    by_cases hlt : k < n
    · obtain ⟨b, off, rfl, _, _, c0, c1, c2, c3, c4, c5, c6⟩ := (hS.below hb hhi).en hlt
      have ex := fillE_cells es hlt HL.out
      obtain ⟨u0, x0⟩ := ex 0 (by omega)
      obtain ⟨u1, x1⟩ := ex 1 (by omega)
      obtain ⟨u2, x2⟩ := ex 2 (by omega)
      obtain ⟨u3, x3⟩ := ex 3 (by omega)
      obtain ⟨u4, x4⟩ := ex 4 (by omega)
      obtain ⟨u5, x5⟩ := ex 5 (by omega)
      obtain ⟨u6, x6⟩ := ex 6 (by omega)
      rw [Nat.add_zero] at x0
      have hst := fillE_set hlt HL.out
      obtain ⟨⟨h0, h1, h2, h3, h4, h5, h6⟩, hh⟩ : ∃ p, enAt es k = p := ⟨_, rfl⟩
      rw [hh] at c0 c1 c2 c3 c4 c5 c6 hst
      simp only at c0 c1 c2 c3 c4 c5 c6 hst
      have HST := Lib.hid hst
      clear hst hh ex
      go_wp2_with (go_at_call 57; refine (toEntry_any _ _ _ _ _ _ _ _).mono ?_; rintro e w1 ⟨rfl, hb1⟩; have hown1 := own_below hown hb1; have d0 := (hown1.cellAt (k * 7) (by omega)).trans x0; have d1 := (hown1.cellAt (k * 7 + 1) (by omega)).trans x1; have d2 := (hown1.cellAt (k * 7 + 2) (by omega)).trans x2; have d3 := (hown1.cellAt (k * 7 + 3) (by omega)).trans x3; have d4 := (hown1.cellAt (k * 7 + 4) (by omega)).trans x4; have d5 := (hown1.cellAt (k * 7 + 5) (by omega)).trans x5; have d6 := (hown1.cellAt (k * 7 + 6) (by omega)).trans x6; have df := hown1.frozenAt; have hb2 := hb.trans (hb1.mono hb.size))
      have o0 := (hown1.stored (k * 7) (.int .i64 h0)).1
      have o1 := (o0.stored (k * 7 + 1) (.int .i64 h1)).1
      have o2 := (o1.stored (k * 7 + 2) (.int .i64 h2)).1
      have o3 := (o2.stored (k * 7 + 3) (.int .i64 h3)).1
      have o4 := (o3.stored (k * 7 + 4) (.int .i64 h4)).1
      have o5 := (o4.stored (k * 7 + 5) (.int .i64 h5)).1
      have o6 := (o5.stored (k * 7 + 6) (.int .i64 h6)).1
      rw [HST.out] at o6
      have hb3 := (((((((hb2).setCell (p := ⟨w.heap.size, k * 7, none⟩) (Nat.le_refl _) (.int .i64 h0)).setCell (p := ⟨w.heap.size, k * 7 + 1, none⟩) (Nat.le_refl _) (.int .i64 h1)).setCell (p := ⟨w.heap.size, k * 7 + 2, none⟩) (Nat.le_refl _) (.int .i64 h2)).setCell (p := ⟨w.heap.size, k * 7 + 3, none⟩) (Nat.le_refl _) (.int .i64 h3)).setCell (p := ⟨w.heap.size, k * 7 + 4, none⟩) (Nat.le_refl _) (.int .i64 h4)).setCell (p := ⟨w.heap.size, k * 7 + 5, none⟩) (Nat.le_refl _) (.int .i64 h5)).setCell (p := ⟨w.heap.size, k * 7 + 6, none⟩) (Nat.le_refl _) (.int .i64 h6)
      go_roundw
      case rel => exact ⟨k + 1, by omega, by go_num, o6, hb3⟩
      case measure => simp [intOf]; omega
    · obtain rfl : n = k := by omega
      rw [fillE_full HL.out] at hown
      go_wp2
      go_ret
      exact ⟨rfl, hown, hb⟩

/-- A table of one's own. -/
def TabOwn (w : World) (sz st : Int) (n : Nat) (es : List En7) (e : Ending) (w' : World) : Prop := ∃ g, e = .returned (.agg #[.int .i64 sz, .int .i64 st, .slice (some ⟨g, 0, none⟩) n n]) ∧ w'.ownsRow w.heap.size 56 7 (.slice (some ⟨g, 0, none⟩) n n) n (ensV es) ∧ Below w.heap.size w w'
set_option maxHeartbeats 800000 in
theorem toTable_any (sz st : Int) (A : Option Addr) (n c : Nat) (es : List En7) (w : World) {lo hi : Nat} (hS : Sl w lo hi 7 A n (ensV es)) (hhi : hi ≤ w.heap.size) (hn : n ≤ 1048576) :
    Calls Try.prog 11 #[.agg #[.int .i64 sz, .int .i64 st, .slice A n c]] w (TabOwn w sz st n es) := by
  have s1 := hS.alloc hhi (.cells #[.int .i64 sz, .int .i64 st, .slice A n c] 25)
  have s2 := s1.alloc (by simp; omega) (.cells #[.int .i64 0, .int .i64 0, .slice none 0 0] 34)
  have s3 := s2.alloc (by simp; omega) (.cells #[.int .i64 sz, .int .i64 st, .slice none 0 0] 34)
  have b3 := (((Below.refl w.heap.size w).alloc (Nat.le_refl _) (.cells #[.int .i64 sz, .int .i64 st, .slice A n c] 25)).alloc (by simp) (.cells #[.int .i64 0, .int .i64 0, .slice none 0 0] 34)).alloc (by simp; omega) (.cells #[.int .i64 sz, .int .i64 st, .slice none 0 0] 34)
  have k1 := (Blk.new (w.alloc (.cells #[.int .i64 sz, .int .i64 st, .slice A n c] 25)) 34 #[.int .i64 0, .int .i64 0, .slice none 0 0]).alloc (.cells #[.int .i64 sz, .int .i64 st, .slice none 0 0] 34)
  have k2 := Blk.new ((w.alloc (.cells #[.int .i64 sz, .int .i64 st, .slice A n c] 25)).alloc (.cells #[.int .i64 0, .int .i64 0, .slice none 0 0] 34)) 34 #[.int .i64 sz, .int .i64 st, .slice none 0 0]
  have hcon := toEntryS_any A n c es _ s3 (by simp; omega) hn
  simp only [World.size_alloc] at k1 k2 hcon
  go_enter Try.func11, Try.ntmps11
  go_wp2_with fail
  refine hcon.mono ?_
  rintro e w1 ⟨rfl, own1, hb1⟩
  have j1 := k1.below hb1 (by omega)
  have j2 := k2.below hb1 (by omega)
  have d0 : w1.cell? ⟨w.heap.size + 1, 0, none⟩ = some (.int .i64 0) := j1.cell 0
  have d1 : w1.cell? ⟨w.heap.size + 1, 1, none⟩ = some (.int .i64 0) := j1.cell 1
  have d2 : w1.cell? ⟨w.heap.size + 1, 2, none⟩ = some (.slice none 0 0) := j1.cell 2
  have e0 : w1.cell? ⟨w.heap.size + 1 + 1, 0, none⟩ = some (.int .i64 sz) := j2.cell 0
  have e1 : w1.cell? ⟨w.heap.size + 1 + 1, 1, none⟩ = some (.int .i64 st) := j2.cell 1
  have e2 : w1.cell? ⟨w.heap.size + 1 + 1, 2, none⟩ = some (.slice none 0 0) := j2.cell 2
  have hf1 := j1.frozen
  have hf2 := j2.frozen
  have bb := b3.trans (hb1.mono (by first | omega | (simp only [World.size_alloc]; omega)))
  go_wp2
  have o := own_base own1 (show w.heap.size ≤ w.heap.size + 1 + 1 + 1 by omega)
  have q := (((j1.far (p := ⟨w.heap.size + 1 + 1, 2, none⟩) (by show w.heap.size + 1 ≠ w.heap.size + 1 + 1; omega) (.slice (some ⟨w.heap.size + 1 + 1 + 1, 0, none⟩) n n)).set_ 0 (.int .i64 sz)).set_ 1 (.int .i64 st)).set_ 2 (.slice (some ⟨w.heap.size + 1 + 1 + 1, 0, none⟩) n n)
  have u1 := own_other o (only_setCell (World.grownBy.refl w1 (some (w.heap.size + 1 + 1))) (p := ⟨w.heap.size + 1 + 1, 2, none⟩) (.inl rfl) (.slice (some ⟨w.heap.size + 1 + 1 + 1, 0, none⟩) n n)) (by simp [Value.ownBlock] <;> omega)
  have u2 := own_other u1 (only_setCell (only_setCell (only_setCell (World.grownBy.refl _ (some (w.heap.size + 1))) (p := ⟨w.heap.size + 1, 0, none⟩) (.inl rfl) (.int .i64 sz)) (p := ⟨w.heap.size + 1, 1, none⟩) (.inl rfl) (.int .i64 st)) (p := ⟨w.heap.size + 1, 2, none⟩) (.inl rfl) (.slice (some ⟨w.heap.size + 1 + 1 + 1, 0, none⟩) n n)) (by simp [Value.ownBlock] <;> omega)
  have e4 := (((bb.setCell (p := ⟨w.heap.size + 1 + 1, 2, none⟩) (by show w.heap.size ≤ w.heap.size + 1 + 1; omega) (.slice (some ⟨w.heap.size + 1 + 1 + 1, 0, none⟩) n n)).setCell (p := ⟨w.heap.size + 1, 0, none⟩) (Nat.le_succ _) (.int .i64 sz)).setCell (p := ⟨w.heap.size + 1, 1, none⟩) (Nat.le_succ _) (.int .i64 st)).setCell (p := ⟨w.heap.size + 1, 2, none⟩) (Nat.le_succ _) (.slice (some ⟨w.heap.size + 1 + 1 + 1, 0, none⟩) n n)
  generalize hW : ((((w1.setCell ⟨w.heap.size + 1 + 1, 2, none⟩ (.slice (some ⟨w.heap.size + 1 + 1 + 1, 0, none⟩) n n)).setCell ⟨w.heap.size + 1, 0, none⟩ (.int .i64 sz)).setCell ⟨w.heap.size + 1, 1, none⟩ (.int .i64 st)).setCell ⟨w.heap.size + 1, 2, none⟩ (.slice (some ⟨w.heap.size + 1 + 1 + 1, 0, none⟩) n n)) = W5 at u2 e4 q ⊢
  clear hW
  have x0 : W5.cell? ⟨w.heap.size + 1, 0, none⟩ = some (.int .i64 sz) := by rw [q.cell]; rfl
  have x1 : W5.cell? ⟨w.heap.size + 1, 1, none⟩ = some (.int .i64 st) := by rw [q.cell]; rfl
  have x2 : W5.cell? ⟨w.heap.size + 1, 2, none⟩ = some (.slice (some ⟨w.heap.size + 1 + 1 + 1, 0, none⟩) n n) := by rw [q.cell]; rfl
  refine bodyPost_ret (v := .agg #[.int .i64 sz, .int .i64 st, .slice (some ⟨w.heap.size + 1 + 1 + 1, 0, none⟩) n n]) ?_ rfl ⟨_, rfl, u2, e4⟩
  simp [results, Try.results11, go_sem, x0, x1, x2]

end Go.Proofs.Ytgdcfhifiincaaa
