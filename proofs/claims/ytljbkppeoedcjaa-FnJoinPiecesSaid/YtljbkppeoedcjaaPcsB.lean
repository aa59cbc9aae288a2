/-
  Pieces: toPiece, toPieceS, eqPiece, eqPieceS of the laws.
-/
import Derived.Test.YtljbkppeoedcjaaPcsA
namespace Go.Proofs.Ytljbkppeoedcjaa
open Go.RowKit
set_option linter.unusedVariables false
attribute [local go_sem ↓] Go.wp_at_zero Go.wp_at_succ

theorem infoPiece : (Try.prog.info? 35).map (fun i => (i.zero, i.size, i.bytes)) = some (some (.agg #[.int .i64 0, .bool false, .slice none 0 0]), 3, 40) := by kernel_rfl

set_option maxHeartbeats 800000 in
theorem toPiece_any (a : Int) (mo : Bool) (A : Option Addr) (n c : Nat) (zs : List Int) (w : World) {lo hi : Nat} (hs : Sl w lo hi 1 A n (zs.map (Value.int .u8))) (hhi : hi ≤ w.heap.size) (hn : n ≤ 1048576) :
    Calls Try.prog 34 #[.agg #[.int .i64 a, .bool mo, .slice A n c]] w fun e w' => e = .returned (.agg #[.int .i64 a, .bool mo, .slice (some ⟨w.heap.size + 1 + 1 + 1, 0, none⟩) n n]) ∧
      w'.ownsRow (w.heap.size + 1 + 1 + 1) 5 1 (.slice (some ⟨w.heap.size + 1 + 1 + 1, 0, none⟩) n n) n (zs.map (Value.int .u8)) ∧ Below w.heap.size w w' := by
  go_enter Try.func34, Try.ntmps34
  go_wp2_with fail
  refine (toByteS_any _ _ _ zs _ (hs.below (B := w.heap.size) (by repeat' first | exact Below.refl _ _ | refine Below.alloc ?_ (by simp; try omega) _) hhi) (by simp; omega) hn).mono ?_
  rintro e w1 ⟨rfl, own1, b1⟩
  have c1 := (bcell b1).1
  have f1 := (bcell b1).2
  have z1 := b1.size
  simp only [World.size_alloc] at own1 c1 f1 z1
  go_wp2_with fail
  have u1 := own_store (i := 2) own1 (k := w.heap.size + 1 + 1) (by simp [Value.ownBlock] <;> omega) (.slice (some ⟨w.heap.size + 1 + 1 + 1, 0, none⟩) n n)
  have u2 := own_store (i := 2) (own_store (i := 1) (own_store (i := 0) u1 (k := w.heap.size + 1) (by simp [Value.ownBlock] <;> omega) (.int .i64 a)) (k := w.heap.size + 1) (by simp [Value.ownBlock] <;> omega) (.bool mo)) (k := w.heap.size + 1) (by simp [Value.ownBlock] <;> omega) (.slice (some ⟨w.heap.size + 1 + 1 + 1, 0, none⟩) n n)
  have e1 := ((Below.refl w.heap.size w).alloc (Nat.le_refl _) (.cells #[.int .i64 a, .bool mo, .slice A n c] 57))
  have e2 := (e1.alloc (by simp) (.cells #[.int .i64 0, .bool false, .slice none 0 0] 35))
  have e3 := (e2.alloc (by simp; omega) (.cells #[.int .i64 a, .bool mo, .slice none 0 0] 35)).trans (b1.mono (by simp; omega))
  have e4 := (((e3.setCell (p := ⟨w.heap.size + 1 + 1, 2, none⟩) (by show w.heap.size ≤ w.heap.size + 1 + 1; omega) (.slice (some ⟨w.heap.size + 1 + 1 + 1, 0, none⟩) n n)).setCell (p := ⟨w.heap.size + 1, 0, none⟩) (Nat.le_succ _) (.int .i64 a)).setCell (p := ⟨w.heap.size + 1, 1, none⟩) (Nat.le_succ _) (.bool mo)).setCell (p := ⟨w.heap.size + 1, 2, none⟩) (Nat.le_succ _) (.slice (some ⟨w.heap.size + 1 + 1 + 1, 0, none⟩) n n)
  have k0 := ((Blk.new (w.alloc (.cells #[.int .i64 a, .bool mo, .slice A n c] 57)) 35 #[.int .i64 0, .bool false, .slice none 0 0]).alloc (.cells #[.int .i64 a, .bool mo, .slice none 0 0] 35)).below b1 (by simp)
  simp only [World.size_alloc] at k0
  have k1 := (((k0.far (p := ⟨w.heap.size + 1 + 1, 2, none⟩) (by show w.heap.size + 1 ≠ w.heap.size + 1 + 1; omega) (.slice (some ⟨w.heap.size + 1 + 1 + 1, 0, none⟩) n n)).set_ 0 (.int .i64 a)).set_ 1 (.bool mo)).set_ 2 (.slice (some ⟨w.heap.size + 1 + 1 + 1, 0, none⟩) n n)
  clear e1 e2 e3 k0 u1 own1 c1 f1 b1
  generalize hW : (World.setCell (World.setCell (World.setCell (w1.setCell ⟨w.heap.size + 1 + 1, 2, none⟩ (.slice (some ⟨w.heap.size + 1 + 1 + 1, 0, none⟩) n n)) ⟨w.heap.size + 1, 0, none⟩ (.int .i64 a)) ⟨w.heap.size + 1, 1, none⟩ (.bool mo)) ⟨w.heap.size + 1, 2, none⟩ (.slice (some ⟨w.heap.size + 1 + 1 + 1, 0, none⟩) n n)) = W5 at u2 e4 k1 ⊢
  clear hW
  have x0 : W5.cell? ⟨w.heap.size + 1, 0, none⟩ = some (.int .i64 a) := by rw [k1.cell]; rfl
  have x1 : W5.cell? ⟨w.heap.size + 1, 1, none⟩ = some (.bool mo) := by rw [k1.cell]; rfl
  have x2 : W5.cell? ⟨w.heap.size + 1, 2, none⟩ = some (.slice (some ⟨w.heap.size + 1 + 1 + 1, 0, none⟩) n n) := by rw [k1.cell]; rfl
  refine bodyPost_ret (v := .agg #[.int .i64 a, .bool mo, .slice (some ⟨w.heap.size + 1 + 1 + 1, 0, none⟩) n n]) ?_ rfl ⟨rfl, u2, e4⟩
  simp [results, Try.results34, go_sem, x0, x1, x2]

theorem toList_madeCells_pcs (n : Nat) : (madeCells #[.int .i64 0, .bool false, .slice none 0 0] (n * 3)).toList = pvs (List.replicate n default) := by
  apply List.ext_getElem?
  intro j
  by_cases hj : j < n * 3
  · have hq : j / 3 < n := by omega
    obtain ⟨a0, a1, a2⟩ := pvs_at (List.replicate n default) (j / 3) (by simpa using hq)
    have ha : pAt (List.replicate n default) (j / 3) = default := by unfold pAt; simp [hq]
    rw [ha] at a0 a1 a2
    have hm3 : j % 3 = 0 ∨ j % 3 = 1 ∨ j % 3 = 2 := by omega
    have hl : (madeCells #[.int .i64 0, .bool false, .slice none 0 0] (n * 3)).toList[j]? = some (#[Value.int .i64 0, .bool false, .slice none 0 0][j % 3]!) := by simp [madeCells, hj]
    rw [hl]
    rcases hm3 with h | h | h
    · rw [h]
      rw [show j / 3 * 3 = j from by omega] at a0
      rw [a0]; rfl
    · rw [h]
      rw [show j / 3 * 3 + 1 = j from by omega] at a1
      rw [a1]; rfl
    · rw [h]
      rw [show j / 3 * 3 + 2 = j from by omega] at a2
      rw [a2]; rfl
  · rw [List.getElem?_eq_none (by simp [madeCells]; omega), List.getElem?_eq_none (by rw [pvs_length]; simp; omega)]
theorem own_madeP (w : World) (e : TypeId) (n : Nat) (hm : n ≤ maxLen) :
    (w.alloc (.cells (madeCells #[.int .i64 0, .bool false, .slice none 0 0] (n * 3)) e)).ownsRow w.heap.size e 3 (.slice (some ⟨w.heap.size, 0, none⟩) n n) n (pvs (List.replicate n default)) := by
  have := World.ownsRow_lit (base := w.heap.size) (e := e) (size := 3) w (madeCells #[.int .i64 0, .bool false, .slice none 0 0] (n * 3)) n (Nat.le_refl _) hm (by simp [size_madeCells])
  rwa [toList_madeCells_pcs] at this
theorem ownPcs_made (w : World) (n : Nat) (hm : n ≤ maxLen) : OwnPcs (w.alloc (.cells (madeCells #[.int .i64 0, .bool false, .slice none 0 0] (n * 3)) 35)) w.heap.size (.slice (some ⟨w.heap.size, 0, none⟩) n n) n (List.replicate n default) := by
  have hd : ∀ p ∈ List.replicate n (default : Pv), p = default := fun p hp => (List.mem_replicate.1 hp).2
  refine ⟨own_madeP w _ n hm, fun p hp => ?_, fun p hp => ?_, ?_⟩
  · rw [hd p hp]
    exact World.ownsRow_nil _ _ _ _
  · rw [hd p hp]
    exact fun z hz => absurd hz (by simp [default])
  · rw [List.pairwise_iff_getElem]
    intro i j hi hj _ g hg
    rw [List.getElem_replicate] at hg
    exact absurd hg (by simp [default, Pv.body, Value.ownBlock])
/-- The first k pieces are copies, the others zero. -/
def CopiedP (ps qs : List Pv) (n k : Nat) : Prop := qs.length = n ∧ ∀ i, i < k → (pAt qs i).pc = (pAt ps i).pc ∧ (pAt qs i).n = (pAt ps i).n
theorem pAt_set {qs : List Pv} {k i : Nat} {p : Pv} (hk : k < qs.length) : pAt (qs.set k p) i = if k = i then p else pAt qs i := by
  unfold pAt
  rw [List.getElem?_set]
  by_cases h : k = i
  · subst h; simp [hk]
  · rw [if_neg h, if_neg h]
theorem CopiedP.step {ps qs : List Pv} {n k : Nat} {p : Pv} (h : CopiedP ps qs n k) (hk : k < n) (h1 : p.pc = (pAt ps k).pc) (h2 : p.n = (pAt ps k).n) : CopiedP ps (qs.set k p) n (k + 1) := by
  refine ⟨by rw [List.length_set]; exact h.1, fun i hi => ?_⟩
  rw [pAt_set (by rw [h.1]; exact hk)]
  by_cases e : k = i
  · subst e
    rw [if_pos rfl]
    exact ⟨h1, h2⟩
  · rw [if_neg e]
    exact h.2 i (by omega)
theorem CopiedP.all {ps qs : List Pv} {n : Nat} (h : CopiedP ps qs n n) (hl : ps.length = n) : qs.map Pv.pc = ps.map Pv.pc := by
  apply List.ext_getElem (by simp [h.1, hl])
  intro i h1 h2
  simp at h1 h2
  have := (h.2 i (by rw [← hl]; exact h2)).1
  rw [pAt_eq h1, pAt_eq h2] at this
  simpa using this
theorem CopiedP.sum {ps qs : List Pv} {n : Nat} (h : CopiedP ps qs n n) (hl : ps.length = n) : sumN qs = sumN ps := by
  have : ∀ k, k ≤ n → sumN (qs.take k) = sumN (ps.take k) := by
    intro k
    induction k with
    | zero => intro _; simp [sumN]
    | succ k ih =>
      intro hk
      rw [sumN_step (by rw [h.1]; omega), sumN_step (by omega), ih (by omega), (h.2 k (by omega)).2]
  have hh := this n (Nat.le_refl _)
  rwa [List.take_of_length_le (by rw [h.1]; exact Nat.le_refl _), List.take_of_length_le (by rw [hl]; exact Nat.le_refl _)] at hh
/-- A call hands back pieces of its own. -/
def RetPcs (W : World) (n : Nat) (pcs : List Pc) (e : Ending) (w' : World) : Prop := ∃ (A : Option Addr) (c : Nat) (qs : List Pv), e = .returned (.slice A n c) ∧ qs.map Pv.pc = pcs ∧ OwnPcs w' W.heap.size (.slice A n c) n qs ∧ Below W.heap.size W w'
/-- .. a copy. -/
def CopyPcs (W : World) (n : Nat) (ps : List Pv) (e : Ending) (w' : World) : Prop := ∃ (qs : List Pv), e = .returned (.slice (some ⟨W.heap.size, 0, none⟩) n n) ∧ qs.map Pv.pc = ps.map Pv.pc ∧ sumN qs = sumN ps ∧ OwnPcs w' W.heap.size (.slice (some ⟨W.heap.size, 0, none⟩) n n) n qs ∧ Below W.heap.size W w'
theorem setP_below {B : Nat} {W w : World} {g o : Nat} {p : Pv} (h : Below B W w) (hg : B ≤ g) : Below B W (setP w g o p) :=
  ((h.setCell (p := ⟨g, o, none⟩) hg _).setCell (p := ⟨g, o + 1, none⟩) hg _).setCell (p := ⟨g, o + 2, none⟩) hg _
theorem pvs_ex {ps : List Pv} {k : Nat} (h : k < ps.length) : ∃ x y z, (pvs ps)[k * 3]? = some x ∧ (pvs ps)[k * 3 + 1]? = some y ∧ (pvs ps)[k * 3 + 2]? = some z := by
  obtain ⟨a, b, c⟩ := pvs_at ps k h
  exact ⟨_, _, _, a, b, c⟩

set_option maxHeartbeats 1600000 in
theorem toPieceS_any (A : Option Addr) (n c : Nat) (ps : List Pv) (w : World) {lo hi : Nat} (hS : Pcs w lo hi A n ps) (hhi : hi ≤ w.heap.size) (hn : n ≤ 1048576) (hN : sumN ps ≤ 1048576) :
    Calls Try.prog 22 #[.slice A n c] w (CopyPcs w n ps) := by
  have HL := Lib.hid hS.len
  obtain ⟨i0, hi0, hz0, hz1, hz2⟩ := info_parts infoPiece
  have hown0 := ownPcs_made w n (by unfold maxLen; omega)
  have hb0 := (Below.refl w.heap.size w).alloc (Nat.le_refl _) (.cells (madeCells #[.int .i64 0, .bool false, .slice none 0 0] (n * 3)) 35)
  have hmk : ∀ W : World, (Instr.makeSlice 23 (.int .i64 (n : Int)) (.int .i64 (n : Int))).run Try.prog W = .ok (.slice (some ⟨W.heap.size, 0, none⟩) n n) (W.alloc (.cells (madeCells #[.int .i64 0, .bool false, .slice none 0 0] (n * 3)) 35)) := fun W => by
    have := run_make_rowN (P := Try.prog) 23 35 i0 _ Try.underlying23 hi0 hz0 .i64 .i64 n n (Nat.le_refl _) (by rw [hz2]; omega) (by omega) W
    rw [hz1] at this
    exact this
  go_enter Try.func22, Try.ntmps22
  go_wp2
  obtain ⟨w0, hw0⟩ : ∃ w0, w0 = w.alloc (.cells (madeCells #[.int .i64 0, .bool false, .slice none 0 0] (n * 3)) 35) := ⟨_, rfl⟩
  rw [← hw0] at hown0 hb0 ⊢
  clear hw0 hmk
  go_loopw [4] (fun i wr => ∃ (k : Nat) (qs : List Pv), k ≤ n ∧ i = .int .i64 k ∧ OwnPcs wr w.heap.size (.slice (some ⟨w.heap.size, 0, none⟩) n n) n qs ∧ CopiedP ps qs n k ∧ Below w.heap.size w wr) (fun i _ => n - (intOf i).toNat)
  case atStart => exact ⟨0, _, Nat.zero_le _, rfl, hown0, ⟨by simp, fun i hi => absurd hi (by omega)⟩, hb0⟩
  case round =>
    obtain ⟨k, qs, hk, rfl, hown, hcp, hb⟩ := hrel
    by_cases hlt : k < n
    · obtain ⟨b, off, rfl, _, _, c0, c1, c2, hsl, _, _, hby⟩ := (hS.below hb hhi).piece hlt
      have hpn : (pAt ps k).n ≤ 1048576 := Nat.le_trans (sumN_le (pAt_mem (by rw [HL.out]; exact hlt))) hN
      obtain ⟨⟨a, mo, B, m, mc, zs⟩, hp⟩ : ∃ p, pAt ps k = p := ⟨_, rfl⟩
      have HP := Lib.hid hp
      rw [hp] at c0 c1 c2 hsl hby hpn
      clear hp
      simp only at c0 c1 c2 hsl hby hpn
      have HC := Lib.hid hcp
      clear hcp
      obtain ⟨x, y, z, x0, x1, x2⟩ := pvs_ex (ps := qs) (k := k) (by rw [HC.out.1]; exact hlt)
      have hzz := hb.size
      go_wp2_with (go_at_call 34; refine (toPiece_any _ _ _ _ _ zs _ hsl (by omega) hpn).mono ?_; rintro e w1 ⟨rfl, ob1, hb1⟩; have hown1 := hown.below hb1; have d0 := (hown1.row.cellAt (k * 3) (by omega)).trans x0; have d1 := (hown1.row.cellAt (k * 3 + 1) (by omega)).trans x1; have d2 := (hown1.row.cellAt (k * 3 + 2) (by omega)).trans x2; have df := hown1.row.frozenAt; have hb2 := hb.trans (hb1.mono hb.size))
      have o3 := hown.put (New.of_below hb1) hlt ⟨a, mo, some ⟨wr.heap.size + 1 + 1 + 1, 0, none⟩, m, m, zs⟩ (own_more ob1 (by omega)) (fun b he => by simp [Pv.body, Value.ownBlock] at he; omega) hby
      have hb3 := setP_below (g := w.heap.size) (o := k * 3) (p := ⟨a, mo, some ⟨wr.heap.size + 1 + 1 + 1, 0, none⟩, m, m, zs⟩) hb2 (Nat.le_refl _)
      unfold setP at o3 hb3
      go_roundw
      case rel => exact ⟨k + 1, _, by omega, by go_num, o3, HC.out.step hlt (by rw [HP.out]; rfl) (by rw [HP.out]), hb3⟩
      case measure => simp [intOf]; omega
    · obtain rfl : n = k := by omega
      go_wp2
      go_ret
      exact ⟨qs, rfl, hcp.all HL.out, hcp.sum HL.out, hown, hb⟩

theorem eqPiece_yes (a : Int) (mo : Bool) (A A' : Option Addr) (n c c' : Nat) (zs : List Int) (w : World) {lo hi lo' hi' : Nat} (hs : Sl w lo hi 1 A n (zs.map (Value.int .u8))) (hs' : Sl w lo' hi' 1 A' n (zs.map (Value.int .u8))) (hh : hi ≤ w.heap.size) (hh' : hi' ≤ w.heap.size) (hn : n ≤ 1048576) :
    Calls Try.prog 27 #[.agg #[.int .i64 a, .bool mo, .slice A n c], .agg #[.int .i64 a, .bool mo, .slice A' n c']] w fun e w' => e = .returned (.bool true) ∧ Below w.heap.size w w' := by
  have s1 := (hs.alloc hh (.cells #[.int .i64 a, .bool mo, .slice A n c] 35)).alloc (by simp; omega) (.cells #[.int .i64 a, .bool mo, .slice A' n c'] 35)
  have s2 := (hs'.alloc hh' (.cells #[.int .i64 a, .bool mo, .slice A n c] 35)).alloc (by simp; omega) (.cells #[.int .i64 a, .bool mo, .slice A' n c'] 35)
  have b0 := ((Below.refl w.heap.size w).alloc (Nat.le_refl _) (.cells #[.int .i64 a, .bool mo, .slice A n c] 35)).alloc (by simp) (.cells #[.int .i64 a, .bool mo, .slice A' n c'] 35)
  have e1 : ((a : Int) != a) = false := by simp
  have e2 : (mo != mo) = false := by cases mo <;> rfl
  go_enter Try.func27, Try.ntmps27
  go_wp2_with fail
  refine (eqByteS_yes _ _ _ _ _ zs _ s1 s2 hn).mono ?_
  rintro e w' ⟨rfl, bz⟩
  go_wp2
  go_ret
  exact ⟨rfl, b0.trans (bz.mono (by simp; omega))⟩
end Go.Proofs.Ytljbkppeoedcjaa
