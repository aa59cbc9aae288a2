/-
  Pieces: eqPieceS, markPieceS, heldPieceS of the laws.
-/
import Derived.Test.YtljbkppeoedcjaaPcsB
import Derived.Test.YtljbkppeoedcjaaMarkByte
namespace Go.Proofs.Ytljbkppeoedcjaa
open Go.RowKit
set_option linter.unusedVariables false
attribute [local go_sem ↓] Go.wp_at_zero Go.wp_at_succ

theorem pc_at {ps qs : List Pv} (h : ps.map Pv.pc = qs.map Pv.pc) (k : Nat) : (pAt ps k).pc = (pAt qs k).pc := by
  have := congrArg (fun l => l[k]?) h
  simp only [List.getElem?_map] at this
  unfold pAt
  cases h1 : ps[k]? <;> cases h2 : qs[k]? <;> rw [h1, h2] at this <;> simp_all
set_option maxHeartbeats 1600000 in
theorem eqPieceS_yes (A A' : Option Addr) (n c c' : Nat) (ps qs : List Pv) (w : World) {lo hi lo' hi' : Nat} (hS : Pcs w lo hi A n ps) (hS' : Pcs w lo' hi' A' n qs) (hpc : ps.map Pv.pc = qs.map Pv.pc) (hhi : hi ≤ w.heap.size) (hhi' : hi' ≤ w.heap.size) (hn : n ≤ 1048576) (hN : sumN ps ≤ 1048576) :
    Calls Try.prog 10 #[.slice A n c, .slice A' n c'] w fun e w' => e = .returned (.bool true) ∧ Below w.heap.size w w' := by
  have HL := Lib.hid hS.len
  have HPC := Lib.hid hpc
  clear hpc
  go_enter Try.func10, Try.ntmps10
  go_wp2
  go_loopw [5] (fun i wr => ∃ k : Nat, k ≤ n ∧ i = .int .i64 k ∧ Below w.heap.size w wr) (fun i _ => n - (intOf i).toNat)
  case atStart => exact ⟨0, Nat.zero_le _, rfl, Below.refl _ _⟩
  case round =>
    obtain ⟨k, hk, rfl, hb⟩ := hrel
    by_cases hlt : k < n
    · obtain ⟨b, off, rfl, _, hbh, c0, c1, c2, hs1, _, _, _⟩ := (hS.below hb hhi).piece hlt
      obtain ⟨b', off', rfl, _, hbh', c0', c1', c2', hs2, _, _, _⟩ := (hS'.below hb hhi').piece hlt
      have hpn : (pAt ps k).n ≤ 1048576 := Nat.le_trans (sumN_le (pAt_mem (by rw [HL.out]; exact hlt))) hN
      have hpc := pc_at HPC.out k
      obtain ⟨⟨a, mo, B, m, mc, zs⟩, hp⟩ : ∃ p, pAt ps k = p := ⟨_, rfl⟩
      obtain ⟨⟨a', mo', B', m', mc', zs'⟩, hp'⟩ : ∃ p, pAt qs k = p := ⟨_, rfl⟩
      rw [hp] at c0 c1 c2 hs1 hpn hpc
      rw [hp'] at c0' c1' c2' hs2 hpc
      clear hp hp'
      simp only [Pv.pc, Pc.mk.injEq] at hpc
      simp only at c0 c1 c2 c0' c1' c2' hs1 hs2 hpn
      obtain ⟨rfl, rfl, rfl⟩ := hpc
      obtain rfl : m = m' := hs1.len.symm.trans hs2.len
      have hki : (0 : Int) ≤ (k : Int) := by omega
      have hki2 : (k : Int) < (n : Int) := by omega
      have hh1 : hi ≤ wr.heap.size := Nat.le_trans hhi hb.size
      have hh2 : hi' ≤ wr.heap.size := Nat.le_trans hhi' hb.size
      go_wp2
      go_region_held3 (fun w' => w'.cell? ⟨b, off + k * 3, none⟩ = some (.int .i64 a) ∧ w'.cell? ⟨b, off + k * 3 + 1, none⟩ = some (.bool mo) ∧ w'.cell? ⟨b, off + k * 3 + 2, none⟩ = some (.slice B m mc) ∧ w'.cell? ⟨b', off' + k * 3, none⟩ = some (.int .i64 a) ∧ w'.cell? ⟨b', off' + k * 3 + 1, none⟩ = some (.bool mo) ∧ w'.cell? ⟨b', off' + k * 3 + 2, none⟩ = some (.slice B' m mc')) (first | go_keep | trivial) ((first | (go_at_call 27; refine (eqPiece_yes _ _ _ _ _ _ _ zs _ (Sl.drew hs1) (Sl.drew hs2) hh1 hh2 hpn).mono ?_; rintro e w1 ⟨rfl, hb1⟩; have zz := hb.size; have q0 := hb1.cell (p := ⟨b, off + k * 3, none⟩) (by simp; omega); have q1 := hb1.cell (p := ⟨b, off + k * 3 + 1, none⟩) (by simp; omega); have q2 := hb1.cell (p := ⟨b, off + k * 3 + 2, none⟩) (by simp; omega); have r0 := hb1.cell (p := ⟨b', off' + k * 3, none⟩) (by simp; omega); have r1 := hb1.cell (p := ⟨b', off' + k * 3 + 1, none⟩) (by simp; omega); have r2 := hb1.cell (p := ⟨b', off' + k * 3 + 2, none⟩) (by simp; omega))))
      all_goals
        go_wp2
        go_roundw
        case rel => exact ⟨k + 1, by omega, by go_num, hb.drew.trans (hb1.mono hb.size)⟩
        case measure => simp [intOf]; omega
    · obtain rfl : n = k := by omega
      go_wp2
      go_ret
      exact ⟨rfl, hb⟩

theorem markNil (k0 : Int) (w : World) :
    Calls Try.prog 12 #[.slice none 0 0, .int .i64 k0] w fun e w' => e = .returned (.int .i64 k0) ∧ w = w' := by
  go_enter Try.func12, Try.ntmps12
  go_wp2
  go_loop [1, 5] (fun q i => i = .int .i64 0 ∧ q = .int .i64 k0) (fun _ _ => 0)
  case atStart => exact ⟨rfl, rfl⟩
  case round =>
    obtain ⟨rfl, rfl⟩ := hrel
    go_wp2
    go_ret
    exact ⟨rfl, rfl⟩
/-- The bytes of n marks from k0 on. -/
def markL (k0 : Int) (n : Nat) : List Int := (List.range n).map fun (j : Nat) => IntKind.u8.wrap (k0 + (j : Int))
theorem markL_len (k0 : Int) (n : Nat) : (markL k0 n).length = n := by simp [markL]
theorem markL_byte (k0 : Int) (n : Nat) : AllByte (markL k0 n) := by
  intro z hz
  obtain ⟨j, _, rfl⟩ := List.mem_map.1 hz
  rw [IntKind.wrap_u8]
  omega
theorem markL_marked (k0 : Int) (n : Nat) : MarkedB k0 n ((markL k0 n).map (Value.int .u8)) := by
  intro j hj
  simp [markL, hj]
theorem marked_eq {k0 : Int} {n : Nat} {ys : List Value} (h : MarkedB k0 n ys) (hl : ys.length = n) : ys = (markL k0 n).map (Value.int .u8) := by
  apply List.ext_getElem?
  intro j
  by_cases hj : j < n
  · rw [h j hj, markL_marked k0 n j hj]
  · rw [List.getElem?_eq_none (by omega), List.getElem?_eq_none (by simp [markL_len]; omega)]
theorem markBody (A : Option Addr) (n c : Nat) (k0 : Int) (xs : List Value) (base : Nat) (w : World) (hown : w.ownsRow base 5 1 (.slice A n c) n xs) (hn : n ≤ 1048576) (h0 : 0 ≤ k0) (h1 : k0 ≤ 100000000) :
    Calls Try.prog 12 #[.slice A n c, .int .i64 k0] w fun e w' => e = .returned (.int .i64 (k0 + n)) ∧ w'.ownsRow base 5 1 (.slice A n c) n ((markL k0 n).map (Value.int .u8)) ∧ w.grownBy w' (Value.ownBlock (.slice A n c)) := by
  rcases hown.2 with ⟨hv, hx⟩ | ⟨g, cap, cur, hv, _⟩
  · injection hv with h1 h2 h3
    subst h1 h2 h3
    refine (markNil k0 w).mono ?_
    rintro e w' ⟨rfl, rfl⟩
    refine ⟨by simp, World.ownsRow_nil _ _ _ _, World.grownBy.refl _ _⟩
  · injection hv with h1' h2 h3
    subst h1'
    refine (markByteS_any g n c k0 xs base w hown hn h0 h1).mono ?_
    rintro e w' ⟨rfl, ⟨ys, ho, hm⟩, hg⟩
    refine ⟨rfl, ?_, hg⟩
    rw [← marked_eq hm (by have := ho.1; omega)]
    exact ho

/-- A piece that bears the marks from s on. -/
def markP (s : Int) (p : Pv) : Pv := ⟨s, (s + 1) % 3 == 0, p.A, p.n, p.c, markL (s + 2) p.n⟩
/-- The pieces, each with its marks. -/
def markPs : Int → List Pv → List Pv
  | _, [] => []
  | s, p :: r => markP s p :: markPs (s + 2 + p.n) r
/-- The first k pieces marked, the others as they were. -/
def partP (s : Int) (ps : List Pv) (k : Nat) : List Pv := markPs s (ps.take k) ++ ps.drop k
theorem markPs_len (s : Int) (ps : List Pv) : (markPs s ps).length = ps.length := by
  induction ps generalizing s with
  | nil => rfl
  | cons p r ih => simp [markPs, ih]
theorem markPs_append (s : Int) (a b : List Pv) : markPs s (a ++ b) = markPs s a ++ markPs (s + 2 * a.length + sumN a) b := by
  induction a generalizing s with
  | nil => simp [markPs, sumN]
  | cons p r ih =>
    simp only [List.cons_append, markPs, ih, List.length_cons, sumN]
    congr 3
    omega
theorem partP_len (s : Int) (ps : List Pv) (k : Nat) : (partP s ps k).length = ps.length := by simp [partP, markPs_len]; omega
theorem partP_zero (s : Int) (ps : List Pv) : partP s ps 0 = ps := by simp [partP, markPs]
theorem partP_all (s : Int) (ps : List Pv) {n : Nat} (h : ps.length = n) : partP s ps n = markPs s ps := by
  subst h
  simp [partP]
theorem partP_at (s : Int) (ps : List Pv) {k : Nat} (h : k < ps.length) : pAt (partP s ps k) k = pAt ps k := by
  unfold pAt partP
  rw [List.getElem?_append_right (by simp [markPs_len]; omega)]
  simp [markPs_len]
  rw [show k - min k ps.length = 0 from by omega]
  simp
theorem partP_step (s : Int) (ps : List Pv) {k : Nat} (h : k < ps.length) : (partP s ps k).set k (markP (s + 2 * k + sumN (ps.take k)) (pAt ps k)) = partP s ps (k + 1) := by
  unfold partP
  rw [take_succ_p h, markPs_append, List.set_append_right _ _ (by simp [markPs_len]; omega)]
  have e : k - (markPs s (ps.take k)).length = 0 := by simp [markPs_len]; omega
  rw [e, List.drop_eq_getElem_cons h, List.set_cons_zero, List.append_assoc]
  congr 1
  simp [markPs, List.length_take, show min k ps.length = k from by omega]
theorem markPs_at (s : Int) (ps : List Pv) {k : Nat} (h : k < ps.length) : pAt (markPs s ps) k = markP (s + 2 * k + sumN (ps.take k)) (pAt ps k) := by
  have h1 : pAt (partP s ps (k + 1)) k = markP (s + 2 * k + sumN (ps.take k)) (pAt ps k) := by
    rw [← partP_step s ps h, pAt_set (by rw [partP_len]; exact h), if_pos rfl]
  have h2 : pAt (partP s ps (k + 1)) k = pAt (markPs s (ps.take (k + 1))) k := by
    unfold pAt partP
    rw [List.getElem?_append_left (by simp [markPs_len]; omega)]
  have h3 : markPs s ps = markPs s (ps.take (k + 1)) ++ markPs (s + 2 * (ps.take (k + 1)).length + sumN (ps.take (k + 1))) (ps.drop (k + 1)) := by
    rw [← markPs_append, List.take_append_drop]
  rw [h3, ← h1, h2]
  unfold pAt
  rw [List.getElem?_append_left (by simp [markPs_len]; omega)]
theorem sumN_marked (s : Int) (ps : List Pv) : sumN (markPs s ps) = sumN ps := by
  induction ps generalizing s with
  | nil => rfl
  | cons p r ih => simp [markPs, sumN, ih, markP]
theorem set_same {l : List Value} {i : Nat} {u : Value} (h : l[i]? = some u) : l.set i u = l := by
  apply List.ext_getElem?
  intro j
  rw [List.getElem?_set]
  by_cases e : i = j
  · subst e
    have : i < l.length := by
      rcases Nat.lt_or_ge i l.length with h1 | h1
      · exact h1
      · rw [List.getElem?_eq_none h1] at h; cases h
    rw [if_pos rfl, if_pos this, h]
  · rw [if_neg e]
section
variable {w w1 w3 : World} {base g n c : Nat} {qs : List Pv}
theorem OwnPcs.bodyAt (h : OwnPcs w base (.slice (some ⟨g, 0, none⟩) n c) n qs) {k : Nat} (hk : k < n) : w.ownsRow base 5 1 (.slice (pAt qs k).A (pAt qs k).n (pAt qs k).c) (pAt qs k).n ((pAt qs k).zs.map (Value.int .u8)) := h.bodies _ (pAt_mem (by rw [h.len]; exact hk))
/-- One piece marked: its two cells and its body. -/
theorem OwnPcs.mark (h : OwnPcs w base (.slice (some ⟨g, 0, none⟩) n c) n qs) {k : Nat} (hk : k < n) (s : Int) (mo : Bool) (zs' : List Int) (hw1 : (w.setCell ⟨g, k * 3, none⟩ (.int .i64 s)).setCell ⟨g, k * 3 + 1, none⟩ (.bool mo) = w1)
    (hp : w3.ownsRow base 5 1 (pAt qs k).body (pAt qs k).n (zs'.map (Value.int .u8))) (hg : w1.grownBy w3 (pAt qs k).body.ownBlock) (hb : AllByte zs') :
    OwnPcs w3 base (.slice (some ⟨g, 0, none⟩) n c) n (qs.set k ⟨s, mo, (pAt qs k).A, (pAt qs k).n, (pAt qs k).c, zs'⟩) := by
  have hl := h.len
  have hm := pAt_mem (ps := qs) (k := k) (by omega)
  have bne : ∀ q ∈ qs, q.body.ownBlock ≠ some g := fun q hq => h.body_ne hq rfl
  subst hw1
  obtain ⟨p, hpe⟩ : ∃ p, pAt qs k = p := ⟨_, rfl⟩
  have hpg : qs[k]? = some p := by rw [← hpe, pAt_eq (by omega)]; exact List.getElem?_eq_getElem (by omega)
  rw [hpe] at hp hg hm ⊢
  have hrow := h.row
  have s1 := (hrow.stored (k * 3) (.int .i64 s)).1
  have s2 := (s1.stored (k * 3 + 1) (.bool mo)).1
  have hset : ((pvs qs).set (k * 3) (.int .i64 s)).set (k * 3 + 1) (.bool mo) = pvs (qs.set k ⟨s, mo, p.A, p.n, p.c, zs'⟩) := by
    rw [← pvs_set qs k ⟨s, mo, p.A, p.n, p.c, zs'⟩ (by omega)]
    symm
    apply set_same
    rw [List.getElem?_set, if_neg (by omega), List.getElem?_set, if_neg (by omega), (pvs_at qs k (by omega)).2.2, hpe]
    rfl
  rw [hset] at s2
  have hpb : p.body.ownBlock ≠ some g := bne p hm
  refine ⟨own_apart2 s2 hg (fun i hi he => hpb (by cases hi; exact he)), fun q hq => ?_, fun q hq => ?_, ?_⟩
  · obtain ⟨i, hi, rfl⟩ := List.getElem_of_mem hq
    simp only [List.length_set] at hi
    rw [List.getElem_set]
    by_cases e : k = i
    · rw [if_pos e]; exact hp
    · rw [if_neg e]
      have hqm : qs[i] ∈ qs := List.getElem_mem _
      refine own_apart2 (own_store (own_store (h.bodies _ hqm) (bne _ hqm) _) (bne _ hqm) _) hg fun j hj he => ?_
      have hap := h.apart
      rw [List.pairwise_iff_getElem] at hap
      have hpk : qs[k]'(by omega) = p := by
        have := hpg
        rw [List.getElem?_eq_getElem (by omega)] at this
        injection this
      rcases Nat.lt_or_gt_of_ne e with h1 | h1
      · have := hap k i (by omega) (by omega) h1 j (by rw [hpk]; exact he)
        exact this hj
      · have := hap i k (by omega) (by omega) h1 j hj
        exact this (by rw [hpk]; exact he)
  · rcases List.mem_or_eq_of_mem_set hq with hq | rfl
    · exact h.byte q hq
    · exact hb
  · have hap := h.apart
    rw [List.pairwise_iff_getElem] at hap ⊢
    intro i j hi hj hij
    simp only [List.length_set] at hi hj
    have hbod : ∀ (i : Nat) (hi : i < (qs.set k ⟨s, mo, p.A, p.n, p.c, zs'⟩).length) (hi' : i < qs.length), ((qs.set k ⟨s, mo, p.A, p.n, p.c, zs'⟩)[i]).body = (qs[i]).body := fun i hi hi' => by
      rw [List.getElem_set]
      by_cases e : k = i
      · subst e
        rw [if_pos rfl]
        have : qs[k] = p := by
          have := hpg
          rw [List.getElem?_eq_getElem (by omega)] at this
          injection this
        rw [this]
        rfl
      · rw [if_neg e]
    rw [hbod i _ hi, hbod j _ hj]
    exact hap i j hi hj hij
end
/-- All blocks of the pieces lie below hi. -/
def UnderP (hi : Nat) (v : Value) (ps : List Pv) : Prop := (∀ g, v.ownBlock = some g → g < hi) ∧ ∀ p ∈ ps, ∀ g, p.body.ownBlock = some g → g < hi
theorem OwnPcs.under {w : World} {base n : Nat} {v : Value} {ps : List Pv} (h : OwnPcs w base v n ps) : UnderP w.heap.size v ps := ⟨fun g hg => (h.row.lt g hg).2, fun p hp g hg => ((h.bodies p hp).lt g hg).2⟩
theorem UnderP.part {hi : Nat} {v : Value} {ps : List Pv} (h : UnderP hi v ps) (k : Nat) : ∀ g, (pAt ps k).body.ownBlock = some g → g < hi := by
  intro g hg
  by_cases hk : k < ps.length
  · exact h.2 _ (pAt_mem hk) g hg
  · unfold pAt at hg
    rw [List.getElem?_eq_none (by omega)] at hg
    exact absurd hg (by simp [default, Pv.body, Value.ownBlock])

set_option maxHeartbeats 1600000 in
theorem markPieceS_any (g n c : Nat) (k0 : Int) (ps : List Pv) (base hi : Nat) (w : World) (hown : OwnPcs w base (.slice (some ⟨g, 0, none⟩) n c) n ps) (hu : UnderP hi (.slice (some ⟨g, 0, none⟩) n c) ps) (hn : n ≤ 1048576) (hN : sumN ps ≤ 1048576) (h0 : 0 ≤ k0) (h1 : k0 ≤ 1000000) :
    Calls Try.prog 13 #[.slice (some ⟨g, 0, none⟩) n c, .int .i64 k0] w fun e w' => e = .returned (.int .i64 (k0 + 2 * n + sumN ps)) ∧ OwnPcs w' base (.slice (some ⟨g, 0, none⟩) n c) n (markPs k0 ps) ∧ Rng base hi w w' := by
  have HL := Lib.hid hown.len
  have hgb := hown.row.lt g rfl
  have hgh := hu.1 g rfl
  go_enter Try.func13, Try.ntmps13
  go_wp2
  go_loopw [1, 5] (fun q i wr => ∃ (k : Nat) (s : Int), k ≤ n ∧ i = .int .i64 k ∧ q = .int .i64 s ∧ Hid (s = k0 + 2 * k + sumN (ps.take k)) ∧ 0 ≤ s ∧ s ≤ 10000000 ∧ OwnPcs wr base (.slice (some ⟨g, 0, none⟩) n c) n (partP k0 ps k) ∧ Rng base hi w wr) (fun _ i _ => n - (intOf i).toNat)
  case atStart => exact ⟨0, k0, Nat.zero_le _, rfl, rfl, Lib.hid (by simp [sumN]), h0, by omega, by rw [partP_zero]; exact hown, Rng.refl _ _ _⟩
  case round =>
    obtain ⟨k, s, hk, rfl, rfl, HS, hs0, hs1, ho, hr⟩ := hrel
    by_cases hlt : k < n
    · have hlp : k < ps.length := by rw [HL.out]; exact hlt
      have hpe := partP_at k0 ps hlp
      have hst := partP_step k0 ps hlp
      rw [← HS.out] at hst
      have hbk := ho.bodyAt hlt
      have hun := hu.part k
      have hpn : (pAt ps k).n ≤ 1048576 := Nat.le_trans (sumN_le (pAt_mem hlp)) hN
      have hss : sumN (ps.take (k + 1)) = sumN (ps.take k) + (pAt ps k).n := sumN_step hlp
      have hsl : sumN (ps.take (k + 1)) ≤ 1048576 := Nat.le_trans (sumN_take_le ps (k + 1)) hN
      obtain ⟨a0, a1, a2⟩ := pvs_at (partP k0 ps k) k (by rw [partP_len]; exact hlp)
      rw [hpe] at hbk a0 a1 a2
      obtain ⟨⟨a, mo, B, m, mc, zs⟩, hp⟩ : ∃ p, pAt ps k = p := ⟨_, rfl⟩
      have HP := Lib.hid hp
      rw [hp] at hst hbk a0 a1 a2 hun hpn hss
      clear hp
      simp only at hbk hpn hss
      have hss2 : s + 2 + m = k0 + 2 * ((k + 1 : Nat) : Int) + sumN (ps.take (k + 1)) := by have := HS.out; omega
      have hsb : s + 2 + m ≤ 10000000 := by omega
      have HST := Lib.hid hst
      have HPE := Lib.hid hpe
      have HSS := Lib.hid hss2
      clear hst hpe hss hsl hss2
      have d0 := (ho.row.cellAt (k * 3) (by omega)).trans a0
      have d1 := (ho.row.cellAt (k * 3 + 1) (by omega)).trans a1
      have d2 := (ho.row.cellAt (k * 3 + 2) (by omega)).trans a2
      simp only [Pv.body] at d0 d1 d2
      have df := ho.row.frozenAt
      have hmod : (s + 1) % 3 = (s + 1).tmod 3 := by rw [Int.tmod_eq_emod_of_nonneg (by omega)]
      have hbm : pAt (partP k0 ps k) k ∈ partP k0 ps k := pAt_mem (by rw [partP_len]; exact hlp)
      have hne : (Value.slice B m mc).ownBlock ≠ some g := by
        have := ho.body_ne hbm (k := g) rfl
        rw [HPE.out, HP.out] at this
        exact this
      clear hbm hmod a0 a1 a2
      go_wp2_with fail
      have hb1 := own_store (i := k * 3 + 1) (own_store (i := k * 3) hbk hne (.int .i64 s)) hne (.bool ((s + 1) % 3 == 0))
      have hr1 := (hr.setCell (p := ⟨g, k * 3, none⟩) hgb.1 hgh (.int .i64 s)).setCell (p := ⟨g, k * 3 + 1, none⟩) hgb.1 hgh (.bool ((s + 1) % 3 == 0))
      obtain ⟨w1, hw1⟩ : ∃ w1, (wr.setCell ⟨g, k * 3, none⟩ (.int .i64 s)).setCell ⟨g, k * 3 + 1, none⟩ (.bool ((s + 1) % 3 == 0)) = w1 := ⟨_, rfl⟩
      rw [hw1] at hb1 hr1 ⊢
      refine (markBody _ _ _ _ _ _ _ hb1 hpn (by omega) (by omega)).mono ?_
      rintro e w3 ⟨rfl, hb3, hg3⟩
      have hk3 := ho.mark hlt s ((s + 1) % 3 == 0) (markL (s + 1 + 1) m) hw1 (by rw [HPE.out, HP.out]; exact hb3) (by rw [HPE.out, HP.out]; exact hg3) (markL_byte _ _)
      rw [HPE.out, HP.out] at hk3
      have hr3 := hr1.trans (Rng.of_grown hg3 (fun q hq => ⟨(hbk.lt q hq).1, hun q hq⟩))
      have hst := HST.out
      unfold markP at hst
      simp only at hst
      rw [show s + 2 = s + 1 + 1 from by omega] at hst
      rw [hst] at hk3
      clear hst d0 d1 d2 df hb1 hr1 hw1 hb3 hg3
      go_wp2_with fail
      go_roundw
      case rel => exact ⟨k + 1, s + 1 + 1 + m, by omega, by go_num, rfl, Lib.hid (by have := HSS.out; omega), by omega, by omega, hk3, hr3⟩
      case measure => simp [intOf]; omega
    · obtain rfl : n = k := by omega
      rw [partP_all k0 ps HL.out] at ho
      go_wp2
      go_ret
      refine ⟨?_, ho, hr⟩
      have := HS.out
      rw [List.take_of_length_le (by rw [HL.out]; exact Nat.le_refl _)] at this
      rw [this]
      rfl

theorem heldPieceS_any (A : Option Addr) (n c : Nat) (k0 : Int) (ps : List Pv) (w : World) {lo hi : Nat} (hS : Pcs w lo hi A n (markPs k0 ps)) (hn : n ≤ 1048576) (hN : sumN ps ≤ 1048576) (h0 : 0 ≤ k0) (h1 : k0 ≤ 1000000) :
    Calls Try.prog 14 #[.slice A n c, .int .i64 k0] w fun e w' => e = .returned (.int .i64 (k0 + 2 * n + sumN ps)) ∧ w = w' := by
  have HL : Hid (ps.length = n) := Lib.hid (by have := hS.len; rwa [markPs_len] at this)
  go_enter Try.func14, Try.ntmps14
  go_wp2
  go_loop [1, 5] (fun q i => ∃ (k : Nat) (s : Int), k ≤ n ∧ i = .int .i64 k ∧ q = .int .i64 s ∧ Hid (s = k0 + 2 * k + sumN (ps.take k)) ∧ 0 ≤ s ∧ s ≤ 10000000) (fun _ i => n - (intOf i).toNat)
  case atStart => exact ⟨0, k0, Nat.zero_le _, rfl, rfl, Lib.hid (by simp [sumN]), h0, by omega⟩
  case round =>
    obtain ⟨k, s, hk, rfl, rfl, HS, hs0, hs1⟩ := hrel
    by_cases hlt : k < n
    · have hlp : k < ps.length := by rw [HL.out]; exact hlt
      obtain ⟨b, off, rfl, _, hbh, c0, c1, c2, hsl, _, _, _⟩ := hS.piece hlt
      have hat := markPs_at k0 ps hlp
      rw [← HS.out] at hat
      have hpn : (pAt ps k).n ≤ 1048576 := Nat.le_trans (sumN_le (pAt_mem hlp)) hN
      have hss : sumN (ps.take (k + 1)) = sumN (ps.take k) + (pAt ps k).n := sumN_step hlp
      have hsl2 : sumN (ps.take (k + 1)) ≤ 1048576 := Nat.le_trans (sumN_take_le ps (k + 1)) hN
      rw [hat] at c0 c1 c2 hsl
      clear hat
      obtain ⟨⟨a, mo, B, m, mc, zs⟩, hp⟩ : ∃ p, pAt ps k = p := ⟨_, rfl⟩
      rw [hp] at c0 c1 c2 hsl hpn hss
      clear hp
      unfold markP at c0 c1 c2 hsl
      simp only at c0 c1 c2 hsl hpn hss
      rw [show s + 2 = s + 1 + 1 from by omega] at hsl
      have hss2 : s + 2 + m = k0 + 2 * ((k + 1 : Nat) : Int) + sumN (ps.take (k + 1)) := by have := HS.out; omega
      have hsb : s + 2 + m ≤ 10000000 := by omega
      have HSS := Lib.hid hss2
      clear hss hsl2 hss2
      have e1 : ((s : Int) != s) = false := by simp
      have e2 : (((s + 1) % 3 == 0) != ((s + 1) % 3 == 0)) = false := by cases ((s + 1) % 3 == 0) <;> rfl
      have e3 : decide (s + 1 + 1 + (m : Int) < 0) = false := decide_eq_false (by omega)
      go_wp2_with fail
      refine (heldByteS_any _ _ _ _ _ _ hsl (markL_marked _ _) hpn (by omega) (by omega)).mono ?_
      rintro e w' ⟨rfl, rfl⟩
      go_wp2_with fail
      go_round
      case rel => exact ⟨k + 1, s + 1 + 1 + m, by omega, by go_num, rfl, Lib.hid (by have := HSS.out; omega), by omega, by omega⟩
      case measure => simp [intOf]; omega
    · obtain rfl : n = k := by omega
      go_wp2
      go_ret
      refine ⟨?_, rfl⟩
      have := HS.out
      rw [List.take_of_length_le (by rw [HL.out]; exact Nat.le_refl _)] at this
      rw [this]
      rfl
end Go.Proofs.Ytljbkppeoedcjaa
