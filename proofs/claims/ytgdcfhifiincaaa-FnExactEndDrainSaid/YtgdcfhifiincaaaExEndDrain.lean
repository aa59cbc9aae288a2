/-
  The walk of FnExactEndDrain.
-/
import Derived.Test.YtgdcfhifiincaaaEndB
import Derived.Test.YtgdcfhifiincaaaEnt2
import Derived.Test.YtgdcfhifiincaaaMarkInt
import Derived.Deep.CutBlock
import Derived.Deep.CutRange
namespace Go.Proofs.Ytgdcfhifiincaaa
open Go.RowKit
set_option linter.unusedVariables false

theorem own_apartFnExactEndDrain {w w1 : World} {base : Nat} {e : TypeId} {size n : Nat} {v : Value} {xs : List Value} {row : Option Nat} (h : w.ownsRow base e size v n xs) (hg : w.grownBy w1 row) (hne : ∀ k, v.ownBlock = some k → row ≠ some k) : w1.ownsRow base e size v n xs := by
  refine h.kept hg ?_
  cases hv : v.ownBlock with
  | none => exact .inl rfl
  | some k => exact .inr fun e => hne k hv e.symm
/-- A slot holds a row made since the world W. -/
def GotFnExactEndDrain (W : World) (T : TypeId) (size n : Nat) (xs : List Value) (v : Value) (w' : World) : Prop := ∃ A c, v = .slice A n c ∧ w'.ownsRow W.heap.size T size (.slice A n c) n xs ∧ Below W.heap.size W w'
set_option maxRecDepth 100000 in
set_option maxHeartbeats 3200000 in
theorem wFnExactEndDrain (A : Option Addr) (n c : Nat) (hs : List H3) (sz st : Int) (A2 : Option Addr) (n2 c2 : Nat) (es : List En7) (w : World) (hS : Sl w 0 w.heap.size 3 A n (hostsV hs)) (hnc : n ≤ c) (hm : c ≤ maxLen) (hE : Sl w 0 w.heap.size 7 A2 n2 (ensV es)) (hnc2 : n2 ≤ c2) (hm2 : c2 ≤ maxLen) :
    Calls Try.prog 5 #[.slice A n c, .agg #[.int .i64 sz, .int .i64 st, .slice A2 n2 c2]] w fun e w' => e = .returned (.bool true) ∧ Below w.heap.size w w' := by
  unfold maxLen at hm hm2
  have hb0 := (Below.refl w.heap.size w).alloc (Nat.le_refl _) (.cells #[.int .i64 sz, .int .i64 st, .slice A2 n2 c2] 25)
  have hk0 := Blk.new w 25 #[.int .i64 sz, .int .i64 st, .slice A2 n2 c2]
  by_cases s0 : n ≤ 1048576
  · skip
    by_cases s1 : n + n2 ≤ 1048576
    · skip
      obtain ⟨rs, hrs⟩ : ∃ rs, endL hs sz st es = rs := ⟨_, rfl⟩
      have HR := Lib.hid hrs
      have HL0 := Lib.hid hS.hlen
      have hl : rs.length ≤ 1048576 := by rw [← hrs]; have := endL_len hs sz st es; have := HL0.out; omega
      clear hrs
      obtain ⟨m, hml⟩ : ∃ m, rs.length = m := ⟨_, rfl⟩
      have HM := Lib.hid hml
      rw [hml] at hl
      clear hml
      go_enter Try.func5, Try.ntmps5
      go_wp2_with fail
      refine (szHostS_any _ _ _ _ _ (by omega) (by omega) (by omega)).mono ?_
      rw [if_neg (by omega)]
      rintro e w0 ⟨rfl, rfl⟩
      generalize w.alloc (.cells #[.int .i64 sz, .int .i64 st, .slice A2 n2 c2] 25) = wA at hb0 hk0
      have kT_0 : wA.cell? ⟨w.heap.size, 0, none⟩ = some (.int .i64 sz) := hk0.cell 0
      have kT_1 : wA.cell? ⟨w.heap.size, 1, none⟩ = some (.int .i64 st) := hk0.cell 1
      have kT_2 : wA.cell? ⟨w.heap.size, 2, none⟩ = some (.slice A2 n2 c2) := hk0.cell 2
      go_wp2_with fail
      refine (szTable_any _ _ _ _ _ _ _ (by omega) (by omega) (by omega)).mono ?_
      rw [if_neg (by omega)]
      rintro e w1 ⟨rfl, b_w1⟩
      clear kT_0 kT_1 kT_2
      have d_w1 := hb0.trans (b_w1.mono hb0.size)
      have kT_w1 := hk0.below b_w1 hk0.lt
      have kT_0 : w1.cell? ⟨w.heap.size, 0, none⟩ = some (.int .i64 sz) := kT_w1.cell 0
      have kT_1 : w1.cell? ⟨w.heap.size, 1, none⟩ = some (.int .i64 st) := kT_w1.cell 1
      have kT_2 : w1.cell? ⟨w.heap.size, 2, none⟩ = some (.slice A2 n2 c2) := kT_w1.cell 2
      have hSr := hS.below d_w1 (Nat.le_refl _)
      have hEr := hE.below d_w1 (Nat.le_refl _)
      have hzr := d_w1.size
      have hlr : w.heap.size < w1.heap.size := kT_w1.lt
      go_upto_region 8 with fail
      go_cut [6] from 24 to 28 (fun v wx => GotFnExactEndDrain w1 50 3 m (hostsV rs) v wx)
      case first =>
        go_region_held3 (fun w' => w'.cell? ⟨w.heap.size, 0, none⟩ = some (.int .i64 sz) ∧ w'.cell? ⟨w.heap.size, 1, none⟩ = some (.int .i64 st) ∧ w'.cell? ⟨w.heap.size, 2, none⟩ = some (.slice A2 n2 c2)) (first | exact ⟨kT_0, kT_1, kT_2⟩ | exact ⟨qa0, qa1, qa2⟩ | exact ⟨qb0, qb1, qb2⟩ | exact ⟨qc0, qc1, qc2⟩ | go_keep | trivial) ((first | (go_at_call 10; refine (toHostS_any _ _ _ hs _ hSr.drew hzr (by omega)).mono ?_; rintro e wa ⟨rfl, sa, ba⟩; have da := (Below.refl w1.heap.size w1).drew.trans (ba.mono (Nat.le_refl _)); have qa0 : wa.cell? ⟨w.heap.size, 0, none⟩ = some (.int .i64 sz) := (da.cell (p := ⟨w.heap.size, 0, none⟩) hlr).trans kT_0; have qa1 : wa.cell? ⟨w.heap.size, 1, none⟩ = some (.int .i64 st) := (da.cell (p := ⟨w.heap.size, 1, none⟩) hlr).trans kT_1; have qa2 : wa.cell? ⟨w.heap.size, 2, none⟩ = some (.slice A2 n2 c2) := (da.cell (p := ⟨w.heap.size, 2, none⟩) hlr).trans kT_2) | (go_at_call 11; refine (toTable_any _ _ _ _ _ es _ (hEr.below da hzr) (Nat.le_trans hzr da.size) (by omega)).mono ?_; rintro e wb ⟨gb, rfl, tb, bb⟩; have sb := own_below sa bb; have db := da.trans (bb.mono da.size); have qb0 : wb.cell? ⟨w.heap.size, 0, none⟩ = some (.int .i64 sz) := (db.cell (p := ⟨w.heap.size, 0, none⟩) hlr).trans kT_0; have qb1 : wb.cell? ⟨w.heap.size, 1, none⟩ = some (.int .i64 st) := (db.cell (p := ⟨w.heap.size, 1, none⟩) hlr).trans kT_1; have qb2 : wb.cell? ⟨w.heap.size, 2, none⟩ = some (.slice A2 n2 c2) := (db.cell (p := ⟨w.heap.size, 2, none⟩) hlr).trans kT_2) | (go_at_call 27; refine (sEndDrain_any _ _ _ hs _ _ _ _ _ es _ (Sl.of_own sb) (Nat.le_refl _) (by omega) (Sl.of_own tb) (Nat.le_refl _) (by omega) (Nat.le_refl _) (by unfold maxLen; omega)).mono ?_; rw [HR.out, HM.out]; intro e wc hr; obtain ⟨Ar, cr, rfl, oc, bc⟩ := hr.form; clear hr; have dc := db.trans (bc.mono db.size); have oc' := own_base oc db.size; have qc0 : wc.cell? ⟨w.heap.size, 0, none⟩ = some (.int .i64 sz) := (dc.cell (p := ⟨w.heap.size, 0, none⟩) hlr).trans kT_0; have qc1 : wc.cell? ⟨w.heap.size, 1, none⟩ = some (.int .i64 st) := (dc.cell (p := ⟨w.heap.size, 1, none⟩) hlr).trans kT_1; have qc2 : wc.cell? ⟨w.heap.size, 2, none⟩ = some (.slice A2 n2 c2) := (dc.cell (p := ⟨w.heap.size, 2, none⟩) hlr).trans kT_2)))
        all_goals (go_wp2_with fail; go_meet)
        all_goals exact ⟨_, _, rfl, oc', dc⟩
      case rest =>
        obtain ⟨Aw, cow, rfl, ow_w2, b_w2⟩ := hcut
        generalize wc = w2 at ow_w2 b_w2 ⊢
        clear hSr hEr hzr hlr
        clear kT_0 kT_1 kT_2
        have d_w2 := d_w1.trans (b_w2.mono d_w1.size)
        have kT_w2 := kT_w1.below b_w2 kT_w1.lt
        go_wp2_with fail
        refine (toHostS_any _ _ _ hs _ (hS.below d_w2 (Nat.le_refl _)) d_w2.size (by omega)).mono ?_
        rintro e w3 ⟨rfl, x0_w3, b_w3⟩
        have d_w3 := d_w2.trans (b_w3.mono d_w2.size)
        have ow_w3 := own_below ow_w2 b_w3
        have kT_w3 := kT_w2.below b_w3 kT_w2.lt
        have kT_0 : w3.cell? ⟨w.heap.size, 0, none⟩ = some (.int .i64 sz) := kT_w3.cell 0
        have kT_1 : w3.cell? ⟨w.heap.size, 1, none⟩ = some (.int .i64 st) := kT_w3.cell 1
        have kT_2 : w3.cell? ⟨w.heap.size, 2, none⟩ = some (.slice A2 n2 c2) := kT_w3.cell 2
        go_wp2_with fail
        refine (toTable_any _ _ _ _ _ es _ (hE.below d_w3 (Nat.le_refl _)) d_w3.size (by omega)).mono ?_
        rintro e w4 ⟨gX, rfl, x1_w4, b_w4⟩
        clear kT_0 kT_1 kT_2
        have d_w4 := d_w3.trans (b_w4.mono d_w3.size)
        have ow_w4 := own_below ow_w3 b_w4
        have x0_w4 := own_below x0_w3 b_w4
        have kT_w4 := kT_w3.below b_w4 kT_w3.lt
        have b_w5 := (Below.refl w4.heap.size w4).alloc (Nat.le_refl _) (.cells #[.int .i64 sz, .int .i64 st, .slice (some ⟨gX, 0, none⟩) n2 n2] 34)
        have kX_w5 := Blk.new w4 34 #[.int .i64 sz, .int .i64 st, .slice (some ⟨gX, 0, none⟩) n2 n2]
        have kXlt : gX < w4.heap.size := (x1_w4.lt gX rfl).2
        have kX_0 : (w4.alloc (.cells #[.int .i64 sz, .int .i64 st, .slice (some ⟨gX, 0, none⟩) n2 n2] 34)).cell? ⟨w4.heap.size, 0, none⟩ = some (.int .i64 sz) := kX_w5.cell 0
        have kX_1 : (w4.alloc (.cells #[.int .i64 sz, .int .i64 st, .slice (some ⟨gX, 0, none⟩) n2 n2] 34)).cell? ⟨w4.heap.size, 1, none⟩ = some (.int .i64 st) := kX_w5.cell 1
        have kX_2 : (w4.alloc (.cells #[.int .i64 sz, .int .i64 st, .slice (some ⟨gX, 0, none⟩) n2 n2] 34)).cell? ⟨w4.heap.size, 2, none⟩ = some (.slice (some ⟨gX, 0, none⟩) n2 n2) := kX_w5.cell 2
        go_wp2_with fail
        generalize w4.alloc (.cells #[.int .i64 sz, .int .i64 st, .slice (some ⟨gX, 0, none⟩) n2 n2] 34) = w5 at b_w5 kX_w5 kX_0 kX_1 kX_2 ⊢
        have d_w5 := d_w4.trans (b_w5.mono d_w4.size)
        have ow_w5 := own_below ow_w4 b_w5
        have x0_w5 := own_below x0_w4 b_w5
        have x1_w5 := own_below x1_w4 b_w5
        have kT_w5 := kT_w4.below b_w5 kT_w4.lt
        refine (iEndDrain_any _ _ _ hs _ _ _ _ _ es _ (Sl.of_own x0_w5) (Nat.le_refl _) (by omega) (Sl.of_own x1_w5) (Nat.le_refl _) (by omega) (Nat.le_refl _) (by unfold maxLen; omega)).mono ?_
        rw [HR.out, HM.out]
        intro e w6 hr
        obtain ⟨Ag, cog, rfl, og_w6, b_w6⟩ := hr.form
        clear hr
        clear kX_0 kX_1 kX_2
        have d_w6 := d_w5.trans (b_w6.mono d_w5.size)
        have ow_w6 := own_below ow_w5 b_w6
        have x0_w6 := own_below x0_w5 b_w6
        have x1_w6 := own_below x1_w5 b_w6
        have kT_w6 := kT_w5.below b_w6 kT_w5.lt
        have kX_w6 := kX_w5.below b_w6 kX_w5.lt
        go_wp2_with fail
        refine (eqHostS_yes _ _ _ _ _ rs _ (Sl.of_own og_w6) (Sl.of_own ow_w6) (Nat.le_refl _) (Nat.le_refl _) hl).mono ?_
        rintro e w7 ⟨rfl, b_w7⟩
        have d_w7 := d_w6.trans (b_w7.mono d_w6.size)
        have ow_w7 := own_below ow_w6 b_w7
        have x0_w7 := own_below x0_w6 b_w7
        have x1_w7 := own_below x1_w6 b_w7
        have og_w7 := own_below og_w6 b_w7
        have kT_w7 := kT_w6.below b_w7 kT_w6.lt
        have kX_w7 := kX_w6.below b_w7 kX_w6.lt
        go_wp2_with fail
        refine (toHostS_any _ _ _ hs _ (hS.below d_w7 (Nat.le_refl _)) d_w7.size (by omega)).mono ?_
        rintro e w8 ⟨rfl, t0_w8, b_w8⟩
        have d_w8 := d_w7.trans (b_w8.mono d_w7.size)
        have ow_w8 := own_below ow_w7 b_w8
        have x0_w8 := own_below x0_w7 b_w8
        have x1_w8 := own_below x1_w7 b_w8
        have og_w8 := own_below og_w7 b_w8
        have kT_w8 := kT_w7.below b_w8 kT_w7.lt
        have kX_w8 := kX_w7.below b_w8 kX_w7.lt
        go_wp2_with fail
        refine (eqHostS_yes _ _ _ _ _ hs _ (Sl.of_own x0_w8) (Sl.of_own t0_w8) (Nat.le_refl _) (Nat.le_refl _) (by omega)).mono ?_
        rintro e w9 ⟨rfl, b_w9⟩
        have d_w9 := d_w8.trans (b_w9.mono d_w8.size)
        have ow_w9 := own_below ow_w8 b_w9
        have x0_w9 := own_below x0_w8 b_w9
        have x1_w9 := own_below x1_w8 b_w9
        have og_w9 := own_below og_w8 b_w9
        have t0_w9 := own_below t0_w8 b_w9
        have kT_w9 := kT_w8.below b_w9 kT_w8.lt
        have kX_w9 := kX_w8.below b_w9 kX_w8.lt
        have kT_0 : w9.cell? ⟨w.heap.size, 0, none⟩ = some (.int .i64 sz) := kT_w9.cell 0
        have kT_1 : w9.cell? ⟨w.heap.size, 1, none⟩ = some (.int .i64 st) := kT_w9.cell 1
        have kT_2 : w9.cell? ⟨w.heap.size, 2, none⟩ = some (.slice A2 n2 c2) := kT_w9.cell 2
        have kX_0 : w9.cell? ⟨w4.heap.size, 0, none⟩ = some (.int .i64 sz) := kX_w9.cell 0
        have kX_1 : w9.cell? ⟨w4.heap.size, 1, none⟩ = some (.int .i64 st) := kX_w9.cell 1
        have kX_2 : w9.cell? ⟨w4.heap.size, 2, none⟩ = some (.slice (some ⟨gX, 0, none⟩) n2 n2) := kX_w9.cell 2
        have hEr := hE.below d_w9 (Nat.le_refl _)
        have hzr := d_w9.size
        have hlr : w.heap.size < w9.heap.size := kT_w9.lt
        have hlx : w4.heap.size < w9.heap.size := kX_w9.lt
        have hX := Sl.of_own x1_w9
        go_upto_region 16 with fail
        go_cut [49] from 45 to 48 (fun v wx => v = .bool false ∧ Below w9.heap.size w9 wx)
        case first =>
          go_region_held3 (fun w' => w'.cell? ⟨w.heap.size, 0, none⟩ = some (.int .i64 sz) ∧ w'.cell? ⟨w.heap.size, 1, none⟩ = some (.int .i64 st) ∧ w'.cell? ⟨w.heap.size, 2, none⟩ = some (.slice A2 n2 c2) ∧ w'.cell? ⟨w4.heap.size, 0, none⟩ = some (.int .i64 sz) ∧ w'.cell? ⟨w4.heap.size, 1, none⟩ = some (.int .i64 st) ∧ w'.cell? ⟨w4.heap.size, 2, none⟩ = some (.slice (some ⟨gX, 0, none⟩) n2 n2)) (first | exact ⟨kT_0, kT_1, kT_2, kX_0, kX_1, kX_2⟩ | exact ⟨qakT0, qakT1, qakT2, qakX0, qakX1, qakX2⟩ | exact ⟨qbkT0, qbkT1, qbkT2, qbkX0, qbkX1, qbkX2⟩ | go_keep | trivial) ((first | (go_at_call 11; refine (toTable_any _ _ _ _ _ es _ hEr.drew hzr (by omega)).mono ?_; rintro e wa ⟨ga, rfl, ta, ba⟩; have da := (Below.refl w9.heap.size w9).drew.trans (ba.mono (Nat.le_refl _)); have qakT0 : wa.cell? ⟨w.heap.size, 0, none⟩ = some (.int .i64 sz) := (da.cell (p := ⟨w.heap.size, 0, none⟩) hlr).trans kT_0; have qakT1 : wa.cell? ⟨w.heap.size, 1, none⟩ = some (.int .i64 st) := (da.cell (p := ⟨w.heap.size, 1, none⟩) hlr).trans kT_1; have qakT2 : wa.cell? ⟨w.heap.size, 2, none⟩ = some (.slice A2 n2 c2) := (da.cell (p := ⟨w.heap.size, 2, none⟩) hlr).trans kT_2; have qakX0 : wa.cell? ⟨w4.heap.size, 0, none⟩ = some (.int .i64 sz) := (da.cell (p := ⟨w4.heap.size, 0, none⟩) hlx).trans kX_0; have qakX1 : wa.cell? ⟨w4.heap.size, 1, none⟩ = some (.int .i64 st) := (da.cell (p := ⟨w4.heap.size, 1, none⟩) hlx).trans kX_1; have qakX2 : wa.cell? ⟨w4.heap.size, 2, none⟩ = some (.slice (some ⟨gX, 0, none⟩) n2 n2) := (da.cell (p := ⟨w4.heap.size, 2, none⟩) hlx).trans kX_2) | (go_at_call 15; refine (eqTable_yes _ _ _ _ _ _ _ es _ (hX.below da (Nat.le_refl _)) (Sl.of_own ta) da.size (Nat.le_refl _) (by omega)).mono ?_; rintro e wb ⟨rfl, bb⟩; have db := da.trans (bb.mono da.size); have qbkT0 : wb.cell? ⟨w.heap.size, 0, none⟩ = some (.int .i64 sz) := (db.cell (p := ⟨w.heap.size, 0, none⟩) hlr).trans kT_0; have qbkT1 : wb.cell? ⟨w.heap.size, 1, none⟩ = some (.int .i64 st) := (db.cell (p := ⟨w.heap.size, 1, none⟩) hlr).trans kT_1; have qbkT2 : wb.cell? ⟨w.heap.size, 2, none⟩ = some (.slice A2 n2 c2) := (db.cell (p := ⟨w.heap.size, 2, none⟩) hlr).trans kT_2; have qbkX0 : wb.cell? ⟨w4.heap.size, 0, none⟩ = some (.int .i64 sz) := (db.cell (p := ⟨w4.heap.size, 0, none⟩) hlx).trans kX_0; have qbkX1 : wb.cell? ⟨w4.heap.size, 1, none⟩ = some (.int .i64 st) := (db.cell (p := ⟨w4.heap.size, 1, none⟩) hlx).trans kX_1; have qbkX2 : wb.cell? ⟨w4.heap.size, 2, none⟩ = some (.slice (some ⟨gX, 0, none⟩) n2 n2) := (db.cell (p := ⟨w4.heap.size, 2, none⟩) hlx).trans kX_2)))
          all_goals (go_wp2_with fail; go_meet)
          all_goals exact ⟨rfl, db⟩
        case rest =>
          obtain ⟨rfl, b_w10⟩ := hcut
          generalize wc = w10 at b_w10 ⊢
          clear hEr hzr hlr hlx hX
          clear kT_0 kT_1 kT_2 kX_0 kX_1 kX_2
          have d_w10 := d_w9.trans (b_w10.mono d_w9.size)
          have ow_w10 := own_below ow_w9 b_w10
          have x0_w10 := own_below x0_w9 b_w10
          have x1_w10 := own_below x1_w9 b_w10
          have og_w10 := own_below og_w9 b_w10
          have kT_w10 := kT_w9.below b_w10 kT_w9.lt
          have kX_w10 := kX_w9.below b_w10 kX_w9.lt
          have zT := kT_w2.lt
          have zw := (ow_w2.lt)
          have l_x0 := (x0_w3.lt _ rfl)
          have z_x0 := b_w3.size
          have l_x1 := (x1_w4.lt _ rfl)
          have z_x1 := b_w4.size
          have dz := d_w2.size
          have zg := (og_w6.lt)
          have zX := kX_w5.lt
          go_wp2_with fail
          refine (markHostS_any _ _ _ _ _ _ _ x0_w10 (by omega) (by omega) (by omega)).mono ?_
          rintro e w11 ⟨rfl, _, g_w11⟩
          have d_w11 := d_w10.grown g_w11 d_w10.size fun k hk => by injection hk with hk; omega
          have ow_w11 := own_apartFnExactEndDrain ow_w10 g_w11 (fun k hk he => by injection he with he; subst he; have := (zw _ hk).2; omega)
          have x1_w11 := own_apartFnExactEndDrain x1_w10 g_w11 (fun k hk he => by injection hk with hk; injection he with he; have hkk := hk.trans he.symm; first | omega | (simp at hkk; omega))
          have og_w11 := own_apartFnExactEndDrain og_w10 g_w11 (fun k hk he => by injection he with he; subst he; have := (zg _ hk).1; omega)
          have kT_w11 := kT_w10.grown g_w11 (fun e => by injection e with e; omega)
          have kX_w11 := kX_w10.grown g_w11 (fun e => by injection e with e; omega)
          have kX_0 : w11.cell? ⟨w4.heap.size, 0, none⟩ = some (.int .i64 sz) := kX_w11.cell 0
          have kX_1 : w11.cell? ⟨w4.heap.size, 1, none⟩ = some (.int .i64 st) := kX_w11.cell 1
          have kX_2 : w11.cell? ⟨w4.heap.size, 2, none⟩ = some (.slice (some ⟨gX, 0, none⟩) n2 n2) := kX_w11.cell 2
          go_wp2_with fail
          refine (markTable_any _ _ _ _ _ _ _ _ _ x1_w11 (by omega) (by omega) (by omega)).mono ?_
          rintro e w12 ⟨rfl, g_w12⟩
          clear kX_0 kX_1 kX_2
          have d_w12 := d_w11.grown g_w12 d_w11.size fun k hk => by injection hk with hk; omega
          have ow_w12 := own_apartFnExactEndDrain ow_w11 g_w12 (fun k hk he => by injection he with he; subst he; have := (zw _ hk).2; omega)
          have og_w12 := own_apartFnExactEndDrain og_w11 g_w12 (fun k hk he => by injection he with he; subst he; have := (zg _ hk).1; omega)
          have kT_w12 := kT_w11.grown g_w12 (fun e => by injection e with e; omega)
          obtain ⟨K, hK'⟩ : ∃ K : Int, 1 + 3 * (n : Int) + 7 * (n2 : Int) = K := ⟨_, rfl⟩
          rw [hK']
          have hK0 : 0 ≤ K := by omega
          have hK1 : decide (K < (0 : Int)) = false := decide_eq_false (by omega)
          clear hK'
          go_wp2_with fail
          refine (eqHostS_yes _ _ _ _ _ rs _ (Sl.of_own og_w12) (Sl.of_own ow_w12) (Nat.le_refl _) (Nat.le_refl _) hl).mono ?_
          rintro e w13 ⟨rfl, b_w13⟩
          have d_w13 := d_w12.trans (b_w13.mono d_w12.size)
          have ow_w13 := own_below ow_w12 b_w13
          have og_w13 := own_below og_w12 b_w13
          have kT_w13 := kT_w12.below b_w13 kT_w12.lt
          go_wp2_with fail
          refine (markHostS_own _ _ _ _ _ _ _ og_w13 hl (by omega) (by omega)).mono ?_
          rintro e w14 ⟨rfl, ⟨ys, om_w14, hmk⟩, g_w14⟩
          have d_w14 := d_w13.grown g_w14 d_w13.size fun k hk => by have := (zg _ hk).1; omega
          have ow_w14 := own_apartFnExactEndDrain ow_w13 g_w14 (fun k hk he => by have := (zw _ hk).2; have := (zg _ he).1; omega)
          have kT_w14 := kT_w13.grown g_w14 (fun e => by have := (zg _ e.symm).1; omega)
          obtain ⟨M, hM⟩ : ∃ M : Int, 1 + 3 * (m : Int) = M := ⟨_, rfl⟩
          rw [hM]
          have hM0 : 0 ≤ M := by omega
          have HMM := Lib.hid hM
          clear hM
          go_wp2_with fail
          refine (heldHostS_any _ _ _ 1 ys _ (Sl.of_own om_w14) hmk hl (by omega) (by omega)).mono ?_
          rw [HMM.out]
          rintro e w0 ⟨rfl, rfl⟩
          have kT_0 : w14.cell? ⟨w.heap.size, 0, none⟩ = some (.int .i64 sz) := kT_w14.cell 0
          have kT_1 : w14.cell? ⟨w.heap.size, 1, none⟩ = some (.int .i64 st) := kT_w14.cell 1
          have kT_2 : w14.cell? ⟨w.heap.size, 2, none⟩ = some (.slice A2 n2 c2) := kT_w14.cell 2
          have hSr := hS.below d_w14 (Nat.le_refl _)
          have hEr := hE.below d_w14 (Nat.le_refl _)
          have hzr := d_w14.size
          have hlr : w.heap.size < w14.heap.size := kT_w14.lt
          go_upto_region 31 with fail
          go_cut [13] from 75 to 79 (fun v wx => GotFnExactEndDrain w14 50 3 m (hostsV rs) v wx)
          case first =>
            go_region_held3 (fun w' => w'.cell? ⟨w.heap.size, 0, none⟩ = some (.int .i64 sz) ∧ w'.cell? ⟨w.heap.size, 1, none⟩ = some (.int .i64 st) ∧ w'.cell? ⟨w.heap.size, 2, none⟩ = some (.slice A2 n2 c2)) (first | exact ⟨kT_0, kT_1, kT_2⟩ | exact ⟨qa0, qa1, qa2⟩ | exact ⟨qb0, qb1, qb2⟩ | exact ⟨qc0, qc1, qc2⟩ | go_keep | trivial) ((first | (go_at_call 10; refine (toHostS_any _ _ _ hs _ hSr.drew hzr (by omega)).mono ?_; rintro e wa ⟨rfl, sa, ba⟩; have da := (Below.refl w14.heap.size w14).drew.trans (ba.mono (Nat.le_refl _)); have qa0 : wa.cell? ⟨w.heap.size, 0, none⟩ = some (.int .i64 sz) := (da.cell (p := ⟨w.heap.size, 0, none⟩) hlr).trans kT_0; have qa1 : wa.cell? ⟨w.heap.size, 1, none⟩ = some (.int .i64 st) := (da.cell (p := ⟨w.heap.size, 1, none⟩) hlr).trans kT_1; have qa2 : wa.cell? ⟨w.heap.size, 2, none⟩ = some (.slice A2 n2 c2) := (da.cell (p := ⟨w.heap.size, 2, none⟩) hlr).trans kT_2) | (go_at_call 11; refine (toTable_any _ _ _ _ _ es _ (hEr.below da hzr) (Nat.le_trans hzr da.size) (by omega)).mono ?_; rintro e wb ⟨gb, rfl, tb, bb⟩; have sb := own_below sa bb; have db := da.trans (bb.mono da.size); have qb0 : wb.cell? ⟨w.heap.size, 0, none⟩ = some (.int .i64 sz) := (db.cell (p := ⟨w.heap.size, 0, none⟩) hlr).trans kT_0; have qb1 : wb.cell? ⟨w.heap.size, 1, none⟩ = some (.int .i64 st) := (db.cell (p := ⟨w.heap.size, 1, none⟩) hlr).trans kT_1; have qb2 : wb.cell? ⟨w.heap.size, 2, none⟩ = some (.slice A2 n2 c2) := (db.cell (p := ⟨w.heap.size, 2, none⟩) hlr).trans kT_2) | (go_at_call 28; refine (iEndDrain_any _ _ _ hs _ _ _ _ _ es _ (Sl.of_own sb) (Nat.le_refl _) (by omega) (Sl.of_own tb) (Nat.le_refl _) (by omega) (Nat.le_refl _) (by unfold maxLen; omega)).mono ?_; rw [HR.out, HM.out]; intro e wc hr; obtain ⟨Ar, cr, rfl, oc, bc⟩ := hr.form; clear hr; have dc := db.trans (bc.mono db.size); have oc' := own_base oc db.size; have qc0 : wc.cell? ⟨w.heap.size, 0, none⟩ = some (.int .i64 sz) := (dc.cell (p := ⟨w.heap.size, 0, none⟩) hlr).trans kT_0; have qc1 : wc.cell? ⟨w.heap.size, 1, none⟩ = some (.int .i64 st) := (dc.cell (p := ⟨w.heap.size, 1, none⟩) hlr).trans kT_1; have qc2 : wc.cell? ⟨w.heap.size, 2, none⟩ = some (.slice A2 n2 c2) := (dc.cell (p := ⟨w.heap.size, 2, none⟩) hlr).trans kT_2)))
            all_goals (go_wp2_with fail; go_meet)
            all_goals exact ⟨_, _, rfl, oc', dc⟩
          case rest =>
            obtain ⟨Ah, coh, rfl, oh_w15, b_w15⟩ := hcut
            generalize wc = w15 at oh_w15 b_w15 ⊢
            clear hSr hEr hzr hlr
            clear kT_0 kT_1 kT_2
            have d_w15 := d_w14.trans (b_w15.mono d_w14.size)
            have ow_w15 := own_below ow_w14 b_w15
            have om_w15 := own_below om_w14 b_w15
            have kT_w15 := kT_w14.below b_w15 kT_w14.lt
            go_wp2_with fail
            refine (eqHostS_yes _ _ _ _ _ rs _ (Sl.of_own oh_w15) (Sl.of_own ow_w15) (Nat.le_refl _) (Nat.le_refl _) hl).mono ?_
            rintro e w16 ⟨rfl, b_w16⟩
            have d_w16 := d_w15.trans (b_w16.mono d_w15.size)
            have ow_w16 := own_below ow_w15 b_w16
            have om_w16 := own_below om_w15 b_w16
            have oh_w16 := own_below oh_w15 b_w16
            have kT_w16 := kT_w15.below b_w16 kT_w15.lt
            go_wp2_with fail
            refine (heldHostS_any _ _ _ 1 ys _ (Sl.of_own om_w16) hmk hl (by omega) (by omega)).mono ?_
            rw [HMM.out]
            rintro e w0 ⟨rfl, rfl⟩
            go_wp2_with fail
            go_ret
            exact ⟨rfl, d_w16⟩
    · go_enter Try.func5, Try.ntmps5
      go_wp2_with fail
      refine (szHostS_any _ _ _ _ _ (by omega) (by omega) (by omega)).mono ?_
      rw [if_neg (by omega)]
      rintro e w0 ⟨rfl, rfl⟩
      generalize w.alloc (.cells #[.int .i64 sz, .int .i64 st, .slice A2 n2 c2] 25) = wA at hb0 hk0
      have kT_0 : wA.cell? ⟨w.heap.size, 0, none⟩ = some (.int .i64 sz) := hk0.cell 0
      have kT_1 : wA.cell? ⟨w.heap.size, 1, none⟩ = some (.int .i64 st) := hk0.cell 1
      have kT_2 : wA.cell? ⟨w.heap.size, 2, none⟩ = some (.slice A2 n2 c2) := hk0.cell 2
      go_wp2_with fail
      refine (szTable_any _ _ _ _ _ _ _ (by omega) (by omega) (by omega)).mono ?_
      rw [if_pos (by omega)]
      rintro e w1 ⟨rfl, b_w1⟩
      go_wp2_with fail
      go_ret
      exact ⟨rfl, hb0.trans (b_w1.mono hb0.size)⟩
  · go_enter Try.func5, Try.ntmps5
    go_wp2_with fail
    refine (szHostS_any _ _ _ _ _ (by omega) (by omega) (by omega)).mono ?_
    rw [if_pos (by omega)]
    rintro e w0 ⟨rfl, rfl⟩
    go_wp2_with fail
    go_ret
    exact ⟨rfl, hb0⟩
end Go.Proofs.Ytgdcfhifiincaaa
