/-
  The walk of the drawn law FnEndDrain.
-/
import Derived.Test.YtgdcfhifiincaaaDrawDrn
import Derived.Test.YtgdcfhifiincaaaEndB
import Derived.Test.YtgdcfhifiincaaaFindF
import Derived.Test.YtgdcfhifiincaaaSame6
namespace Go.Proofs.Ytgdcfhifiincaaa
open Go.RowKit
set_option linter.unusedVariables false

set_option maxRecDepth 100000 in
set_option maxHeartbeats 3200000 in
theorem wFnEndDrain (A : Option Addr) (n c : Nat) (zs : List Int) (w : World) (hs : Sl w 0 w.heap.size 1 A n (zs.map (Value.int .u8))) (hnc : n ≤ c) (hm : c ≤ maxLen) (hw : ∀ z ∈ zs, (Lit.int .u8 z).wf = true) :
    Calls Try.prog 6 #[.slice A n c] w fun e w' => e = .returned (.bool true) ∧ Below w.heap.size w w' := by
  unfold maxLen at hm
  have hz := AllByte.of_wf hw
  clear hw
  by_cases hn : n ≤ 1048576
  · have hn1 : ¬ ((1048576 : Int) < (n : Int)) := by omega
    go_enter Try.func6, Try.ntmps6
    go_wp2_with fail
    refine (drawEnd_any _ _ _ zs _ hs hnc (by omega) hz).mono ?_
    rintro e w1 ⟨A1, n1, c1, ps, sz, st, A2, n2, c2, es, rfl, h1, h2, hnc2, hmx2, sP1, sE1, b1⟩
    have HP := Lib.hid sP1.hlen
    have HE2 := Lib.hid sE1.nlen
    have b2 := b1.alloc b1.size (.cells #[.int .i64 sz, .int .i64 st, .slice A2 n2 c2] 34)
    have kT := Blk.new w1 34 #[.int .i64 sz, .int .i64 st, .slice A2 n2 c2]
    have sP := sP1.alloc (Nat.le_refl _) (.cells #[.int .i64 sz, .int .i64 st, .slice A2 n2 c2] 34)
    have sE := sE1.alloc (Nat.le_refl _) (.cells #[.int .i64 sz, .int .i64 st, .slice A2 n2 c2] 34)
    obtain ⟨wA, hwA⟩ : ∃ wA, wA = w1.alloc (.cells #[.int .i64 sz, .int .i64 st, .slice A2 n2 c2] 34) := ⟨_, rfl⟩
    rw [← hwA] at b2 kT sP sE
    obtain ⟨t0, t1, t2⟩ : wA.cell? ⟨w1.heap.size, 0, none⟩ = some (.int .i64 sz) ∧ wA.cell? ⟨w1.heap.size, 1, none⟩ = some (.int .i64 st) ∧ wA.cell? ⟨w1.heap.size, 2, none⟩ = some (.slice A2 n2 c2) := ⟨kT.cell 0, kT.cell 1, kT.cell 2⟩
    have hzA : w1.heap.size < wA.heap.size := kT.lt
    obtain ⟨xs, hxs⟩ : ∃ xs, endL ps sz st es = xs := ⟨_, rfl⟩
    have HX := Lib.hid hxs
    obtain ⟨m, hml⟩ : ∃ m, xs.length = m := ⟨_, rfl⟩
    have HM := Lib.hid hml
    have hm8 : m ≤ 8 := by rw [← hml, ← hxs]; have := endL_len ps sz st es; rw [HP.out] at this; omega
    clear hml hxs
    rw [hwA] at t0 t1 t2
    go_wp2_with fail
    rw [← hwA] at t0 t1 t2 ⊢
    refine (iEndDrain_any _ _ _ ps _ _ _ _ _ es _ sP (by omega) (by omega) sE (by omega) (by omega) hnc2 hmx2).mono ?_
    rw [HX.out, HM.out]
    intro e w2 hr
    obtain ⟨Ax, cx, rfl, oX, b3⟩ := hr.form
    clear hr t0 t1 t2 hwA sP1 sE1 b1
    have kT2 := kT.below b3 kT.lt
    have d2 := b3
    obtain ⟨t0, t1, t2⟩ : w2.cell? ⟨w1.heap.size, 0, none⟩ = some (.int .i64 sz) ∧ w2.cell? ⟨w1.heap.size, 1, none⟩ = some (.int .i64 st) ∧ w2.cell? ⟨w1.heap.size, 2, none⟩ = some (.slice A2 n2 c2) := ⟨kT2.cell 0, kT2.cell 1, kT2.cell 2⟩
    go_wp2_with fail
    refine (sEndDrain_any _ _ _ ps _ _ _ _ _ es _ (sP.below d2 (by omega)) (by have := d2.size; omega) (by omega) (sE.below d2 (by omega)) (by have := d2.size; omega) (by omega) hnc2 hmx2).mono ?_
    rw [HX.out, HM.out]
    intro e w3 hr
    obtain ⟨Ay, cy, rfl, oY, b4⟩ := hr.form
    clear hr t0 t1 t2 kT2
    have d3 := d2.trans (b4.mono d2.size)
    have oX3 := own_below oX b4
    clear d2 b3 b4 oX
    go_wp2_with fail
    refine (samePool_yes _ _ _ _ _ xs _ (Sl.of_own oX3) (Sl.of_own oY) (Nat.le_refl _) (Nat.le_refl _) (by omega)).mono ?_
    rintro e w4 ⟨rfl, b5⟩
    have d4 := d3.trans (b5.mono d3.size)
    have sX := Sl.of_own (own_below oX3 b5)
    have hz4 := d4.size
    have sP4 := sP.below d4 (by omega)
    have kT4 := kT.below d4 kT.lt
    clear d3 b5 oX3 oY
    go_wp2_with fail
    refine (iPoolValid_any _ _ _ ps _ sP4 (by omega) (by omega)).mono ?_
    rintro e w5 ⟨rfl, b6⟩
    have d5 := d4.trans (b6.mono d4.size)
    have kT5 := kT.below d5 kT.lt
    have hz5 := d5.size
    have sX5 := sX.below b6 (Nat.le_refl _)
    obtain ⟨t0, t1, t2⟩ : w5.cell? ⟨w1.heap.size, 0, none⟩ = some (.int .i64 sz) ∧ w5.cell? ⟨w1.heap.size, 1, none⟩ = some (.int .i64 st) ∧ w5.cell? ⟨w1.heap.size, 2, none⟩ = some (.slice A2 n2 c2) := ⟨kT5.cell 0, kT5.cell 1, kT5.cell 2⟩
    by_cases hv : poolV ps = true
    · rw [hv]
      go_wp2_with fail
      refine (iTab_any _ _ _ _ _ es _ (sE.below d5 (by omega)) (by omega) (by omega)).mono ?_
      rintro e w6 ⟨rfl, b7⟩
      have d6 := d5.trans (b7.mono d5.size)
      have hz6 := d6.size
      by_cases ht : tabV sz st es = true
      · rw [ht]
        obtain ⟨l1, l2, l3, l4⟩ := end_law hv ht
        rw [HX.out] at l1 l2 l3 l4
        have HMN : RowKit.Hid (m = n1) := Lib.hid (by rw [← HM.out, l2, HP.out])
        have sX6 := sX5.below b7 (by have := b6.size; omega)
        have hz46 : w4.heap.size ≤ w6.heap.size := Nat.le_trans b6.size b7.size
        have L4 := Lib.hid l4
        have HT := Lib.hid ht
        clear l4 l2 ht hv t0 t1 t2 kT4 kT5 sP4 sX sX5 b6 b7 d4 d5
        go_wp2_with fail
        go_loopw [6] (fun i wr => ∃ j : Nat, j ≤ n2 ∧ i = .int .i64 j ∧ Below w6.heap.size w6 wr) (fun i _ => n2 - (intOf i).toNat)
        case atStart => exact ⟨0, Nat.zero_le _, rfl, Below.refl _ _⟩
        case round =>
          obtain ⟨j, hj, rfl, hb⟩ := hrel
          have hbz := hb.size
          have dR := d6.trans (hb.mono d6.size)
          have kR := kT.below dR kT.lt
          have sPr := sP.below dR (by omega)
          have sEr := sE.below dR (by omega)
          have sXr := sX6.below hb hz46
          have hzr := dR.size
          obtain ⟨t0, t1, t2⟩ : wr.cell? ⟨w1.heap.size, 0, none⟩ = some (.int .i64 sz) ∧ wr.cell? ⟨w1.heap.size, 1, none⟩ = some (.int .i64 st) ∧ wr.cell? ⟨w1.heap.size, 2, none⟩ = some (.slice A2 n2 c2) := ⟨kR.cell 0, kR.cell 1, kR.cell 2⟩
          by_cases hlt : j < n2
          · have hlk : j < es.length := by rw [HE2.out]; exact hlt
            obtain ⟨b, off, rfl, _, _, c0, c1', c2', c3, c4, c5, c6⟩ := sEr.en hlt
            obtain ⟨ok1, ok2, ok3⟩ := ent_ok HT.out hlk
            have ok4 := plF_own HT.out hlk
            have l4 := L4.out j hlk
            obtain ⟨⟨x1, x2, x3, x4, x5, xt, xl⟩, hh⟩ : ∃ p, enAt es j = p := ⟨_, rfl⟩
            have hxt : (enAt es j).t = xt := by rw [hh]
            rw [hh] at c0 c1' c2' c3 c4 c5 c6 ok1 ok2 ok3 ok4 l4
            simp only at c0 c1' c2' c3 c4 c5 c6 ok2 ok3 l4
            have ok5 : plF es ⟨x1, x2, x3, x4, x5, 0, 0⟩ = (j : Int) := by rw [← ok4]; exact plF_same es _ _ _ _ _ _ _ _ _
            have ok6 : flowV x1 x2 x3 x4 x5 = true := ok1
            have hki : (0 : Int) ≤ (j : Int) := by omega
            have hki2 : (j : Int) < (n2 : Int) := by omega
            have hbA := hb.alloc hbz (.cells #[.int .i64 x1, .int .i64 x2, .int .i64 x3, .int .i64 x4, .int .i64 x5, .int .i64 xt, .int .i64 xl] 56)
            have kB := kR.alloc (.cells #[.int .i64 x1, .int .i64 x2, .int .i64 x3, .int .i64 x4, .int .i64 x5, .int .i64 xt, .int .i64 xl] 56)
            have kV := Blk.new wr 56 #[.int .i64 x1, .int .i64 x2, .int .i64 x3, .int .i64 x4, .int .i64 x5, .int .i64 xt, .int .i64 xl]
            have sPb := sPr.alloc (by omega) (.cells #[.int .i64 x1, .int .i64 x2, .int .i64 x3, .int .i64 x4, .int .i64 x5, .int .i64 xt, .int .i64 xl] 56)
            have sEb := sEr.alloc (by omega) (.cells #[.int .i64 x1, .int .i64 x2, .int .i64 x3, .int .i64 x4, .int .i64 x5, .int .i64 xt, .int .i64 xl] 56)
            have sXb := sXr.alloc (by omega) (.cells #[.int .i64 x1, .int .i64 x2, .int .i64 x3, .int .i64 x4, .int .i64 x5, .int .i64 xt, .int .i64 xl] 56)
            go_upto_region 13 with fail
            obtain ⟨wB, hwB⟩ : ∃ wB, wB = wr.alloc (.cells #[.int .i64 x1, .int .i64 x2, .int .i64 x3, .int .i64 x4, .int .i64 x5, .int .i64 xt, .int .i64 xl] 56) := ⟨_, rfl⟩
            have hzB : wB.heap.size = wr.heap.size + 1 := by rw [hwB]; simp
            rw [← hwB] at hbA kB kV sPb sEb sXb ⊢
            clear hwB c0 c1' c2' c3 c4 c5 c6 t0 t1 t2 ok4 ok1 hh
            obtain ⟨t0, t1, t2⟩ : wB.cell? ⟨w1.heap.size, 0, none⟩ = some (.int .i64 sz) ∧ wB.cell? ⟨w1.heap.size, 0 + 1, none⟩ = some (.int .i64 st) ∧ wB.cell? ⟨w1.heap.size, 0 + 2, none⟩ = some (.slice (some ⟨b, off, none⟩) n2 c2) := ⟨kB.cell 0, kB.cell 1, kB.cell 2⟩
            obtain ⟨e0, e1, e2, e3, e4, e5⟩ : wB.cell? ⟨wr.heap.size, 0, none⟩ = some (.int .i64 x1) ∧ wB.cell? ⟨wr.heap.size, 0 + 1, none⟩ = some (.int .i64 x2) ∧ wB.cell? ⟨wr.heap.size, 0 + 2, none⟩ = some (.int .i64 x3) ∧ wB.cell? ⟨wr.heap.size, 0 + 3, none⟩ = some (.int .i64 x4) ∧ wB.cell? ⟨wr.heap.size, 0 + 4, none⟩ = some (.int .i64 x5) ∧ wB.cell? ⟨wr.heap.size, 0 + 5, none⟩ = some (.int .i64 xt) := ⟨kV.cell 0, kV.cell 1, kV.cell 2, kV.cell 3, kV.cell 4, kV.cell 5⟩
            have hHS0 : ∀ wx, GrF (fun _ => False) wB.drew wx → Calls Try.prog 22 #[.slice A1 n1 c1, .int .i64 xt] wx fun e w' => e = .returned (.int .i64 (stH ps xt)) ∧ Below wx.heap.size wx w' := fun wx hG =>
              iHostState_any A1 n1 c1 ps xt wx (New.sl (w := wB.drew) hG sPb.drew (by show _ ≤ wB.heap.size; omega)) (by have : wB.heap.size ≤ wx.heap.size := hG.size; omega) (by omega)
            have hCH0 : stH ps xt ≠ 0 → ∀ wx, GrF (fun _ => False) wB.drew wx → Calls Try.prog 32 #[.slice Ax m cx, .agg #[.int .i64 sz, .int .i64 st, .slice (some ⟨b, off, none⟩) n2 c2], .agg #[.int .i64 x1, .int .i64 x2, .int .i64 x3, .int .i64 x4, .int .i64 x5]] wx fun e w' => e = .returned (.int .i64 xt) ∧ Below wx.heap.size wx w' := fun hne wx hG =>
              iChoose_yes Ax m cx xs sz st (some ⟨b, off, none⟩) n2 c2 es x1 x2 x3 x4 x5 xt wx (New.sl (w := wB.drew) hG sXb.drew (by show _ ≤ wB.heap.size; omega)) (by have : wB.heap.size ≤ wx.heap.size := hG.size; omega) (by omega) (New.sl (w := wB.drew) hG sEb.drew (by show _ ≤ wB.heap.size; omega)) (by have : wB.heap.size ≤ wx.heap.size := hG.size; omega) (by omega) l1 HT.out ok6 hlt ok5 hxt ok2 (by rw [l4]; exact hne)
            obtain ⟨s, hs0⟩ : ∃ s, stH ps xt = s := ⟨_, rfl⟩
            rw [hs0] at hHS0 hCH0
            clear hs0 l4 ok5 ok6 ok2 ok3 hxt
            by_cases hse : s = 0
            · subst hse
              have hHS := hHS0
              clear hCH0 hHS0
              obtain ⟨L, hL⟩ : ∃ L : List (Nat × VT), L = [(3, tLit (.slice (A1) (n1) (c1))), (4, tLit (.pointer (some ⟨w1.heap.size, 0, none⟩))), (5, tLit (.slice (Ax) (m) (cx))), (7, tLit (.pointer (some ⟨wr.heap.size, 0, none⟩))), (51, tLit (.slice (A1) (n1) (c1))), (52, tLit (.pointer (some ⟨wr.heap.size, 0 + 5, none⟩))), (53, tLit (.int .i64 (xt))), (54, tLit (.int .i64 (0))), (55, tLit (.bool false)), (56, tLit (.bool false)), (57, tLit (undef)), (58, tLit (undef)), (59, tLit (undef)), (60, tLit (undef)), (61, tLit (undef)), (62, tLit (undef)), (63, tLit (undef)), (64, tLit (undef)), (65, tLit (.bool false))] := ⟨_, rfl⟩
              have V3 : L.lookup 3 = some (tLit (.slice (A1) (n1) (c1))) := by rw [hL]; rfl
              have V4 : L.lookup 4 = some (tLit (.pointer (some ⟨w1.heap.size, 0, none⟩))) := by rw [hL]; rfl
              have V5 : L.lookup 5 = some (tLit (.slice (Ax) (m) (cx))) := by rw [hL]; rfl
              have V7 : L.lookup 7 = some (tLit (.pointer (some ⟨wr.heap.size, 0, none⟩))) := by rw [hL]; rfl
              have V51 : L.lookup 51 = some (tLit (.slice (A1) (n1) (c1))) := by rw [hL]; rfl
              have V52 : L.lookup 52 = some (tLit (.pointer (some ⟨wr.heap.size, 0 + 5, none⟩))) := by rw [hL]; rfl
              have V53 : L.lookup 53 = some (tLit (.int .i64 (xt))) := by rw [hL]; rfl
              have V54 : L.lookup 54 = some (tLit (.int .i64 (0))) := by rw [hL]; rfl
              have V55 : L.lookup 55 = some (tLit (.bool false)) := by rw [hL]; rfl
              have V56 : L.lookup 56 = some (tLit (.bool false)) := by rw [hL]; rfl
              have V57 : L.lookup 57 = some (tLit (undef)) := by rw [hL]; rfl
              have V58 : L.lookup 58 = some (tLit (undef)) := by rw [hL]; rfl
              have V59 : L.lookup 59 = some (tLit (undef)) := by rw [hL]; rfl
              have V60 : L.lookup 60 = some (tLit (undef)) := by rw [hL]; rfl
              have V61 : L.lookup 61 = some (tLit (undef)) := by rw [hL]; rfl
              have V62 : L.lookup 62 = some (tLit (undef)) := by rw [hL]; rfl
              have V63 : L.lookup 63 = some (tLit (undef)) := by rw [hL]; rfl
              have V64 : L.lookup 64 = some (tLit (undef)) := by rw [hL]; rfl
              have V65 : L.lookup 65 = some (tLit (.bool false)) := by rw [hL]; rfl
              have HK : KeepL L := by rw [hL]; exact ⟨keep_lit _, keep_lit _, keep_lit _, keep_lit _, keep_lit _, keep_lit _, keep_lit _, keep_lit _, keep_lit _, keep_lit _, keep_lit _, keep_lit _, keep_lit _, keep_lit _, keep_lit _, keep_lit _, keep_lit _, keep_lit _, keep_lit _, trivial⟩
              refine wp_region_mix0 (by kernel_rfl) L 15 rfl [some 51, some 52, some 53, some 54, some 55, some 56, some 57, some 58, some 59, some 60, some 61, some 62, some 63, some 64, some 65] (by kernel_rfl) (by kernel_rfl) (by kernel_rfl) 4 (by rw [hL]; intro x hx; simp only [List.take_succ_cons, List.take_zero, List.mem_cons, List.not_mem_nil, or_false] at hx; rcases hx with rfl | rfl | rfl | rfl <;> rfl) (by rw [hL]; rfl) ?_ ?_
              · clear hL
                exact ⟨m_move HK gokm_none (om_tmp V3) V51,
                  m_field HK gokm_none (f := 5) (s := 1) (by kernel_rfl) (by omega) (om_tmp V7) rfl V52,
                  m_load1 HK gokm_none (by kernel_rfl) (om_tmp V52) e5 V53,
                  m_call HK gokm_none Try.func22 (by kernel_rfl) (by kernel_rfl) V54 (fun o b' wx hm hG ho => by
                    have e1 : b'.eval (.tmp 51) = .slice A1 n1 c1 := (om_tmp V51) o b' wx (hm _ (by simp)) ho
                    have e2 : b'.eval (.tmp 53) = .int .i64 (xt) := (om_tmp V53) o b' wx (hm _ (by simp)) ho
                    rw [show (#[.tmp 51, .tmp 53] : Array Operand).map b'.eval = #[.slice A1 n1 c1, .int .i64 xt] from by simp [e1, e2]]
                    exact (hHS wx hG).mono fun e w' h => ⟨_, h.1, New.of_below h.2, rfl⟩),
                  m_neq HK gokm_none (om_tmp V54) om_const rfl V55,
                  m_move HK gokm_none (om_tmp V55) V56,
                  m_skip HK rfl rfl V56 (by intro e; cases e) (fun d h => by cases h; exact V57),
                  m_skip HK rfl rfl V56 (by intro e; cases e) (fun d h => by cases h; exact V58),
                  m_skip HK rfl rfl V56 (by intro e; cases e) (fun d h => by cases h; exact V59),
                  m_skip HK rfl rfl V56 (by intro e; cases e) (fun d h => by cases h; exact V60),
                  m_skip HK rfl rfl V56 (by intro e; cases e) (fun d h => by cases h; exact V61),
                  m_skip HK rfl rfl V56 (by intro e; cases e) (fun d h => by cases h; exact V62),
                  m_skip HK rfl rfl V56 (by intro e; cases e) (fun d h => by cases h; exact V63),
                  m_skip HK rfl rfl V56 (by intro e; cases e) (fun d h => by cases h; exact V64),
                  m_pickf HK gokm_none (om_tmp V56) om_const V65,
                  trivial⟩
              intro vs w5 hw5 hk5
              have k51 : vs 51 = .slice (A1) (n1) (c1) := hk5 0 51 _ (by omega) rfl V51
              have k52 : vs 52 = .pointer (some ⟨wr.heap.size, 0 + 5, none⟩) := hk5 1 52 _ (by omega) rfl V52
              have k53 : vs 53 = .int .i64 (xt) := hk5 2 53 _ (by omega) rfl V53
              have k54 : vs 54 = .int .i64 (0) := hk5 3 54 _ (by omega) rfl V54
              have k55 : vs 55 = .bool false := hk5 4 55 _ (by omega) rfl V55
              have k56 : vs 56 = .bool false := hk5 5 56 _ (by omega) rfl V56
              have k57 : vs 57 = undef := hk5 6 57 _ (by omega) rfl V57
              have k58 : vs 58 = undef := hk5 7 58 _ (by omega) rfl V58
              have k59 : vs 59 = undef := hk5 8 59 _ (by omega) rfl V59
              have k60 : vs 60 = undef := hk5 9 60 _ (by omega) rfl V60
              have k61 : vs 61 = undef := hk5 10 61 _ (by omega) rfl V61
              have k62 : vs 62 = undef := hk5 11 62 _ (by omega) rfl V62
              have k63 : vs 63 = undef := hk5 12 63 _ (by omega) rfl V63
              have k64 : vs 64 = undef := hk5 13 64 _ (by omega) rfl V64
              have k65 : vs 65 = .bool false := hk5 14 65 _ (by omega) rfl V65
              clear hk5 HK hL V3 V4 V5 V7 V51 V52 V53 V54 V55 V56 V57 V58 V59 V60 V61 V62 V63 V64 V65
              simp only [putL, Act.put, List.setIfInBounds_toArray, List.set_cons_zero, List.set_cons_succ, k51, k52, k53, k54, k55, k56, k57, k58, k59, k60, k61, k62, k63, k64, k65]
              clear k51 k52 k53 k54 k55 k56 k57 k58 k59 k60 k61 k62 k63 k64 k65
              have hb5 := New.below hw5 hbA (by omega)
              clear hHS t0 t1 t2 e0 e1 e2 e3 e4 e5 hw5
              go_wp2_with fail
              go_roundw
              case rel => exact ⟨j + 1, by omega, by go_num, hb5⟩
              case measure => simp [intOf]; omega
            · have hHS := hHS0
              have hCH := hCH0 hse
              clear hCH0 hHS0
              obtain ⟨L, hL⟩ : ∃ L : List (Nat × VT), L = [(3, tLit (.slice (A1) (n1) (c1))), (4, tLit (.pointer (some ⟨w1.heap.size, 0, none⟩))), (5, tLit (.slice (Ax) (m) (cx))), (7, tLit (.pointer (some ⟨wr.heap.size, 0, none⟩))), (51, tLit (.slice (A1) (n1) (c1))), (52, tLit (.pointer (some ⟨wr.heap.size, 0 + 5, none⟩))), (53, tLit (.int .i64 (xt))), (54, tLit (.int .i64 (s))), (55, tLit (.bool true)), (56, tLit (.bool true)), (57, tLit (.slice (Ax) (m) (cx))), (58, tLit (.agg #[.int .i64 sz, .int .i64 st, .slice (some ⟨b, off, none⟩) n2 c2])), (59, tLit (.pointer (some ⟨wr.heap.size, 0, none⟩))), (60, tLit (.agg #[.int .i64 x1, .int .i64 x2, .int .i64 x3, .int .i64 x4, .int .i64 x5])), (61, tLit (.int .i64 (xt))), (62, tLit (.pointer (some ⟨wr.heap.size, 0 + 5, none⟩))), (63, tLit (.int .i64 (xt))), (64, tLit (.bool false)), (65, tLit (.bool false))] := ⟨_, rfl⟩
              have V3 : L.lookup 3 = some (tLit (.slice (A1) (n1) (c1))) := by rw [hL]; rfl
              have V4 : L.lookup 4 = some (tLit (.pointer (some ⟨w1.heap.size, 0, none⟩))) := by rw [hL]; rfl
              have V5 : L.lookup 5 = some (tLit (.slice (Ax) (m) (cx))) := by rw [hL]; rfl
              have V7 : L.lookup 7 = some (tLit (.pointer (some ⟨wr.heap.size, 0, none⟩))) := by rw [hL]; rfl
              have V51 : L.lookup 51 = some (tLit (.slice (A1) (n1) (c1))) := by rw [hL]; rfl
              have V52 : L.lookup 52 = some (tLit (.pointer (some ⟨wr.heap.size, 0 + 5, none⟩))) := by rw [hL]; rfl
              have V53 : L.lookup 53 = some (tLit (.int .i64 (xt))) := by rw [hL]; rfl
              have V54 : L.lookup 54 = some (tLit (.int .i64 (s))) := by rw [hL]; rfl
              have V55 : L.lookup 55 = some (tLit (.bool true)) := by rw [hL]; rfl
              have V56 : L.lookup 56 = some (tLit (.bool true)) := by rw [hL]; rfl
              have V57 : L.lookup 57 = some (tLit (.slice (Ax) (m) (cx))) := by rw [hL]; rfl
              have V58 : L.lookup 58 = some (tLit (.agg #[.int .i64 sz, .int .i64 st, .slice (some ⟨b, off, none⟩) n2 c2])) := by rw [hL]; rfl
              have V59 : L.lookup 59 = some (tLit (.pointer (some ⟨wr.heap.size, 0, none⟩))) := by rw [hL]; rfl
              have V60 : L.lookup 60 = some (tLit (.agg #[.int .i64 x1, .int .i64 x2, .int .i64 x3, .int .i64 x4, .int .i64 x5])) := by rw [hL]; rfl
              have V61 : L.lookup 61 = some (tLit (.int .i64 (xt))) := by rw [hL]; rfl
              have V62 : L.lookup 62 = some (tLit (.pointer (some ⟨wr.heap.size, 0 + 5, none⟩))) := by rw [hL]; rfl
              have V63 : L.lookup 63 = some (tLit (.int .i64 (xt))) := by rw [hL]; rfl
              have V64 : L.lookup 64 = some (tLit (.bool false)) := by rw [hL]; rfl
              have V65 : L.lookup 65 = some (tLit (.bool false)) := by rw [hL]; rfl
              have HK : KeepL L := by rw [hL]; exact ⟨keep_lit _, keep_lit _, keep_lit _, keep_lit _, keep_lit _, keep_lit _, keep_lit _, keep_lit _, keep_lit _, keep_lit _, keep_lit _, keep_lit _, keep_lit _, keep_lit _, keep_lit _, keep_lit _, keep_lit _, keep_lit _, keep_lit _, trivial⟩
              refine wp_region_mix0 (by kernel_rfl) L 15 rfl [some 51, some 52, some 53, some 54, some 55, some 56, some 57, some 58, some 59, some 60, some 61, some 62, some 63, some 64, some 65] (by kernel_rfl) (by kernel_rfl) (by kernel_rfl) 4 (by rw [hL]; intro x hx; simp only [List.take_succ_cons, List.take_zero, List.mem_cons, List.not_mem_nil, or_false] at hx; rcases hx with rfl | rfl | rfl | rfl <;> rfl) (by rw [hL]; rfl) ?_ ?_
              · clear hL
                exact ⟨m_move HK gokm_none (om_tmp V3) V51,
                  m_field HK gokm_none (f := 5) (s := 1) (by kernel_rfl) (by omega) (om_tmp V7) rfl V52,
                  m_load1 HK gokm_none (by kernel_rfl) (om_tmp V52) e5 V53,
                  m_call HK gokm_none Try.func22 (by kernel_rfl) (by kernel_rfl) V54 (fun o b' wx hm hG ho => by
                    have e1 : b'.eval (.tmp 51) = .slice A1 n1 c1 := (om_tmp V51) o b' wx (hm _ (by simp)) ho
                    have e2 : b'.eval (.tmp 53) = .int .i64 (xt) := (om_tmp V53) o b' wx (hm _ (by simp)) ho
                    rw [show (#[.tmp 51, .tmp 53] : Array Operand).map b'.eval = #[.slice A1 n1 c1, .int .i64 xt] from by simp [e1, e2]]
                    exact (hHS wx hG).mono fun e w' h => ⟨_, h.1, New.of_below h.2, rfl⟩),
                  m_neq HK gokm_none (om_tmp V54) om_const (by simp; omega) V55,
                  m_move HK gokm_none (om_tmp V55) V56,
                  m_move HK (gokm_some rfl V56) (om_tmp V5) V57,
                  m_loadn HK (gokm_some rfl V56) (by kernel_rfl) (by kernel_rfl) (om_tmp V4) (by intro j v hj; rcases j with _ | _ | _ | j <;> simp at hj <;> subst hj <;> assumption) V58,
                  m_field HK (gokm_some rfl V56) (f := 0) (s := 5) (by kernel_rfl) (by omega) (om_tmp V7) rfl V59,
                  m_loadn HK (gokm_some rfl V56) (by kernel_rfl) (by kernel_rfl) (om_tmp V59) (by intro j v hj; rcases j with _ | _ | _ | _ | _ | j <;> simp at hj <;> subst hj <;> assumption) V60,
                  m_call HK (gokm_some rfl V56) Try.func32 (by kernel_rfl) (by kernel_rfl) V61 (fun o b' wx hm hG ho => by
                    have e1 : b'.eval (.tmp 57) = .slice Ax m cx := (om_tmp V57) o b' wx (hm _ (by simp)) ho
                    have e2 : b'.eval (.tmp 58) = .agg #[.int .i64 sz, .int .i64 st, .slice (some ⟨b, off, none⟩) n2 c2] := (om_tmp V58) o b' wx (hm _ (by simp)) ho
                    have e3 : b'.eval (.tmp 60) = .agg #[.int .i64 x1, .int .i64 x2, .int .i64 x3, .int .i64 x4, .int .i64 x5] := (om_tmp V60) o b' wx (hm _ (by simp)) ho
                    rw [show (#[.tmp 57, .tmp 58, .tmp 60] : Array Operand).map b'.eval = #[.slice Ax m cx, .agg #[.int .i64 sz, .int .i64 st, .slice (some ⟨b, off, none⟩) n2 c2], .agg #[.int .i64 x1, .int .i64 x2, .int .i64 x3, .int .i64 x4, .int .i64 x5]] from by simp [e1, e2, e3]]
                    exact (hCH wx hG).mono fun e w' h => ⟨_, h.1, New.of_below h.2, rfl⟩),
                  m_field HK (gokm_some rfl V56) (f := 5) (s := 1) (by kernel_rfl) (by omega) (om_tmp V7) rfl V62,
                  m_load1 HK (gokm_some rfl V56) (by kernel_rfl) (om_tmp V62) e5 V63,
                  m_neq HK (gokm_some rfl V56) (om_tmp V61) (om_tmp V63) (by simp) V64,
                  m_pickt HK gokm_none (om_tmp V56) (om_tmp V64) V65,
                  trivial⟩
              intro vs w5 hw5 hk5
              have k51 : vs 51 = .slice (A1) (n1) (c1) := hk5 0 51 _ (by omega) rfl V51
              have k52 : vs 52 = .pointer (some ⟨wr.heap.size, 0 + 5, none⟩) := hk5 1 52 _ (by omega) rfl V52
              have k53 : vs 53 = .int .i64 (xt) := hk5 2 53 _ (by omega) rfl V53
              have k54 : vs 54 = .int .i64 (s) := hk5 3 54 _ (by omega) rfl V54
              have k55 : vs 55 = .bool true := hk5 4 55 _ (by omega) rfl V55
              have k56 : vs 56 = .bool true := hk5 5 56 _ (by omega) rfl V56
              have k57 : vs 57 = .slice (Ax) (m) (cx) := hk5 6 57 _ (by omega) rfl V57
              have k58 : vs 58 = .agg #[.int .i64 sz, .int .i64 st, .slice (some ⟨b, off, none⟩) n2 c2] := hk5 7 58 _ (by omega) rfl V58
              have k59 : vs 59 = .pointer (some ⟨wr.heap.size, 0, none⟩) := hk5 8 59 _ (by omega) rfl V59
              have k60 : vs 60 = .agg #[.int .i64 x1, .int .i64 x2, .int .i64 x3, .int .i64 x4, .int .i64 x5] := hk5 9 60 _ (by omega) rfl V60
              have k61 : vs 61 = .int .i64 (xt) := hk5 10 61 _ (by omega) rfl V61
              have k62 : vs 62 = .pointer (some ⟨wr.heap.size, 0 + 5, none⟩) := hk5 11 62 _ (by omega) rfl V62
              have k63 : vs 63 = .int .i64 (xt) := hk5 12 63 _ (by omega) rfl V63
              have k64 : vs 64 = .bool false := hk5 13 64 _ (by omega) rfl V64
              have k65 : vs 65 = .bool false := hk5 14 65 _ (by omega) rfl V65
              clear hk5 HK hL V3 V4 V5 V7 V51 V52 V53 V54 V55 V56 V57 V58 V59 V60 V61 V62 V63 V64 V65
              simp only [putL, Act.put, List.setIfInBounds_toArray, List.set_cons_zero, List.set_cons_succ, k51, k52, k53, k54, k55, k56, k57, k58, k59, k60, k61, k62, k63, k64, k65]
              clear k51 k52 k53 k54 k55 k56 k57 k58 k59 k60 k61 k62 k63 k64 k65
              have hb5 := New.below hw5 hbA (by omega)
              clear hHS hCH t0 t1 t2 e0 e1 e2 e3 e4 e5 hw5
              go_wp2_with fail
              go_roundw
              case rel => exact ⟨j + 1, by omega, by go_num, hb5⟩
              case measure => simp [intOf]; omega
          · obtain rfl : n2 = j := by omega
            go_wp2_with fail
            refine (iPoolValid_any _ _ _ xs _ sXr (by omega) (by omega)).mono ?_
            rw [l1]
            rintro e w7 ⟨rfl, b8⟩
            have d7 := dR.trans (b8.mono dR.size)
            have kU := kT.below d7 kT.lt
            have hz7 := d7.size
            have hz8 := b8.size
            clear t0 t1 t2
            obtain ⟨t0, t1, t2⟩ : w7.cell? ⟨w1.heap.size, 0, none⟩ = some (.int .i64 sz) ∧ w7.cell? ⟨w1.heap.size, 1, none⟩ = some (.int .i64 st) ∧ w7.cell? ⟨w1.heap.size, 2, none⟩ = some (.slice A2 n2 c2) := ⟨kU.cell 0, kU.cell 1, kU.cell 2⟩
            go_wp2_with fail
            refine (iDrained_any _ _ _ xs _ _ _ _ _ es _ (sXr.below b8 (by omega)) (by omega) (by omega) (sE.below d7 (by omega)) (by omega) (by omega) hnc2 hmx2).mono ?_
            rw [l3]
            intro e w8 hr
            obtain ⟨Az, cz, rfl, oZ, b9⟩ := hr.form
            have dU := b2.trans ((d7.trans (b9.mono d7.size)).mono b2.size)
            have hqq : ((m : Int) == (n1 : Int)) = true := by rw [HMN.out]; simp
            go_wp2_with fail
            go_ret
            exact ⟨rfl, dU⟩
      · rw [Bool.eq_false_iff.2 ht]
        have hm0 : m = 0 := by rw [← HM.out, ← HX.out]; exact endL_bad (fun h => ht h.2)
        subst hm0
        go_wp2_with fail
        refine (alive_any _).mono ?_
        rintro e w7 ⟨rfl, b8⟩
        go_wp2_with fail
        go_ret
        exact ⟨rfl, b2.trans ((d6.trans (b8.mono d6.size)).mono b2.size)⟩
    · rw [Bool.eq_false_iff.2 hv]
      have hm0 : m = 0 := by rw [← HM.out, ← HX.out]; exact endL_bad (fun h => hv h.1)
      subst hm0
      go_wp2_with fail
      refine (alive_any _).mono ?_
      rintro e w7 ⟨rfl, b8⟩
      go_wp2_with fail
      go_ret
      exact ⟨rfl, b2.trans ((d5.trans (b8.mono d5.size)).mono b2.size)⟩
  · have hn1 : (1048576 : Int) < (n : Int) := by omega
    go_enter Try.func6, Try.ntmps6
    go_wp2_with fail
    go_ret
    exact ⟨rfl, Below.refl _ _⟩
end Go.Proofs.Ytgdcfhifiincaaa
