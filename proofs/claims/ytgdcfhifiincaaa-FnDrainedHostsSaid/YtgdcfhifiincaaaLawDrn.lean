/-
  The walk of the drawn law FnDrainedHosts.
-/
import Derived.Test.YtgdcfhifiincaaaDrawDrn
import Derived.Test.YtgdcfhifiincaaaDrnL
import Derived.Test.YtgdcfhifiincaaaDrnS
import Derived.Test.YtgdcfhifiincaaaSame6
import Derived.Test.YtgdcfhifiincaaaHostAt0
namespace Go.Proofs.Ytgdcfhifiincaaa
open Go.RowKit
set_option linter.unusedVariables false

set_option maxRecDepth 100000 in
set_option maxHeartbeats 3200000 in
theorem wFnDrainedHosts (A : Option Addr) (n c : Nat) (zs : List Int) (w : World) (hs : Sl w 0 w.heap.size 1 A n (zs.map (Value.int .u8))) (hnc : n ≤ c) (hm : c ≤ maxLen) (hw : ∀ z ∈ zs, (Lit.int .u8 z).wf = true) :
    Calls Try.prog 4 #[.slice A n c] w fun e w' => e = .returned (.bool true) ∧ Below w.heap.size w w' := by
  unfold maxLen at hm
  have hz := AllByte.of_wf hw
  clear hw
  by_cases hn : n ≤ 1048576
  · have hn1 : ¬ ((1048576 : Int) < (n : Int)) := by omega
    go_enter Try.func4, Try.ntmps4
    go_wp2_with fail
    refine (drawDrained_any _ _ _ zs _ hs hnc (by omega) hz).mono ?_
    rintro e w1 ⟨A1, n1, c1, ps, sz, st, A2, n2, c2, es, rfl, h1, h2, hnc2, hmx2, sP1, sE1, b1⟩
    have HP := Lib.hid sP1.hlen
    have b2 := b1.alloc b1.size (.cells #[.int .i64 sz, .int .i64 st, .slice A2 n2 c2] 34)
    have kT := Blk.new w1 34 #[.int .i64 sz, .int .i64 st, .slice A2 n2 c2]
    have sP := sP1.alloc (Nat.le_refl _) (.cells #[.int .i64 sz, .int .i64 st, .slice A2 n2 c2] 34)
    have sE := sE1.alloc (Nat.le_refl _) (.cells #[.int .i64 sz, .int .i64 st, .slice A2 n2 c2] 34)
    obtain ⟨wA, hwA⟩ : ∃ wA, wA = w1.alloc (.cells #[.int .i64 sz, .int .i64 st, .slice A2 n2 c2] 34) := ⟨_, rfl⟩
    rw [← hwA] at b2 kT sP sE
    obtain ⟨t0, t1, t2, _⟩ := kT.three_
    have hzA : w1.heap.size < wA.heap.size := kT.lt
    obtain ⟨xs, hxs⟩ : ∃ xs, drL ps sz st es = xs := ⟨_, rfl⟩
    have HX := Lib.hid hxs
    obtain ⟨m, hml⟩ : ∃ m, xs.length = m := ⟨_, rfl⟩
    have HM := Lib.hid hml
    have hm8 : m ≤ 8 := by rw [← hml, ← hxs]; have := drL_lt (hs := ps) (sz := sz) (st := st) (es := es); rw [HP.out] at this; omega
    clear hml hxs
    rw [hwA] at t0 t1 t2
    go_wp2_with fail
    rw [← hwA] at t0 t1 t2 ⊢
    refine (iDrained_any _ _ _ ps _ _ _ _ _ es _ sP (by omega) (by omega) sE (by omega) (by omega) hnc2 hmx2).mono ?_
    rw [HX.out, HM.out]
    intro e w2 hr
    obtain ⟨Ax, cx, rfl, oX, b3⟩ := hr.form
    clear hr t0 t1 t2 hwA sP1 sE1 b1
    have kT2 := kT.below b3 kT.lt
    have d2 := b3
    obtain ⟨t0, t1, t2, _⟩ := kT2.three_
    go_wp2_with fail
    refine (sDrained_any _ _ _ ps _ _ _ _ _ es _ (sP.below d2 (by omega)) (by have := d2.size; omega) (by omega) (sE.below d2 (by omega)) (by have := d2.size; omega) (by omega) hnc2 hmx2).mono ?_
    rw [HX.out, HM.out]
    intro e w3 hr
    obtain ⟨Ay, cy, rfl, oY, b4⟩ := hr.form
    clear hr t0 t1 t2 kT2
    have d3 := d2.trans (b4.mono d2.size)
    have oX3 := own_below oX b4
    clear d2 b3 b4 oX
    go_wp2_with fail
    refine (sameInts_yes _ _ _ _ _ xs _ (Sl.of_own oX3) (Sl.of_own oY) (Nat.le_refl _) (Nat.le_refl _) (by omega)).mono ?_
    rintro e w4 ⟨rfl, b5⟩
    have d4 := d3.trans (b5.mono d3.size)
    have sX := Sl.of_own (own_below oX3 b5)
    have hz4 := d4.size
    clear d3 b5 oX3 oY
    go_wp2_with fail
    go_loopw [6] (fun i wr => ∃ j : Nat, j ≤ m ∧ i = .int .i64 j ∧ Below w4.heap.size w4 wr) (fun i _ => m - (intOf i).toNat)
    case atStart => exact ⟨0, Nat.zero_le _, rfl, Below.refl _ _⟩
    case round =>
      obtain ⟨j, hj, rfl, hb⟩ := hrel
      have hbz := hb.size
      have dR := d4.trans (hb.mono d4.size)
      have kR := kT.below dR kT.lt
      have sPr := sP.below dR (by omega)
      have sEr := sE.below dR (by omega)
      have hzr := dR.size
      by_cases hlt : j < m
      · have hj0 : (0 : Int) ≤ (j : Int) := by omega
        have hj1 : (j : Int) < (m : Int) := by omega
        obtain ⟨bx, ox, rfl, _, _, cX⟩ := (sX.below hb (Nat.le_refl _)).num hlt
        have LA := drL_at (hs := ps) (sz := sz) (st := st) (es := es) (k := j) (by rw [HX.out, HM.out]; exact hlt)
        rw [HX.out] at LA
        obtain ⟨x, hx⟩ : ∃ x, xs[j]?.getD 0 = x := ⟨_, rfl⟩
        rw [hx] at LA cX
        obtain ⟨t0, t1, t2, _⟩ := kR.three_
        have t0' : wr.cell? ⟨w1.heap.size, 0 + 1, none⟩ = some (.int .i64 st) := t1
        have t2' : wr.cell? ⟨w1.heap.size, 0 + 2, none⟩ = some (.slice A2 n2 c2) := t2
        have hHS : ∀ wx, GrF (fun _ => False) wr.drew wx → Calls Try.prog 22 #[.slice A1 n1 c1, .int .i64 x] wx fun e w' => e = .returned (.int .i64 2) ∧ Below wx.heap.size wx w' := fun wx hG => by
          have := iHostState_any A1 n1 c1 ps x wx (New.sl (w := wr.drew) hG sPr.drew (by show _ ≤ wr.heap.size; omega)) (by have : wr.heap.size ≤ wx.heap.size := hG.size; omega) (by omega)
          rwa [LA.1] at this
        have hFL : ∀ wx, GrF (fun _ => False) wr.drew wx → Calls Try.prog 23 #[.agg #[.int .i64 sz, .int .i64 st, .slice A2 n2 c2], .int .i64 x] wx fun e w' => e = .returned (.int .i64 0) ∧ Below wx.heap.size wx w' := fun wx hG => by
          have := iFlOn_any sz st A2 n2 c2 es x wx (New.sl (w := wr.drew) hG sEr.drew (by show _ ≤ wr.heap.size; omega)) (by have : wr.heap.size ≤ wx.heap.size := hG.size; omega) (by omega) hnc2 hmx2
          rwa [LA.2] at this
        clear hx LA
        go_upto_region 10 with fail
        obtain ⟨L, hL⟩ : ∃ L : List (Nat × VT), L = [(3, tLit (.slice (A1) (n1) (c1))), (4, tLit (.pointer (some ⟨w1.heap.size, 0, none⟩))), (5, tLit (.slice (some ⟨bx, ox, none⟩) (m) (cx))), (6, tLit (.int .i64 ((j : Int)))), (32, tLit (.slice (A1) (n1) (c1))), (33, tLit (.slice (some ⟨bx, ox, none⟩) (m) (cx))), (34, tLit (.int .i64 ((j : Int)))), (35, tLit (.pointer (some ⟨bx, ox + j, none⟩))), (36, tLit (.int .i64 (x))), (37, tLit (.int .i64 (2))), (38, tLit (.bool false)), (39, tLit (.bool false)), (40, tLit (.agg #[.int .i64 sz, .int .i64 st, .slice A2 n2 c2])), (41, tLit (.slice (some ⟨bx, ox, none⟩) (m) (cx))), (42, tLit (.int .i64 ((j : Int)))), (43, tLit (.pointer (some ⟨bx, ox + j, none⟩))), (44, tLit (.int .i64 (x))), (45, tLit (.int .i64 (0))), (46, tLit (.bool false)), (47, tLit (.bool false))] := ⟨_, rfl⟩
        have V3 : L.lookup 3 = some (tLit (.slice (A1) (n1) (c1))) := by rw [hL]; rfl
        have V4 : L.lookup 4 = some (tLit (.pointer (some ⟨w1.heap.size, 0, none⟩))) := by rw [hL]; rfl
        have V5 : L.lookup 5 = some (tLit (.slice (some ⟨bx, ox, none⟩) (m) (cx))) := by rw [hL]; rfl
        have V6 : L.lookup 6 = some (tLit (.int .i64 ((j : Int)))) := by rw [hL]; rfl
        have V32 : L.lookup 32 = some (tLit (.slice (A1) (n1) (c1))) := by rw [hL]; rfl
        have V33 : L.lookup 33 = some (tLit (.slice (some ⟨bx, ox, none⟩) (m) (cx))) := by rw [hL]; rfl
        have V34 : L.lookup 34 = some (tLit (.int .i64 ((j : Int)))) := by rw [hL]; rfl
        have V35 : L.lookup 35 = some (tLit (.pointer (some ⟨bx, ox + j, none⟩))) := by rw [hL]; rfl
        have V36 : L.lookup 36 = some (tLit (.int .i64 (x))) := by rw [hL]; rfl
        have V37 : L.lookup 37 = some (tLit (.int .i64 (2))) := by rw [hL]; rfl
        have V38 : L.lookup 38 = some (tLit (.bool false)) := by rw [hL]; rfl
        have V39 : L.lookup 39 = some (tLit (.bool false)) := by rw [hL]; rfl
        have V40 : L.lookup 40 = some (tLit (.agg #[.int .i64 sz, .int .i64 st, .slice A2 n2 c2])) := by rw [hL]; rfl
        have V41 : L.lookup 41 = some (tLit (.slice (some ⟨bx, ox, none⟩) (m) (cx))) := by rw [hL]; rfl
        have V42 : L.lookup 42 = some (tLit (.int .i64 ((j : Int)))) := by rw [hL]; rfl
        have V43 : L.lookup 43 = some (tLit (.pointer (some ⟨bx, ox + j, none⟩))) := by rw [hL]; rfl
        have V44 : L.lookup 44 = some (tLit (.int .i64 (x))) := by rw [hL]; rfl
        have V45 : L.lookup 45 = some (tLit (.int .i64 (0))) := by rw [hL]; rfl
        have V46 : L.lookup 46 = some (tLit (.bool false)) := by rw [hL]; rfl
        have V47 : L.lookup 47 = some (tLit (.bool false)) := by rw [hL]; rfl
        have HK : KeepL L := by rw [hL]; exact ⟨keep_lit _, keep_lit _, keep_lit _, keep_lit _, keep_lit _, keep_lit _, keep_lit _, keep_lit _, keep_lit _, keep_lit _, keep_lit _, keep_lit _, keep_lit _, keep_lit _, keep_lit _, keep_lit _, keep_lit _, keep_lit _, keep_lit _, keep_lit _, trivial⟩
        refine wp_region_mix0 (by kernel_rfl) L 16 rfl [some 32, some 33, some 34, some 35, some 36, some 37, some 38, some 39, some 40, some 41, some 42, some 43, some 44, some 45, some 46, some 47] (by kernel_rfl) (by kernel_rfl) (by kernel_rfl) 4 (by rw [hL]; intro x hx; simp only [List.take_succ_cons, List.take_zero, List.mem_cons, List.not_mem_nil, or_false] at hx; rcases hx with rfl | rfl | rfl | rfl <;> rfl) (by rw [hL]; rfl) ?_ ?_
        · clear hL
          exact ⟨m_move HK gokm_none (om_tmp V3) V32,
            m_move HK gokm_none (om_tmp V5) V33,
            m_move HK gokm_none (om_tmp V6) V34,
            m_index HK gokm_none (s := 1) (by kernel_rfl) (by omega) (by omega) (om_tmp V33) (om_tmp V34) (by simp) V35,
            m_load1 HK gokm_none (by kernel_rfl) (om_tmp V35) cX V36,
            m_call HK gokm_none Try.func22 (by kernel_rfl) (by kernel_rfl) V37 (fun o b' wx hm hG ho => by
              have e1 : b'.eval (.tmp 32) = .slice A1 n1 c1 := (om_tmp V32) o b' wx (hm _ (by simp)) ho
              have e2 : b'.eval (.tmp 36) = .int .i64 (x) := (om_tmp V36) o b' wx (hm _ (by simp)) ho
              rw [show (#[.tmp 32, .tmp 36] : Array Operand).map b'.eval = #[.slice A1 n1 c1, .int .i64 x] from by simp [e1, e2]]
              exact (hHS wx hG).mono fun e w' h => ⟨_, h.1, New.of_below h.2, rfl⟩),
            m_neq HK gokm_none (om_tmp V37) om_const rfl V38,
            m_move HK gokm_none (om_tmp V38) V39,
            m_loadn HK (gokm_some rfl V39) (by kernel_rfl) (by kernel_rfl) (om_tmp V4) (by intro j v hj; rcases j with _ | _ | _ | j <;> simp at hj <;> subst hj <;> assumption) V40,
            m_move HK (gokm_some rfl V39) (om_tmp V5) V41,
            m_move HK (gokm_some rfl V39) (om_tmp V6) V42,
            m_index HK (gokm_some rfl V39) (s := 1) (by kernel_rfl) (by omega) (by omega) (om_tmp V41) (om_tmp V42) (by simp) V43,
            m_load1 HK (gokm_some rfl V39) (by kernel_rfl) (om_tmp V43) cX V44,
            m_call HK (gokm_some rfl V39) Try.func23 (by kernel_rfl) (by kernel_rfl) V45 (fun o b' wx hm hG ho => by
              have e1 : b'.eval (.tmp 40) = .agg #[.int .i64 sz, .int .i64 st, .slice A2 n2 c2] := (om_tmp V40) o b' wx (hm _ (by simp)) ho
              have e2 : b'.eval (.tmp 44) = .int .i64 (x) := (om_tmp V44) o b' wx (hm _ (by simp)) ho
              rw [show (#[.tmp 40, .tmp 44] : Array Operand).map b'.eval = #[.agg #[.int .i64 sz, .int .i64 st, .slice A2 n2 c2], .int .i64 x] from by simp [e1, e2]]
              exact (hFL wx hG).mono fun e w' h => ⟨_, h.1, New.of_below h.2, rfl⟩),
            m_neq HK (gokm_some rfl V39) (om_tmp V45) om_const rfl V46,
            m_pickf HK gokm_none (om_tmp V39) (om_tmp V46) V47,
            trivial⟩
        intro vs w5 hw5 hk5
        have k32 : vs 32 = .slice (A1) (n1) (c1) := hk5 0 32 _ (by omega) rfl V32
        have k33 : vs 33 = .slice (some ⟨bx, ox, none⟩) (m) (cx) := hk5 1 33 _ (by omega) rfl V33
        have k34 : vs 34 = .int .i64 ((j : Int)) := hk5 2 34 _ (by omega) rfl V34
        have k35 : vs 35 = .pointer (some ⟨bx, ox + j, none⟩) := hk5 3 35 _ (by omega) rfl V35
        have k36 : vs 36 = .int .i64 (x) := hk5 4 36 _ (by omega) rfl V36
        have k37 : vs 37 = .int .i64 (2) := hk5 5 37 _ (by omega) rfl V37
        have k38 : vs 38 = .bool false := hk5 6 38 _ (by omega) rfl V38
        have k39 : vs 39 = .bool false := hk5 7 39 _ (by omega) rfl V39
        have k40 : vs 40 = .agg #[.int .i64 sz, .int .i64 st, .slice A2 n2 c2] := hk5 8 40 _ (by omega) rfl V40
        have k41 : vs 41 = .slice (some ⟨bx, ox, none⟩) (m) (cx) := hk5 9 41 _ (by omega) rfl V41
        have k42 : vs 42 = .int .i64 ((j : Int)) := hk5 10 42 _ (by omega) rfl V42
        have k43 : vs 43 = .pointer (some ⟨bx, ox + j, none⟩) := hk5 11 43 _ (by omega) rfl V43
        have k44 : vs 44 = .int .i64 (x) := hk5 12 44 _ (by omega) rfl V44
        have k45 : vs 45 = .int .i64 (0) := hk5 13 45 _ (by omega) rfl V45
        have k46 : vs 46 = .bool false := hk5 14 46 _ (by omega) rfl V46
        have k47 : vs 47 = .bool false := hk5 15 47 _ (by omega) rfl V47
        clear hk5 HK hL V3 V4 V5 V6 V32 V33 V34 V35 V36 V37 V38 V39 V40 V41 V42 V43 V44 V45 V46 V47
        simp only [putL, Act.put, List.setIfInBounds_toArray, List.set_cons_zero, List.set_cons_succ, k32, k33, k34, k35, k36, k37, k38, k39, k40, k41, k42, k43, k44, k45, k46, k47]
        clear k32 k33 k34 k35 k36 k37 k38 k39 k40 k41 k42 k43 k44 k45 k46 k47
        have hb5 := New.below hw5 hb hbz
        clear hHS hFL cX t0 t1 t2 t0' t2' hw5
        go_wp2_with fail
        go_roundw
        case rel => exact ⟨j + 1, by omega, by go_num, hb5⟩
        case measure => simp [intOf]; omega
      · obtain rfl : m = j := by omega
        go_wp2_with fail
        refine (iPoolValid_any _ _ _ ps _ sPr (by omega) (by omega)).mono ?_
        rintro e w5 ⟨rfl, b6⟩
        have dS := dR.trans (b6.mono dR.size)
        have kS := kT.below dS kT.lt
        have hzs := dS.size
        obtain ⟨t0, t1, t2, _⟩ := kS.three_
        by_cases hv : poolV ps = true
        · rw [hv]
          go_wp2_with fail
          refine (iTab_any _ _ _ _ _ es _ (sE.below dS (by omega)) (by omega) (by omega)).mono ?_
          rintro e w6 ⟨rfl, b7⟩
          have dT := dS.trans (b7.mono dS.size)
          have hzt := dT.size
          by_cases ht : tabV sz st es = true
          · rw [ht]
            have kU := kT.below dT kT.lt
            have sPt := sP.below dT (by omega)
            clear t0 t1 t2 kS kR sPr sEr b6 b7 hb dR dS
            go_wp2_with fail
            go_loopw [7, 8] (fun d i wr => ∃ k : Nat, k ≤ n1 ∧ i = .int .i64 k ∧ d = .int .i64 (cnt2 (ps.take k) : Nat) ∧ wr = w6) (fun _ i _ => n1 - (intOf i).toNat)
            case atStart => exact ⟨0, Nat.zero_le _, rfl, rfl, rfl⟩
            case round =>
              obtain ⟨k, hk, rfl, rfl, hwr⟩ := hrel
              subst hwr
              by_cases hlt : k < n1
              · obtain ⟨bp, op, rfl, _, _, c0, c1', c2'⟩ := sPt.host hlt
                have hlk : k < ps.length := by rw [HP.out]; exact hlt
                have HC := Lib.hid (cnt2_snoc hlk)
                have hle := cnt2_le ps k
                obtain ⟨q, hq⟩ : ∃ q, cnt2 (ps.take k) = q := ⟨_, rfl⟩
                rw [hq] at HC hle ⊢
                obtain ⟨⟨p0, p1, p2⟩, hh⟩ : ∃ p, hAt ps k = p := ⟨_, rfl⟩
                rw [hh] at c0 c1' c2' HC
                simp only at c0 c1' c2'
                have hki : (0 : Int) ≤ (k : Int) := by omega
                have hki2 : (k : Int) < (n1 : Int) := by omega
                clear hh hq
                by_cases hp2 : p2 = 2
                · subst hp2
                  have HE : RowKit.Hid (cnt2 (ps.take (k + 1)) = q + 1) := Lib.hid (by rw [HC.out, if_pos rfl])
                  go_wp2_with fail
                  go_roundw
                  case rel => exact ⟨k + 1, by omega, by go_num, by rw [HE.out]; go_num, by first | rfl | trivial⟩
                  case measure => simp [intOf]; omega
                · have hpb : (p2 == 2) = false := by simpa using hp2
                  have HE : RowKit.Hid (cnt2 (ps.take (k + 1)) = q) := Lib.hid (by rw [HC.out, if_neg hp2, Nat.add_zero])
                  go_wp2_with fail
                  go_roundw
                  case rel => exact ⟨k + 1, by omega, by go_num, by rw [HE.out], by first | rfl | trivial⟩
                  case measure => simp [intOf]; omega
              · obtain rfl : n1 = k := by omega
                have HE : RowKit.Hid ((drL ps sz st []).length = cnt2 (ps.take n1)) := Lib.hid (by rw [drL_all hv ht, ← HP.out, List.take_length])
                obtain ⟨q, hq⟩ : ∃ q, cnt2 (ps.take n1) = q := ⟨_, rfl⟩
                rw [hq] at HE ⊢
                have HQ := Lib.hid hq
                clear hq
                obtain ⟨t0, t1, t2, _⟩ := kU.three_
                go_wp2_with fail
                refine (iDrained_any _ _ _ ps sz st none 0 0 [] _ sPt (by omega) (by omega) (lo2 := 0) (hi2 := 0) Sl.nil_ (Nat.zero_le _) (by omega) (Nat.le_refl _) (by unfold maxLen; omega)).mono ?_
                rw [HE.out]
                intro e w7 hr
                obtain ⟨Az, cz, rfl, oZ, b8⟩ := hr.form
                have dU := b2.trans ((dT.trans (b8.mono dT.size)).mono b2.size)
                have hqq : (((q : Nat) : Int) == ((q : Nat) : Int)) = true := by simp
                go_wp2_with fail
                go_ret
                exact ⟨rfl, dU⟩
          · rw [Bool.eq_false_iff.2 ht]
            have hm0 : m = 0 := by rw [← HM.out, ← HX.out]; exact drL_bad (fun h => ht h.2)
            subst hm0
            go_wp2_with fail
            refine (alive_any _).mono ?_
            rintro e w7 ⟨rfl, b8⟩
            go_wp2_with fail
            go_ret
            exact ⟨rfl, b2.trans ((dT.trans (b8.mono dT.size)).mono b2.size)⟩
        · rw [Bool.eq_false_iff.2 hv]
          have hm0 : m = 0 := by rw [← HM.out, ← HX.out]; exact drL_bad (fun h => hv h.1)
          subst hm0
          go_wp2_with fail
          refine (alive_any _).mono ?_
          rintro e w7 ⟨rfl, b8⟩
          go_wp2_with fail
          go_ret
          exact ⟨rfl, b2.trans ((dS.trans (b8.mono dS.size)).mono b2.size)⟩
  · have hn1 : (1048576 : Int) < (n : Int) := by omega
    go_enter Try.func4, Try.ntmps4
    go_wp2_with fail
    go_ret
    exact ⟨rfl, Below.refl _ _⟩
end Go.Proofs.Ytgdcfhifiincaaa
