/-
  TableValid of the program.
-/
import Derived.Test.YtgdcfhifiincaaaFlowMap
import Derived.Test.YtgdcfhifiincaaaEvValid0
import Derived.Test.YtgdcfhifiincaaaMixB
import Derived.Test.YtgdcfhifiincaaaTime
import Derived.Carry
namespace Go.Proofs.Ytgdcfhifiincaaa
open Go.RowKit
set_option linter.unusedVariables false

section
variable {ops : Array Oper} {Q : Exit → Act → World → Prop} {l : List (Nat × VT)} {W : World} {N i : Nat} {d : Nat} {ty : TypeId} {pos : String} {af : Array Edge} {x y : Operand} {gd : Option (Nat × Bool)}
theorem m_look {b : Nat} {es : List En7} {e : En7} {r : Bool} (hk : KeepL l) (hg : GOkM ops l gd) (hm : SeenM W b es) (hes : ∀ x ∈ es, enF x = true) (he : enF e = true) (hx : OM l x (tLit (.map (some b)))) (hy : OM l y (tLit (flowA e))) (hr : r = seenF es e) (hd : l.lookup d = some (tLit (.bool r))) :
    TStepG Try.prog ops Q (tsM l) (fun _ _ => True) (GX W) N i ⟨some d, .lookup 70 x y false, ty, pos, af, gd⟩ :=
  m_val hk hg (fun d' h => by cases h; exact hd) fun b' w hG ho => ⟨.bool (seenF es e), by
    have e1 : b'.eval x = .map (some b) := hx _ b' w (by simp [Op.operands]) ho
    have e2 : b'.eval y = flowA e := hy _ b' w (by simp [Op.operands]) ho
    have hm' : SeenM w b es := World.ownsMap.kept hm (New.to_none hG) (by simp)
    have hrun := hm'.look hes he
    unfold execOp
    simp only [e1, e2]
    simp [hrun], by subst hr; rfl⟩
end

set_option maxRecDepth 100000 in
set_option maxHeartbeats 3200000 in
theorem iTab_any (sz st : Int) (A : Option Addr) (n c : Nat) (es : List En7) (w : World) {lo hi : Nat} (hS : Sl w lo hi 7 A n (ensV es)) (hhi : hi ≤ w.heap.size) (hn : n ≤ 1048577) :
    Calls Try.prog 25 #[.agg #[.int .i64 sz, .int .i64 st, .slice A n c]] w fun e w' => e = .returned (.bool (tabV sz st es)) ∧ Below w.heap.size w w' := by
  have HL := Lib.hid hS.nlen
  have hb0 := (Below.refl w.heap.size w).alloc (Nat.le_refl _) (.cells #[.int .i64 sz, .int .i64 st, .slice A n c] 34)
  by_cases s1 : inB sz 1 12 = true
  · by_cases s2 : inB st 1 100000 = true
    · by_cases s3 : (n : Int) ≤ sz
      · have s3' : ¬ sz < (n : Int) := by omega
        have HV : RowKit.Hid (tabV sz st es = (List.range es.length).all (enOk es)) := Lib.hid (by unfold tabV; rw [s1, s2, HL.out, decide_eq_true s3]; rfl)
        have b12 := inB_iff.1 s1
        have hb1 := hb0.alloc (by simp) (.map #[] 0)
        have hm0 := SeenM.made (w.alloc (.cells #[.int .i64 sz, .int .i64 st, .slice A n c] 34))
        have hbk0 := (Blk.new w 34 #[.int .i64 sz, .int .i64 st, .slice A n c]).alloc (.map #[] 0)
        simp only [World.size_alloc] at hm0
        have hmm := @run_makeMap Try.prog
        go_enter Try.func25, Try.ntmps25
        go_wp2_with (go_at_call 46; refine (in_any _ _ _ _).mono ?_; (first | rw [s1] | rw [s2]); rintro e w' ⟨rfl, rfl⟩)
        clear hmm
        go_loopw [28] (fun i wr => ∃ k : Nat, k ≤ n ∧ i = .int .i64 k ∧ EnRel es k ∧ SeenM wr (w.heap.size + 1) (es.take k) ∧ Blk wr w.heap.size 34 #[.int .i64 sz, .int .i64 st, .slice A n c] ∧ Below w.heap.size w wr) (fun i _ => n - (intOf i).toNat)
        case atStart => exact ⟨0, Nat.zero_le _, rfl, EnRel.start es, hm0, hbk0, hb1⟩
        case round =>
          clear hm0 hbk0 hb1 hb0
          obtain ⟨k, hk, rfl, hr, hmap, hbk, hb⟩ := hrel
          have hz := hb.size
          by_cases hlt : k < n
          · have hlk : k < es.length := by rw [HL.out]; exact hlt
            have hes : ∀ x ∈ es.take k, enF x = true := fun x hx => by
              obtain ⟨j, hj, rfl⟩ := List.mem_iff_getElem.1 hx
              have hjk : j < k := by rw [List.length_take] at hj; omega
              have h1 := hr j hjk
              unfold enOk at h1
              simp only [Bool.and_eq_true] at h1
              have h2 := h1.1.1.1.1
              rw [enAt_eq (by omega)] at h2
              rw [List.getElem_take]
              exact h2
            have HTK : RowKit.Hid (es.take (k + 1) = es.take k ++ [enAt es k]) := Lib.hid (by rw [List.take_succ_eq_append_getElem hlk, enAt_eq hlk])
            obtain ⟨b, off, hA, _, _, c0, c1, c2, c3, c4, c5, c6⟩ := (hS.below hb hhi).en hlt
            subst hA
            obtain ⟨⟨x1, x2, x3, x4, x5, xt, xl⟩, hh⟩ : ∃ p, enAt es k = p := ⟨_, rfl⟩
            have hki : (0 : Int) ≤ (k : Int) := by omega
            have hki2 : (k : Int) < (n : Int) := by omega
            rw [hh] at c0 c1 c2 c3 c4 c5 c6
            simp only at c0 c1 c2 c3 c4 c5 c6
            have HH := Lib.hid hh
            have hbz : b < wr.heap.size := World.block_lt_of_cell? wr _ c0
            have hp : ∀ (hk0 : 0 < k), wr.cell? ⟨b, off + (k - 1) * 7 + 6, none⟩ = some (.int .i64 (enAt es (k - 1)).l) := fun hk0 => by
              obtain ⟨_, _, e, _, _, _, _, _, _, _, _, p0⟩ := (hS.below hb hhi).en (k := k - 1) (by omega)
              injection e with e
              injection e with e1 e2
              subst e1 e2
              exact p0
            obtain ⟨q0, hq⟩ : ∃ q, (enAt es (k - 1)).l = q := ⟨_, rfl⟩
            rw [hq] at hp
            have hwm : w.heap.size < wr.heap.size := hbk.lt
            go_wp2
            refine wp_gen (fun w4 => (w4.cell? ⟨wr.heap.size, 0, none⟩ = some (.int .i64 x1) ∧ w4.cell? ⟨wr.heap.size, 1, none⟩ = some (.int .i64 x2) ∧ w4.cell? ⟨wr.heap.size, 2, none⟩ = some (.int .i64 x3) ∧ w4.cell? ⟨wr.heap.size, 3, none⟩ = some (.int .i64 x4) ∧ w4.cell? ⟨wr.heap.size, 4, none⟩ = some (.int .i64 x5) ∧ w4.cell? ⟨wr.heap.size, 5, none⟩ = some (.int .i64 xt) ∧ w4.cell? ⟨wr.heap.size, 6, none⟩ = some (.int .i64 xl)) ∧ (∀ (hk0 : 0 < k), w4.cell? ⟨b, off + (k - 1) * 7 + 6, none⟩ = some (.int .i64 q0)) ∧ Below w.heap.size w w4 ∧ SeenM w4 (w.heap.size + 1) (es.take k) ∧ Blk w4 w.heap.size 34 #[.int .i64 sz, .int .i64 st, .slice (some ⟨b, off, none⟩) n c]) ⟨?_, ?_, ?_, ?_, ?_⟩ ?_
            · simp
            · exact fun hk0 => (World.cell?_alloc_lt _ _ _ hbz).trans (hp hk0)
            · exact hb.alloc hz _
            · exact World.ownsMap.alloc hmap _
            · exact hbk.alloc _
            rintro w4 ⟨⟨g0, g1, g2, g3, g4, g5, g6⟩, hp4, hb4, hmap4, hbk4⟩
            have hz4 := hb4.size
            have bx : w4.cell? ⟨w.heap.size, 0 + 2, none⟩ = some (.slice (some ⟨b, off, none⟩) n c) := hbk4.cell 2
            clear c0 c1 c2 c3 c4 c5 c6 hp hb hmap hbk
            have HO : RowKit.Hid (enOk es k = (flowV x1 x2 x3 x4 x5 && !seenF (es.take k) ⟨x1, x2, x3, x4, x5, xt, xl⟩ && inB xt 0 30 && inB xl 0 100000 && (k == 0 || decide (q0 ≤ xl)))) := Lib.hid (by unfold enOk enF; rw [hh, hq])
            by_cases v1 : flowV x1 x2 x3 x4 x5 = true
            · by_cases v2 : seenF (es.take k) ⟨x1, x2, x3, x4, x5, xt, xl⟩ = true
              · have HE := Lib.hid (tab_bad (sz := sz) (st := st) hlk (by rw [HO.out, v2]; simp))
                obtain ⟨L, hL⟩ : ∃ L : List (Nat × VT), L = [(1, tLit (.pointer (some ⟨w.heap.size, 0, none⟩))), (3, tLit (.map (some (w.heap.size + 1)))), (4, tLit (.int .i64 ((k : Int)))), (5, tLit (.pointer (some ⟨wr.heap.size, 0, none⟩))), (33, tLit (.pointer (some ⟨wr.heap.size, 0, none⟩))), (34, tLit (.agg #[.int .i64 x1, .int .i64 x2, .int .i64 x3, .int .i64 x4, .int .i64 x5])), (35, tLit (.bool true)), (36, tLit (.bool false)), (37, tLit (.bool false)), (38, tLit (.map (some (w.heap.size + 1)))), (39, tLit (.pointer (some ⟨wr.heap.size, 0, none⟩))), (40, tLit (.agg #[.int .i64 x1, .int .i64 x2, .int .i64 x3, .int .i64 x4, .int .i64 x5])), (41, tLit (.bool true)), (42, tLit (.bool true)), (43, tLit (.bool true)), (44, tLit (undef)), (45, tLit (undef)), (46, tLit (undef)), (47, tLit (undef)), (48, tLit (.bool true)), (49, tLit (.bool true)), (50, tLit (undef)), (51, tLit (undef)), (52, tLit (undef)), (53, tLit (undef)), (54, tLit (.bool true)), (55, tLit (.bool true)), (56, tLit (undef)), (57, tLit (undef)), (58, tLit (undef)), (59, tLit (undef)), (60, tLit (undef)), (61, tLit (undef)), (62, tLit (undef)), (63, tLit (undef)), (64, tLit (undef)), (65, tLit (undef)), (66, tLit (undef)), (67, tLit (undef)), (68, tLit (undef)), (69, tLit (undef)), (70, tLit (.bool true))] := ⟨_, rfl⟩
                have V1 : L.lookup 1 = some (tLit (.pointer (some ⟨w.heap.size, 0, none⟩))) := by rw [hL]; rfl
                have V3 : L.lookup 3 = some (tLit (.map (some (w.heap.size + 1)))) := by rw [hL]; rfl
                have V4 : L.lookup 4 = some (tLit (.int .i64 ((k : Int)))) := by rw [hL]; rfl
                have V5 : L.lookup 5 = some (tLit (.pointer (some ⟨wr.heap.size, 0, none⟩))) := by rw [hL]; rfl
                have V33 : L.lookup 33 = some (tLit (.pointer (some ⟨wr.heap.size, 0, none⟩))) := by rw [hL]; rfl
                have V34 : L.lookup 34 = some (tLit (.agg #[.int .i64 x1, .int .i64 x2, .int .i64 x3, .int .i64 x4, .int .i64 x5])) := by rw [hL]; rfl
                have V35 : L.lookup 35 = some (tLit (.bool true)) := by rw [hL]; rfl
                have V36 : L.lookup 36 = some (tLit (.bool false)) := by rw [hL]; rfl
                have V37 : L.lookup 37 = some (tLit (.bool false)) := by rw [hL]; rfl
                have V38 : L.lookup 38 = some (tLit (.map (some (w.heap.size + 1)))) := by rw [hL]; rfl
                have V39 : L.lookup 39 = some (tLit (.pointer (some ⟨wr.heap.size, 0, none⟩))) := by rw [hL]; rfl
                have V40 : L.lookup 40 = some (tLit (.agg #[.int .i64 x1, .int .i64 x2, .int .i64 x3, .int .i64 x4, .int .i64 x5])) := by rw [hL]; rfl
                have V41 : L.lookup 41 = some (tLit (.bool true)) := by rw [hL]; rfl
                have V42 : L.lookup 42 = some (tLit (.bool true)) := by rw [hL]; rfl
                have V43 : L.lookup 43 = some (tLit (.bool true)) := by rw [hL]; rfl
                have V44 : L.lookup 44 = some (tLit (undef)) := by rw [hL]; rfl
                have V45 : L.lookup 45 = some (tLit (undef)) := by rw [hL]; rfl
                have V46 : L.lookup 46 = some (tLit (undef)) := by rw [hL]; rfl
                have V47 : L.lookup 47 = some (tLit (undef)) := by rw [hL]; rfl
                have V48 : L.lookup 48 = some (tLit (.bool true)) := by rw [hL]; rfl
                have V49 : L.lookup 49 = some (tLit (.bool true)) := by rw [hL]; rfl
                have V50 : L.lookup 50 = some (tLit (undef)) := by rw [hL]; rfl
                have V51 : L.lookup 51 = some (tLit (undef)) := by rw [hL]; rfl
                have V52 : L.lookup 52 = some (tLit (undef)) := by rw [hL]; rfl
                have V53 : L.lookup 53 = some (tLit (undef)) := by rw [hL]; rfl
                have V54 : L.lookup 54 = some (tLit (.bool true)) := by rw [hL]; rfl
                have V55 : L.lookup 55 = some (tLit (.bool true)) := by rw [hL]; rfl
                have V56 : L.lookup 56 = some (tLit (undef)) := by rw [hL]; rfl
                have V57 : L.lookup 57 = some (tLit (undef)) := by rw [hL]; rfl
                have V58 : L.lookup 58 = some (tLit (undef)) := by rw [hL]; rfl
                have V59 : L.lookup 59 = some (tLit (undef)) := by rw [hL]; rfl
                have V60 : L.lookup 60 = some (tLit (undef)) := by rw [hL]; rfl
                have V61 : L.lookup 61 = some (tLit (undef)) := by rw [hL]; rfl
                have V62 : L.lookup 62 = some (tLit (undef)) := by rw [hL]; rfl
                have V63 : L.lookup 63 = some (tLit (undef)) := by rw [hL]; rfl
                have V64 : L.lookup 64 = some (tLit (undef)) := by rw [hL]; rfl
                have V65 : L.lookup 65 = some (tLit (undef)) := by rw [hL]; rfl
                have V66 : L.lookup 66 = some (tLit (undef)) := by rw [hL]; rfl
                have V67 : L.lookup 67 = some (tLit (undef)) := by rw [hL]; rfl
                have V68 : L.lookup 68 = some (tLit (undef)) := by rw [hL]; rfl
                have V69 : L.lookup 69 = some (tLit (undef)) := by rw [hL]; rfl
                have V70 : L.lookup 70 = some (tLit (.bool true)) := by rw [hL]; rfl
                have HK : KeepL L := by rw [hL]; exact ⟨keep_lit _, keep_lit _, keep_lit _, keep_lit _, keep_lit _, keep_lit _, keep_lit _, keep_lit _, keep_lit _, keep_lit _, keep_lit _, keep_lit _, keep_lit _, keep_lit _, keep_lit _, keep_lit _, keep_lit _, keep_lit _, keep_lit _, keep_lit _, keep_lit _, keep_lit _, keep_lit _, keep_lit _, keep_lit _, keep_lit _, keep_lit _, keep_lit _, keep_lit _, keep_lit _, keep_lit _, keep_lit _, keep_lit _, keep_lit _, keep_lit _, keep_lit _, keep_lit _, keep_lit _, keep_lit _, keep_lit _, keep_lit _, keep_lit _, trivial⟩
                refine wp_region_mix0 (by kernel_rfl) L 38 rfl [some 33, some 34, some 35, some 36, some 37, some 38, some 39, some 40, some 41, some 42, some 43, some 44, some 45, some 46, some 47, some 48, some 49, some 50, some 51, some 52, some 53, some 54, some 55, some 56, some 57, some 58, some 59, some 60, some 61, some 62, some 63, some 64, some 65, some 66, some 67, some 68, some 69, some 70] (by kernel_rfl) (by kernel_rfl) (by kernel_rfl) 4 (by rw [hL]; intro x hx; simp only [List.take_succ_cons, List.take_zero, List.mem_cons, List.not_mem_nil, or_false] at hx; rcases hx with rfl | rfl | rfl | rfl <;> rfl) (by rw [hL]; rfl) ?_ ?_
                · clear hL
                  exact ⟨m_field HK gokm_none (f := 0) (s := 5) (by kernel_rfl) (by omega) (om_tmp V5) rfl V33,
                    m_loadn HK gokm_none (by kernel_rfl) (by kernel_rfl) (om_tmp V33) (by intro j v hj; rcases j with _ | _ | _ | _ | _ | j <;> simp at hj <;> subst hj <;> assumption) V34,
                    m_call HK gokm_none Try.func47 (by kernel_rfl) (by kernel_rfl) V35 (fun o b' wx hm hG ho => by
                      have e1 : b'.eval (.tmp 34) = .agg #[.int .i64 x1, .int .i64 x2, .int .i64 x3, .int .i64 x4, .int .i64 x5] := (om_tmp V34) o b' wx (hm _ (by simp)) ho
                      have e0 : ∀ v, b'.eval (.const v) = v := fun _ => rfl
                      rw [show (#[.tmp 34] : Array Operand).map b'.eval = #[.agg #[.int .i64 x1, .int .i64 x2, .int .i64 x3, .int .i64 x4, .int .i64 x5]] from by simp [e0, e1]]
                      exact (iFlow_is _ _ _ _ _ _).mono fun e w' h => ⟨_, h.1, by rw [h.2]; exact GrF.alloc _ _ _, by rw [v1]; rfl⟩),
                    m_not HK gokm_none (om_tmp V35) rfl V36,
                    m_move HK gokm_none (om_tmp V36) V37,
                    m_move HK (gokm_some rfl V37) (om_tmp V3) V38,
                    m_field HK (gokm_some rfl V37) (f := 0) (s := 5) (by kernel_rfl) (by omega) (om_tmp V5) rfl V39,
                    m_loadn HK (gokm_some rfl V37) (by kernel_rfl) (by kernel_rfl) (om_tmp V39) (by intro j v hj; rcases j with _ | _ | _ | _ | _ | j <;> simp at hj <;> subst hj <;> assumption) V40,
                    m_look HK (gokm_some rfl V37) hmap4 hes (show enF ⟨x1, x2, x3, x4, x5, xt, xl⟩ = true from v1) (om_tmp V38) (om_tmp V40) v2.symm V41,
                    m_pickf HK gokm_none (om_tmp V37) (om_tmp V41) V42,
                    m_move HK gokm_none (om_tmp V42) V43,
                    m_skip HK rfl rfl V43 (by intro e; cases e) (fun d h => by cases h; exact V44),
                    m_skip HK rfl rfl V43 (by intro e; cases e) (fun d h => by cases h; exact V45),
                    m_skip HK rfl rfl V43 (by intro e; cases e) (fun d h => by cases h; exact V46),
                    m_skip HK rfl rfl V43 (by intro e; cases e) (fun d h => by cases h; exact V47),
                    m_pickt HK gokm_none (om_tmp V43) om_const V48,
                    m_move HK gokm_none (om_tmp V48) V49,
                    m_skip HK rfl rfl V49 (by intro e; cases e) (fun d h => by cases h; exact V50),
                    m_skip HK rfl rfl V49 (by intro e; cases e) (fun d h => by cases h; exact V51),
                    m_skip HK rfl rfl V49 (by intro e; cases e) (fun d h => by cases h; exact V52),
                    m_skip HK rfl rfl V49 (by intro e; cases e) (fun d h => by cases h; exact V53),
                    m_pickt HK gokm_none (om_tmp V49) om_const V54,
                    m_move HK gokm_none (om_tmp V54) V55,
                    m_skip HK rfl rfl V55 (by intro e; cases e) (fun d h => by cases h; exact V56),
                    m_skip HK rfl rfl V55 (by intro e; cases e) (fun d h => by cases h; exact V57),
                    m_skip HK rfl rfl V55 (by intro e; cases e) (fun d h => by cases h; exact V58),
                    m_skip HK rfl rfl V58 (by intro e; cases e) (fun d h => by cases h; exact V59),
                    m_skip HK rfl rfl V58 (by intro e; cases e) (fun d h => by cases h; exact V60),
                    m_skip HK rfl rfl V58 (by intro e; cases e) (fun d h => by cases h; exact V61),
                    m_skip HK rfl rfl V58 (by intro e; cases e) (fun d h => by cases h; exact V62),
                    m_skip HK rfl rfl V58 (by intro e; cases e) (fun d h => by cases h; exact V63),
                    m_skip HK rfl rfl V58 (by intro e; cases e) (fun d h => by cases h; exact V64),
                    m_skip HK rfl rfl V58 (by intro e; cases e) (fun d h => by cases h; exact V65),
                    m_skip HK rfl rfl V58 (by intro e; cases e) (fun d h => by cases h; exact V66),
                    m_skip HK rfl rfl V58 (by intro e; cases e) (fun d h => by cases h; exact V67),
                    m_skip HK rfl rfl V58 (by intro e; cases e) (fun d h => by cases h; exact V68),
                    m_skip HK rfl rfl V55 (by intro e; cases e) (fun d h => by cases h; exact V69),
                    m_pickt HK gokm_none (om_tmp V55) om_const V70,
                    trivial⟩
                intro vs w5 hw5 hk5
                have k33 : vs 33 = .pointer (some ⟨wr.heap.size, 0, none⟩) := hk5 0 33 _ (by omega) rfl V33
                have k34 : vs 34 = .agg #[.int .i64 x1, .int .i64 x2, .int .i64 x3, .int .i64 x4, .int .i64 x5] := hk5 1 34 _ (by omega) rfl V34
                have k35 : vs 35 = .bool true := hk5 2 35 _ (by omega) rfl V35
                have k36 : vs 36 = .bool false := hk5 3 36 _ (by omega) rfl V36
                have k37 : vs 37 = .bool false := hk5 4 37 _ (by omega) rfl V37
                have k38 : vs 38 = .map (some (w.heap.size + 1)) := hk5 5 38 _ (by omega) rfl V38
                have k39 : vs 39 = .pointer (some ⟨wr.heap.size, 0, none⟩) := hk5 6 39 _ (by omega) rfl V39
                have k40 : vs 40 = .agg #[.int .i64 x1, .int .i64 x2, .int .i64 x3, .int .i64 x4, .int .i64 x5] := hk5 7 40 _ (by omega) rfl V40
                have k41 : vs 41 = .bool true := hk5 8 41 _ (by omega) rfl V41
                have k42 : vs 42 = .bool true := hk5 9 42 _ (by omega) rfl V42
                have k43 : vs 43 = .bool true := hk5 10 43 _ (by omega) rfl V43
                have k44 : vs 44 = undef := hk5 11 44 _ (by omega) rfl V44
                have k45 : vs 45 = undef := hk5 12 45 _ (by omega) rfl V45
                have k46 : vs 46 = undef := hk5 13 46 _ (by omega) rfl V46
                have k47 : vs 47 = undef := hk5 14 47 _ (by omega) rfl V47
                have k48 : vs 48 = .bool true := hk5 15 48 _ (by omega) rfl V48
                have k49 : vs 49 = .bool true := hk5 16 49 _ (by omega) rfl V49
                have k50 : vs 50 = undef := hk5 17 50 _ (by omega) rfl V50
                have k51 : vs 51 = undef := hk5 18 51 _ (by omega) rfl V51
                have k52 : vs 52 = undef := hk5 19 52 _ (by omega) rfl V52
                have k53 : vs 53 = undef := hk5 20 53 _ (by omega) rfl V53
                have k54 : vs 54 = .bool true := hk5 21 54 _ (by omega) rfl V54
                have k55 : vs 55 = .bool true := hk5 22 55 _ (by omega) rfl V55
                have k56 : vs 56 = undef := hk5 23 56 _ (by omega) rfl V56
                have k57 : vs 57 = undef := hk5 24 57 _ (by omega) rfl V57
                have k58 : vs 58 = undef := hk5 25 58 _ (by omega) rfl V58
                have k59 : vs 59 = undef := hk5 26 59 _ (by omega) rfl V59
                have k60 : vs 60 = undef := hk5 27 60 _ (by omega) rfl V60
                have k61 : vs 61 = undef := hk5 28 61 _ (by omega) rfl V61
                have k62 : vs 62 = undef := hk5 29 62 _ (by omega) rfl V62
                have k63 : vs 63 = undef := hk5 30 63 _ (by omega) rfl V63
                have k64 : vs 64 = undef := hk5 31 64 _ (by omega) rfl V64
                have k65 : vs 65 = undef := hk5 32 65 _ (by omega) rfl V65
                have k66 : vs 66 = undef := hk5 33 66 _ (by omega) rfl V66
                have k67 : vs 67 = undef := hk5 34 67 _ (by omega) rfl V67
                have k68 : vs 68 = undef := hk5 35 68 _ (by omega) rfl V68
                have k69 : vs 69 = undef := hk5 36 69 _ (by omega) rfl V69
                have k70 : vs 70 = .bool true := hk5 37 70 _ (by omega) rfl V70
                clear hk5 HK hL V1 V3 V4 V5 V33 V34 V35 V36 V37 V38 V39 V40 V41 V42 V43 V44 V45 V46 V47 V48 V49 V50 V51 V52 V53 V54 V55 V56 V57 V58 V59 V60 V61 V62 V63 V64 V65 V66 V67 V68 V69 V70
                simp only [putL, Act.put, List.setIfInBounds_toArray, List.set_cons_zero, List.set_cons_succ, k33, k34, k35, k36, k37, k38, k39, k40, k41, k42, k43, k44, k45, k46, k47, k48, k49, k50, k51, k52, k53, k54, k55, k56, k57, k58, k59, k60, k61, k62, k63, k64, k65, k66, k67, k68, k69, k70]
                clear k33 k34 k35 k36 k37 k38 k39 k40 k41 k42 k43 k44 k45 k46 k47 k48 k49 k50 k51 k52 k53 k54 k55 k56 k57 k58 k59 k60 k61 k62 k63 k64 k65 k66 k67 k68 k69 k70
                have b5 := New.below hw5 hb4 hz4
                clear hmap4
                go_wp2
                go_ret
                exact ⟨ret_bool HE.out.symm, b5⟩
              · have v2 := Bool.eq_false_iff.2 v2
                by_cases v3 : inB xt 0 30 = true
                · by_cases v4 : inB xl 0 100000 = true
                  · have b4 := inB_iff.1 v4
                    by_cases hk0 : 0 < k
                    · have p0 := hp4 hk0
                      by_cases v5 : xl < q0
                      · have HE := Lib.hid (tab_bad (sz := sz) (st := st) hlk (by rw [HO.out, decide_eq_false (show ¬ q0 ≤ xl by omega), show (k == 0) = false from by simp; omega]; simp))
                        obtain ⟨L, hL⟩ : ∃ L : List (Nat × VT), L = [(1, tLit (.pointer (some ⟨w.heap.size, 0, none⟩))), (3, tLit (.map (some (w.heap.size + 1)))), (4, tLit (.int .i64 ((k : Int)))), (5, tLit (.pointer (some ⟨wr.heap.size, 0, none⟩))), (33, tLit (.pointer (some ⟨wr.heap.size, 0, none⟩))), (34, tLit (.agg #[.int .i64 x1, .int .i64 x2, .int .i64 x3, .int .i64 x4, .int .i64 x5])), (35, tLit (.bool true)), (36, tLit (.bool false)), (37, tLit (.bool false)), (38, tLit (.map (some (w.heap.size + 1)))), (39, tLit (.pointer (some ⟨wr.heap.size, 0, none⟩))), (40, tLit (.agg #[.int .i64 x1, .int .i64 x2, .int .i64 x3, .int .i64 x4, .int .i64 x5])), (41, tLit (.bool false)), (42, tLit (.bool false)), (43, tLit (.bool false)), (44, tLit (.pointer (some ⟨wr.heap.size, 0 + 5, none⟩))), (45, tLit (.int .i64 (xt))), (46, tLit (.bool true)), (47, tLit (.bool false)), (48, tLit (.bool false)), (49, tLit (.bool false)), (50, tLit (.pointer (some ⟨wr.heap.size, 0 + 6, none⟩))), (51, tLit (.int .i64 (xl))), (52, tLit (.bool true)), (53, tLit (.bool false)), (54, tLit (.bool false)), (55, tLit (.bool false)), (56, tLit (.int .i64 ((k : Int)))), (57, tLit (.bool true)), (58, tLit (.bool true)), (59, tLit (.pointer (some ⟨wr.heap.size, 0 + 6, none⟩))), (60, tLit (.int .i64 (xl))), (61, tLit (.pointer (some ⟨w.heap.size, 0 + 2, none⟩))), (62, tLit (.slice (some ⟨b, off, none⟩) (n) (c))), (63, tLit (.int .i64 ((k : Int)))), (64, tLit (.int .i64 (((k : Int)) - (1)))), (65, tLit (.pointer (some ⟨b, off + (k - 1) * 7, none⟩))), (66, tLit (.pointer (some ⟨b, off + (k - 1) * 7 + 6, none⟩))), (67, tLit (.int .i64 (q0))), (68, tLit (.bool true)), (69, tLit (.bool true)), (70, tLit (.bool true))] := ⟨_, rfl⟩
                        have V1 : L.lookup 1 = some (tLit (.pointer (some ⟨w.heap.size, 0, none⟩))) := by rw [hL]; rfl
                        have V3 : L.lookup 3 = some (tLit (.map (some (w.heap.size + 1)))) := by rw [hL]; rfl
                        have V4 : L.lookup 4 = some (tLit (.int .i64 ((k : Int)))) := by rw [hL]; rfl
                        have V5 : L.lookup 5 = some (tLit (.pointer (some ⟨wr.heap.size, 0, none⟩))) := by rw [hL]; rfl
                        have V33 : L.lookup 33 = some (tLit (.pointer (some ⟨wr.heap.size, 0, none⟩))) := by rw [hL]; rfl
                        have V34 : L.lookup 34 = some (tLit (.agg #[.int .i64 x1, .int .i64 x2, .int .i64 x3, .int .i64 x4, .int .i64 x5])) := by rw [hL]; rfl
                        have V35 : L.lookup 35 = some (tLit (.bool true)) := by rw [hL]; rfl
                        have V36 : L.lookup 36 = some (tLit (.bool false)) := by rw [hL]; rfl
                        have V37 : L.lookup 37 = some (tLit (.bool false)) := by rw [hL]; rfl
                        have V38 : L.lookup 38 = some (tLit (.map (some (w.heap.size + 1)))) := by rw [hL]; rfl
                        have V39 : L.lookup 39 = some (tLit (.pointer (some ⟨wr.heap.size, 0, none⟩))) := by rw [hL]; rfl
                        have V40 : L.lookup 40 = some (tLit (.agg #[.int .i64 x1, .int .i64 x2, .int .i64 x3, .int .i64 x4, .int .i64 x5])) := by rw [hL]; rfl
                        have V41 : L.lookup 41 = some (tLit (.bool false)) := by rw [hL]; rfl
                        have V42 : L.lookup 42 = some (tLit (.bool false)) := by rw [hL]; rfl
                        have V43 : L.lookup 43 = some (tLit (.bool false)) := by rw [hL]; rfl
                        have V44 : L.lookup 44 = some (tLit (.pointer (some ⟨wr.heap.size, 0 + 5, none⟩))) := by rw [hL]; rfl
                        have V45 : L.lookup 45 = some (tLit (.int .i64 (xt))) := by rw [hL]; rfl
                        have V46 : L.lookup 46 = some (tLit (.bool true)) := by rw [hL]; rfl
                        have V47 : L.lookup 47 = some (tLit (.bool false)) := by rw [hL]; rfl
                        have V48 : L.lookup 48 = some (tLit (.bool false)) := by rw [hL]; rfl
                        have V49 : L.lookup 49 = some (tLit (.bool false)) := by rw [hL]; rfl
                        have V50 : L.lookup 50 = some (tLit (.pointer (some ⟨wr.heap.size, 0 + 6, none⟩))) := by rw [hL]; rfl
                        have V51 : L.lookup 51 = some (tLit (.int .i64 (xl))) := by rw [hL]; rfl
                        have V52 : L.lookup 52 = some (tLit (.bool true)) := by rw [hL]; rfl
                        have V53 : L.lookup 53 = some (tLit (.bool false)) := by rw [hL]; rfl
                        have V54 : L.lookup 54 = some (tLit (.bool false)) := by rw [hL]; rfl
                        have V55 : L.lookup 55 = some (tLit (.bool false)) := by rw [hL]; rfl
                        have V56 : L.lookup 56 = some (tLit (.int .i64 ((k : Int)))) := by rw [hL]; rfl
                        have V57 : L.lookup 57 = some (tLit (.bool true)) := by rw [hL]; rfl
                        have V58 : L.lookup 58 = some (tLit (.bool true)) := by rw [hL]; rfl
                        have V59 : L.lookup 59 = some (tLit (.pointer (some ⟨wr.heap.size, 0 + 6, none⟩))) := by rw [hL]; rfl
                        have V60 : L.lookup 60 = some (tLit (.int .i64 (xl))) := by rw [hL]; rfl
                        have V61 : L.lookup 61 = some (tLit (.pointer (some ⟨w.heap.size, 0 + 2, none⟩))) := by rw [hL]; rfl
                        have V62 : L.lookup 62 = some (tLit (.slice (some ⟨b, off, none⟩) (n) (c))) := by rw [hL]; rfl
                        have V63 : L.lookup 63 = some (tLit (.int .i64 ((k : Int)))) := by rw [hL]; rfl
                        have V64 : L.lookup 64 = some (tLit (.int .i64 (((k : Int)) - (1)))) := by rw [hL]; rfl
                        have V65 : L.lookup 65 = some (tLit (.pointer (some ⟨b, off + (k - 1) * 7, none⟩))) := by rw [hL]; rfl
                        have V66 : L.lookup 66 = some (tLit (.pointer (some ⟨b, off + (k - 1) * 7 + 6, none⟩))) := by rw [hL]; rfl
                        have V67 : L.lookup 67 = some (tLit (.int .i64 (q0))) := by rw [hL]; rfl
                        have V68 : L.lookup 68 = some (tLit (.bool true)) := by rw [hL]; rfl
                        have V69 : L.lookup 69 = some (tLit (.bool true)) := by rw [hL]; rfl
                        have V70 : L.lookup 70 = some (tLit (.bool true)) := by rw [hL]; rfl
                        have HK : KeepL L := by rw [hL]; exact ⟨keep_lit _, keep_lit _, keep_lit _, keep_lit _, keep_lit _, keep_lit _, keep_lit _, keep_lit _, keep_lit _, keep_lit _, keep_lit _, keep_lit _, keep_lit _, keep_lit _, keep_lit _, keep_lit _, keep_lit _, keep_lit _, keep_lit _, keep_lit _, keep_lit _, keep_lit _, keep_lit _, keep_lit _, keep_lit _, keep_lit _, keep_lit _, keep_lit _, keep_lit _, keep_lit _, keep_lit _, keep_lit _, keep_lit _, keep_lit _, keep_lit _, keep_lit _, keep_lit _, keep_lit _, keep_lit _, keep_lit _, keep_lit _, keep_lit _, trivial⟩
                        refine wp_region_mix0 (by kernel_rfl) L 38 rfl [some 33, some 34, some 35, some 36, some 37, some 38, some 39, some 40, some 41, some 42, some 43, some 44, some 45, some 46, some 47, some 48, some 49, some 50, some 51, some 52, some 53, some 54, some 55, some 56, some 57, some 58, some 59, some 60, some 61, some 62, some 63, some 64, some 65, some 66, some 67, some 68, some 69, some 70] (by kernel_rfl) (by kernel_rfl) (by kernel_rfl) 4 (by rw [hL]; intro x hx; simp only [List.take_succ_cons, List.take_zero, List.mem_cons, List.not_mem_nil, or_false] at hx; rcases hx with rfl | rfl | rfl | rfl <;> rfl) (by rw [hL]; rfl) ?_ ?_
                        · clear hL
                          exact ⟨m_field HK gokm_none (f := 0) (s := 5) (by kernel_rfl) (by omega) (om_tmp V5) rfl V33,
                            m_loadn HK gokm_none (by kernel_rfl) (by kernel_rfl) (om_tmp V33) (by intro j v hj; rcases j with _ | _ | _ | _ | _ | j <;> simp at hj <;> subst hj <;> assumption) V34,
                            m_call HK gokm_none Try.func47 (by kernel_rfl) (by kernel_rfl) V35 (fun o b' wx hm hG ho => by
                              have e1 : b'.eval (.tmp 34) = .agg #[.int .i64 x1, .int .i64 x2, .int .i64 x3, .int .i64 x4, .int .i64 x5] := (om_tmp V34) o b' wx (hm _ (by simp)) ho
                              have e0 : ∀ v, b'.eval (.const v) = v := fun _ => rfl
                              rw [show (#[.tmp 34] : Array Operand).map b'.eval = #[.agg #[.int .i64 x1, .int .i64 x2, .int .i64 x3, .int .i64 x4, .int .i64 x5]] from by simp [e0, e1]]
                              exact (iFlow_is _ _ _ _ _ _).mono fun e w' h => ⟨_, h.1, by rw [h.2]; exact GrF.alloc _ _ _, by rw [v1]; rfl⟩),
                            m_not HK gokm_none (om_tmp V35) rfl V36,
                            m_move HK gokm_none (om_tmp V36) V37,
                            m_move HK (gokm_some rfl V37) (om_tmp V3) V38,
                            m_field HK (gokm_some rfl V37) (f := 0) (s := 5) (by kernel_rfl) (by omega) (om_tmp V5) rfl V39,
                            m_loadn HK (gokm_some rfl V37) (by kernel_rfl) (by kernel_rfl) (om_tmp V39) (by intro j v hj; rcases j with _ | _ | _ | _ | _ | j <;> simp at hj <;> subst hj <;> assumption) V40,
                            m_look HK (gokm_some rfl V37) hmap4 hes (show enF ⟨x1, x2, x3, x4, x5, xt, xl⟩ = true from v1) (om_tmp V38) (om_tmp V40) v2.symm V41,
                            m_pickf HK gokm_none (om_tmp V37) (om_tmp V41) V42,
                            m_move HK gokm_none (om_tmp V42) V43,
                            m_field HK (gokm_some rfl V43) (f := 5) (s := 1) (by kernel_rfl) (by omega) (om_tmp V5) rfl V44,
                            m_load1 HK (gokm_some rfl V43) (by kernel_rfl) (om_tmp V44) g5 V45,
                            m_call HK (gokm_some rfl V43) Try.func46 (by kernel_rfl) (by kernel_rfl) V46 (fun o b' wx hm hG ho => by
                              have e1 : b'.eval (.tmp 45) = .int .i64 xt := (om_tmp V45) o b' wx (hm _ (by simp)) ho
                              have e0 : ∀ v, b'.eval (.const v) = v := fun _ => rfl
                              rw [show (#[.tmp 45, .const (.int .i64 0), .const (.int .i64 30)] : Array Operand).map b'.eval = #[.int .i64 xt, .int .i64 0, .int .i64 30] from by simp [e0, e1]]
                              exact (in_any _ _ _ _).mono fun e w' h => ⟨_, h.1, by rw [← h.2]; exact GrF.refl _ _, by rw [v3]; rfl⟩),
                            m_not HK (gokm_some rfl V43) (om_tmp V46) rfl V47,
                            m_pickf HK gokm_none (om_tmp V43) (om_tmp V47) V48,
                            m_move HK gokm_none (om_tmp V48) V49,
                            m_field HK (gokm_some rfl V49) (f := 6) (s := 1) (by kernel_rfl) (by omega) (om_tmp V5) rfl V50,
                            m_load1 HK (gokm_some rfl V49) (by kernel_rfl) (om_tmp V50) g6 V51,
                            m_call HK (gokm_some rfl V49) Try.func48 (by kernel_rfl) (by kernel_rfl) V52 (fun o b' wx hm hG ho => by
                              have e1 : b'.eval (.tmp 51) = .int .i64 xl := (om_tmp V51) o b' wx (hm _ (by simp)) ho
                              have e0 : ∀ v, b'.eval (.const v) = v := fun _ => rfl
                              rw [show (#[.tmp 51] : Array Operand).map b'.eval = #[.int .i64 xl] from by simp [e0, e1]]
                              exact (isTime_any _ _).mono fun e w' h => ⟨_, h.1, by rw [← h.2]; exact GrF.refl _ _, by rw [v4]; rfl⟩),
                            m_not HK (gokm_some rfl V49) (om_tmp V52) rfl V53,
                            m_pickf HK gokm_none (om_tmp V49) (om_tmp V53) V54,
                            m_move HK gokm_none (om_tmp V54) V55,
                            m_move HK (gokm_some rfl V55) (om_tmp V4) V56,
                            m_gtr HK (gokm_some rfl V55) (om_tmp V56) om_const (decide_eq_true (by omega)).symm V57,
                            m_move HK (gokm_some rfl V55) (om_tmp V57) V58,
                            m_field HK (gokm_some rfl V58) (f := 6) (s := 1) (by kernel_rfl) (by omega) (om_tmp V5) rfl V59,
                            m_load1 HK (gokm_some rfl V58) (by kernel_rfl) (om_tmp V59) g6 V60,
                            m_field HK (gokm_some rfl V58) (f := 2) (s := 1) (by kernel_rfl) (by omega) (om_tmp V1) rfl V61,
                            m_load1 HK (gokm_some rfl V58) (by kernel_rfl) (om_tmp V61) bx V62,
                            m_move HK (gokm_some rfl V58) (om_tmp V4) V63,
                            m_sub HK (gokm_some rfl V58) (om_tmp V63) om_const rfl (by omega) V64,
                            m_index HK (gokm_some rfl V58) (s := 7) (by kernel_rfl) (by omega) (by omega) (om_tmp V62) (om_tmp V64) (by rw [show ((k : Int) - 1).toNat = k - 1 from by omega]) V65,
                            m_field HK (gokm_some rfl V58) (f := 6) (s := 1) (by kernel_rfl) (by omega) (om_tmp V65) rfl V66,
                            m_load1 HK (gokm_some rfl V58) (by kernel_rfl) (om_tmp V66) p0 V67,
                            m_lss HK (gokm_some rfl V58) (om_tmp V60) (om_tmp V67) (decide_eq_true (by omega)).symm V68,
                            m_pickt HK (gokm_some rfl V55) (om_tmp V58) (om_tmp V68) V69,
                            m_pickf HK gokm_none (om_tmp V55) (om_tmp V69) V70,
                            trivial⟩
                        intro vs w5 hw5 hk5
                        have k33 : vs 33 = .pointer (some ⟨wr.heap.size, 0, none⟩) := hk5 0 33 _ (by omega) rfl V33
                        have k34 : vs 34 = .agg #[.int .i64 x1, .int .i64 x2, .int .i64 x3, .int .i64 x4, .int .i64 x5] := hk5 1 34 _ (by omega) rfl V34
                        have k35 : vs 35 = .bool true := hk5 2 35 _ (by omega) rfl V35
                        have k36 : vs 36 = .bool false := hk5 3 36 _ (by omega) rfl V36
                        have k37 : vs 37 = .bool false := hk5 4 37 _ (by omega) rfl V37
                        have k38 : vs 38 = .map (some (w.heap.size + 1)) := hk5 5 38 _ (by omega) rfl V38
                        have k39 : vs 39 = .pointer (some ⟨wr.heap.size, 0, none⟩) := hk5 6 39 _ (by omega) rfl V39
                        have k40 : vs 40 = .agg #[.int .i64 x1, .int .i64 x2, .int .i64 x3, .int .i64 x4, .int .i64 x5] := hk5 7 40 _ (by omega) rfl V40
                        have k41 : vs 41 = .bool false := hk5 8 41 _ (by omega) rfl V41
                        have k42 : vs 42 = .bool false := hk5 9 42 _ (by omega) rfl V42
                        have k43 : vs 43 = .bool false := hk5 10 43 _ (by omega) rfl V43
                        have k44 : vs 44 = .pointer (some ⟨wr.heap.size, 0 + 5, none⟩) := hk5 11 44 _ (by omega) rfl V44
                        have k45 : vs 45 = .int .i64 (xt) := hk5 12 45 _ (by omega) rfl V45
                        have k46 : vs 46 = .bool true := hk5 13 46 _ (by omega) rfl V46
                        have k47 : vs 47 = .bool false := hk5 14 47 _ (by omega) rfl V47
                        have k48 : vs 48 = .bool false := hk5 15 48 _ (by omega) rfl V48
                        have k49 : vs 49 = .bool false := hk5 16 49 _ (by omega) rfl V49
                        have k50 : vs 50 = .pointer (some ⟨wr.heap.size, 0 + 6, none⟩) := hk5 17 50 _ (by omega) rfl V50
                        have k51 : vs 51 = .int .i64 (xl) := hk5 18 51 _ (by omega) rfl V51
                        have k52 : vs 52 = .bool true := hk5 19 52 _ (by omega) rfl V52
                        have k53 : vs 53 = .bool false := hk5 20 53 _ (by omega) rfl V53
                        have k54 : vs 54 = .bool false := hk5 21 54 _ (by omega) rfl V54
                        have k55 : vs 55 = .bool false := hk5 22 55 _ (by omega) rfl V55
                        have k56 : vs 56 = .int .i64 ((k : Int)) := hk5 23 56 _ (by omega) rfl V56
                        have k57 : vs 57 = .bool true := hk5 24 57 _ (by omega) rfl V57
                        have k58 : vs 58 = .bool true := hk5 25 58 _ (by omega) rfl V58
                        have k59 : vs 59 = .pointer (some ⟨wr.heap.size, 0 + 6, none⟩) := hk5 26 59 _ (by omega) rfl V59
                        have k60 : vs 60 = .int .i64 (xl) := hk5 27 60 _ (by omega) rfl V60
                        have k61 : vs 61 = .pointer (some ⟨w.heap.size, 0 + 2, none⟩) := hk5 28 61 _ (by omega) rfl V61
                        have k62 : vs 62 = .slice (some ⟨b, off, none⟩) (n) (c) := hk5 29 62 _ (by omega) rfl V62
                        have k63 : vs 63 = .int .i64 ((k : Int)) := hk5 30 63 _ (by omega) rfl V63
                        have k64 : vs 64 = .int .i64 (((k : Int)) - (1)) := hk5 31 64 _ (by omega) rfl V64
                        have k65 : vs 65 = .pointer (some ⟨b, off + (k - 1) * 7, none⟩) := hk5 32 65 _ (by omega) rfl V65
                        have k66 : vs 66 = .pointer (some ⟨b, off + (k - 1) * 7 + 6, none⟩) := hk5 33 66 _ (by omega) rfl V66
                        have k67 : vs 67 = .int .i64 (q0) := hk5 34 67 _ (by omega) rfl V67
                        have k68 : vs 68 = .bool true := hk5 35 68 _ (by omega) rfl V68
                        have k69 : vs 69 = .bool true := hk5 36 69 _ (by omega) rfl V69
                        have k70 : vs 70 = .bool true := hk5 37 70 _ (by omega) rfl V70
                        clear hk5 HK hL V1 V3 V4 V5 V33 V34 V35 V36 V37 V38 V39 V40 V41 V42 V43 V44 V45 V46 V47 V48 V49 V50 V51 V52 V53 V54 V55 V56 V57 V58 V59 V60 V61 V62 V63 V64 V65 V66 V67 V68 V69 V70
                        simp only [putL, Act.put, List.setIfInBounds_toArray, List.set_cons_zero, List.set_cons_succ, k33, k34, k35, k36, k37, k38, k39, k40, k41, k42, k43, k44, k45, k46, k47, k48, k49, k50, k51, k52, k53, k54, k55, k56, k57, k58, k59, k60, k61, k62, k63, k64, k65, k66, k67, k68, k69, k70]
                        clear k33 k34 k35 k36 k37 k38 k39 k40 k41 k42 k43 k44 k45 k46 k47 k48 k49 k50 k51 k52 k53 k54 k55 k56 k57 k58 k59 k60 k61 k62 k63 k64 k65 k66 k67 k68 k69 k70
                        have b5 := New.below hw5 hb4 hz4
                        clear hmap4
                        go_wp2
                        go_ret
                        exact ⟨ret_bool HE.out.symm, b5⟩
                      · have hnext := Lib.hid (hr.next (by rw [HO.out, v1, v2, v3, v4, decide_eq_true (show q0 ≤ xl by omega)]; simp))
                        obtain ⟨L, hL⟩ : ∃ L : List (Nat × VT), L = [(1, tLit (.pointer (some ⟨w.heap.size, 0, none⟩))), (3, tLit (.map (some (w.heap.size + 1)))), (4, tLit (.int .i64 ((k : Int)))), (5, tLit (.pointer (some ⟨wr.heap.size, 0, none⟩))), (33, tLit (.pointer (some ⟨wr.heap.size, 0, none⟩))), (34, tLit (.agg #[.int .i64 x1, .int .i64 x2, .int .i64 x3, .int .i64 x4, .int .i64 x5])), (35, tLit (.bool true)), (36, tLit (.bool false)), (37, tLit (.bool false)), (38, tLit (.map (some (w.heap.size + 1)))), (39, tLit (.pointer (some ⟨wr.heap.size, 0, none⟩))), (40, tLit (.agg #[.int .i64 x1, .int .i64 x2, .int .i64 x3, .int .i64 x4, .int .i64 x5])), (41, tLit (.bool false)), (42, tLit (.bool false)), (43, tLit (.bool false)), (44, tLit (.pointer (some ⟨wr.heap.size, 0 + 5, none⟩))), (45, tLit (.int .i64 (xt))), (46, tLit (.bool true)), (47, tLit (.bool false)), (48, tLit (.bool false)), (49, tLit (.bool false)), (50, tLit (.pointer (some ⟨wr.heap.size, 0 + 6, none⟩))), (51, tLit (.int .i64 (xl))), (52, tLit (.bool true)), (53, tLit (.bool false)), (54, tLit (.bool false)), (55, tLit (.bool false)), (56, tLit (.int .i64 ((k : Int)))), (57, tLit (.bool true)), (58, tLit (.bool true)), (59, tLit (.pointer (some ⟨wr.heap.size, 0 + 6, none⟩))), (60, tLit (.int .i64 (xl))), (61, tLit (.pointer (some ⟨w.heap.size, 0 + 2, none⟩))), (62, tLit (.slice (some ⟨b, off, none⟩) (n) (c))), (63, tLit (.int .i64 ((k : Int)))), (64, tLit (.int .i64 (((k : Int)) - (1)))), (65, tLit (.pointer (some ⟨b, off + (k - 1) * 7, none⟩))), (66, tLit (.pointer (some ⟨b, off + (k - 1) * 7 + 6, none⟩))), (67, tLit (.int .i64 (q0))), (68, tLit (.bool false)), (69, tLit (.bool false)), (70, tLit (.bool false))] := ⟨_, rfl⟩
                        have V1 : L.lookup 1 = some (tLit (.pointer (some ⟨w.heap.size, 0, none⟩))) := by rw [hL]; rfl
                        have V3 : L.lookup 3 = some (tLit (.map (some (w.heap.size + 1)))) := by rw [hL]; rfl
                        have V4 : L.lookup 4 = some (tLit (.int .i64 ((k : Int)))) := by rw [hL]; rfl
                        have V5 : L.lookup 5 = some (tLit (.pointer (some ⟨wr.heap.size, 0, none⟩))) := by rw [hL]; rfl
                        have V33 : L.lookup 33 = some (tLit (.pointer (some ⟨wr.heap.size, 0, none⟩))) := by rw [hL]; rfl
                        have V34 : L.lookup 34 = some (tLit (.agg #[.int .i64 x1, .int .i64 x2, .int .i64 x3, .int .i64 x4, .int .i64 x5])) := by rw [hL]; rfl
                        have V35 : L.lookup 35 = some (tLit (.bool true)) := by rw [hL]; rfl
                        have V36 : L.lookup 36 = some (tLit (.bool false)) := by rw [hL]; rfl
                        have V37 : L.lookup 37 = some (tLit (.bool false)) := by rw [hL]; rfl
                        have V38 : L.lookup 38 = some (tLit (.map (some (w.heap.size + 1)))) := by rw [hL]; rfl
                        have V39 : L.lookup 39 = some (tLit (.pointer (some ⟨wr.heap.size, 0, none⟩))) := by rw [hL]; rfl
                        have V40 : L.lookup 40 = some (tLit (.agg #[.int .i64 x1, .int .i64 x2, .int .i64 x3, .int .i64 x4, .int .i64 x5])) := by rw [hL]; rfl
                        have V41 : L.lookup 41 = some (tLit (.bool false)) := by rw [hL]; rfl
                        have V42 : L.lookup 42 = some (tLit (.bool false)) := by rw [hL]; rfl
                        have V43 : L.lookup 43 = some (tLit (.bool false)) := by rw [hL]; rfl
                        have V44 : L.lookup 44 = some (tLit (.pointer (some ⟨wr.heap.size, 0 + 5, none⟩))) := by rw [hL]; rfl
                        have V45 : L.lookup 45 = some (tLit (.int .i64 (xt))) := by rw [hL]; rfl
                        have V46 : L.lookup 46 = some (tLit (.bool true)) := by rw [hL]; rfl
                        have V47 : L.lookup 47 = some (tLit (.bool false)) := by rw [hL]; rfl
                        have V48 : L.lookup 48 = some (tLit (.bool false)) := by rw [hL]; rfl
                        have V49 : L.lookup 49 = some (tLit (.bool false)) := by rw [hL]; rfl
                        have V50 : L.lookup 50 = some (tLit (.pointer (some ⟨wr.heap.size, 0 + 6, none⟩))) := by rw [hL]; rfl
                        have V51 : L.lookup 51 = some (tLit (.int .i64 (xl))) := by rw [hL]; rfl
                        have V52 : L.lookup 52 = some (tLit (.bool true)) := by rw [hL]; rfl
                        have V53 : L.lookup 53 = some (tLit (.bool false)) := by rw [hL]; rfl
                        have V54 : L.lookup 54 = some (tLit (.bool false)) := by rw [hL]; rfl
                        have V55 : L.lookup 55 = some (tLit (.bool false)) := by rw [hL]; rfl
                        have V56 : L.lookup 56 = some (tLit (.int .i64 ((k : Int)))) := by rw [hL]; rfl
                        have V57 : L.lookup 57 = some (tLit (.bool true)) := by rw [hL]; rfl
                        have V58 : L.lookup 58 = some (tLit (.bool true)) := by rw [hL]; rfl
                        have V59 : L.lookup 59 = some (tLit (.pointer (some ⟨wr.heap.size, 0 + 6, none⟩))) := by rw [hL]; rfl
                        have V60 : L.lookup 60 = some (tLit (.int .i64 (xl))) := by rw [hL]; rfl
                        have V61 : L.lookup 61 = some (tLit (.pointer (some ⟨w.heap.size, 0 + 2, none⟩))) := by rw [hL]; rfl
                        have V62 : L.lookup 62 = some (tLit (.slice (some ⟨b, off, none⟩) (n) (c))) := by rw [hL]; rfl
                        have V63 : L.lookup 63 = some (tLit (.int .i64 ((k : Int)))) := by rw [hL]; rfl
                        have V64 : L.lookup 64 = some (tLit (.int .i64 (((k : Int)) - (1)))) := by rw [hL]; rfl
                        have V65 : L.lookup 65 = some (tLit (.pointer (some ⟨b, off + (k - 1) * 7, none⟩))) := by rw [hL]; rfl
                        have V66 : L.lookup 66 = some (tLit (.pointer (some ⟨b, off + (k - 1) * 7 + 6, none⟩))) := by rw [hL]; rfl
                        have V67 : L.lookup 67 = some (tLit (.int .i64 (q0))) := by rw [hL]; rfl
                        have V68 : L.lookup 68 = some (tLit (.bool false)) := by rw [hL]; rfl
                        have V69 : L.lookup 69 = some (tLit (.bool false)) := by rw [hL]; rfl
                        have V70 : L.lookup 70 = some (tLit (.bool false)) := by rw [hL]; rfl
                        have HK : KeepL L := by rw [hL]; exact ⟨keep_lit _, keep_lit _, keep_lit _, keep_lit _, keep_lit _, keep_lit _, keep_lit _, keep_lit _, keep_lit _, keep_lit _, keep_lit _, keep_lit _, keep_lit _, keep_lit _, keep_lit _, keep_lit _, keep_lit _, keep_lit _, keep_lit _, keep_lit _, keep_lit _, keep_lit _, keep_lit _, keep_lit _, keep_lit _, keep_lit _, keep_lit _, keep_lit _, keep_lit _, keep_lit _, keep_lit _, keep_lit _, keep_lit _, keep_lit _, keep_lit _, keep_lit _, keep_lit _, keep_lit _, keep_lit _, keep_lit _, keep_lit _, keep_lit _, trivial⟩
                        refine wp_region_mix0 (by kernel_rfl) L 38 rfl [some 33, some 34, some 35, some 36, some 37, some 38, some 39, some 40, some 41, some 42, some 43, some 44, some 45, some 46, some 47, some 48, some 49, some 50, some 51, some 52, some 53, some 54, some 55, some 56, some 57, some 58, some 59, some 60, some 61, some 62, some 63, some 64, some 65, some 66, some 67, some 68, some 69, some 70] (by kernel_rfl) (by kernel_rfl) (by kernel_rfl) 4 (by rw [hL]; intro x hx; simp only [List.take_succ_cons, List.take_zero, List.mem_cons, List.not_mem_nil, or_false] at hx; rcases hx with rfl | rfl | rfl | rfl <;> rfl) (by rw [hL]; rfl) ?_ ?_
                        · clear hL
                          exact ⟨m_field HK gokm_none (f := 0) (s := 5) (by kernel_rfl) (by omega) (om_tmp V5) rfl V33,
                            m_loadn HK gokm_none (by kernel_rfl) (by kernel_rfl) (om_tmp V33) (by intro j v hj; rcases j with _ | _ | _ | _ | _ | j <;> simp at hj <;> subst hj <;> assumption) V34,
                            m_call HK gokm_none Try.func47 (by kernel_rfl) (by kernel_rfl) V35 (fun o b' wx hm hG ho => by
                              have e1 : b'.eval (.tmp 34) = .agg #[.int .i64 x1, .int .i64 x2, .int .i64 x3, .int .i64 x4, .int .i64 x5] := (om_tmp V34) o b' wx (hm _ (by simp)) ho
                              have e0 : ∀ v, b'.eval (.const v) = v := fun _ => rfl
                              rw [show (#[.tmp 34] : Array Operand).map b'.eval = #[.agg #[.int .i64 x1, .int .i64 x2, .int .i64 x3, .int .i64 x4, .int .i64 x5]] from by simp [e0, e1]]
                              exact (iFlow_is _ _ _ _ _ _).mono fun e w' h => ⟨_, h.1, by rw [h.2]; exact GrF.alloc _ _ _, by rw [v1]; rfl⟩),
                            m_not HK gokm_none (om_tmp V35) rfl V36,
                            m_move HK gokm_none (om_tmp V36) V37,
                            m_move HK (gokm_some rfl V37) (om_tmp V3) V38,
                            m_field HK (gokm_some rfl V37) (f := 0) (s := 5) (by kernel_rfl) (by omega) (om_tmp V5) rfl V39,
                            m_loadn HK (gokm_some rfl V37) (by kernel_rfl) (by kernel_rfl) (om_tmp V39) (by intro j v hj; rcases j with _ | _ | _ | _ | _ | j <;> simp at hj <;> subst hj <;> assumption) V40,
                            m_look HK (gokm_some rfl V37) hmap4 hes (show enF ⟨x1, x2, x3, x4, x5, xt, xl⟩ = true from v1) (om_tmp V38) (om_tmp V40) v2.symm V41,
                            m_pickf HK gokm_none (om_tmp V37) (om_tmp V41) V42,
                            m_move HK gokm_none (om_tmp V42) V43,
                            m_field HK (gokm_some rfl V43) (f := 5) (s := 1) (by kernel_rfl) (by omega) (om_tmp V5) rfl V44,
                            m_load1 HK (gokm_some rfl V43) (by kernel_rfl) (om_tmp V44) g5 V45,
                            m_call HK (gokm_some rfl V43) Try.func46 (by kernel_rfl) (by kernel_rfl) V46 (fun o b' wx hm hG ho => by
                              have e1 : b'.eval (.tmp 45) = .int .i64 xt := (om_tmp V45) o b' wx (hm _ (by simp)) ho
                              have e0 : ∀ v, b'.eval (.const v) = v := fun _ => rfl
                              rw [show (#[.tmp 45, .const (.int .i64 0), .const (.int .i64 30)] : Array Operand).map b'.eval = #[.int .i64 xt, .int .i64 0, .int .i64 30] from by simp [e0, e1]]
                              exact (in_any _ _ _ _).mono fun e w' h => ⟨_, h.1, by rw [← h.2]; exact GrF.refl _ _, by rw [v3]; rfl⟩),
                            m_not HK (gokm_some rfl V43) (om_tmp V46) rfl V47,
                            m_pickf HK gokm_none (om_tmp V43) (om_tmp V47) V48,
                            m_move HK gokm_none (om_tmp V48) V49,
                            m_field HK (gokm_some rfl V49) (f := 6) (s := 1) (by kernel_rfl) (by omega) (om_tmp V5) rfl V50,
                            m_load1 HK (gokm_some rfl V49) (by kernel_rfl) (om_tmp V50) g6 V51,
                            m_call HK (gokm_some rfl V49) Try.func48 (by kernel_rfl) (by kernel_rfl) V52 (fun o b' wx hm hG ho => by
                              have e1 : b'.eval (.tmp 51) = .int .i64 xl := (om_tmp V51) o b' wx (hm _ (by simp)) ho
                              have e0 : ∀ v, b'.eval (.const v) = v := fun _ => rfl
                              rw [show (#[.tmp 51] : Array Operand).map b'.eval = #[.int .i64 xl] from by simp [e0, e1]]
                              exact (isTime_any _ _).mono fun e w' h => ⟨_, h.1, by rw [← h.2]; exact GrF.refl _ _, by rw [v4]; rfl⟩),
                            m_not HK (gokm_some rfl V49) (om_tmp V52) rfl V53,
                            m_pickf HK gokm_none (om_tmp V49) (om_tmp V53) V54,
                            m_move HK gokm_none (om_tmp V54) V55,
                            m_move HK (gokm_some rfl V55) (om_tmp V4) V56,
                            m_gtr HK (gokm_some rfl V55) (om_tmp V56) om_const (decide_eq_true (by omega)).symm V57,
                            m_move HK (gokm_some rfl V55) (om_tmp V57) V58,
                            m_field HK (gokm_some rfl V58) (f := 6) (s := 1) (by kernel_rfl) (by omega) (om_tmp V5) rfl V59,
                            m_load1 HK (gokm_some rfl V58) (by kernel_rfl) (om_tmp V59) g6 V60,
                            m_field HK (gokm_some rfl V58) (f := 2) (s := 1) (by kernel_rfl) (by omega) (om_tmp V1) rfl V61,
                            m_load1 HK (gokm_some rfl V58) (by kernel_rfl) (om_tmp V61) bx V62,
                            m_move HK (gokm_some rfl V58) (om_tmp V4) V63,
                            m_sub HK (gokm_some rfl V58) (om_tmp V63) om_const rfl (by omega) V64,
                            m_index HK (gokm_some rfl V58) (s := 7) (by kernel_rfl) (by omega) (by omega) (om_tmp V62) (om_tmp V64) (by rw [show ((k : Int) - 1).toNat = k - 1 from by omega]) V65,
                            m_field HK (gokm_some rfl V58) (f := 6) (s := 1) (by kernel_rfl) (by omega) (om_tmp V65) rfl V66,
                            m_load1 HK (gokm_some rfl V58) (by kernel_rfl) (om_tmp V66) p0 V67,
                            m_lss HK (gokm_some rfl V58) (om_tmp V60) (om_tmp V67) (decide_eq_false (by omega)).symm V68,
                            m_pickt HK (gokm_some rfl V55) (om_tmp V58) (om_tmp V68) V69,
                            m_pickf HK gokm_none (om_tmp V55) (om_tmp V69) V70,
                            trivial⟩
                        intro vs w5 hw5 hk5
                        have k33 : vs 33 = .pointer (some ⟨wr.heap.size, 0, none⟩) := hk5 0 33 _ (by omega) rfl V33
                        have k34 : vs 34 = .agg #[.int .i64 x1, .int .i64 x2, .int .i64 x3, .int .i64 x4, .int .i64 x5] := hk5 1 34 _ (by omega) rfl V34
                        have k35 : vs 35 = .bool true := hk5 2 35 _ (by omega) rfl V35
                        have k36 : vs 36 = .bool false := hk5 3 36 _ (by omega) rfl V36
                        have k37 : vs 37 = .bool false := hk5 4 37 _ (by omega) rfl V37
                        have k38 : vs 38 = .map (some (w.heap.size + 1)) := hk5 5 38 _ (by omega) rfl V38
                        have k39 : vs 39 = .pointer (some ⟨wr.heap.size, 0, none⟩) := hk5 6 39 _ (by omega) rfl V39
                        have k40 : vs 40 = .agg #[.int .i64 x1, .int .i64 x2, .int .i64 x3, .int .i64 x4, .int .i64 x5] := hk5 7 40 _ (by omega) rfl V40
                        have k41 : vs 41 = .bool false := hk5 8 41 _ (by omega) rfl V41
                        have k42 : vs 42 = .bool false := hk5 9 42 _ (by omega) rfl V42
                        have k43 : vs 43 = .bool false := hk5 10 43 _ (by omega) rfl V43
                        have k44 : vs 44 = .pointer (some ⟨wr.heap.size, 0 + 5, none⟩) := hk5 11 44 _ (by omega) rfl V44
                        have k45 : vs 45 = .int .i64 (xt) := hk5 12 45 _ (by omega) rfl V45
                        have k46 : vs 46 = .bool true := hk5 13 46 _ (by omega) rfl V46
                        have k47 : vs 47 = .bool false := hk5 14 47 _ (by omega) rfl V47
                        have k48 : vs 48 = .bool false := hk5 15 48 _ (by omega) rfl V48
                        have k49 : vs 49 = .bool false := hk5 16 49 _ (by omega) rfl V49
                        have k50 : vs 50 = .pointer (some ⟨wr.heap.size, 0 + 6, none⟩) := hk5 17 50 _ (by omega) rfl V50
                        have k51 : vs 51 = .int .i64 (xl) := hk5 18 51 _ (by omega) rfl V51
                        have k52 : vs 52 = .bool true := hk5 19 52 _ (by omega) rfl V52
                        have k53 : vs 53 = .bool false := hk5 20 53 _ (by omega) rfl V53
                        have k54 : vs 54 = .bool false := hk5 21 54 _ (by omega) rfl V54
                        have k55 : vs 55 = .bool false := hk5 22 55 _ (by omega) rfl V55
                        have k56 : vs 56 = .int .i64 ((k : Int)) := hk5 23 56 _ (by omega) rfl V56
                        have k57 : vs 57 = .bool true := hk5 24 57 _ (by omega) rfl V57
                        have k58 : vs 58 = .bool true := hk5 25 58 _ (by omega) rfl V58
                        have k59 : vs 59 = .pointer (some ⟨wr.heap.size, 0 + 6, none⟩) := hk5 26 59 _ (by omega) rfl V59
                        have k60 : vs 60 = .int .i64 (xl) := hk5 27 60 _ (by omega) rfl V60
                        have k61 : vs 61 = .pointer (some ⟨w.heap.size, 0 + 2, none⟩) := hk5 28 61 _ (by omega) rfl V61
                        have k62 : vs 62 = .slice (some ⟨b, off, none⟩) (n) (c) := hk5 29 62 _ (by omega) rfl V62
                        have k63 : vs 63 = .int .i64 ((k : Int)) := hk5 30 63 _ (by omega) rfl V63
                        have k64 : vs 64 = .int .i64 (((k : Int)) - (1)) := hk5 31 64 _ (by omega) rfl V64
                        have k65 : vs 65 = .pointer (some ⟨b, off + (k - 1) * 7, none⟩) := hk5 32 65 _ (by omega) rfl V65
                        have k66 : vs 66 = .pointer (some ⟨b, off + (k - 1) * 7 + 6, none⟩) := hk5 33 66 _ (by omega) rfl V66
                        have k67 : vs 67 = .int .i64 (q0) := hk5 34 67 _ (by omega) rfl V67
                        have k68 : vs 68 = .bool false := hk5 35 68 _ (by omega) rfl V68
                        have k69 : vs 69 = .bool false := hk5 36 69 _ (by omega) rfl V69
                        have k70 : vs 70 = .bool false := hk5 37 70 _ (by omega) rfl V70
                        clear hk5 HK hL V1 V3 V4 V5 V33 V34 V35 V36 V37 V38 V39 V40 V41 V42 V43 V44 V45 V46 V47 V48 V49 V50 V51 V52 V53 V54 V55 V56 V57 V58 V59 V60 V61 V62 V63 V64 V65 V66 V67 V68 V69 V70
                        simp only [putL, Act.put, List.setIfInBounds_toArray, List.set_cons_zero, List.set_cons_succ, k33, k34, k35, k36, k37, k38, k39, k40, k41, k42, k43, k44, k45, k46, k47, k48, k49, k50, k51, k52, k53, k54, k55, k56, k57, k58, k59, k60, k61, k62, k63, k64, k65, k66, k67, k68, k69, k70]
                        clear k33 k34 k35 k36 k37 k38 k39 k40 k41 k42 k43 k44 k45 k46 k47 k48 k49 k50 k51 k52 k53 k54 k55 k56 k57 k58 k59 k60 k61 k62 k63 k64 k65 k66 k67 k68 k69 k70
                        have b5 := New.below hw5 hb4 hz4
                        have hbk5 := New.blk hw5 hbk4
                        have hmap5 : SeenM w5 (w.heap.size + 1) (es.take k) := World.ownsMap.kept hmap4 hw5.to_none (by simp)
                        have c0' := New.cell_ hw5 g0
                        have c1' := New.cell_ hw5 g1
                        have c2' := New.cell_ hw5 g2
                        have c3' := New.cell_ hw5 g3
                        have c4' := New.cell_ hw5 g4
                        obtain ⟨w6, hrun, hmap6, hg6⟩ := hmap5.store (by rw [List.length_take]; unfold maxLen; omega) (show enF ⟨x1, x2, x3, x4, x5, xt, xl⟩ = true from v1)
                        have hbk6 := hbk5.grown hg6 (by simp)
                        have b6 : Below w.heap.size w w6 := b5.grown hg6 b5.size (fun q hq => by cases hq; omega)
                        rw [← HH.out, ← HTK.out] at hmap6
                        unfold flowA at hrun
                        simp only at hrun
                        clear hmap4 hmap5 hg6 hbk4 hbk5
                        go_wp2
                        go_roundw
                        case rel => exact ⟨k + 1, by omega, by go_num, hnext.out, hmap6, hbk6, b6⟩
                        case measure => simp [intOf]; omega
                    · have hnext := Lib.hid (hr.next (by rw [HO.out, v1, v2, v3, v4, show (k == 0) = true from by simp; omega]; simp))
                      obtain ⟨L, hL⟩ : ∃ L : List (Nat × VT), L = [(1, tLit (.pointer (some ⟨w.heap.size, 0, none⟩))), (3, tLit (.map (some (w.heap.size + 1)))), (4, tLit (.int .i64 ((k : Int)))), (5, tLit (.pointer (some ⟨wr.heap.size, 0, none⟩))), (33, tLit (.pointer (some ⟨wr.heap.size, 0, none⟩))), (34, tLit (.agg #[.int .i64 x1, .int .i64 x2, .int .i64 x3, .int .i64 x4, .int .i64 x5])), (35, tLit (.bool true)), (36, tLit (.bool false)), (37, tLit (.bool false)), (38, tLit (.map (some (w.heap.size + 1)))), (39, tLit (.pointer (some ⟨wr.heap.size, 0, none⟩))), (40, tLit (.agg #[.int .i64 x1, .int .i64 x2, .int .i64 x3, .int .i64 x4, .int .i64 x5])), (41, tLit (.bool false)), (42, tLit (.bool false)), (43, tLit (.bool false)), (44, tLit (.pointer (some ⟨wr.heap.size, 0 + 5, none⟩))), (45, tLit (.int .i64 (xt))), (46, tLit (.bool true)), (47, tLit (.bool false)), (48, tLit (.bool false)), (49, tLit (.bool false)), (50, tLit (.pointer (some ⟨wr.heap.size, 0 + 6, none⟩))), (51, tLit (.int .i64 (xl))), (52, tLit (.bool true)), (53, tLit (.bool false)), (54, tLit (.bool false)), (55, tLit (.bool false)), (56, tLit (.int .i64 ((k : Int)))), (57, tLit (.bool false)), (58, tLit (.bool false)), (59, tLit (undef)), (60, tLit (undef)), (61, tLit (undef)), (62, tLit (undef)), (63, tLit (undef)), (64, tLit (undef)), (65, tLit (undef)), (66, tLit (undef)), (67, tLit (undef)), (68, tLit (undef)), (69, tLit (.bool false)), (70, tLit (.bool false))] := ⟨_, rfl⟩
                      have V1 : L.lookup 1 = some (tLit (.pointer (some ⟨w.heap.size, 0, none⟩))) := by rw [hL]; rfl
                      have V3 : L.lookup 3 = some (tLit (.map (some (w.heap.size + 1)))) := by rw [hL]; rfl
                      have V4 : L.lookup 4 = some (tLit (.int .i64 ((k : Int)))) := by rw [hL]; rfl
                      have V5 : L.lookup 5 = some (tLit (.pointer (some ⟨wr.heap.size, 0, none⟩))) := by rw [hL]; rfl
                      have V33 : L.lookup 33 = some (tLit (.pointer (some ⟨wr.heap.size, 0, none⟩))) := by rw [hL]; rfl
                      have V34 : L.lookup 34 = some (tLit (.agg #[.int .i64 x1, .int .i64 x2, .int .i64 x3, .int .i64 x4, .int .i64 x5])) := by rw [hL]; rfl
                      have V35 : L.lookup 35 = some (tLit (.bool true)) := by rw [hL]; rfl
                      have V36 : L.lookup 36 = some (tLit (.bool false)) := by rw [hL]; rfl
                      have V37 : L.lookup 37 = some (tLit (.bool false)) := by rw [hL]; rfl
                      have V38 : L.lookup 38 = some (tLit (.map (some (w.heap.size + 1)))) := by rw [hL]; rfl
                      have V39 : L.lookup 39 = some (tLit (.pointer (some ⟨wr.heap.size, 0, none⟩))) := by rw [hL]; rfl
                      have V40 : L.lookup 40 = some (tLit (.agg #[.int .i64 x1, .int .i64 x2, .int .i64 x3, .int .i64 x4, .int .i64 x5])) := by rw [hL]; rfl
                      have V41 : L.lookup 41 = some (tLit (.bool false)) := by rw [hL]; rfl
                      have V42 : L.lookup 42 = some (tLit (.bool false)) := by rw [hL]; rfl
                      have V43 : L.lookup 43 = some (tLit (.bool false)) := by rw [hL]; rfl
                      have V44 : L.lookup 44 = some (tLit (.pointer (some ⟨wr.heap.size, 0 + 5, none⟩))) := by rw [hL]; rfl
                      have V45 : L.lookup 45 = some (tLit (.int .i64 (xt))) := by rw [hL]; rfl
                      have V46 : L.lookup 46 = some (tLit (.bool true)) := by rw [hL]; rfl
                      have V47 : L.lookup 47 = some (tLit (.bool false)) := by rw [hL]; rfl
                      have V48 : L.lookup 48 = some (tLit (.bool false)) := by rw [hL]; rfl
                      have V49 : L.lookup 49 = some (tLit (.bool false)) := by rw [hL]; rfl
                      have V50 : L.lookup 50 = some (tLit (.pointer (some ⟨wr.heap.size, 0 + 6, none⟩))) := by rw [hL]; rfl
                      have V51 : L.lookup 51 = some (tLit (.int .i64 (xl))) := by rw [hL]; rfl
                      have V52 : L.lookup 52 = some (tLit (.bool true)) := by rw [hL]; rfl
                      have V53 : L.lookup 53 = some (tLit (.bool false)) := by rw [hL]; rfl
                      have V54 : L.lookup 54 = some (tLit (.bool false)) := by rw [hL]; rfl
                      have V55 : L.lookup 55 = some (tLit (.bool false)) := by rw [hL]; rfl
                      have V56 : L.lookup 56 = some (tLit (.int .i64 ((k : Int)))) := by rw [hL]; rfl
                      have V57 : L.lookup 57 = some (tLit (.bool false)) := by rw [hL]; rfl
                      have V58 : L.lookup 58 = some (tLit (.bool false)) := by rw [hL]; rfl
                      have V59 : L.lookup 59 = some (tLit (undef)) := by rw [hL]; rfl
                      have V60 : L.lookup 60 = some (tLit (undef)) := by rw [hL]; rfl
                      have V61 : L.lookup 61 = some (tLit (undef)) := by rw [hL]; rfl
                      have V62 : L.lookup 62 = some (tLit (undef)) := by rw [hL]; rfl
                      have V63 : L.lookup 63 = some (tLit (undef)) := by rw [hL]; rfl
                      have V64 : L.lookup 64 = some (tLit (undef)) := by rw [hL]; rfl
                      have V65 : L.lookup 65 = some (tLit (undef)) := by rw [hL]; rfl
                      have V66 : L.lookup 66 = some (tLit (undef)) := by rw [hL]; rfl
                      have V67 : L.lookup 67 = some (tLit (undef)) := by rw [hL]; rfl
                      have V68 : L.lookup 68 = some (tLit (undef)) := by rw [hL]; rfl
                      have V69 : L.lookup 69 = some (tLit (.bool false)) := by rw [hL]; rfl
                      have V70 : L.lookup 70 = some (tLit (.bool false)) := by rw [hL]; rfl
                      have HK : KeepL L := by rw [hL]; exact ⟨keep_lit _, keep_lit _, keep_lit _, keep_lit _, keep_lit _, keep_lit _, keep_lit _, keep_lit _, keep_lit _, keep_lit _, keep_lit _, keep_lit _, keep_lit _, keep_lit _, keep_lit _, keep_lit _, keep_lit _, keep_lit _, keep_lit _, keep_lit _, keep_lit _, keep_lit _, keep_lit _, keep_lit _, keep_lit _, keep_lit _, keep_lit _, keep_lit _, keep_lit _, keep_lit _, keep_lit _, keep_lit _, keep_lit _, keep_lit _, keep_lit _, keep_lit _, keep_lit _, keep_lit _, keep_lit _, keep_lit _, keep_lit _, keep_lit _, trivial⟩
                      refine wp_region_mix0 (by kernel_rfl) L 38 rfl [some 33, some 34, some 35, some 36, some 37, some 38, some 39, some 40, some 41, some 42, some 43, some 44, some 45, some 46, some 47, some 48, some 49, some 50, some 51, some 52, some 53, some 54, some 55, some 56, some 57, some 58, some 59, some 60, some 61, some 62, some 63, some 64, some 65, some 66, some 67, some 68, some 69, some 70] (by kernel_rfl) (by kernel_rfl) (by kernel_rfl) 4 (by rw [hL]; intro x hx; simp only [List.take_succ_cons, List.take_zero, List.mem_cons, List.not_mem_nil, or_false] at hx; rcases hx with rfl | rfl | rfl | rfl <;> rfl) (by rw [hL]; rfl) ?_ ?_
                      · clear hL
                        exact ⟨m_field HK gokm_none (f := 0) (s := 5) (by kernel_rfl) (by omega) (om_tmp V5) rfl V33,
                          m_loadn HK gokm_none (by kernel_rfl) (by kernel_rfl) (om_tmp V33) (by intro j v hj; rcases j with _ | _ | _ | _ | _ | j <;> simp at hj <;> subst hj <;> assumption) V34,
                          m_call HK gokm_none Try.func47 (by kernel_rfl) (by kernel_rfl) V35 (fun o b' wx hm hG ho => by
                            have e1 : b'.eval (.tmp 34) = .agg #[.int .i64 x1, .int .i64 x2, .int .i64 x3, .int .i64 x4, .int .i64 x5] := (om_tmp V34) o b' wx (hm _ (by simp)) ho
                            have e0 : ∀ v, b'.eval (.const v) = v := fun _ => rfl
                            rw [show (#[.tmp 34] : Array Operand).map b'.eval = #[.agg #[.int .i64 x1, .int .i64 x2, .int .i64 x3, .int .i64 x4, .int .i64 x5]] from by simp [e0, e1]]
                            exact (iFlow_is _ _ _ _ _ _).mono fun e w' h => ⟨_, h.1, by rw [h.2]; exact GrF.alloc _ _ _, by rw [v1]; rfl⟩),
                          m_not HK gokm_none (om_tmp V35) rfl V36,
                          m_move HK gokm_none (om_tmp V36) V37,
                          m_move HK (gokm_some rfl V37) (om_tmp V3) V38,
                          m_field HK (gokm_some rfl V37) (f := 0) (s := 5) (by kernel_rfl) (by omega) (om_tmp V5) rfl V39,
                          m_loadn HK (gokm_some rfl V37) (by kernel_rfl) (by kernel_rfl) (om_tmp V39) (by intro j v hj; rcases j with _ | _ | _ | _ | _ | j <;> simp at hj <;> subst hj <;> assumption) V40,
                          m_look HK (gokm_some rfl V37) hmap4 hes (show enF ⟨x1, x2, x3, x4, x5, xt, xl⟩ = true from v1) (om_tmp V38) (om_tmp V40) v2.symm V41,
                          m_pickf HK gokm_none (om_tmp V37) (om_tmp V41) V42,
                          m_move HK gokm_none (om_tmp V42) V43,
                          m_field HK (gokm_some rfl V43) (f := 5) (s := 1) (by kernel_rfl) (by omega) (om_tmp V5) rfl V44,
                          m_load1 HK (gokm_some rfl V43) (by kernel_rfl) (om_tmp V44) g5 V45,
                          m_call HK (gokm_some rfl V43) Try.func46 (by kernel_rfl) (by kernel_rfl) V46 (fun o b' wx hm hG ho => by
                            have e1 : b'.eval (.tmp 45) = .int .i64 xt := (om_tmp V45) o b' wx (hm _ (by simp)) ho
                            have e0 : ∀ v, b'.eval (.const v) = v := fun _ => rfl
                            rw [show (#[.tmp 45, .const (.int .i64 0), .const (.int .i64 30)] : Array Operand).map b'.eval = #[.int .i64 xt, .int .i64 0, .int .i64 30] from by simp [e0, e1]]
                            exact (in_any _ _ _ _).mono fun e w' h => ⟨_, h.1, by rw [← h.2]; exact GrF.refl _ _, by rw [v3]; rfl⟩),
                          m_not HK (gokm_some rfl V43) (om_tmp V46) rfl V47,
                          m_pickf HK gokm_none (om_tmp V43) (om_tmp V47) V48,
                          m_move HK gokm_none (om_tmp V48) V49,
                          m_field HK (gokm_some rfl V49) (f := 6) (s := 1) (by kernel_rfl) (by omega) (om_tmp V5) rfl V50,
                          m_load1 HK (gokm_some rfl V49) (by kernel_rfl) (om_tmp V50) g6 V51,
                          m_call HK (gokm_some rfl V49) Try.func48 (by kernel_rfl) (by kernel_rfl) V52 (fun o b' wx hm hG ho => by
                            have e1 : b'.eval (.tmp 51) = .int .i64 xl := (om_tmp V51) o b' wx (hm _ (by simp)) ho
                            have e0 : ∀ v, b'.eval (.const v) = v := fun _ => rfl
                            rw [show (#[.tmp 51] : Array Operand).map b'.eval = #[.int .i64 xl] from by simp [e0, e1]]
                            exact (isTime_any _ _).mono fun e w' h => ⟨_, h.1, by rw [← h.2]; exact GrF.refl _ _, by rw [v4]; rfl⟩),
                          m_not HK (gokm_some rfl V49) (om_tmp V52) rfl V53,
                          m_pickf HK gokm_none (om_tmp V49) (om_tmp V53) V54,
                          m_move HK gokm_none (om_tmp V54) V55,
                          m_move HK (gokm_some rfl V55) (om_tmp V4) V56,
                          m_gtr HK (gokm_some rfl V55) (om_tmp V56) om_const (decide_eq_false (by omega)).symm V57,
                          m_move HK (gokm_some rfl V55) (om_tmp V57) V58,
                          m_skip HK rfl rfl V58 (by intro e; cases e) (fun d h => by cases h; exact V59),
                          m_skip HK rfl rfl V58 (by intro e; cases e) (fun d h => by cases h; exact V60),
                          m_skip HK rfl rfl V58 (by intro e; cases e) (fun d h => by cases h; exact V61),
                          m_skip HK rfl rfl V58 (by intro e; cases e) (fun d h => by cases h; exact V62),
                          m_skip HK rfl rfl V58 (by intro e; cases e) (fun d h => by cases h; exact V63),
                          m_skip HK rfl rfl V58 (by intro e; cases e) (fun d h => by cases h; exact V64),
                          m_skip HK rfl rfl V58 (by intro e; cases e) (fun d h => by cases h; exact V65),
                          m_skip HK rfl rfl V58 (by intro e; cases e) (fun d h => by cases h; exact V66),
                          m_skip HK rfl rfl V58 (by intro e; cases e) (fun d h => by cases h; exact V67),
                          m_skip HK rfl rfl V58 (by intro e; cases e) (fun d h => by cases h; exact V68),
                          m_pickf HK (gokm_some rfl V55) (om_tmp V58) om_const V69,
                          m_pickf HK gokm_none (om_tmp V55) (om_tmp V69) V70,
                          trivial⟩
                      intro vs w5 hw5 hk5
                      have k33 : vs 33 = .pointer (some ⟨wr.heap.size, 0, none⟩) := hk5 0 33 _ (by omega) rfl V33
                      have k34 : vs 34 = .agg #[.int .i64 x1, .int .i64 x2, .int .i64 x3, .int .i64 x4, .int .i64 x5] := hk5 1 34 _ (by omega) rfl V34
                      have k35 : vs 35 = .bool true := hk5 2 35 _ (by omega) rfl V35
                      have k36 : vs 36 = .bool false := hk5 3 36 _ (by omega) rfl V36
                      have k37 : vs 37 = .bool false := hk5 4 37 _ (by omega) rfl V37
                      have k38 : vs 38 = .map (some (w.heap.size + 1)) := hk5 5 38 _ (by omega) rfl V38
                      have k39 : vs 39 = .pointer (some ⟨wr.heap.size, 0, none⟩) := hk5 6 39 _ (by omega) rfl V39
                      have k40 : vs 40 = .agg #[.int .i64 x1, .int .i64 x2, .int .i64 x3, .int .i64 x4, .int .i64 x5] := hk5 7 40 _ (by omega) rfl V40
                      have k41 : vs 41 = .bool false := hk5 8 41 _ (by omega) rfl V41
                      have k42 : vs 42 = .bool false := hk5 9 42 _ (by omega) rfl V42
                      have k43 : vs 43 = .bool false := hk5 10 43 _ (by omega) rfl V43
                      have k44 : vs 44 = .pointer (some ⟨wr.heap.size, 0 + 5, none⟩) := hk5 11 44 _ (by omega) rfl V44
                      have k45 : vs 45 = .int .i64 (xt) := hk5 12 45 _ (by omega) rfl V45
                      have k46 : vs 46 = .bool true := hk5 13 46 _ (by omega) rfl V46
                      have k47 : vs 47 = .bool false := hk5 14 47 _ (by omega) rfl V47
                      have k48 : vs 48 = .bool false := hk5 15 48 _ (by omega) rfl V48
                      have k49 : vs 49 = .bool false := hk5 16 49 _ (by omega) rfl V49
                      have k50 : vs 50 = .pointer (some ⟨wr.heap.size, 0 + 6, none⟩) := hk5 17 50 _ (by omega) rfl V50
                      have k51 : vs 51 = .int .i64 (xl) := hk5 18 51 _ (by omega) rfl V51
                      have k52 : vs 52 = .bool true := hk5 19 52 _ (by omega) rfl V52
                      have k53 : vs 53 = .bool false := hk5 20 53 _ (by omega) rfl V53
                      have k54 : vs 54 = .bool false := hk5 21 54 _ (by omega) rfl V54
                      have k55 : vs 55 = .bool false := hk5 22 55 _ (by omega) rfl V55
                      have k56 : vs 56 = .int .i64 ((k : Int)) := hk5 23 56 _ (by omega) rfl V56
                      have k57 : vs 57 = .bool false := hk5 24 57 _ (by omega) rfl V57
                      have k58 : vs 58 = .bool false := hk5 25 58 _ (by omega) rfl V58
                      have k59 : vs 59 = undef := hk5 26 59 _ (by omega) rfl V59
                      have k60 : vs 60 = undef := hk5 27 60 _ (by omega) rfl V60
                      have k61 : vs 61 = undef := hk5 28 61 _ (by omega) rfl V61
                      have k62 : vs 62 = undef := hk5 29 62 _ (by omega) rfl V62
                      have k63 : vs 63 = undef := hk5 30 63 _ (by omega) rfl V63
                      have k64 : vs 64 = undef := hk5 31 64 _ (by omega) rfl V64
                      have k65 : vs 65 = undef := hk5 32 65 _ (by omega) rfl V65
                      have k66 : vs 66 = undef := hk5 33 66 _ (by omega) rfl V66
                      have k67 : vs 67 = undef := hk5 34 67 _ (by omega) rfl V67
                      have k68 : vs 68 = undef := hk5 35 68 _ (by omega) rfl V68
                      have k69 : vs 69 = .bool false := hk5 36 69 _ (by omega) rfl V69
                      have k70 : vs 70 = .bool false := hk5 37 70 _ (by omega) rfl V70
                      clear hk5 HK hL V1 V3 V4 V5 V33 V34 V35 V36 V37 V38 V39 V40 V41 V42 V43 V44 V45 V46 V47 V48 V49 V50 V51 V52 V53 V54 V55 V56 V57 V58 V59 V60 V61 V62 V63 V64 V65 V66 V67 V68 V69 V70
                      simp only [putL, Act.put, List.setIfInBounds_toArray, List.set_cons_zero, List.set_cons_succ, k33, k34, k35, k36, k37, k38, k39, k40, k41, k42, k43, k44, k45, k46, k47, k48, k49, k50, k51, k52, k53, k54, k55, k56, k57, k58, k59, k60, k61, k62, k63, k64, k65, k66, k67, k68, k69, k70]
                      clear k33 k34 k35 k36 k37 k38 k39 k40 k41 k42 k43 k44 k45 k46 k47 k48 k49 k50 k51 k52 k53 k54 k55 k56 k57 k58 k59 k60 k61 k62 k63 k64 k65 k66 k67 k68 k69 k70
                      have b5 := New.below hw5 hb4 hz4
                      have hbk5 := New.blk hw5 hbk4
                      have hmap5 : SeenM w5 (w.heap.size + 1) (es.take k) := World.ownsMap.kept hmap4 hw5.to_none (by simp)
                      have c0' := New.cell_ hw5 g0
                      have c1' := New.cell_ hw5 g1
                      have c2' := New.cell_ hw5 g2
                      have c3' := New.cell_ hw5 g3
                      have c4' := New.cell_ hw5 g4
                      obtain ⟨w6, hrun, hmap6, hg6⟩ := hmap5.store (by rw [List.length_take]; unfold maxLen; omega) (show enF ⟨x1, x2, x3, x4, x5, xt, xl⟩ = true from v1)
                      have hbk6 := hbk5.grown hg6 (by simp)
                      have b6 : Below w.heap.size w w6 := b5.grown hg6 b5.size (fun q hq => by cases hq; omega)
                      rw [← HH.out, ← HTK.out] at hmap6
                      unfold flowA at hrun
                      simp only at hrun
                      clear hmap4 hmap5 hg6 hbk4 hbk5
                      go_wp2
                      go_roundw
                      case rel => exact ⟨k + 1, by omega, by go_num, hnext.out, hmap6, hbk6, b6⟩
                      case measure => simp [intOf]; omega
                  · have v4 := Bool.eq_false_iff.2 v4
                    have HE := Lib.hid (tab_bad (sz := sz) (st := st) hlk (by rw [HO.out, v4]; simp))
                    obtain ⟨L, hL⟩ : ∃ L : List (Nat × VT), L = [(1, tLit (.pointer (some ⟨w.heap.size, 0, none⟩))), (3, tLit (.map (some (w.heap.size + 1)))), (4, tLit (.int .i64 ((k : Int)))), (5, tLit (.pointer (some ⟨wr.heap.size, 0, none⟩))), (33, tLit (.pointer (some ⟨wr.heap.size, 0, none⟩))), (34, tLit (.agg #[.int .i64 x1, .int .i64 x2, .int .i64 x3, .int .i64 x4, .int .i64 x5])), (35, tLit (.bool true)), (36, tLit (.bool false)), (37, tLit (.bool false)), (38, tLit (.map (some (w.heap.size + 1)))), (39, tLit (.pointer (some ⟨wr.heap.size, 0, none⟩))), (40, tLit (.agg #[.int .i64 x1, .int .i64 x2, .int .i64 x3, .int .i64 x4, .int .i64 x5])), (41, tLit (.bool false)), (42, tLit (.bool false)), (43, tLit (.bool false)), (44, tLit (.pointer (some ⟨wr.heap.size, 0 + 5, none⟩))), (45, tLit (.int .i64 (xt))), (46, tLit (.bool true)), (47, tLit (.bool false)), (48, tLit (.bool false)), (49, tLit (.bool false)), (50, tLit (.pointer (some ⟨wr.heap.size, 0 + 6, none⟩))), (51, tLit (.int .i64 (xl))), (52, tLit (.bool false)), (53, tLit (.bool true)), (54, tLit (.bool true)), (55, tLit (.bool true)), (56, tLit (undef)), (57, tLit (undef)), (58, tLit (undef)), (59, tLit (undef)), (60, tLit (undef)), (61, tLit (undef)), (62, tLit (undef)), (63, tLit (undef)), (64, tLit (undef)), (65, tLit (undef)), (66, tLit (undef)), (67, tLit (undef)), (68, tLit (undef)), (69, tLit (undef)), (70, tLit (.bool true))] := ⟨_, rfl⟩
                    have V1 : L.lookup 1 = some (tLit (.pointer (some ⟨w.heap.size, 0, none⟩))) := by rw [hL]; rfl
                    have V3 : L.lookup 3 = some (tLit (.map (some (w.heap.size + 1)))) := by rw [hL]; rfl
                    have V4 : L.lookup 4 = some (tLit (.int .i64 ((k : Int)))) := by rw [hL]; rfl
                    have V5 : L.lookup 5 = some (tLit (.pointer (some ⟨wr.heap.size, 0, none⟩))) := by rw [hL]; rfl
                    have V33 : L.lookup 33 = some (tLit (.pointer (some ⟨wr.heap.size, 0, none⟩))) := by rw [hL]; rfl
                    have V34 : L.lookup 34 = some (tLit (.agg #[.int .i64 x1, .int .i64 x2, .int .i64 x3, .int .i64 x4, .int .i64 x5])) := by rw [hL]; rfl
                    have V35 : L.lookup 35 = some (tLit (.bool true)) := by rw [hL]; rfl
                    have V36 : L.lookup 36 = some (tLit (.bool false)) := by rw [hL]; rfl
                    have V37 : L.lookup 37 = some (tLit (.bool false)) := by rw [hL]; rfl
                    have V38 : L.lookup 38 = some (tLit (.map (some (w.heap.size + 1)))) := by rw [hL]; rfl
                    have V39 : L.lookup 39 = some (tLit (.pointer (some ⟨wr.heap.size, 0, none⟩))) := by rw [hL]; rfl
                    have V40 : L.lookup 40 = some (tLit (.agg #[.int .i64 x1, .int .i64 x2, .int .i64 x3, .int .i64 x4, .int .i64 x5])) := by rw [hL]; rfl
                    have V41 : L.lookup 41 = some (tLit (.bool false)) := by rw [hL]; rfl
                    have V42 : L.lookup 42 = some (tLit (.bool false)) := by rw [hL]; rfl
                    have V43 : L.lookup 43 = some (tLit (.bool false)) := by rw [hL]; rfl
                    have V44 : L.lookup 44 = some (tLit (.pointer (some ⟨wr.heap.size, 0 + 5, none⟩))) := by rw [hL]; rfl
                    have V45 : L.lookup 45 = some (tLit (.int .i64 (xt))) := by rw [hL]; rfl
                    have V46 : L.lookup 46 = some (tLit (.bool true)) := by rw [hL]; rfl
                    have V47 : L.lookup 47 = some (tLit (.bool false)) := by rw [hL]; rfl
                    have V48 : L.lookup 48 = some (tLit (.bool false)) := by rw [hL]; rfl
                    have V49 : L.lookup 49 = some (tLit (.bool false)) := by rw [hL]; rfl
                    have V50 : L.lookup 50 = some (tLit (.pointer (some ⟨wr.heap.size, 0 + 6, none⟩))) := by rw [hL]; rfl
                    have V51 : L.lookup 51 = some (tLit (.int .i64 (xl))) := by rw [hL]; rfl
                    have V52 : L.lookup 52 = some (tLit (.bool false)) := by rw [hL]; rfl
                    have V53 : L.lookup 53 = some (tLit (.bool true)) := by rw [hL]; rfl
                    have V54 : L.lookup 54 = some (tLit (.bool true)) := by rw [hL]; rfl
                    have V55 : L.lookup 55 = some (tLit (.bool true)) := by rw [hL]; rfl
                    have V56 : L.lookup 56 = some (tLit (undef)) := by rw [hL]; rfl
                    have V57 : L.lookup 57 = some (tLit (undef)) := by rw [hL]; rfl
                    have V58 : L.lookup 58 = some (tLit (undef)) := by rw [hL]; rfl
                    have V59 : L.lookup 59 = some (tLit (undef)) := by rw [hL]; rfl
                    have V60 : L.lookup 60 = some (tLit (undef)) := by rw [hL]; rfl
                    have V61 : L.lookup 61 = some (tLit (undef)) := by rw [hL]; rfl
                    have V62 : L.lookup 62 = some (tLit (undef)) := by rw [hL]; rfl
                    have V63 : L.lookup 63 = some (tLit (undef)) := by rw [hL]; rfl
                    have V64 : L.lookup 64 = some (tLit (undef)) := by rw [hL]; rfl
                    have V65 : L.lookup 65 = some (tLit (undef)) := by rw [hL]; rfl
                    have V66 : L.lookup 66 = some (tLit (undef)) := by rw [hL]; rfl
                    have V67 : L.lookup 67 = some (tLit (undef)) := by rw [hL]; rfl
                    have V68 : L.lookup 68 = some (tLit (undef)) := by rw [hL]; rfl
                    have V69 : L.lookup 69 = some (tLit (undef)) := by rw [hL]; rfl
                    have V70 : L.lookup 70 = some (tLit (.bool true)) := by rw [hL]; rfl
                    have HK : KeepL L := by rw [hL]; exact ⟨keep_lit _, keep_lit _, keep_lit _, keep_lit _, keep_lit _, keep_lit _, keep_lit _, keep_lit _, keep_lit _, keep_lit _, keep_lit _, keep_lit _, keep_lit _, keep_lit _, keep_lit _, keep_lit _, keep_lit _, keep_lit _, keep_lit _, keep_lit _, keep_lit _, keep_lit _, keep_lit _, keep_lit _, keep_lit _, keep_lit _, keep_lit _, keep_lit _, keep_lit _, keep_lit _, keep_lit _, keep_lit _, keep_lit _, keep_lit _, keep_lit _, keep_lit _, keep_lit _, keep_lit _, keep_lit _, keep_lit _, keep_lit _, keep_lit _, trivial⟩
                    refine wp_region_mix0 (by kernel_rfl) L 38 rfl [some 33, some 34, some 35, some 36, some 37, some 38, some 39, some 40, some 41, some 42, some 43, some 44, some 45, some 46, some 47, some 48, some 49, some 50, some 51, some 52, some 53, some 54, some 55, some 56, some 57, some 58, some 59, some 60, some 61, some 62, some 63, some 64, some 65, some 66, some 67, some 68, some 69, some 70] (by kernel_rfl) (by kernel_rfl) (by kernel_rfl) 4 (by rw [hL]; intro x hx; simp only [List.take_succ_cons, List.take_zero, List.mem_cons, List.not_mem_nil, or_false] at hx; rcases hx with rfl | rfl | rfl | rfl <;> rfl) (by rw [hL]; rfl) ?_ ?_
                    · clear hL
                      exact ⟨m_field HK gokm_none (f := 0) (s := 5) (by kernel_rfl) (by omega) (om_tmp V5) rfl V33,
                        m_loadn HK gokm_none (by kernel_rfl) (by kernel_rfl) (om_tmp V33) (by intro j v hj; rcases j with _ | _ | _ | _ | _ | j <;> simp at hj <;> subst hj <;> assumption) V34,
                        m_call HK gokm_none Try.func47 (by kernel_rfl) (by kernel_rfl) V35 (fun o b' wx hm hG ho => by
                          have e1 : b'.eval (.tmp 34) = .agg #[.int .i64 x1, .int .i64 x2, .int .i64 x3, .int .i64 x4, .int .i64 x5] := (om_tmp V34) o b' wx (hm _ (by simp)) ho
                          have e0 : ∀ v, b'.eval (.const v) = v := fun _ => rfl
                          rw [show (#[.tmp 34] : Array Operand).map b'.eval = #[.agg #[.int .i64 x1, .int .i64 x2, .int .i64 x3, .int .i64 x4, .int .i64 x5]] from by simp [e0, e1]]
                          exact (iFlow_is _ _ _ _ _ _).mono fun e w' h => ⟨_, h.1, by rw [h.2]; exact GrF.alloc _ _ _, by rw [v1]; rfl⟩),
                        m_not HK gokm_none (om_tmp V35) rfl V36,
                        m_move HK gokm_none (om_tmp V36) V37,
                        m_move HK (gokm_some rfl V37) (om_tmp V3) V38,
                        m_field HK (gokm_some rfl V37) (f := 0) (s := 5) (by kernel_rfl) (by omega) (om_tmp V5) rfl V39,
                        m_loadn HK (gokm_some rfl V37) (by kernel_rfl) (by kernel_rfl) (om_tmp V39) (by intro j v hj; rcases j with _ | _ | _ | _ | _ | j <;> simp at hj <;> subst hj <;> assumption) V40,
                        m_look HK (gokm_some rfl V37) hmap4 hes (show enF ⟨x1, x2, x3, x4, x5, xt, xl⟩ = true from v1) (om_tmp V38) (om_tmp V40) v2.symm V41,
                        m_pickf HK gokm_none (om_tmp V37) (om_tmp V41) V42,
                        m_move HK gokm_none (om_tmp V42) V43,
                        m_field HK (gokm_some rfl V43) (f := 5) (s := 1) (by kernel_rfl) (by omega) (om_tmp V5) rfl V44,
                        m_load1 HK (gokm_some rfl V43) (by kernel_rfl) (om_tmp V44) g5 V45,
                        m_call HK (gokm_some rfl V43) Try.func46 (by kernel_rfl) (by kernel_rfl) V46 (fun o b' wx hm hG ho => by
                          have e1 : b'.eval (.tmp 45) = .int .i64 xt := (om_tmp V45) o b' wx (hm _ (by simp)) ho
                          have e0 : ∀ v, b'.eval (.const v) = v := fun _ => rfl
                          rw [show (#[.tmp 45, .const (.int .i64 0), .const (.int .i64 30)] : Array Operand).map b'.eval = #[.int .i64 xt, .int .i64 0, .int .i64 30] from by simp [e0, e1]]
                          exact (in_any _ _ _ _).mono fun e w' h => ⟨_, h.1, by rw [← h.2]; exact GrF.refl _ _, by rw [v3]; rfl⟩),
                        m_not HK (gokm_some rfl V43) (om_tmp V46) rfl V47,
                        m_pickf HK gokm_none (om_tmp V43) (om_tmp V47) V48,
                        m_move HK gokm_none (om_tmp V48) V49,
                        m_field HK (gokm_some rfl V49) (f := 6) (s := 1) (by kernel_rfl) (by omega) (om_tmp V5) rfl V50,
                        m_load1 HK (gokm_some rfl V49) (by kernel_rfl) (om_tmp V50) g6 V51,
                        m_call HK (gokm_some rfl V49) Try.func48 (by kernel_rfl) (by kernel_rfl) V52 (fun o b' wx hm hG ho => by
                          have e1 : b'.eval (.tmp 51) = .int .i64 xl := (om_tmp V51) o b' wx (hm _ (by simp)) ho
                          have e0 : ∀ v, b'.eval (.const v) = v := fun _ => rfl
                          rw [show (#[.tmp 51] : Array Operand).map b'.eval = #[.int .i64 xl] from by simp [e0, e1]]
                          exact (isTime_any _ _).mono fun e w' h => ⟨_, h.1, by rw [← h.2]; exact GrF.refl _ _, by rw [v4]; rfl⟩),
                        m_not HK (gokm_some rfl V49) (om_tmp V52) rfl V53,
                        m_pickf HK gokm_none (om_tmp V49) (om_tmp V53) V54,
                        m_move HK gokm_none (om_tmp V54) V55,
                        m_skip HK rfl rfl V55 (by intro e; cases e) (fun d h => by cases h; exact V56),
                        m_skip HK rfl rfl V55 (by intro e; cases e) (fun d h => by cases h; exact V57),
                        m_skip HK rfl rfl V55 (by intro e; cases e) (fun d h => by cases h; exact V58),
                        m_skip HK rfl rfl V58 (by intro e; cases e) (fun d h => by cases h; exact V59),
                        m_skip HK rfl rfl V58 (by intro e; cases e) (fun d h => by cases h; exact V60),
                        m_skip HK rfl rfl V58 (by intro e; cases e) (fun d h => by cases h; exact V61),
                        m_skip HK rfl rfl V58 (by intro e; cases e) (fun d h => by cases h; exact V62),
                        m_skip HK rfl rfl V58 (by intro e; cases e) (fun d h => by cases h; exact V63),
                        m_skip HK rfl rfl V58 (by intro e; cases e) (fun d h => by cases h; exact V64),
                        m_skip HK rfl rfl V58 (by intro e; cases e) (fun d h => by cases h; exact V65),
                        m_skip HK rfl rfl V58 (by intro e; cases e) (fun d h => by cases h; exact V66),
                        m_skip HK rfl rfl V58 (by intro e; cases e) (fun d h => by cases h; exact V67),
                        m_skip HK rfl rfl V58 (by intro e; cases e) (fun d h => by cases h; exact V68),
                        m_skip HK rfl rfl V55 (by intro e; cases e) (fun d h => by cases h; exact V69),
                        m_pickt HK gokm_none (om_tmp V55) om_const V70,
                        trivial⟩
                    intro vs w5 hw5 hk5
                    have k33 : vs 33 = .pointer (some ⟨wr.heap.size, 0, none⟩) := hk5 0 33 _ (by omega) rfl V33
                    have k34 : vs 34 = .agg #[.int .i64 x1, .int .i64 x2, .int .i64 x3, .int .i64 x4, .int .i64 x5] := hk5 1 34 _ (by omega) rfl V34
                    have k35 : vs 35 = .bool true := hk5 2 35 _ (by omega) rfl V35
                    have k36 : vs 36 = .bool false := hk5 3 36 _ (by omega) rfl V36
                    have k37 : vs 37 = .bool false := hk5 4 37 _ (by omega) rfl V37
                    have k38 : vs 38 = .map (some (w.heap.size + 1)) := hk5 5 38 _ (by omega) rfl V38
                    have k39 : vs 39 = .pointer (some ⟨wr.heap.size, 0, none⟩) := hk5 6 39 _ (by omega) rfl V39
                    have k40 : vs 40 = .agg #[.int .i64 x1, .int .i64 x2, .int .i64 x3, .int .i64 x4, .int .i64 x5] := hk5 7 40 _ (by omega) rfl V40
                    have k41 : vs 41 = .bool false := hk5 8 41 _ (by omega) rfl V41
                    have k42 : vs 42 = .bool false := hk5 9 42 _ (by omega) rfl V42
                    have k43 : vs 43 = .bool false := hk5 10 43 _ (by omega) rfl V43
                    have k44 : vs 44 = .pointer (some ⟨wr.heap.size, 0 + 5, none⟩) := hk5 11 44 _ (by omega) rfl V44
                    have k45 : vs 45 = .int .i64 (xt) := hk5 12 45 _ (by omega) rfl V45
                    have k46 : vs 46 = .bool true := hk5 13 46 _ (by omega) rfl V46
                    have k47 : vs 47 = .bool false := hk5 14 47 _ (by omega) rfl V47
                    have k48 : vs 48 = .bool false := hk5 15 48 _ (by omega) rfl V48
                    have k49 : vs 49 = .bool false := hk5 16 49 _ (by omega) rfl V49
                    have k50 : vs 50 = .pointer (some ⟨wr.heap.size, 0 + 6, none⟩) := hk5 17 50 _ (by omega) rfl V50
                    have k51 : vs 51 = .int .i64 (xl) := hk5 18 51 _ (by omega) rfl V51
                    have k52 : vs 52 = .bool false := hk5 19 52 _ (by omega) rfl V52
                    have k53 : vs 53 = .bool true := hk5 20 53 _ (by omega) rfl V53
                    have k54 : vs 54 = .bool true := hk5 21 54 _ (by omega) rfl V54
                    have k55 : vs 55 = .bool true := hk5 22 55 _ (by omega) rfl V55
                    have k56 : vs 56 = undef := hk5 23 56 _ (by omega) rfl V56
                    have k57 : vs 57 = undef := hk5 24 57 _ (by omega) rfl V57
                    have k58 : vs 58 = undef := hk5 25 58 _ (by omega) rfl V58
                    have k59 : vs 59 = undef := hk5 26 59 _ (by omega) rfl V59
                    have k60 : vs 60 = undef := hk5 27 60 _ (by omega) rfl V60
                    have k61 : vs 61 = undef := hk5 28 61 _ (by omega) rfl V61
                    have k62 : vs 62 = undef := hk5 29 62 _ (by omega) rfl V62
                    have k63 : vs 63 = undef := hk5 30 63 _ (by omega) rfl V63
                    have k64 : vs 64 = undef := hk5 31 64 _ (by omega) rfl V64
                    have k65 : vs 65 = undef := hk5 32 65 _ (by omega) rfl V65
                    have k66 : vs 66 = undef := hk5 33 66 _ (by omega) rfl V66
                    have k67 : vs 67 = undef := hk5 34 67 _ (by omega) rfl V67
                    have k68 : vs 68 = undef := hk5 35 68 _ (by omega) rfl V68
                    have k69 : vs 69 = undef := hk5 36 69 _ (by omega) rfl V69
                    have k70 : vs 70 = .bool true := hk5 37 70 _ (by omega) rfl V70
                    clear hk5 HK hL V1 V3 V4 V5 V33 V34 V35 V36 V37 V38 V39 V40 V41 V42 V43 V44 V45 V46 V47 V48 V49 V50 V51 V52 V53 V54 V55 V56 V57 V58 V59 V60 V61 V62 V63 V64 V65 V66 V67 V68 V69 V70
                    simp only [putL, Act.put, List.setIfInBounds_toArray, List.set_cons_zero, List.set_cons_succ, k33, k34, k35, k36, k37, k38, k39, k40, k41, k42, k43, k44, k45, k46, k47, k48, k49, k50, k51, k52, k53, k54, k55, k56, k57, k58, k59, k60, k61, k62, k63, k64, k65, k66, k67, k68, k69, k70]
                    clear k33 k34 k35 k36 k37 k38 k39 k40 k41 k42 k43 k44 k45 k46 k47 k48 k49 k50 k51 k52 k53 k54 k55 k56 k57 k58 k59 k60 k61 k62 k63 k64 k65 k66 k67 k68 k69 k70
                    have b5 := New.below hw5 hb4 hz4
                    clear hmap4
                    go_wp2
                    go_ret
                    exact ⟨ret_bool HE.out.symm, b5⟩
                · have v3 := Bool.eq_false_iff.2 v3
                  have HE := Lib.hid (tab_bad (sz := sz) (st := st) hlk (by rw [HO.out, v3]; simp))
                  obtain ⟨L, hL⟩ : ∃ L : List (Nat × VT), L = [(1, tLit (.pointer (some ⟨w.heap.size, 0, none⟩))), (3, tLit (.map (some (w.heap.size + 1)))), (4, tLit (.int .i64 ((k : Int)))), (5, tLit (.pointer (some ⟨wr.heap.size, 0, none⟩))), (33, tLit (.pointer (some ⟨wr.heap.size, 0, none⟩))), (34, tLit (.agg #[.int .i64 x1, .int .i64 x2, .int .i64 x3, .int .i64 x4, .int .i64 x5])), (35, tLit (.bool true)), (36, tLit (.bool false)), (37, tLit (.bool false)), (38, tLit (.map (some (w.heap.size + 1)))), (39, tLit (.pointer (some ⟨wr.heap.size, 0, none⟩))), (40, tLit (.agg #[.int .i64 x1, .int .i64 x2, .int .i64 x3, .int .i64 x4, .int .i64 x5])), (41, tLit (.bool false)), (42, tLit (.bool false)), (43, tLit (.bool false)), (44, tLit (.pointer (some ⟨wr.heap.size, 0 + 5, none⟩))), (45, tLit (.int .i64 (xt))), (46, tLit (.bool false)), (47, tLit (.bool true)), (48, tLit (.bool true)), (49, tLit (.bool true)), (50, tLit (undef)), (51, tLit (undef)), (52, tLit (undef)), (53, tLit (undef)), (54, tLit (.bool true)), (55, tLit (.bool true)), (56, tLit (undef)), (57, tLit (undef)), (58, tLit (undef)), (59, tLit (undef)), (60, tLit (undef)), (61, tLit (undef)), (62, tLit (undef)), (63, tLit (undef)), (64, tLit (undef)), (65, tLit (undef)), (66, tLit (undef)), (67, tLit (undef)), (68, tLit (undef)), (69, tLit (undef)), (70, tLit (.bool true))] := ⟨_, rfl⟩
                  have V1 : L.lookup 1 = some (tLit (.pointer (some ⟨w.heap.size, 0, none⟩))) := by rw [hL]; rfl
                  have V3 : L.lookup 3 = some (tLit (.map (some (w.heap.size + 1)))) := by rw [hL]; rfl
                  have V4 : L.lookup 4 = some (tLit (.int .i64 ((k : Int)))) := by rw [hL]; rfl
                  have V5 : L.lookup 5 = some (tLit (.pointer (some ⟨wr.heap.size, 0, none⟩))) := by rw [hL]; rfl
                  have V33 : L.lookup 33 = some (tLit (.pointer (some ⟨wr.heap.size, 0, none⟩))) := by rw [hL]; rfl
                  have V34 : L.lookup 34 = some (tLit (.agg #[.int .i64 x1, .int .i64 x2, .int .i64 x3, .int .i64 x4, .int .i64 x5])) := by rw [hL]; rfl
                  have V35 : L.lookup 35 = some (tLit (.bool true)) := by rw [hL]; rfl
                  have V36 : L.lookup 36 = some (tLit (.bool false)) := by rw [hL]; rfl
                  have V37 : L.lookup 37 = some (tLit (.bool false)) := by rw [hL]; rfl
                  have V38 : L.lookup 38 = some (tLit (.map (some (w.heap.size + 1)))) := by rw [hL]; rfl
                  have V39 : L.lookup 39 = some (tLit (.pointer (some ⟨wr.heap.size, 0, none⟩))) := by rw [hL]; rfl
                  have V40 : L.lookup 40 = some (tLit (.agg #[.int .i64 x1, .int .i64 x2, .int .i64 x3, .int .i64 x4, .int .i64 x5])) := by rw [hL]; rfl
                  have V41 : L.lookup 41 = some (tLit (.bool false)) := by rw [hL]; rfl
                  have V42 : L.lookup 42 = some (tLit (.bool false)) := by rw [hL]; rfl
                  have V43 : L.lookup 43 = some (tLit (.bool false)) := by rw [hL]; rfl
                  have V44 : L.lookup 44 = some (tLit (.pointer (some ⟨wr.heap.size, 0 + 5, none⟩))) := by rw [hL]; rfl
                  have V45 : L.lookup 45 = some (tLit (.int .i64 (xt))) := by rw [hL]; rfl
                  have V46 : L.lookup 46 = some (tLit (.bool false)) := by rw [hL]; rfl
                  have V47 : L.lookup 47 = some (tLit (.bool true)) := by rw [hL]; rfl
                  have V48 : L.lookup 48 = some (tLit (.bool true)) := by rw [hL]; rfl
                  have V49 : L.lookup 49 = some (tLit (.bool true)) := by rw [hL]; rfl
                  have V50 : L.lookup 50 = some (tLit (undef)) := by rw [hL]; rfl
                  have V51 : L.lookup 51 = some (tLit (undef)) := by rw [hL]; rfl
                  have V52 : L.lookup 52 = some (tLit (undef)) := by rw [hL]; rfl
                  have V53 : L.lookup 53 = some (tLit (undef)) := by rw [hL]; rfl
                  have V54 : L.lookup 54 = some (tLit (.bool true)) := by rw [hL]; rfl
                  have V55 : L.lookup 55 = some (tLit (.bool true)) := by rw [hL]; rfl
                  have V56 : L.lookup 56 = some (tLit (undef)) := by rw [hL]; rfl
                  have V57 : L.lookup 57 = some (tLit (undef)) := by rw [hL]; rfl
                  have V58 : L.lookup 58 = some (tLit (undef)) := by rw [hL]; rfl
                  have V59 : L.lookup 59 = some (tLit (undef)) := by rw [hL]; rfl
                  have V60 : L.lookup 60 = some (tLit (undef)) := by rw [hL]; rfl
                  have V61 : L.lookup 61 = some (tLit (undef)) := by rw [hL]; rfl
                  have V62 : L.lookup 62 = some (tLit (undef)) := by rw [hL]; rfl
                  have V63 : L.lookup 63 = some (tLit (undef)) := by rw [hL]; rfl
                  have V64 : L.lookup 64 = some (tLit (undef)) := by rw [hL]; rfl
                  have V65 : L.lookup 65 = some (tLit (undef)) := by rw [hL]; rfl
                  have V66 : L.lookup 66 = some (tLit (undef)) := by rw [hL]; rfl
                  have V67 : L.lookup 67 = some (tLit (undef)) := by rw [hL]; rfl
                  have V68 : L.lookup 68 = some (tLit (undef)) := by rw [hL]; rfl
                  have V69 : L.lookup 69 = some (tLit (undef)) := by rw [hL]; rfl
                  have V70 : L.lookup 70 = some (tLit (.bool true)) := by rw [hL]; rfl
                  have HK : KeepL L := by rw [hL]; exact ⟨keep_lit _, keep_lit _, keep_lit _, keep_lit _, keep_lit _, keep_lit _, keep_lit _, keep_lit _, keep_lit _, keep_lit _, keep_lit _, keep_lit _, keep_lit _, keep_lit _, keep_lit _, keep_lit _, keep_lit _, keep_lit _, keep_lit _, keep_lit _, keep_lit _, keep_lit _, keep_lit _, keep_lit _, keep_lit _, keep_lit _, keep_lit _, keep_lit _, keep_lit _, keep_lit _, keep_lit _, keep_lit _, keep_lit _, keep_lit _, keep_lit _, keep_lit _, keep_lit _, keep_lit _, keep_lit _, keep_lit _, keep_lit _, keep_lit _, trivial⟩
                  refine wp_region_mix0 (by kernel_rfl) L 38 rfl [some 33, some 34, some 35, some 36, some 37, some 38, some 39, some 40, some 41, some 42, some 43, some 44, some 45, some 46, some 47, some 48, some 49, some 50, some 51, some 52, some 53, some 54, some 55, some 56, some 57, some 58, some 59, some 60, some 61, some 62, some 63, some 64, some 65, some 66, some 67, some 68, some 69, some 70] (by kernel_rfl) (by kernel_rfl) (by kernel_rfl) 4 (by rw [hL]; intro x hx; simp only [List.take_succ_cons, List.take_zero, List.mem_cons, List.not_mem_nil, or_false] at hx; rcases hx with rfl | rfl | rfl | rfl <;> rfl) (by rw [hL]; rfl) ?_ ?_
                  · clear hL
                    exact ⟨m_field HK gokm_none (f := 0) (s := 5) (by kernel_rfl) (by omega) (om_tmp V5) rfl V33,
                      m_loadn HK gokm_none (by kernel_rfl) (by kernel_rfl) (om_tmp V33) (by intro j v hj; rcases j with _ | _ | _ | _ | _ | j <;> simp at hj <;> subst hj <;> assumption) V34,
                      m_call HK gokm_none Try.func47 (by kernel_rfl) (by kernel_rfl) V35 (fun o b' wx hm hG ho => by
                        have e1 : b'.eval (.tmp 34) = .agg #[.int .i64 x1, .int .i64 x2, .int .i64 x3, .int .i64 x4, .int .i64 x5] := (om_tmp V34) o b' wx (hm _ (by simp)) ho
                        have e0 : ∀ v, b'.eval (.const v) = v := fun _ => rfl
                        rw [show (#[.tmp 34] : Array Operand).map b'.eval = #[.agg #[.int .i64 x1, .int .i64 x2, .int .i64 x3, .int .i64 x4, .int .i64 x5]] from by simp [e0, e1]]
                        exact (iFlow_is _ _ _ _ _ _).mono fun e w' h => ⟨_, h.1, by rw [h.2]; exact GrF.alloc _ _ _, by rw [v1]; rfl⟩),
                      m_not HK gokm_none (om_tmp V35) rfl V36,
                      m_move HK gokm_none (om_tmp V36) V37,
                      m_move HK (gokm_some rfl V37) (om_tmp V3) V38,
                      m_field HK (gokm_some rfl V37) (f := 0) (s := 5) (by kernel_rfl) (by omega) (om_tmp V5) rfl V39,
                      m_loadn HK (gokm_some rfl V37) (by kernel_rfl) (by kernel_rfl) (om_tmp V39) (by intro j v hj; rcases j with _ | _ | _ | _ | _ | j <;> simp at hj <;> subst hj <;> assumption) V40,
                      m_look HK (gokm_some rfl V37) hmap4 hes (show enF ⟨x1, x2, x3, x4, x5, xt, xl⟩ = true from v1) (om_tmp V38) (om_tmp V40) v2.symm V41,
                      m_pickf HK gokm_none (om_tmp V37) (om_tmp V41) V42,
                      m_move HK gokm_none (om_tmp V42) V43,
                      m_field HK (gokm_some rfl V43) (f := 5) (s := 1) (by kernel_rfl) (by omega) (om_tmp V5) rfl V44,
                      m_load1 HK (gokm_some rfl V43) (by kernel_rfl) (om_tmp V44) g5 V45,
                      m_call HK (gokm_some rfl V43) Try.func46 (by kernel_rfl) (by kernel_rfl) V46 (fun o b' wx hm hG ho => by
                        have e1 : b'.eval (.tmp 45) = .int .i64 xt := (om_tmp V45) o b' wx (hm _ (by simp)) ho
                        have e0 : ∀ v, b'.eval (.const v) = v := fun _ => rfl
                        rw [show (#[.tmp 45, .const (.int .i64 0), .const (.int .i64 30)] : Array Operand).map b'.eval = #[.int .i64 xt, .int .i64 0, .int .i64 30] from by simp [e0, e1]]
                        exact (in_any _ _ _ _).mono fun e w' h => ⟨_, h.1, by rw [← h.2]; exact GrF.refl _ _, by rw [v3]; rfl⟩),
                      m_not HK (gokm_some rfl V43) (om_tmp V46) rfl V47,
                      m_pickf HK gokm_none (om_tmp V43) (om_tmp V47) V48,
                      m_move HK gokm_none (om_tmp V48) V49,
                      m_skip HK rfl rfl V49 (by intro e; cases e) (fun d h => by cases h; exact V50),
                      m_skip HK rfl rfl V49 (by intro e; cases e) (fun d h => by cases h; exact V51),
                      m_skip HK rfl rfl V49 (by intro e; cases e) (fun d h => by cases h; exact V52),
                      m_skip HK rfl rfl V49 (by intro e; cases e) (fun d h => by cases h; exact V53),
                      m_pickt HK gokm_none (om_tmp V49) om_const V54,
                      m_move HK gokm_none (om_tmp V54) V55,
                      m_skip HK rfl rfl V55 (by intro e; cases e) (fun d h => by cases h; exact V56),
                      m_skip HK rfl rfl V55 (by intro e; cases e) (fun d h => by cases h; exact V57),
                      m_skip HK rfl rfl V55 (by intro e; cases e) (fun d h => by cases h; exact V58),
                      m_skip HK rfl rfl V58 (by intro e; cases e) (fun d h => by cases h; exact V59),
                      m_skip HK rfl rfl V58 (by intro e; cases e) (fun d h => by cases h; exact V60),
                      m_skip HK rfl rfl V58 (by intro e; cases e) (fun d h => by cases h; exact V61),
                      m_skip HK rfl rfl V58 (by intro e; cases e) (fun d h => by cases h; exact V62),
                      m_skip HK rfl rfl V58 (by intro e; cases e) (fun d h => by cases h; exact V63),
                      m_skip HK rfl rfl V58 (by intro e; cases e) (fun d h => by cases h; exact V64),
                      m_skip HK rfl rfl V58 (by intro e; cases e) (fun d h => by cases h; exact V65),
                      m_skip HK rfl rfl V58 (by intro e; cases e) (fun d h => by cases h; exact V66),
                      m_skip HK rfl rfl V58 (by intro e; cases e) (fun d h => by cases h; exact V67),
                      m_skip HK rfl rfl V58 (by intro e; cases e) (fun d h => by cases h; exact V68),
                      m_skip HK rfl rfl V55 (by intro e; cases e) (fun d h => by cases h; exact V69),
                      m_pickt HK gokm_none (om_tmp V55) om_const V70,
                      trivial⟩
                  intro vs w5 hw5 hk5
                  have k33 : vs 33 = .pointer (some ⟨wr.heap.size, 0, none⟩) := hk5 0 33 _ (by omega) rfl V33
                  have k34 : vs 34 = .agg #[.int .i64 x1, .int .i64 x2, .int .i64 x3, .int .i64 x4, .int .i64 x5] := hk5 1 34 _ (by omega) rfl V34
                  have k35 : vs 35 = .bool true := hk5 2 35 _ (by omega) rfl V35
                  have k36 : vs 36 = .bool false := hk5 3 36 _ (by omega) rfl V36
                  have k37 : vs 37 = .bool false := hk5 4 37 _ (by omega) rfl V37
                  have k38 : vs 38 = .map (some (w.heap.size + 1)) := hk5 5 38 _ (by omega) rfl V38
                  have k39 : vs 39 = .pointer (some ⟨wr.heap.size, 0, none⟩) := hk5 6 39 _ (by omega) rfl V39
                  have k40 : vs 40 = .agg #[.int .i64 x1, .int .i64 x2, .int .i64 x3, .int .i64 x4, .int .i64 x5] := hk5 7 40 _ (by omega) rfl V40
                  have k41 : vs 41 = .bool false := hk5 8 41 _ (by omega) rfl V41
                  have k42 : vs 42 = .bool false := hk5 9 42 _ (by omega) rfl V42
                  have k43 : vs 43 = .bool false := hk5 10 43 _ (by omega) rfl V43
                  have k44 : vs 44 = .pointer (some ⟨wr.heap.size, 0 + 5, none⟩) := hk5 11 44 _ (by omega) rfl V44
                  have k45 : vs 45 = .int .i64 (xt) := hk5 12 45 _ (by omega) rfl V45
                  have k46 : vs 46 = .bool false := hk5 13 46 _ (by omega) rfl V46
                  have k47 : vs 47 = .bool true := hk5 14 47 _ (by omega) rfl V47
                  have k48 : vs 48 = .bool true := hk5 15 48 _ (by omega) rfl V48
                  have k49 : vs 49 = .bool true := hk5 16 49 _ (by omega) rfl V49
                  have k50 : vs 50 = undef := hk5 17 50 _ (by omega) rfl V50
                  have k51 : vs 51 = undef := hk5 18 51 _ (by omega) rfl V51
                  have k52 : vs 52 = undef := hk5 19 52 _ (by omega) rfl V52
                  have k53 : vs 53 = undef := hk5 20 53 _ (by omega) rfl V53
                  have k54 : vs 54 = .bool true := hk5 21 54 _ (by omega) rfl V54
                  have k55 : vs 55 = .bool true := hk5 22 55 _ (by omega) rfl V55
                  have k56 : vs 56 = undef := hk5 23 56 _ (by omega) rfl V56
                  have k57 : vs 57 = undef := hk5 24 57 _ (by omega) rfl V57
                  have k58 : vs 58 = undef := hk5 25 58 _ (by omega) rfl V58
                  have k59 : vs 59 = undef := hk5 26 59 _ (by omega) rfl V59
                  have k60 : vs 60 = undef := hk5 27 60 _ (by omega) rfl V60
                  have k61 : vs 61 = undef := hk5 28 61 _ (by omega) rfl V61
                  have k62 : vs 62 = undef := hk5 29 62 _ (by omega) rfl V62
                  have k63 : vs 63 = undef := hk5 30 63 _ (by omega) rfl V63
                  have k64 : vs 64 = undef := hk5 31 64 _ (by omega) rfl V64
                  have k65 : vs 65 = undef := hk5 32 65 _ (by omega) rfl V65
                  have k66 : vs 66 = undef := hk5 33 66 _ (by omega) rfl V66
                  have k67 : vs 67 = undef := hk5 34 67 _ (by omega) rfl V67
                  have k68 : vs 68 = undef := hk5 35 68 _ (by omega) rfl V68
                  have k69 : vs 69 = undef := hk5 36 69 _ (by omega) rfl V69
                  have k70 : vs 70 = .bool true := hk5 37 70 _ (by omega) rfl V70
                  clear hk5 HK hL V1 V3 V4 V5 V33 V34 V35 V36 V37 V38 V39 V40 V41 V42 V43 V44 V45 V46 V47 V48 V49 V50 V51 V52 V53 V54 V55 V56 V57 V58 V59 V60 V61 V62 V63 V64 V65 V66 V67 V68 V69 V70
                  simp only [putL, Act.put, List.setIfInBounds_toArray, List.set_cons_zero, List.set_cons_succ, k33, k34, k35, k36, k37, k38, k39, k40, k41, k42, k43, k44, k45, k46, k47, k48, k49, k50, k51, k52, k53, k54, k55, k56, k57, k58, k59, k60, k61, k62, k63, k64, k65, k66, k67, k68, k69, k70]
                  clear k33 k34 k35 k36 k37 k38 k39 k40 k41 k42 k43 k44 k45 k46 k47 k48 k49 k50 k51 k52 k53 k54 k55 k56 k57 k58 k59 k60 k61 k62 k63 k64 k65 k66 k67 k68 k69 k70
                  have b5 := New.below hw5 hb4 hz4
                  clear hmap4
                  go_wp2
                  go_ret
                  exact ⟨ret_bool HE.out.symm, b5⟩
            · have v1 := Bool.eq_false_iff.2 v1
              have HE := Lib.hid (tab_bad (sz := sz) (st := st) hlk (by rw [HO.out, v1]; simp))
              obtain ⟨L, hL⟩ : ∃ L : List (Nat × VT), L = [(1, tLit (.pointer (some ⟨w.heap.size, 0, none⟩))), (3, tLit (.map (some (w.heap.size + 1)))), (4, tLit (.int .i64 ((k : Int)))), (5, tLit (.pointer (some ⟨wr.heap.size, 0, none⟩))), (33, tLit (.pointer (some ⟨wr.heap.size, 0, none⟩))), (34, tLit (.agg #[.int .i64 x1, .int .i64 x2, .int .i64 x3, .int .i64 x4, .int .i64 x5])), (35, tLit (.bool false)), (36, tLit (.bool true)), (37, tLit (.bool true)), (38, tLit (undef)), (39, tLit (undef)), (40, tLit (undef)), (41, tLit (undef)), (42, tLit (.bool true)), (43, tLit (.bool true)), (44, tLit (undef)), (45, tLit (undef)), (46, tLit (undef)), (47, tLit (undef)), (48, tLit (.bool true)), (49, tLit (.bool true)), (50, tLit (undef)), (51, tLit (undef)), (52, tLit (undef)), (53, tLit (undef)), (54, tLit (.bool true)), (55, tLit (.bool true)), (56, tLit (undef)), (57, tLit (undef)), (58, tLit (undef)), (59, tLit (undef)), (60, tLit (undef)), (61, tLit (undef)), (62, tLit (undef)), (63, tLit (undef)), (64, tLit (undef)), (65, tLit (undef)), (66, tLit (undef)), (67, tLit (undef)), (68, tLit (undef)), (69, tLit (undef)), (70, tLit (.bool true))] := ⟨_, rfl⟩
              have V1 : L.lookup 1 = some (tLit (.pointer (some ⟨w.heap.size, 0, none⟩))) := by rw [hL]; rfl
              have V3 : L.lookup 3 = some (tLit (.map (some (w.heap.size + 1)))) := by rw [hL]; rfl
              have V4 : L.lookup 4 = some (tLit (.int .i64 ((k : Int)))) := by rw [hL]; rfl
              have V5 : L.lookup 5 = some (tLit (.pointer (some ⟨wr.heap.size, 0, none⟩))) := by rw [hL]; rfl
              have V33 : L.lookup 33 = some (tLit (.pointer (some ⟨wr.heap.size, 0, none⟩))) := by rw [hL]; rfl
              have V34 : L.lookup 34 = some (tLit (.agg #[.int .i64 x1, .int .i64 x2, .int .i64 x3, .int .i64 x4, .int .i64 x5])) := by rw [hL]; rfl
              have V35 : L.lookup 35 = some (tLit (.bool false)) := by rw [hL]; rfl
              have V36 : L.lookup 36 = some (tLit (.bool true)) := by rw [hL]; rfl
              have V37 : L.lookup 37 = some (tLit (.bool true)) := by rw [hL]; rfl
              have V38 : L.lookup 38 = some (tLit (undef)) := by rw [hL]; rfl
              have V39 : L.lookup 39 = some (tLit (undef)) := by rw [hL]; rfl
              have V40 : L.lookup 40 = some (tLit (undef)) := by rw [hL]; rfl
              have V41 : L.lookup 41 = some (tLit (undef)) := by rw [hL]; rfl
              have V42 : L.lookup 42 = some (tLit (.bool true)) := by rw [hL]; rfl
              have V43 : L.lookup 43 = some (tLit (.bool true)) := by rw [hL]; rfl
              have V44 : L.lookup 44 = some (tLit (undef)) := by rw [hL]; rfl
              have V45 : L.lookup 45 = some (tLit (undef)) := by rw [hL]; rfl
              have V46 : L.lookup 46 = some (tLit (undef)) := by rw [hL]; rfl
              have V47 : L.lookup 47 = some (tLit (undef)) := by rw [hL]; rfl
              have V48 : L.lookup 48 = some (tLit (.bool true)) := by rw [hL]; rfl
              have V49 : L.lookup 49 = some (tLit (.bool true)) := by rw [hL]; rfl
              have V50 : L.lookup 50 = some (tLit (undef)) := by rw [hL]; rfl
              have V51 : L.lookup 51 = some (tLit (undef)) := by rw [hL]; rfl
              have V52 : L.lookup 52 = some (tLit (undef)) := by rw [hL]; rfl
              have V53 : L.lookup 53 = some (tLit (undef)) := by rw [hL]; rfl
              have V54 : L.lookup 54 = some (tLit (.bool true)) := by rw [hL]; rfl
              have V55 : L.lookup 55 = some (tLit (.bool true)) := by rw [hL]; rfl
              have V56 : L.lookup 56 = some (tLit (undef)) := by rw [hL]; rfl
              have V57 : L.lookup 57 = some (tLit (undef)) := by rw [hL]; rfl
              have V58 : L.lookup 58 = some (tLit (undef)) := by rw [hL]; rfl
              have V59 : L.lookup 59 = some (tLit (undef)) := by rw [hL]; rfl
              have V60 : L.lookup 60 = some (tLit (undef)) := by rw [hL]; rfl
              have V61 : L.lookup 61 = some (tLit (undef)) := by rw [hL]; rfl
              have V62 : L.lookup 62 = some (tLit (undef)) := by rw [hL]; rfl
              have V63 : L.lookup 63 = some (tLit (undef)) := by rw [hL]; rfl
              have V64 : L.lookup 64 = some (tLit (undef)) := by rw [hL]; rfl
              have V65 : L.lookup 65 = some (tLit (undef)) := by rw [hL]; rfl
              have V66 : L.lookup 66 = some (tLit (undef)) := by rw [hL]; rfl
              have V67 : L.lookup 67 = some (tLit (undef)) := by rw [hL]; rfl
              have V68 : L.lookup 68 = some (tLit (undef)) := by rw [hL]; rfl
              have V69 : L.lookup 69 = some (tLit (undef)) := by rw [hL]; rfl
              have V70 : L.lookup 70 = some (tLit (.bool true)) := by rw [hL]; rfl
              have HK : KeepL L := by rw [hL]; exact ⟨keep_lit _, keep_lit _, keep_lit _, keep_lit _, keep_lit _, keep_lit _, keep_lit _, keep_lit _, keep_lit _, keep_lit _, keep_lit _, keep_lit _, keep_lit _, keep_lit _, keep_lit _, keep_lit _, keep_lit _, keep_lit _, keep_lit _, keep_lit _, keep_lit _, keep_lit _, keep_lit _, keep_lit _, keep_lit _, keep_lit _, keep_lit _, keep_lit _, keep_lit _, keep_lit _, keep_lit _, keep_lit _, keep_lit _, keep_lit _, keep_lit _, keep_lit _, keep_lit _, keep_lit _, keep_lit _, keep_lit _, keep_lit _, keep_lit _, trivial⟩
              refine wp_region_mix0 (by kernel_rfl) L 38 rfl [some 33, some 34, some 35, some 36, some 37, some 38, some 39, some 40, some 41, some 42, some 43, some 44, some 45, some 46, some 47, some 48, some 49, some 50, some 51, some 52, some 53, some 54, some 55, some 56, some 57, some 58, some 59, some 60, some 61, some 62, some 63, some 64, some 65, some 66, some 67, some 68, some 69, some 70] (by kernel_rfl) (by kernel_rfl) (by kernel_rfl) 4 (by rw [hL]; intro x hx; simp only [List.take_succ_cons, List.take_zero, List.mem_cons, List.not_mem_nil, or_false] at hx; rcases hx with rfl | rfl | rfl | rfl <;> rfl) (by rw [hL]; rfl) ?_ ?_
              · clear hL
                exact ⟨m_field HK gokm_none (f := 0) (s := 5) (by kernel_rfl) (by omega) (om_tmp V5) rfl V33,
                  m_loadn HK gokm_none (by kernel_rfl) (by kernel_rfl) (om_tmp V33) (by intro j v hj; rcases j with _ | _ | _ | _ | _ | j <;> simp at hj <;> subst hj <;> assumption) V34,
                  m_call HK gokm_none Try.func47 (by kernel_rfl) (by kernel_rfl) V35 (fun o b' wx hm hG ho => by
                    have e1 : b'.eval (.tmp 34) = .agg #[.int .i64 x1, .int .i64 x2, .int .i64 x3, .int .i64 x4, .int .i64 x5] := (om_tmp V34) o b' wx (hm _ (by simp)) ho
                    have e0 : ∀ v, b'.eval (.const v) = v := fun _ => rfl
                    rw [show (#[.tmp 34] : Array Operand).map b'.eval = #[.agg #[.int .i64 x1, .int .i64 x2, .int .i64 x3, .int .i64 x4, .int .i64 x5]] from by simp [e0, e1]]
                    exact (iFlow_is _ _ _ _ _ _).mono fun e w' h => ⟨_, h.1, by rw [h.2]; exact GrF.alloc _ _ _, by rw [v1]; rfl⟩),
                  m_not HK gokm_none (om_tmp V35) rfl V36,
                  m_move HK gokm_none (om_tmp V36) V37,
                  m_skip HK rfl rfl V37 (by intro e; cases e) (fun d h => by cases h; exact V38),
                  m_skip HK rfl rfl V37 (by intro e; cases e) (fun d h => by cases h; exact V39),
                  m_skip HK rfl rfl V37 (by intro e; cases e) (fun d h => by cases h; exact V40),
                  m_skip HK rfl rfl V37 (by intro e; cases e) (fun d h => by cases h; exact V41),
                  m_pickt HK gokm_none (om_tmp V37) om_const V42,
                  m_move HK gokm_none (om_tmp V42) V43,
                  m_skip HK rfl rfl V43 (by intro e; cases e) (fun d h => by cases h; exact V44),
                  m_skip HK rfl rfl V43 (by intro e; cases e) (fun d h => by cases h; exact V45),
                  m_skip HK rfl rfl V43 (by intro e; cases e) (fun d h => by cases h; exact V46),
                  m_skip HK rfl rfl V43 (by intro e; cases e) (fun d h => by cases h; exact V47),
                  m_pickt HK gokm_none (om_tmp V43) om_const V48,
                  m_move HK gokm_none (om_tmp V48) V49,
                  m_skip HK rfl rfl V49 (by intro e; cases e) (fun d h => by cases h; exact V50),
                  m_skip HK rfl rfl V49 (by intro e; cases e) (fun d h => by cases h; exact V51),
                  m_skip HK rfl rfl V49 (by intro e; cases e) (fun d h => by cases h; exact V52),
                  m_skip HK rfl rfl V49 (by intro e; cases e) (fun d h => by cases h; exact V53),
                  m_pickt HK gokm_none (om_tmp V49) om_const V54,
                  m_move HK gokm_none (om_tmp V54) V55,
                  m_skip HK rfl rfl V55 (by intro e; cases e) (fun d h => by cases h; exact V56),
                  m_skip HK rfl rfl V55 (by intro e; cases e) (fun d h => by cases h; exact V57),
                  m_skip HK rfl rfl V55 (by intro e; cases e) (fun d h => by cases h; exact V58),
                  m_skip HK rfl rfl V58 (by intro e; cases e) (fun d h => by cases h; exact V59),
                  m_skip HK rfl rfl V58 (by intro e; cases e) (fun d h => by cases h; exact V60),
                  m_skip HK rfl rfl V58 (by intro e; cases e) (fun d h => by cases h; exact V61),
                  m_skip HK rfl rfl V58 (by intro e; cases e) (fun d h => by cases h; exact V62),
                  m_skip HK rfl rfl V58 (by intro e; cases e) (fun d h => by cases h; exact V63),
                  m_skip HK rfl rfl V58 (by intro e; cases e) (fun d h => by cases h; exact V64),
                  m_skip HK rfl rfl V58 (by intro e; cases e) (fun d h => by cases h; exact V65),
                  m_skip HK rfl rfl V58 (by intro e; cases e) (fun d h => by cases h; exact V66),
                  m_skip HK rfl rfl V58 (by intro e; cases e) (fun d h => by cases h; exact V67),
                  m_skip HK rfl rfl V58 (by intro e; cases e) (fun d h => by cases h; exact V68),
                  m_skip HK rfl rfl V55 (by intro e; cases e) (fun d h => by cases h; exact V69),
                  m_pickt HK gokm_none (om_tmp V55) om_const V70,
                  trivial⟩
              intro vs w5 hw5 hk5
              have k33 : vs 33 = .pointer (some ⟨wr.heap.size, 0, none⟩) := hk5 0 33 _ (by omega) rfl V33
              have k34 : vs 34 = .agg #[.int .i64 x1, .int .i64 x2, .int .i64 x3, .int .i64 x4, .int .i64 x5] := hk5 1 34 _ (by omega) rfl V34
              have k35 : vs 35 = .bool false := hk5 2 35 _ (by omega) rfl V35
              have k36 : vs 36 = .bool true := hk5 3 36 _ (by omega) rfl V36
              have k37 : vs 37 = .bool true := hk5 4 37 _ (by omega) rfl V37
              have k38 : vs 38 = undef := hk5 5 38 _ (by omega) rfl V38
              have k39 : vs 39 = undef := hk5 6 39 _ (by omega) rfl V39
              have k40 : vs 40 = undef := hk5 7 40 _ (by omega) rfl V40
              have k41 : vs 41 = undef := hk5 8 41 _ (by omega) rfl V41
              have k42 : vs 42 = .bool true := hk5 9 42 _ (by omega) rfl V42
              have k43 : vs 43 = .bool true := hk5 10 43 _ (by omega) rfl V43
              have k44 : vs 44 = undef := hk5 11 44 _ (by omega) rfl V44
              have k45 : vs 45 = undef := hk5 12 45 _ (by omega) rfl V45
              have k46 : vs 46 = undef := hk5 13 46 _ (by omega) rfl V46
              have k47 : vs 47 = undef := hk5 14 47 _ (by omega) rfl V47
              have k48 : vs 48 = .bool true := hk5 15 48 _ (by omega) rfl V48
              have k49 : vs 49 = .bool true := hk5 16 49 _ (by omega) rfl V49
              have k50 : vs 50 = undef := hk5 17 50 _ (by omega) rfl V50
              have k51 : vs 51 = undef := hk5 18 51 _ (by omega) rfl V51
              have k52 : vs 52 = undef := hk5 19 52 _ (by omega) rfl V52
              have k53 : vs 53 = undef := hk5 20 53 _ (by omega) rfl V53
              have k54 : vs 54 = .bool true := hk5 21 54 _ (by omega) rfl V54
              have k55 : vs 55 = .bool true := hk5 22 55 _ (by omega) rfl V55
              have k56 : vs 56 = undef := hk5 23 56 _ (by omega) rfl V56
              have k57 : vs 57 = undef := hk5 24 57 _ (by omega) rfl V57
              have k58 : vs 58 = undef := hk5 25 58 _ (by omega) rfl V58
              have k59 : vs 59 = undef := hk5 26 59 _ (by omega) rfl V59
              have k60 : vs 60 = undef := hk5 27 60 _ (by omega) rfl V60
              have k61 : vs 61 = undef := hk5 28 61 _ (by omega) rfl V61
              have k62 : vs 62 = undef := hk5 29 62 _ (by omega) rfl V62
              have k63 : vs 63 = undef := hk5 30 63 _ (by omega) rfl V63
              have k64 : vs 64 = undef := hk5 31 64 _ (by omega) rfl V64
              have k65 : vs 65 = undef := hk5 32 65 _ (by omega) rfl V65
              have k66 : vs 66 = undef := hk5 33 66 _ (by omega) rfl V66
              have k67 : vs 67 = undef := hk5 34 67 _ (by omega) rfl V67
              have k68 : vs 68 = undef := hk5 35 68 _ (by omega) rfl V68
              have k69 : vs 69 = undef := hk5 36 69 _ (by omega) rfl V69
              have k70 : vs 70 = .bool true := hk5 37 70 _ (by omega) rfl V70
              clear hk5 HK hL V1 V3 V4 V5 V33 V34 V35 V36 V37 V38 V39 V40 V41 V42 V43 V44 V45 V46 V47 V48 V49 V50 V51 V52 V53 V54 V55 V56 V57 V58 V59 V60 V61 V62 V63 V64 V65 V66 V67 V68 V69 V70
              simp only [putL, Act.put, List.setIfInBounds_toArray, List.set_cons_zero, List.set_cons_succ, k33, k34, k35, k36, k37, k38, k39, k40, k41, k42, k43, k44, k45, k46, k47, k48, k49, k50, k51, k52, k53, k54, k55, k56, k57, k58, k59, k60, k61, k62, k63, k64, k65, k66, k67, k68, k69, k70]
              clear k33 k34 k35 k36 k37 k38 k39 k40 k41 k42 k43 k44 k45 k46 k47 k48 k49 k50 k51 k52 k53 k54 k55 k56 k57 k58 k59 k60 k61 k62 k63 k64 k65 k66 k67 k68 k69 k70
              have b5 := New.below hw5 hb4 hz4
              clear hmap4
              go_wp2
              go_ret
              exact ⟨ret_bool HE.out.symm, b5⟩
          · obtain rfl : n = k := by omega
            have HE := Lib.hid (hr.all HL.out)
            go_wp2
            go_ret
            exact ⟨ret_bool (by rw [HV.out, HE.out]), hb⟩
      · have s3' : sz < (n : Int) := by omega
        have HE : RowKit.Hid (tabV sz st es = false) := Lib.hid (by unfold tabV; rw [HL.out, decide_eq_false s3]; simp)
        go_enter Try.func25, Try.ntmps25
        go_wp2_with (go_at_call 46; refine (in_any _ _ _ _).mono ?_; (first | rw [s1] | rw [s2]); rintro e w' ⟨rfl, rfl⟩)
        go_ret
        exact ⟨ret_bool HE.out.symm, hb0⟩
    · have s2' := Bool.eq_false_iff.2 s2
      have HE : RowKit.Hid (tabV sz st es = false) := Lib.hid (by unfold tabV; rw [s2']; simp)
      clear s2
      go_enter Try.func25, Try.ntmps25
      go_wp2_with (go_at_call 46; refine (in_any _ _ _ _).mono ?_; (first | rw [s1] | rw [s2']); rintro e w' ⟨rfl, rfl⟩)
      go_ret
      exact ⟨ret_bool HE.out.symm, hb0⟩
  · have s1' := Bool.eq_false_iff.2 s1
    have HE : RowKit.Hid (tabV sz st es = false) := Lib.hid (by unfold tabV; rw [s1']; simp)
    clear s1
    go_enter Try.func25, Try.ntmps25
    go_wp2_with (go_at_call 46; refine (in_any _ _ _ _).mono ?_; rw [s1']; rintro e w' ⟨rfl, rfl⟩)
    go_ret
    exact ⟨ret_bool HE.out.symm, hb0⟩
end Go.Proofs.Ytgdcfhifiincaaa
