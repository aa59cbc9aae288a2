/-
  TableValid of the reference.
-/
import Derived.Test.YtgdcfhifiincaaaPlace
import Derived.Test.YtgdcfhifiincaaaEvValid0
import Derived.Test.YtgdcfhifiincaaaMixB
namespace Go.Proofs.Ytgdcfhifiincaaa
open Go.RowKit
set_option linter.unusedVariables false

section
variable {P : Program} {ops : Array Oper} {Q : Exit → Act → World → Prop} {l : List (Nat × VT)} {W : World} {N i : Nat} {d : Nat} {ty t t2 : TypeId} {pos : String} {af : Array Edge} {x y z : Operand} {gd : Option (Nat × Bool)}
theorem m_cuthT {A : Option Addr} {n c lo hi s : Nat} {k : Int} {xs : List Value} (hk : KeepL l) (hg : GOkM ops l gd) (hi' : elemSize P t = some s) (hx : OM l x (tLit (.slice A n c))) (hS : Sl W lo hi s A n xs) (hh : hi ≤ W.heap.size) (hnc : n ≤ c) (hc : c ≤ maxLen)
    (hy : OM l y (tLit (.int .i64 k))) (h0 : 0 ≤ k) (h1 : k ≤ n) (hd : l.lookup d = some (tSl lo s k.toNat (xs.take (k.toNat * s)))) :
    TStepG P ops Q (tsM l) (fun _ _ => True) (GX W) N i ⟨some d, .slice t x none (some y) none, ty, pos, af, gd⟩ :=
  m_slice hk hg hx none (some (.int .i64 k)) (fun o b w hm ho => ⟨rfl, congrArg some (hy o b w (hm y (by simp)) ho)⟩) rfl (fun u w hG hu => by
    obtain ⟨ht, hs⟩ := elem_under hi'
    subst hu
    have hS0 := New.sl (w := W) hG hS hh
    refine ⟨_, by rw [run_sliceAt_slice w t _ _ _ _ ht, run_slice_h w t A n c ht .i64 k h0 (by omega), hs w]; rfl, ?_⟩
    have hT := ((hS0.take (k := k.toNat) (by omega)).cut (k := 0) (cap := c) (Nat.zero_le _) (by omega)).more (Nat.le_refl _) (Nat.le_trans hh hG.size)
    simp only [Nat.sub_zero, Nat.zero_mul, List.drop_zero] at hT
    refine ⟨_, _, rfl, by omega, by omega, ?_⟩
    simpa using hT) hd
end
theorem ensV_take : ∀ (es : List En7) (k : Nat), (ensV es).take (k * 7) = ensV (es.take k) := by
  intro es
  induction es with
  | nil => intro k; simp [ensV, recV]
  | cons e r ih =>
    intro k
    cases k with
    | zero => simp [ensV, recV]
    | succ k =>
      have e0 : (k + 1) * 7 = k * 7 + 7 := by omega
      have := ih k
      simp only [ensV, recV, enC, List.take_succ_cons, List.cons_append, List.nil_append, e0] at this ⊢
      rw [this]

set_option maxRecDepth 100000 in
set_option maxHeartbeats 3200000 in
theorem sTab_any (sz st : Int) (A : Option Addr) (n c : Nat) (es : List En7) (w : World) {lo hi : Nat} (hS : Sl w lo hi 7 A n (ensV es)) (hhi : hi ≤ w.heap.size) (hn : n ≤ 1048577) (hnc : n ≤ c) (hmx : c ≤ maxLen) :
    Calls Try.prog 35 #[.agg #[.int .i64 sz, .int .i64 st, .slice A n c]] w fun e w' => e = .returned (.bool (tabV sz st es)) ∧ Below w.heap.size w w' := by
  have HL := Lib.hid hS.nlen
  have hb0 := (Below.refl w.heap.size w).alloc (Nat.le_refl _) (.cells #[.int .i64 sz, .int .i64 st, .slice A n c] 34)
  have hbk0 := Blk.new w 34 #[.int .i64 sz, .int .i64 st, .slice A n c]
  go_enter Try.func35, Try.ntmps35
  go_wp2
  go_loopw [3] (fun i wr => ∃ k : Nat, k ≤ n ∧ i = .int .i64 k ∧ EnRel es k ∧ Blk wr w.heap.size 34 #[.int .i64 sz, .int .i64 st, .slice A n c] ∧ Below w.heap.size w wr) (fun i _ => n - (intOf i).toNat)
  case atStart => exact ⟨0, Nat.zero_le _, rfl, EnRel.start es, hbk0, hb0⟩
  case round =>
    clear hbk0 hb0
    obtain ⟨k, hk, rfl, hr, hbk, hb⟩ := hrel
    have hz := hb.size
    have d0 : wr.cell? ⟨w.heap.size, 0, none⟩ = some (.int .i64 sz) := hbk.cell 0
    have d1 : wr.cell? ⟨w.heap.size, 1, none⟩ = some (.int .i64 st) := hbk.cell 1
    have d2 : wr.cell? ⟨w.heap.size, 2, none⟩ = some (.slice A n c) := hbk.cell 2
    by_cases hlt : k < n
    · have hlk : k < es.length := by rw [HL.out]; exact hlt
      obtain ⟨b, off, hA, _, _, c0, c1, c2, c3, c4, c5, c6⟩ := (hS.below hb hhi).en hlt
      subst hA
      have HTV := Lib.hid (ensV_take es (k : Int).toNat)
      obtain ⟨⟨x1, x2, x3, x4, x5, xt, xl⟩, hh⟩ : ∃ p, enAt es k = p := ⟨_, rfl⟩
      have hki : (0 : Int) ≤ (k : Int) := by omega
      have hki2 : (k : Int) < (n : Int) := by omega
      rw [hh] at c0 c1 c2 c3 c4 c5 c6
      simp only at c0 c1 c2 c3 c4 c5 c6
      have HH := Lib.hid hh
      have hbz : b < wr.heap.size := World.block_lt_of_cell? wr _ c0
      have hp : ∀ (hk0 : 0 < k), wr.cell? ⟨b, off + (k - 1) * 7 + 6, none⟩ = some (.int .i64 (enAt es (k - 1)).l) := fun hk0 => by
        obtain ⟨_, _, e, _, _, _, _, _, _, _, _, p0⟩ := (hS.below hb hhi).en (k := k - 1) (by omega)
        injection e with e
        injection e with e1 e2
        subst e1 e2
        exact p0
      obtain ⟨q0, hq⟩ : ∃ q, (enAt es (k - 1)).l = q := ⟨_, rfl⟩
      rw [hq] at hp
      have hwm : w.heap.size < wr.heap.size := hbk.lt
      have hsw := (hS.below hb hhi).more (Nat.zero_le _) (Nat.le_trans hhi hz)
      go_wp2
      refine wp_gen (fun w4 => (w4.cell? ⟨wr.heap.size, 0, none⟩ = some (.int .i64 x1) ∧ w4.cell? ⟨wr.heap.size, 1, none⟩ = some (.int .i64 x2) ∧ w4.cell? ⟨wr.heap.size, 2, none⟩ = some (.int .i64 x3) ∧ w4.cell? ⟨wr.heap.size, 3, none⟩ = some (.int .i64 x4) ∧ w4.cell? ⟨wr.heap.size, 4, none⟩ = some (.int .i64 x5) ∧ w4.cell? ⟨wr.heap.size, 5, none⟩ = some (.int .i64 xt) ∧ w4.cell? ⟨wr.heap.size, 6, none⟩ = some (.int .i64 xl)) ∧ (∀ (hk0 : 0 < k), w4.cell? ⟨b, off + (k - 1) * 7 + 6, none⟩ = some (.int .i64 q0)) ∧ Below w.heap.size w w4 ∧ Sl w4.drew 0 w4.drew.heap.size 7 (some ⟨b, off, none⟩) n (ensV es) ∧ Blk w4 w.heap.size 34 #[.int .i64 sz, .int .i64 st, .slice (some ⟨b, off, none⟩) n c]) ⟨?_, ?_, ?_, ?_, ?_⟩ ?_
      · simp
      · exact fun hk0 => (World.cell?_alloc_lt _ _ _ hbz).trans (hp hk0)
      · exact hb.alloc hz _
      · exact ((hsw.alloc (Nat.le_refl _) _).more (Nat.le_refl _) (by simp)).drew
      · exact hbk.alloc _
      rintro w4 ⟨⟨g0, g1, g2, g3, g4, g5, g6⟩, hp4, hb4, hsE, hbk4⟩
      have hz4 := hb4.size
      have bx : w4.cell? ⟨w.heap.size, 0 + 2, none⟩ = some (.slice (some ⟨b, off, none⟩) n c) := hbk4.cell 2
      clear c0 c1 c2 c3 c4 c5 c6 hp hb hbk hsw d0 d1 d2
      have HO : RowKit.Hid (enOk es k = (flowV x1 x2 x3 x4 x5 && !seenF (es.take k) ⟨x1, x2, x3, x4, x5, xt, xl⟩ && inB xt 0 30 && inB xl 0 100000 && (k == 0 || decide (q0 ≤ xl)))) := Lib.hid (by unfold enOk enF; rw [hh, hq])
      obtain ⟨z, hzz⟩ : ∃ z, plF (es.take k) ⟨x1, x2, x3, x4, x5, xt, xl⟩ = z := ⟨_, rfl⟩
      have HPL := Lib.hid hzz
      have hzs : (¬ 0 ≤ z ∧ seenF (es.take k) ⟨x1, x2, x3, x4, x5, xt, xl⟩ = false) ∨ (0 ≤ z ∧ seenF (es.take k) ⟨x1, x2, x3, x4, x5, xt, xl⟩ = true) := by
        rcases plF_cases (es.take k) ⟨x1, x2, x3, x4, x5, xt, xl⟩ with ⟨h1, h2⟩ | ⟨j, _, h1, _, _, h2⟩
        · exact .inl ⟨by omega, h2⟩
        · exact .inr ⟨by omega, h2⟩
      clear hzz
      by_cases v1 : flowV x1 x2 x3 x4 x5 = true
      · by_cases v3 : inB xt 0 30 = true
        · by_cases v4 : inB xl 0 100000 = true
          · have b4 := inB_iff.1 v4
            by_cases hk0 : 0 < k
            · have p0 := hp4 hk0
              by_cases v5 : xl < q0
              · have HE := Lib.hid (tab_bad (sz := sz) (st := st) hlk (by rw [HO.out, decide_eq_false (show ¬ q0 ≤ xl by omega), show (k == 0) = false from by simp; omega]; simp))
                obtain ⟨L, hL⟩ : ∃ L : List (Nat × VT), L = [(1, tLit (.pointer (some ⟨w.heap.size, 0, none⟩))), (3, tLit (.int .i64 ((k : Int)))), (4, tLit (.pointer (some ⟨wr.heap.size, 0, none⟩))), (17, tLit (.pointer (some ⟨wr.heap.size, 0, none⟩))), (18, tLit (.agg #[.int .i64 x1, .int .i64 x2, .int .i64 x3, .int .i64 x4, .int .i64 x5])), (19, tLit (.bool true)), (20, tLit (.bool false)), (21, tLit (.bool false)), (22, tLit (.pointer (some ⟨wr.heap.size, 0 + 5, none⟩))), (23, tLit (.int .i64 (xt))), (24, tLit (.bool true)), (25, tLit (.bool false)), (26, tLit (.bool false)), (27, tLit (.bool false)), (28, tLit (.pointer (some ⟨wr.heap.size, 0 + 6, none⟩))), (29, tLit (.int .i64 (xl))), (30, tLit (.bool true)), (31, tLit (.bool false)), (32, tLit (.bool false)), (33, tLit (.bool false)), (34, tLit (.int .i64 ((k : Int)))), (35, tLit (.bool true)), (36, tLit (.bool true)), (37, tLit (.pointer (some ⟨wr.heap.size, 0 + 6, none⟩))), (38, tLit (.int .i64 (xl))), (39, tLit (.pointer (some ⟨w.heap.size, 0 + 2, none⟩))), (40, tLit (.slice (some ⟨b, off, none⟩) (n) (c))), (41, tLit (.int .i64 ((k : Int)))), (42, tLit (.int .i64 (((k : Int)) - (1)))), (43, tLit (.pointer (some ⟨b, off + (k - 1) * 7, none⟩))), (44, tLit (.pointer (some ⟨b, off + (k - 1) * 7 + 6, none⟩))), (45, tLit (.int .i64 (q0))), (46, tLit (.bool true)), (47, tLit (.bool true)), (48, tLit (.bool true)), (49, tLit (.bool true)), (50, tLit (undef)), (51, tLit (undef)), (52, tLit (undef)), (53, tLit (undef)), (54, tLit (undef)), (55, tLit (undef)), (56, tLit (undef)), (57, tLit (undef)), (58, tLit (.bool true))] := ⟨_, rfl⟩
                have V1 : L.lookup 1 = some (tLit (.pointer (some ⟨w.heap.size, 0, none⟩))) := by rw [hL]; rfl
                have V3 : L.lookup 3 = some (tLit (.int .i64 ((k : Int)))) := by rw [hL]; rfl
                have V4 : L.lookup 4 = some (tLit (.pointer (some ⟨wr.heap.size, 0, none⟩))) := by rw [hL]; rfl
                have V17 : L.lookup 17 = some (tLit (.pointer (some ⟨wr.heap.size, 0, none⟩))) := by rw [hL]; rfl
                have V18 : L.lookup 18 = some (tLit (.agg #[.int .i64 x1, .int .i64 x2, .int .i64 x3, .int .i64 x4, .int .i64 x5])) := by rw [hL]; rfl
                have V19 : L.lookup 19 = some (tLit (.bool true)) := by rw [hL]; rfl
                have V20 : L.lookup 20 = some (tLit (.bool false)) := by rw [hL]; rfl
                have V21 : L.lookup 21 = some (tLit (.bool false)) := by rw [hL]; rfl
                have V22 : L.lookup 22 = some (tLit (.pointer (some ⟨wr.heap.size, 0 + 5, none⟩))) := by rw [hL]; rfl
                have V23 : L.lookup 23 = some (tLit (.int .i64 (xt))) := by rw [hL]; rfl
                have V24 : L.lookup 24 = some (tLit (.bool true)) := by rw [hL]; rfl
                have V25 : L.lookup 25 = some (tLit (.bool false)) := by rw [hL]; rfl
                have V26 : L.lookup 26 = some (tLit (.bool false)) := by rw [hL]; rfl
                have V27 : L.lookup 27 = some (tLit (.bool false)) := by rw [hL]; rfl
                have V28 : L.lookup 28 = some (tLit (.pointer (some ⟨wr.heap.size, 0 + 6, none⟩))) := by rw [hL]; rfl
                have V29 : L.lookup 29 = some (tLit (.int .i64 (xl))) := by rw [hL]; rfl
                have V30 : L.lookup 30 = some (tLit (.bool true)) := by rw [hL]; rfl
                have V31 : L.lookup 31 = some (tLit (.bool false)) := by rw [hL]; rfl
                have V32 : L.lookup 32 = some (tLit (.bool false)) := by rw [hL]; rfl
                have V33 : L.lookup 33 = some (tLit (.bool false)) := by rw [hL]; rfl
                have V34 : L.lookup 34 = some (tLit (.int .i64 ((k : Int)))) := by rw [hL]; rfl
                have V35 : L.lookup 35 = some (tLit (.bool true)) := by rw [hL]; rfl
                have V36 : L.lookup 36 = some (tLit (.bool true)) := by rw [hL]; rfl
                have V37 : L.lookup 37 = some (tLit (.pointer (some ⟨wr.heap.size, 0 + 6, none⟩))) := by rw [hL]; rfl
                have V38 : L.lookup 38 = some (tLit (.int .i64 (xl))) := by rw [hL]; rfl
                have V39 : L.lookup 39 = some (tLit (.pointer (some ⟨w.heap.size, 0 + 2, none⟩))) := by rw [hL]; rfl
                have V40 : L.lookup 40 = some (tLit (.slice (some ⟨b, off, none⟩) (n) (c))) := by rw [hL]; rfl
                have V41 : L.lookup 41 = some (tLit (.int .i64 ((k : Int)))) := by rw [hL]; rfl
                have V42 : L.lookup 42 = some (tLit (.int .i64 (((k : Int)) - (1)))) := by rw [hL]; rfl
                have V43 : L.lookup 43 = some (tLit (.pointer (some ⟨b, off + (k - 1) * 7, none⟩))) := by rw [hL]; rfl
                have V44 : L.lookup 44 = some (tLit (.pointer (some ⟨b, off + (k - 1) * 7 + 6, none⟩))) := by rw [hL]; rfl
                have V45 : L.lookup 45 = some (tLit (.int .i64 (q0))) := by rw [hL]; rfl
                have V46 : L.lookup 46 = some (tLit (.bool true)) := by rw [hL]; rfl
                have V47 : L.lookup 47 = some (tLit (.bool true)) := by rw [hL]; rfl
                have V48 : L.lookup 48 = some (tLit (.bool true)) := by rw [hL]; rfl
                have V49 : L.lookup 49 = some (tLit (.bool true)) := by rw [hL]; rfl
                have V50 : L.lookup 50 = some (tLit (undef)) := by rw [hL]; rfl
                have V51 : L.lookup 51 = some (tLit (undef)) := by rw [hL]; rfl
                have V52 : L.lookup 52 = some (tLit (undef)) := by rw [hL]; rfl
                have V53 : L.lookup 53 = some (tLit (undef)) := by rw [hL]; rfl
                have V54 : L.lookup 54 = some (tLit (undef)) := by rw [hL]; rfl
                have V55 : L.lookup 55 = some (tLit (undef)) := by rw [hL]; rfl
                have V56 : L.lookup 56 = some (tLit (undef)) := by rw [hL]; rfl
                have V57 : L.lookup 57 = some (tLit (undef)) := by rw [hL]; rfl
                have V58 : L.lookup 58 = some (tLit (.bool true)) := by rw [hL]; rfl
                have HK : KeepL L := by rw [hL]; exact ⟨keep_lit _, keep_lit _, keep_lit _, keep_lit _, keep_lit _, keep_lit _, keep_lit _, keep_lit _, keep_lit _, keep_lit _, keep_lit _, keep_lit _, keep_lit _, keep_lit _, keep_lit _, keep_lit _, keep_lit _, keep_lit _, keep_lit _, keep_lit _, keep_lit _, keep_lit _, keep_lit _, keep_lit _, keep_lit _, keep_lit _, keep_lit _, keep_lit _, keep_lit _, keep_lit _, keep_lit _, keep_lit _, keep_lit _, keep_lit _, keep_lit _, keep_lit _, keep_lit _, keep_lit _, keep_lit _, keep_lit _, keep_lit _, keep_lit _, keep_lit _, keep_lit _, keep_lit _, trivial⟩
                refine wp_region_mix0 (by kernel_rfl) L 42 rfl [some 17, some 18, some 19, some 20, some 21, some 22, some 23, some 24, some 25, some 26, some 27, some 28, some 29, some 30, some 31, some 32, some 33, some 34, some 35, some 36, some 37, some 38, some 39, some 40, some 41, some 42, some 43, some 44, some 45, some 46, some 47, some 48, some 49, some 50, some 51, some 52, some 53, some 54, some 55, some 56, some 57, some 58] (by kernel_rfl) (by kernel_rfl) (by kernel_rfl) 3 (by rw [hL]; intro x hx; simp only [List.take_succ_cons, List.take_zero, List.mem_cons, List.not_mem_nil, or_false] at hx; rcases hx with rfl | rfl | rfl <;> rfl) (by rw [hL]; rfl) ?_ ?_
                · clear hL
                  exact ⟨m_field HK gokm_none (f := 0) (s := 5) (by kernel_rfl) (by omega) (om_tmp V4) rfl V17,
                    m_loadn HK gokm_none (by kernel_rfl) (by kernel_rfl) (om_tmp V17) (by intro j v hj; rcases j with _ | _ | _ | _ | _ | j <;> simp at hj <;> subst hj <;> assumption) V18,
                    m_call HK gokm_none Try.func55 (by kernel_rfl) (by kernel_rfl) V19 (fun o b' wx hm hG ho => by
                      have e1 : b'.eval (.tmp 18) = .agg #[.int .i64 x1, .int .i64 x2, .int .i64 x3, .int .i64 x4, .int .i64 x5] := (om_tmp V18) o b' wx (hm _ (by simp)) ho
                      have e0 : ∀ v, b'.eval (.const v) = v := fun _ => rfl
                      rw [show (#[.tmp 18] : Array Operand).map b'.eval = #[.agg #[.int .i64 x1, .int .i64 x2, .int .i64 x3, .int .i64 x4, .int .i64 x5]] from by simp [e0, e1]]
                      exact (sFlow_is _ _ _ _ _ _).mono fun e w' h => ⟨_, h.1, by rw [h.2]; exact GrF.alloc _ _ _, by rw [v1]; rfl⟩),
                    m_not HK gokm_none (om_tmp V19) rfl V20,
                    m_move HK gokm_none (om_tmp V20) V21,
                    m_field HK (gokm_some rfl V21) (f := 5) (s := 1) (by kernel_rfl) (by omega) (om_tmp V4) rfl V22,
                    m_load1 HK (gokm_some rfl V21) (by kernel_rfl) (om_tmp V22) g5 V23,
                    m_call HK (gokm_some rfl V21) Try.func54 (by kernel_rfl) (by kernel_rfl) V24 (fun o b' wx hm hG ho => by
                      have e1 : b'.eval (.tmp 23) = .int .i64 xt := (om_tmp V23) o b' wx (hm _ (by simp)) ho
                      have e0 : ∀ v, b'.eval (.const v) = v := fun _ => rfl
                      rw [show (#[.tmp 23, .const (.int .i64 0), .const (.int .i64 30)] : Array Operand).map b'.eval = #[.int .i64 xt, .int .i64 0, .int .i64 30] from by simp [e0, e1]]
                      exact (l1In_any _ _ _ _).mono fun e w' h => ⟨_, h.1, by rw [← h.2]; exact GrF.refl _ _, by rw [v3]; rfl⟩),
                    m_not HK (gokm_some rfl V21) (om_tmp V24) rfl V25,
                    m_pickf HK gokm_none (om_tmp V21) (om_tmp V25) V26,
                    m_move HK gokm_none (om_tmp V26) V27,
                    m_field HK (gokm_some rfl V27) (f := 6) (s := 1) (by kernel_rfl) (by omega) (om_tmp V4) rfl V28,
                    m_load1 HK (gokm_some rfl V27) (by kernel_rfl) (om_tmp V28) g6 V29,
                    m_call HK (gokm_some rfl V27) Try.func54 (by kernel_rfl) (by kernel_rfl) V30 (fun o b' wx hm hG ho => by
                      have e1 : b'.eval (.tmp 29) = .int .i64 xl := (om_tmp V29) o b' wx (hm _ (by simp)) ho
                      have e0 : ∀ v, b'.eval (.const v) = v := fun _ => rfl
                      rw [show (#[.tmp 29, .const (.int .i64 0), .const (.int .i64 100000)] : Array Operand).map b'.eval = #[.int .i64 xl, .int .i64 0, .int .i64 100000] from by simp [e0, e1]]
                      exact (l1In_any _ _ _ _).mono fun e w' h => ⟨_, h.1, by rw [← h.2]; exact GrF.refl _ _, by rw [v4]; rfl⟩),
                    m_not HK (gokm_some rfl V27) (om_tmp V30) rfl V31,
                    m_pickf HK gokm_none (om_tmp V27) (om_tmp V31) V32,
                    m_move HK gokm_none (om_tmp V32) V33,
                    m_move HK (gokm_some rfl V33) (om_tmp V3) V34,
                    m_gtr HK (gokm_some rfl V33) (om_tmp V34) om_const (decide_eq_true (by omega)).symm V35,
                    m_move HK (gokm_some rfl V33) (om_tmp V35) V36,
                    m_field HK (gokm_some rfl V36) (f := 6) (s := 1) (by kernel_rfl) (by omega) (om_tmp V4) rfl V37,
                    m_load1 HK (gokm_some rfl V36) (by kernel_rfl) (om_tmp V37) g6 V38,
                    m_field HK (gokm_some rfl V36) (f := 2) (s := 1) (by kernel_rfl) (by omega) (om_tmp V1) rfl V39,
                    m_load1 HK (gokm_some rfl V36) (by kernel_rfl) (om_tmp V39) bx V40,
                    m_move HK (gokm_some rfl V36) (om_tmp V3) V41,
                    m_sub HK (gokm_some rfl V36) (om_tmp V41) om_const rfl (by omega) V42,
                    m_index HK (gokm_some rfl V36) (s := 7) (by kernel_rfl) (by omega) (by omega) (om_tmp V40) (om_tmp V42) (by rw [show ((k : Int) - 1).toNat = k - 1 from by omega]) V43,
                    m_field HK (gokm_some rfl V36) (f := 6) (s := 1) (by kernel_rfl) (by omega) (om_tmp V43) rfl V44,
                    m_load1 HK (gokm_some rfl V36) (by kernel_rfl) (om_tmp V44) p0 V45,
                    m_lss HK (gokm_some rfl V36) (om_tmp V38) (om_tmp V45) (decide_eq_true (by omega)).symm V46,
                    m_pickt HK (gokm_some rfl V33) (om_tmp V36) (om_tmp V46) V47,
                    m_pickf HK gokm_none (om_tmp V33) (om_tmp V47) V48,
                    m_move HK gokm_none (om_tmp V48) V49,
                    m_skip HK rfl rfl V49 (by intro e; cases e) (fun d h => by cases h; exact V50),
                    m_skip HK rfl rfl V49 (by intro e; cases e) (fun d h => by cases h; exact V51),
                    m_skip HK rfl rfl V49 (by intro e; cases e) (fun d h => by cases h; exact V52),
                    m_skip HK rfl rfl V49 (by intro e; cases e) (fun d h => by cases h; exact V53),
                    m_skip HK rfl rfl V49 (by intro e; cases e) (fun d h => by cases h; exact V54),
                    m_skip HK rfl rfl V49 (by intro e; cases e) (fun d h => by cases h; exact V55),
                    m_skip HK rfl rfl V49 (by intro e; cases e) (fun d h => by cases h; exact V56),
                    m_skip HK rfl rfl V49 (by intro e; cases e) (fun d h => by cases h; exact V57),
                    m_pickt HK gokm_none (om_tmp V49) om_const V58,
                    trivial⟩
                intro vs w5 hw5 hk5
                have k17 : vs 17 = .pointer (some ⟨wr.heap.size, 0, none⟩) := hk5 0 17 _ (by omega) rfl V17
                have k18 : vs 18 = .agg #[.int .i64 x1, .int .i64 x2, .int .i64 x3, .int .i64 x4, .int .i64 x5] := hk5 1 18 _ (by omega) rfl V18
                have k19 : vs 19 = .bool true := hk5 2 19 _ (by omega) rfl V19
                have k20 : vs 20 = .bool false := hk5 3 20 _ (by omega) rfl V20
                have k21 : vs 21 = .bool false := hk5 4 21 _ (by omega) rfl V21
                have k22 : vs 22 = .pointer (some ⟨wr.heap.size, 0 + 5, none⟩) := hk5 5 22 _ (by omega) rfl V22
                have k23 : vs 23 = .int .i64 (xt) := hk5 6 23 _ (by omega) rfl V23
                have k24 : vs 24 = .bool true := hk5 7 24 _ (by omega) rfl V24
                have k25 : vs 25 = .bool false := hk5 8 25 _ (by omega) rfl V25
                have k26 : vs 26 = .bool false := hk5 9 26 _ (by omega) rfl V26
                have k27 : vs 27 = .bool false := hk5 10 27 _ (by omega) rfl V27
                have k28 : vs 28 = .pointer (some ⟨wr.heap.size, 0 + 6, none⟩) := hk5 11 28 _ (by omega) rfl V28
                have k29 : vs 29 = .int .i64 (xl) := hk5 12 29 _ (by omega) rfl V29
                have k30 : vs 30 = .bool true := hk5 13 30 _ (by omega) rfl V30
                have k31 : vs 31 = .bool false := hk5 14 31 _ (by omega) rfl V31
                have k32 : vs 32 = .bool false := hk5 15 32 _ (by omega) rfl V32
                have k33 : vs 33 = .bool false := hk5 16 33 _ (by omega) rfl V33
                have k34 : vs 34 = .int .i64 ((k : Int)) := hk5 17 34 _ (by omega) rfl V34
                have k35 : vs 35 = .bool true := hk5 18 35 _ (by omega) rfl V35
                have k36 : vs 36 = .bool true := hk5 19 36 _ (by omega) rfl V36
                have k37 : vs 37 = .pointer (some ⟨wr.heap.size, 0 + 6, none⟩) := hk5 20 37 _ (by omega) rfl V37
                have k38 : vs 38 = .int .i64 (xl) := hk5 21 38 _ (by omega) rfl V38
                have k39 : vs 39 = .pointer (some ⟨w.heap.size, 0 + 2, none⟩) := hk5 22 39 _ (by omega) rfl V39
                have k40 : vs 40 = .slice (some ⟨b, off, none⟩) (n) (c) := hk5 23 40 _ (by omega) rfl V40
                have k41 : vs 41 = .int .i64 ((k : Int)) := hk5 24 41 _ (by omega) rfl V41
                have k42 : vs 42 = .int .i64 (((k : Int)) - (1)) := hk5 25 42 _ (by omega) rfl V42
                have k43 : vs 43 = .pointer (some ⟨b, off + (k - 1) * 7, none⟩) := hk5 26 43 _ (by omega) rfl V43
                have k44 : vs 44 = .pointer (some ⟨b, off + (k - 1) * 7 + 6, none⟩) := hk5 27 44 _ (by omega) rfl V44
                have k45 : vs 45 = .int .i64 (q0) := hk5 28 45 _ (by omega) rfl V45
                have k46 : vs 46 = .bool true := hk5 29 46 _ (by omega) rfl V46
                have k47 : vs 47 = .bool true := hk5 30 47 _ (by omega) rfl V47
                have k48 : vs 48 = .bool true := hk5 31 48 _ (by omega) rfl V48
                have k49 : vs 49 = .bool true := hk5 32 49 _ (by omega) rfl V49
                have k50 : vs 50 = undef := hk5 33 50 _ (by omega) rfl V50
                have k51 : vs 51 = undef := hk5 34 51 _ (by omega) rfl V51
                have k52 : vs 52 = undef := hk5 35 52 _ (by omega) rfl V52
                have k53 : vs 53 = undef := hk5 36 53 _ (by omega) rfl V53
                have k54 : vs 54 = undef := hk5 37 54 _ (by omega) rfl V54
                have k55 : vs 55 = undef := hk5 38 55 _ (by omega) rfl V55
                have k56 : vs 56 = undef := hk5 39 56 _ (by omega) rfl V56
                have k57 : vs 57 = undef := hk5 40 57 _ (by omega) rfl V57
                have k58 : vs 58 = .bool true := hk5 41 58 _ (by omega) rfl V58
                clear hk5 HK hL V1 V3 V4 V17 V18 V19 V20 V21 V22 V23 V24 V25 V26 V27 V28 V29 V30 V31 V32 V33 V34 V35 V36 V37 V38 V39 V40 V41 V42 V43 V44 V45 V46 V47 V48 V49 V50 V51 V52 V53 V54 V55 V56 V57 V58
                simp only [putL, Act.put, List.setIfInBounds_toArray, List.set_cons_zero, List.set_cons_succ, k17, k18, k19, k20, k21, k22, k23, k24, k25, k26, k27, k28, k29, k30, k31, k32, k33, k34, k35, k36, k37, k38, k39, k40, k41, k42, k43, k44, k45, k46, k47, k48, k49, k50, k51, k52, k53, k54, k55, k56, k57, k58]
                clear k17 k18 k19 k20 k21 k22 k23 k24 k25 k26 k27 k28 k29 k30 k31 k32 k33 k34 k35 k36 k37 k38 k39 k40 k41 k42 k43 k44 k45 k46 k47 k48 k49 k50 k51 k52 k53 k54 k55 k56 k57 k58
                have b5 := New.below hw5 hb4 hz4
                go_wp2
                go_ret
                exact ⟨ret_bool HE.out.symm, b5⟩
              · rcases hzs with ⟨hz0, v2⟩ | ⟨hz0, v2⟩
                · have hnext := Lib.hid (hr.next (by rw [HO.out, v1, v2, v3, v4, decide_eq_true (show q0 ≤ xl by omega)]; simp))
                  obtain ⟨L, hL⟩ : ∃ L : List (Nat × VT), L = [(1, tLit (.pointer (some ⟨w.heap.size, 0, none⟩))), (3, tLit (.int .i64 ((k : Int)))), (4, tLit (.pointer (some ⟨wr.heap.size, 0, none⟩))), (17, tLit (.pointer (some ⟨wr.heap.size, 0, none⟩))), (18, tLit (.agg #[.int .i64 x1, .int .i64 x2, .int .i64 x3, .int .i64 x4, .int .i64 x5])), (19, tLit (.bool true)), (20, tLit (.bool false)), (21, tLit (.bool false)), (22, tLit (.pointer (some ⟨wr.heap.size, 0 + 5, none⟩))), (23, tLit (.int .i64 (xt))), (24, tLit (.bool true)), (25, tLit (.bool false)), (26, tLit (.bool false)), (27, tLit (.bool false)), (28, tLit (.pointer (some ⟨wr.heap.size, 0 + 6, none⟩))), (29, tLit (.int .i64 (xl))), (30, tLit (.bool true)), (31, tLit (.bool false)), (32, tLit (.bool false)), (33, tLit (.bool false)), (34, tLit (.int .i64 ((k : Int)))), (35, tLit (.bool true)), (36, tLit (.bool true)), (37, tLit (.pointer (some ⟨wr.heap.size, 0 + 6, none⟩))), (38, tLit (.int .i64 (xl))), (39, tLit (.pointer (some ⟨w.heap.size, 0 + 2, none⟩))), (40, tLit (.slice (some ⟨b, off, none⟩) (n) (c))), (41, tLit (.int .i64 ((k : Int)))), (42, tLit (.int .i64 (((k : Int)) - (1)))), (43, tLit (.pointer (some ⟨b, off + (k - 1) * 7, none⟩))), (44, tLit (.pointer (some ⟨b, off + (k - 1) * 7 + 6, none⟩))), (45, tLit (.int .i64 (q0))), (46, tLit (.bool false)), (47, tLit (.bool false)), (48, tLit (.bool false)), (49, tLit (.bool false)), (50, tLit (.pointer (some ⟨w.heap.size, 0 + 2, none⟩))), (51, tLit (.slice (some ⟨b, off, none⟩) (n) (c))), (52, tLit (.int .i64 ((k : Int)))), (53, tSl 0 7 (k : Int).toNat ((ensV es).take ((k : Int).toNat * 7))), (54, tLit (.pointer (some ⟨wr.heap.size, 0, none⟩))), (55, tLit (.agg #[.int .i64 x1, .int .i64 x2, .int .i64 x3, .int .i64 x4, .int .i64 x5])), (56, tLit (.int .i64 (z))), (57, tLit (.bool false)), (58, tLit (.bool false))] := ⟨_, rfl⟩
                  have V1 : L.lookup 1 = some (tLit (.pointer (some ⟨w.heap.size, 0, none⟩))) := by rw [hL]; rfl
                  have V3 : L.lookup 3 = some (tLit (.int .i64 ((k : Int)))) := by rw [hL]; rfl
                  have V4 : L.lookup 4 = some (tLit (.pointer (some ⟨wr.heap.size, 0, none⟩))) := by rw [hL]; rfl
                  have V17 : L.lookup 17 = some (tLit (.pointer (some ⟨wr.heap.size, 0, none⟩))) := by rw [hL]; rfl
                  have V18 : L.lookup 18 = some (tLit (.agg #[.int .i64 x1, .int .i64 x2, .int .i64 x3, .int .i64 x4, .int .i64 x5])) := by rw [hL]; rfl
                  have V19 : L.lookup 19 = some (tLit (.bool true)) := by rw [hL]; rfl
                  have V20 : L.lookup 20 = some (tLit (.bool false)) := by rw [hL]; rfl
                  have V21 : L.lookup 21 = some (tLit (.bool false)) := by rw [hL]; rfl
                  have V22 : L.lookup 22 = some (tLit (.pointer (some ⟨wr.heap.size, 0 + 5, none⟩))) := by rw [hL]; rfl
                  have V23 : L.lookup 23 = some (tLit (.int .i64 (xt))) := by rw [hL]; rfl
                  have V24 : L.lookup 24 = some (tLit (.bool true)) := by rw [hL]; rfl
                  have V25 : L.lookup 25 = some (tLit (.bool false)) := by rw [hL]; rfl
                  have V26 : L.lookup 26 = some (tLit (.bool false)) := by rw [hL]; rfl
                  have V27 : L.lookup 27 = some (tLit (.bool false)) := by rw [hL]; rfl
                  have V28 : L.lookup 28 = some (tLit (.pointer (some ⟨wr.heap.size, 0 + 6, none⟩))) := by rw [hL]; rfl
                  have V29 : L.lookup 29 = some (tLit (.int .i64 (xl))) := by rw [hL]; rfl
                  have V30 : L.lookup 30 = some (tLit (.bool true)) := by rw [hL]; rfl
                  have V31 : L.lookup 31 = some (tLit (.bool false)) := by rw [hL]; rfl
                  have V32 : L.lookup 32 = some (tLit (.bool false)) := by rw [hL]; rfl
                  have V33 : L.lookup 33 = some (tLit (.bool false)) := by rw [hL]; rfl
                  have V34 : L.lookup 34 = some (tLit (.int .i64 ((k : Int)))) := by rw [hL]; rfl
                  have V35 : L.lookup 35 = some (tLit (.bool true)) := by rw [hL]; rfl
                  have V36 : L.lookup 36 = some (tLit (.bool true)) := by rw [hL]; rfl
                  have V37 : L.lookup 37 = some (tLit (.pointer (some ⟨wr.heap.size, 0 + 6, none⟩))) := by rw [hL]; rfl
                  have V38 : L.lookup 38 = some (tLit (.int .i64 (xl))) := by rw [hL]; rfl
                  have V39 : L.lookup 39 = some (tLit (.pointer (some ⟨w.heap.size, 0 + 2, none⟩))) := by rw [hL]; rfl
                  have V40 : L.lookup 40 = some (tLit (.slice (some ⟨b, off, none⟩) (n) (c))) := by rw [hL]; rfl
                  have V41 : L.lookup 41 = some (tLit (.int .i64 ((k : Int)))) := by rw [hL]; rfl
                  have V42 : L.lookup 42 = some (tLit (.int .i64 (((k : Int)) - (1)))) := by rw [hL]; rfl
                  have V43 : L.lookup 43 = some (tLit (.pointer (some ⟨b, off + (k - 1) * 7, none⟩))) := by rw [hL]; rfl
                  have V44 : L.lookup 44 = some (tLit (.pointer (some ⟨b, off + (k - 1) * 7 + 6, none⟩))) := by rw [hL]; rfl
                  have V45 : L.lookup 45 = some (tLit (.int .i64 (q0))) := by rw [hL]; rfl
                  have V46 : L.lookup 46 = some (tLit (.bool false)) := by rw [hL]; rfl
                  have V47 : L.lookup 47 = some (tLit (.bool false)) := by rw [hL]; rfl
                  have V48 : L.lookup 48 = some (tLit (.bool false)) := by rw [hL]; rfl
                  have V49 : L.lookup 49 = some (tLit (.bool false)) := by rw [hL]; rfl
                  have V50 : L.lookup 50 = some (tLit (.pointer (some ⟨w.heap.size, 0 + 2, none⟩))) := by rw [hL]; rfl
                  have V51 : L.lookup 51 = some (tLit (.slice (some ⟨b, off, none⟩) (n) (c))) := by rw [hL]; rfl
                  have V52 : L.lookup 52 = some (tLit (.int .i64 ((k : Int)))) := by rw [hL]; rfl
                  have V53 : L.lookup 53 = some (tSl 0 7 (k : Int).toNat ((ensV es).take ((k : Int).toNat * 7))) := by rw [hL]; rfl
                  have V54 : L.lookup 54 = some (tLit (.pointer (some ⟨wr.heap.size, 0, none⟩))) := by rw [hL]; rfl
                  have V55 : L.lookup 55 = some (tLit (.agg #[.int .i64 x1, .int .i64 x2, .int .i64 x3, .int .i64 x4, .int .i64 x5])) := by rw [hL]; rfl
                  have V56 : L.lookup 56 = some (tLit (.int .i64 (z))) := by rw [hL]; rfl
                  have V57 : L.lookup 57 = some (tLit (.bool false)) := by rw [hL]; rfl
                  have V58 : L.lookup 58 = some (tLit (.bool false)) := by rw [hL]; rfl
                  have HK : KeepL L := by rw [hL]; exact ⟨keep_lit _, keep_lit _, keep_lit _, keep_lit _, keep_lit _, keep_lit _, keep_lit _, keep_lit _, keep_lit _, keep_lit _, keep_lit _, keep_lit _, keep_lit _, keep_lit _, keep_lit _, keep_lit _, keep_lit _, keep_lit _, keep_lit _, keep_lit _, keep_lit _, keep_lit _, keep_lit _, keep_lit _, keep_lit _, keep_lit _, keep_lit _, keep_lit _, keep_lit _, keep_lit _, keep_lit _, keep_lit _, keep_lit _, keep_lit _, keep_lit _, keep_lit _, keep_lit _, keep_lit _, keep_lit _, keep_sl, keep_lit _, keep_lit _, keep_lit _, keep_lit _, keep_lit _, trivial⟩
                  refine wp_region_mix0 (by kernel_rfl) L 42 rfl [some 17, some 18, some 19, some 20, some 21, some 22, some 23, some 24, some 25, some 26, some 27, some 28, some 29, some 30, some 31, some 32, some 33, some 34, some 35, some 36, some 37, some 38, some 39, some 40, some 41, some 42, some 43, some 44, some 45, some 46, some 47, some 48, some 49, some 50, some 51, some 52, some 53, some 54, some 55, some 56, some 57, some 58] (by kernel_rfl) (by kernel_rfl) (by kernel_rfl) 3 (by rw [hL]; intro x hx; simp only [List.take_succ_cons, List.take_zero, List.mem_cons, List.not_mem_nil, or_false] at hx; rcases hx with rfl | rfl | rfl <;> rfl) (by rw [hL]; rfl) ?_ ?_
                  · clear hL
                    exact ⟨m_field HK gokm_none (f := 0) (s := 5) (by kernel_rfl) (by omega) (om_tmp V4) rfl V17,
                      m_loadn HK gokm_none (by kernel_rfl) (by kernel_rfl) (om_tmp V17) (by intro j v hj; rcases j with _ | _ | _ | _ | _ | j <;> simp at hj <;> subst hj <;> assumption) V18,
                      m_call HK gokm_none Try.func55 (by kernel_rfl) (by kernel_rfl) V19 (fun o b' wx hm hG ho => by
                        have e1 : b'.eval (.tmp 18) = .agg #[.int .i64 x1, .int .i64 x2, .int .i64 x3, .int .i64 x4, .int .i64 x5] := (om_tmp V18) o b' wx (hm _ (by simp)) ho
                        have e0 : ∀ v, b'.eval (.const v) = v := fun _ => rfl
                        rw [show (#[.tmp 18] : Array Operand).map b'.eval = #[.agg #[.int .i64 x1, .int .i64 x2, .int .i64 x3, .int .i64 x4, .int .i64 x5]] from by simp [e0, e1]]
                        exact (sFlow_is _ _ _ _ _ _).mono fun e w' h => ⟨_, h.1, by rw [h.2]; exact GrF.alloc _ _ _, by rw [v1]; rfl⟩),
                      m_not HK gokm_none (om_tmp V19) rfl V20,
                      m_move HK gokm_none (om_tmp V20) V21,
                      m_field HK (gokm_some rfl V21) (f := 5) (s := 1) (by kernel_rfl) (by omega) (om_tmp V4) rfl V22,
                      m_load1 HK (gokm_some rfl V21) (by kernel_rfl) (om_tmp V22) g5 V23,
                      m_call HK (gokm_some rfl V21) Try.func54 (by kernel_rfl) (by kernel_rfl) V24 (fun o b' wx hm hG ho => by
                        have e1 : b'.eval (.tmp 23) = .int .i64 xt := (om_tmp V23) o b' wx (hm _ (by simp)) ho
                        have e0 : ∀ v, b'.eval (.const v) = v := fun _ => rfl
                        rw [show (#[.tmp 23, .const (.int .i64 0), .const (.int .i64 30)] : Array Operand).map b'.eval = #[.int .i64 xt, .int .i64 0, .int .i64 30] from by simp [e0, e1]]
                        exact (l1In_any _ _ _ _).mono fun e w' h => ⟨_, h.1, by rw [← h.2]; exact GrF.refl _ _, by rw [v3]; rfl⟩),
                      m_not HK (gokm_some rfl V21) (om_tmp V24) rfl V25,
                      m_pickf HK gokm_none (om_tmp V21) (om_tmp V25) V26,
                      m_move HK gokm_none (om_tmp V26) V27,
                      m_field HK (gokm_some rfl V27) (f := 6) (s := 1) (by kernel_rfl) (by omega) (om_tmp V4) rfl V28,
                      m_load1 HK (gokm_some rfl V27) (by kernel_rfl) (om_tmp V28) g6 V29,
                      m_call HK (gokm_some rfl V27) Try.func54 (by kernel_rfl) (by kernel_rfl) V30 (fun o b' wx hm hG ho => by
                        have e1 : b'.eval (.tmp 29) = .int .i64 xl := (om_tmp V29) o b' wx (hm _ (by simp)) ho
                        have e0 : ∀ v, b'.eval (.const v) = v := fun _ => rfl
                        rw [show (#[.tmp 29, .const (.int .i64 0), .const (.int .i64 100000)] : Array Operand).map b'.eval = #[.int .i64 xl, .int .i64 0, .int .i64 100000] from by simp [e0, e1]]
                        exact (l1In_any _ _ _ _).mono fun e w' h => ⟨_, h.1, by rw [← h.2]; exact GrF.refl _ _, by rw [v4]; rfl⟩),
                      m_not HK (gokm_some rfl V27) (om_tmp V30) rfl V31,
                      m_pickf HK gokm_none (om_tmp V27) (om_tmp V31) V32,
                      m_move HK gokm_none (om_tmp V32) V33,
                      m_move HK (gokm_some rfl V33) (om_tmp V3) V34,
                      m_gtr HK (gokm_some rfl V33) (om_tmp V34) om_const (decide_eq_true (by omega)).symm V35,
                      m_move HK (gokm_some rfl V33) (om_tmp V35) V36,
                      m_field HK (gokm_some rfl V36) (f := 6) (s := 1) (by kernel_rfl) (by omega) (om_tmp V4) rfl V37,
                      m_load1 HK (gokm_some rfl V36) (by kernel_rfl) (om_tmp V37) g6 V38,
                      m_field HK (gokm_some rfl V36) (f := 2) (s := 1) (by kernel_rfl) (by omega) (om_tmp V1) rfl V39,
                      m_load1 HK (gokm_some rfl V36) (by kernel_rfl) (om_tmp V39) bx V40,
                      m_move HK (gokm_some rfl V36) (om_tmp V3) V41,
                      m_sub HK (gokm_some rfl V36) (om_tmp V41) om_const rfl (by omega) V42,
                      m_index HK (gokm_some rfl V36) (s := 7) (by kernel_rfl) (by omega) (by omega) (om_tmp V40) (om_tmp V42) (by rw [show ((k : Int) - 1).toNat = k - 1 from by omega]) V43,
                      m_field HK (gokm_some rfl V36) (f := 6) (s := 1) (by kernel_rfl) (by omega) (om_tmp V43) rfl V44,
                      m_load1 HK (gokm_some rfl V36) (by kernel_rfl) (om_tmp V44) p0 V45,
                      m_lss HK (gokm_some rfl V36) (om_tmp V38) (om_tmp V45) (decide_eq_false (by omega)).symm V46,
                      m_pickt HK (gokm_some rfl V33) (om_tmp V36) (om_tmp V46) V47,
                      m_pickf HK gokm_none (om_tmp V33) (om_tmp V47) V48,
                      m_move HK gokm_none (om_tmp V48) V49,
                      m_field HK (gokm_some rfl V49) (f := 2) (s := 1) (by kernel_rfl) (by omega) (om_tmp V1) rfl V50,
                      m_load1 HK (gokm_some rfl V49) (by kernel_rfl) (om_tmp V50) bx V51,
                      m_move HK (gokm_some rfl V49) (om_tmp V3) V52,
                      m_cuthT HK (gokm_some rfl V49) (by kernel_rfl) (om_tmp V51) hsE (Nat.le_refl _) hnc hmx (om_tmp V52) (by omega) (by omega) V53,
                      m_field HK (gokm_some rfl V49) (f := 0) (s := 5) (by kernel_rfl) (by omega) (om_tmp V4) rfl V54,
                      m_loadn HK (gokm_some rfl V49) (by kernel_rfl) (by kernel_rfl) (om_tmp V54) (by intro j v hj; rcases j with _ | _ | _ | _ | _ | j <;> simp at hj <;> subst hj <;> assumption) V55,
                      m_call HK (gokm_some rfl V49) Try.func56 (by kernel_rfl) (by kernel_rfl) V56 (fun o b' wx hm hG ho => by
                        obtain ⟨A', c', e1, _, _, hsl⟩ := (om_tmp V53) o b' wx (hm _ (by simp)) ho
                        have e2 : b'.eval (.tmp 55) = .agg #[.int .i64 x1, .int .i64 x2, .int .i64 x3, .int .i64 x4, .int .i64 x5] := (om_tmp V55) o b' wx (hm _ (by simp)) ho
                        rw [HTV.out, Int.toNat_natCast] at hsl
                        rw [show (#[.tmp 53, .tmp 55] : Array Operand).map b'.eval = #[.slice A' (k : Int).toNat c', .agg #[.int .i64 x1, .int .i64 x2, .int .i64 x3, .int .i64 x4, .int .i64 x5]] from by simp [e1, e2]]
                        rw [Int.toNat_natCast]
                        exact (sPlace_any A' k c' (es.take k) x1 x2 x3 x4 x5 xt xl wx hsl (Nat.le_refl _) (by omega)).mono fun e w' h => ⟨_, h.1, New.of_below h.2, by rw [HPL.out]; rfl⟩),
                      m_geq HK (gokm_some rfl V49) (om_tmp V56) om_const (decide_eq_false hz0).symm V57,
                      m_pickf HK gokm_none (om_tmp V49) (om_tmp V57) V58,
                      trivial⟩
                  intro vs w5 hw5 hk5
                  have k17 : vs 17 = .pointer (some ⟨wr.heap.size, 0, none⟩) := hk5 0 17 _ (by omega) rfl V17
                  have k18 : vs 18 = .agg #[.int .i64 x1, .int .i64 x2, .int .i64 x3, .int .i64 x4, .int .i64 x5] := hk5 1 18 _ (by omega) rfl V18
                  have k19 : vs 19 = .bool true := hk5 2 19 _ (by omega) rfl V19
                  have k20 : vs 20 = .bool false := hk5 3 20 _ (by omega) rfl V20
                  have k21 : vs 21 = .bool false := hk5 4 21 _ (by omega) rfl V21
                  have k22 : vs 22 = .pointer (some ⟨wr.heap.size, 0 + 5, none⟩) := hk5 5 22 _ (by omega) rfl V22
                  have k23 : vs 23 = .int .i64 (xt) := hk5 6 23 _ (by omega) rfl V23
                  have k24 : vs 24 = .bool true := hk5 7 24 _ (by omega) rfl V24
                  have k25 : vs 25 = .bool false := hk5 8 25 _ (by omega) rfl V25
                  have k26 : vs 26 = .bool false := hk5 9 26 _ (by omega) rfl V26
                  have k27 : vs 27 = .bool false := hk5 10 27 _ (by omega) rfl V27
                  have k28 : vs 28 = .pointer (some ⟨wr.heap.size, 0 + 6, none⟩) := hk5 11 28 _ (by omega) rfl V28
                  have k29 : vs 29 = .int .i64 (xl) := hk5 12 29 _ (by omega) rfl V29
                  have k30 : vs 30 = .bool true := hk5 13 30 _ (by omega) rfl V30
                  have k31 : vs 31 = .bool false := hk5 14 31 _ (by omega) rfl V31
                  have k32 : vs 32 = .bool false := hk5 15 32 _ (by omega) rfl V32
                  have k33 : vs 33 = .bool false := hk5 16 33 _ (by omega) rfl V33
                  have k34 : vs 34 = .int .i64 ((k : Int)) := hk5 17 34 _ (by omega) rfl V34
                  have k35 : vs 35 = .bool true := hk5 18 35 _ (by omega) rfl V35
                  have k36 : vs 36 = .bool true := hk5 19 36 _ (by omega) rfl V36
                  have k37 : vs 37 = .pointer (some ⟨wr.heap.size, 0 + 6, none⟩) := hk5 20 37 _ (by omega) rfl V37
                  have k38 : vs 38 = .int .i64 (xl) := hk5 21 38 _ (by omega) rfl V38
                  have k39 : vs 39 = .pointer (some ⟨w.heap.size, 0 + 2, none⟩) := hk5 22 39 _ (by omega) rfl V39
                  have k40 : vs 40 = .slice (some ⟨b, off, none⟩) (n) (c) := hk5 23 40 _ (by omega) rfl V40
                  have k41 : vs 41 = .int .i64 ((k : Int)) := hk5 24 41 _ (by omega) rfl V41
                  have k42 : vs 42 = .int .i64 (((k : Int)) - (1)) := hk5 25 42 _ (by omega) rfl V42
                  have k43 : vs 43 = .pointer (some ⟨b, off + (k - 1) * 7, none⟩) := hk5 26 43 _ (by omega) rfl V43
                  have k44 : vs 44 = .pointer (some ⟨b, off + (k - 1) * 7 + 6, none⟩) := hk5 27 44 _ (by omega) rfl V44
                  have k45 : vs 45 = .int .i64 (q0) := hk5 28 45 _ (by omega) rfl V45
                  have k46 : vs 46 = .bool false := hk5 29 46 _ (by omega) rfl V46
                  have k47 : vs 47 = .bool false := hk5 30 47 _ (by omega) rfl V47
                  have k48 : vs 48 = .bool false := hk5 31 48 _ (by omega) rfl V48
                  have k49 : vs 49 = .bool false := hk5 32 49 _ (by omega) rfl V49
                  have k50 : vs 50 = .pointer (some ⟨w.heap.size, 0 + 2, none⟩) := hk5 33 50 _ (by omega) rfl V50
                  have k51 : vs 51 = .slice (some ⟨b, off, none⟩) (n) (c) := hk5 34 51 _ (by omega) rfl V51
                  have k52 : vs 52 = .int .i64 ((k : Int)) := hk5 35 52 _ (by omega) rfl V52
                  have k53 := hk5 36 53 _ (by omega) rfl V53
                  have k54 : vs 54 = .pointer (some ⟨wr.heap.size, 0, none⟩) := hk5 37 54 _ (by omega) rfl V54
                  have k55 : vs 55 = .agg #[.int .i64 x1, .int .i64 x2, .int .i64 x3, .int .i64 x4, .int .i64 x5] := hk5 38 55 _ (by omega) rfl V55
                  have k56 : vs 56 = .int .i64 (z) := hk5 39 56 _ (by omega) rfl V56
                  have k57 : vs 57 = .bool false := hk5 40 57 _ (by omega) rfl V57
                  have k58 : vs 58 = .bool false := hk5 41 58 _ (by omega) rfl V58
                  clear hk5 HK hL V1 V3 V4 V17 V18 V19 V20 V21 V22 V23 V24 V25 V26 V27 V28 V29 V30 V31 V32 V33 V34 V35 V36 V37 V38 V39 V40 V41 V42 V43 V44 V45 V46 V47 V48 V49 V50 V51 V52 V53 V54 V55 V56 V57 V58
                  simp only [putL, Act.put, List.setIfInBounds_toArray, List.set_cons_zero, List.set_cons_succ, k17, k18, k19, k20, k21, k22, k23, k24, k25, k26, k27, k28, k29, k30, k31, k32, k33, k34, k35, k36, k37, k38, k39, k40, k41, k42, k43, k44, k45, k46, k47, k48, k49, k50, k51, k52, k54, k55, k56, k57, k58]
                  clear k17 k18 k19 k20 k21 k22 k23 k24 k25 k26 k27 k28 k29 k30 k31 k32 k33 k34 k35 k36 k37 k38 k39 k40 k41 k42 k43 k44 k45 k46 k47 k48 k49 k50 k51 k52 k54 k55 k56 k57 k58
                  have b5 := New.below hw5 hb4 hz4
                  have hbk5 := New.blk hw5 hbk4
                  clear hbk4
                  go_wp2
                  go_roundw
                  case rel => exact ⟨k + 1, by omega, by go_num, hnext.out, hbk5, b5⟩
                  case measure => simp [intOf]; omega
                · have HE := Lib.hid (tab_bad (sz := sz) (st := st) hlk (by rw [HO.out, v2]; simp))
                  obtain ⟨L, hL⟩ : ∃ L : List (Nat × VT), L = [(1, tLit (.pointer (some ⟨w.heap.size, 0, none⟩))), (3, tLit (.int .i64 ((k : Int)))), (4, tLit (.pointer (some ⟨wr.heap.size, 0, none⟩))), (17, tLit (.pointer (some ⟨wr.heap.size, 0, none⟩))), (18, tLit (.agg #[.int .i64 x1, .int .i64 x2, .int .i64 x3, .int .i64 x4, .int .i64 x5])), (19, tLit (.bool true)), (20, tLit (.bool false)), (21, tLit (.bool false)), (22, tLit (.pointer (some ⟨wr.heap.size, 0 + 5, none⟩))), (23, tLit (.int .i64 (xt))), (24, tLit (.bool true)), (25, tLit (.bool false)), (26, tLit (.bool false)), (27, tLit (.bool false)), (28, tLit (.pointer (some ⟨wr.heap.size, 0 + 6, none⟩))), (29, tLit (.int .i64 (xl))), (30, tLit (.bool true)), (31, tLit (.bool false)), (32, tLit (.bool false)), (33, tLit (.bool false)), (34, tLit (.int .i64 ((k : Int)))), (35, tLit (.bool true)), (36, tLit (.bool true)), (37, tLit (.pointer (some ⟨wr.heap.size, 0 + 6, none⟩))), (38, tLit (.int .i64 (xl))), (39, tLit (.pointer (some ⟨w.heap.size, 0 + 2, none⟩))), (40, tLit (.slice (some ⟨b, off, none⟩) (n) (c))), (41, tLit (.int .i64 ((k : Int)))), (42, tLit (.int .i64 (((k : Int)) - (1)))), (43, tLit (.pointer (some ⟨b, off + (k - 1) * 7, none⟩))), (44, tLit (.pointer (some ⟨b, off + (k - 1) * 7 + 6, none⟩))), (45, tLit (.int .i64 (q0))), (46, tLit (.bool false)), (47, tLit (.bool false)), (48, tLit (.bool false)), (49, tLit (.bool false)), (50, tLit (.pointer (some ⟨w.heap.size, 0 + 2, none⟩))), (51, tLit (.slice (some ⟨b, off, none⟩) (n) (c))), (52, tLit (.int .i64 ((k : Int)))), (53, tSl 0 7 (k : Int).toNat ((ensV es).take ((k : Int).toNat * 7))), (54, tLit (.pointer (some ⟨wr.heap.size, 0, none⟩))), (55, tLit (.agg #[.int .i64 x1, .int .i64 x2, .int .i64 x3, .int .i64 x4, .int .i64 x5])), (56, tLit (.int .i64 (z))), (57, tLit (.bool true)), (58, tLit (.bool true))] := ⟨_, rfl⟩
                  have V1 : L.lookup 1 = some (tLit (.pointer (some ⟨w.heap.size, 0, none⟩))) := by rw [hL]; rfl
                  have V3 : L.lookup 3 = some (tLit (.int .i64 ((k : Int)))) := by rw [hL]; rfl
                  have V4 : L.lookup 4 = some (tLit (.pointer (some ⟨wr.heap.size, 0, none⟩))) := by rw [hL]; rfl
                  have V17 : L.lookup 17 = some (tLit (.pointer (some ⟨wr.heap.size, 0, none⟩))) := by rw [hL]; rfl
                  have V18 : L.lookup 18 = some (tLit (.agg #[.int .i64 x1, .int .i64 x2, .int .i64 x3, .int .i64 x4, .int .i64 x5])) := by rw [hL]; rfl
                  have V19 : L.lookup 19 = some (tLit (.bool true)) := by rw [hL]; rfl
                  have V20 : L.lookup 20 = some (tLit (.bool false)) := by rw [hL]; rfl
                  have V21 : L.lookup 21 = some (tLit (.bool false)) := by rw [hL]; rfl
                  have V22 : L.lookup 22 = some (tLit (.pointer (some ⟨wr.heap.size, 0 + 5, none⟩))) := by rw [hL]; rfl
                  have V23 : L.lookup 23 = some (tLit (.int .i64 (xt))) := by rw [hL]; rfl
                  have V24 : L.lookup 24 = some (tLit (.bool true)) := by rw [hL]; rfl
                  have V25 : L.lookup 25 = some (tLit (.bool false)) := by rw [hL]; rfl
                  have V26 : L.lookup 26 = some (tLit (.bool false)) := by rw [hL]; rfl
                  have V27 : L.lookup 27 = some (tLit (.bool false)) := by rw [hL]; rfl
                  have V28 : L.lookup 28 = some (tLit (.pointer (some ⟨wr.heap.size, 0 + 6, none⟩))) := by rw [hL]; rfl
                  have V29 : L.lookup 29 = some (tLit (.int .i64 (xl))) := by rw [hL]; rfl
                  have V30 : L.lookup 30 = some (tLit (.bool true)) := by rw [hL]; rfl
                  have V31 : L.lookup 31 = some (tLit (.bool false)) := by rw [hL]; rfl
                  have V32 : L.lookup 32 = some (tLit (.bool false)) := by rw [hL]; rfl
                  have V33 : L.lookup 33 = some (tLit (.bool false)) := by rw [hL]; rfl
                  have V34 : L.lookup 34 = some (tLit (.int .i64 ((k : Int)))) := by rw [hL]; rfl
                  have V35 : L.lookup 35 = some (tLit (.bool true)) := by rw [hL]; rfl
                  have V36 : L.lookup 36 = some (tLit (.bool true)) := by rw [hL]; rfl
                  have V37 : L.lookup 37 = some (tLit (.pointer (some ⟨wr.heap.size, 0 + 6, none⟩))) := by rw [hL]; rfl
                  have V38 : L.lookup 38 = some (tLit (.int .i64 (xl))) := by rw [hL]; rfl
                  have V39 : L.lookup 39 = some (tLit (.pointer (some ⟨w.heap.size, 0 + 2, none⟩))) := by rw [hL]; rfl
                  have V40 : L.lookup 40 = some (tLit (.slice (some ⟨b, off, none⟩) (n) (c))) := by rw [hL]; rfl
                  have V41 : L.lookup 41 = some (tLit (.int .i64 ((k : Int)))) := by rw [hL]; rfl
                  have V42 : L.lookup 42 = some (tLit (.int .i64 (((k : Int)) - (1)))) := by rw [hL]; rfl
                  have V43 : L.lookup 43 = some (tLit (.pointer (some ⟨b, off + (k - 1) * 7, none⟩))) := by rw [hL]; rfl
                  have V44 : L.lookup 44 = some (tLit (.pointer (some ⟨b, off + (k - 1) * 7 + 6, none⟩))) := by rw [hL]; rfl
                  have V45 : L.lookup 45 = some (tLit (.int .i64 (q0))) := by rw [hL]; rfl
                  have V46 : L.lookup 46 = some (tLit (.bool false)) := by rw [hL]; rfl
                  have V47 : L.lookup 47 = some (tLit (.bool false)) := by rw [hL]; rfl
                  have V48 : L.lookup 48 = some (tLit (.bool false)) := by rw [hL]; rfl
                  have V49 : L.lookup 49 = some (tLit (.bool false)) := by rw [hL]; rfl
                  have V50 : L.lookup 50 = some (tLit (.pointer (some ⟨w.heap.size, 0 + 2, none⟩))) := by rw [hL]; rfl
                  have V51 : L.lookup 51 = some (tLit (.slice (some ⟨b, off, none⟩) (n) (c))) := by rw [hL]; rfl
                  have V52 : L.lookup 52 = some (tLit (.int .i64 ((k : Int)))) := by rw [hL]; rfl
                  have V53 : L.lookup 53 = some (tSl 0 7 (k : Int).toNat ((ensV es).take ((k : Int).toNat * 7))) := by rw [hL]; rfl
                  have V54 : L.lookup 54 = some (tLit (.pointer (some ⟨wr.heap.size, 0, none⟩))) := by rw [hL]; rfl
                  have V55 : L.lookup 55 = some (tLit (.agg #[.int .i64 x1, .int .i64 x2, .int .i64 x3, .int .i64 x4, .int .i64 x5])) := by rw [hL]; rfl
                  have V56 : L.lookup 56 = some (tLit (.int .i64 (z))) := by rw [hL]; rfl
                  have V57 : L.lookup 57 = some (tLit (.bool true)) := by rw [hL]; rfl
                  have V58 : L.lookup 58 = some (tLit (.bool true)) := by rw [hL]; rfl
                  have HK : KeepL L := by rw [hL]; exact ⟨keep_lit _, keep_lit _, keep_lit _, keep_lit _, keep_lit _, keep_lit _, keep_lit _, keep_lit _, keep_lit _, keep_lit _, keep_lit _, keep_lit _, keep_lit _, keep_lit _, keep_lit _, keep_lit _, keep_lit _, keep_lit _, keep_lit _, keep_lit _, keep_lit _, keep_lit _, keep_lit _, keep_lit _, keep_lit _, keep_lit _, keep_lit _, keep_lit _, keep_lit _, keep_lit _, keep_lit _, keep_lit _, keep_lit _, keep_lit _, keep_lit _, keep_lit _, keep_lit _, keep_lit _, keep_lit _, keep_sl, keep_lit _, keep_lit _, keep_lit _, keep_lit _, keep_lit _, trivial⟩
                  refine wp_region_mix0 (by kernel_rfl) L 42 rfl [some 17, some 18, some 19, some 20, some 21, some 22, some 23, some 24, some 25, some 26, some 27, some 28, some 29, some 30, some 31, some 32, some 33, some 34, some 35, some 36, some 37, some 38, some 39, some 40, some 41, some 42, some 43, some 44, some 45, some 46, some 47, some 48, some 49, some 50, some 51, some 52, some 53, some 54, some 55, some 56, some 57, some 58] (by kernel_rfl) (by kernel_rfl) (by kernel_rfl) 3 (by rw [hL]; intro x hx; simp only [List.take_succ_cons, List.take_zero, List.mem_cons, List.not_mem_nil, or_false] at hx; rcases hx with rfl | rfl | rfl <;> rfl) (by rw [hL]; rfl) ?_ ?_
                  · clear hL
                    exact ⟨m_field HK gokm_none (f := 0) (s := 5) (by kernel_rfl) (by omega) (om_tmp V4) rfl V17,
                      m_loadn HK gokm_none (by kernel_rfl) (by kernel_rfl) (om_tmp V17) (by intro j v hj; rcases j with _ | _ | _ | _ | _ | j <;> simp at hj <;> subst hj <;> assumption) V18,
                      m_call HK gokm_none Try.func55 (by kernel_rfl) (by kernel_rfl) V19 (fun o b' wx hm hG ho => by
                        have e1 : b'.eval (.tmp 18) = .agg #[.int .i64 x1, .int .i64 x2, .int .i64 x3, .int .i64 x4, .int .i64 x5] := (om_tmp V18) o b' wx (hm _ (by simp)) ho
                        have e0 : ∀ v, b'.eval (.const v) = v := fun _ => rfl
                        rw [show (#[.tmp 18] : Array Operand).map b'.eval = #[.agg #[.int .i64 x1, .int .i64 x2, .int .i64 x3, .int .i64 x4, .int .i64 x5]] from by simp [e0, e1]]
                        exact (sFlow_is _ _ _ _ _ _).mono fun e w' h => ⟨_, h.1, by rw [h.2]; exact GrF.alloc _ _ _, by rw [v1]; rfl⟩),
                      m_not HK gokm_none (om_tmp V19) rfl V20,
                      m_move HK gokm_none (om_tmp V20) V21,
                      m_field HK (gokm_some rfl V21) (f := 5) (s := 1) (by kernel_rfl) (by omega) (om_tmp V4) rfl V22,
                      m_load1 HK (gokm_some rfl V21) (by kernel_rfl) (om_tmp V22) g5 V23,
                      m_call HK (gokm_some rfl V21) Try.func54 (by kernel_rfl) (by kernel_rfl) V24 (fun o b' wx hm hG ho => by
                        have e1 : b'.eval (.tmp 23) = .int .i64 xt := (om_tmp V23) o b' wx (hm _ (by simp)) ho
                        have e0 : ∀ v, b'.eval (.const v) = v := fun _ => rfl
                        rw [show (#[.tmp 23, .const (.int .i64 0), .const (.int .i64 30)] : Array Operand).map b'.eval = #[.int .i64 xt, .int .i64 0, .int .i64 30] from by simp [e0, e1]]
                        exact (l1In_any _ _ _ _).mono fun e w' h => ⟨_, h.1, by rw [← h.2]; exact GrF.refl _ _, by rw [v3]; rfl⟩),
                      m_not HK (gokm_some rfl V21) (om_tmp V24) rfl V25,
                      m_pickf HK gokm_none (om_tmp V21) (om_tmp V25) V26,
                      m_move HK gokm_none (om_tmp V26) V27,
                      m_field HK (gokm_some rfl V27) (f := 6) (s := 1) (by kernel_rfl) (by omega) (om_tmp V4) rfl V28,
                      m_load1 HK (gokm_some rfl V27) (by kernel_rfl) (om_tmp V28) g6 V29,
                      m_call HK (gokm_some rfl V27) Try.func54 (by kernel_rfl) (by kernel_rfl) V30 (fun o b' wx hm hG ho => by
                        have e1 : b'.eval (.tmp 29) = .int .i64 xl := (om_tmp V29) o b' wx (hm _ (by simp)) ho
                        have e0 : ∀ v, b'.eval (.const v) = v := fun _ => rfl
                        rw [show (#[.tmp 29, .const (.int .i64 0), .const (.int .i64 100000)] : Array Operand).map b'.eval = #[.int .i64 xl, .int .i64 0, .int .i64 100000] from by simp [e0, e1]]
                        exact (l1In_any _ _ _ _).mono fun e w' h => ⟨_, h.1, by rw [← h.2]; exact GrF.refl _ _, by rw [v4]; rfl⟩),
                      m_not HK (gokm_some rfl V27) (om_tmp V30) rfl V31,
                      m_pickf HK gokm_none (om_tmp V27) (om_tmp V31) V32,
                      m_move HK gokm_none (om_tmp V32) V33,
                      m_move HK (gokm_some rfl V33) (om_tmp V3) V34,
                      m_gtr HK (gokm_some rfl V33) (om_tmp V34) om_const (decide_eq_true (by omega)).symm V35,
                      m_move HK (gokm_some rfl V33) (om_tmp V35) V36,
                      m_field HK (gokm_some rfl V36) (f := 6) (s := 1) (by kernel_rfl) (by omega) (om_tmp V4) rfl V37,
                      m_load1 HK (gokm_some rfl V36) (by kernel_rfl) (om_tmp V37) g6 V38,
                      m_field HK (gokm_some rfl V36) (f := 2) (s := 1) (by kernel_rfl) (by omega) (om_tmp V1) rfl V39,
                      m_load1 HK (gokm_some rfl V36) (by kernel_rfl) (om_tmp V39) bx V40,
                      m_move HK (gokm_some rfl V36) (om_tmp V3) V41,
                      m_sub HK (gokm_some rfl V36) (om_tmp V41) om_const rfl (by omega) V42,
                      m_index HK (gokm_some rfl V36) (s := 7) (by kernel_rfl) (by omega) (by omega) (om_tmp V40) (om_tmp V42) (by rw [show ((k : Int) - 1).toNat = k - 1 from by omega]) V43,
                      m_field HK (gokm_some rfl V36) (f := 6) (s := 1) (by kernel_rfl) (by omega) (om_tmp V43) rfl V44,
                      m_load1 HK (gokm_some rfl V36) (by kernel_rfl) (om_tmp V44) p0 V45,
                      m_lss HK (gokm_some rfl V36) (om_tmp V38) (om_tmp V45) (decide_eq_false (by omega)).symm V46,
                      m_pickt HK (gokm_some rfl V33) (om_tmp V36) (om_tmp V46) V47,
                      m_pickf HK gokm_none (om_tmp V33) (om_tmp V47) V48,
                      m_move HK gokm_none (om_tmp V48) V49,
                      m_field HK (gokm_some rfl V49) (f := 2) (s := 1) (by kernel_rfl) (by omega) (om_tmp V1) rfl V50,
                      m_load1 HK (gokm_some rfl V49) (by kernel_rfl) (om_tmp V50) bx V51,
                      m_move HK (gokm_some rfl V49) (om_tmp V3) V52,
                      m_cuthT HK (gokm_some rfl V49) (by kernel_rfl) (om_tmp V51) hsE (Nat.le_refl _) hnc hmx (om_tmp V52) (by omega) (by omega) V53,
                      m_field HK (gokm_some rfl V49) (f := 0) (s := 5) (by kernel_rfl) (by omega) (om_tmp V4) rfl V54,
                      m_loadn HK (gokm_some rfl V49) (by kernel_rfl) (by kernel_rfl) (om_tmp V54) (by intro j v hj; rcases j with _ | _ | _ | _ | _ | j <;> simp at hj <;> subst hj <;> assumption) V55,
                      m_call HK (gokm_some rfl V49) Try.func56 (by kernel_rfl) (by kernel_rfl) V56 (fun o b' wx hm hG ho => by
                        obtain ⟨A', c', e1, _, _, hsl⟩ := (om_tmp V53) o b' wx (hm _ (by simp)) ho
                        have e2 : b'.eval (.tmp 55) = .agg #[.int .i64 x1, .int .i64 x2, .int .i64 x3, .int .i64 x4, .int .i64 x5] := (om_tmp V55) o b' wx (hm _ (by simp)) ho
                        rw [HTV.out, Int.toNat_natCast] at hsl
                        rw [show (#[.tmp 53, .tmp 55] : Array Operand).map b'.eval = #[.slice A' (k : Int).toNat c', .agg #[.int .i64 x1, .int .i64 x2, .int .i64 x3, .int .i64 x4, .int .i64 x5]] from by simp [e1, e2]]
                        rw [Int.toNat_natCast]
                        exact (sPlace_any A' k c' (es.take k) x1 x2 x3 x4 x5 xt xl wx hsl (Nat.le_refl _) (by omega)).mono fun e w' h => ⟨_, h.1, New.of_below h.2, by rw [HPL.out]; rfl⟩),
                      m_geq HK (gokm_some rfl V49) (om_tmp V56) om_const (decide_eq_true hz0).symm V57,
                      m_pickf HK gokm_none (om_tmp V49) (om_tmp V57) V58,
                      trivial⟩
                  intro vs w5 hw5 hk5
                  have k17 : vs 17 = .pointer (some ⟨wr.heap.size, 0, none⟩) := hk5 0 17 _ (by omega) rfl V17
                  have k18 : vs 18 = .agg #[.int .i64 x1, .int .i64 x2, .int .i64 x3, .int .i64 x4, .int .i64 x5] := hk5 1 18 _ (by omega) rfl V18
                  have k19 : vs 19 = .bool true := hk5 2 19 _ (by omega) rfl V19
                  have k20 : vs 20 = .bool false := hk5 3 20 _ (by omega) rfl V20
                  have k21 : vs 21 = .bool false := hk5 4 21 _ (by omega) rfl V21
                  have k22 : vs 22 = .pointer (some ⟨wr.heap.size, 0 + 5, none⟩) := hk5 5 22 _ (by omega) rfl V22
                  have k23 : vs 23 = .int .i64 (xt) := hk5 6 23 _ (by omega) rfl V23
                  have k24 : vs 24 = .bool true := hk5 7 24 _ (by omega) rfl V24
                  have k25 : vs 25 = .bool false := hk5 8 25 _ (by omega) rfl V25
                  have k26 : vs 26 = .bool false := hk5 9 26 _ (by omega) rfl V26
                  have k27 : vs 27 = .bool false := hk5 10 27 _ (by omega) rfl V27
                  have k28 : vs 28 = .pointer (some ⟨wr.heap.size, 0 + 6, none⟩) := hk5 11 28 _ (by omega) rfl V28
                  have k29 : vs 29 = .int .i64 (xl) := hk5 12 29 _ (by omega) rfl V29
                  have k30 : vs 30 = .bool true := hk5 13 30 _ (by omega) rfl V30
                  have k31 : vs 31 = .bool false := hk5 14 31 _ (by omega) rfl V31
                  have k32 : vs 32 = .bool false := hk5 15 32 _ (by omega) rfl V32
                  have k33 : vs 33 = .bool false := hk5 16 33 _ (by omega) rfl V33
                  have k34 : vs 34 = .int .i64 ((k : Int)) := hk5 17 34 _ (by omega) rfl V34
                  have k35 : vs 35 = .bool true := hk5 18 35 _ (by omega) rfl V35
                  have k36 : vs 36 = .bool true := hk5 19 36 _ (by omega) rfl V36
                  have k37 : vs 37 = .pointer (some ⟨wr.heap.size, 0 + 6, none⟩) := hk5 20 37 _ (by omega) rfl V37
                  have k38 : vs 38 = .int .i64 (xl) := hk5 21 38 _ (by omega) rfl V38
                  have k39 : vs 39 = .pointer (some ⟨w.heap.size, 0 + 2, none⟩) := hk5 22 39 _ (by omega) rfl V39
                  have k40 : vs 40 = .slice (some ⟨b, off, none⟩) (n) (c) := hk5 23 40 _ (by omega) rfl V40
                  have k41 : vs 41 = .int .i64 ((k : Int)) := hk5 24 41 _ (by omega) rfl V41
                  have k42 : vs 42 = .int .i64 (((k : Int)) - (1)) := hk5 25 42 _ (by omega) rfl V42
                  have k43 : vs 43 = .pointer (some ⟨b, off + (k - 1) * 7, none⟩) := hk5 26 43 _ (by omega) rfl V43
                  have k44 : vs 44 = .pointer (some ⟨b, off + (k - 1) * 7 + 6, none⟩) := hk5 27 44 _ (by omega) rfl V44
                  have k45 : vs 45 = .int .i64 (q0) := hk5 28 45 _ (by omega) rfl V45
                  have k46 : vs 46 = .bool false := hk5 29 46 _ (by omega) rfl V46
                  have k47 : vs 47 = .bool false := hk5 30 47 _ (by omega) rfl V47
                  have k48 : vs 48 = .bool false := hk5 31 48 _ (by omega) rfl V48
                  have k49 : vs 49 = .bool false := hk5 32 49 _ (by omega) rfl V49
                  have k50 : vs 50 = .pointer (some ⟨w.heap.size, 0 + 2, none⟩) := hk5 33 50 _ (by omega) rfl V50
                  have k51 : vs 51 = .slice (some ⟨b, off, none⟩) (n) (c) := hk5 34 51 _ (by omega) rfl V51
                  have k52 : vs 52 = .int .i64 ((k : Int)) := hk5 35 52 _ (by omega) rfl V52
                  have k53 := hk5 36 53 _ (by omega) rfl V53
                  have k54 : vs 54 = .pointer (some ⟨wr.heap.size, 0, none⟩) := hk5 37 54 _ (by omega) rfl V54
                  have k55 : vs 55 = .agg #[.int .i64 x1, .int .i64 x2, .int .i64 x3, .int .i64 x4, .int .i64 x5] := hk5 38 55 _ (by omega) rfl V55
                  have k56 : vs 56 = .int .i64 (z) := hk5 39 56 _ (by omega) rfl V56
                  have k57 : vs 57 = .bool true := hk5 40 57 _ (by omega) rfl V57
                  have k58 : vs 58 = .bool true := hk5 41 58 _ (by omega) rfl V58
                  clear hk5 HK hL V1 V3 V4 V17 V18 V19 V20 V21 V22 V23 V24 V25 V26 V27 V28 V29 V30 V31 V32 V33 V34 V35 V36 V37 V38 V39 V40 V41 V42 V43 V44 V45 V46 V47 V48 V49 V50 V51 V52 V53 V54 V55 V56 V57 V58
                  simp only [putL, Act.put, List.setIfInBounds_toArray, List.set_cons_zero, List.set_cons_succ, k17, k18, k19, k20, k21, k22, k23, k24, k25, k26, k27, k28, k29, k30, k31, k32, k33, k34, k35, k36, k37, k38, k39, k40, k41, k42, k43, k44, k45, k46, k47, k48, k49, k50, k51, k52, k54, k55, k56, k57, k58]
                  clear k17 k18 k19 k20 k21 k22 k23 k24 k25 k26 k27 k28 k29 k30 k31 k32 k33 k34 k35 k36 k37 k38 k39 k40 k41 k42 k43 k44 k45 k46 k47 k48 k49 k50 k51 k52 k54 k55 k56 k57 k58
                  have b5 := New.below hw5 hb4 hz4
                  go_wp2
                  go_ret
                  exact ⟨ret_bool HE.out.symm, b5⟩
            · rcases hzs with ⟨hz0, v2⟩ | ⟨hz0, v2⟩
              · have hnext := Lib.hid (hr.next (by rw [HO.out, v1, v2, v3, v4, show (k == 0) = true from by simp; omega]; simp))
                obtain ⟨L, hL⟩ : ∃ L : List (Nat × VT), L = [(1, tLit (.pointer (some ⟨w.heap.size, 0, none⟩))), (3, tLit (.int .i64 ((k : Int)))), (4, tLit (.pointer (some ⟨wr.heap.size, 0, none⟩))), (17, tLit (.pointer (some ⟨wr.heap.size, 0, none⟩))), (18, tLit (.agg #[.int .i64 x1, .int .i64 x2, .int .i64 x3, .int .i64 x4, .int .i64 x5])), (19, tLit (.bool true)), (20, tLit (.bool false)), (21, tLit (.bool false)), (22, tLit (.pointer (some ⟨wr.heap.size, 0 + 5, none⟩))), (23, tLit (.int .i64 (xt))), (24, tLit (.bool true)), (25, tLit (.bool false)), (26, tLit (.bool false)), (27, tLit (.bool false)), (28, tLit (.pointer (some ⟨wr.heap.size, 0 + 6, none⟩))), (29, tLit (.int .i64 (xl))), (30, tLit (.bool true)), (31, tLit (.bool false)), (32, tLit (.bool false)), (33, tLit (.bool false)), (34, tLit (.int .i64 ((k : Int)))), (35, tLit (.bool false)), (36, tLit (.bool false)), (37, tLit (undef)), (38, tLit (undef)), (39, tLit (undef)), (40, tLit (undef)), (41, tLit (undef)), (42, tLit (undef)), (43, tLit (undef)), (44, tLit (undef)), (45, tLit (undef)), (46, tLit (undef)), (47, tLit (.bool false)), (48, tLit (.bool false)), (49, tLit (.bool false)), (50, tLit (.pointer (some ⟨w.heap.size, 0 + 2, none⟩))), (51, tLit (.slice (some ⟨b, off, none⟩) (n) (c))), (52, tLit (.int .i64 ((k : Int)))), (53, tSl 0 7 (k : Int).toNat ((ensV es).take ((k : Int).toNat * 7))), (54, tLit (.pointer (some ⟨wr.heap.size, 0, none⟩))), (55, tLit (.agg #[.int .i64 x1, .int .i64 x2, .int .i64 x3, .int .i64 x4, .int .i64 x5])), (56, tLit (.int .i64 (z))), (57, tLit (.bool false)), (58, tLit (.bool false))] := ⟨_, rfl⟩
                have V1 : L.lookup 1 = some (tLit (.pointer (some ⟨w.heap.size, 0, none⟩))) := by rw [hL]; rfl
                have V3 : L.lookup 3 = some (tLit (.int .i64 ((k : Int)))) := by rw [hL]; rfl
                have V4 : L.lookup 4 = some (tLit (.pointer (some ⟨wr.heap.size, 0, none⟩))) := by rw [hL]; rfl
                have V17 : L.lookup 17 = some (tLit (.pointer (some ⟨wr.heap.size, 0, none⟩))) := by rw [hL]; rfl
                have V18 : L.lookup 18 = some (tLit (.agg #[.int .i64 x1, .int .i64 x2, .int .i64 x3, .int .i64 x4, .int .i64 x5])) := by rw [hL]; rfl
                have V19 : L.lookup 19 = some (tLit (.bool true)) := by rw [hL]; rfl
                have V20 : L.lookup 20 = some (tLit (.bool false)) := by rw [hL]; rfl
                have V21 : L.lookup 21 = some (tLit (.bool false)) := by rw [hL]; rfl
                have V22 : L.lookup 22 = some (tLit (.pointer (some ⟨wr.heap.size, 0 + 5, none⟩))) := by rw [hL]; rfl
                have V23 : L.lookup 23 = some (tLit (.int .i64 (xt))) := by rw [hL]; rfl
                have V24 : L.lookup 24 = some (tLit (.bool true)) := by rw [hL]; rfl
                have V25 : L.lookup 25 = some (tLit (.bool false)) := by rw [hL]; rfl
                have V26 : L.lookup 26 = some (tLit (.bool false)) := by rw [hL]; rfl
                have V27 : L.lookup 27 = some (tLit (.bool false)) := by rw [hL]; rfl
                have V28 : L.lookup 28 = some (tLit (.pointer (some ⟨wr.heap.size, 0 + 6, none⟩))) := by rw [hL]; rfl
                have V29 : L.lookup 29 = some (tLit (.int .i64 (xl))) := by rw [hL]; rfl
                have V30 : L.lookup 30 = some (tLit (.bool true)) := by rw [hL]; rfl
                have V31 : L.lookup 31 = some (tLit (.bool false)) := by rw [hL]; rfl
                have V32 : L.lookup 32 = some (tLit (.bool false)) := by rw [hL]; rfl
                have V33 : L.lookup 33 = some (tLit (.bool false)) := by rw [hL]; rfl
                have V34 : L.lookup 34 = some (tLit (.int .i64 ((k : Int)))) := by rw [hL]; rfl
                have V35 : L.lookup 35 = some (tLit (.bool false)) := by rw [hL]; rfl
                have V36 : L.lookup 36 = some (tLit (.bool false)) := by rw [hL]; rfl
                have V37 : L.lookup 37 = some (tLit (undef)) := by rw [hL]; rfl
                have V38 : L.lookup 38 = some (tLit (undef)) := by rw [hL]; rfl
                have V39 : L.lookup 39 = some (tLit (undef)) := by rw [hL]; rfl
                have V40 : L.lookup 40 = some (tLit (undef)) := by rw [hL]; rfl
                have V41 : L.lookup 41 = some (tLit (undef)) := by rw [hL]; rfl
                have V42 : L.lookup 42 = some (tLit (undef)) := by rw [hL]; rfl
                have V43 : L.lookup 43 = some (tLit (undef)) := by rw [hL]; rfl
                have V44 : L.lookup 44 = some (tLit (undef)) := by rw [hL]; rfl
                have V45 : L.lookup 45 = some (tLit (undef)) := by rw [hL]; rfl
                have V46 : L.lookup 46 = some (tLit (undef)) := by rw [hL]; rfl
                have V47 : L.lookup 47 = some (tLit (.bool false)) := by rw [hL]; rfl
                have V48 : L.lookup 48 = some (tLit (.bool false)) := by rw [hL]; rfl
                have V49 : L.lookup 49 = some (tLit (.bool false)) := by rw [hL]; rfl
                have V50 : L.lookup 50 = some (tLit (.pointer (some ⟨w.heap.size, 0 + 2, none⟩))) := by rw [hL]; rfl
                have V51 : L.lookup 51 = some (tLit (.slice (some ⟨b, off, none⟩) (n) (c))) := by rw [hL]; rfl
                have V52 : L.lookup 52 = some (tLit (.int .i64 ((k : Int)))) := by rw [hL]; rfl
                have V53 : L.lookup 53 = some (tSl 0 7 (k : Int).toNat ((ensV es).take ((k : Int).toNat * 7))) := by rw [hL]; rfl
                have V54 : L.lookup 54 = some (tLit (.pointer (some ⟨wr.heap.size, 0, none⟩))) := by rw [hL]; rfl
                have V55 : L.lookup 55 = some (tLit (.agg #[.int .i64 x1, .int .i64 x2, .int .i64 x3, .int .i64 x4, .int .i64 x5])) := by rw [hL]; rfl
                have V56 : L.lookup 56 = some (tLit (.int .i64 (z))) := by rw [hL]; rfl
                have V57 : L.lookup 57 = some (tLit (.bool false)) := by rw [hL]; rfl
                have V58 : L.lookup 58 = some (tLit (.bool false)) := by rw [hL]; rfl
                have HK : KeepL L := by rw [hL]; exact ⟨keep_lit _, keep_lit _, keep_lit _, keep_lit _, keep_lit _, keep_lit _, keep_lit _, keep_lit _, keep_lit _, keep_lit _, keep_lit _, keep_lit _, keep_lit _, keep_lit _, keep_lit _, keep_lit _, keep_lit _, keep_lit _, keep_lit _, keep_lit _, keep_lit _, keep_lit _, keep_lit _, keep_lit _, keep_lit _, keep_lit _, keep_lit _, keep_lit _, keep_lit _, keep_lit _, keep_lit _, keep_lit _, keep_lit _, keep_lit _, keep_lit _, keep_lit _, keep_lit _, keep_lit _, keep_lit _, keep_sl, keep_lit _, keep_lit _, keep_lit _, keep_lit _, keep_lit _, trivial⟩
                refine wp_region_mix0 (by kernel_rfl) L 42 rfl [some 17, some 18, some 19, some 20, some 21, some 22, some 23, some 24, some 25, some 26, some 27, some 28, some 29, some 30, some 31, some 32, some 33, some 34, some 35, some 36, some 37, some 38, some 39, some 40, some 41, some 42, some 43, some 44, some 45, some 46, some 47, some 48, some 49, some 50, some 51, some 52, some 53, some 54, some 55, some 56, some 57, some 58] (by kernel_rfl) (by kernel_rfl) (by kernel_rfl) 3 (by rw [hL]; intro x hx; simp only [List.take_succ_cons, List.take_zero, List.mem_cons, List.not_mem_nil, or_false] at hx; rcases hx with rfl | rfl | rfl <;> rfl) (by rw [hL]; rfl) ?_ ?_
                · clear hL
                  exact ⟨m_field HK gokm_none (f := 0) (s := 5) (by kernel_rfl) (by omega) (om_tmp V4) rfl V17,
                    m_loadn HK gokm_none (by kernel_rfl) (by kernel_rfl) (om_tmp V17) (by intro j v hj; rcases j with _ | _ | _ | _ | _ | j <;> simp at hj <;> subst hj <;> assumption) V18,
                    m_call HK gokm_none Try.func55 (by kernel_rfl) (by kernel_rfl) V19 (fun o b' wx hm hG ho => by
                      have e1 : b'.eval (.tmp 18) = .agg #[.int .i64 x1, .int .i64 x2, .int .i64 x3, .int .i64 x4, .int .i64 x5] := (om_tmp V18) o b' wx (hm _ (by simp)) ho
                      have e0 : ∀ v, b'.eval (.const v) = v := fun _ => rfl
                      rw [show (#[.tmp 18] : Array Operand).map b'.eval = #[.agg #[.int .i64 x1, .int .i64 x2, .int .i64 x3, .int .i64 x4, .int .i64 x5]] from by simp [e0, e1]]
                      exact (sFlow_is _ _ _ _ _ _).mono fun e w' h => ⟨_, h.1, by rw [h.2]; exact GrF.alloc _ _ _, by rw [v1]; rfl⟩),
                    m_not HK gokm_none (om_tmp V19) rfl V20,
                    m_move HK gokm_none (om_tmp V20) V21,
                    m_field HK (gokm_some rfl V21) (f := 5) (s := 1) (by kernel_rfl) (by omega) (om_tmp V4) rfl V22,
                    m_load1 HK (gokm_some rfl V21) (by kernel_rfl) (om_tmp V22) g5 V23,
                    m_call HK (gokm_some rfl V21) Try.func54 (by kernel_rfl) (by kernel_rfl) V24 (fun o b' wx hm hG ho => by
                      have e1 : b'.eval (.tmp 23) = .int .i64 xt := (om_tmp V23) o b' wx (hm _ (by simp)) ho
                      have e0 : ∀ v, b'.eval (.const v) = v := fun _ => rfl
                      rw [show (#[.tmp 23, .const (.int .i64 0), .const (.int .i64 30)] : Array Operand).map b'.eval = #[.int .i64 xt, .int .i64 0, .int .i64 30] from by simp [e0, e1]]
                      exact (l1In_any _ _ _ _).mono fun e w' h => ⟨_, h.1, by rw [← h.2]; exact GrF.refl _ _, by rw [v3]; rfl⟩),
                    m_not HK (gokm_some rfl V21) (om_tmp V24) rfl V25,
                    m_pickf HK gokm_none (om_tmp V21) (om_tmp V25) V26,
                    m_move HK gokm_none (om_tmp V26) V27,
                    m_field HK (gokm_some rfl V27) (f := 6) (s := 1) (by kernel_rfl) (by omega) (om_tmp V4) rfl V28,
                    m_load1 HK (gokm_some rfl V27) (by kernel_rfl) (om_tmp V28) g6 V29,
                    m_call HK (gokm_some rfl V27) Try.func54 (by kernel_rfl) (by kernel_rfl) V30 (fun o b' wx hm hG ho => by
                      have e1 : b'.eval (.tmp 29) = .int .i64 xl := (om_tmp V29) o b' wx (hm _ (by simp)) ho
                      have e0 : ∀ v, b'.eval (.const v) = v := fun _ => rfl
                      rw [show (#[.tmp 29, .const (.int .i64 0), .const (.int .i64 100000)] : Array Operand).map b'.eval = #[.int .i64 xl, .int .i64 0, .int .i64 100000] from by simp [e0, e1]]
                      exact (l1In_any _ _ _ _).mono fun e w' h => ⟨_, h.1, by rw [← h.2]; exact GrF.refl _ _, by rw [v4]; rfl⟩),
                    m_not HK (gokm_some rfl V27) (om_tmp V30) rfl V31,
                    m_pickf HK gokm_none (om_tmp V27) (om_tmp V31) V32,
                    m_move HK gokm_none (om_tmp V32) V33,
                    m_move HK (gokm_some rfl V33) (om_tmp V3) V34,
                    m_gtr HK (gokm_some rfl V33) (om_tmp V34) om_const (decide_eq_false (by omega)).symm V35,
                    m_move HK (gokm_some rfl V33) (om_tmp V35) V36,
                    m_skip HK rfl rfl V36 (by intro e; cases e) (fun d h => by cases h; exact V37),
                    m_skip HK rfl rfl V36 (by intro e; cases e) (fun d h => by cases h; exact V38),
                    m_skip HK rfl rfl V36 (by intro e; cases e) (fun d h => by cases h; exact V39),
                    m_skip HK rfl rfl V36 (by intro e; cases e) (fun d h => by cases h; exact V40),
                    m_skip HK rfl rfl V36 (by intro e; cases e) (fun d h => by cases h; exact V41),
                    m_skip HK rfl rfl V36 (by intro e; cases e) (fun d h => by cases h; exact V42),
                    m_skip HK rfl rfl V36 (by intro e; cases e) (fun d h => by cases h; exact V43),
                    m_skip HK rfl rfl V36 (by intro e; cases e) (fun d h => by cases h; exact V44),
                    m_skip HK rfl rfl V36 (by intro e; cases e) (fun d h => by cases h; exact V45),
                    m_skip HK rfl rfl V36 (by intro e; cases e) (fun d h => by cases h; exact V46),
                    m_pickf HK (gokm_some rfl V33) (om_tmp V36) om_const V47,
                    m_pickf HK gokm_none (om_tmp V33) (om_tmp V47) V48,
                    m_move HK gokm_none (om_tmp V48) V49,
                    m_field HK (gokm_some rfl V49) (f := 2) (s := 1) (by kernel_rfl) (by omega) (om_tmp V1) rfl V50,
                    m_load1 HK (gokm_some rfl V49) (by kernel_rfl) (om_tmp V50) bx V51,
                    m_move HK (gokm_some rfl V49) (om_tmp V3) V52,
                    m_cuthT HK (gokm_some rfl V49) (by kernel_rfl) (om_tmp V51) hsE (Nat.le_refl _) hnc hmx (om_tmp V52) (by omega) (by omega) V53,
                    m_field HK (gokm_some rfl V49) (f := 0) (s := 5) (by kernel_rfl) (by omega) (om_tmp V4) rfl V54,
                    m_loadn HK (gokm_some rfl V49) (by kernel_rfl) (by kernel_rfl) (om_tmp V54) (by intro j v hj; rcases j with _ | _ | _ | _ | _ | j <;> simp at hj <;> subst hj <;> assumption) V55,
                    m_call HK (gokm_some rfl V49) Try.func56 (by kernel_rfl) (by kernel_rfl) V56 (fun o b' wx hm hG ho => by
                      obtain ⟨A', c', e1, _, _, hsl⟩ := (om_tmp V53) o b' wx (hm _ (by simp)) ho
                      have e2 : b'.eval (.tmp 55) = .agg #[.int .i64 x1, .int .i64 x2, .int .i64 x3, .int .i64 x4, .int .i64 x5] := (om_tmp V55) o b' wx (hm _ (by simp)) ho
                      rw [HTV.out, Int.toNat_natCast] at hsl
                      rw [show (#[.tmp 53, .tmp 55] : Array Operand).map b'.eval = #[.slice A' (k : Int).toNat c', .agg #[.int .i64 x1, .int .i64 x2, .int .i64 x3, .int .i64 x4, .int .i64 x5]] from by simp [e1, e2]]
                      rw [Int.toNat_natCast]
                      exact (sPlace_any A' k c' (es.take k) x1 x2 x3 x4 x5 xt xl wx hsl (Nat.le_refl _) (by omega)).mono fun e w' h => ⟨_, h.1, New.of_below h.2, by rw [HPL.out]; rfl⟩),
                    m_geq HK (gokm_some rfl V49) (om_tmp V56) om_const (decide_eq_false hz0).symm V57,
                    m_pickf HK gokm_none (om_tmp V49) (om_tmp V57) V58,
                    trivial⟩
                intro vs w5 hw5 hk5
                have k17 : vs 17 = .pointer (some ⟨wr.heap.size, 0, none⟩) := hk5 0 17 _ (by omega) rfl V17
                have k18 : vs 18 = .agg #[.int .i64 x1, .int .i64 x2, .int .i64 x3, .int .i64 x4, .int .i64 x5] := hk5 1 18 _ (by omega) rfl V18
                have k19 : vs 19 = .bool true := hk5 2 19 _ (by omega) rfl V19
                have k20 : vs 20 = .bool false := hk5 3 20 _ (by omega) rfl V20
                have k21 : vs 21 = .bool false := hk5 4 21 _ (by omega) rfl V21
                have k22 : vs 22 = .pointer (some ⟨wr.heap.size, 0 + 5, none⟩) := hk5 5 22 _ (by omega) rfl V22
                have k23 : vs 23 = .int .i64 (xt) := hk5 6 23 _ (by omega) rfl V23
                have k24 : vs 24 = .bool true := hk5 7 24 _ (by omega) rfl V24
                have k25 : vs 25 = .bool false := hk5 8 25 _ (by omega) rfl V25
                have k26 : vs 26 = .bool false := hk5 9 26 _ (by omega) rfl V26
                have k27 : vs 27 = .bool false := hk5 10 27 _ (by omega) rfl V27
                have k28 : vs 28 = .pointer (some ⟨wr.heap.size, 0 + 6, none⟩) := hk5 11 28 _ (by omega) rfl V28
                have k29 : vs 29 = .int .i64 (xl) := hk5 12 29 _ (by omega) rfl V29
                have k30 : vs 30 = .bool true := hk5 13 30 _ (by omega) rfl V30
                have k31 : vs 31 = .bool false := hk5 14 31 _ (by omega) rfl V31
                have k32 : vs 32 = .bool false := hk5 15 32 _ (by omega) rfl V32
                have k33 : vs 33 = .bool false := hk5 16 33 _ (by omega) rfl V33
                have k34 : vs 34 = .int .i64 ((k : Int)) := hk5 17 34 _ (by omega) rfl V34
                have k35 : vs 35 = .bool false := hk5 18 35 _ (by omega) rfl V35
                have k36 : vs 36 = .bool false := hk5 19 36 _ (by omega) rfl V36
                have k37 : vs 37 = undef := hk5 20 37 _ (by omega) rfl V37
                have k38 : vs 38 = undef := hk5 21 38 _ (by omega) rfl V38
                have k39 : vs 39 = undef := hk5 22 39 _ (by omega) rfl V39
                have k40 : vs 40 = undef := hk5 23 40 _ (by omega) rfl V40
                have k41 : vs 41 = undef := hk5 24 41 _ (by omega) rfl V41
                have k42 : vs 42 = undef := hk5 25 42 _ (by omega) rfl V42
                have k43 : vs 43 = undef := hk5 26 43 _ (by omega) rfl V43
                have k44 : vs 44 = undef := hk5 27 44 _ (by omega) rfl V44
                have k45 : vs 45 = undef := hk5 28 45 _ (by omega) rfl V45
                have k46 : vs 46 = undef := hk5 29 46 _ (by omega) rfl V46
                have k47 : vs 47 = .bool false := hk5 30 47 _ (by omega) rfl V47
                have k48 : vs 48 = .bool false := hk5 31 48 _ (by omega) rfl V48
                have k49 : vs 49 = .bool false := hk5 32 49 _ (by omega) rfl V49
                have k50 : vs 50 = .pointer (some ⟨w.heap.size, 0 + 2, none⟩) := hk5 33 50 _ (by omega) rfl V50
                have k51 : vs 51 = .slice (some ⟨b, off, none⟩) (n) (c) := hk5 34 51 _ (by omega) rfl V51
                have k52 : vs 52 = .int .i64 ((k : Int)) := hk5 35 52 _ (by omega) rfl V52
                have k53 := hk5 36 53 _ (by omega) rfl V53
                have k54 : vs 54 = .pointer (some ⟨wr.heap.size, 0, none⟩) := hk5 37 54 _ (by omega) rfl V54
                have k55 : vs 55 = .agg #[.int .i64 x1, .int .i64 x2, .int .i64 x3, .int .i64 x4, .int .i64 x5] := hk5 38 55 _ (by omega) rfl V55
                have k56 : vs 56 = .int .i64 (z) := hk5 39 56 _ (by omega) rfl V56
                have k57 : vs 57 = .bool false := hk5 40 57 _ (by omega) rfl V57
                have k58 : vs 58 = .bool false := hk5 41 58 _ (by omega) rfl V58
                clear hk5 HK hL V1 V3 V4 V17 V18 V19 V20 V21 V22 V23 V24 V25 V26 V27 V28 V29 V30 V31 V32 V33 V34 V35 V36 V37 V38 V39 V40 V41 V42 V43 V44 V45 V46 V47 V48 V49 V50 V51 V52 V53 V54 V55 V56 V57 V58
                simp only [putL, Act.put, List.setIfInBounds_toArray, List.set_cons_zero, List.set_cons_succ, k17, k18, k19, k20, k21, k22, k23, k24, k25, k26, k27, k28, k29, k30, k31, k32, k33, k34, k35, k36, k37, k38, k39, k40, k41, k42, k43, k44, k45, k46, k47, k48, k49, k50, k51, k52, k54, k55, k56, k57, k58]
                clear k17 k18 k19 k20 k21 k22 k23 k24 k25 k26 k27 k28 k29 k30 k31 k32 k33 k34 k35 k36 k37 k38 k39 k40 k41 k42 k43 k44 k45 k46 k47 k48 k49 k50 k51 k52 k54 k55 k56 k57 k58
                have b5 := New.below hw5 hb4 hz4
                have hbk5 := New.blk hw5 hbk4
                clear hbk4
                go_wp2
                go_roundw
                case rel => exact ⟨k + 1, by omega, by go_num, hnext.out, hbk5, b5⟩
                case measure => simp [intOf]; omega
              · have HE := Lib.hid (tab_bad (sz := sz) (st := st) hlk (by rw [HO.out, v2]; simp))
                obtain ⟨L, hL⟩ : ∃ L : List (Nat × VT), L = [(1, tLit (.pointer (some ⟨w.heap.size, 0, none⟩))), (3, tLit (.int .i64 ((k : Int)))), (4, tLit (.pointer (some ⟨wr.heap.size, 0, none⟩))), (17, tLit (.pointer (some ⟨wr.heap.size, 0, none⟩))), (18, tLit (.agg #[.int .i64 x1, .int .i64 x2, .int .i64 x3, .int .i64 x4, .int .i64 x5])), (19, tLit (.bool true)), (20, tLit (.bool false)), (21, tLit (.bool false)), (22, tLit (.pointer (some ⟨wr.heap.size, 0 + 5, none⟩))), (23, tLit (.int .i64 (xt))), (24, tLit (.bool true)), (25, tLit (.bool false)), (26, tLit (.bool false)), (27, tLit (.bool false)), (28, tLit (.pointer (some ⟨wr.heap.size, 0 + 6, none⟩))), (29, tLit (.int .i64 (xl))), (30, tLit (.bool true)), (31, tLit (.bool false)), (32, tLit (.bool false)), (33, tLit (.bool false)), (34, tLit (.int .i64 ((k : Int)))), (35, tLit (.bool false)), (36, tLit (.bool false)), (37, tLit (undef)), (38, tLit (undef)), (39, tLit (undef)), (40, tLit (undef)), (41, tLit (undef)), (42, tLit (undef)), (43, tLit (undef)), (44, tLit (undef)), (45, tLit (undef)), (46, tLit (undef)), (47, tLit (.bool false)), (48, tLit (.bool false)), (49, tLit (.bool false)), (50, tLit (.pointer (some ⟨w.heap.size, 0 + 2, none⟩))), (51, tLit (.slice (some ⟨b, off, none⟩) (n) (c))), (52, tLit (.int .i64 ((k : Int)))), (53, tSl 0 7 (k : Int).toNat ((ensV es).take ((k : Int).toNat * 7))), (54, tLit (.pointer (some ⟨wr.heap.size, 0, none⟩))), (55, tLit (.agg #[.int .i64 x1, .int .i64 x2, .int .i64 x3, .int .i64 x4, .int .i64 x5])), (56, tLit (.int .i64 (z))), (57, tLit (.bool true)), (58, tLit (.bool true))] := ⟨_, rfl⟩
                have V1 : L.lookup 1 = some (tLit (.pointer (some ⟨w.heap.size, 0, none⟩))) := by rw [hL]; rfl
                have V3 : L.lookup 3 = some (tLit (.int .i64 ((k : Int)))) := by rw [hL]; rfl
                have V4 : L.lookup 4 = some (tLit (.pointer (some ⟨wr.heap.size, 0, none⟩))) := by rw [hL]; rfl
                have V17 : L.lookup 17 = some (tLit (.pointer (some ⟨wr.heap.size, 0, none⟩))) := by rw [hL]; rfl
                have V18 : L.lookup 18 = some (tLit (.agg #[.int .i64 x1, .int .i64 x2, .int .i64 x3, .int .i64 x4, .int .i64 x5])) := by rw [hL]; rfl
                have V19 : L.lookup 19 = some (tLit (.bool true)) := by rw [hL]; rfl
                have V20 : L.lookup 20 = some (tLit (.bool false)) := by rw [hL]; rfl
                have V21 : L.lookup 21 = some (tLit (.bool false)) := by rw [hL]; rfl
                have V22 : L.lookup 22 = some (tLit (.pointer (some ⟨wr.heap.size, 0 + 5, none⟩))) := by rw [hL]; rfl
                have V23 : L.lookup 23 = some (tLit (.int .i64 (xt))) := by rw [hL]; rfl
                have V24 : L.lookup 24 = some (tLit (.bool true)) := by rw [hL]; rfl
                have V25 : L.lookup 25 = some (tLit (.bool false)) := by rw [hL]; rfl
                have V26 : L.lookup 26 = some (tLit (.bool false)) := by rw [hL]; rfl
                have V27 : L.lookup 27 = some (tLit (.bool false)) := by rw [hL]; rfl
                have V28 : L.lookup 28 = some (tLit (.pointer (some ⟨wr.heap.size, 0 + 6, none⟩))) := by rw [hL]; rfl
                have V29 : L.lookup 29 = some (tLit (.int .i64 (xl))) := by rw [hL]; rfl
                have V30 : L.lookup 30 = some (tLit (.bool true)) := by rw [hL]; rfl
                have V31 : L.lookup 31 = some (tLit (.bool false)) := by rw [hL]; rfl
                have V32 : L.lookup 32 = some (tLit (.bool false)) := by rw [hL]; rfl
                have V33 : L.lookup 33 = some (tLit (.bool false)) := by rw [hL]; rfl
                have V34 : L.lookup 34 = some (tLit (.int .i64 ((k : Int)))) := by rw [hL]; rfl
                have V35 : L.lookup 35 = some (tLit (.bool false)) := by rw [hL]; rfl
                have V36 : L.lookup 36 = some (tLit (.bool false)) := by rw [hL]; rfl
                have V37 : L.lookup 37 = some (tLit (undef)) := by rw [hL]; rfl
                have V38 : L.lookup 38 = some (tLit (undef)) := by rw [hL]; rfl
                have V39 : L.lookup 39 = some (tLit (undef)) := by rw [hL]; rfl
                have V40 : L.lookup 40 = some (tLit (undef)) := by rw [hL]; rfl
                have V41 : L.lookup 41 = some (tLit (undef)) := by rw [hL]; rfl
                have V42 : L.lookup 42 = some (tLit (undef)) := by rw [hL]; rfl
                have V43 : L.lookup 43 = some (tLit (undef)) := by rw [hL]; rfl
                have V44 : L.lookup 44 = some (tLit (undef)) := by rw [hL]; rfl
                have V45 : L.lookup 45 = some (tLit (undef)) := by rw [hL]; rfl
                have V46 : L.lookup 46 = some (tLit (undef)) := by rw [hL]; rfl
                have V47 : L.lookup 47 = some (tLit (.bool false)) := by rw [hL]; rfl
                have V48 : L.lookup 48 = some (tLit (.bool false)) := by rw [hL]; rfl
                have V49 : L.lookup 49 = some (tLit (.bool false)) := by rw [hL]; rfl
                have V50 : L.lookup 50 = some (tLit (.pointer (some ⟨w.heap.size, 0 + 2, none⟩))) := by rw [hL]; rfl
                have V51 : L.lookup 51 = some (tLit (.slice (some ⟨b, off, none⟩) (n) (c))) := by rw [hL]; rfl
                have V52 : L.lookup 52 = some (tLit (.int .i64 ((k : Int)))) := by rw [hL]; rfl
                have V53 : L.lookup 53 = some (tSl 0 7 (k : Int).toNat ((ensV es).take ((k : Int).toNat * 7))) := by rw [hL]; rfl
                have V54 : L.lookup 54 = some (tLit (.pointer (some ⟨wr.heap.size, 0, none⟩))) := by rw [hL]; rfl
                have V55 : L.lookup 55 = some (tLit (.agg #[.int .i64 x1, .int .i64 x2, .int .i64 x3, .int .i64 x4, .int .i64 x5])) := by rw [hL]; rfl
                have V56 : L.lookup 56 = some (tLit (.int .i64 (z))) := by rw [hL]; rfl
                have V57 : L.lookup 57 = some (tLit (.bool true)) := by rw [hL]; rfl
                have V58 : L.lookup 58 = some (tLit (.bool true)) := by rw [hL]; rfl
                have HK : KeepL L := by rw [hL]; exact ⟨keep_lit _, keep_lit _, keep_lit _, keep_lit _, keep_lit _, keep_lit _, keep_lit _, keep_lit _, keep_lit _, keep_lit _, keep_lit _, keep_lit _, keep_lit _, keep_lit _, keep_lit _, keep_lit _, keep_lit _, keep_lit _, keep_lit _, keep_lit _, keep_lit _, keep_lit _, keep_lit _, keep_lit _, keep_lit _, keep_lit _, keep_lit _, keep_lit _, keep_lit _, keep_lit _, keep_lit _, keep_lit _, keep_lit _, keep_lit _, keep_lit _, keep_lit _, keep_lit _, keep_lit _, keep_lit _, keep_sl, keep_lit _, keep_lit _, keep_lit _, keep_lit _, keep_lit _, trivial⟩
                refine wp_region_mix0 (by kernel_rfl) L 42 rfl [some 17, some 18, some 19, some 20, some 21, some 22, some 23, some 24, some 25, some 26, some 27, some 28, some 29, some 30, some 31, some 32, some 33, some 34, some 35, some 36, some 37, some 38, some 39, some 40, some 41, some 42, some 43, some 44, some 45, some 46, some 47, some 48, some 49, some 50, some 51, some 52, some 53, some 54, some 55, some 56, some 57, some 58] (by kernel_rfl) (by kernel_rfl) (by kernel_rfl) 3 (by rw [hL]; intro x hx; simp only [List.take_succ_cons, List.take_zero, List.mem_cons, List.not_mem_nil, or_false] at hx; rcases hx with rfl | rfl | rfl <;> rfl) (by rw [hL]; rfl) ?_ ?_
                · clear hL
                  exact ⟨m_field HK gokm_none (f := 0) (s := 5) (by kernel_rfl) (by omega) (om_tmp V4) rfl V17,
                    m_loadn HK gokm_none (by kernel_rfl) (by kernel_rfl) (om_tmp V17) (by intro j v hj; rcases j with _ | _ | _ | _ | _ | j <;> simp at hj <;> subst hj <;> assumption) V18,
                    m_call HK gokm_none Try.func55 (by kernel_rfl) (by kernel_rfl) V19 (fun o b' wx hm hG ho => by
                      have e1 : b'.eval (.tmp 18) = .agg #[.int .i64 x1, .int .i64 x2, .int .i64 x3, .int .i64 x4, .int .i64 x5] := (om_tmp V18) o b' wx (hm _ (by simp)) ho
                      have e0 : ∀ v, b'.eval (.const v) = v := fun _ => rfl
                      rw [show (#[.tmp 18] : Array Operand).map b'.eval = #[.agg #[.int .i64 x1, .int .i64 x2, .int .i64 x3, .int .i64 x4, .int .i64 x5]] from by simp [e0, e1]]
                      exact (sFlow_is _ _ _ _ _ _).mono fun e w' h => ⟨_, h.1, by rw [h.2]; exact GrF.alloc _ _ _, by rw [v1]; rfl⟩),
                    m_not HK gokm_none (om_tmp V19) rfl V20,
                    m_move HK gokm_none (om_tmp V20) V21,
                    m_field HK (gokm_some rfl V21) (f := 5) (s := 1) (by kernel_rfl) (by omega) (om_tmp V4) rfl V22,
                    m_load1 HK (gokm_some rfl V21) (by kernel_rfl) (om_tmp V22) g5 V23,
                    m_call HK (gokm_some rfl V21) Try.func54 (by kernel_rfl) (by kernel_rfl) V24 (fun o b' wx hm hG ho => by
                      have e1 : b'.eval (.tmp 23) = .int .i64 xt := (om_tmp V23) o b' wx (hm _ (by simp)) ho
                      have e0 : ∀ v, b'.eval (.const v) = v := fun _ => rfl
                      rw [show (#[.tmp 23, .const (.int .i64 0), .const (.int .i64 30)] : Array Operand).map b'.eval = #[.int .i64 xt, .int .i64 0, .int .i64 30] from by simp [e0, e1]]
                      exact (l1In_any _ _ _ _).mono fun e w' h => ⟨_, h.1, by rw [← h.2]; exact GrF.refl _ _, by rw [v3]; rfl⟩),
                    m_not HK (gokm_some rfl V21) (om_tmp V24) rfl V25,
                    m_pickf HK gokm_none (om_tmp V21) (om_tmp V25) V26,
                    m_move HK gokm_none (om_tmp V26) V27,
                    m_field HK (gokm_some rfl V27) (f := 6) (s := 1) (by kernel_rfl) (by omega) (om_tmp V4) rfl V28,
                    m_load1 HK (gokm_some rfl V27) (by kernel_rfl) (om_tmp V28) g6 V29,
                    m_call HK (gokm_some rfl V27) Try.func54 (by kernel_rfl) (by kernel_rfl) V30 (fun o b' wx hm hG ho => by
                      have e1 : b'.eval (.tmp 29) = .int .i64 xl := (om_tmp V29) o b' wx (hm _ (by simp)) ho
                      have e0 : ∀ v, b'.eval (.const v) = v := fun _ => rfl
                      rw [show (#[.tmp 29, .const (.int .i64 0), .const (.int .i64 100000)] : Array Operand).map b'.eval = #[.int .i64 xl, .int .i64 0, .int .i64 100000] from by simp [e0, e1]]
                      exact (l1In_any _ _ _ _).mono fun e w' h => ⟨_, h.1, by rw [← h.2]; exact GrF.refl _ _, by rw [v4]; rfl⟩),
                    m_not HK (gokm_some rfl V27) (om_tmp V30) rfl V31,
                    m_pickf HK gokm_none (om_tmp V27) (om_tmp V31) V32,
                    m_move HK gokm_none (om_tmp V32) V33,
                    m_move HK (gokm_some rfl V33) (om_tmp V3) V34,
                    m_gtr HK (gokm_some rfl V33) (om_tmp V34) om_const (decide_eq_false (by omega)).symm V35,
                    m_move HK (gokm_some rfl V33) (om_tmp V35) V36,
                    m_skip HK rfl rfl V36 (by intro e; cases e) (fun d h => by cases h; exact V37),
                    m_skip HK rfl rfl V36 (by intro e; cases e) (fun d h => by cases h; exact V38),
                    m_skip HK rfl rfl V36 (by intro e; cases e) (fun d h => by cases h; exact V39),
                    m_skip HK rfl rfl V36 (by intro e; cases e) (fun d h => by cases h; exact V40),
                    m_skip HK rfl rfl V36 (by intro e; cases e) (fun d h => by cases h; exact V41),
                    m_skip HK rfl rfl V36 (by intro e; cases e) (fun d h => by cases h; exact V42),
                    m_skip HK rfl rfl V36 (by intro e; cases e) (fun d h => by cases h; exact V43),
                    m_skip HK rfl rfl V36 (by intro e; cases e) (fun d h => by cases h; exact V44),
                    m_skip HK rfl rfl V36 (by intro e; cases e) (fun d h => by cases h; exact V45),
                    m_skip HK rfl rfl V36 (by intro e; cases e) (fun d h => by cases h; exact V46),
                    m_pickf HK (gokm_some rfl V33) (om_tmp V36) om_const V47,
                    m_pickf HK gokm_none (om_tmp V33) (om_tmp V47) V48,
                    m_move HK gokm_none (om_tmp V48) V49,
                    m_field HK (gokm_some rfl V49) (f := 2) (s := 1) (by kernel_rfl) (by omega) (om_tmp V1) rfl V50,
                    m_load1 HK (gokm_some rfl V49) (by kernel_rfl) (om_tmp V50) bx V51,
                    m_move HK (gokm_some rfl V49) (om_tmp V3) V52,
                    m_cuthT HK (gokm_some rfl V49) (by kernel_rfl) (om_tmp V51) hsE (Nat.le_refl _) hnc hmx (om_tmp V52) (by omega) (by omega) V53,
                    m_field HK (gokm_some rfl V49) (f := 0) (s := 5) (by kernel_rfl) (by omega) (om_tmp V4) rfl V54,
                    m_loadn HK (gokm_some rfl V49) (by kernel_rfl) (by kernel_rfl) (om_tmp V54) (by intro j v hj; rcases j with _ | _ | _ | _ | _ | j <;> simp at hj <;> subst hj <;> assumption) V55,
                    m_call HK (gokm_some rfl V49) Try.func56 (by kernel_rfl) (by kernel_rfl) V56 (fun o b' wx hm hG ho => by
                      obtain ⟨A', c', e1, _, _, hsl⟩ := (om_tmp V53) o b' wx (hm _ (by simp)) ho
                      have e2 : b'.eval (.tmp 55) = .agg #[.int .i64 x1, .int .i64 x2, .int .i64 x3, .int .i64 x4, .int .i64 x5] := (om_tmp V55) o b' wx (hm _ (by simp)) ho
                      rw [HTV.out, Int.toNat_natCast] at hsl
                      rw [show (#[.tmp 53, .tmp 55] : Array Operand).map b'.eval = #[.slice A' (k : Int).toNat c', .agg #[.int .i64 x1, .int .i64 x2, .int .i64 x3, .int .i64 x4, .int .i64 x5]] from by simp [e1, e2]]
                      rw [Int.toNat_natCast]
                      exact (sPlace_any A' k c' (es.take k) x1 x2 x3 x4 x5 xt xl wx hsl (Nat.le_refl _) (by omega)).mono fun e w' h => ⟨_, h.1, New.of_below h.2, by rw [HPL.out]; rfl⟩),
                    m_geq HK (gokm_some rfl V49) (om_tmp V56) om_const (decide_eq_true hz0).symm V57,
                    m_pickf HK gokm_none (om_tmp V49) (om_tmp V57) V58,
                    trivial⟩
                intro vs w5 hw5 hk5
                have k17 : vs 17 = .pointer (some ⟨wr.heap.size, 0, none⟩) := hk5 0 17 _ (by omega) rfl V17
                have k18 : vs 18 = .agg #[.int .i64 x1, .int .i64 x2, .int .i64 x3, .int .i64 x4, .int .i64 x5] := hk5 1 18 _ (by omega) rfl V18
                have k19 : vs 19 = .bool true := hk5 2 19 _ (by omega) rfl V19
                have k20 : vs 20 = .bool false := hk5 3 20 _ (by omega) rfl V20
                have k21 : vs 21 = .bool false := hk5 4 21 _ (by omega) rfl V21
                have k22 : vs 22 = .pointer (some ⟨wr.heap.size, 0 + 5, none⟩) := hk5 5 22 _ (by omega) rfl V22
                have k23 : vs 23 = .int .i64 (xt) := hk5 6 23 _ (by omega) rfl V23
                have k24 : vs 24 = .bool true := hk5 7 24 _ (by omega) rfl V24
                have k25 : vs 25 = .bool false := hk5 8 25 _ (by omega) rfl V25
                have k26 : vs 26 = .bool false := hk5 9 26 _ (by omega) rfl V26
                have k27 : vs 27 = .bool false := hk5 10 27 _ (by omega) rfl V27
                have k28 : vs 28 = .pointer (some ⟨wr.heap.size, 0 + 6, none⟩) := hk5 11 28 _ (by omega) rfl V28
                have k29 : vs 29 = .int .i64 (xl) := hk5 12 29 _ (by omega) rfl V29
                have k30 : vs 30 = .bool true := hk5 13 30 _ (by omega) rfl V30
                have k31 : vs 31 = .bool false := hk5 14 31 _ (by omega) rfl V31
                have k32 : vs 32 = .bool false := hk5 15 32 _ (by omega) rfl V32
                have k33 : vs 33 = .bool false := hk5 16 33 _ (by omega) rfl V33
                have k34 : vs 34 = .int .i64 ((k : Int)) := hk5 17 34 _ (by omega) rfl V34
                have k35 : vs 35 = .bool false := hk5 18 35 _ (by omega) rfl V35
                have k36 : vs 36 = .bool false := hk5 19 36 _ (by omega) rfl V36
                have k37 : vs 37 = undef := hk5 20 37 _ (by omega) rfl V37
                have k38 : vs 38 = undef := hk5 21 38 _ (by omega) rfl V38
                have k39 : vs 39 = undef := hk5 22 39 _ (by omega) rfl V39
                have k40 : vs 40 = undef := hk5 23 40 _ (by omega) rfl V40
                have k41 : vs 41 = undef := hk5 24 41 _ (by omega) rfl V41
                have k42 : vs 42 = undef := hk5 25 42 _ (by omega) rfl V42
                have k43 : vs 43 = undef := hk5 26 43 _ (by omega) rfl V43
                have k44 : vs 44 = undef := hk5 27 44 _ (by omega) rfl V44
                have k45 : vs 45 = undef := hk5 28 45 _ (by omega) rfl V45
                have k46 : vs 46 = undef := hk5 29 46 _ (by omega) rfl V46
                have k47 : vs 47 = .bool false := hk5 30 47 _ (by omega) rfl V47
                have k48 : vs 48 = .bool false := hk5 31 48 _ (by omega) rfl V48
                have k49 : vs 49 = .bool false := hk5 32 49 _ (by omega) rfl V49
                have k50 : vs 50 = .pointer (some ⟨w.heap.size, 0 + 2, none⟩) := hk5 33 50 _ (by omega) rfl V50
                have k51 : vs 51 = .slice (some ⟨b, off, none⟩) (n) (c) := hk5 34 51 _ (by omega) rfl V51
                have k52 : vs 52 = .int .i64 ((k : Int)) := hk5 35 52 _ (by omega) rfl V52
                have k53 := hk5 36 53 _ (by omega) rfl V53
                have k54 : vs 54 = .pointer (some ⟨wr.heap.size, 0, none⟩) := hk5 37 54 _ (by omega) rfl V54
                have k55 : vs 55 = .agg #[.int .i64 x1, .int .i64 x2, .int .i64 x3, .int .i64 x4, .int .i64 x5] := hk5 38 55 _ (by omega) rfl V55
                have k56 : vs 56 = .int .i64 (z) := hk5 39 56 _ (by omega) rfl V56
                have k57 : vs 57 = .bool true := hk5 40 57 _ (by omega) rfl V57
                have k58 : vs 58 = .bool true := hk5 41 58 _ (by omega) rfl V58
                clear hk5 HK hL V1 V3 V4 V17 V18 V19 V20 V21 V22 V23 V24 V25 V26 V27 V28 V29 V30 V31 V32 V33 V34 V35 V36 V37 V38 V39 V40 V41 V42 V43 V44 V45 V46 V47 V48 V49 V50 V51 V52 V53 V54 V55 V56 V57 V58
                simp only [putL, Act.put, List.setIfInBounds_toArray, List.set_cons_zero, List.set_cons_succ, k17, k18, k19, k20, k21, k22, k23, k24, k25, k26, k27, k28, k29, k30, k31, k32, k33, k34, k35, k36, k37, k38, k39, k40, k41, k42, k43, k44, k45, k46, k47, k48, k49, k50, k51, k52, k54, k55, k56, k57, k58]
                clear k17 k18 k19 k20 k21 k22 k23 k24 k25 k26 k27 k28 k29 k30 k31 k32 k33 k34 k35 k36 k37 k38 k39 k40 k41 k42 k43 k44 k45 k46 k47 k48 k49 k50 k51 k52 k54 k55 k56 k57 k58
                have b5 := New.below hw5 hb4 hz4
                go_wp2
                go_ret
                exact ⟨ret_bool HE.out.symm, b5⟩
          · have v4 := Bool.eq_false_iff.2 v4
            have HE := Lib.hid (tab_bad (sz := sz) (st := st) hlk (by rw [HO.out, v4]; simp))
            obtain ⟨L, hL⟩ : ∃ L : List (Nat × VT), L = [(1, tLit (.pointer (some ⟨w.heap.size, 0, none⟩))), (3, tLit (.int .i64 ((k : Int)))), (4, tLit (.pointer (some ⟨wr.heap.size, 0, none⟩))), (17, tLit (.pointer (some ⟨wr.heap.size, 0, none⟩))), (18, tLit (.agg #[.int .i64 x1, .int .i64 x2, .int .i64 x3, .int .i64 x4, .int .i64 x5])), (19, tLit (.bool true)), (20, tLit (.bool false)), (21, tLit (.bool false)), (22, tLit (.pointer (some ⟨wr.heap.size, 0 + 5, none⟩))), (23, tLit (.int .i64 (xt))), (24, tLit (.bool true)), (25, tLit (.bool false)), (26, tLit (.bool false)), (27, tLit (.bool false)), (28, tLit (.pointer (some ⟨wr.heap.size, 0 + 6, none⟩))), (29, tLit (.int .i64 (xl))), (30, tLit (.bool false)), (31, tLit (.bool true)), (32, tLit (.bool true)), (33, tLit (.bool true)), (34, tLit (undef)), (35, tLit (undef)), (36, tLit (undef)), (37, tLit (undef)), (38, tLit (undef)), (39, tLit (undef)), (40, tLit (undef)), (41, tLit (undef)), (42, tLit (undef)), (43, tLit (undef)), (44, tLit (undef)), (45, tLit (undef)), (46, tLit (undef)), (47, tLit (undef)), (48, tLit (.bool true)), (49, tLit (.bool true)), (50, tLit (undef)), (51, tLit (undef)), (52, tLit (undef)), (53, tLit (undef)), (54, tLit (undef)), (55, tLit (undef)), (56, tLit (undef)), (57, tLit (undef)), (58, tLit (.bool true))] := ⟨_, rfl⟩
            have V1 : L.lookup 1 = some (tLit (.pointer (some ⟨w.heap.size, 0, none⟩))) := by rw [hL]; rfl
            have V3 : L.lookup 3 = some (tLit (.int .i64 ((k : Int)))) := by rw [hL]; rfl
            have V4 : L.lookup 4 = some (tLit (.pointer (some ⟨wr.heap.size, 0, none⟩))) := by rw [hL]; rfl
            have V17 : L.lookup 17 = some (tLit (.pointer (some ⟨wr.heap.size, 0, none⟩))) := by rw [hL]; rfl
            have V18 : L.lookup 18 = some (tLit (.agg #[.int .i64 x1, .int .i64 x2, .int .i64 x3, .int .i64 x4, .int .i64 x5])) := by rw [hL]; rfl
            have V19 : L.lookup 19 = some (tLit (.bool true)) := by rw [hL]; rfl
            have V20 : L.lookup 20 = some (tLit (.bool false)) := by rw [hL]; rfl
            have V21 : L.lookup 21 = some (tLit (.bool false)) := by rw [hL]; rfl
            have V22 : L.lookup 22 = some (tLit (.pointer (some ⟨wr.heap.size, 0 + 5, none⟩))) := by rw [hL]; rfl
            have V23 : L.lookup 23 = some (tLit (.int .i64 (xt))) := by rw [hL]; rfl
            have V24 : L.lookup 24 = some (tLit (.bool true)) := by rw [hL]; rfl
            have V25 : L.lookup 25 = some (tLit (.bool false)) := by rw [hL]; rfl
            have V26 : L.lookup 26 = some (tLit (.bool false)) := by rw [hL]; rfl
            have V27 : L.lookup 27 = some (tLit (.bool false)) := by rw [hL]; rfl
            have V28 : L.lookup 28 = some (tLit (.pointer (some ⟨wr.heap.size, 0 + 6, none⟩))) := by rw [hL]; rfl
            have V29 : L.lookup 29 = some (tLit (.int .i64 (xl))) := by rw [hL]; rfl
            have V30 : L.lookup 30 = some (tLit (.bool false)) := by rw [hL]; rfl
            have V31 : L.lookup 31 = some (tLit (.bool true)) := by rw [hL]; rfl
            have V32 : L.lookup 32 = some (tLit (.bool true)) := by rw [hL]; rfl
            have V33 : L.lookup 33 = some (tLit (.bool true)) := by rw [hL]; rfl
            have V34 : L.lookup 34 = some (tLit (undef)) := by rw [hL]; rfl
            have V35 : L.lookup 35 = some (tLit (undef)) := by rw [hL]; rfl
            have V36 : L.lookup 36 = some (tLit (undef)) := by rw [hL]; rfl
            have V37 : L.lookup 37 = some (tLit (undef)) := by rw [hL]; rfl
            have V38 : L.lookup 38 = some (tLit (undef)) := by rw [hL]; rfl
            have V39 : L.lookup 39 = some (tLit (undef)) := by rw [hL]; rfl
            have V40 : L.lookup 40 = some (tLit (undef)) := by rw [hL]; rfl
            have V41 : L.lookup 41 = some (tLit (undef)) := by rw [hL]; rfl
            have V42 : L.lookup 42 = some (tLit (undef)) := by rw [hL]; rfl
            have V43 : L.lookup 43 = some (tLit (undef)) := by rw [hL]; rfl
            have V44 : L.lookup 44 = some (tLit (undef)) := by rw [hL]; rfl
            have V45 : L.lookup 45 = some (tLit (undef)) := by rw [hL]; rfl
            have V46 : L.lookup 46 = some (tLit (undef)) := by rw [hL]; rfl
            have V47 : L.lookup 47 = some (tLit (undef)) := by rw [hL]; rfl
            have V48 : L.lookup 48 = some (tLit (.bool true)) := by rw [hL]; rfl
            have V49 : L.lookup 49 = some (tLit (.bool true)) := by rw [hL]; rfl
            have V50 : L.lookup 50 = some (tLit (undef)) := by rw [hL]; rfl
            have V51 : L.lookup 51 = some (tLit (undef)) := by rw [hL]; rfl
            have V52 : L.lookup 52 = some (tLit (undef)) := by rw [hL]; rfl
            have V53 : L.lookup 53 = some (tLit (undef)) := by rw [hL]; rfl
            have V54 : L.lookup 54 = some (tLit (undef)) := by rw [hL]; rfl
            have V55 : L.lookup 55 = some (tLit (undef)) := by rw [hL]; rfl
            have V56 : L.lookup 56 = some (tLit (undef)) := by rw [hL]; rfl
            have V57 : L.lookup 57 = some (tLit (undef)) := by rw [hL]; rfl
            have V58 : L.lookup 58 = some (tLit (.bool true)) := by rw [hL]; rfl
            have HK : KeepL L := by rw [hL]; exact ⟨keep_lit _, keep_lit _, keep_lit _, keep_lit _, keep_lit _, keep_lit _, keep_lit _, keep_lit _, keep_lit _, keep_lit _, keep_lit _, keep_lit _, keep_lit _, keep_lit _, keep_lit _, keep_lit _, keep_lit _, keep_lit _, keep_lit _, keep_lit _, keep_lit _, keep_lit _, keep_lit _, keep_lit _, keep_lit _, keep_lit _, keep_lit _, keep_lit _, keep_lit _, keep_lit _, keep_lit _, keep_lit _, keep_lit _, keep_lit _, keep_lit _, keep_lit _, keep_lit _, keep_lit _, keep_lit _, keep_lit _, keep_lit _, keep_lit _, keep_lit _, keep_lit _, keep_lit _, trivial⟩
            refine wp_region_mix0 (by kernel_rfl) L 42 rfl [some 17, some 18, some 19, some 20, some 21, some 22, some 23, some 24, some 25, some 26, some 27, some 28, some 29, some 30, some 31, some 32, some 33, some 34, some 35, some 36, some 37, some 38, some 39, some 40, some 41, some 42, some 43, some 44, some 45, some 46, some 47, some 48, some 49, some 50, some 51, some 52, some 53, some 54, some 55, some 56, some 57, some 58] (by kernel_rfl) (by kernel_rfl) (by kernel_rfl) 3 (by rw [hL]; intro x hx; simp only [List.take_succ_cons, List.take_zero, List.mem_cons, List.not_mem_nil, or_false] at hx; rcases hx with rfl | rfl | rfl <;> rfl) (by rw [hL]; rfl) ?_ ?_
            · clear hL
              exact ⟨m_field HK gokm_none (f := 0) (s := 5) (by kernel_rfl) (by omega) (om_tmp V4) rfl V17,
                m_loadn HK gokm_none (by kernel_rfl) (by kernel_rfl) (om_tmp V17) (by intro j v hj; rcases j with _ | _ | _ | _ | _ | j <;> simp at hj <;> subst hj <;> assumption) V18,
                m_call HK gokm_none Try.func55 (by kernel_rfl) (by kernel_rfl) V19 (fun o b' wx hm hG ho => by
                  have e1 : b'.eval (.tmp 18) = .agg #[.int .i64 x1, .int .i64 x2, .int .i64 x3, .int .i64 x4, .int .i64 x5] := (om_tmp V18) o b' wx (hm _ (by simp)) ho
                  have e0 : ∀ v, b'.eval (.const v) = v := fun _ => rfl
                  rw [show (#[.tmp 18] : Array Operand).map b'.eval = #[.agg #[.int .i64 x1, .int .i64 x2, .int .i64 x3, .int .i64 x4, .int .i64 x5]] from by simp [e0, e1]]
                  exact (sFlow_is _ _ _ _ _ _).mono fun e w' h => ⟨_, h.1, by rw [h.2]; exact GrF.alloc _ _ _, by rw [v1]; rfl⟩),
                m_not HK gokm_none (om_tmp V19) rfl V20,
                m_move HK gokm_none (om_tmp V20) V21,
                m_field HK (gokm_some rfl V21) (f := 5) (s := 1) (by kernel_rfl) (by omega) (om_tmp V4) rfl V22,
                m_load1 HK (gokm_some rfl V21) (by kernel_rfl) (om_tmp V22) g5 V23,
                m_call HK (gokm_some rfl V21) Try.func54 (by kernel_rfl) (by kernel_rfl) V24 (fun o b' wx hm hG ho => by
                  have e1 : b'.eval (.tmp 23) = .int .i64 xt := (om_tmp V23) o b' wx (hm _ (by simp)) ho
                  have e0 : ∀ v, b'.eval (.const v) = v := fun _ => rfl
                  rw [show (#[.tmp 23, .const (.int .i64 0), .const (.int .i64 30)] : Array Operand).map b'.eval = #[.int .i64 xt, .int .i64 0, .int .i64 30] from by simp [e0, e1]]
                  exact (l1In_any _ _ _ _).mono fun e w' h => ⟨_, h.1, by rw [← h.2]; exact GrF.refl _ _, by rw [v3]; rfl⟩),
                m_not HK (gokm_some rfl V21) (om_tmp V24) rfl V25,
                m_pickf HK gokm_none (om_tmp V21) (om_tmp V25) V26,
                m_move HK gokm_none (om_tmp V26) V27,
                m_field HK (gokm_some rfl V27) (f := 6) (s := 1) (by kernel_rfl) (by omega) (om_tmp V4) rfl V28,
                m_load1 HK (gokm_some rfl V27) (by kernel_rfl) (om_tmp V28) g6 V29,
                m_call HK (gokm_some rfl V27) Try.func54 (by kernel_rfl) (by kernel_rfl) V30 (fun o b' wx hm hG ho => by
                  have e1 : b'.eval (.tmp 29) = .int .i64 xl := (om_tmp V29) o b' wx (hm _ (by simp)) ho
                  have e0 : ∀ v, b'.eval (.const v) = v := fun _ => rfl
                  rw [show (#[.tmp 29, .const (.int .i64 0), .const (.int .i64 100000)] : Array Operand).map b'.eval = #[.int .i64 xl, .int .i64 0, .int .i64 100000] from by simp [e0, e1]]
                  exact (l1In_any _ _ _ _).mono fun e w' h => ⟨_, h.1, by rw [← h.2]; exact GrF.refl _ _, by rw [v4]; rfl⟩),
                m_not HK (gokm_some rfl V27) (om_tmp V30) rfl V31,
                m_pickf HK gokm_none (om_tmp V27) (om_tmp V31) V32,
                m_move HK gokm_none (om_tmp V32) V33,
                m_skip HK rfl rfl V33 (by intro e; cases e) (fun d h => by cases h; exact V34),
                m_skip HK rfl rfl V33 (by intro e; cases e) (fun d h => by cases h; exact V35),
                m_skip HK rfl rfl V33 (by intro e; cases e) (fun d h => by cases h; exact V36),
                m_skip HK rfl rfl V36 (by intro e; cases e) (fun d h => by cases h; exact V37),
                m_skip HK rfl rfl V36 (by intro e; cases e) (fun d h => by cases h; exact V38),
                m_skip HK rfl rfl V36 (by intro e; cases e) (fun d h => by cases h; exact V39),
                m_skip HK rfl rfl V36 (by intro e; cases e) (fun d h => by cases h; exact V40),
                m_skip HK rfl rfl V36 (by intro e; cases e) (fun d h => by cases h; exact V41),
                m_skip HK rfl rfl V36 (by intro e; cases e) (fun d h => by cases h; exact V42),
                m_skip HK rfl rfl V36 (by intro e; cases e) (fun d h => by cases h; exact V43),
                m_skip HK rfl rfl V36 (by intro e; cases e) (fun d h => by cases h; exact V44),
                m_skip HK rfl rfl V36 (by intro e; cases e) (fun d h => by cases h; exact V45),
                m_skip HK rfl rfl V36 (by intro e; cases e) (fun d h => by cases h; exact V46),
                m_skip HK rfl rfl V33 (by intro e; cases e) (fun d h => by cases h; exact V47),
                m_pickt HK gokm_none (om_tmp V33) om_const V48,
                m_move HK gokm_none (om_tmp V48) V49,
                m_skip HK rfl rfl V49 (by intro e; cases e) (fun d h => by cases h; exact V50),
                m_skip HK rfl rfl V49 (by intro e; cases e) (fun d h => by cases h; exact V51),
                m_skip HK rfl rfl V49 (by intro e; cases e) (fun d h => by cases h; exact V52),
                m_skip HK rfl rfl V49 (by intro e; cases e) (fun d h => by cases h; exact V53),
                m_skip HK rfl rfl V49 (by intro e; cases e) (fun d h => by cases h; exact V54),
                m_skip HK rfl rfl V49 (by intro e; cases e) (fun d h => by cases h; exact V55),
                m_skip HK rfl rfl V49 (by intro e; cases e) (fun d h => by cases h; exact V56),
                m_skip HK rfl rfl V49 (by intro e; cases e) (fun d h => by cases h; exact V57),
                m_pickt HK gokm_none (om_tmp V49) om_const V58,
                trivial⟩
            intro vs w5 hw5 hk5
            have k17 : vs 17 = .pointer (some ⟨wr.heap.size, 0, none⟩) := hk5 0 17 _ (by omega) rfl V17
            have k18 : vs 18 = .agg #[.int .i64 x1, .int .i64 x2, .int .i64 x3, .int .i64 x4, .int .i64 x5] := hk5 1 18 _ (by omega) rfl V18
            have k19 : vs 19 = .bool true := hk5 2 19 _ (by omega) rfl V19
            have k20 : vs 20 = .bool false := hk5 3 20 _ (by omega) rfl V20
            have k21 : vs 21 = .bool false := hk5 4 21 _ (by omega) rfl V21
            have k22 : vs 22 = .pointer (some ⟨wr.heap.size, 0 + 5, none⟩) := hk5 5 22 _ (by omega) rfl V22
            have k23 : vs 23 = .int .i64 (xt) := hk5 6 23 _ (by omega) rfl V23
            have k24 : vs 24 = .bool true := hk5 7 24 _ (by omega) rfl V24
            have k25 : vs 25 = .bool false := hk5 8 25 _ (by omega) rfl V25
            have k26 : vs 26 = .bool false := hk5 9 26 _ (by omega) rfl V26
            have k27 : vs 27 = .bool false := hk5 10 27 _ (by omega) rfl V27
            have k28 : vs 28 = .pointer (some ⟨wr.heap.size, 0 + 6, none⟩) := hk5 11 28 _ (by omega) rfl V28
            have k29 : vs 29 = .int .i64 (xl) := hk5 12 29 _ (by omega) rfl V29
            have k30 : vs 30 = .bool false := hk5 13 30 _ (by omega) rfl V30
            have k31 : vs 31 = .bool true := hk5 14 31 _ (by omega) rfl V31
            have k32 : vs 32 = .bool true := hk5 15 32 _ (by omega) rfl V32
            have k33 : vs 33 = .bool true := hk5 16 33 _ (by omega) rfl V33
            have k34 : vs 34 = undef := hk5 17 34 _ (by omega) rfl V34
            have k35 : vs 35 = undef := hk5 18 35 _ (by omega) rfl V35
            have k36 : vs 36 = undef := hk5 19 36 _ (by omega) rfl V36
            have k37 : vs 37 = undef := hk5 20 37 _ (by omega) rfl V37
            have k38 : vs 38 = undef := hk5 21 38 _ (by omega) rfl V38
            have k39 : vs 39 = undef := hk5 22 39 _ (by omega) rfl V39
            have k40 : vs 40 = undef := hk5 23 40 _ (by omega) rfl V40
            have k41 : vs 41 = undef := hk5 24 41 _ (by omega) rfl V41
            have k42 : vs 42 = undef := hk5 25 42 _ (by omega) rfl V42
            have k43 : vs 43 = undef := hk5 26 43 _ (by omega) rfl V43
            have k44 : vs 44 = undef := hk5 27 44 _ (by omega) rfl V44
            have k45 : vs 45 = undef := hk5 28 45 _ (by omega) rfl V45
            have k46 : vs 46 = undef := hk5 29 46 _ (by omega) rfl V46
            have k47 : vs 47 = undef := hk5 30 47 _ (by omega) rfl V47
            have k48 : vs 48 = .bool true := hk5 31 48 _ (by omega) rfl V48
            have k49 : vs 49 = .bool true := hk5 32 49 _ (by omega) rfl V49
            have k50 : vs 50 = undef := hk5 33 50 _ (by omega) rfl V50
            have k51 : vs 51 = undef := hk5 34 51 _ (by omega) rfl V51
            have k52 : vs 52 = undef := hk5 35 52 _ (by omega) rfl V52
            have k53 : vs 53 = undef := hk5 36 53 _ (by omega) rfl V53
            have k54 : vs 54 = undef := hk5 37 54 _ (by omega) rfl V54
            have k55 : vs 55 = undef := hk5 38 55 _ (by omega) rfl V55
            have k56 : vs 56 = undef := hk5 39 56 _ (by omega) rfl V56
            have k57 : vs 57 = undef := hk5 40 57 _ (by omega) rfl V57
            have k58 : vs 58 = .bool true := hk5 41 58 _ (by omega) rfl V58
            clear hk5 HK hL V1 V3 V4 V17 V18 V19 V20 V21 V22 V23 V24 V25 V26 V27 V28 V29 V30 V31 V32 V33 V34 V35 V36 V37 V38 V39 V40 V41 V42 V43 V44 V45 V46 V47 V48 V49 V50 V51 V52 V53 V54 V55 V56 V57 V58
            simp only [putL, Act.put, List.setIfInBounds_toArray, List.set_cons_zero, List.set_cons_succ, k17, k18, k19, k20, k21, k22, k23, k24, k25, k26, k27, k28, k29, k30, k31, k32, k33, k34, k35, k36, k37, k38, k39, k40, k41, k42, k43, k44, k45, k46, k47, k48, k49, k50, k51, k52, k53, k54, k55, k56, k57, k58]
            clear k17 k18 k19 k20 k21 k22 k23 k24 k25 k26 k27 k28 k29 k30 k31 k32 k33 k34 k35 k36 k37 k38 k39 k40 k41 k42 k43 k44 k45 k46 k47 k48 k49 k50 k51 k52 k53 k54 k55 k56 k57 k58
            have b5 := New.below hw5 hb4 hz4
            go_wp2
            go_ret
            exact ⟨ret_bool HE.out.symm, b5⟩
        · have v3 := Bool.eq_false_iff.2 v3
          have HE := Lib.hid (tab_bad (sz := sz) (st := st) hlk (by rw [HO.out, v3]; simp))
          obtain ⟨L, hL⟩ : ∃ L : List (Nat × VT), L = [(1, tLit (.pointer (some ⟨w.heap.size, 0, none⟩))), (3, tLit (.int .i64 ((k : Int)))), (4, tLit (.pointer (some ⟨wr.heap.size, 0, none⟩))), (17, tLit (.pointer (some ⟨wr.heap.size, 0, none⟩))), (18, tLit (.agg #[.int .i64 x1, .int .i64 x2, .int .i64 x3, .int .i64 x4, .int .i64 x5])), (19, tLit (.bool true)), (20, tLit (.bool false)), (21, tLit (.bool false)), (22, tLit (.pointer (some ⟨wr.heap.size, 0 + 5, none⟩))), (23, tLit (.int .i64 (xt))), (24, tLit (.bool false)), (25, tLit (.bool true)), (26, tLit (.bool true)), (27, tLit (.bool true)), (28, tLit (undef)), (29, tLit (undef)), (30, tLit (undef)), (31, tLit (undef)), (32, tLit (.bool true)), (33, tLit (.bool true)), (34, tLit (undef)), (35, tLit (undef)), (36, tLit (undef)), (37, tLit (undef)), (38, tLit (undef)), (39, tLit (undef)), (40, tLit (undef)), (41, tLit (undef)), (42, tLit (undef)), (43, tLit (undef)), (44, tLit (undef)), (45, tLit (undef)), (46, tLit (undef)), (47, tLit (undef)), (48, tLit (.bool true)), (49, tLit (.bool true)), (50, tLit (undef)), (51, tLit (undef)), (52, tLit (undef)), (53, tLit (undef)), (54, tLit (undef)), (55, tLit (undef)), (56, tLit (undef)), (57, tLit (undef)), (58, tLit (.bool true))] := ⟨_, rfl⟩
          have V1 : L.lookup 1 = some (tLit (.pointer (some ⟨w.heap.size, 0, none⟩))) := by rw [hL]; rfl
          have V3 : L.lookup 3 = some (tLit (.int .i64 ((k : Int)))) := by rw [hL]; rfl
          have V4 : L.lookup 4 = some (tLit (.pointer (some ⟨wr.heap.size, 0, none⟩))) := by rw [hL]; rfl
          have V17 : L.lookup 17 = some (tLit (.pointer (some ⟨wr.heap.size, 0, none⟩))) := by rw [hL]; rfl
          have V18 : L.lookup 18 = some (tLit (.agg #[.int .i64 x1, .int .i64 x2, .int .i64 x3, .int .i64 x4, .int .i64 x5])) := by rw [hL]; rfl
          have V19 : L.lookup 19 = some (tLit (.bool true)) := by rw [hL]; rfl
          have V20 : L.lookup 20 = some (tLit (.bool false)) := by rw [hL]; rfl
          have V21 : L.lookup 21 = some (tLit (.bool false)) := by rw [hL]; rfl
          have V22 : L.lookup 22 = some (tLit (.pointer (some ⟨wr.heap.size, 0 + 5, none⟩))) := by rw [hL]; rfl
          have V23 : L.lookup 23 = some (tLit (.int .i64 (xt))) := by rw [hL]; rfl
          have V24 : L.lookup 24 = some (tLit (.bool false)) := by rw [hL]; rfl
          have V25 : L.lookup 25 = some (tLit (.bool true)) := by rw [hL]; rfl
          have V26 : L.lookup 26 = some (tLit (.bool true)) := by rw [hL]; rfl
          have V27 : L.lookup 27 = some (tLit (.bool true)) := by rw [hL]; rfl
          have V28 : L.lookup 28 = some (tLit (undef)) := by rw [hL]; rfl
          have V29 : L.lookup 29 = some (tLit (undef)) := by rw [hL]; rfl
          have V30 : L.lookup 30 = some (tLit (undef)) := by rw [hL]; rfl
          have V31 : L.lookup 31 = some (tLit (undef)) := by rw [hL]; rfl
          have V32 : L.lookup 32 = some (tLit (.bool true)) := by rw [hL]; rfl
          have V33 : L.lookup 33 = some (tLit (.bool true)) := by rw [hL]; rfl
          have V34 : L.lookup 34 = some (tLit (undef)) := by rw [hL]; rfl
          have V35 : L.lookup 35 = some (tLit (undef)) := by rw [hL]; rfl
          have V36 : L.lookup 36 = some (tLit (undef)) := by rw [hL]; rfl
          have V37 : L.lookup 37 = some (tLit (undef)) := by rw [hL]; rfl
          have V38 : L.lookup 38 = some (tLit (undef)) := by rw [hL]; rfl
          have V39 : L.lookup 39 = some (tLit (undef)) := by rw [hL]; rfl
          have V40 : L.lookup 40 = some (tLit (undef)) := by rw [hL]; rfl
          have V41 : L.lookup 41 = some (tLit (undef)) := by rw [hL]; rfl
          have V42 : L.lookup 42 = some (tLit (undef)) := by rw [hL]; rfl
          have V43 : L.lookup 43 = some (tLit (undef)) := by rw [hL]; rfl
          have V44 : L.lookup 44 = some (tLit (undef)) := by rw [hL]; rfl
          have V45 : L.lookup 45 = some (tLit (undef)) := by rw [hL]; rfl
          have V46 : L.lookup 46 = some (tLit (undef)) := by rw [hL]; rfl
          have V47 : L.lookup 47 = some (tLit (undef)) := by rw [hL]; rfl
          have V48 : L.lookup 48 = some (tLit (.bool true)) := by rw [hL]; rfl
          have V49 : L.lookup 49 = some (tLit (.bool true)) := by rw [hL]; rfl
          have V50 : L.lookup 50 = some (tLit (undef)) := by rw [hL]; rfl
          have V51 : L.lookup 51 = some (tLit (undef)) := by rw [hL]; rfl
          have V52 : L.lookup 52 = some (tLit (undef)) := by rw [hL]; rfl
          have V53 : L.lookup 53 = some (tLit (undef)) := by rw [hL]; rfl
          have V54 : L.lookup 54 = some (tLit (undef)) := by rw [hL]; rfl
          have V55 : L.lookup 55 = some (tLit (undef)) := by rw [hL]; rfl
          have V56 : L.lookup 56 = some (tLit (undef)) := by rw [hL]; rfl
          have V57 : L.lookup 57 = some (tLit (undef)) := by rw [hL]; rfl
          have V58 : L.lookup 58 = some (tLit (.bool true)) := by rw [hL]; rfl
          have HK : KeepL L := by rw [hL]; exact ⟨keep_lit _, keep_lit _, keep_lit _, keep_lit _, keep_lit _, keep_lit _, keep_lit _, keep_lit _, keep_lit _, keep_lit _, keep_lit _, keep_lit _, keep_lit _, keep_lit _, keep_lit _, keep_lit _, keep_lit _, keep_lit _, keep_lit _, keep_lit _, keep_lit _, keep_lit _, keep_lit _, keep_lit _, keep_lit _, keep_lit _, keep_lit _, keep_lit _, keep_lit _, keep_lit _, keep_lit _, keep_lit _, keep_lit _, keep_lit _, keep_lit _, keep_lit _, keep_lit _, keep_lit _, keep_lit _, keep_lit _, keep_lit _, keep_lit _, keep_lit _, keep_lit _, keep_lit _, trivial⟩
          refine wp_region_mix0 (by kernel_rfl) L 42 rfl [some 17, some 18, some 19, some 20, some 21, some 22, some 23, some 24, some 25, some 26, some 27, some 28, some 29, some 30, some 31, some 32, some 33, some 34, some 35, some 36, some 37, some 38, some 39, some 40, some 41, some 42, some 43, some 44, some 45, some 46, some 47, some 48, some 49, some 50, some 51, some 52, some 53, some 54, some 55, some 56, some 57, some 58] (by kernel_rfl) (by kernel_rfl) (by kernel_rfl) 3 (by rw [hL]; intro x hx; simp only [List.take_succ_cons, List.take_zero, List.mem_cons, List.not_mem_nil, or_false] at hx; rcases hx with rfl | rfl | rfl <;> rfl) (by rw [hL]; rfl) ?_ ?_
          · clear hL
            exact ⟨m_field HK gokm_none (f := 0) (s := 5) (by kernel_rfl) (by omega) (om_tmp V4) rfl V17,
              m_loadn HK gokm_none (by kernel_rfl) (by kernel_rfl) (om_tmp V17) (by intro j v hj; rcases j with _ | _ | _ | _ | _ | j <;> simp at hj <;> subst hj <;> assumption) V18,
              m_call HK gokm_none Try.func55 (by kernel_rfl) (by kernel_rfl) V19 (fun o b' wx hm hG ho => by
                have e1 : b'.eval (.tmp 18) = .agg #[.int .i64 x1, .int .i64 x2, .int .i64 x3, .int .i64 x4, .int .i64 x5] := (om_tmp V18) o b' wx (hm _ (by simp)) ho
                have e0 : ∀ v, b'.eval (.const v) = v := fun _ => rfl
                rw [show (#[.tmp 18] : Array Operand).map b'.eval = #[.agg #[.int .i64 x1, .int .i64 x2, .int .i64 x3, .int .i64 x4, .int .i64 x5]] from by simp [e0, e1]]
                exact (sFlow_is _ _ _ _ _ _).mono fun e w' h => ⟨_, h.1, by rw [h.2]; exact GrF.alloc _ _ _, by rw [v1]; rfl⟩),
              m_not HK gokm_none (om_tmp V19) rfl V20,
              m_move HK gokm_none (om_tmp V20) V21,
              m_field HK (gokm_some rfl V21) (f := 5) (s := 1) (by kernel_rfl) (by omega) (om_tmp V4) rfl V22,
              m_load1 HK (gokm_some rfl V21) (by kernel_rfl) (om_tmp V22) g5 V23,
              m_call HK (gokm_some rfl V21) Try.func54 (by kernel_rfl) (by kernel_rfl) V24 (fun o b' wx hm hG ho => by
                have e1 : b'.eval (.tmp 23) = .int .i64 xt := (om_tmp V23) o b' wx (hm _ (by simp)) ho
                have e0 : ∀ v, b'.eval (.const v) = v := fun _ => rfl
                rw [show (#[.tmp 23, .const (.int .i64 0), .const (.int .i64 30)] : Array Operand).map b'.eval = #[.int .i64 xt, .int .i64 0, .int .i64 30] from by simp [e0, e1]]
                exact (l1In_any _ _ _ _).mono fun e w' h => ⟨_, h.1, by rw [← h.2]; exact GrF.refl _ _, by rw [v3]; rfl⟩),
              m_not HK (gokm_some rfl V21) (om_tmp V24) rfl V25,
              m_pickf HK gokm_none (om_tmp V21) (om_tmp V25) V26,
              m_move HK gokm_none (om_tmp V26) V27,
              m_skip HK rfl rfl V27 (by intro e; cases e) (fun d h => by cases h; exact V28),
              m_skip HK rfl rfl V27 (by intro e; cases e) (fun d h => by cases h; exact V29),
              m_skip HK rfl rfl V27 (by intro e; cases e) (fun d h => by cases h; exact V30),
              m_skip HK rfl rfl V27 (by intro e; cases e) (fun d h => by cases h; exact V31),
              m_pickt HK gokm_none (om_tmp V27) om_const V32,
              m_move HK gokm_none (om_tmp V32) V33,
              m_skip HK rfl rfl V33 (by intro e; cases e) (fun d h => by cases h; exact V34),
              m_skip HK rfl rfl V33 (by intro e; cases e) (fun d h => by cases h; exact V35),
              m_skip HK rfl rfl V33 (by intro e; cases e) (fun d h => by cases h; exact V36),
              m_skip HK rfl rfl V36 (by intro e; cases e) (fun d h => by cases h; exact V37),
              m_skip HK rfl rfl V36 (by intro e; cases e) (fun d h => by cases h; exact V38),
              m_skip HK rfl rfl V36 (by intro e; cases e) (fun d h => by cases h; exact V39),
              m_skip HK rfl rfl V36 (by intro e; cases e) (fun d h => by cases h; exact V40),
              m_skip HK rfl rfl V36 (by intro e; cases e) (fun d h => by cases h; exact V41),
              m_skip HK rfl rfl V36 (by intro e; cases e) (fun d h => by cases h; exact V42),
              m_skip HK rfl rfl V36 (by intro e; cases e) (fun d h => by cases h; exact V43),
              m_skip HK rfl rfl V36 (by intro e; cases e) (fun d h => by cases h; exact V44),
              m_skip HK rfl rfl V36 (by intro e; cases e) (fun d h => by cases h; exact V45),
              m_skip HK rfl rfl V36 (by intro e; cases e) (fun d h => by cases h; exact V46),
              m_skip HK rfl rfl V33 (by intro e; cases e) (fun d h => by cases h; exact V47),
              m_pickt HK gokm_none (om_tmp V33) om_const V48,
              m_move HK gokm_none (om_tmp V48) V49,
              m_skip HK rfl rfl V49 (by intro e; cases e) (fun d h => by cases h; exact V50),
              m_skip HK rfl rfl V49 (by intro e; cases e) (fun d h => by cases h; exact V51),
              m_skip HK rfl rfl V49 (by intro e; cases e) (fun d h => by cases h; exact V52),
              m_skip HK rfl rfl V49 (by intro e; cases e) (fun d h => by cases h; exact V53),
              m_skip HK rfl rfl V49 (by intro e; cases e) (fun d h => by cases h; exact V54),
              m_skip HK rfl rfl V49 (by intro e; cases e) (fun d h => by cases h; exact V55),
              m_skip HK rfl rfl V49 (by intro e; cases e) (fun d h => by cases h; exact V56),
              m_skip HK rfl rfl V49 (by intro e; cases e) (fun d h => by cases h; exact V57),
              m_pickt HK gokm_none (om_tmp V49) om_const V58,
              trivial⟩
          intro vs w5 hw5 hk5
          have k17 : vs 17 = .pointer (some ⟨wr.heap.size, 0, none⟩) := hk5 0 17 _ (by omega) rfl V17
          have k18 : vs 18 = .agg #[.int .i64 x1, .int .i64 x2, .int .i64 x3, .int .i64 x4, .int .i64 x5] := hk5 1 18 _ (by omega) rfl V18
          have k19 : vs 19 = .bool true := hk5 2 19 _ (by omega) rfl V19
          have k20 : vs 20 = .bool false := hk5 3 20 _ (by omega) rfl V20
          have k21 : vs 21 = .bool false := hk5 4 21 _ (by omega) rfl V21
          have k22 : vs 22 = .pointer (some ⟨wr.heap.size, 0 + 5, none⟩) := hk5 5 22 _ (by omega) rfl V22
          have k23 : vs 23 = .int .i64 (xt) := hk5 6 23 _ (by omega) rfl V23
          have k24 : vs 24 = .bool false := hk5 7 24 _ (by omega) rfl V24
          have k25 : vs 25 = .bool true := hk5 8 25 _ (by omega) rfl V25
          have k26 : vs 26 = .bool true := hk5 9 26 _ (by omega) rfl V26
          have k27 : vs 27 = .bool true := hk5 10 27 _ (by omega) rfl V27
          have k28 : vs 28 = undef := hk5 11 28 _ (by omega) rfl V28
          have k29 : vs 29 = undef := hk5 12 29 _ (by omega) rfl V29
          have k30 : vs 30 = undef := hk5 13 30 _ (by omega) rfl V30
          have k31 : vs 31 = undef := hk5 14 31 _ (by omega) rfl V31
          have k32 : vs 32 = .bool true := hk5 15 32 _ (by omega) rfl V32
          have k33 : vs 33 = .bool true := hk5 16 33 _ (by omega) rfl V33
          have k34 : vs 34 = undef := hk5 17 34 _ (by omega) rfl V34
          have k35 : vs 35 = undef := hk5 18 35 _ (by omega) rfl V35
          have k36 : vs 36 = undef := hk5 19 36 _ (by omega) rfl V36
          have k37 : vs 37 = undef := hk5 20 37 _ (by omega) rfl V37
          have k38 : vs 38 = undef := hk5 21 38 _ (by omega) rfl V38
          have k39 : vs 39 = undef := hk5 22 39 _ (by omega) rfl V39
          have k40 : vs 40 = undef := hk5 23 40 _ (by omega) rfl V40
          have k41 : vs 41 = undef := hk5 24 41 _ (by omega) rfl V41
          have k42 : vs 42 = undef := hk5 25 42 _ (by omega) rfl V42
          have k43 : vs 43 = undef := hk5 26 43 _ (by omega) rfl V43
          have k44 : vs 44 = undef := hk5 27 44 _ (by omega) rfl V44
          have k45 : vs 45 = undef := hk5 28 45 _ (by omega) rfl V45
          have k46 : vs 46 = undef := hk5 29 46 _ (by omega) rfl V46
          have k47 : vs 47 = undef := hk5 30 47 _ (by omega) rfl V47
          have k48 : vs 48 = .bool true := hk5 31 48 _ (by omega) rfl V48
          have k49 : vs 49 = .bool true := hk5 32 49 _ (by omega) rfl V49
          have k50 : vs 50 = undef := hk5 33 50 _ (by omega) rfl V50
          have k51 : vs 51 = undef := hk5 34 51 _ (by omega) rfl V51
          have k52 : vs 52 = undef := hk5 35 52 _ (by omega) rfl V52
          have k53 : vs 53 = undef := hk5 36 53 _ (by omega) rfl V53
          have k54 : vs 54 = undef := hk5 37 54 _ (by omega) rfl V54
          have k55 : vs 55 = undef := hk5 38 55 _ (by omega) rfl V55
          have k56 : vs 56 = undef := hk5 39 56 _ (by omega) rfl V56
          have k57 : vs 57 = undef := hk5 40 57 _ (by omega) rfl V57
          have k58 : vs 58 = .bool true := hk5 41 58 _ (by omega) rfl V58
          clear hk5 HK hL V1 V3 V4 V17 V18 V19 V20 V21 V22 V23 V24 V25 V26 V27 V28 V29 V30 V31 V32 V33 V34 V35 V36 V37 V38 V39 V40 V41 V42 V43 V44 V45 V46 V47 V48 V49 V50 V51 V52 V53 V54 V55 V56 V57 V58
          simp only [putL, Act.put, List.setIfInBounds_toArray, List.set_cons_zero, List.set_cons_succ, k17, k18, k19, k20, k21, k22, k23, k24, k25, k26, k27, k28, k29, k30, k31, k32, k33, k34, k35, k36, k37, k38, k39, k40, k41, k42, k43, k44, k45, k46, k47, k48, k49, k50, k51, k52, k53, k54, k55, k56, k57, k58]
          clear k17 k18 k19 k20 k21 k22 k23 k24 k25 k26 k27 k28 k29 k30 k31 k32 k33 k34 k35 k36 k37 k38 k39 k40 k41 k42 k43 k44 k45 k46 k47 k48 k49 k50 k51 k52 k53 k54 k55 k56 k57 k58
          have b5 := New.below hw5 hb4 hz4
          go_wp2
          go_ret
          exact ⟨ret_bool HE.out.symm, b5⟩
      · have v1 := Bool.eq_false_iff.2 v1
        have HE := Lib.hid (tab_bad (sz := sz) (st := st) hlk (by rw [HO.out, v1]; simp))
        obtain ⟨L, hL⟩ : ∃ L : List (Nat × VT), L = [(1, tLit (.pointer (some ⟨w.heap.size, 0, none⟩))), (3, tLit (.int .i64 ((k : Int)))), (4, tLit (.pointer (some ⟨wr.heap.size, 0, none⟩))), (17, tLit (.pointer (some ⟨wr.heap.size, 0, none⟩))), (18, tLit (.agg #[.int .i64 x1, .int .i64 x2, .int .i64 x3, .int .i64 x4, .int .i64 x5])), (19, tLit (.bool false)), (20, tLit (.bool true)), (21, tLit (.bool true)), (22, tLit (undef)), (23, tLit (undef)), (24, tLit (undef)), (25, tLit (undef)), (26, tLit (.bool true)), (27, tLit (.bool true)), (28, tLit (undef)), (29, tLit (undef)), (30, tLit (undef)), (31, tLit (undef)), (32, tLit (.bool true)), (33, tLit (.bool true)), (34, tLit (undef)), (35, tLit (undef)), (36, tLit (undef)), (37, tLit (undef)), (38, tLit (undef)), (39, tLit (undef)), (40, tLit (undef)), (41, tLit (undef)), (42, tLit (undef)), (43, tLit (undef)), (44, tLit (undef)), (45, tLit (undef)), (46, tLit (undef)), (47, tLit (undef)), (48, tLit (.bool true)), (49, tLit (.bool true)), (50, tLit (undef)), (51, tLit (undef)), (52, tLit (undef)), (53, tLit (undef)), (54, tLit (undef)), (55, tLit (undef)), (56, tLit (undef)), (57, tLit (undef)), (58, tLit (.bool true))] := ⟨_, rfl⟩
        have V1 : L.lookup 1 = some (tLit (.pointer (some ⟨w.heap.size, 0, none⟩))) := by rw [hL]; rfl
        have V3 : L.lookup 3 = some (tLit (.int .i64 ((k : Int)))) := by rw [hL]; rfl
        have V4 : L.lookup 4 = some (tLit (.pointer (some ⟨wr.heap.size, 0, none⟩))) := by rw [hL]; rfl
        have V17 : L.lookup 17 = some (tLit (.pointer (some ⟨wr.heap.size, 0, none⟩))) := by rw [hL]; rfl
        have V18 : L.lookup 18 = some (tLit (.agg #[.int .i64 x1, .int .i64 x2, .int .i64 x3, .int .i64 x4, .int .i64 x5])) := by rw [hL]; rfl
        have V19 : L.lookup 19 = some (tLit (.bool false)) := by rw [hL]; rfl
        have V20 : L.lookup 20 = some (tLit (.bool true)) := by rw [hL]; rfl
        have V21 : L.lookup 21 = some (tLit (.bool true)) := by rw [hL]; rfl
        have V22 : L.lookup 22 = some (tLit (undef)) := by rw [hL]; rfl
        have V23 : L.lookup 23 = some (tLit (undef)) := by rw [hL]; rfl
        have V24 : L.lookup 24 = some (tLit (undef)) := by rw [hL]; rfl
        have V25 : L.lookup 25 = some (tLit (undef)) := by rw [hL]; rfl
        have V26 : L.lookup 26 = some (tLit (.bool true)) := by rw [hL]; rfl
        have V27 : L.lookup 27 = some (tLit (.bool true)) := by rw [hL]; rfl
        have V28 : L.lookup 28 = some (tLit (undef)) := by rw [hL]; rfl
        have V29 : L.lookup 29 = some (tLit (undef)) := by rw [hL]; rfl
        have V30 : L.lookup 30 = some (tLit (undef)) := by rw [hL]; rfl
        have V31 : L.lookup 31 = some (tLit (undef)) := by rw [hL]; rfl
        have V32 : L.lookup 32 = some (tLit (.bool true)) := by rw [hL]; rfl
        have V33 : L.lookup 33 = some (tLit (.bool true)) := by rw [hL]; rfl
        have V34 : L.lookup 34 = some (tLit (undef)) := by rw [hL]; rfl
        have V35 : L.lookup 35 = some (tLit (undef)) := by rw [hL]; rfl
        have V36 : L.lookup 36 = some (tLit (undef)) := by rw [hL]; rfl
        have V37 : L.lookup 37 = some (tLit (undef)) := by rw [hL]; rfl
        have V38 : L.lookup 38 = some (tLit (undef)) := by rw [hL]; rfl
        have V39 : L.lookup 39 = some (tLit (undef)) := by rw [hL]; rfl
        have V40 : L.lookup 40 = some (tLit (undef)) := by rw [hL]; rfl
        have V41 : L.lookup 41 = some (tLit (undef)) := by rw [hL]; rfl
        have V42 : L.lookup 42 = some (tLit (undef)) := by rw [hL]; rfl
        have V43 : L.lookup 43 = some (tLit (undef)) := by rw [hL]; rfl
        have V44 : L.lookup 44 = some (tLit (undef)) := by rw [hL]; rfl
        have V45 : L.lookup 45 = some (tLit (undef)) := by rw [hL]; rfl
        have V46 : L.lookup 46 = some (tLit (undef)) := by rw [hL]; rfl
        have V47 : L.lookup 47 = some (tLit (undef)) := by rw [hL]; rfl
        have V48 : L.lookup 48 = some (tLit (.bool true)) := by rw [hL]; rfl
        have V49 : L.lookup 49 = some (tLit (.bool true)) := by rw [hL]; rfl
        have V50 : L.lookup 50 = some (tLit (undef)) := by rw [hL]; rfl
        have V51 : L.lookup 51 = some (tLit (undef)) := by rw [hL]; rfl
        have V52 : L.lookup 52 = some (tLit (undef)) := by rw [hL]; rfl
        have V53 : L.lookup 53 = some (tLit (undef)) := by rw [hL]; rfl
        have V54 : L.lookup 54 = some (tLit (undef)) := by rw [hL]; rfl
        have V55 : L.lookup 55 = some (tLit (undef)) := by rw [hL]; rfl
        have V56 : L.lookup 56 = some (tLit (undef)) := by rw [hL]; rfl
        have V57 : L.lookup 57 = some (tLit (undef)) := by rw [hL]; rfl
        have V58 : L.lookup 58 = some (tLit (.bool true)) := by rw [hL]; rfl
        have HK : KeepL L := by rw [hL]; exact ⟨keep_lit _, keep_lit _, keep_lit _, keep_lit _, keep_lit _, keep_lit _, keep_lit _, keep_lit _, keep_lit _, keep_lit _, keep_lit _, keep_lit _, keep_lit _, keep_lit _, keep_lit _, keep_lit _, keep_lit _, keep_lit _, keep_lit _, keep_lit _, keep_lit _, keep_lit _, keep_lit _, keep_lit _, keep_lit _, keep_lit _, keep_lit _, keep_lit _, keep_lit _, keep_lit _, keep_lit _, keep_lit _, keep_lit _, keep_lit _, keep_lit _, keep_lit _, keep_lit _, keep_lit _, keep_lit _, keep_lit _, keep_lit _, keep_lit _, keep_lit _, keep_lit _, keep_lit _, trivial⟩
        refine wp_region_mix0 (by kernel_rfl) L 42 rfl [some 17, some 18, some 19, some 20, some 21, some 22, some 23, some 24, some 25, some 26, some 27, some 28, some 29, some 30, some 31, some 32, some 33, some 34, some 35, some 36, some 37, some 38, some 39, some 40, some 41, some 42, some 43, some 44, some 45, some 46, some 47, some 48, some 49, some 50, some 51, some 52, some 53, some 54, some 55, some 56, some 57, some 58] (by kernel_rfl) (by kernel_rfl) (by kernel_rfl) 3 (by rw [hL]; intro x hx; simp only [List.take_succ_cons, List.take_zero, List.mem_cons, List.not_mem_nil, or_false] at hx; rcases hx with rfl | rfl | rfl <;> rfl) (by rw [hL]; rfl) ?_ ?_
        · clear hL
          exact ⟨m_field HK gokm_none (f := 0) (s := 5) (by kernel_rfl) (by omega) (om_tmp V4) rfl V17,
            m_loadn HK gokm_none (by kernel_rfl) (by kernel_rfl) (om_tmp V17) (by intro j v hj; rcases j with _ | _ | _ | _ | _ | j <;> simp at hj <;> subst hj <;> assumption) V18,
            m_call HK gokm_none Try.func55 (by kernel_rfl) (by kernel_rfl) V19 (fun o b' wx hm hG ho => by
              have e1 : b'.eval (.tmp 18) = .agg #[.int .i64 x1, .int .i64 x2, .int .i64 x3, .int .i64 x4, .int .i64 x5] := (om_tmp V18) o b' wx (hm _ (by simp)) ho
              have e0 : ∀ v, b'.eval (.const v) = v := fun _ => rfl
              rw [show (#[.tmp 18] : Array Operand).map b'.eval = #[.agg #[.int .i64 x1, .int .i64 x2, .int .i64 x3, .int .i64 x4, .int .i64 x5]] from by simp [e0, e1]]
              exact (sFlow_is _ _ _ _ _ _).mono fun e w' h => ⟨_, h.1, by rw [h.2]; exact GrF.alloc _ _ _, by rw [v1]; rfl⟩),
            m_not HK gokm_none (om_tmp V19) rfl V20,
            m_move HK gokm_none (om_tmp V20) V21,
            m_skip HK rfl rfl V21 (by intro e; cases e) (fun d h => by cases h; exact V22),
            m_skip HK rfl rfl V21 (by intro e; cases e) (fun d h => by cases h; exact V23),
            m_skip HK rfl rfl V21 (by intro e; cases e) (fun d h => by cases h; exact V24),
            m_skip HK rfl rfl V21 (by intro e; cases e) (fun d h => by cases h; exact V25),
            m_pickt HK gokm_none (om_tmp V21) om_const V26,
            m_move HK gokm_none (om_tmp V26) V27,
            m_skip HK rfl rfl V27 (by intro e; cases e) (fun d h => by cases h; exact V28),
            m_skip HK rfl rfl V27 (by intro e; cases e) (fun d h => by cases h; exact V29),
            m_skip HK rfl rfl V27 (by intro e; cases e) (fun d h => by cases h; exact V30),
            m_skip HK rfl rfl V27 (by intro e; cases e) (fun d h => by cases h; exact V31),
            m_pickt HK gokm_none (om_tmp V27) om_const V32,
            m_move HK gokm_none (om_tmp V32) V33,
            m_skip HK rfl rfl V33 (by intro e; cases e) (fun d h => by cases h; exact V34),
            m_skip HK rfl rfl V33 (by intro e; cases e) (fun d h => by cases h; exact V35),
            m_skip HK rfl rfl V33 (by intro e; cases e) (fun d h => by cases h; exact V36),
            m_skip HK rfl rfl V36 (by intro e; cases e) (fun d h => by cases h; exact V37),
            m_skip HK rfl rfl V36 (by intro e; cases e) (fun d h => by cases h; exact V38),
            m_skip HK rfl rfl V36 (by intro e; cases e) (fun d h => by cases h; exact V39),
            m_skip HK rfl rfl V36 (by intro e; cases e) (fun d h => by cases h; exact V40),
            m_skip HK rfl rfl V36 (by intro e; cases e) (fun d h => by cases h; exact V41),
            m_skip HK rfl rfl V36 (by intro e; cases e) (fun d h => by cases h; exact V42),
            m_skip HK rfl rfl V36 (by intro e; cases e) (fun d h => by cases h; exact V43),
            m_skip HK rfl rfl V36 (by intro e; cases e) (fun d h => by cases h; exact V44),
            m_skip HK rfl rfl V36 (by intro e; cases e) (fun d h => by cases h; exact V45),
            m_skip HK rfl rfl V36 (by intro e; cases e) (fun d h => by cases h; exact V46),
            m_skip HK rfl rfl V33 (by intro e; cases e) (fun d h => by cases h; exact V47),
            m_pickt HK gokm_none (om_tmp V33) om_const V48,
            m_move HK gokm_none (om_tmp V48) V49,
            m_skip HK rfl rfl V49 (by intro e; cases e) (fun d h => by cases h; exact V50),
            m_skip HK rfl rfl V49 (by intro e; cases e) (fun d h => by cases h; exact V51),
            m_skip HK rfl rfl V49 (by intro e; cases e) (fun d h => by cases h; exact V52),
            m_skip HK rfl rfl V49 (by intro e; cases e) (fun d h => by cases h; exact V53),
            m_skip HK rfl rfl V49 (by intro e; cases e) (fun d h => by cases h; exact V54),
            m_skip HK rfl rfl V49 (by intro e; cases e) (fun d h => by cases h; exact V55),
            m_skip HK rfl rfl V49 (by intro e; cases e) (fun d h => by cases h; exact V56),
            m_skip HK rfl rfl V49 (by intro e; cases e) (fun d h => by cases h; exact V57),
            m_pickt HK gokm_none (om_tmp V49) om_const V58,
            trivial⟩
        intro vs w5 hw5 hk5
        have k17 : vs 17 = .pointer (some ⟨wr.heap.size, 0, none⟩) := hk5 0 17 _ (by omega) rfl V17
        have k18 : vs 18 = .agg #[.int .i64 x1, .int .i64 x2, .int .i64 x3, .int .i64 x4, .int .i64 x5] := hk5 1 18 _ (by omega) rfl V18
        have k19 : vs 19 = .bool false := hk5 2 19 _ (by omega) rfl V19
        have k20 : vs 20 = .bool true := hk5 3 20 _ (by omega) rfl V20
        have k21 : vs 21 = .bool true := hk5 4 21 _ (by omega) rfl V21
        have k22 : vs 22 = undef := hk5 5 22 _ (by omega) rfl V22
        have k23 : vs 23 = undef := hk5 6 23 _ (by omega) rfl V23
        have k24 : vs 24 = undef := hk5 7 24 _ (by omega) rfl V24
        have k25 : vs 25 = undef := hk5 8 25 _ (by omega) rfl V25
        have k26 : vs 26 = .bool true := hk5 9 26 _ (by omega) rfl V26
        have k27 : vs 27 = .bool true := hk5 10 27 _ (by omega) rfl V27
        have k28 : vs 28 = undef := hk5 11 28 _ (by omega) rfl V28
        have k29 : vs 29 = undef := hk5 12 29 _ (by omega) rfl V29
        have k30 : vs 30 = undef := hk5 13 30 _ (by omega) rfl V30
        have k31 : vs 31 = undef := hk5 14 31 _ (by omega) rfl V31
        have k32 : vs 32 = .bool true := hk5 15 32 _ (by omega) rfl V32
        have k33 : vs 33 = .bool true := hk5 16 33 _ (by omega) rfl V33
        have k34 : vs 34 = undef := hk5 17 34 _ (by omega) rfl V34
        have k35 : vs 35 = undef := hk5 18 35 _ (by omega) rfl V35
        have k36 : vs 36 = undef := hk5 19 36 _ (by omega) rfl V36
        have k37 : vs 37 = undef := hk5 20 37 _ (by omega) rfl V37
        have k38 : vs 38 = undef := hk5 21 38 _ (by omega) rfl V38
        have k39 : vs 39 = undef := hk5 22 39 _ (by omega) rfl V39
        have k40 : vs 40 = undef := hk5 23 40 _ (by omega) rfl V40
        have k41 : vs 41 = undef := hk5 24 41 _ (by omega) rfl V41
        have k42 : vs 42 = undef := hk5 25 42 _ (by omega) rfl V42
        have k43 : vs 43 = undef := hk5 26 43 _ (by omega) rfl V43
        have k44 : vs 44 = undef := hk5 27 44 _ (by omega) rfl V44
        have k45 : vs 45 = undef := hk5 28 45 _ (by omega) rfl V45
        have k46 : vs 46 = undef := hk5 29 46 _ (by omega) rfl V46
        have k47 : vs 47 = undef := hk5 30 47 _ (by omega) rfl V47
        have k48 : vs 48 = .bool true := hk5 31 48 _ (by omega) rfl V48
        have k49 : vs 49 = .bool true := hk5 32 49 _ (by omega) rfl V49
        have k50 : vs 50 = undef := hk5 33 50 _ (by omega) rfl V50
        have k51 : vs 51 = undef := hk5 34 51 _ (by omega) rfl V51
        have k52 : vs 52 = undef := hk5 35 52 _ (by omega) rfl V52
        have k53 : vs 53 = undef := hk5 36 53 _ (by omega) rfl V53
        have k54 : vs 54 = undef := hk5 37 54 _ (by omega) rfl V54
        have k55 : vs 55 = undef := hk5 38 55 _ (by omega) rfl V55
        have k56 : vs 56 = undef := hk5 39 56 _ (by omega) rfl V56
        have k57 : vs 57 = undef := hk5 40 57 _ (by omega) rfl V57
        have k58 : vs 58 = .bool true := hk5 41 58 _ (by omega) rfl V58
        clear hk5 HK hL V1 V3 V4 V17 V18 V19 V20 V21 V22 V23 V24 V25 V26 V27 V28 V29 V30 V31 V32 V33 V34 V35 V36 V37 V38 V39 V40 V41 V42 V43 V44 V45 V46 V47 V48 V49 V50 V51 V52 V53 V54 V55 V56 V57 V58
        simp only [putL, Act.put, List.setIfInBounds_toArray, List.set_cons_zero, List.set_cons_succ, k17, k18, k19, k20, k21, k22, k23, k24, k25, k26, k27, k28, k29, k30, k31, k32, k33, k34, k35, k36, k37, k38, k39, k40, k41, k42, k43, k44, k45, k46, k47, k48, k49, k50, k51, k52, k53, k54, k55, k56, k57, k58]
        clear k17 k18 k19 k20 k21 k22 k23 k24 k25 k26 k27 k28 k29 k30 k31 k32 k33 k34 k35 k36 k37 k38 k39 k40 k41 k42 k43 k44 k45 k46 k47 k48 k49 k50 k51 k52 k53 k54 k55 k56 k57 k58
        have b5 := New.below hw5 hb4 hz4
        go_wp2
        go_ret
        exact ⟨ret_bool HE.out.symm, b5⟩
    · obtain rfl : n = k := by omega
      have HV : RowKit.Hid (tabV sz st es = (inB sz 1 12 && inB st 1 100000 && decide ((n : Int) ≤ sz))) := Lib.hid (by unfold tabV; rw [hr.all HL.out, HL.out, Bool.and_true])
      by_cases s1 : inB sz 1 12 = true
      · by_cases s2 : inB st 1 100000 = true
        · go_wp2_with (go_at_call 54; refine (l1In_any _ _ _ _).mono ?_; (first | rw [s1] | rw [s2]); rintro e w' ⟨rfl, rfl⟩)
          all_goals
            go_ret
            refine ⟨ret_bool ?_, hb⟩
            rw [HV.out, s1, s2]
            first | rfl | simp [*] | (simp; omega)
        · have s2' := Bool.eq_false_iff.2 s2
          clear s2
          go_wp2_with (go_at_call 54; refine (l1In_any _ _ _ _).mono ?_; (first | rw [s1] | rw [s2']); rintro e w' ⟨rfl, rfl⟩)
          go_ret
          exact ⟨ret_bool (by rw [HV.out, s1, s2']; rfl), hb⟩
      · have s1' := Bool.eq_false_iff.2 s1
        clear s1
        go_wp2_with (go_at_call 54; refine (l1In_any _ _ _ _).mono ?_; rw [s1']; rintro e w' ⟨rfl, rfl⟩)
        go_ret
        exact ⟨ret_bool (by rw [HV.out, s1']; rfl), hb⟩
end Go.Proofs.Ytgdcfhifiincaaa
