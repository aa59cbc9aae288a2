/-
  DrainedHosts of the reference.
-/
import Derived.Test.YtgdcfhifiincaaaDrnI
namespace Go.Proofs.Ytgdcfhifiincaaa
open Go.RowKit
set_option linter.unusedVariables false

set_option maxRecDepth 100000 in
set_option maxHeartbeats 1600000 in
theorem sDrained_any (A : Option Addr) (n c : Nat) (hs : List H3) (sz st : Int) (A2 : Option Addr) (n2 c2 : Nat) (es : List En7) (w : World) {lo hi lo2 hi2 : Nat} (hS : Sl w lo hi 3 A n (hostsV hs)) (hhi : hi ≤ w.heap.size) (hn : n ≤ 1048576) (hE : Sl w lo2 hi2 7 A2 n2 (ensV es)) (hhi2 : hi2 ≤ w.heap.size) (hn2 : n2 ≤ 1048576) (hnc : n2 ≤ c2) (hmx : c2 ≤ maxLen) :
    Calls Try.prog 9 #[.slice A n c, .agg #[.int .i64 sz, .int .i64 st, .slice A2 n2 c2]] w (RetOwn w 3 1 (drL hs sz st es).length ((drL hs sz st es).map (Value.int .i64))) := by
  have HL := Lib.hid hS.hlen
  obtain ⟨i0, hi0, hz0, hz1, hz2⟩ := info_parts infoI
  have hb0 := (Below.refl w.heap.size w).alloc (Nat.le_refl _) (.cells #[.int .i64 sz, .int .i64 st, .slice A2 n2 c2] 34)
  have hbk0 := Blk.new w 34 #[.int .i64 sz, .int .i64 st, .slice A2 n2 c2]
  have hlit := World.ownsRow_lit (base := (w.alloc (.cells #[.int .i64 sz, .int .i64 st, .slice A2 n2 c2] 34)).heap.size) (e := 3) (size := 1) (w.alloc (.cells #[.int .i64 sz, .int .i64 st, .slice A2 n2 c2] 34)) #[] 0 (Nat.le_refl _) (by unfold maxLen; omega) (by simp)
  have hbl := (Below.refl (w.alloc (.cells #[.int .i64 sz, .int .i64 st, .slice A2 n2 c2] 34)).heap.size (w.alloc (.cells #[.int .i64 sz, .int .i64 st, .slice A2 n2 c2] 34))).alloc (Nat.le_refl _) (.cells #[] 3)
  have hsA : w.heap.size < (w.alloc (.cells #[.int .i64 sz, .int .i64 st, .slice A2 n2 c2] 34)).heap.size := by simp
  have hpv : ∀ w1, Below w.heap.size w w1 → Calls Try.prog 34 #[.slice A n c] w1 fun e w' => e = .returned (.bool (poolV hs)) ∧ Below w1.heap.size w1 w' := fun w1 hb => sPoolValid_any A n c hs w1 (hS.below hb hhi) (Nat.le_trans hhi hb.size) hn
  have htv : ∀ w1, Below w.heap.size w w1 → Calls Try.prog 35 #[.agg #[.int .i64 sz, .int .i64 st, .slice A2 n2 c2]] w1 fun e w' => e = .returned (.bool (tabV sz st es)) ∧ Below w1.heap.size w1 w' := fun w1 hb => sTab_any sz st A2 n2 c2 es w1 (hE.below hb hhi2) (Nat.le_trans hhi2 hb.size) (by omega) hnc hmx
  have hfo : tabV sz st es = true → ∀ (x : Int) w1, Below w.heap.size w w1 → Calls Try.prog 36 #[.agg #[.int .i64 sz, .int .i64 st, .slice A2 n2 c2], .int .i64 x] w1 fun e w' => e = .returned (.int .i64 (flowsOn es x : Nat)) ∧ Below w1.heap.size w1 w' := fun ht x w1 hb => by
    have := sFlOn_any sz st A2 n2 c2 es x w1 (hE.below hb hhi2) (Nat.le_trans hhi2 hb.size) (by omega) hnc hmx
    unfold flOn at this
    rwa [if_pos ht] at this
  go_enter Try.func9, Try.ntmps9
  go_wp2
  generalize hwA : w.alloc (.cells #[.int .i64 sz, .int .i64 st, .slice A2 n2 c2] 34) = wA at hb0 hbk0 hlit hbl hsA ⊢
  try rw [show w.heap.size + 1 = wA.heap.size from by rw [← hwA]; simp]
  go_loopw [5, 6] (fun o i wr => ∃ (k : Nat) (v : Value), k ≤ n ∧ i = .int .i64 k ∧ o = v ∧ (k = 0 ∨ (poolV hs = true ∧ tabV sz st es = true)) ∧ wr.ownsRow wA.heap.size 3 1 v (drN es (hs.take k)).length ((drN es (hs.take k)).map (Value.int .i64)) ∧ Below wA.heap.size wA wr) (fun _ i _ => n - (intOf i).toNat)
  case atStart => exact ⟨0, _, Nat.zero_le _, rfl, rfl, .inl rfl, hlit, hbl⟩
  case round =>
    clear hlit hbl hwA
    obtain ⟨k, v, hk, rfl, rfl, hval, hown, hb⟩ := hrel
    have hz := hb.size
    have hbw := hb0.trans (hb.mono hb0.size)
    by_cases hlt : k < n
    · have hki : (0 : Int) ≤ (k : Int) := by omega
      have hki2 : (k : Int) < (n : Int) := by omega
      go_wp2_with fail
      refine (hpv _ hbw).mono ?_
      rintro e w1 ⟨rfl, hb1⟩
      have hbB := hb.trans (hb1.mono hz)
      have hownB := own_below hown hb1
      have hbC := hb0.trans (hbB.mono hb0.size)
      have hbk := hbk0.below hbB hsA
      by_cases hv : poolV hs = true
      · rw [hv]
        have d0 : w1.cell? ⟨w.heap.size, 0, none⟩ = some (.int .i64 sz) := hbk.cell 0
        have d1 : w1.cell? ⟨w.heap.size, 1, none⟩ = some (.int .i64 st) := hbk.cell 1
        have d2 : w1.cell? ⟨w.heap.size, 2, none⟩ = some (.slice A2 n2 c2) := hbk.cell 2
        go_wp2_with fail
        refine (htv _ hbC).mono ?_
        rintro e w2 ⟨rfl, hb2⟩
        have hb' := hbB.trans (hb2.mono hbB.size)
        have hown' := own_below hownB hb2
        clear hown hb hb1 hb2 hbB hownB hbC hbk d0 d1 d2 hbw hz
        have hown := hown'
        have hb := hb'
        clear hown' hb'
        have hz := hb.size
        have hbD := hb0.trans (hb.mono hb0.size)
        have hbk := hbk0.below hb hsA
        by_cases ht : tabV sz st es = true
        · rw [ht]
          replace hfo := hfo ht
          obtain ⟨b, off, rfl, _, _, c0q, c1q, c2q⟩ := (hS.below hbD hhi).host hlt
          have d0 : w2.cell? ⟨w.heap.size, 0, none⟩ = some (.int .i64 sz) := hbk.cell 0
          have d1 : w2.cell? ⟨w.heap.size, 0 + 1, none⟩ = some (.int .i64 st) := hbk.cell 1
          have d2 : w2.cell? ⟨w.heap.size, 0 + 2, none⟩ = some (.slice A2 n2 c2) := hbk.cell 2
          have hwm : w.heap.size < w2.heap.size := hbk.lt
          have hlk : k < hs.length := by rw [HL.out]; exact hlt
          have hle := drN_le es hs k
          have HS := Lib.hid (drN_snoc es hlk)
          obtain ⟨⟨h0, h1, h2⟩, hh⟩ : ∃ p, hAt hs k = p := ⟨_, rfl⟩
          rw [hh] at c0q c1q c2q HS
          simp only at c0q c1q c2q
          obtain ⟨q, hq⟩ : ∃ q, flowsOn es h0 = q := ⟨_, rfl⟩
          have HQ := Lib.hid hq
          clear hh hq
          go_upto_region 5 with fail
          by_cases hs2 : h2 = 2
          · have hsb : (h2 == 2) = true := by simpa using hs2
            by_cases hq0 : q = 0
            · have HE : RowKit.Hid (drN es (hs.take (k + 1)) = drN es (hs.take k) ++ [h0]) := Lib.hid (by rw [HS.out, if_pos (by unfold drF; rw [HQ.out, hq0, hs2]; rfl)])
              have hqb : ((q : Int) == 0) = true := by simp; omega
              obtain ⟨L, hL⟩ : ∃ L : List (Nat × VT), L = [(0, tLit (.slice (some ⟨b, off, none⟩) (n) (c))), (3, tLit (.pointer (some ⟨w.heap.size, 0, none⟩))), (6, tLit (.int .i64 ((k : Int)))), (22, tLit (.slice (some ⟨b, off, none⟩) (n) (c))), (23, tLit (.int .i64 ((k : Int)))), (24, tLit (.pointer (some ⟨b, off + k * 3, none⟩))), (25, tLit (.pointer (some ⟨b, off + k * 3 + 2, none⟩))), (26, tLit (.int .i64 (h2))), (27, tLit (.bool true)), (28, tLit (.bool true)), (29, tLit (.agg #[.int .i64 sz, .int .i64 st, .slice A2 n2 c2])), (30, tLit (.slice (some ⟨b, off, none⟩) (n) (c))), (31, tLit (.int .i64 ((k : Int)))), (32, tLit (.pointer (some ⟨b, off + k * 3, none⟩))), (33, tLit (.pointer (some ⟨b, off + k * 3, none⟩))), (34, tLit (.int .i64 (h0))), (35, tLit (.int .i64 ((q : Int)))), (36, tLit (.bool true)), (37, tLit (.bool true))] := ⟨_, rfl⟩
              have V0 : L.lookup 0 = some (tLit (.slice (some ⟨b, off, none⟩) (n) (c))) := by rw [hL]; rfl
              have V3 : L.lookup 3 = some (tLit (.pointer (some ⟨w.heap.size, 0, none⟩))) := by rw [hL]; rfl
              have V6 : L.lookup 6 = some (tLit (.int .i64 ((k : Int)))) := by rw [hL]; rfl
              have V22 : L.lookup 22 = some (tLit (.slice (some ⟨b, off, none⟩) (n) (c))) := by rw [hL]; rfl
              have V23 : L.lookup 23 = some (tLit (.int .i64 ((k : Int)))) := by rw [hL]; rfl
              have V24 : L.lookup 24 = some (tLit (.pointer (some ⟨b, off + k * 3, none⟩))) := by rw [hL]; rfl
              have V25 : L.lookup 25 = some (tLit (.pointer (some ⟨b, off + k * 3 + 2, none⟩))) := by rw [hL]; rfl
              have V26 : L.lookup 26 = some (tLit (.int .i64 (h2))) := by rw [hL]; rfl
              have V27 : L.lookup 27 = some (tLit (.bool true)) := by rw [hL]; rfl
              have V28 : L.lookup 28 = some (tLit (.bool true)) := by rw [hL]; rfl
              have V29 : L.lookup 29 = some (tLit (.agg #[.int .i64 sz, .int .i64 st, .slice A2 n2 c2])) := by rw [hL]; rfl
              have V30 : L.lookup 30 = some (tLit (.slice (some ⟨b, off, none⟩) (n) (c))) := by rw [hL]; rfl
              have V31 : L.lookup 31 = some (tLit (.int .i64 ((k : Int)))) := by rw [hL]; rfl
              have V32 : L.lookup 32 = some (tLit (.pointer (some ⟨b, off + k * 3, none⟩))) := by rw [hL]; rfl
              have V33 : L.lookup 33 = some (tLit (.pointer (some ⟨b, off + k * 3, none⟩))) := by rw [hL]; rfl
              have V34 : L.lookup 34 = some (tLit (.int .i64 (h0))) := by rw [hL]; rfl
              have V35 : L.lookup 35 = some (tLit (.int .i64 ((q : Int)))) := by rw [hL]; rfl
              have V36 : L.lookup 36 = some (tLit (.bool true)) := by rw [hL]; rfl
              have V37 : L.lookup 37 = some (tLit (.bool true)) := by rw [hL]; rfl
              have HK : KeepL L := by rw [hL]; exact ⟨keep_lit _, keep_lit _, keep_lit _, keep_lit _, keep_lit _, keep_lit _, keep_lit _, keep_lit _, keep_lit _, keep_lit _, keep_lit _, keep_lit _, keep_lit _, keep_lit _, keep_lit _, keep_lit _, keep_lit _, keep_lit _, keep_lit _, trivial⟩
              refine wp_region_mix0 (by kernel_rfl) L 16 rfl [some 22, some 23, some 24, some 25, some 26, some 27, some 28, some 29, some 30, some 31, some 32, some 33, some 34, some 35, some 36, some 37] (by kernel_rfl) (by kernel_rfl) (by kernel_rfl) 3 (by rw [hL]; intro x hx; simp only [List.take_succ_cons, List.take_zero, List.mem_cons, List.not_mem_nil, or_false] at hx; rcases hx with rfl | rfl | rfl <;> rfl) (by rw [hL]; rfl) ?_ ?_
              · clear hL
                exact ⟨m_move HK gokm_none (om_tmp V0) V22,
                  m_move HK gokm_none (om_tmp V6) V23,
                  m_index HK gokm_none (s := 3) (by kernel_rfl) (by omega) (by omega) (om_tmp V22) (om_tmp V23) (by simp) V24,
                  m_field HK gokm_none (f := 2) (s := 1) (by kernel_rfl) (by omega) (om_tmp V24) rfl V25,
                  m_load1 HK gokm_none (by kernel_rfl) (om_tmp V25) c2q V26,
                  m_eql HK gokm_none (om_tmp V26) om_const hsb.symm V27,
                  m_move HK gokm_none (om_tmp V27) V28,
                  m_loadn HK (gokm_some rfl V28) (by kernel_rfl) (by kernel_rfl) (om_tmp V3) (by intro j v hj; rcases j with _ | _ | _ | j <;> simp at hj <;> subst hj <;> assumption) V29,
                  m_move HK (gokm_some rfl V28) (om_tmp V0) V30,
                  m_move HK (gokm_some rfl V28) (om_tmp V6) V31,
                  m_index HK (gokm_some rfl V28) (s := 3) (by kernel_rfl) (by omega) (by omega) (om_tmp V30) (om_tmp V31) (by simp) V32,
                  m_field HK (gokm_some rfl V28) (f := 0) (s := 1) (by kernel_rfl) (by omega) (om_tmp V32) rfl V33,
                  m_load1 HK (gokm_some rfl V28) (by kernel_rfl) (om_tmp V33) c0q V34,
                  m_call HK (gokm_some rfl V28) Try.func36 (by kernel_rfl) (by kernel_rfl) V35 (fun o b' wx hm hG ho => by
                    have e1 : b'.eval (.tmp 29) = .agg #[.int .i64 sz, .int .i64 st, .slice A2 n2 c2] := (om_tmp V29) o b' wx (hm _ (by simp)) ho
                    have e2 : b'.eval (.tmp 34) = .int .i64 (h0) := (om_tmp V34) o b' wx (hm _ (by simp)) ho
                    rw [show (#[.tmp 29, .tmp 34] : Array Operand).map b'.eval = #[.agg #[.int .i64 sz, .int .i64 st, .slice A2 n2 c2], .int .i64 h0] from by simp [e1, e2]]
                    exact (hfo h0 wx (New.below hG hbD.drew (Nat.le_of_lt hwm))).mono fun e w' h => ⟨_, h.1, New.of_below h.2, by rw [HQ.out]; rfl⟩),
                  m_eql HK (gokm_some rfl V28) (om_tmp V35) om_const hqb.symm V36,
                  m_pickt HK gokm_none (om_tmp V28) (om_tmp V36) V37,
                  trivial⟩
              intro vs w5 hw5 hk5
              have k22 : vs 22 = .slice (some ⟨b, off, none⟩) (n) (c) := hk5 0 22 _ (by omega) rfl V22
              have k23 : vs 23 = .int .i64 ((k : Int)) := hk5 1 23 _ (by omega) rfl V23
              have k24 : vs 24 = .pointer (some ⟨b, off + k * 3, none⟩) := hk5 2 24 _ (by omega) rfl V24
              have k25 : vs 25 = .pointer (some ⟨b, off + k * 3 + 2, none⟩) := hk5 3 25 _ (by omega) rfl V25
              have k26 : vs 26 = .int .i64 (h2) := hk5 4 26 _ (by omega) rfl V26
              have k27 : vs 27 = .bool true := hk5 5 27 _ (by omega) rfl V27
              have k28 : vs 28 = .bool true := hk5 6 28 _ (by omega) rfl V28
              have k29 : vs 29 = .agg #[.int .i64 sz, .int .i64 st, .slice A2 n2 c2] := hk5 7 29 _ (by omega) rfl V29
              have k30 : vs 30 = .slice (some ⟨b, off, none⟩) (n) (c) := hk5 8 30 _ (by omega) rfl V30
              have k31 : vs 31 = .int .i64 ((k : Int)) := hk5 9 31 _ (by omega) rfl V31
              have k32 : vs 32 = .pointer (some ⟨b, off + k * 3, none⟩) := hk5 10 32 _ (by omega) rfl V32
              have k33 : vs 33 = .pointer (some ⟨b, off + k * 3, none⟩) := hk5 11 33 _ (by omega) rfl V33
              have k34 : vs 34 = .int .i64 (h0) := hk5 12 34 _ (by omega) rfl V34
              have k35 : vs 35 = .int .i64 ((q : Int)) := hk5 13 35 _ (by omega) rfl V35
              have k36 : vs 36 = .bool true := hk5 14 36 _ (by omega) rfl V36
              have k37 : vs 37 = .bool true := hk5 15 37 _ (by omega) rfl V37
              clear hk5 HK hL V0 V3 V6 V22 V23 V24 V25 V26 V27 V28 V29 V30 V31 V32 V33 V34 V35 V36 V37
              simp only [putL, Act.put, List.setIfInBounds_toArray, List.set_cons_zero, List.set_cons_succ, k22, k23, k24, k25, k26, k27, k28, k29, k30, k31, k32, k33, k34, k35, k36, k37]
              clear k22 k23 k24 k25 k26 k27 k28 k29 k30 k31 k32 k33 k34 k35 k36 k37
              have hd5 := New.below hw5 hb hz
              have hown5 := New.own hw5 hown
              have f0 : w5.cell? ⟨b, off + k * 3, none⟩ = some (.int .i64 h0) := New.cell_ hw5 c0q
              clear c0q c1q c2q d0 d1 d2 hown hb hbD hbk
              go_wp2_with (at_builtin; (refine wpList_app1 w5 wA #[.int .i64 h0] rfl _ _ 28 3 rfl i0 _ 1 8 Try.underlying28 hi0 hz0 hz1 hz2 rfl (by decide) _ _ _ (by rfl) hown5 hd5 w5.heap.size 1 1 rfl rfl rfl (by intro u hu; simp at hu; subst hu; rfl) (by unfold maxLen; omega) (by omega) ?_; intro v' w6 hown6 hb6))
              go_roundw
              case rel => exact ⟨k + 1, v', by omega, by go_num, rfl, .inr ⟨hv, ht⟩, by rw [HE.out, List.map_append, List.length_append]; exact hown6, hb6⟩
              case measure => simp [intOf]; omega
            · have HE : RowKit.Hid (drN es (hs.take (k + 1)) = drN es (hs.take k)) := Lib.hid (by rw [HS.out, if_neg (by unfold drF; rw [HQ.out]; simp; intro _; exact hq0)]; simp)
              have hqb : ((q : Int) == 0) = false := by simp; omega
              obtain ⟨L, hL⟩ : ∃ L : List (Nat × VT), L = [(0, tLit (.slice (some ⟨b, off, none⟩) (n) (c))), (3, tLit (.pointer (some ⟨w.heap.size, 0, none⟩))), (6, tLit (.int .i64 ((k : Int)))), (22, tLit (.slice (some ⟨b, off, none⟩) (n) (c))), (23, tLit (.int .i64 ((k : Int)))), (24, tLit (.pointer (some ⟨b, off + k * 3, none⟩))), (25, tLit (.pointer (some ⟨b, off + k * 3 + 2, none⟩))), (26, tLit (.int .i64 (h2))), (27, tLit (.bool true)), (28, tLit (.bool true)), (29, tLit (.agg #[.int .i64 sz, .int .i64 st, .slice A2 n2 c2])), (30, tLit (.slice (some ⟨b, off, none⟩) (n) (c))), (31, tLit (.int .i64 ((k : Int)))), (32, tLit (.pointer (some ⟨b, off + k * 3, none⟩))), (33, tLit (.pointer (some ⟨b, off + k * 3, none⟩))), (34, tLit (.int .i64 (h0))), (35, tLit (.int .i64 ((q : Int)))), (36, tLit (.bool false)), (37, tLit (.bool false))] := ⟨_, rfl⟩
              have V0 : L.lookup 0 = some (tLit (.slice (some ⟨b, off, none⟩) (n) (c))) := by rw [hL]; rfl
              have V3 : L.lookup 3 = some (tLit (.pointer (some ⟨w.heap.size, 0, none⟩))) := by rw [hL]; rfl
              have V6 : L.lookup 6 = some (tLit (.int .i64 ((k : Int)))) := by rw [hL]; rfl
              have V22 : L.lookup 22 = some (tLit (.slice (some ⟨b, off, none⟩) (n) (c))) := by rw [hL]; rfl
              have V23 : L.lookup 23 = some (tLit (.int .i64 ((k : Int)))) := by rw [hL]; rfl
              have V24 : L.lookup 24 = some (tLit (.pointer (some ⟨b, off + k * 3, none⟩))) := by rw [hL]; rfl
              have V25 : L.lookup 25 = some (tLit (.pointer (some ⟨b, off + k * 3 + 2, none⟩))) := by rw [hL]; rfl
              have V26 : L.lookup 26 = some (tLit (.int .i64 (h2))) := by rw [hL]; rfl
              have V27 : L.lookup 27 = some (tLit (.bool true)) := by rw [hL]; rfl
              have V28 : L.lookup 28 = some (tLit (.bool true)) := by rw [hL]; rfl
              have V29 : L.lookup 29 = some (tLit (.agg #[.int .i64 sz, .int .i64 st, .slice A2 n2 c2])) := by rw [hL]; rfl
              have V30 : L.lookup 30 = some (tLit (.slice (some ⟨b, off, none⟩) (n) (c))) := by rw [hL]; rfl
              have V31 : L.lookup 31 = some (tLit (.int .i64 ((k : Int)))) := by rw [hL]; rfl
              have V32 : L.lookup 32 = some (tLit (.pointer (some ⟨b, off + k * 3, none⟩))) := by rw [hL]; rfl
              have V33 : L.lookup 33 = some (tLit (.pointer (some ⟨b, off + k * 3, none⟩))) := by rw [hL]; rfl
              have V34 : L.lookup 34 = some (tLit (.int .i64 (h0))) := by rw [hL]; rfl
              have V35 : L.lookup 35 = some (tLit (.int .i64 ((q : Int)))) := by rw [hL]; rfl
              have V36 : L.lookup 36 = some (tLit (.bool false)) := by rw [hL]; rfl
              have V37 : L.lookup 37 = some (tLit (.bool false)) := by rw [hL]; rfl
              have HK : KeepL L := by rw [hL]; exact ⟨keep_lit _, keep_lit _, keep_lit _, keep_lit _, keep_lit _, keep_lit _, keep_lit _, keep_lit _, keep_lit _, keep_lit _, keep_lit _, keep_lit _, keep_lit _, keep_lit _, keep_lit _, keep_lit _, keep_lit _, keep_lit _, keep_lit _, trivial⟩
              refine wp_region_mix0 (by kernel_rfl) L 16 rfl [some 22, some 23, some 24, some 25, some 26, some 27, some 28, some 29, some 30, some 31, some 32, some 33, some 34, some 35, some 36, some 37] (by kernel_rfl) (by kernel_rfl) (by kernel_rfl) 3 (by rw [hL]; intro x hx; simp only [List.take_succ_cons, List.take_zero, List.mem_cons, List.not_mem_nil, or_false] at hx; rcases hx with rfl | rfl | rfl <;> rfl) (by rw [hL]; rfl) ?_ ?_
              · clear hL
                exact ⟨m_move HK gokm_none (om_tmp V0) V22,
                  m_move HK gokm_none (om_tmp V6) V23,
                  m_index HK gokm_none (s := 3) (by kernel_rfl) (by omega) (by omega) (om_tmp V22) (om_tmp V23) (by simp) V24,
                  m_field HK gokm_none (f := 2) (s := 1) (by kernel_rfl) (by omega) (om_tmp V24) rfl V25,
                  m_load1 HK gokm_none (by kernel_rfl) (om_tmp V25) c2q V26,
                  m_eql HK gokm_none (om_tmp V26) om_const hsb.symm V27,
                  m_move HK gokm_none (om_tmp V27) V28,
                  m_loadn HK (gokm_some rfl V28) (by kernel_rfl) (by kernel_rfl) (om_tmp V3) (by intro j v hj; rcases j with _ | _ | _ | j <;> simp at hj <;> subst hj <;> assumption) V29,
                  m_move HK (gokm_some rfl V28) (om_tmp V0) V30,
                  m_move HK (gokm_some rfl V28) (om_tmp V6) V31,
                  m_index HK (gokm_some rfl V28) (s := 3) (by kernel_rfl) (by omega) (by omega) (om_tmp V30) (om_tmp V31) (by simp) V32,
                  m_field HK (gokm_some rfl V28) (f := 0) (s := 1) (by kernel_rfl) (by omega) (om_tmp V32) rfl V33,
                  m_load1 HK (gokm_some rfl V28) (by kernel_rfl) (om_tmp V33) c0q V34,
                  m_call HK (gokm_some rfl V28) Try.func36 (by kernel_rfl) (by kernel_rfl) V35 (fun o b' wx hm hG ho => by
                    have e1 : b'.eval (.tmp 29) = .agg #[.int .i64 sz, .int .i64 st, .slice A2 n2 c2] := (om_tmp V29) o b' wx (hm _ (by simp)) ho
                    have e2 : b'.eval (.tmp 34) = .int .i64 (h0) := (om_tmp V34) o b' wx (hm _ (by simp)) ho
                    rw [show (#[.tmp 29, .tmp 34] : Array Operand).map b'.eval = #[.agg #[.int .i64 sz, .int .i64 st, .slice A2 n2 c2], .int .i64 h0] from by simp [e1, e2]]
                    exact (hfo h0 wx (New.below hG hbD.drew (Nat.le_of_lt hwm))).mono fun e w' h => ⟨_, h.1, New.of_below h.2, by rw [HQ.out]; rfl⟩),
                  m_eql HK (gokm_some rfl V28) (om_tmp V35) om_const hqb.symm V36,
                  m_pickt HK gokm_none (om_tmp V28) (om_tmp V36) V37,
                  trivial⟩
              intro vs w5 hw5 hk5
              have k22 : vs 22 = .slice (some ⟨b, off, none⟩) (n) (c) := hk5 0 22 _ (by omega) rfl V22
              have k23 : vs 23 = .int .i64 ((k : Int)) := hk5 1 23 _ (by omega) rfl V23
              have k24 : vs 24 = .pointer (some ⟨b, off + k * 3, none⟩) := hk5 2 24 _ (by omega) rfl V24
              have k25 : vs 25 = .pointer (some ⟨b, off + k * 3 + 2, none⟩) := hk5 3 25 _ (by omega) rfl V25
              have k26 : vs 26 = .int .i64 (h2) := hk5 4 26 _ (by omega) rfl V26
              have k27 : vs 27 = .bool true := hk5 5 27 _ (by omega) rfl V27
              have k28 : vs 28 = .bool true := hk5 6 28 _ (by omega) rfl V28
              have k29 : vs 29 = .agg #[.int .i64 sz, .int .i64 st, .slice A2 n2 c2] := hk5 7 29 _ (by omega) rfl V29
              have k30 : vs 30 = .slice (some ⟨b, off, none⟩) (n) (c) := hk5 8 30 _ (by omega) rfl V30
              have k31 : vs 31 = .int .i64 ((k : Int)) := hk5 9 31 _ (by omega) rfl V31
              have k32 : vs 32 = .pointer (some ⟨b, off + k * 3, none⟩) := hk5 10 32 _ (by omega) rfl V32
              have k33 : vs 33 = .pointer (some ⟨b, off + k * 3, none⟩) := hk5 11 33 _ (by omega) rfl V33
              have k34 : vs 34 = .int .i64 (h0) := hk5 12 34 _ (by omega) rfl V34
              have k35 : vs 35 = .int .i64 ((q : Int)) := hk5 13 35 _ (by omega) rfl V35
              have k36 : vs 36 = .bool false := hk5 14 36 _ (by omega) rfl V36
              have k37 : vs 37 = .bool false := hk5 15 37 _ (by omega) rfl V37
              clear hk5 HK hL V0 V3 V6 V22 V23 V24 V25 V26 V27 V28 V29 V30 V31 V32 V33 V34 V35 V36 V37
              simp only [putL, Act.put, List.setIfInBounds_toArray, List.set_cons_zero, List.set_cons_succ, k22, k23, k24, k25, k26, k27, k28, k29, k30, k31, k32, k33, k34, k35, k36, k37]
              clear k22 k23 k24 k25 k26 k27 k28 k29 k30 k31 k32 k33 k34 k35 k36 k37
              have hd5 := New.below hw5 hb hz
              have hown5 := New.own hw5 hown
              go_wp2
              go_roundw
              case rel => exact ⟨k + 1, _, by omega, by go_num, rfl, .inr ⟨hv, ht⟩, by rw [HE.out]; exact hown5, hd5⟩
              case measure => simp [intOf]; omega
          · have HE : RowKit.Hid (drN es (hs.take (k + 1)) = drN es (hs.take k)) := Lib.hid (by rw [HS.out, if_neg (by unfold drF; simp; intro h; exact absurd h hs2)]; simp)
            have hsb : (h2 == 2) = false := by simpa using hs2
            obtain ⟨L, hL⟩ : ∃ L : List (Nat × VT), L = [(0, tLit (.slice (some ⟨b, off, none⟩) (n) (c))), (3, tLit (.pointer (some ⟨w.heap.size, 0, none⟩))), (6, tLit (.int .i64 ((k : Int)))), (22, tLit (.slice (some ⟨b, off, none⟩) (n) (c))), (23, tLit (.int .i64 ((k : Int)))), (24, tLit (.pointer (some ⟨b, off + k * 3, none⟩))), (25, tLit (.pointer (some ⟨b, off + k * 3 + 2, none⟩))), (26, tLit (.int .i64 (h2))), (27, tLit (.bool false)), (28, tLit (.bool false)), (29, tLit (undef)), (30, tLit (undef)), (31, tLit (undef)), (32, tLit (undef)), (33, tLit (undef)), (34, tLit (undef)), (35, tLit (undef)), (36, tLit (undef)), (37, tLit (.bool false))] := ⟨_, rfl⟩
            have V0 : L.lookup 0 = some (tLit (.slice (some ⟨b, off, none⟩) (n) (c))) := by rw [hL]; rfl
            have V3 : L.lookup 3 = some (tLit (.pointer (some ⟨w.heap.size, 0, none⟩))) := by rw [hL]; rfl
            have V6 : L.lookup 6 = some (tLit (.int .i64 ((k : Int)))) := by rw [hL]; rfl
            have V22 : L.lookup 22 = some (tLit (.slice (some ⟨b, off, none⟩) (n) (c))) := by rw [hL]; rfl
            have V23 : L.lookup 23 = some (tLit (.int .i64 ((k : Int)))) := by rw [hL]; rfl
            have V24 : L.lookup 24 = some (tLit (.pointer (some ⟨b, off + k * 3, none⟩))) := by rw [hL]; rfl
            have V25 : L.lookup 25 = some (tLit (.pointer (some ⟨b, off + k * 3 + 2, none⟩))) := by rw [hL]; rfl
            have V26 : L.lookup 26 = some (tLit (.int .i64 (h2))) := by rw [hL]; rfl
            have V27 : L.lookup 27 = some (tLit (.bool false)) := by rw [hL]; rfl
            have V28 : L.lookup 28 = some (tLit (.bool false)) := by rw [hL]; rfl
            have V29 : L.lookup 29 = some (tLit (undef)) := by rw [hL]; rfl
            have V30 : L.lookup 30 = some (tLit (undef)) := by rw [hL]; rfl
            have V31 : L.lookup 31 = some (tLit (undef)) := by rw [hL]; rfl
            have V32 : L.lookup 32 = some (tLit (undef)) := by rw [hL]; rfl
            have V33 : L.lookup 33 = some (tLit (undef)) := by rw [hL]; rfl
            have V34 : L.lookup 34 = some (tLit (undef)) := by rw [hL]; rfl
            have V35 : L.lookup 35 = some (tLit (undef)) := by rw [hL]; rfl
            have V36 : L.lookup 36 = some (tLit (undef)) := by rw [hL]; rfl
            have V37 : L.lookup 37 = some (tLit (.bool false)) := by rw [hL]; rfl
            have HK : KeepL L := by rw [hL]; exact ⟨keep_lit _, keep_lit _, keep_lit _, keep_lit _, keep_lit _, keep_lit _, keep_lit _, keep_lit _, keep_lit _, keep_lit _, keep_lit _, keep_lit _, keep_lit _, keep_lit _, keep_lit _, keep_lit _, keep_lit _, keep_lit _, keep_lit _, trivial⟩
            refine wp_region_mix0 (by kernel_rfl) L 16 rfl [some 22, some 23, some 24, some 25, some 26, some 27, some 28, some 29, some 30, some 31, some 32, some 33, some 34, some 35, some 36, some 37] (by kernel_rfl) (by kernel_rfl) (by kernel_rfl) 3 (by rw [hL]; intro x hx; simp only [List.take_succ_cons, List.take_zero, List.mem_cons, List.not_mem_nil, or_false] at hx; rcases hx with rfl | rfl | rfl <;> rfl) (by rw [hL]; rfl) ?_ ?_
            · clear hL
              exact ⟨m_move HK gokm_none (om_tmp V0) V22,
                m_move HK gokm_none (om_tmp V6) V23,
                m_index HK gokm_none (s := 3) (by kernel_rfl) (by omega) (by omega) (om_tmp V22) (om_tmp V23) (by simp) V24,
                m_field HK gokm_none (f := 2) (s := 1) (by kernel_rfl) (by omega) (om_tmp V24) rfl V25,
                m_load1 HK gokm_none (by kernel_rfl) (om_tmp V25) c2q V26,
                m_eql HK gokm_none (om_tmp V26) om_const hsb.symm V27,
                m_move HK gokm_none (om_tmp V27) V28,
                m_skip HK rfl rfl V28 (by intro e; cases e) (fun d h => by cases h; exact V29),
                m_skip HK rfl rfl V28 (by intro e; cases e) (fun d h => by cases h; exact V30),
                m_skip HK rfl rfl V28 (by intro e; cases e) (fun d h => by cases h; exact V31),
                m_skip HK rfl rfl V28 (by intro e; cases e) (fun d h => by cases h; exact V32),
                m_skip HK rfl rfl V28 (by intro e; cases e) (fun d h => by cases h; exact V33),
                m_skip HK rfl rfl V28 (by intro e; cases e) (fun d h => by cases h; exact V34),
                m_skip HK rfl rfl V28 (by intro e; cases e) (fun d h => by cases h; exact V35),
                m_skip HK rfl rfl V28 (by intro e; cases e) (fun d h => by cases h; exact V36),
                m_pickf HK gokm_none (om_tmp V28) om_const V37,
                trivial⟩
            intro vs w5 hw5 hk5
            have k22 : vs 22 = .slice (some ⟨b, off, none⟩) (n) (c) := hk5 0 22 _ (by omega) rfl V22
            have k23 : vs 23 = .int .i64 ((k : Int)) := hk5 1 23 _ (by omega) rfl V23
            have k24 : vs 24 = .pointer (some ⟨b, off + k * 3, none⟩) := hk5 2 24 _ (by omega) rfl V24
            have k25 : vs 25 = .pointer (some ⟨b, off + k * 3 + 2, none⟩) := hk5 3 25 _ (by omega) rfl V25
            have k26 : vs 26 = .int .i64 (h2) := hk5 4 26 _ (by omega) rfl V26
            have k27 : vs 27 = .bool false := hk5 5 27 _ (by omega) rfl V27
            have k28 : vs 28 = .bool false := hk5 6 28 _ (by omega) rfl V28
            have k29 : vs 29 = undef := hk5 7 29 _ (by omega) rfl V29
            have k30 : vs 30 = undef := hk5 8 30 _ (by omega) rfl V30
            have k31 : vs 31 = undef := hk5 9 31 _ (by omega) rfl V31
            have k32 : vs 32 = undef := hk5 10 32 _ (by omega) rfl V32
            have k33 : vs 33 = undef := hk5 11 33 _ (by omega) rfl V33
            have k34 : vs 34 = undef := hk5 12 34 _ (by omega) rfl V34
            have k35 : vs 35 = undef := hk5 13 35 _ (by omega) rfl V35
            have k36 : vs 36 = undef := hk5 14 36 _ (by omega) rfl V36
            have k37 : vs 37 = .bool false := hk5 15 37 _ (by omega) rfl V37
            clear hk5 HK hL V0 V3 V6 V22 V23 V24 V25 V26 V27 V28 V29 V30 V31 V32 V33 V34 V35 V36 V37
            simp only [putL, Act.put, List.setIfInBounds_toArray, List.set_cons_zero, List.set_cons_succ, k22, k23, k24, k25, k26, k27, k28, k29, k30, k31, k32, k33, k34, k35, k36, k37]
            clear k22 k23 k24 k25 k26 k27 k28 k29 k30 k31 k32 k33 k34 k35 k36 k37
            have hd5 := New.below hw5 hb hz
            have hown5 := New.own hw5 hown
            go_wp2
            go_roundw
            case rel => exact ⟨k + 1, _, by omega, by go_num, rfl, .inr ⟨hv, ht⟩, by rw [HE.out]; exact hown5, hd5⟩
            case measure => simp [intOf]; omega
        · obtain rfl : k = 0 := hval.resolve_right fun h => ht h.2
          have HV : RowKit.Hid (drL hs sz st es = []) := Lib.hid (by unfold drL; rw [if_neg (fun h => ht h.2)])
          rw [Bool.eq_false_iff.2 ht]
          go_wp2
          go_ret
          rw [HV.out]
          exact RetOwn.older hown hb hb0
      · obtain rfl : k = 0 := hval.resolve_right fun h => hv h.1
        have HV : RowKit.Hid (drL hs sz st es = []) := Lib.hid (by unfold drL; rw [if_neg (fun h => hv h.1)])
        rw [Bool.eq_false_iff.2 hv]
        go_wp2
        go_ret
        rw [HV.out]
        exact RetOwn.older hownB hbB hb0
    · obtain rfl : n = k := by omega
      have HE : RowKit.Hid (hs.take n = hs) := Lib.hid (by rw [← HL.out, List.take_length])
      have HV : RowKit.Hid (drL hs sz st es = drN es hs) := Lib.hid (by
        unfold drL
        split
        · rfl
        · rename_i hng
          rcases hval with h | h
          · have : hs = [] := List.eq_nil_of_length_eq_zero (by rw [HL.out, h])
            rw [this]; rfl
          · exact absurd h hng)
      rw [HE.out] at hown
      go_wp2
      go_ret
      rw [HV.out]
      exact RetOwn.older hown hb hb0
end Go.Proofs.Ytgdcfhifiincaaa
