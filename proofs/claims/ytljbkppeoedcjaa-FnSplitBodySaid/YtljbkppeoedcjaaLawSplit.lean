/-
  The walk of the drawn law FnSplitBody.
-/
import Derived.Test.YtljbkppeoedcjaaDrawSplit
import Derived.Test.YtljbkppeoedcjaaSplitB
import Derived.Test.YtljbkppeoedcjaaPcsD
import Derived.Test.YtljbkppeoedcjaaJoinI
import Derived.Test.YtljbkppeoedcjaaSameP
import Derived.Deep.CutBlock
namespace Go.Proofs.Ytljbkppeoedcjaa
open Go.RowKit
set_option linter.unusedVariables false

theorem join_split {bs : List Int} {sz : Int} (h : bs.length ≤ 80 ∧ 1 ≤ sz ∧ sz ≤ 40) : joinP (splitP bs sz) = some bs :=
  join_parts h.1 (split_pos h) (split_len h) (fun p hp => (split_parts h p hp).1) (split_cover h)
theorem join_twice {bs : List Int} {sz : Int} (h : bs.length ≤ 80 ∧ 1 ≤ sz ∧ sz ≤ 40) (h2 : (splitP bs sz).length + (splitP bs sz).length ≤ 80) : joinP ((splitP bs sz).reverse ++ splitP bs sz) = some bs := by
  have hp := split_pos h
  refine join_parts h.1 (by simp; omega) (by simp; omega) (fun p hp => ?_) fun i hi => ?_
  · rcases List.mem_append.1 hp with hp | hp
    · exact (split_parts h p (by simpa using hp)).1
    · exact (split_parts h p hp).1
  · obtain ⟨p, hp, hh⟩ := split_cover h i hi
    exact ⟨p, by simp [hp], hh⟩
theorem split_i64 {bs : List Int} {sz : Int} {ps : List Pv} (h : ps.map Pv.pc = splitP bs sz) : ∀ p ∈ ps, -9223372036854775808 ≤ p.at_ ∧ p.at_ ≤ 9223372036854775807 := by
  intro p hp
  have hm : p.pc ∈ splitP bs sz := by rw [← h]; exact List.mem_map_of_mem hp
  by_cases hv : bs.length ≤ 80 ∧ 1 ≤ sz ∧ sz ≤ 40
  · obtain ⟨a, n, e1, e2, _⟩ := (split_parts hv _ hm).1
    have e1' : p.at_ = (a : Int) := e1
    omega
  · unfold splitP at hm
    rw [if_neg hv] at hm
    exact absurd hm (by simp)
theorem split_at {bs : List Int} {sz : Int} {ps : List Pv} (hv : bs.length ≤ 80 ∧ 1 ≤ sz ∧ sz ≤ 40) (h : ps.map Pv.pc = splitP bs sz) {k : Nat} (hk : k < ps.length) (hl : (pAt ps k).zs.length = (pAt ps k).n) : ((pAt ps k).n : Int) ≤ sz ∧ (pAt ps k).more = decide (k + 1 < ps.length) := by
  have hg : (splitP bs sz)[k]? = some (pAt ps k).pc := by rw [← h, List.getElem?_map, List.getElem?_eq_getElem hk, pAt_eq hk]; rfl
  have hlen : (splitP bs sz).length = ps.length := by rw [← h]; simp
  have h1 := (split_parts hv _ (List.mem_of_getElem? hg)).2
  have h2 := split_more hv k _ hg
  have e1 : (pAt ps k).pc.body.length = (pAt ps k).n := hl
  rw [e1] at h1
  refine ⟨h1, ?_⟩
  rw [hlen] at h2
  have e2 : (pAt ps k).pc.more = (pAt ps k).more := rfl
  rw [e2] at h2
  cases hm : (pAt ps k).more with
  | true => exact (decide_eq_true (h2.1 hm)).symm
  | false => exact (decide_eq_false fun hh => by rw [h2.2 hh] at hm; cases hm).symm
theorem ones_pv (ps : List Pv) : ∀ u ∈ pvs ps, u.oneCell' = true := by
  intro u hu
  unfold pvs at hu
  obtain ⟨p, _, hu⟩ := List.mem_flatMap.1 hu
  simp [Pv.cs, Pv.body] at hu
  rcases hu with rfl | rfl | rfl <;> rfl

set_option maxRecDepth 100000 in
set_option maxHeartbeats 6400000 in
theorem wFnSplitBody (A : Option Addr) (n c : Nat) (zs : List Int) (w : World) (hs : Sl w 0 w.heap.size 1 A n (zs.map (Value.int .u8))) (hnc : n ≤ c) (hm : c ≤ maxLen) (hw : ∀ z ∈ zs, (Lit.int .u8 z).wf = true) :
    Calls Try.prog 4 #[.slice A n c] w fun e w' => e = .returned (.bool true) ∧ Below w.heap.size w w' := by
  unfold maxLen at hm
  have hz := AllByte.of_wf hw
  clear hw
  obtain ⟨iP, hiP, hzP, hzP1, hzP2⟩ := info_parts infoPiece
  by_cases hn : n ≤ 1048576
  · have hn1 : ¬ ((1048576 : Int) < (n : Int)) := by omega
    go_enter Try.func4, Try.ntmps4
    go_wp2_with fail
    refine (drawSplitBody_any _ _ _ zs _ hs hnc (by omega) hz).mono ?_
    rintro e w1 ⟨B, q, qc, bs, sz, rfl, ⟨hq81, hqc, hqx, hby⟩, hs0, hs1, S_w1, b_w1⟩
    have d_w1 := b_w1
    have z_w1 := b_w1.size
    have hbl : bs.length = q := S_w1.len
    obtain ⟨hN80, _⟩ := split_bds bs sz
    obtain ⟨all, hall⟩ : ∃ x, splitP bs sz = x := ⟨_, rfl⟩
    rw [hall] at hN80
    obtain ⟨N, hN⟩ : ∃ x, all.length = x := ⟨_, rfl⟩
    rw [hN] at hN80
    have HN : Hid (splitP bs sz = all ∧ all.length = N) := Lib.hid ⟨hall, hN⟩
    have HBL := Lib.hid hbl
    clear hall hN hbl
    go_wp2_with fail
    refine (iSplitBody_any _ _ _ bs _ _ S_w1 (Nat.le_refl _) hqc hqx (by omega) hby).mono ?_
    rw [HN.out.1, HN.out.2]
    intro e w2 hr
    obtain ⟨AX, cX, qX, rfl, hpX, X_w2, b_w2⟩ := hr
    have sX := split_sum (zs := bs) (size := sz) (by rw [HN.out.1]; exact hpX) X_w2
    have HPX := Lib.hid hpX
    clear hpX
    have d_w2 := d_w1.trans (b_w2.mono d_w1.size)
    have z_w2 := b_w2.size
    have S_w2 := S_w1.below b_w2 (Nat.le_refl _)
    go_wp2_with fail
    refine (sSplitBody_any _ _ _ bs _ _ S_w2 (by omega) hqc hqx (by omega) hby).mono ?_
    rw [HN.out.1, HN.out.2]
    intro e w3 hr
    obtain ⟨AY, cY, qY, rfl, hpY, Y_w3, b_w3⟩ := hr
    have sY := split_sum (zs := bs) (size := sz) (by rw [HN.out.1]; exact hpY) Y_w3
    have HPY := Lib.hid hpY
    clear hpY
    have d_w3 := d_w2.trans (b_w3.mono d_w2.size)
    have z_w3 := b_w3.size
    have X_w3 := X_w2.below b_w3
    have S_w3 := S_w2.below b_w3 (by omega)
    go_wp2_with fail
    refine (samePieces_yes _ _ _ _ _ _ _ _ X_w3.pcs Y_w3.pcs (HPX.out.trans HPY.out.symm) (Nat.le_refl _) (Nat.le_refl _) (by omega) (by omega)).mono ?_
    rintro e w4 ⟨rfl, b_w4⟩
    have d_w4 := d_w3.trans (b_w4.mono d_w3.size)
    have z_w4 := b_w4.size
    have X_w4 := X_w3.below b_w4
    have S_w4 := S_w3.below b_w4 (by omega)
    by_cases hv : bs.length ≤ 80 ∧ 1 ≤ sz ∧ sz ≤ 40
    · skip
      have hNpos : 0 < N := by rw [← HN.out.2, ← HN.out.1]; exact split_pos hv
      have hN0 : ((N : Int) == 0) = false := by simp; omega
      have HV := Lib.hid hv
      clear hv
      have HXL : Hid (qX.length = N) := Lib.hid X_w4.len
      go_upto_region 10 with fail
      have r0 := World.ownsRow_lit (base := w4.heap.size) (e := 35) (size := 3) w4 #[] 0 (by omega) (by unfold maxLen; omega) (by simp)
      have t0 := (Below.refl w4.heap.size w4).alloc (Nat.le_refl _) (.cells #[] 35)
      go_wp2_with fail
      go_loopw [6, 7] (fun tv i wr => ∃ (j : Nat) (B : Option Addr) (m mc : Nat), j ≤ N ∧ i = .int .i64 ((j : Int) - 1) ∧ tv = .slice B m mc ∧ m = N - j ∧ wr.ownsRow w4.heap.size 35 3 (.slice B m mc) m (pvs (qX.drop j).reverse) ∧ Below w4.heap.size w4 wr) (fun _ i _ => ((intOf i) + 1).toNat)
      case atStart => exact ⟨N, _, 0, _, Nat.le_refl _, rfl, rfl, by omega, by rw [List.drop_of_length_le (by rw [HXL.out]; exact Nat.le_refl _)]; exact r0, t0⟩
      case round =>
        obtain ⟨j, B, m, mc, hj, rfl, rfl, hmj, ro, tb⟩ := hrel
        have HMJ := Lib.hid hmj
        have hmN : m ≤ N := by omega
        clear hmj
        by_cases hj0 : 0 < j
        · skip
          obtain ⟨j', rfl⟩ : ∃ j', j = j' + 1 := ⟨j - 1, by omega⟩
          have hji : ((j' + 1 : Nat) : Int) - 1 = (j' : Int) := by omega
          rw [hji]
          have XW := X_w4.below tb
          obtain ⟨xb, xoff, hxA, _, _, c0, c1, c2, _, _, _, _⟩ := XW.pcs.piece (k := j') (by omega)
          cases hxA
          have hrev : pvs (qX.drop (j' + 1)).reverse ++ (pAt qX j').cs = pvs (qX.drop j').reverse := by
            rw [show qX.drop j' = pAt qX j' :: qX.drop (j' + 1) from by rw [List.drop_eq_getElem_cons (by rw [HXL.out]; omega), pAt_eq (by rw [HXL.out]; omega)], List.reverse_cons, pvs_append, pvs_one]
          have HREV := Lib.hid hrev
          clear hrev
          obtain ⟨⟨pa, pm, pB, pn, pc, pz⟩, hp⟩ : ∃ p, pAt qX j' = p := ⟨_, rfl⟩
          rw [hp] at c0 c1 c2
          have HPA := Lib.hid hp
          clear hp
          simp only at c0 c1 c2
          have hk0 : (0 : Int) ≤ (j' : Int) := by omega
          have hk1 : (j' : Int) < (N : Int) := by omega
          have hg : decide ((0 : Int) ≤ (j' : Int)) = true := decide_eq_true hk0
          have rE := ro.alloc (.cells #[.int .i64 pa, .bool pm, .slice pB pn pc] 35)
          go_wp2_with (at_builtin; refine wpList_append_sl _ rfl _ _ 23 rfl w4.heap.size 35 iP _ 3 40 Try.underlying23 hiP hzP hzP1 hzP2 (by kernel_rfl) (by decide) _ m _ (by rfl) rE _ _ (some ⟨wr.heap.size, 0, none⟩) 1 1 [.int .i64 pa, .bool pm, .slice pB pn pc] rfl (Sl.new #[.int .i64 pa, .bool pm, .slice pB pn pc] 35 3 1 rfl) (one_piece _ _ _ _ _) (by unfold maxLen; omega) (by omega) (by have := tb.size; simp; omega) ?_; intro v3 w3 own3 g3 at3; obtain ⟨A3, c3, hv3, hc3, hm3⟩ := own_is_slice own3; subst hv3)
          have hrv := HREV.out
          rw [HPA.out] at hrv
          simp only [Pv.cs, Pv.body] at hrv
          rw [hrv] at own3
          have tb3 := below_append (tb.alloc tb.size (.cells #[.int .i64 pa, .bool pm, .slice pB pn pc] 35)) rE g3
          clear hrv
          go_roundw
          case rel => exact ⟨j', A3, m + 1, c3, by omega, rfl, rfl, by have := HMJ.out; omega, own3, tb3⟩
          case measure => simp [intOf] <;> omega
        · skip
          obtain rfl : j = 0 := by omega
          obtain rfl : N = m := by have := HMJ.out; omega
          rw [List.drop_zero] at ro
          have hg : decide ((0 : Int) ≤ ((0 : Nat) : Int) - 1) = false := decide_eq_false (by omega)
          have d_t := d_w4.trans (tb.mono d_w4.size)
          have X_t := X_w4.below tb
          have S_t := S_w4.below tb (by omega)
          have z_t := tb.size
          have U_t := X_w4.under
          go_wp2_with fail
          refine (iJoinPieces_any _ _ _ qX _ X_t.pcs (Nat.le_refl _) (split_i64 (HPX.out.trans HN.out.1.symm)) (by unfold maxLen; omega)).mono ?_
          rw [HPX.out, ← HN.out.1, join_split HV.out]
          intro e w7 hr
          obtain ⟨Ay, ny, cy, rfl, hny, Y_w7, b_w7⟩ := hr
          simp only [Option.getD_some] at hny Y_w7
          obtain rfl : q = ny := by rw [← hny, HBL.out]
          clear hny
          have T_w7 := own_below ro b_w7
          have d_w7 := d_t.trans (b_w7.mono d_t.size)
          have z_w7 := b_w7.size
          have X_w7 := X_t.below b_w7
          have S_w7 := S_t.below b_w7 (by omega)
          have rL := World.ownsRow_lit (base := w7.heap.size) (e := 35) (size := 3) w7 #[] 0 (by omega) (by unfold maxLen; omega) (by simp)
          have slT := (Sl.of_own T_w7).alloc (Nat.le_refl _) (.cells #[] 35)
          have lT := fun k hk => (T_w7.lt k hk).2
          go_upto_region 16 with (at_builtin; first | (refine wpList_append_sl _ rfl _ _ 23 rfl w7.heap.size 35 iP _ 3 40 Try.underlying23 hiP hzP hzP1 hzP2 (by kernel_rfl) (by decide) _ 0 _ (by rfl) rL _ _ B N mc (pvs qX.reverse) rfl slT (ones_pv _) (by unfold maxLen; omega) (by omega) (by simp) ?_; intro v8 w8 own8 g8 at8; rw [Nat.zero_add] at own8; obtain ⟨A8, c8, hv8, hc8, hm8⟩ := own_is_slice own8; subst hv8; have b_w8 : Below w7.heap.size w7 w8 := below_append ((Below.refl _ _).alloc (Nat.le_refl _) _) rL g8; have X_w8 := X_w7.below b_w8; have z_w8 := b_w8.size) | (refine wpList_append_sl _ rfl _ _ 23 rfl w7.heap.size 35 iP _ 3 40 Try.underlying23 hiP hzP hzP1 hzP2 (by kernel_rfl) (by decide) _ N _ (by rfl) own8 _ _ AX N cX (pvs qX) rfl (X_w8.pcs.1) (ones_pv _) (by unfold maxLen; omega) (by omega) (by omega) ?_; intro v9 w9 own9 g9 at9; obtain ⟨A9, c9, hv9, hc9, hm9⟩ := own_is_slice own9; subst hv9))
          have b_w9 : Below w7.heap.size w7 w9 := below_append b_w8 own8 g9
          have own9' : w9.ownsRow w7.heap.size 35 3 (.slice A9 (N + N) c9) (N + N) (pvs (qX.reverse ++ qX)) := by rw [pvs_append]; exact own9
          clear own9 own8 g8 g9 at8 at9 rL slT X_w8
          have d_w9 := d_w7.trans (b_w9.mono d_w7.size)
          have z_w9 := b_w9.size
          have Y_w9 := own_below Y_w7 b_w9
          have T_w9 := own_below T_w7 b_w9
          have X_w9 := X_w7.below b_w9
          have S_w9 := S_w7.below b_w9 (by omega)
          have P9 : Pcs w9 0 w9.heap.size A9 (N + N) (qX.reverse ++ qX) := ⟨(Sl.of_own own9').more (Nat.zero_le _) (Nat.le_refl _), fun p hp => by
            have hp' : p ∈ qX := by rcases List.mem_append.1 hp with h | h <;> simpa using h
            obtain ⟨h1, h2⟩ := X_w9.pcs.2 p hp'
            exact ⟨h1.more (Nat.zero_le _) (Nat.le_refl _), h2⟩⟩
          obtain ⟨r2, hr2⟩ : ∃ x, joinP ((qX.reverse ++ qX).map Pv.pc) = x := ⟨_, rfl⟩
          have hr2' : (N + N ≤ 80 → r2 = some bs) := fun h => by rw [← hr2, List.map_append, List.map_reverse, HPX.out, ← HN.out.1]; exact join_twice HV.out (by rw [HN.out.1, HN.out.2]; omega)
          have HR2 := Lib.hid hr2
          have HR3 := Lib.hid hr2'
          clear hr2 hr2'
          go_wp2_with fail
          refine (iJoinPieces_any _ _ _ _ _ P9 (Nat.le_refl _) (fun p hp => split_i64 (HPX.out.trans HN.out.1.symm) p (by rcases List.mem_append.1 hp with h | h <;> simpa using h)) (by unfold maxLen; omega)).mono ?_
          rw [HR2.out]
          intro e w10 hr
          obtain ⟨Az, nz, cz, rfl, hnz, Z_w10, b_w10⟩ := hr
          have HNZ := Lib.hid hnz
          clear hnz
          have d_w10 := d_w9.trans (b_w10.mono d_w9.size)
          have z_w10 := b_w10.size
          have Y_w10 := own_below Y_w9 b_w10
          have T_w10 := own_below T_w9 b_w10
          have X_w10 := X_w9.below b_w10
          have S_w10 := S_w9.below b_w10 (by omega)
          go_wp2_with fail
          go_loop [13] (fun i => ∃ k : Nat, k ≤ N ∧ i = .int .i64 k) (fun i => N - (intOf i).toNat)
          case atStart => exact ⟨0, Nat.zero_le _, rfl⟩
          case round =>
            obtain ⟨k, hk, rfl⟩ := hrel
            by_cases hkl : k < N
            · skip
              obtain ⟨xb, xoff, hxA, _, _, c0, c1, c2, hsl, _, _, _⟩ := X_w10.pcs.piece hkl
              cases hxA
              have hfa := split_at HV.out (HPX.out.trans HN.out.1.symm) (k := k) (by rw [HXL.out]; exact hkl) hsl.len
              rw [HXL.out] at hfa
              obtain ⟨⟨pa, pm, pB, pn, pc, pz⟩, hp⟩ : ∃ p, pAt qX k = p := ⟨_, rfl⟩
              rw [hp] at c0 c1 c2 hfa
              clear hp hsl
              simp only at c0 c1 c2 hfa
              obtain ⟨hf1, hf2⟩ := hfa
              have e1 : decide (sz < (pn : Int)) = false := decide_eq_false (by omega)
              by_cases hkN : k + 1 < N
              · skip
                have hkN1 : ((k : Int) + 1 < (N : Int)) := by omega
                have e4 : decide ((k : Int) + 1 < (N : Int)) = true := decide_eq_true (by omega)
                have hpm : pm = true := by rw [hf2]; exact decide_eq_true hkN
                subst hpm
                clear hf2
                go_wp2_with fail
                go_round
                case rel => exact ⟨k + 1, by omega, by go_num⟩
                case measure => simp [intOf] <;> omega
              · skip
                have hkN1 : ¬ ((k : Int) + 1 < (N : Int)) := by omega
                have e4 : decide ((k : Int) + 1 < (N : Int)) = false := decide_eq_false (by omega)
                have hpm : pm = false := by rw [hf2]; exact decide_eq_false hkN
                subst hpm
                clear hf2
                go_wp2_with fail
                go_round
                case rel => exact ⟨k + 1, by omega, by go_num⟩
                case measure => simp [intOf] <;> omega
            · skip
              obtain rfl : N = k := by omega
              go_wp2_with fail
              refine (sameBytes_any _ _ _ _ _ _ bs bs _ (Sl.of_own Y_w10) S_w10 (by omega) (by omega)).mono ?_
              rw [show (bs == bs) = true from by simp]
              rintro e wy ⟨rfl, b_wy⟩
              have d_wy := d_w10.trans (b_wy.mono d_w10.size)
              have z_wy := b_wy.size
              have Y_wy := own_below Y_w10 b_wy
              have T_wy := own_below T_w10 b_wy
              have Z_wy := own_below Z_w10 b_wy
              have X_wy := X_w10.below b_wy
              have S_wy := S_w10.below b_wy (by omega)
              by_cases h80 : N + N ≤ 80
              · skip
                have hr2 := HR3.out h80
                have e3 : decide ((80 : Int) < ((N + N : Nat) : Int)) = false := decide_eq_false (by omega)
                have e3' : decide ((80 : Int) < (N : Int) + (N : Int)) = false := decide_eq_false (by omega)
                have hZ := Z_wy
                have hnz := HNZ.out
                subst hr2
                simp only [Option.getD_some, Option.isSome_some] at hZ hnz ⊢
                obtain rfl : q = nz := by rw [← hnz, HBL.out]
                clear hnz
                go_wp2_with fail
                refine (sameBytes_any _ _ _ _ _ _ bs bs _ (Sl.of_own hZ) S_wy (by omega) (by omega)).mono ?_
                rw [show (bs == bs) = true from by simp]
                rintro e wz ⟨rfl, b_wz⟩
                have d_wz := d_wy.trans (b_wz.mono d_wy.size)
                have z_wz := b_wz.size
                have Y_wz := own_below Y_wy b_wz
                have T_wz := own_below T_wy b_wz
                have Z_wz := own_below Z_wy b_wz
                have X_wz := X_wy.below b_wz
                have S_wz := S_wy.below b_wz (by omega)
                go_wp2_with fail
                go_ret
                exact ⟨rfl, d_wz⟩
              · skip
                have e3 : decide ((80 : Int) < ((N + N : Nat) : Int)) = true := decide_eq_true (by omega)
                have e3' : decide ((80 : Int) < (N : Int) + (N : Int)) = true := decide_eq_true (by omega)
                go_wp2_with fail
                go_ret
                exact ⟨rfl, d_wy⟩
    · skip
      have hN0 : N = 0 := by rw [← HN.out.2, ← HN.out.1]; unfold splitP; rw [if_neg hv]; rfl
      subst hN0
      have hN0 : (((0 : Nat) : Int) == 0) = true := rfl
      rw [HBL.out] at hv
      by_cases a1 : (80 : Int) < (q : Int)
      · skip
        have e1 : decide ((80 : Int) < (q : Int)) = true := decide_eq_true a1
        go_wp2_with fail
        refine (alive_any _).mono ?_
        rintro e wz ⟨rfl, b_wz⟩
        have d_wz := d_w4.trans (b_wz.mono d_w4.size)
        have z_wz := b_wz.size
        have X_wz := X_w4.below b_wz
        have S_wz := S_w4.below b_wz (by omega)
        go_wp2_with fail
        go_ret
        exact ⟨rfl, d_wz⟩
      · have e1 : decide ((80 : Int) < (q : Int)) = false := decide_eq_false a1
        by_cases a2 : sz < 1
        · skip
          have e2 : decide (sz < (1 : Int)) = true := decide_eq_true a2
          go_wp2_with fail
          refine (alive_any _).mono ?_
          rintro e wz ⟨rfl, b_wz⟩
          have d_wz := d_w4.trans (b_wz.mono d_w4.size)
          have z_wz := b_wz.size
          have X_wz := X_w4.below b_wz
          have S_wz := S_w4.below b_wz (by omega)
          go_wp2_with fail
          go_ret
          exact ⟨rfl, d_wz⟩
        · skip
          have e2 : decide (sz < (1 : Int)) = false := decide_eq_false a2
          have e3 : decide ((40 : Int) < sz) = true := decide_eq_true (by omega)
          go_wp2_with fail
          refine (alive_any _).mono ?_
          rintro e wz ⟨rfl, b_wz⟩
          have d_wz := d_w4.trans (b_wz.mono d_w4.size)
          have z_wz := b_wz.size
          have X_wz := X_w4.below b_wz
          have S_wz := S_w4.below b_wz (by omega)
          go_wp2_with fail
          go_ret
          exact ⟨rfl, d_wz⟩
  · go_enter Try.func4, Try.ntmps4
    go_wp2
    go_ret
    exact ⟨rfl, Below.refl _ _⟩
end Go.Proofs.Ytljbkppeoedcjaa
