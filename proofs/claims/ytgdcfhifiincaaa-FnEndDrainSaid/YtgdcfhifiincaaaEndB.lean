/-
  EndDrain of both packages: one Lean function.
-/
import Derived.Test.YtgdcfhifiincaaaDrnS
import Derived.Test.YtgdcfhifiincaaaSetS
namespace Go.Proofs.Ytgdcfhifiincaaa
open Go.RowKit
set_option linter.unusedVariables false

set_option maxHeartbeats 800000 in
theorem indexI_any (A : Option Addr) (n c : Nat) (zs : List Int) (x : Int) (w : World) {lo hi : Nat} (hS : Sl w lo hi 1 A n (zs.map (Value.int .i64))) (hn : n ≤ 1048576) :
    Calls Try.prog 66 #[.slice A n c, .int .i64 x] w fun e w' => (∃ r : Int, e = .returned (.int .i64 r) ∧ (0 ≤ r ↔ x ∈ zs)) ∧ Below w.heap.size w w' := by
  have HL := Lib.hid hS.len
  go_enter Try.func66, Try.ntmps66
  go_wp2
  go_loopw [8] (fun i wr => ∃ k : Nat, k ≤ n ∧ i = .int .i64 k ∧ (∀ j, j < k → zs[j]?.getD 0 ≠ x) ∧ wr = w) (fun i _ => n - (intOf i).toNat)
  case atStart => exact ⟨0, Nat.zero_le _, rfl, fun j hj => absurd hj (by omega), rfl⟩
  case round =>
    obtain ⟨k, hk, rfl, hj, rfl⟩ := hrel
    have HJ := Lib.hid hj
    clear hj
    by_cases hlt : k < n
    · obtain ⟨b, off, rfl, _, _, c0⟩ := hS.num hlt
      have hlk : k < zs.length := by rw [HL.out]; exact hlt
      have HM : RowKit.Hid (zs[k]?.getD 0 ∈ zs) := Lib.hid (by rw [List.getElem?_eq_getElem hlk]; exact List.getElem_mem hlk)
      obtain ⟨z, hz⟩ : ∃ z, zs[k]?.getD 0 = z := ⟨_, rfl⟩
      rw [hz] at c0 HM
      have HZ := Lib.hid hz
      clear hz
      have hki : (0 : Int) ≤ (k : Int) := by omega
      have hki2 : (k : Int) < (n : Int) := by omega
      by_cases he : z = x
      · subst he
        go_wp2
        go_ret
        exact ⟨⟨_, rfl, fun _ => HM.out, fun _ => by omega⟩, Below.refl _ _⟩
      · have hbb : (x == z) = false := by simpa using fun h => he h.symm
        have HN : RowKit.Hid (z ≠ x) := Lib.hid he
        clear he
        go_wp2
        go_roundw
        case rel => exact ⟨k + 1, by omega, by go_num, fun j hj => by
          rcases Nat.lt_or_ge j k with h | h
          · exact HJ.out j h
          · obtain rfl : j = k := by omega
            rw [HZ.out]; exact HN.out, by first | trivial | rfl⟩
        case measure => simp [intOf]; omega
    · obtain rfl : n = k := by omega
      have HE : RowKit.Hid (x ∉ zs) := Lib.hid (fun h => by
        obtain ⟨j, hj, rfl⟩ := List.mem_iff_getElem.1 h
        exact HJ.out j (by rw [← HL.out]; exact hj) (by rw [List.getElem?_eq_getElem hj]; rfl))
      go_wp2
      go_ret
      exact ⟨⟨_, rfl, fun h => absurd h (by omega), fun h => absurd h HE.out⟩, Below.refl _ _⟩
theorem containsI_any (A : Option Addr) (n c : Nat) (zs : List Int) (x : Int) (w : World) {lo hi : Nat} (hS : Sl w lo hi 1 A n (zs.map (Value.int .i64))) (hn : n ≤ 1048576) :
    Calls Try.prog 50 #[.slice A n c, .int .i64 x] w fun e w' => e = .returned (.bool (decide (x ∈ zs))) ∧ Below w.heap.size w w' := by
  go_enter Try.func50, Try.ntmps50
  go_wp2_with (go_at_call 66; refine (indexI_any _ _ _ zs _ _ hS hn).mono ?_; rintro e w1 ⟨⟨r, rfl, hr⟩, hb1⟩)
  go_ret
  refine ⟨ret_bool ?_, hb1⟩
  simp only [← hr]

set_option maxRecDepth 100000 in
set_option maxHeartbeats 1600000 in
theorem iEndDrain_any (A : Option Addr) (n c : Nat) (hs : List H3) (sz st : Int) (A2 : Option Addr) (n2 c2 : Nat) (es : List En7) (w : World) {lo hi lo2 hi2 : Nat} (hS : Sl w lo hi 3 A n (hostsV hs)) (hhi : hi ≤ w.heap.size) (hn : n ≤ 1048576) (hE : Sl w lo2 hi2 7 A2 n2 (ensV es)) (hhi2 : hi2 ≤ w.heap.size) (hn2 : n2 ≤ 1048576) (hnc : n2 ≤ c2) (hmx : c2 ≤ maxLen) :
    Calls Try.prog 28 #[.slice A n c, .agg #[.int .i64 sz, .int .i64 st, .slice A2 n2 c2]] w (RetOwn w 50 3 (endL hs sz st es).length (hostsV (endL hs sz st es))) := by
  have HL := Lib.hid hS.hlen
  obtain ⟨i0, hi0, hz0, hz1, hz2⟩ := info_parts infoHost
  have hb0 := (Below.refl w.heap.size w).alloc (Nat.le_refl _) (.cells #[.int .i64 sz, .int .i64 st, .slice A2 n2 c2] 34)
  have hbk0 := Blk.new w 34 #[.int .i64 sz, .int .i64 st, .slice A2 n2 c2]
  have hpv := iPoolValid_any A n c hs _ (hS.alloc hhi (.cells #[.int .i64 sz, .int .i64 st, .slice A2 n2 c2] 34)) (Nat.le_trans hhi (by simp)) hn
  have htv : ∀ w1, Below w.heap.size w w1 → Calls Try.prog 25 #[.agg #[.int .i64 sz, .int .i64 st, .slice A2 n2 c2]] w1 fun e w' => e = .returned (.bool (tabV sz st es)) ∧ Below w1.heap.size w1 w' := fun w1 hb => iTab_any sz st A2 n2 c2 es w1 (hE.below hb hhi2) (Nat.le_trans hhi2 hb.size) (by omega)
  by_cases hv : poolV hs = true
  · by_cases ht : tabV sz st es = true
    · have hdr : ∀ w1, Below w.heap.size w w1 → Calls Try.prog 12 #[.slice A n c, .agg #[.int .i64 sz, .int .i64 st, .slice A2 n2 c2]] w1 (RetOwn w1 3 1 (drN es hs).length ((drN es hs).map (Value.int .i64))) := fun w1 hb => by
        have := iDrained_any A n c hs sz st A2 n2 c2 es w1 (hS.below hb hhi) (Nat.le_trans hhi hb.size) hn (hE.below hb hhi2) (Nat.le_trans hhi2 hb.size) hn2 hnc hmx
        unfold drL at this
        rwa [if_pos ⟨hv, ht⟩] at this
      obtain ⟨ds, hds⟩ : ∃ ds, drN es hs = ds := ⟨_, rfl⟩
      have HV : RowKit.Hid (endL hs sz st es = downL ds hs) := Lib.hid (by unfold endL; rw [if_pos ⟨hv, ht⟩, hds])
      obtain ⟨dl, hdl⟩ : ∃ dl, ds.length = dl := ⟨_, rfl⟩
      have hdn : dl ≤ 1048576 := by
        have := drN_le es hs hs.length
        rw [List.take_length, hds, hdl, HL.out] at this
        omega
      have HLL : RowKit.Hid ((downL ds hs).length = n) := Lib.hid (by rw [downL_len]; exact HL.out)
      rw [HV.out, HLL.out]
      rw [hds, hdl] at hdr
      rw [hv] at hpv
      rw [ht] at htv
      clear hdl hds hv ht
      go_enter Try.func28, Try.ntmps28
      go_wp2_with fail
      refine hpv.mono ?_
      rintro e w1 ⟨rfl, hb1⟩
      have hsA : w.heap.size < (w.alloc (.cells #[.int .i64 sz, .int .i64 st, .slice A2 n2 c2] 34)).heap.size := by simp
      clear hpv
      generalize w.alloc (.cells #[.int .i64 sz, .int .i64 st, .slice A2 n2 c2] 34) = wA at hb0 hbk0 hb1 hsA
      have hbk1 := hbk0.below hb1 hsA
      have d0 : w1.cell? ⟨w.heap.size, 0, none⟩ = some (.int .i64 sz) := hbk1.cell 0
      have d1 : w1.cell? ⟨w.heap.size, 1, none⟩ = some (.int .i64 st) := hbk1.cell 1
      have d2 : w1.cell? ⟨w.heap.size, 2, none⟩ = some (.slice A2 n2 c2) := hbk1.cell 2
      go_wp2_with fail
      refine (htv _ (hb0.trans (hb1.mono hb0.size))).mono ?_
      rintro e w2 ⟨rfl, hb2⟩
      have hd2 := hb1.trans (hb2.mono hb1.size)
      have hbk2 := hbk0.below hd2 hsA
      clear htv hb1 hb2 hbk1 d0 d1 d2
      have d0 : w2.cell? ⟨w.heap.size, 0, none⟩ = some (.int .i64 sz) := hbk2.cell 0
      have d1 : w2.cell? ⟨w.heap.size, 1, none⟩ = some (.int .i64 st) := hbk2.cell 1
      have d2 : w2.cell? ⟨w.heap.size, 2, none⟩ = some (.slice A2 n2 c2) := hbk2.cell 2
      go_wp2_with fail
      refine (hdr _ (hb0.trans (hd2.mono hb0.size))).mono ?_
      intro e w3 hr
      obtain ⟨Ad, cd, rfl, hownD, hb3⟩ := hr.form
      have hd3 := hb0.trans ((hd2.trans (hb3.mono hd2.size)).mono hb0.size)
      have hS3 := hS.below hd3 hhi
      clear hr hdr hbk2 d0 d1 d2 hbk0 hd2 hb0 hsA
      have hD := Sl.of_own hownD
      go_wp2_with (at_builtin; (refine wpList_append_sl _ rfl _ _ 30 rfl w3.heap.size 50 i0 _ 3 24 Try.underlying30 hi0 hz0 hz1 hz2 rfl (by decide) (.slice none 0 0) 0 [] rfl (World.ownsRow_nil _ _ _ _) lo hi A n c (hostsV hs) rfl hS3 (hosts_ones hs) (by unfold maxLen; omega) (by omega) (Nat.le_refl _) ?_; intro v w4 hown4 hg4 hat4; simp only [Nat.zero_add, List.nil_append] at hown4; obtain ⟨Av, av, rfl, e1, e2⟩ := own_is_slice hown4))
      have hb4 := below_append (Below.refl w3.heap.size w3) (World.ownsRow_nil w3 w3.heap.size 50 3) hg4
      clear hat4 hg4
      go_loopw [24] (fun i wr => ∃ k : Nat, k ≤ n ∧ i = .int .i64 k ∧ wr.ownsRow w3.heap.size 50 3 (.slice Av n av) n (hostsV (downK ds hs k)) ∧ Below w3.heap.size w3 wr) (fun i _ => n - (intOf i).toNat)
      case atStart => exact ⟨0, Nat.zero_le _, rfl, by rw [downK_zero]; exact hown4, hb4⟩
      case round =>
        clear hown4 hb4
        obtain ⟨k, hk, rfl, hown, hb⟩ := hrel
        have hz := hb.size
        by_cases hlt : k < n
        · have hlk : k < hs.length := by rw [HL.out]; exact hlt
          obtain ⟨g, cap, hvv, hg0, hg1⟩ := hown.form (by omega)
          injection hvv with hv1 hv2 hv3
          subst hv1 hv3
          obtain ⟨x0, x1, x2⟩ := hostsV_at (downK ds hs k) k (by rw [downK_len]; exact hlk)
          rw [downK_at hlk] at x0 x1 x2
          have HY := Lib.hid (downK_yes (ds := ds) hlk)
          have HN := Lib.hid (downK_no (ds := ds) hlk)
          obtain ⟨⟨h0, h1, h2⟩, hh⟩ : ∃ p, hAt hs k = p := ⟨_, rfl⟩
          rw [hh] at x0 x1 x2 HY HN
          simp only at x0 x1 x2
          have c0 := (hown.cellAt (k * 3) (by omega)).trans x0
          have c1 := (hown.cellAt (k * 3 + 1) (by omega)).trans x1
          have c2' := (hown.cellAt (k * 3 + 2) (by omega)).trans x2
          have hbA := hb.alloc hz (.cells #[.int .i64 h0, .int .i64 h1, .int .i64 h2] 50)
          have hownA := hown.alloc (.cells #[.int .i64 h0, .int .i64 h1, .int .i64 h2] 50)
          have hDA := hD.below hbA (Nat.le_refl _)
          have hki : (0 : Int) ≤ (k : Int) := by omega
          have hki2 : (k : Int) < (n : Int) := by omega
          clear hh
          go_wp2_with fail
          refine (containsI_any _ _ _ ds _ _ hDA hdn).mono ?_
          rintro e w5 ⟨rfl, hb5⟩
          have hd5 := hbA.trans (hb5.mono hbA.size)
          have hown5 := own_below hownA hb5
          clear hbA hownA hDA hb5 hown hb c0 c1 c2'
          by_cases hm : h0 ∈ ds
          · have hmb : decide (h0 ∈ ds) = true := decide_eq_true hm
            have d2 := (hown5.cellAt (k * 3 + 2) (by omega)).trans x2
            have df := hown5.frozenAt
            have hst := (hown5.stored (k * 3 + 2) (.int .i64 0)).1
            rw [← HY.out hm] at hst
            have hb6 := hd5.setCell (p := ⟨g, k * 3 + 2, none⟩) hg0 (.int .i64 0)
            rw [hmb]
            clear hm hmb x0 x1 x2
            go_wp2
            go_roundw
            case rel => exact ⟨k + 1, by omega, by go_num, hst, hb6⟩
            case measure => simp [intOf]; omega
          · have hmb : decide (h0 ∈ ds) = false := decide_eq_false hm
            have hst := hown5
            rw [← HN.out hm] at hst
            rw [hmb]
            clear hm hmb x0 x1 x2
            go_wp2
            go_roundw
            case rel => exact ⟨k + 1, by omega, by go_num, hst, hd5⟩
            case measure => simp [intOf]; omega
        · obtain rfl : n = k := by omega
          have HE : RowKit.Hid (downK ds hs n = downL ds hs) := Lib.hid (downK_full HL.out)
          rw [HE.out] at hown
          go_wp2
          go_ret
          exact RetOwn.older hown hb hd3
    · have HV : RowKit.Hid (endL hs sz st es = []) := Lib.hid (by unfold endL; rw [if_neg (fun h => ht h.2)])
      rw [HV.out]
      rw [hv] at hpv
      rw [Bool.eq_false_iff.2 ht] at htv
      go_enter Try.func28, Try.ntmps28
      go_wp2_with fail
      refine hpv.mono ?_
      rintro e w1 ⟨rfl, hb1⟩
      have hbk1 := hbk0.below hb1 (by simp)
      have hd1 := hb0.trans (hb1.mono (by simp))
      have d0 : w1.cell? ⟨w.heap.size, 0, none⟩ = some (.int .i64 sz) := hbk1.cell 0
      have d1 : w1.cell? ⟨w.heap.size, 1, none⟩ = some (.int .i64 st) := hbk1.cell 1
      have d2 : w1.cell? ⟨w.heap.size, 2, none⟩ = some (.slice A2 n2 c2) := hbk1.cell 2
      go_wp2_with fail
      refine (htv _ hd1).mono ?_
      rintro e w2 ⟨rfl, hb2⟩
      go_wp2
      go_ret
      exact RetOwn.mk (World.ownsRow_nil _ _ _ _) (hd1.trans (hb2.mono hd1.size))
  · have HV : RowKit.Hid (endL hs sz st es = []) := Lib.hid (by unfold endL; rw [if_neg (fun h => hv h.1)])
    rw [HV.out]
    rw [Bool.eq_false_iff.2 hv] at hpv
    go_enter Try.func28, Try.ntmps28
    go_wp2_with fail
    refine hpv.mono ?_
    rintro e w1 ⟨rfl, hb1⟩
    go_wp2
    go_ret
    exact RetOwn.mk (World.ownsRow_nil _ _ _ _) (hb0.trans (hb1.mono (by simp)))

set_option maxRecDepth 100000 in
set_option maxHeartbeats 1600000 in
theorem sEndDrain_any (A : Option Addr) (n c : Nat) (hs : List H3) (sz st : Int) (A2 : Option Addr) (n2 c2 : Nat) (es : List En7) (w : World) {lo hi lo2 hi2 : Nat} (hS : Sl w lo hi 3 A n (hostsV hs)) (hhi : hi ≤ w.heap.size) (hn : n ≤ 1048576) (hE : Sl w lo2 hi2 7 A2 n2 (ensV es)) (hhi2 : hi2 ≤ w.heap.size) (hn2 : n2 ≤ 1048576) (hnc : n2 ≤ c2) (hmx : c2 ≤ maxLen) :
    Calls Try.prog 27 #[.slice A n c, .agg #[.int .i64 sz, .int .i64 st, .slice A2 n2 c2]] w (RetOwn w 50 3 (endL hs sz st es).length (hostsV (endL hs sz st es))) := by
  have HL := Lib.hid hS.hlen
  obtain ⟨i0, hi0, hz0, hz1, hz2⟩ := info_parts infoHost
  have hb0 := (Below.refl w.heap.size w).alloc (Nat.le_refl _) (.cells #[.int .i64 sz, .int .i64 st, .slice A2 n2 c2] 34)
  have hbk0 := Blk.new w 34 #[.int .i64 sz, .int .i64 st, .slice A2 n2 c2]
  have hpv := sPoolValid_any A n c hs _ (hS.alloc hhi (.cells #[.int .i64 sz, .int .i64 st, .slice A2 n2 c2] 34)) (Nat.le_trans hhi (by simp)) hn
  have htv : ∀ w1, Below w.heap.size w w1 → Calls Try.prog 35 #[.agg #[.int .i64 sz, .int .i64 st, .slice A2 n2 c2]] w1 fun e w' => e = .returned (.bool (tabV sz st es)) ∧ Below w1.heap.size w1 w' := fun w1 hb => sTab_any sz st A2 n2 c2 es w1 (hE.below hb hhi2) (Nat.le_trans hhi2 hb.size) (by omega) hnc hmx
  have hlit := fun w1 (hb : Below w.heap.size w w1) => World.ownsRow_lit (base := w.heap.size) (e := 50) (size := 3) w1 #[] 0 hb.size (by unfold maxLen; omega) (by simp)
  by_cases hv : poolV hs = true
  · by_cases ht : tabV sz st es = true
    · have hdr : ∀ w1, Below w.heap.size w w1 → Calls Try.prog 9 #[.slice A n c, .agg #[.int .i64 sz, .int .i64 st, .slice A2 n2 c2]] w1 (RetOwn w1 3 1 (drN es hs).length ((drN es hs).map (Value.int .i64))) := fun w1 hb => by
        have := sDrained_any A n c hs sz st A2 n2 c2 es w1 (hS.below hb hhi) (Nat.le_trans hhi hb.size) hn (hE.below hb hhi2) (Nat.le_trans hhi2 hb.size) hn2 hnc hmx
        unfold drL at this
        rwa [if_pos ⟨hv, ht⟩] at this
      have HM : RowKit.Hid (∀ k, k < (drN es hs).length → ∃ j, j < n ∧ (hAt hs j).1 = (drN es hs)[k]?.getD 0) := Lib.hid fun k hk => by
        obtain ⟨j, h1, h2, _⟩ := drN_mem (es := es) (hs := hs) (x := (drN es hs)[k]) (List.getElem_mem hk)
        exact ⟨j, by rw [← HL.out]; exact h1, by rw [h2, List.getElem?_eq_getElem hk]; rfl⟩
      obtain ⟨ds, hds⟩ : ∃ ds, drN es hs = ds := ⟨_, rfl⟩
      have HV : RowKit.Hid (endL hs sz st es = downL ds hs) := Lib.hid (by unfold endL; rw [if_pos ⟨hv, ht⟩, hds])
      obtain ⟨dl, hdl⟩ : ∃ dl, ds.length = dl := ⟨_, rfl⟩
      have hdn : dl ≤ 1048576 := by
        have := drN_le es hs hs.length
        rw [List.take_length, hds, hdl, HL.out] at this
        omega
      have HLL : RowKit.Hid ((downL ds hs).length = n) := Lib.hid (by rw [downL_len]; exact HL.out)
      have HDL := Lib.hid hdl
      have HPV := Lib.hid hv
      rw [HV.out, HLL.out]
      rw [hds, hdl] at hdr
      rw [hds, hdl] at HM
      rw [hv] at hpv
      rw [ht] at htv
      clear hdl hds hv ht
      go_enter Try.func27, Try.ntmps27
      go_wp2_with fail
      refine hpv.mono ?_
      rintro e w1 ⟨rfl, hb1⟩
      have hsA : w.heap.size < (w.alloc (.cells #[.int .i64 sz, .int .i64 st, .slice A2 n2 c2] 34)).heap.size := by simp
      clear hpv
      generalize w.alloc (.cells #[.int .i64 sz, .int .i64 st, .slice A2 n2 c2] 34) = wA at hb0 hbk0 hb1 hsA
      have hbk1 := hbk0.below hb1 hsA
      have d0 : w1.cell? ⟨w.heap.size, 0, none⟩ = some (.int .i64 sz) := hbk1.cell 0
      have d1 : w1.cell? ⟨w.heap.size, 1, none⟩ = some (.int .i64 st) := hbk1.cell 1
      have d2 : w1.cell? ⟨w.heap.size, 2, none⟩ = some (.slice A2 n2 c2) := hbk1.cell 2
      go_wp2_with fail
      refine (htv _ (hb0.trans (hb1.mono hb0.size))).mono ?_
      rintro e w2 ⟨rfl, hb2⟩
      have hd2 := hb1.trans (hb2.mono hb1.size)
      have hdw2 := hb0.trans (hd2.mono hb0.size)
      clear htv hb1 hb2 hbk1 d0 d1 d2
      have hown2 := hlit w2 hdw2
      have hS2 := (hS.below hdw2 hhi).alloc (Nat.le_trans hhi hdw2.size) (.cells #[] 50)
      have hd2' := hd2.alloc hd2.size (.cells #[] 50)
      have hdw2' := hdw2.alloc hdw2.size (.cells #[] 50)
      have hbk2 := (hbk0.below hd2 hsA).alloc (.cells #[] 50)
      have hzA := hd2.size
      clear hlit
      go_wp2_with (at_builtin; (refine wpList_append_sl _ rfl _ _ 30 rfl w.heap.size 50 i0 _ 3 24 Try.underlying30 hi0 hz0 hz1 hz2 rfl (by decide) (.slice (some ⟨w2.heap.size, 0, none⟩) 0 0) 0 [] rfl hown2 lo hi A n c (hostsV hs) rfl hS2 (hosts_ones hs) (by unfold maxLen; omega) (by omega) hdw2'.size ?_; intro v w4 hown4 hg4 hat4; simp only [Nat.zero_add, List.nil_append] at hown4; have hg4' := below_append hdw2' hown2 hg4; have hbk4 := hbk2.grown hg4 (fun e => by have e' : w.heap.size = w2.heap.size := (by simpa [Value.ownBlock] using e); omega); have d0 : w4.cell? ⟨w.heap.size, 0, none⟩ = some (.int .i64 sz) := hbk4.cell 0; have d1 : w4.cell? ⟨w.heap.size, 1, none⟩ = some (.int .i64 st) := hbk4.cell 1; have d2 : w4.cell? ⟨w.heap.size, 2, none⟩ = some (.slice A2 n2 c2) := hbk4.cell 2))
      clear hg4 hat4 hown2 hS2 hd2' hdw2' hdw2 hd2 hbk2
      go_wp2_with fail
      refine (hdr _ hg4').mono ?_
      intro e w3 hr
      obtain ⟨Ad, cd, rfl, hownD, hb3⟩ := hr.form
      have hd3 := hg4'.trans (hb3.mono hg4'.size)
      have hown3 := own_below hown4 hb3
      have hD := Sl.of_own hownD
      clear hr hdr hbk4 d0 d1 d2 hbk0 hb0 hsA hb3 hg4' hown4
      go_wp2
      go_loopw [5, 7] (fun o i wr => ∃ (k : Nat) (v : Value), k ≤ dl ∧ i = .int .i64 k ∧ o = v ∧ wr.ownsRow w.heap.size 50 3 v n (hostsV (downS (ds.take k) hs)) ∧ Below w3.heap.size w3 wr) (fun _ i _ => dl - (intOf i).toNat)
      case atStart => exact ⟨0, _, Nat.zero_le _, rfl, rfl, by rw [List.take_zero]; exact hown3, Below.refl _ _⟩
      case round =>
        clear hown3
        obtain ⟨k, v, hk, rfl, rfl, hown, hb⟩ := hrel
        have hz := hb.size
        by_cases hlt : k < dl
        · obtain ⟨j, hj, hx⟩ := HM.out k hlt
          have HS := Lib.hid (downS_snoc (k := k) (by rw [HDL.out]; exact hlt) hs)
          have hpd : poolV (downS (ds.take k) hs) = true := downS_pool HPV.out _
          have hxj : (hAt (downS (ds.take k) hs) j).1 = ds[k]?.getD 0 := by rw [downS_num _ _ (by rw [HL.out]; exact hj)]; exact hx
          obtain ⟨b, off, rfl, _, _, c0⟩ := (hD.below hb (Nat.le_refl _)).num hlt
          obtain ⟨z, hz'⟩ : ∃ z, ds[k]?.getD 0 = z := ⟨_, rfl⟩
          rw [hz'] at c0 HS hxj
          obtain ⟨ps, hps⟩ : ∃ ps, downS (ds.take k) hs = ps := ⟨_, rfl⟩
          rw [hps] at hown HS hpd hxj
          clear hx hz' hps
          obtain ⟨Av, av, rfl, e1, e2⟩ := own_is_slice hown
          have hki : (0 : Int) ≤ (k : Int) := by omega
          have hki2 : (k : Int) < (dl : Int) := by omega
          go_wp2_with fail
          refine (sSetState_yes _ _ _ ps z 0 _ (Sl.of_own hown) (Nat.le_refl _) hn hpd hj hxj rfl).mono ?_
          rintro e w5 ⟨A5, c5, rfl, hown5, hb5⟩
          have hd5 := hb.trans (hb5.mono hz)
          rw [← HS.out] at hown5
          have hown5' := own_base hown5 (Nat.le_trans hd3.size hz)
          clear hown5 hown hb hb5
          go_wp2
          go_roundw
          case rel => exact ⟨k + 1, _, by omega, by go_num, rfl, hown5', hd5⟩
          case measure => simp [intOf]; omega
        · obtain rfl : dl = k := by omega
          have HE : RowKit.Hid (downS (ds.take dl) hs = downL ds hs) := Lib.hid (by rw [← HDL.out, List.take_length, downS_is])
          rw [HE.out] at hown
          go_wp2
          go_ret
          exact RetOwn.mk hown (hd3.trans (hb.mono hd3.size))
    · have HV : RowKit.Hid (endL hs sz st es = []) := Lib.hid (by unfold endL; rw [if_neg (fun h => ht h.2)])
      rw [HV.out]
      rw [hv] at hpv
      rw [Bool.eq_false_iff.2 ht] at htv
      go_enter Try.func27, Try.ntmps27
      go_wp2_with fail
      refine hpv.mono ?_
      rintro e w1 ⟨rfl, hb1⟩
      have hbk1 := hbk0.below hb1 (by simp)
      have hd1 := hb0.trans (hb1.mono (by simp))
      have d0 : w1.cell? ⟨w.heap.size, 0, none⟩ = some (.int .i64 sz) := hbk1.cell 0
      have d1 : w1.cell? ⟨w.heap.size, 1, none⟩ = some (.int .i64 st) := hbk1.cell 1
      have d2 : w1.cell? ⟨w.heap.size, 2, none⟩ = some (.slice A2 n2 c2) := hbk1.cell 2
      go_wp2_with fail
      refine (htv _ hd1).mono ?_
      rintro e w2 ⟨rfl, hb2⟩
      have hd2 := hd1.trans (hb2.mono hd1.size)
      go_wp2
      go_ret
      exact RetOwn.mk (hlit w2 hd2) (hd2.alloc hd2.size _)
  · have HV : RowKit.Hid (endL hs sz st es = []) := Lib.hid (by unfold endL; rw [if_neg (fun h => hv h.1)])
    rw [HV.out]
    rw [Bool.eq_false_iff.2 hv] at hpv
    go_enter Try.func27, Try.ntmps27
    go_wp2_with fail
    refine hpv.mono ?_
    rintro e w1 ⟨rfl, hb1⟩
    have hd1 := hb0.trans (hb1.mono (by simp))
    go_wp2
    go_ret
    exact RetOwn.mk (hlit w1 hd1) (hd1.alloc hd1.size _)
end Go.Proofs.Ytgdcfhifiincaaa
