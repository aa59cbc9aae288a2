/-
  The walk of the drawn law FnMovedKeys.
-/
import Derived.Test.YtfobcggcilbgbaaSameI
import Derived.Test.YtfobcggcilbgbaaMoved
import Derived.Test.YtfobcggcilbgbaaDrawMoved
namespace Go.Proofs.Ytfobcggcilbgbaa
open Go.RowKit
set_option linter.unusedVariables false

theorem moved_mem {way : Int} {ps bs : List H3} {ks : List Int} {x : Int} (h : x ∈ movedL way ps bs ks) : (hostBy way ps x == hostBy way bs x) = false ∧ ((cntL ks x : Nat) : Int) ≠ 0 := by
  unfold movedL at h
  split at h
  · obtain ⟨h1, h2⟩ := List.mem_filter.1 h
    unfold movedF at h2
    refine ⟨by simpa using h2, fun h0 => ?_⟩
    have h0' : cntL ks x = 0 := by omega
    unfold cntL at h0'
    rw [List.countP_eq_zero] at h0'
    exact h0' x h1 (by simp)
  · cases h
theorem moved_self (way : Int) (ps : List H3) (ks : List Int) : movedL way ps ps ks = [] := by
  unfold movedL
  split
  · rw [List.filter_eq_nil_iff]
    intro x _
    unfold movedF
    simp
  · rfl

set_option maxRecDepth 100000 in
set_option maxHeartbeats 3200000 in
theorem wFnMovedKeys (A : Option Addr) (n c : Nat) (zs : List Int) (w : World) (hs : Sl w 0 w.heap.size 1 A n (zs.map (Value.int .u8))) (hnc : n ≤ c) (hm : c ≤ maxLen) (hw : ∀ z ∈ zs, (Lit.int .u8 z).wf = true) :
    Calls Try.prog 8 #[.slice A n c] w fun e w' => e = .returned (.bool true) ∧ Below w.heap.size w w' := by
  unfold maxLen at hm
  have hz := AllByte.of_wf hw
  clear hw
  by_cases hn : n ≤ 1048576
  · have hn1 : ¬ ((1048576 : Int) < (n : Int)) := by omega
    go_enter Try.func8, Try.ntmps8
    go_wp2_with fail
    refine (drawMovedKeys_any _ _ _ zs _ hs hnc (by omega) hz).mono ?_
    rintro e w1 ⟨way, B1, n1, c1, ps, B2, n2, c2, bs, B3, n3, c3, ks, rfl, y0, y1, h1, h2, h3, h4, h5, sA, sB, sK, b1⟩
    unfold maxLen at h5
    have hml := movedL_len way ps bs ks
    rw [sK.len] at hml
    have hmem := fun (x : Int) (h : x ∈ movedL way ps bs ks) => moved_mem h
    have HSELF := Lib.hid (moved_self way ps ks)
    obtain ⟨xs, hxs⟩ : ∃ xs, movedL way ps bs ks = xs := ⟨_, rfl⟩
    have HX := Lib.hid hxs
    rw [hxs] at hml hmem
    have HM := Lib.hid hmem
    clear hxs hmem
    obtain ⟨m, hm'⟩ : ∃ m, xs.length = m := ⟨_, rfl⟩
    rw [hm'] at hml
    have HXL := Lib.hid hm'
    go_wp2_with fail
    refine (iMoved_any _ _ _ _ ps _ _ _ bs _ _ _ ks _ sA sB sK (Nat.le_refl _) (Nat.le_refl _) (Nat.le_refl _) (by omega) (by omega) (by omega)).mono ?_
    rw [HX.out, hm']
    intro e w2 ho
    obtain ⟨X, xc, rfl, own2, b2⟩ := ho.form
    have sX := Sl.of_own own2
    have sA2 := sA.below b2 (Nat.le_refl _)
    have sB2 := sB.below b2 (Nat.le_refl _)
    have sK2 := sK.below b2 (Nat.le_refl _)
    have d2 := b1.trans (b2.mono b1.size)
    have z2 := b2.size
    clear ho own2
    go_wp2_with fail
    refine (sMoved_any _ _ _ _ ps _ _ _ bs _ _ _ ks _ sA2 sB2 sK2 z2 z2 z2 (by omega) (by omega) (by omega)).mono ?_
    rw [HX.out, hm']
    intro e w3 ho
    obtain ⟨Y, yc, rfl, own3, b3⟩ := ho.form
    have sX3 := sX.below b3 (Nat.le_refl _)
    have sA3 := sA2.below b3 z2
    have sB3 := sB2.below b3 z2
    have sK3 := sK2.below b3 z2
    have d3 := d2.trans (b3.mono d2.size)
    have z3 := Nat.le_trans z2 b3.size
    have y3 := b3.size
    clear ho sX sA sB sK sA2 sB2 sK2
    go_wp2_with fail
    refine (sameInts_yes _ _ _ _ _ xs _ sX3 (Sl.of_own own3) y3 (Nat.le_refl _) (by omega)).mono ?_
    rintro e w4 ⟨rfl, b4⟩
    have sX4 := sX3.below b4 y3
    have sA4 := sA3.below b4 z3
    have sB4 := sB3.below b4 z3
    have sK4 := sK3.below b4 z3
    have d4 := d3.trans (b4.mono d3.size)
    have z4 := b4.size
    clear sX3 own3 sA3 sB3 sK3 hm'
    go_wp2_with fail
    go_loopw [8] (fun i wr => ∃ j : Nat, j ≤ m ∧ i = .int .i64 j ∧ Below w4.heap.size w4 wr) (fun i _ => m - (intOf i).toNat)
    case atStart => exact ⟨0, Nat.zero_le _, rfl, Below.refl _ _⟩
    case round =>
      obtain ⟨j, hj, rfl, hb⟩ := hrel
      have hbz := hb.size
      by_cases hlt : j < m
      · obtain ⟨b, off, rfl, _, _, c0⟩ := (sX4.below hb (by omega)).num hlt
        have hxm : xs[j]?.getD 0 ∈ xs := by rw [List.getElem?_eq_getElem (by rw [HXL.out]; exact hlt)]; exact List.getElem_mem _
        obtain ⟨hne, hq0⟩ := HM.out _ hxm
        obtain ⟨x, hx⟩ : ∃ x, xs[j]?.getD 0 = x := ⟨_, rfl⟩
        rw [hx] at c0 hne hq0
        clear hx hxm
        obtain ⟨r1, hr1⟩ : ∃ r, hostBy way ps x = r := ⟨_, rfl⟩
        obtain ⟨r2, hr2⟩ : ∃ r, hostBy way bs x = r := ⟨_, rfl⟩
        obtain ⟨q, hq⟩ : ∃ q, cntL ks x = q := ⟨_, rfl⟩
        rw [hr1, hr2] at hne
        rw [hq] at hq0
        have HR1 := Lib.hid hr1
        have HR2 := Lib.hid hr2
        have HQ := Lib.hid hq
        replace hq0 : ((q : Int) == 0) = false := by simpa using hq0
        clear hr1 hr2 hq
        have hSA : Sl wr.drew 0 wr.drew.heap.size 3 B1 n1 (hostsV ps) := ((sA4.below hb (by omega)).more (Nat.le_refl _) (show w1.heap.size ≤ wr.heap.size by omega)).drew
        have hSB : Sl wr.drew 0 wr.drew.heap.size 3 B2 n2 (hostsV bs) := ((sB4.below hb (by omega)).more (Nat.le_refl _) (show w1.heap.size ≤ wr.heap.size by omega)).drew
        have hSK : Sl wr.drew 0 wr.drew.heap.size 1 B3 n3 (ks.map (Value.int .i64)) := ((sK4.below hb (by omega)).more (Nat.le_refl _) (show w1.heap.size ≤ wr.heap.size by omega)).drew
        have hki : (0 : Int) ≤ (j : Int) := by omega
        have hki2 : (j : Int) < (m : Int) := by omega
        go_upto_region 10 with fail
        obtain ⟨L, hL⟩ : ∃ L : List (Nat × VT), L = [(3, tLit (.int .i64 (way))), (4, tLit (.slice (B1) (n1) (c1))), (5, tLit (.slice (B2) (n2) (c2))), (6, tLit (.slice (B3) (n3) (c3))), (7, tLit (.slice (some ⟨b, off, none⟩) (m) (xc))), (8, tLit (.int .i64 ((j : Int)))), (38, tLit (.int .i64 (way))), (39, tLit (.slice (B1) (n1) (c1))), (40, tLit (.slice (some ⟨b, off, none⟩) (m) (xc))), (41, tLit (.int .i64 ((j : Int)))), (42, tLit (.pointer (some ⟨b, off + j, none⟩))), (43, tLit (.int .i64 (x))), (44, tLit (.int .i64 (r1))), (45, tLit (.int .i64 (way))), (46, tLit (.slice (B2) (n2) (c2))), (47, tLit (.slice (some ⟨b, off, none⟩) (m) (xc))), (48, tLit (.int .i64 ((j : Int)))), (49, tLit (.pointer (some ⟨b, off + j, none⟩))), (50, tLit (.int .i64 (x))), (51, tLit (.int .i64 (r2))), (52, tLit (.bool false)), (53, tLit (.bool false)), (54, tLit (.slice (B3) (n3) (c3))), (55, tLit (.slice (some ⟨b, off, none⟩) (m) (xc))), (56, tLit (.int .i64 ((j : Int)))), (57, tLit (.pointer (some ⟨b, off + j, none⟩))), (58, tLit (.int .i64 (x))), (59, tLit (.int .i64 ((q : Int)))), (60, tLit (.bool false)), (61, tLit (.bool false))] := ⟨_, rfl⟩
        have V3 : L.lookup 3 = some (tLit (.int .i64 (way))) := by rw [hL]; rfl
        have V4 : L.lookup 4 = some (tLit (.slice (B1) (n1) (c1))) := by rw [hL]; rfl
        have V5 : L.lookup 5 = some (tLit (.slice (B2) (n2) (c2))) := by rw [hL]; rfl
        have V6 : L.lookup 6 = some (tLit (.slice (B3) (n3) (c3))) := by rw [hL]; rfl
        have V7 : L.lookup 7 = some (tLit (.slice (some ⟨b, off, none⟩) (m) (xc))) := by rw [hL]; rfl
        have V8 : L.lookup 8 = some (tLit (.int .i64 ((j : Int)))) := by rw [hL]; rfl
        have V38 : L.lookup 38 = some (tLit (.int .i64 (way))) := by rw [hL]; rfl
        have V39 : L.lookup 39 = some (tLit (.slice (B1) (n1) (c1))) := by rw [hL]; rfl
        have V40 : L.lookup 40 = some (tLit (.slice (some ⟨b, off, none⟩) (m) (xc))) := by rw [hL]; rfl
        have V41 : L.lookup 41 = some (tLit (.int .i64 ((j : Int)))) := by rw [hL]; rfl
        have V42 : L.lookup 42 = some (tLit (.pointer (some ⟨b, off + j, none⟩))) := by rw [hL]; rfl
        have V43 : L.lookup 43 = some (tLit (.int .i64 (x))) := by rw [hL]; rfl
        have V44 : L.lookup 44 = some (tLit (.int .i64 (r1))) := by rw [hL]; rfl
        have V45 : L.lookup 45 = some (tLit (.int .i64 (way))) := by rw [hL]; rfl
        have V46 : L.lookup 46 = some (tLit (.slice (B2) (n2) (c2))) := by rw [hL]; rfl
        have V47 : L.lookup 47 = some (tLit (.slice (some ⟨b, off, none⟩) (m) (xc))) := by rw [hL]; rfl
        have V48 : L.lookup 48 = some (tLit (.int .i64 ((j : Int)))) := by rw [hL]; rfl
        have V49 : L.lookup 49 = some (tLit (.pointer (some ⟨b, off + j, none⟩))) := by rw [hL]; rfl
        have V50 : L.lookup 50 = some (tLit (.int .i64 (x))) := by rw [hL]; rfl
        have V51 : L.lookup 51 = some (tLit (.int .i64 (r2))) := by rw [hL]; rfl
        have V52 : L.lookup 52 = some (tLit (.bool false)) := by rw [hL]; rfl
        have V53 : L.lookup 53 = some (tLit (.bool false)) := by rw [hL]; rfl
        have V54 : L.lookup 54 = some (tLit (.slice (B3) (n3) (c3))) := by rw [hL]; rfl
        have V55 : L.lookup 55 = some (tLit (.slice (some ⟨b, off, none⟩) (m) (xc))) := by rw [hL]; rfl
        have V56 : L.lookup 56 = some (tLit (.int .i64 ((j : Int)))) := by rw [hL]; rfl
        have V57 : L.lookup 57 = some (tLit (.pointer (some ⟨b, off + j, none⟩))) := by rw [hL]; rfl
        have V58 : L.lookup 58 = some (tLit (.int .i64 (x))) := by rw [hL]; rfl
        have V59 : L.lookup 59 = some (tLit (.int .i64 ((q : Int)))) := by rw [hL]; rfl
        have V60 : L.lookup 60 = some (tLit (.bool false)) := by rw [hL]; rfl
        have V61 : L.lookup 61 = some (tLit (.bool false)) := by rw [hL]; rfl
        have HK : KeepL L := by rw [hL]; exact ⟨keep_lit _, keep_lit _, keep_lit _, keep_lit _, keep_lit _, keep_lit _, keep_lit _, keep_lit _, keep_lit _, keep_lit _, keep_lit _, keep_lit _, keep_lit _, keep_lit _, keep_lit _, keep_lit _, keep_lit _, keep_lit _, keep_lit _, keep_lit _, keep_lit _, keep_lit _, keep_lit _, keep_lit _, keep_lit _, keep_lit _, keep_lit _, keep_lit _, keep_lit _, keep_lit _, trivial⟩
        refine wp_region_mix0 (by kernel_rfl) L 24 rfl [some 38, some 39, some 40, some 41, some 42, some 43, some 44, some 45, some 46, some 47, some 48, some 49, some 50, some 51, some 52, some 53, some 54, some 55, some 56, some 57, some 58, some 59, some 60, some 61] (by kernel_rfl) (by kernel_rfl) (by kernel_rfl) 6 (by rw [hL]; intro x hx; simp only [List.take_succ_cons, List.take_zero, List.mem_cons, List.not_mem_nil, or_false] at hx; rcases hx with rfl | rfl | rfl | rfl | rfl | rfl <;> rfl) (by rw [hL]; rfl) ?_ ?_
        · clear hL
          exact ⟨m_move HK gokm_none (om_tmp V3) V38,
            m_move HK gokm_none (om_tmp V4) V39,
            m_move HK gokm_none (om_tmp V7) V40,
            m_move HK gokm_none (om_tmp V8) V41,
            m_index HK gokm_none (s := 1) (by kernel_rfl) (by omega) (by omega) (om_tmp V40) (om_tmp V41) (by simp) V42,
            m_load1 HK gokm_none (by kernel_rfl) (om_tmp V42) c0 V43,
            m_call HK gokm_none Try.func14 (by kernel_rfl) (by kernel_rfl) V44 (fun o b w hm hG ho => by
              have e1 : b.eval (.tmp 38) = .int .i64 (way) := (om_tmp V38) o b w (hm _ (by simp)) ho
              have e2 : b.eval (.tmp 39) = .slice (B1) (n1) (c1) := (om_tmp V39) o b w (hm _ (by simp)) ho
              have e3 : b.eval (.tmp 43) = .int .i64 (x) := (om_tmp V43) o b w (hm _ (by simp)) ho
              rw [show (#[.tmp 38, .tmp 39, .tmp 43] : Array Operand).map b.eval = #[.int .i64 way, .slice (B1) n1 c1, .int .i64 x] from by simp [e1, e2, e3]]
              exact (iHostBy_any way _ _ _ x ps w (hSA.below (GX.below hG) (Nat.le_refl _)) hG.size (by omega)).mono fun e w' h => ⟨_, h.1, New.of_below h.2, by rw [HR1.out]; rfl⟩),
            m_move HK gokm_none (om_tmp V3) V45,
            m_move HK gokm_none (om_tmp V5) V46,
            m_move HK gokm_none (om_tmp V7) V47,
            m_move HK gokm_none (om_tmp V8) V48,
            m_index HK gokm_none (s := 1) (by kernel_rfl) (by omega) (by omega) (om_tmp V47) (om_tmp V48) (by simp) V49,
            m_load1 HK gokm_none (by kernel_rfl) (om_tmp V49) c0 V50,
            m_call HK gokm_none Try.func14 (by kernel_rfl) (by kernel_rfl) V51 (fun o b w hm hG ho => by
              have e1 : b.eval (.tmp 45) = .int .i64 (way) := (om_tmp V45) o b w (hm _ (by simp)) ho
              have e2 : b.eval (.tmp 46) = .slice (B2) (n2) (c2) := (om_tmp V46) o b w (hm _ (by simp)) ho
              have e3 : b.eval (.tmp 50) = .int .i64 (x) := (om_tmp V50) o b w (hm _ (by simp)) ho
              rw [show (#[.tmp 45, .tmp 46, .tmp 50] : Array Operand).map b.eval = #[.int .i64 way, .slice (B2) n2 c2, .int .i64 x] from by simp [e1, e2, e3]]
              exact (iHostBy_any way _ _ _ x bs w (hSB.below (GX.below hG) (Nat.le_refl _)) hG.size (by omega)).mono fun e w' h => ⟨_, h.1, New.of_below h.2, by rw [HR2.out]; rfl⟩),
            m_eql HK gokm_none (om_tmp V44) (om_tmp V51) hne.symm V52,
            m_move HK gokm_none (om_tmp V52) V53,
            m_move HK (gokm_some rfl V53) (om_tmp V6) V54,
            m_move HK (gokm_some rfl V53) (om_tmp V7) V55,
            m_move HK (gokm_some rfl V53) (om_tmp V8) V56,
            m_index HK (gokm_some rfl V53) (s := 1) (by kernel_rfl) (by omega) (by omega) (om_tmp V55) (om_tmp V56) (by simp) V57,
            m_load1 HK (gokm_some rfl V53) (by kernel_rfl) (om_tmp V57) c0 V58,
            m_call HK (gokm_some rfl V53) Try.func30 (by kernel_rfl) (by kernel_rfl) V59 (fun o b w hm hG ho => by
              have e2 : b.eval (.tmp 54) = .slice (B3) (n3) (c3) := (om_tmp V54) o b w (hm _ (by simp)) ho
              have e3 : b.eval (.tmp 58) = .int .i64 (x) := (om_tmp V58) o b w (hm _ (by simp)) ho
              rw [show (#[.tmp 54, .tmp 58] : Array Operand).map b.eval = #[.slice (B3) n3 c3, .int .i64 x] from by simp [e2, e3]]
              exact (iCountOf_any _ _ _ x ks w (hSK.below (GX.below hG) (Nat.le_refl _)) (by omega)).mono fun e w' h => ⟨_, h.1, by rw [← h.2]; exact New.of_below (Below.refl _ _), by rw [HQ.out]; rfl⟩),
            m_eql HK (gokm_some rfl V53) (om_tmp V59) om_const hq0.symm V60,
            m_pickf HK gokm_none (om_tmp V53) (om_tmp V60) V61,
            trivial⟩
        intro vs w5 hw5 hk5
        have k38 : vs 38 = .int .i64 (way) := hk5 0 38 _ (by omega) rfl V38
        have k39 : vs 39 = .slice (B1) (n1) (c1) := hk5 1 39 _ (by omega) rfl V39
        have k40 : vs 40 = .slice (some ⟨b, off, none⟩) (m) (xc) := hk5 2 40 _ (by omega) rfl V40
        have k41 : vs 41 = .int .i64 ((j : Int)) := hk5 3 41 _ (by omega) rfl V41
        have k42 : vs 42 = .pointer (some ⟨b, off + j, none⟩) := hk5 4 42 _ (by omega) rfl V42
        have k43 : vs 43 = .int .i64 (x) := hk5 5 43 _ (by omega) rfl V43
        have k44 : vs 44 = .int .i64 (r1) := hk5 6 44 _ (by omega) rfl V44
        have k45 : vs 45 = .int .i64 (way) := hk5 7 45 _ (by omega) rfl V45
        have k46 : vs 46 = .slice (B2) (n2) (c2) := hk5 8 46 _ (by omega) rfl V46
        have k47 : vs 47 = .slice (some ⟨b, off, none⟩) (m) (xc) := hk5 9 47 _ (by omega) rfl V47
        have k48 : vs 48 = .int .i64 ((j : Int)) := hk5 10 48 _ (by omega) rfl V48
        have k49 : vs 49 = .pointer (some ⟨b, off + j, none⟩) := hk5 11 49 _ (by omega) rfl V49
        have k50 : vs 50 = .int .i64 (x) := hk5 12 50 _ (by omega) rfl V50
        have k51 : vs 51 = .int .i64 (r2) := hk5 13 51 _ (by omega) rfl V51
        have k52 : vs 52 = .bool false := hk5 14 52 _ (by omega) rfl V52
        have k53 : vs 53 = .bool false := hk5 15 53 _ (by omega) rfl V53
        have k54 : vs 54 = .slice (B3) (n3) (c3) := hk5 16 54 _ (by omega) rfl V54
        have k55 : vs 55 = .slice (some ⟨b, off, none⟩) (m) (xc) := hk5 17 55 _ (by omega) rfl V55
        have k56 : vs 56 = .int .i64 ((j : Int)) := hk5 18 56 _ (by omega) rfl V56
        have k57 : vs 57 = .pointer (some ⟨b, off + j, none⟩) := hk5 19 57 _ (by omega) rfl V57
        have k58 : vs 58 = .int .i64 (x) := hk5 20 58 _ (by omega) rfl V58
        have k59 : vs 59 = .int .i64 ((q : Int)) := hk5 21 59 _ (by omega) rfl V59
        have k60 : vs 60 = .bool false := hk5 22 60 _ (by omega) rfl V60
        have k61 : vs 61 = .bool false := hk5 23 61 _ (by omega) rfl V61
        clear hk5 HK hL V3 V4 V5 V6 V7 V8 V38 V39 V40 V41 V42 V43 V44 V45 V46 V47 V48 V49 V50 V51 V52 V53 V54 V55 V56 V57 V58 V59 V60 V61
        simp only [putL, Act.put, List.setIfInBounds_toArray, List.set_cons_zero, List.set_cons_succ, k38, k39, k40, k41, k42, k43, k44, k45, k46, k47, k48, k49, k50, k51, k52, k53, k54, k55, k56, k57, k58, k59, k60, k61]
        clear k38 k39 k40 k41 k42 k43 k44 k45 k46 k47 k48 k49 k50 k51 k52 k53 k54 k55 k56 k57 k58 k59 k60 k61
        have hb5 := New.below hw5 hb hbz
        go_wp2
        go_roundw
        case rel => exact ⟨j + 1, by omega, by go_num, hb5⟩
        case measure => simp [intOf]; omega
      · obtain rfl : m = j := by omega
        have hle : (m : Int) ≤ (n3 : Int) := by omega
        go_wp2_with fail
        refine (iMoved_any _ _ _ _ ps _ _ _ ps _ _ _ ks _ (sA4.below hb (by omega)) (sA4.below hb (by omega)) (sK4.below hb (by omega)) (by omega) (by omega) (by omega) (by omega) (by omega) (by omega)).mono ?_
        rw [HSELF.out]
        intro e w6 ho
        obtain ⟨Z, zc, rfl, _, b6⟩ := ho.form
        clear ho
        go_wp2_with (go_at_call 17; refine (alive_any _).mono ?_; rintro e w7 ⟨rfl, b7⟩)
        go_ret
        exact ⟨rfl, (d4.trans (hb.mono d4.size)).trans ((b6.trans (b7.mono b6.size)).mono (Nat.le_trans d4.size hbz))⟩
  · go_enter Try.func8, Try.ntmps8
    go_wp2
    go_ret
    exact ⟨rfl, Below.refl _ _⟩
end Go.Proofs.Ytfobcggcilbgbaa
