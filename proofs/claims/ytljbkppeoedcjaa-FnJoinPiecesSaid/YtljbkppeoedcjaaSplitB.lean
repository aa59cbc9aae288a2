/-
  SplitBody of both packages: their contracts.
-/
import Derived.Test.YtljbkppeoedcjaaSplit
namespace Go.Proofs.Ytljbkppeoedcjaa
open Go.RowKit
set_option linter.unusedVariables false

/-- What is left to be split. -/
def More (zs : List Int) (sz n f a : Nat) (done all : List Pc) : Prop := ((a < n ∨ a = 0) ∧ n < a + f ∧ Hid (done ++ pcsFrom zs sz f a = all)) ∨ ((n ≤ a ∧ a ≠ 0) ∧ Hid (done = all))

set_option maxHeartbeats 3200000 in
theorem iSplitBody_any (A : Option Addr) (n c : Nat) (zs : List Int) (size : Int) (w : World) {lo hi : Nat} (hs : Sl w lo hi 1 A n (zs.map (Value.int .u8))) (hhi : hi ≤ w.heap.size) (hnc : n ≤ c) (hc : c ≤ maxLen) (hn : n ≤ 1048576) (hby : AllByte zs) :
    Calls Try.prog 9 #[.slice A n c, .int .i64 size] w (RetPcs w (splitP zs size).length (splitP zs size)) := by
  have HL := Lib.hid hs.len
  obtain ⟨i0, hi0, hz0, hz1, hz2⟩ := info_parts infoByte
  obtain ⟨iP, hiP, hzP, hzP1, hzP2⟩ := info_parts infoPiece
  have hpart : ∀ a m, AllByte ((zs.drop a).take m) := fun a m z hz => hby z (List.mem_of_mem_drop (List.mem_of_mem_take hz))
  have hdrop : ∀ a, AllByte (zs.drop a) := fun a z hz => hby z (List.mem_of_mem_drop hz)
  by_cases hv : zs.length ≤ 80 ∧ 1 ≤ size ∧ size ≤ 40
  · skip
    obtain ⟨sz, hsz⟩ : ∃ sz : Nat, size = (sz : Int) := ⟨size.toNat, by omega⟩
    subst hsz
    have hsp : splitP zs (sz : Int) = pcsFrom zs sz (zs.length + 1) 0 := by unfold splitP; rw [if_pos hv]; simp
    have hn80 : n ≤ 80 := by rw [← HL.out]; exact hv.1
    have h1 : 1 ≤ sz := by omega
    have h40 : sz ≤ 40 := by omega
    have hin : inB (sz : Int) 1 40 = true := by rw [inB_iff]; omega
    rw [hsp]
    obtain ⟨all, hall⟩ : ∃ x, pcsFrom zs sz (zs.length + 1) 0 = x := ⟨_, rfl⟩
    have h0 : ([] : List Pv).map Pv.pc ++ pcsFrom zs sz (n + 1) 0 = all := by rw [← hall, HL.out]; rfl
    rw [hall]
    have H0 := Lib.hid h0
    clear hv hsp hall h0
    have hm80 : ¬ (80 : Int) < (n : Int) := by omega
    go_enter Try.func9, Try.ntmps9
    go_wp2_with (go_at_call 26; refine (in_any _ _ _ _).mono ?_; rw [hin]; rintro e w' ⟨rfl, rfl⟩)
    go_loopw [5, 6] (fun out i wr => ∃ (a f : Nat) (B : Option Addr) (m mc : Nat) (qs : List Pv), a ≤ n ∧ n < a + f ∧ (a < n ∨ n = 0) ∧ i = .int .i64 a ∧ out = .slice B m mc ∧ m ≤ a ∧ OwnPcs wr w.heap.size (.slice B m mc) m qs ∧ Hid (qs.map Pv.pc ++ pcsFrom zs sz f a = all) ∧ Below w.heap.size w wr) (fun _ i _ => n - (intOf i).toNat)
    case atStart => exact ⟨0, n + 1, none, 0, 0, [], Nat.zero_le _, by omega, by omega, rfl, rfl, Nat.le_refl _, OwnPcs.nil_ _ _, H0, Below.refl _ _⟩
    case round =>
      obtain ⟨a, f, B, m, mc, qs, ha, hf, haz, rfl, rfl, hma, ho, HA, hb⟩ := hrel
      have hsb := hs.below hb hhi
      obtain ⟨f', rfl⟩ : ∃ f', f = f' + 1 := ⟨f - 1, by omega⟩
      rcases Nat.eq_zero_or_pos n with hn0 | hn0
      · subst hn0
        obtain rfl : a = 0 := by omega
        by_cases hc0 : c = 0
        · subst hc0
          rcases A with _ | ⟨ab, ao, ap⟩
          · skip
            go_wp2_with (first | (at_builtin; first | (refine wpList_append_sl _ rfl _ _ 22 rfl w.heap.size 5 i0 _ 1 1 Try.underlying22 hi0 hz0 hz1 hz2 rfl (by decide) _ 0 _ (by rfl) (World.ownsRow_nil _ _ _ _) _ _ _ (0) _ (([]).map (Value.int .u8)) rfl (sl_zero _ _) (ones_u8 _) (by unfold maxLen; omega) (by omega) hb.size ?_; intro v1 w1 own1 g1 at1; rw [Nat.zero_add] at own1; obtain ⟨A1, c1, hv1, hc1, hm1⟩ := own_is_slice own1; subst hv1; have N1 : New wr w1 := New.of_none g1; have hf1 := fresh_nil at1; have ho1 := ho.new N1; have hz1' : wr.heap.size ≤ w1.heap.size := N1.size) | (refine wpList_append_sl _ rfl _ _ 23 rfl w.heap.size 35 iP _ 3 40 Try.underlying23 hiP hzP hzP1 hzP2 (by kernel_rfl) (by decide) _ m _ (by rfl) (ho1.row.alloc _) _ _ (some ⟨w1.heap.size, 0, none⟩) 1 1 [.int .i64 (0 : Int), .bool false, .slice A1 (0) c1] rfl (Sl.new #[.int .i64 (0 : Int), .bool false, .slice A1 (0) c1] 35 3 1 rfl) (one_piece _ _ _ _ _) (by unfold maxLen; omega) (by omega) (by have := hb.size; simp; omega) ?_; intro v3 w3 own3 g3 at3; obtain ⟨A3, c3, hv3, hc3, hm3⟩ := own_is_slice own3; subst hv3)))
            have hs3 := ho.more1 N1 own1 hf1 (by intro z hz; simp at hz) own3 g3
            have hb3 := below_more1 hb ho N1 g3
            have hfin : (qs ++ [(⟨(0 : Int), false, A1, 0, c1, []⟩ : Pv)]).map Pv.pc = all := by
              rw [← HA.out, pcs_last (by rw [HL.out]; omega)]
              rw [show zs = [] from List.eq_nil_of_length_eq_zero HL.out]; simp [Pv.pc]
            have hlen : all.length = m + 1 := by rw [← hfin, List.length_map]; exact hs3.len
            go_ret
            rw [hlen]
            exact ⟨_, _, _, rfl, hfin, hs3, hb3⟩
          · skip
            go_wp2_with (first | (at_builtin; first | (refine wpList_append_sl _ rfl _ _ 22 rfl w.heap.size 5 i0 _ 1 1 Try.underlying22 hi0 hz0 hz1 hz2 rfl (by decide) _ 0 _ (by rfl) (World.ownsRow_nil _ _ _ _) _ _ _ (0) _ (([]).map (Value.int .u8)) rfl (sl_zero _ _) (ones_u8 _) (by unfold maxLen; omega) (by omega) hb.size ?_; intro v1 w1 own1 g1 at1; rw [Nat.zero_add] at own1; obtain ⟨A1, c1, hv1, hc1, hm1⟩ := own_is_slice own1; subst hv1; have N1 : New wr w1 := New.of_none g1; have hf1 := fresh_nil at1; have ho1 := ho.new N1; have hz1' : wr.heap.size ≤ w1.heap.size := N1.size) | (refine wpList_append_sl _ rfl _ _ 23 rfl w.heap.size 35 iP _ 3 40 Try.underlying23 hiP hzP hzP1 hzP2 (by kernel_rfl) (by decide) _ m _ (by rfl) (ho1.row.alloc _) _ _ (some ⟨w1.heap.size, 0, none⟩) 1 1 [.int .i64 (0 : Int), .bool false, .slice A1 (0) c1] rfl (Sl.new #[.int .i64 (0 : Int), .bool false, .slice A1 (0) c1] 35 3 1 rfl) (one_piece _ _ _ _ _) (by unfold maxLen; omega) (by omega) (by have := hb.size; simp; omega) ?_; intro v3 w3 own3 g3 at3; obtain ⟨A3, c3, hv3, hc3, hm3⟩ := own_is_slice own3; subst hv3)))
            have hs3 := ho.more1 N1 own1 hf1 (by intro z hz; simp at hz) own3 g3
            have hb3 := below_more1 hb ho N1 g3
            have hfin : (qs ++ [(⟨(0 : Int), false, A1, 0, c1, []⟩ : Pv)]).map Pv.pc = all := by
              rw [← HA.out, pcs_last (by rw [HL.out]; omega)]
              rw [show zs = [] from List.eq_nil_of_length_eq_zero HL.out]; simp [Pv.pc]
            have hlen : all.length = m + 1 := by rw [← hfin, List.length_map]; exact hs3.len
            go_ret
            rw [hlen]
            exact ⟨_, _, _, rfl, hfin, hs3, hb3⟩
        · skip
          rcases A with _ | ⟨ab, ao, ap⟩
          · skip
            go_wp2_with (first | (at_builtin; first | (refine wpList_append_sl _ rfl _ _ 22 rfl w.heap.size 5 i0 _ 1 1 Try.underlying22 hi0 hz0 hz1 hz2 rfl (by decide) _ 0 _ (by rfl) (World.ownsRow_nil _ _ _ _) _ _ _ (0) _ (([]).map (Value.int .u8)) rfl (sl_zero _ _) (ones_u8 _) (by unfold maxLen; omega) (by omega) hb.size ?_; intro v1 w1 own1 g1 at1; rw [Nat.zero_add] at own1; obtain ⟨A1, c1, hv1, hc1, hm1⟩ := own_is_slice own1; subst hv1; have N1 : New wr w1 := New.of_none g1; have hf1 := fresh_nil at1; have ho1 := ho.new N1; have hz1' : wr.heap.size ≤ w1.heap.size := N1.size) | (refine wpList_append_sl _ rfl _ _ 23 rfl w.heap.size 35 iP _ 3 40 Try.underlying23 hiP hzP hzP1 hzP2 (by kernel_rfl) (by decide) _ m _ (by rfl) (ho1.row.alloc _) _ _ (some ⟨w1.heap.size, 0, none⟩) 1 1 [.int .i64 (0 : Int), .bool false, .slice A1 (0) c1] rfl (Sl.new #[.int .i64 (0 : Int), .bool false, .slice A1 (0) c1] 35 3 1 rfl) (one_piece _ _ _ _ _) (by unfold maxLen; omega) (by omega) (by have := hb.size; simp; omega) ?_; intro v3 w3 own3 g3 at3; obtain ⟨A3, c3, hv3, hc3, hm3⟩ := own_is_slice own3; subst hv3)))
            have hs3 := ho.more1 N1 own1 hf1 (by intro z hz; simp at hz) own3 g3
            have hb3 := below_more1 hb ho N1 g3
            have hfin : (qs ++ [(⟨(0 : Int), false, A1, 0, c1, []⟩ : Pv)]).map Pv.pc = all := by
              rw [← HA.out, pcs_last (by rw [HL.out]; omega)]
              rw [show zs = [] from List.eq_nil_of_length_eq_zero HL.out]; simp [Pv.pc]
            have hlen : all.length = m + 1 := by rw [← hfin, List.length_map]; exact hs3.len
            go_ret
            rw [hlen]
            exact ⟨_, _, _, rfl, hfin, hs3, hb3⟩
          · skip
            go_wp2_with (first | (at_builtin; first | (refine wpList_append_sl _ rfl _ _ 22 rfl w.heap.size 5 i0 _ 1 1 Try.underlying22 hi0 hz0 hz1 hz2 rfl (by decide) _ 0 _ (by rfl) (World.ownsRow_nil _ _ _ _) _ _ _ (0) _ (([]).map (Value.int .u8)) rfl (sl_zero _ _) (ones_u8 _) (by unfold maxLen; omega) (by omega) hb.size ?_; intro v1 w1 own1 g1 at1; rw [Nat.zero_add] at own1; obtain ⟨A1, c1, hv1, hc1, hm1⟩ := own_is_slice own1; subst hv1; have N1 : New wr w1 := New.of_none g1; have hf1 := fresh_nil at1; have ho1 := ho.new N1; have hz1' : wr.heap.size ≤ w1.heap.size := N1.size) | (refine wpList_append_sl _ rfl _ _ 23 rfl w.heap.size 35 iP _ 3 40 Try.underlying23 hiP hzP hzP1 hzP2 (by kernel_rfl) (by decide) _ m _ (by rfl) (ho1.row.alloc _) _ _ (some ⟨w1.heap.size, 0, none⟩) 1 1 [.int .i64 (0 : Int), .bool false, .slice A1 (0) c1] rfl (Sl.new #[.int .i64 (0 : Int), .bool false, .slice A1 (0) c1] 35 3 1 rfl) (one_piece _ _ _ _ _) (by unfold maxLen; omega) (by omega) (by have := hb.size; simp; omega) ?_; intro v3 w3 own3 g3 at3; obtain ⟨A3, c3, hv3, hc3, hm3⟩ := own_is_slice own3; subst hv3)))
            have hs3 := ho.more1 N1 own1 hf1 (by intro z hz; simp at hz) own3 g3
            have hb3 := below_more1 hb ho N1 g3
            have hfin : (qs ++ [(⟨(0 : Int), false, A1, 0, c1, []⟩ : Pv)]).map Pv.pc = all := by
              rw [← HA.out, pcs_last (by rw [HL.out]; omega)]
              rw [show zs = [] from List.eq_nil_of_length_eq_zero HL.out]; simp [Pv.pc]
            have hlen : all.length = m + 1 := by rw [← hfin, List.length_map]; exact hs3.len
            go_ret
            rw [hlen]
            exact ⟨_, _, _, rfl, hfin, hs3, hb3⟩
      · obtain ⟨b, off, rfl, hlb, hbh, _⟩ := hs.2 (show 0 < n by omega)
        have hca : ¬ c = a := by omega
        have hca0 : 0 < c := by omega
        rcases Nat.lt_trichotomy (a + sz) n with hl | hl | hl
        · have htn : ((a : Int) + (sz : Int)).toNat = a + sz := by omega
          have hdd : decide ((a : Int) + (sz : Int) < (n : Int)) = true := decide_eq_true (by omega)
          have slP := sl_part hsb a sz (by omega)
          go_wp2_with (first | (at_builtin; first | (refine wpList_append_sl _ rfl _ _ 22 rfl w.heap.size 5 i0 _ 1 1 Try.underlying22 hi0 hz0 hz1 hz2 rfl (by decide) _ 0 _ (by rfl) (World.ownsRow_nil _ _ _ _) _ _ (some ⟨b, off + a, none⟩) (sz) _ (((zs.drop a).take sz).map (Value.int .u8)) rfl (slP) (ones_u8 _) (by unfold maxLen; omega) (by omega) hb.size ?_; intro v1 w1 own1 g1 at1; rw [Nat.zero_add] at own1; obtain ⟨A1, c1, hv1, hc1, hm1⟩ := own_is_slice own1; subst hv1; have N1 : New wr w1 := New.of_none g1; have hf1 := fresh_nil at1; have ho1 := ho.new N1; have hz1' : wr.heap.size ≤ w1.heap.size := N1.size) | (refine wpList_append_sl _ rfl _ _ 23 rfl w.heap.size 35 iP _ 3 40 Try.underlying23 hiP hzP hzP1 hzP2 (by kernel_rfl) (by decide) _ m _ (by rfl) (ho1.row.alloc _) _ _ (some ⟨w1.heap.size, 0, none⟩) 1 1 [.int .i64 (a : Int), .bool true, .slice A1 (sz) c1] rfl (Sl.new #[.int .i64 (a : Int), .bool true, .slice A1 (sz) c1] 35 3 1 rfl) (one_piece _ _ _ _ _) (by unfold maxLen; omega) (by omega) (by have := hb.size; simp; omega) ?_; intro v3 w3 own3 g3 at3; obtain ⟨A3, c3, hv3, hc3, hm3⟩ := own_is_slice own3; subst hv3)))
          have hs3 := ho.more1 N1 own1 hf1 (hpart _ _) own3 g3
          have hb3 := below_more1 hb ho N1 g3
          have hfin : (qs ++ [(⟨(a : Int), true, A1, sz, c1, (zs.drop a).take sz⟩ : Pv)]).map Pv.pc ++ pcsFrom zs sz f' (a + sz) = all := by
            rw [← HA.out, pcs_more_ (by rw [HL.out]; omega)]
            simp [Pv.pc]
          go_roundw
          case rel => exact ⟨a + sz, f', _, m + 1, _, _, by omega, by omega, by omega, by go_num, rfl, by omega, hs3, Lib.hid hfin, hb3⟩
          case measure => simp [intOf]; omega
        · have htn : ((a : Int) + (sz : Int)).toNat = a + sz := by omega
          have slP := sl_part hsb a sz (by omega)
          subst hl
          go_wp2_with (first | (at_builtin; first | (refine wpList_append_sl _ rfl _ _ 22 rfl w.heap.size 5 i0 _ 1 1 Try.underlying22 hi0 hz0 hz1 hz2 rfl (by decide) _ 0 _ (by rfl) (World.ownsRow_nil _ _ _ _) _ _ (some ⟨b, off + a, none⟩) (sz) _ (((zs.drop a).take sz).map (Value.int .u8)) rfl (slP) (ones_u8 _) (by unfold maxLen; omega) (by omega) hb.size ?_; intro v1 w1 own1 g1 at1; rw [Nat.zero_add] at own1; obtain ⟨A1, c1, hv1, hc1, hm1⟩ := own_is_slice own1; subst hv1; have N1 : New wr w1 := New.of_none g1; have hf1 := fresh_nil at1; have ho1 := ho.new N1; have hz1' : wr.heap.size ≤ w1.heap.size := N1.size) | (refine wpList_append_sl _ rfl _ _ 23 rfl w.heap.size 35 iP _ 3 40 Try.underlying23 hiP hzP hzP1 hzP2 (by kernel_rfl) (by decide) _ m _ (by rfl) (ho1.row.alloc _) _ _ (some ⟨w1.heap.size, 0, none⟩) 1 1 [.int .i64 (a : Int), .bool false, .slice A1 (sz) c1] rfl (Sl.new #[.int .i64 (a : Int), .bool false, .slice A1 (sz) c1] 35 3 1 rfl) (one_piece _ _ _ _ _) (by unfold maxLen; omega) (by omega) (by have := hb.size; simp; omega) ?_; intro v3 w3 own3 g3 at3; obtain ⟨A3, c3, hv3, hc3, hm3⟩ := own_is_slice own3; subst hv3)))
          have hs3 := ho.more1 N1 own1 hf1 (hpart _ _) own3 g3
          have hb3 := below_more1 hb ho N1 g3
          have hfin : (qs ++ [(⟨(a : Int), false, A1, sz, c1, (zs.drop a).take sz⟩ : Pv)]).map Pv.pc = all := by
            rw [← HA.out, pcs_last (by rw [HL.out]; omega)]
            simp [Pv.pc]
          have hlen : all.length = m + 1 := by rw [← hfin, List.length_map]; exact hs3.len
          go_ret
          rw [hlen]
          exact ⟨_, _, _, rfl, hfin, hs3, hb3⟩
        · have slP := sl_part hsb a (n - a) (by omega)
          rw [List.take_of_length_le (by rw [List.length_drop, HL.out]; exact Nat.le_refl _)] at slP
          go_wp2_with (first | (at_builtin; first | (refine wpList_append_sl _ rfl _ _ 22 rfl w.heap.size 5 i0 _ 1 1 Try.underlying22 hi0 hz0 hz1 hz2 rfl (by decide) _ 0 _ (by rfl) (World.ownsRow_nil _ _ _ _) _ _ (some ⟨b, off + a, none⟩) (n - a) _ ((zs.drop a).map (Value.int .u8)) rfl (slP) (ones_u8 _) (by unfold maxLen; omega) (by omega) hb.size ?_; intro v1 w1 own1 g1 at1; rw [Nat.zero_add] at own1; obtain ⟨A1, c1, hv1, hc1, hm1⟩ := own_is_slice own1; subst hv1; have N1 : New wr w1 := New.of_none g1; have hf1 := fresh_nil at1; have ho1 := ho.new N1; have hz1' : wr.heap.size ≤ w1.heap.size := N1.size) | (refine wpList_append_sl _ rfl _ _ 23 rfl w.heap.size 35 iP _ 3 40 Try.underlying23 hiP hzP hzP1 hzP2 (by kernel_rfl) (by decide) _ m _ (by rfl) (ho1.row.alloc _) _ _ (some ⟨w1.heap.size, 0, none⟩) 1 1 [.int .i64 (a : Int), .bool false, .slice A1 (n - a) c1] rfl (Sl.new #[.int .i64 (a : Int), .bool false, .slice A1 (n - a) c1] 35 3 1 rfl) (one_piece _ _ _ _ _) (by unfold maxLen; omega) (by omega) (by have := hb.size; simp; omega) ?_; intro v3 w3 own3 g3 at3; obtain ⟨A3, c3, hv3, hc3, hm3⟩ := own_is_slice own3; subst hv3)))
          have hs3 := ho.more1 N1 own1 hf1 (hdrop _) own3 g3
          have hb3 := below_more1 hb ho N1 g3
          have hfin : (qs ++ [(⟨(a : Int), false, A1, n - a, c1, zs.drop a⟩ : Pv)]).map Pv.pc = all := by
            rw [← HA.out, pcs_last (by rw [HL.out]; omega)]
            simp [Pv.pc]; rw [List.take_of_length_le (by rw [List.length_drop, HL.out]; omega)]
          have hlen : all.length = m + 1 := by rw [← hfin, List.length_map]; exact hs3.len
          go_ret
          rw [hlen]
          exact ⟨_, _, _, rfl, hfin, hs3, hb3⟩
  · have hsp : splitP zs size = [] := by unfold splitP; rw [if_neg hv]
    rw [hsp]
    rw [HL.out] at hv
    by_cases hm80 : (80 : Int) < (n : Int)
    · go_enter Try.func9, Try.ntmps9
      go_wp2
      go_ret
      exact ⟨_, _, [], rfl, rfl, OwnPcs.nil_ _ _, Below.refl _ _⟩
    · have hin : inB size 1 40 = false := inB_false (by omega)
      go_enter Try.func9, Try.ntmps9
      go_wp2_with (go_at_call 26; refine (in_any _ _ _ _).mono ?_; rw [hin]; rintro e w' ⟨rfl, rfl⟩)
      go_ret
      exact ⟨_, _, [], rfl, rfl, OwnPcs.nil_ _ _, Below.refl _ _⟩

set_option maxHeartbeats 3200000 in
theorem sSplitBody_any (A : Option Addr) (n c : Nat) (zs : List Int) (size : Int) (w : World) {lo hi : Nat} (hs : Sl w lo hi 1 A n (zs.map (Value.int .u8))) (hhi : hi ≤ w.heap.size) (hnc : n ≤ c) (hc : c ≤ maxLen) (hn : n ≤ 1048576) (hby : AllByte zs) :
    Calls Try.prog 7 #[.slice A n c, .int .i64 size] w (RetPcs w (splitP zs size).length (splitP zs size)) := by
  have HL := Lib.hid hs.len
  obtain ⟨i0, hi0, hz0, hz1, hz2⟩ := info_parts infoByte
  obtain ⟨iP, hiP, hzP, hzP1, hzP2⟩ := info_parts infoPiece
  have hpart : ∀ a m, AllByte ((zs.drop a).take m) := fun a m z hz => hby z (List.mem_of_mem_drop (List.mem_of_mem_take hz))
  have hdrop : ∀ a, AllByte (zs.drop a) := fun a z hz => hby z (List.mem_of_mem_drop hz)
  by_cases hv : zs.length ≤ 80 ∧ 1 ≤ size ∧ size ≤ 40
  · skip
    obtain ⟨sz, hsz⟩ : ∃ sz : Nat, size = (sz : Int) := ⟨size.toNat, by omega⟩
    subst hsz
    have hsp : splitP zs (sz : Int) = pcsFrom zs sz (zs.length + 1) 0 := by unfold splitP; rw [if_pos hv]; simp
    have hn80 : n ≤ 80 := by rw [← HL.out]; exact hv.1
    have h1 : 1 ≤ sz := by omega
    have h40 : sz ≤ 40 := by omega
    have hin : inB (sz : Int) 1 40 = true := by rw [inB_iff]; omega
    rw [hsp]
    obtain ⟨all, hall⟩ : ∃ x, pcsFrom zs sz (zs.length + 1) 0 = x := ⟨_, rfl⟩
    have h0 : ([] : List Pv).map Pv.pc ++ pcsFrom zs sz (n + 1) 0 = all := by rw [← hall, HL.out]; rfl
    rw [hall]
    have H0 := Lib.hid h0
    clear hv hsp hall h0
    have hm80 : ¬ (80 : Int) < (n : Int) := by omega
    have b0 := (Below.refl w.heap.size w).alloc (Nat.le_refl _) (.cells #[] 35)
    have ownE0 : OwnPcs (w.alloc (.cells #[] 35)) w.heap.size (.slice (some ⟨w.heap.size, 0, none⟩) 0 0) 0 [] := ⟨World.ownsRow_lit (base := w.heap.size) (e := 35) (size := 3) w #[] 0 (by omega) (by unfold maxLen; omega) (by simp), fun p hp => absurd hp (by simp), fun p hp => absurd hp (by simp), List.Pairwise.nil⟩
    go_enter Try.func7, Try.ntmps7
    go_wp2_with (go_at_call 25; refine (l1In_any _ _ _ _).mono ?_; rw [hin]; rintro e w' ⟨rfl, rfl⟩)
    go_loopw [5, 6] (fun out i wr => ∃ (a f : Nat) (B : Option Addr) (m mc : Nat) (qs : List Pv), i = .int .i64 a ∧ out = .slice B m mc ∧ m ≤ a ∧ a ≤ n + sz ∧ OwnPcs wr w.heap.size (.slice B m mc) m qs ∧ Below w.heap.size w wr ∧ More zs sz n f a (qs.map Pv.pc) all) (fun _ i _ => n + sz + 1 - (intOf i).toNat)
    case atStart => exact ⟨0, n + 1, _, 0, _, [], rfl, rfl, Nat.le_refl _, by omega, ownE0, b0, .inl ⟨by omega, by omega, H0⟩⟩
    case round =>
      obtain ⟨a, f, B, m, mc, qs, rfl, rfl, hma, han, ho, hb, hcase⟩ := hrel
      rcases hcase with ⟨haz, hf, HA⟩ | ⟨hna, HA⟩
      rotate_left
      · have hlt : ¬ ((a : Int) < (n : Int)) := by omega
        have hz0 : ((a : Int) == 0) = false := by simp; omega
        go_wp2
        go_ret
        have hlen : all.length = m := by rw [← HA.out, List.length_map]; exact ho.len
        rw [hlen]
        exact ⟨_, _, _, rfl, HA.out, ho, hb⟩
      have ha : a ≤ n := by omega
      have ownE := World.ownsRow_lit (base := w.heap.size) (e := 5) (size := 1) wr #[] 0 hb.size (by unfold maxLen; omega) (by simp)
      have hsb := hs.below hb hhi
      obtain ⟨f', rfl⟩ : ∃ f', f = f' + 1 := ⟨f - 1, by omega⟩
      rcases Nat.eq_zero_or_pos n with hn0 | hn0
      · subst hn0
        obtain rfl : a = 0 := by omega
        by_cases hc0 : c = 0
        · subst hc0
          rcases A with _ | ⟨ab, ao, ap⟩
          · skip
            go_wp2_with (first | (at_builtin; first | (refine wpList_append_sl _ rfl _ _ 22 rfl w.heap.size 5 i0 _ 1 1 Try.underlying22 hi0 hz0 hz1 hz2 rfl (by decide) _ 0 _ (by rfl) (ownE) _ _ _ (0) _ (([]).map (Value.int .u8)) rfl (sl_zero _ _) (ones_u8 _) (by unfold maxLen; omega) (by omega) (by have := hb.size; simp; omega) ?_; intro v1 w1 own1 g1 at1; rw [Nat.zero_add] at own1; obtain ⟨A1, c1, hv1, hc1, hm1⟩ := own_is_slice own1; subst hv1; have N1 : New wr w1 := new_lit g1; have hf1 := fresh_lit at1; have ho1 := ho.new N1; have hz1' : wr.heap.size ≤ w1.heap.size := N1.size) | (refine wpList_append_sl _ rfl _ _ 23 rfl w.heap.size 35 iP _ 3 40 Try.underlying23 hiP hzP hzP1 hzP2 (by kernel_rfl) (by decide) _ m _ (by rfl) (ho1.row.alloc _) _ _ (some ⟨w1.heap.size, 0, none⟩) 1 1 [.int .i64 (0 : Int), .bool false, .slice A1 (0) c1] rfl (Sl.new #[.int .i64 (0 : Int), .bool false, .slice A1 (0) c1] 35 3 1 rfl) (one_piece _ _ _ _ _) (by unfold maxLen; omega) (by omega) (by have := hb.size; simp; omega) ?_; intro v3 w3 own3 g3 at3; obtain ⟨A3, c3, hv3, hc3, hm3⟩ := own_is_slice own3; subst hv3)))
            have hs3 := ho.more1 N1 own1 hf1 (by intro z hz; simp at hz) own3 g3
            have hb3 := below_more1 hb ho N1 g3
            have hfin : (qs ++ [(⟨(0 : Int), false, A1, 0, c1, []⟩ : Pv)]).map Pv.pc = all := by
              rw [← HA.out, pcs_last (by rw [HL.out]; omega)]
              rw [show zs = [] from List.eq_nil_of_length_eq_zero HL.out]; simp [Pv.pc]
            go_roundw
            case rel => first | exact ⟨sz, f', _, m + 1, _, _, by go_num, rfl, by omega, by omega, hs3, hb3, .inr ⟨by omega, Lib.hid hfin⟩⟩ | exact ⟨sz, by omega, f', _, m + 1, _, ⟨rfl, rfl, rfl⟩, by omega, by omega, _, hs3, hb3, .inr ⟨by omega, Lib.hid hfin⟩⟩
            case measure => simp [intOf]; omega
          · skip
            go_wp2_with (first | (at_builtin; first | (refine wpList_append_sl _ rfl _ _ 22 rfl w.heap.size 5 i0 _ 1 1 Try.underlying22 hi0 hz0 hz1 hz2 rfl (by decide) _ 0 _ (by rfl) (ownE) _ _ _ (0) _ (([]).map (Value.int .u8)) rfl (sl_zero _ _) (ones_u8 _) (by unfold maxLen; omega) (by omega) (by have := hb.size; simp; omega) ?_; intro v1 w1 own1 g1 at1; rw [Nat.zero_add] at own1; obtain ⟨A1, c1, hv1, hc1, hm1⟩ := own_is_slice own1; subst hv1; have N1 : New wr w1 := new_lit g1; have hf1 := fresh_lit at1; have ho1 := ho.new N1; have hz1' : wr.heap.size ≤ w1.heap.size := N1.size) | (refine wpList_append_sl _ rfl _ _ 23 rfl w.heap.size 35 iP _ 3 40 Try.underlying23 hiP hzP hzP1 hzP2 (by kernel_rfl) (by decide) _ m _ (by rfl) (ho1.row.alloc _) _ _ (some ⟨w1.heap.size, 0, none⟩) 1 1 [.int .i64 (0 : Int), .bool false, .slice A1 (0) c1] rfl (Sl.new #[.int .i64 (0 : Int), .bool false, .slice A1 (0) c1] 35 3 1 rfl) (one_piece _ _ _ _ _) (by unfold maxLen; omega) (by omega) (by have := hb.size; simp; omega) ?_; intro v3 w3 own3 g3 at3; obtain ⟨A3, c3, hv3, hc3, hm3⟩ := own_is_slice own3; subst hv3)))
            have hs3 := ho.more1 N1 own1 hf1 (by intro z hz; simp at hz) own3 g3
            have hb3 := below_more1 hb ho N1 g3
            have hfin : (qs ++ [(⟨(0 : Int), false, A1, 0, c1, []⟩ : Pv)]).map Pv.pc = all := by
              rw [← HA.out, pcs_last (by rw [HL.out]; omega)]
              rw [show zs = [] from List.eq_nil_of_length_eq_zero HL.out]; simp [Pv.pc]
            go_roundw
            case rel => first | exact ⟨sz, f', _, m + 1, _, _, by go_num, rfl, by omega, by omega, hs3, hb3, .inr ⟨by omega, Lib.hid hfin⟩⟩ | exact ⟨sz, by omega, f', _, m + 1, _, ⟨rfl, rfl, rfl⟩, by omega, by omega, _, hs3, hb3, .inr ⟨by omega, Lib.hid hfin⟩⟩
            case measure => simp [intOf]; omega
        · skip
          rcases A with _ | ⟨ab, ao, ap⟩
          · skip
            go_wp2_with (first | (at_builtin; first | (refine wpList_append_sl _ rfl _ _ 22 rfl w.heap.size 5 i0 _ 1 1 Try.underlying22 hi0 hz0 hz1 hz2 rfl (by decide) _ 0 _ (by rfl) (ownE) _ _ _ (0) _ (([]).map (Value.int .u8)) rfl (sl_zero _ _) (ones_u8 _) (by unfold maxLen; omega) (by omega) (by have := hb.size; simp; omega) ?_; intro v1 w1 own1 g1 at1; rw [Nat.zero_add] at own1; obtain ⟨A1, c1, hv1, hc1, hm1⟩ := own_is_slice own1; subst hv1; have N1 : New wr w1 := new_lit g1; have hf1 := fresh_lit at1; have ho1 := ho.new N1; have hz1' : wr.heap.size ≤ w1.heap.size := N1.size) | (refine wpList_append_sl _ rfl _ _ 23 rfl w.heap.size 35 iP _ 3 40 Try.underlying23 hiP hzP hzP1 hzP2 (by kernel_rfl) (by decide) _ m _ (by rfl) (ho1.row.alloc _) _ _ (some ⟨w1.heap.size, 0, none⟩) 1 1 [.int .i64 (0 : Int), .bool false, .slice A1 (0) c1] rfl (Sl.new #[.int .i64 (0 : Int), .bool false, .slice A1 (0) c1] 35 3 1 rfl) (one_piece _ _ _ _ _) (by unfold maxLen; omega) (by omega) (by have := hb.size; simp; omega) ?_; intro v3 w3 own3 g3 at3; obtain ⟨A3, c3, hv3, hc3, hm3⟩ := own_is_slice own3; subst hv3)))
            have hs3 := ho.more1 N1 own1 hf1 (by intro z hz; simp at hz) own3 g3
            have hb3 := below_more1 hb ho N1 g3
            have hfin : (qs ++ [(⟨(0 : Int), false, A1, 0, c1, []⟩ : Pv)]).map Pv.pc = all := by
              rw [← HA.out, pcs_last (by rw [HL.out]; omega)]
              rw [show zs = [] from List.eq_nil_of_length_eq_zero HL.out]; simp [Pv.pc]
            go_roundw
            case rel => first | exact ⟨sz, f', _, m + 1, _, _, by go_num, rfl, by omega, by omega, hs3, hb3, .inr ⟨by omega, Lib.hid hfin⟩⟩ | exact ⟨sz, by omega, f', _, m + 1, _, ⟨rfl, rfl, rfl⟩, by omega, by omega, _, hs3, hb3, .inr ⟨by omega, Lib.hid hfin⟩⟩
            case measure => simp [intOf]; omega
          · skip
            go_wp2_with (first | (at_builtin; first | (refine wpList_append_sl _ rfl _ _ 22 rfl w.heap.size 5 i0 _ 1 1 Try.underlying22 hi0 hz0 hz1 hz2 rfl (by decide) _ 0 _ (by rfl) (ownE) _ _ _ (0) _ (([]).map (Value.int .u8)) rfl (sl_zero _ _) (ones_u8 _) (by unfold maxLen; omega) (by omega) (by have := hb.size; simp; omega) ?_; intro v1 w1 own1 g1 at1; rw [Nat.zero_add] at own1; obtain ⟨A1, c1, hv1, hc1, hm1⟩ := own_is_slice own1; subst hv1; have N1 : New wr w1 := new_lit g1; have hf1 := fresh_lit at1; have ho1 := ho.new N1; have hz1' : wr.heap.size ≤ w1.heap.size := N1.size) | (refine wpList_append_sl _ rfl _ _ 23 rfl w.heap.size 35 iP _ 3 40 Try.underlying23 hiP hzP hzP1 hzP2 (by kernel_rfl) (by decide) _ m _ (by rfl) (ho1.row.alloc _) _ _ (some ⟨w1.heap.size, 0, none⟩) 1 1 [.int .i64 (0 : Int), .bool false, .slice A1 (0) c1] rfl (Sl.new #[.int .i64 (0 : Int), .bool false, .slice A1 (0) c1] 35 3 1 rfl) (one_piece _ _ _ _ _) (by unfold maxLen; omega) (by omega) (by have := hb.size; simp; omega) ?_; intro v3 w3 own3 g3 at3; obtain ⟨A3, c3, hv3, hc3, hm3⟩ := own_is_slice own3; subst hv3)))
            have hs3 := ho.more1 N1 own1 hf1 (by intro z hz; simp at hz) own3 g3
            have hb3 := below_more1 hb ho N1 g3
            have hfin : (qs ++ [(⟨(0 : Int), false, A1, 0, c1, []⟩ : Pv)]).map Pv.pc = all := by
              rw [← HA.out, pcs_last (by rw [HL.out]; omega)]
              rw [show zs = [] from List.eq_nil_of_length_eq_zero HL.out]; simp [Pv.pc]
            go_roundw
            case rel => first | exact ⟨sz, f', _, m + 1, _, _, by go_num, rfl, by omega, by omega, hs3, hb3, .inr ⟨by omega, Lib.hid hfin⟩⟩ | exact ⟨sz, by omega, f', _, m + 1, _, ⟨rfl, rfl, rfl⟩, by omega, by omega, _, hs3, hb3, .inr ⟨by omega, Lib.hid hfin⟩⟩
            case measure => simp [intOf]; omega
      · obtain ⟨b, off, rfl, hlb, hbh, _⟩ := hs.2 (show 0 < n by omega)
        have hca : ¬ c = a := by omega
        have hca0 : 0 < c := by omega
        rcases Nat.lt_trichotomy (a + sz) n with hl | hl | hl
        · have htn : ((a : Int) + (sz : Int)).toNat = a + sz := by omega
          have hdd : decide ((a : Int) + (sz : Int) < (n : Int)) = true := decide_eq_true (by omega)
          have slP := sl_part hsb a sz (by omega)
          go_wp2_with (first | (at_builtin; first | (refine wpList_append_sl _ rfl _ _ 22 rfl w.heap.size 5 i0 _ 1 1 Try.underlying22 hi0 hz0 hz1 hz2 rfl (by decide) _ 0 _ (by rfl) (ownE) _ _ (some ⟨b, off + a, none⟩) (sz) _ (((zs.drop a).take sz).map (Value.int .u8)) rfl (((slP).alloc (by have := hb.size; omega) _)) (ones_u8 _) (by unfold maxLen; omega) (by omega) (by have := hb.size; simp; omega) ?_; intro v1 w1 own1 g1 at1; rw [Nat.zero_add] at own1; obtain ⟨A1, c1, hv1, hc1, hm1⟩ := own_is_slice own1; subst hv1; have N1 : New wr w1 := new_lit g1; have hf1 := fresh_lit at1; have ho1 := ho.new N1; have hz1' : wr.heap.size ≤ w1.heap.size := N1.size) | (refine wpList_append_sl _ rfl _ _ 23 rfl w.heap.size 35 iP _ 3 40 Try.underlying23 hiP hzP hzP1 hzP2 (by kernel_rfl) (by decide) _ m _ (by rfl) (ho1.row.alloc _) _ _ (some ⟨w1.heap.size, 0, none⟩) 1 1 [.int .i64 (a : Int), .bool true, .slice A1 (sz) c1] rfl (Sl.new #[.int .i64 (a : Int), .bool true, .slice A1 (sz) c1] 35 3 1 rfl) (one_piece _ _ _ _ _) (by unfold maxLen; omega) (by omega) (by have := hb.size; simp; omega) ?_; intro v3 w3 own3 g3 at3; obtain ⟨A3, c3, hv3, hc3, hm3⟩ := own_is_slice own3; subst hv3)))
          have hs3 := ho.more1 N1 own1 hf1 (hpart _ _) own3 g3
          have hb3 := below_more1 hb ho N1 g3
          have hfin : (qs ++ [(⟨(a : Int), true, A1, sz, c1, (zs.drop a).take sz⟩ : Pv)]).map Pv.pc ++ pcsFrom zs sz f' (a + sz) = all := by
            rw [← HA.out, pcs_more_ (by rw [HL.out]; omega)]
            simp [Pv.pc]
          go_roundw
          case rel => first | exact ⟨a + sz, f', _, m + 1, _, _, by go_num, rfl, by omega, by omega, hs3, hb3, .inl ⟨by omega, by omega, Lib.hid hfin⟩⟩ | exact ⟨a + sz, by omega, f', _, m + 1, _, ⟨rfl, rfl, rfl⟩, by omega, by omega, _, hs3, hb3, .inl ⟨by omega, by omega, Lib.hid hfin⟩⟩
          case measure => simp [intOf]; omega
        · have htn : ((a : Int) + (sz : Int)).toNat = a + sz := by omega
          have slP := sl_part hsb a sz (by omega)
          subst hl
          go_wp2_with (first | (at_builtin; first | (refine wpList_append_sl _ rfl _ _ 22 rfl w.heap.size 5 i0 _ 1 1 Try.underlying22 hi0 hz0 hz1 hz2 rfl (by decide) _ 0 _ (by rfl) (ownE) _ _ (some ⟨b, off + a, none⟩) (sz) _ (((zs.drop a).take sz).map (Value.int .u8)) rfl (((slP).alloc (by have := hb.size; omega) _)) (ones_u8 _) (by unfold maxLen; omega) (by omega) (by have := hb.size; simp; omega) ?_; intro v1 w1 own1 g1 at1; rw [Nat.zero_add] at own1; obtain ⟨A1, c1, hv1, hc1, hm1⟩ := own_is_slice own1; subst hv1; have N1 : New wr w1 := new_lit g1; have hf1 := fresh_lit at1; have ho1 := ho.new N1; have hz1' : wr.heap.size ≤ w1.heap.size := N1.size) | (refine wpList_append_sl _ rfl _ _ 23 rfl w.heap.size 35 iP _ 3 40 Try.underlying23 hiP hzP hzP1 hzP2 (by kernel_rfl) (by decide) _ m _ (by rfl) (ho1.row.alloc _) _ _ (some ⟨w1.heap.size, 0, none⟩) 1 1 [.int .i64 (a : Int), .bool false, .slice A1 (sz) c1] rfl (Sl.new #[.int .i64 (a : Int), .bool false, .slice A1 (sz) c1] 35 3 1 rfl) (one_piece _ _ _ _ _) (by unfold maxLen; omega) (by omega) (by have := hb.size; simp; omega) ?_; intro v3 w3 own3 g3 at3; obtain ⟨A3, c3, hv3, hc3, hm3⟩ := own_is_slice own3; subst hv3)))
          have hs3 := ho.more1 N1 own1 hf1 (hpart _ _) own3 g3
          have hb3 := below_more1 hb ho N1 g3
          have hfin : (qs ++ [(⟨(a : Int), false, A1, sz, c1, (zs.drop a).take sz⟩ : Pv)]).map Pv.pc = all := by
            rw [← HA.out, pcs_last (by rw [HL.out]; omega)]
            simp [Pv.pc]
          go_roundw
          case rel => first | exact ⟨a + sz, f', _, m + 1, _, _, by go_num, rfl, by omega, by omega, hs3, hb3, .inr ⟨by omega, Lib.hid hfin⟩⟩ | exact ⟨a + sz, by omega, f', _, m + 1, _, ⟨rfl, rfl, rfl⟩, by omega, by omega, _, hs3, hb3, .inr ⟨by omega, Lib.hid hfin⟩⟩
          case measure => simp [intOf]; omega
        · have slP := sl_part hsb a (n - a) (by omega)
          rw [List.take_of_length_le (by rw [List.length_drop, HL.out]; exact Nat.le_refl _)] at slP
          go_wp2_with (first | (at_builtin; first | (refine wpList_append_sl _ rfl _ _ 22 rfl w.heap.size 5 i0 _ 1 1 Try.underlying22 hi0 hz0 hz1 hz2 rfl (by decide) _ 0 _ (by rfl) (ownE) _ _ (some ⟨b, off + a, none⟩) (n - a) _ ((zs.drop a).map (Value.int .u8)) rfl (((slP).alloc (by have := hb.size; omega) _)) (ones_u8 _) (by unfold maxLen; omega) (by omega) (by have := hb.size; simp; omega) ?_; intro v1 w1 own1 g1 at1; rw [Nat.zero_add] at own1; obtain ⟨A1, c1, hv1, hc1, hm1⟩ := own_is_slice own1; subst hv1; have N1 : New wr w1 := new_lit g1; have hf1 := fresh_lit at1; have ho1 := ho.new N1; have hz1' : wr.heap.size ≤ w1.heap.size := N1.size) | (refine wpList_append_sl _ rfl _ _ 23 rfl w.heap.size 35 iP _ 3 40 Try.underlying23 hiP hzP hzP1 hzP2 (by kernel_rfl) (by decide) _ m _ (by rfl) (ho1.row.alloc _) _ _ (some ⟨w1.heap.size, 0, none⟩) 1 1 [.int .i64 (a : Int), .bool false, .slice A1 (n - a) c1] rfl (Sl.new #[.int .i64 (a : Int), .bool false, .slice A1 (n - a) c1] 35 3 1 rfl) (one_piece _ _ _ _ _) (by unfold maxLen; omega) (by omega) (by have := hb.size; simp; omega) ?_; intro v3 w3 own3 g3 at3; obtain ⟨A3, c3, hv3, hc3, hm3⟩ := own_is_slice own3; subst hv3)))
          have hs3 := ho.more1 N1 own1 hf1 (hdrop _) own3 g3
          have hb3 := below_more1 hb ho N1 g3
          have hfin : (qs ++ [(⟨(a : Int), false, A1, n - a, c1, zs.drop a⟩ : Pv)]).map Pv.pc = all := by
            rw [← HA.out, pcs_last (by rw [HL.out]; omega)]
            simp [Pv.pc]; rw [List.take_of_length_le (by rw [List.length_drop, HL.out]; omega)]
          go_roundw
          case rel => first | exact ⟨a + sz, f', _, m + 1, _, _, by go_num, rfl, by omega, by omega, hs3, hb3, .inr ⟨by omega, Lib.hid hfin⟩⟩ | exact ⟨a + sz, by omega, f', _, m + 1, _, ⟨rfl, rfl, rfl⟩, by omega, by omega, _, hs3, hb3, .inr ⟨by omega, Lib.hid hfin⟩⟩
          case measure => simp [intOf]; omega
  · have hsp : splitP zs size = [] := by unfold splitP; rw [if_neg hv]
    rw [hsp]
    rw [HL.out] at hv
    by_cases hm80 : (80 : Int) < (n : Int)
    · go_enter Try.func7, Try.ntmps7
      go_wp2
      go_ret
      exact ⟨_, _, [], rfl, rfl, ⟨World.ownsRow_lit (base := w.heap.size) (e := 35) (size := 3) w #[] 0 (by omega) (by unfold maxLen; omega) (by simp), fun p hp => absurd hp (by simp), fun p hp => absurd hp (by simp), List.Pairwise.nil⟩, (Below.refl w.heap.size w).alloc (Nat.le_refl _) _⟩
    · have hin : inB size 1 40 = false := inB_false (by omega)
      go_enter Try.func7, Try.ntmps7
      go_wp2_with (go_at_call 25; refine (l1In_any _ _ _ _).mono ?_; rw [hin]; rintro e w' ⟨rfl, rfl⟩)
      go_ret
      exact ⟨_, _, [], rfl, rfl, ⟨World.ownsRow_lit (base := w.heap.size) (e := 35) (size := 3) w #[] 0 (by omega) (by unfold maxLen; omega) (by simp), fun p hp => absurd hp (by simp), fun p hp => absurd hp (by simp), List.Pairwise.nil⟩, (Below.refl w.heap.size w).alloc (Nat.le_refl _) _⟩
end Go.Proofs.Ytljbkppeoedcjaa
