/-
  SlotTable of the reference.
-/
import Derived.Test.YtfobcggcilbgbaaSlotW
import Derived.Deep.CutBlock
import Derived.Test.YtfobcggcilbgbaaDraw0
import Derived.StillTailTactics
import Derived.Deep.LoopGhost
namespace Go.Proofs.Ytfobcggcilbgbaa
open Go.RowKit
set_option linter.unusedVariables false

theorem infoSl : (Try.prog.info? 40).map (fun i => (i.zero, i.size, i.bytes)) = some (some (.slice none 0 0), 1, 24) := by kernel_rfl
def slotTV (hs : List H3) : List Int := if upL hs = [] then [] else slotT (upL hs)
theorem fold_step (us : List H3) (T : List Int) {k : Nat} (hk : k < us.length) : (us.take (k + 1)).foldl tkHost T = tkHost ((us.take k).foldl tkHost T) (hAt us k) := by
  rw [List.take_succ_eq_append_getElem hk, List.foldl_append, ← hAt_eq hk]
  rfl
theorem up_ok {hs : List H3} (hv : poolV hs = true) : ∀ x ∈ upL hs, HostOk1 x := fun x hx => by
  have := pool_mem hv x (up_mem hx).1
  unfold HostOk1
  omega

set_option maxRecDepth 100000 in
set_option maxHeartbeats 6400000 in
theorem sSlotT_any (A : Option Addr) (n c : Nat) (hs : List H3) (w : World) {lo hi : Nat} (hS : Sl w lo hi 3 A n (hostsV hs)) (hhi : hi ≤ w.heap.size) (hn : n ≤ 1048576) (hv : poolV hs = true) :
    Calls Try.prog 41 #[.slice A n c] w (RetOwn w 3 1 (slotTV hs).length ((slotTV hs).map (Value.int .i64))) := by
  have HL := Lib.hid hS.hlen
  obtain ⟨i0, hi0, hz0, hz1, hz2⟩ := info_parts infoInt
  obtain ⟨j0, hj0, jz0, jz1, jz2⟩ := info_parts infoSl
  obtain ⟨us, hus⟩ : ∃ us, upL hs = us := ⟨_, rfl⟩
  obtain ⟨m, hml⟩ : ∃ m, us.length = m := ⟨_, rfl⟩
  have hm6 : m ≤ 6 := by rw [← hml, ← hus]; exact Nat.le_trans (upL_len hs) (pool_len hv)
  have hok : ∀ x ∈ us, HostOk1 x := by rw [← hus]; exact up_ok hv
  have hlit : (w.alloc (.cells #[] 3)).ownsRow w.heap.size 3 1 (.slice (some ⟨w.heap.size, 0, none⟩) 0 0) 0 [] := World.ownsRow_lit (base := w.heap.size) (e := 3) (size := 1) w #[] 0 (Nat.le_refl _) (by unfold maxLen; omega) (by simp)
  have hb0 := (Below.refl w.heap.size w).alloc (Nat.le_refl _) (.cells #[] 3)
  have hup : ∀ w0, w0 = w.alloc (.cells #[] 3) → Calls Try.prog 66 #[.slice A n c] w0 (RetOwn w0 39 3 m (hostsV us)) := fun w0 e => by
    subst e
    have := l4Up_any A n c hs (w.alloc (.cells #[] 3)) (hS.alloc hhi _) (Nat.le_trans hhi (by simp)) hn
    rwa [hus, hml] at this
  have hpv : ∀ w1, Below w.heap.size w w1 → Calls Try.prog 35 #[.slice A n c] w1 fun e w' => e = .returned (.bool true) ∧ Below w1.heap.size w1 w' := fun w1 hb1 => by
    have := sPoolValid_any A n c hs w1 (hS.below hb1 hhi) (Nat.le_trans hhi hb1.size) hn
    rwa [hv] at this
  by_cases hm0 : m = 0
  · subst hm0
    have hu0 : us = [] := List.eq_nil_of_length_eq_zero hml
    have HT : RowKit.Hid (slotTV hs = []) := Lib.hid (by unfold slotTV; rw [hus, if_pos hu0])
    rw [HT.out]
    clear hus hml hu0 hok
    go_enter Try.func41, Try.ntmps41
    go_wp2_with (first | (go_at_call 66; refine (hup _ rfl).mono ?_; intro e w1 hr; obtain ⟨A2, c2, rfl, own2, hb2⟩ := hr.form; have hb1 := hb0.trans (hb2.mono (by simp)); have lit1 := own_below hlit hb2; clear own2 hr) | (go_at_call 35; refine (hpv _ hb1).mono ?_; rintro e w2 ⟨rfl, hb3⟩))
    go_ret
    exact RetOwn.mk (own_below lit1 hb3) (hb1.trans (hb3.mono hb1.size))
  · have hune : us ≠ [] := fun e => hm0 (by rw [← hml, e]; rfl)
    have HT : RowKit.Hid (slotTV hs = slotT us) := Lib.hid (by unfold slotTV; rw [hus, if_neg hune])
    have HTL := Lib.hid (slotT_len us)
    have HM := Lib.hid hml
    have HOK := Lib.hid hok
    have HNE := Lib.hid hune
    rw [HT.out, HTL.out]
    have hmd : ((m : Int) == 0) = false := by simp; omega
    have hm1 : 1 ≤ m := by omega
    clear hus hml hm0 hok hune
    have hmk := run_make_row' (P := Try.prog) 40 3 (.int .i64 0) 8 Try.underlying40 infoInt rfl .i64 .i64 m (by omega) (by omega)
    have HMK := Lib.hid hmk
    clear hmk
    go_enter Try.func41, Try.ntmps41
    go_upto_region 5 with (first | (go_at_call 66; refine (hup _ rfl).mono ?_; intro e w1 hr; obtain ⟨A2, c2, rfl, own2, hb2⟩ := hr.form; have hb1 := hb0.trans (hb2.mono (by simp)); have lit1 := own_below hlit hb2) | (go_at_call 35; refine (hpv _ hb1).mono ?_; rintro e w2 ⟨rfl, hb3⟩))
    have lit2 := own_below lit1 hb3
    have hbw2 := hb1.trans (hb3.mono hb1.size)
    have hw2 : w.heap.size < w2.heap.size := (lit2.lt w.heap.size rfl).2
    have hup2 : Sl w2 (w.heap.size + 1) w2.heap.size 3 A2 m (hostsV us) := by
      have := Sl.of_own (own_below own2 hb3)
      rwa [World.size_alloc] at this
    clear hr own2 hlit hb0 hup hpv lit1 hb1 hb2 hb3
    have lito := World.ownsRow_lit (base := w2.heap.size) (e := 40) (size := 1) w2 #[] 0 (Nat.le_refl _) (by unfold maxLen; omega) (by simp)
    have hbo := (Below.refl w2.heap.size w2).alloc (Nat.le_refl _) (.cells #[] 40)
    go_wp2
    generalize w2.alloc (.cells #[] 40) = w3 at lito hbo ⊢
    go_loopw [5, 6] (fun o i wr => ∃ (k : Nat) (v : Value) (ys : List Value), k ≤ m ∧ i = .int .i64 k ∧ o = v ∧ wr.ownsRow w2.heap.size 40 1 v k ys ∧ (∀ j, j < k → ∃ b c, ys[j]? = some (.slice (some ⟨b, 0, none⟩) 31 c) ∧ 31 ≤ c ∧ c ≤ maxLen ∧ w2.heap.size ≤ b ∧ b < wr.heap.size ∧ (∀ g, v.ownBlock = some g → g ≠ b) ∧ Sl wr b (b + 1) 1 (some ⟨b, 0, none⟩) 31 ((slotO (hAt us j).1).map (Value.int .i64))) ∧ Below w2.heap.size w2 wr) (fun _ i _ => m - (intOf i).toNat)
    case atStart => exact ⟨0, _, [], Nat.zero_le _, rfl, rfl, lito, fun j hj => absurd hj (by omega), hbo⟩
    case round =>
      clear lito hbo
      obtain ⟨k, v, ys, hk, rfl, rfl, hown, hord, hb⟩ := hrel
      have HORD := Lib.hid hord
      clear hord
      by_cases hlt : k < m
      · obtain ⟨b, off, rfl, _, _, c0, c1, _⟩ := (hup2.below hb (Nat.le_refl _)).host hlt
        have hx := HOK.out _ (hAt_mem (hs := us) (k := k) (by rw [HM.out]; exact hlt))
        obtain ⟨⟨h0, h1, h2⟩, hh⟩ : ∃ p, hAt us k = p := ⟨_, rfl⟩
        rw [hh] at c0 c1 hx
        have HH := Lib.hid hh
        unfold HostOk1 at hx
        simp only at hx
        clear hh
        have HVB := Lib.hid (fun g (h : u5.ownBlock = some g) => (hown.lt g h).2)
        have hz := hb.size
        go_wp2_with (first | (go_at_call 67; go_loud (refine (sSlotO_any h0 _ hx.1 hx.2.1).mono ?_; intro e w4 hr; obtain ⟨A4, c4, rfl, own4, hb4⟩ := hr.form; obtain ⟨_, cx4, e4, hc31, hcmx⟩ := own_is_slice own4; cases e4; obtain ⟨g4, cy4, e4, _, hg4, hg4'⟩ := own_slice own4 (by omega); cases e4; have hz4 := hb4.size; have hown4 := own_below hown hb4; clear hr)) | (at_builtin; refine wpList_append_sl _ rfl _ _ 76 rfl w2.heap.size 40 j0 _ 1 24 Try.underlying76 hj0 jz0 jz1 jz2 rfl (by decide) _ k _ (by rfl) (hown4.alloc (.cells #[.slice (some ⟨g4, 0, none⟩) 31 c4] 40)) _ _ (some ⟨w4.heap.size, 0, none⟩) 1 1 [.slice (some ⟨g4, 0, none⟩) 31 c4] rfl (Sl.newAt #[.slice (some ⟨g4, 0, none⟩) 31 c4] 40 1 1 rfl rfl) (by intro u hu; simp at hu; subst hu; rfl) (by unfold maxLen; omega) (by omega) (by simp; omega) ?_; intro v' w5 own5 g5 at5))
        have hyl : ys.length = k := by have := hown.1; omega
        have hb5 : Below w2.heap.size w2 w5 := below_append ((hb.trans (hb4.mono hz)).alloc (Nat.le_trans hz hz4) _) (hown4.alloc _) g5
        have sz5 := g5.size
        rw [World.size_alloc] at sz5
        have keep5 : ∀ b o, b < w4.heap.size → (∀ g, u5.ownBlock = some g → g ≠ b) → w5.cell? ⟨b, o, none⟩ = w4.cell? ⟨b, o, none⟩ := fun b o h1 h2 =>
          (World.cell?_of_block (a := ⟨b, o, none⟩) (g5.block b (by rw [World.size_alloc]; omega) (fun e => h2 b e.symm rfl))).trans (World.cell?_alloc_lt w4 _ ⟨b, o, none⟩ h1)
        have hord5 : ∀ j, j < k + 1 → ∃ b c, (ys ++ [.slice (some ⟨g4, 0, none⟩) 31 c4])[j]? = some (.slice (some ⟨b, 0, none⟩) 31 c) ∧ 31 ≤ c ∧ c ≤ maxLen ∧ w2.heap.size ≤ b ∧ b < w5.heap.size ∧ (∀ g, v'.ownBlock = some g → g ≠ b) ∧ Sl w5 b (b + 1) 1 (some ⟨b, 0, none⟩) 31 ((slotO (hAt us j).1).map (Value.int .i64)) := fun j hj => by
          have hat : ∀ b, b < w4.heap.size → (∀ g, u5.ownBlock = some g → g ≠ b) → ∀ g, v'.ownBlock = some g → g ≠ b := fun b h1 h2 g h3 => by
            rcases at5 with h | h
            · exact h2 g (h ▸ h3)
            · rw [h, World.size_alloc] at h3; injection h3 with h3; omega
          rcases Nat.lt_or_ge j k with h | h
          · obtain ⟨b, c, q1, q2, q2', q3, q4, q5, q6⟩ := HORD.out j h
            have h4 : b < w4.heap.size := by omega
            refine ⟨b, c, by rw [List.getElem?_append_left (by omega)]; exact q1, q2, q2', q3, by omega, hat b h4 q5, ?_⟩
            exact (q6.below hb4 (by omega)).keep fun b' o h1 h2 => by
              obtain rfl : b' = b := by omega
              exact keep5 b' o h4 q5
          · obtain rfl : j = k := by omega
            have hne4 : ∀ g, u5.ownBlock = some g → g ≠ g4 := fun g h e => by have := HVB.out g h; omega
            refine ⟨g4, c4, by rw [List.getElem?_append_right (by omega), hyl, Nat.sub_self]; rfl, hc31, hcmx, by omega, by omega, hat g4 hg4' hne4, ?_⟩
            rw [HH.out]
            have hs4 := Sl.of_own own4
            refine ⟨hs4.1, fun _ => ⟨g4, 0, rfl, Nat.le_refl _, by omega, fun i u hu => ?_⟩⟩
            obtain ⟨_, _, e, _, _, hcell⟩ := hs4.2 (by omega)
            cases e
            exact (keep5 g4 (0 + i) hg4' hne4).trans (hcell i u hu)
        go_roundw
        case rel => exact ⟨k + 1, v', _, by omega, by go_num, rfl, own5, hord5, hb5⟩
        case measure => simp [intOf]; omega
      · obtain rfl : m = k := by omega
        have hbw := hbw2.trans (hb.mono hbw2.size)
        have hz := hb.size
        have hpos : 0 < m := hm1
        obtain ⟨gr, rc, e5, hrc, hgr, hgr'⟩ := own_slice hown hpos
        subst e5
        have hordW : OrdOk wr gr w.heap.size wr.heap.size us m := fun j hj => by
          obtain ⟨b, c, q1, q2, q2', q3, q4, q5, q6⟩ := HORD.out j hj
          refine ⟨b, c, by rw [hown.cellAt j (by omega)]; exact q1, q2, q2', by omega, q4, fun i hi => ?_⟩
          obtain ⟨_, _, e, _, _, hcell⟩ := q6.2 (by omega)
          cases e
          have := hcell i (.int .i64 (slotK (hAt us j).1 i)) (by rw [List.getElem?_map, slotO_at _ hi]; rfl)
          rwa [Nat.zero_add] at this
        have hupW : Sl wr (w.heap.size + 1) wr.heap.size 3 A2 m (hostsV us) := (hup2.below hb (Nat.le_refl _)).more (Nat.le_refl _) hz
        have litW : wr.ownsRow w.heap.size 3 1 (.slice (some ⟨w.heap.size, 0, none⟩) 0 0) 0 [] := lit2.kept (only_of_below hb none) (.inr (by simp [Value.ownBlock]))
        have hgrW : w.heap.size < gr := by omega
        clear hown HORD hup2 lit2 hbw2 hb
        obtain ⟨w6, rfl⟩ : ∃ w6 : World, w6 = wr := ⟨_, rfl⟩
        go_wp2
        go_loopw [3, 7] (fun o i wr => ∃ (k : Nat) (v : Value), k ≤ 31 ∧ i = .int .i64 k ∧ o = v ∧ wr.ownsRow w.heap.size 3 1 v k ((List.replicate k (-1)).map (Value.int .i64)) ∧ (∀ g, v.ownBlock = some g → g = w.heap.size ∨ w6.heap.size ≤ g) ∧ w6.grownBy wr (some w.heap.size)) (fun _ i _ => 31 - (intOf i).toNat)
        case atStart => exact ⟨0, _, by omega, rfl, rfl, litW, fun g h => by left; simp [Value.ownBlock] at h; exact h.symm, World.grownBy.refl _ _⟩
        case round =>
          clear litW
          obtain ⟨k, v, hk, rfl, rfl, hown, hvo, hg⟩ := hrel
          have hzg := hg.size
          have hzw := hbw.size
          by_cases hlt : k < 31
          · go_wp2_with (at_builtin; refine wpList_append_sl _ rfl _ _ 40 rfl w.heap.size 3 i0 _ 1 8 Try.underlying40 hi0 hz0 hz1 hz2 rfl (by decide) _ k _ (by rfl) (hown.alloc (.cells #[.int .i64 (-1)] 3)) _ _ (some ⟨wr.heap.size, 0, none⟩) 1 1 [.int .i64 (-1)] rfl (Sl.newAt #[.int .i64 (-1)] 3 1 1 rfl rfl) (by intro u hu; simp at hu; subst hu; rfl) (by unfold maxLen; omega) (by omega) (by simp; omega) ?_; intro v' w5 own5 g5 at5)
            have hg5 := grown_step (grown_step hg (World.grownBy_alloc wr (.cells #[.int .i64 (-1)] 3) none) (fun g h => by cases h)) g5 hvo
            have hvo5 : ∀ g, v'.ownBlock = some g → g = w.heap.size ∨ w6.heap.size ≤ g := fun g h => by
              rcases at5 with h' | h'
              · exact hvo g (h' ▸ h)
              · rw [h', World.size_alloc] at h; injection h with h; right; omega
            go_roundw
            case rel => exact ⟨k + 1, v', by omega, by go_num, rfl, by rw [List.replicate_succ', List.map_append]; exact own5, hvo5, hg5⟩
            case measure => simp [intOf]; omega
          · obtain rfl : k = 31 := by omega
            obtain ⟨go, co, e6, hco, _, hgolt⟩ := own_slice hown (by omega)
            subst e6
            have hgo1 := hvo go rfl
            have hst : SSt w.heap.size w.heap.size w6.heap.size w go co gr rc wr.heap.size A2 us m T0 (List.replicate m 0) (wr.alloc (.cells (madeCells #[.int .i64 0] m) 3)) := {
              tab := hown.alloc _
              plc := by
                have := own_base (own_made wr (.int .i64 0) 3 m (by unfold maxLen; omega)) (show w.heap.size ≤ wr.heap.size by omega)
                have e : natV (List.replicate m 0) = List.replicate m (.int .i64 0) := by simp [natV]
                rw [e]
                exact this
              hst := (hupW.grown hg (Nat.le_refl _) (fun g h => by injection h with h; right; omega)).alloc hzg _
              ord := (hordW.keep ⟨hgrW, hgr'⟩ (fun b o h1 h2 => World.cell?_of_block (a := ⟨b, o, none⟩) (hg.block b h2 (fun e => by injection e with e; omega)))).keep ⟨hgrW, hgr'⟩ (fun b o h1 h2 => World.cell?_alloc_lt wr _ ⟨b, o, none⟩ (show b < wr.heap.size by omega))
              gr1 := ⟨hgrW, hgr'⟩
              go1 := by omega
              gp1 := hzg
              ne := by omega
              bel := (hbw.grown hg hbw.size (fun k hk => by injection hk with hk; omega)).alloc (by omega) _ }
            have hpl : PlOk us T0 (List.replicate m 0) := by rw [← HM.out]; exact PlOk.zero us T0
            have hmk := HMK.out
            clear hown hordW hupW hg hbw hvo
            go_wp2
            clear hmk
            generalize wr.alloc (.cells (madeCells #[.int .i64 0] m) 3) = w8 at hst ⊢
            obtain ⟨gp, hgp⟩ : ∃ gp : Nat, gp = wr.heap.size := ⟨_, rfl⟩
            rw [← hgp] at hst ⊢
            clear hgp
            have HR := Lib.hid (fun r (h : freeN (rounds us r T0) = 0) => slotT_is (us := us) HOK.out HNE.out h)
            have HRL := Lib.hid (fun r => rounds_ok us r)
            have HRLT := Lib.hid (fun r (h : 0 < freeN (rounds us r T0)) => round1_lt (us := us) (rounds_ok us r) HOK.out HNE.out h)
            obtain ⟨wo, rfl⟩ : ∃ wo : World, wo = wr := ⟨_, rfl⟩
            go_loopw [9] (fun lf wr => ∃ (r : Nat) (P : List Nat), lf = .int .i64 (freeN (rounds us r T0) : Nat) ∧ PlOk us (rounds us r T0) P ∧ SSt w.heap.size w.heap.size w6.heap.size w go co gr rc gp A2 us m (rounds us r T0) P wr) (fun lf _ => (intOf lf).toNat)
            case atStart => exact ⟨0, _, by rw [show freeN (rounds us 0 T0) = 31 from freeN_T0]; rfl, hpl, hst⟩
            case round =>
              clear hst hpl
              obtain ⟨r, P, rfl, hpl, hst⟩ := hrel
              by_cases hf : 0 < freeN (rounds us r T0)
              · have HLT := Lib.hid (HRLT.out r hf)
                have hrt := HRL.out r
                obtain ⟨T, hT⟩ : ∃ T, rounds us r T0 = T := ⟨_, rfl⟩
                have HRN : RowKit.Hid (rounds us (r + 1) T0 = round1 us T) := Lib.hid (by rw [rounds, hT])
                rw [hT] at hf hpl hst HLT hrt ⊢
                clear hT
                have hTok := Lib.hid hrt
                clear hrt
                have hfi : (0 : Int) < (freeN T : Nat) := by omega
                have hf31 : freeN T ≤ 31 := by have := List.countP_le_length (p := fun z : Int => decide (z < 0)) (l := T); have h2 : T.length = 31 := hTok.out; unfold freeN; omega
                go_wp2
                clear hfi
                obtain ⟨wo2, rfl⟩ : ∃ wo2 : World, wo2 = wr := ⟨_, rfl⟩
                go_loopw [9, 10] (fun lf i wr => ∃ (k : Nat) (P : List Nat), k ≤ m ∧ i = .int .i64 k ∧ lf = .int .i64 (freeN ((us.take k).foldl tkHost T) : Nat) ∧ PlOk us ((us.take k).foldl tkHost T) P ∧ SSt w.heap.size w.heap.size w6.heap.size w go co gr rc gp A2 us m ((us.take k).foldl tkHost T) P wr) (fun _ i _ => m - (intOf i).toNat)
                case atStart => exact ⟨0, P, Nat.zero_le _, rfl, rfl, hpl, hst⟩
                case round =>
                  clear hst hpl
                  obtain ⟨k, P, hk, rfl, rfl, hpl, hst⟩ := hrel
                  by_cases hlt : k < m
                  · have hFS := Lib.hid (fold_step us T (k := k) (by rw [HM.out]; exact hlt))
                    obtain ⟨Tk, hTk⟩ : ∃ Tk, (us.take k).foldl tkHost T = Tk := ⟨_, rfl⟩
                    rw [hTk] at hpl hst hFS ⊢
                    clear hTk
                    have hx := HOK.out _ (hAt_mem (hs := us) (k := k) (by rw [HM.out]; exact hlt))
                    have hmx := host_mix hx
                    obtain ⟨⟨h0, h1, h2⟩, hh⟩ : ∃ p, hAt us k = p := ⟨_, rfl⟩
                    rw [hh] at hx hFS hmx
                    have HH := Lib.hid hh
                    unfold HostOk1 at hx
                    simp only at hx hmx
                    clear hh
                    obtain ⟨q, rfl⟩ : ∃ q : Nat, h1 = (q : Int) := ⟨h1.toNat, by omega⟩
                    have HTK : RowKit.Hid ((us.take (k + 1)).foldl tkHost T = takeN h0 q Tk) := Lib.hid (by rw [hFS.out]; unfold tkHost; simp only [Int.toNat_natCast])
                    have HREST := Lib.hid (fun s (hs : s ≤ q) => takeN_rest (n := h0) (T := Tk) hs)
                    have hq5 : q ≤ 5 := by omega
                    go_wp2
                    obtain ⟨wo3, rfl⟩ : ∃ wo3 : World, wo3 = wr := ⟨_, rfl⟩
                    go_loopw [9, 11] (fun lf t wr => ∃ (s : Nat) (P : List Nat), s ≤ q ∧ t = .int .i64 s ∧ lf = .int .i64 (freeN (takeN h0 s Tk) : Nat) ∧ PlOk us (takeN h0 s Tk) P ∧ SSt w.heap.size w.heap.size w6.heap.size w go co gr rc gp A2 us m (takeN h0 s Tk) P wr) (fun _ t _ => q - (intOf t).toNat)
                    case atStart => exact ⟨0, P, Nat.zero_le _, rfl, rfl, hpl, hst⟩
                    case round =>
                      clear hst hpl
                      obtain ⟨s, P, hs', rfl, rfl, hpl, hst⟩ := hrel
                      obtain ⟨Ts, hTs⟩ : ∃ Ts, takeN h0 s Tk = Ts := ⟨_, rfl⟩
                      have HTS : RowKit.Hid (takeN h0 (s + 1) Tk = take1 h0 Ts) := Lib.hid (by rw [takeN, hTs])
                      have HTS0 := Lib.hid hTs
                      rw [hTs] at hpl hst ⊢
                      clear hTs
                      obtain ⟨bu, ou, eA, _, _, c0, c1, c2⟩ := hst.hst.host hlt
                      cases eA
                      rw [HH.out] at c0 c1 c2
                      simp only at c0 c1 c2
                      have hki : (0 : Int) ≤ (k : Int) := by omega
                      have hki2 : (k : Int) < (m : Int) := by omega
                      by_cases hsq : s < q
                      · by_cases hfs : 0 < freeN Ts
                        · have hfsi : (0 : Int) < (freeN Ts : Nat) := by omega
                          have hsqi : (s : Int) < (q : Int) := by omega
                          go_wp2
                          clear c0 c1 c2
                          obtain ⟨wo4, rfl⟩ : ∃ wo4 : World, wo4 = wr := ⟨_, rfl⟩
                          have hjl : k < us.length := by rw [HM.out]; exact hlt
                          go_loopg [] 31 (fun gk wr => ∃ (P : List Nat) (p : Nat), P[k]?.getD 0 = p ∧ 31 ≤ gk + p ∧ PlOk us Ts P ∧ SSt w.heap.size w.heap.size w6.heap.size w go co gr rc gp (some ⟨bu, ou, none⟩) us m Ts P wr)
                          case atStart => exact ⟨P, _, rfl, by omega, hpl, hst⟩
                          case round =>
                            clear hst hpl
                            obtain ⟨P, p, hp, hgk, hpl, hst⟩ := hrel
                            have hp31 : p < 31 := place_lt hmx.1 hmx.2 hst.tabOk hfs (fun j h1 _ => by have := (hpl.2 k hjl).2 j (by omega); rwa [HH.out] at this)
                            have HP := Lib.hid hp
                            obtain ⟨σ, hσ⟩ : ∃ σ : Nat, slotK h0 p = (σ : Int) := ⟨(slotK h0 p).toNat, by have := slotK_bd h0 p; omega⟩
                            have hσ31 : σ < 31 := by have := slotK_bd h0 p; omega
                            obtain ⟨z, hz⟩ : ∃ z, sltAt Ts (σ : Int) = z := ⟨_, rfl⟩
                            obtain ⟨b, cb, d0, hcb, _, _, _, d5⟩ := hst.ord k hlt
                            have d1 := hst.plcAt hlt
                            have d2 := d5 p hp31
                            have d3 := hst.tabAt hσ31
                            rw [hp] at d1
                            rw [HH.out] at d2
                            simp only at d2
                            rw [hσ] at d2
                            rw [hz] at d3
                            have HSG := Lib.hid hσ
                            have HZ := Lib.hid hz
                            clear d5 hσ hz hp
                            have hpi : (0 : Int) ≤ (p : Int) := by omega
                            have hpi2 : (p : Int) < 31 := by omega
                            have hsi : (0 : Int) ≤ (σ : Int) := by omega
                            have hsi2 : (σ : Int) < 31 := by omega
                            have HN0 : RowKit.Hid (0 ≤ h0) := Lib.hid hx.1
                            by_cases hz0 : 0 ≤ z
                            · have t1 : decide (0 ≤ z) = true := by simpa using hz0
                              have htk : freeB Ts (slotK (hAt us k).1 p) = false := by rw [HH.out]; simp only; rw [HSG.out]; unfold freeB; rw [HZ.out]; simp; omega
                              have hst' := fun nq => (hst.drewN nq).setPlc k (p + 1)
                              simp only [show ((p + 1 : Nat) : Int) = (p : Int) + 1 from by omega] at hst'
                              have HST := Lib.hid hst'
                              have HNX := Lib.hid (hpl.next hjl HP.out hp31 htk)
                              have hfz := hst.plc.frozenAt
                              clear hst' htk
                              go_wp2
                              go_quiet (fail)
                              go_wp2
                              go_roundg (gk - 1)
                              case measure => omega
                              case rel => exact ⟨P.set k (p + 1), p + 1, by simp [show k < P.length by rw [hpl.1]; exact hjl], by omega, HNX.out, HST.out _⟩
                            · have t1 : decide (0 ≤ z) = false := by simpa using hz0
                              have hfr : freeB Ts (slotK h0 p) = true := by rw [HSG.out]; unfold freeB; rw [HZ.out]; simp; omega
                              have hat := take1_at hst.tabOk HN0.out hp31 (fun j hj => by have := (hpl.2 k hjl).2 j (by rw [HP.out]; exact hj); rwa [HH.out] at this) hfr
                              rw [HSG.out, Int.toNat_natCast] at hat
                              have HAT := Lib.hid hat
                              clear hat hfr
                              go_wp2
                              go_quiet (fail)
                              go_wp2
                              refine wp_genS (fun wq => SSt w.heap.size w.heap.size w6.heap.size w go co gr rc gp (some ⟨bu, ou, none⟩) us m Ts P wq) (hst.drewN _) ?_
                              clear d0 d1 d2 d3 hst hcb
                              intro wq hst
                              obtain ⟨b, cb, d0, hcb, _, _, _, d5⟩ := hst.ord k hlt
                              have d1 := hst.plcAt hlt
                              have d2 := d5 p hp31
                              rw [HP.out] at d1
                              rw [HH.out] at d2
                              simp only at d2
                              rw [HSG.out] at d2
                              obtain ⟨_, _, eA, _, _, c0, c1, c2⟩ := hst.hst.host hlt
                              cases eA
                              rw [HH.out] at c0
                              simp only at c0
                              clear d5 c1 c2
                              refine wp_region_still_tail 17 (by kernel_rfl) (by kernel_rfl) ?_
                              simp only [List.take_succ_cons, List.take_zero, List.drop_succ_cons, List.drop_zero]
                              repeat still_step
                              refine wpStill_nil ?_
                              change wpList _ _ _ _ _ wq.drew
                              have hfz := hst.tab.frozenAt
                              have hcz := hst.tabAt hσ31
                              have hst' := hst.drew.setTab σ h0
                              have HST := Lib.hid hst'
                              have HPL := Lib.hid (hpl.set σ HN0.out)
                              clear hst'
                              clear d0 d1 d2 c0
                              have hln : (0 : Int) ≤ (freeN Ts : Nat) - 1 := by omega
                              have hlu := freeN_le hst.tabOk
                              go_wp2
                              go_roundw
                              case rel =>
                                repeat apply Exists.intro
                                refine ⟨⟨s + 1, P, by omega, ?_, ?_, ?_, ?_⟩, rfl⟩
                                · go_num
                                · rw [HTS.out, show ((freeN (take1 h0 Ts) : Nat) : Int) = (freeN Ts : Nat) - 1 from by have := HAT.out.2; omega]
                                · rw [HTS.out, HAT.out.1]; exact HPL.out
                                · rw [HTS.out, HAT.out.1]; exact HST.out
                              case measure => simp [intOf]; omega
                        · have hf0 : freeN Ts = 0 := by omega
                          have HTQ : RowKit.Hid (takeN h0 q Tk = Ts) := Lib.hid (by rw [HREST.out s hs' (by rw [HTS0.out]; exact hf0), HTS0.out])
                          have hfsi : ¬ (0 : Int) < (freeN Ts : Nat) := by omega
                          have hsqi : (s : Int) < (q : Int) := by omega
                          go_wp2
                          go_roundw
                          case rel => exact ⟨k + 1, P, by omega, by go_num, by rw [HTK.out, HTQ.out], by rw [HTK.out, HTQ.out]; exact hpl, by rw [HTK.out, HTQ.out]; exact hst⟩
                          case measure => simp [intOf]; omega
                      · obtain rfl : s = q := by omega
                        go_wp2
                        go_roundw
                        case rel => exact ⟨k + 1, P, by omega, by go_num, by rw [HTK.out, HTS0.out], by rw [HTK.out, HTS0.out]; exact hpl, by rw [HTK.out, HTS0.out]; exact hst⟩
                        case measure => simp [intOf]; omega
                  · obtain rfl : m = k := by omega
                    have hE : us.take m = us := by rw [← HM.out, List.take_length]
                    rw [hE] at hpl hst ⊢
                    clear hE
                    go_wp2
                    go_roundw
                    case rel => exact ⟨r + 1, P, by rw [HRN.out]; rfl, by rw [HRN.out]; exact hpl, by rw [HRN.out]; exact hst⟩
                    case measure => have := HLT.out; simp [intOf]; exact this
              · have hf0 : freeN (rounds us r T0) = 0 := by omega
                have HE := Lib.hid (HR.out r hf0)
                rw [hf0] at *
                go_wp2
                go_ret
                rw [← HE.out]
                exact RetOwn.mk hst.tab hst.bel
end Go.Proofs.Ytfobcggcilbgbaa
