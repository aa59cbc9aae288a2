/-
  MovedKeys of both packages.
-/
import Derived.Test.YtfobcggcilbgbaaHostAt
namespace Go.Proofs.Ytfobcggcilbgbaa
open Go.RowKit
set_option linter.unusedVariables false

def movedF (way : Int) (bs as_ : List H3) (x : Int) : Bool := hostBy way bs x != hostBy way as_ x
def movedOk (way : Int) (bs as_ : List H3) (ks : List Int) : Bool := poolV bs && poolV as_ && fitK way ks
def movedL (way : Int) (bs as_ : List H3) (ks : List Int) : List Int := if movedOk way bs as_ ks = true then ks.filter (movedF way bs as_) else []
theorem movedL_len (way : Int) (bs as_ : List H3) (ks : List Int) : (movedL way bs as_ ks).length ≤ ks.length := by
  unfold movedL
  split
  · exact List.length_filter_le _ _
  · simp
theorem filt_yes {f : Int → Bool} {ks : List Int} {k : Nat} {x : Int} (hk : k < ks.length) (hx : ks[k]?.getD 0 = x) (h : f x = true) : (ks.take (k + 1)).filter f = (ks.take k).filter f ++ [x] := by
  rw [take_succ_getD ks k hk, hx, List.filter_append]
  simp [h]
theorem filt_no {f : Int → Bool} {ks : List Int} {k : Nat} {x : Int} (hk : k < ks.length) (hx : ks[k]?.getD 0 = x) (h : f x = false) : (ks.take (k + 1)).filter f = (ks.take k).filter f := by
  rw [take_succ_getD ks k hk, hx, List.filter_append]
  simp [h]
theorem filt_len (f : Int → Bool) (ks : List Int) (k : Nat) : ((ks.take k).filter f).length ≤ k := Nat.le_trans (List.length_filter_le _ _) (List.length_take_le _ _)
theorem fit_facts {way : Int} {ks : List Int} (h : fitK way ks = true) : ks.length ≤ 60 ∧ inB way 1 4 = true ∧ ∀ j, j < ks.length → keyV (ks[j]?.getD 0) = true := by
  unfold fitK at h
  simp only [Bool.and_eq_true, decide_eq_true_eq] at h
  refine ⟨by omega, h.2, fun j hj => ?_⟩
  rw [List.getElem?_eq_getElem hj]
  exact (List.all_eq_true.1 h.1.1) _ (List.getElem_mem hj)
theorem GX.below {W w : World} (h : GX W 0 w) : Below W.heap.size W w := New.below h (Below.refl _ _) (Nat.le_refl _)

set_option maxRecDepth 100000 in
set_option maxHeartbeats 3200000 in
theorem iMoved_any (way : Int) (B1 : Option Addr) (n1 c1 : Nat) (bs : List H3) (B2 : Option Addr) (n2 c2 : Nat) (as_ : List H3) (A : Option Addr) (n3 c3 : Nat) (ks : List Int) (w : World) {lo1 hi1 lo2 hi2 lo3 hi3 : Nat}
    (hS1 : Sl w lo1 hi1 3 B1 n1 (hostsV bs)) (hS2 : Sl w lo2 hi2 3 B2 n2 (hostsV as_)) (hS3 : Sl w lo3 hi3 1 A n3 (ks.map (Value.int .i64))) (hh1 : hi1 ≤ w.heap.size) (hh2 : hi2 ≤ w.heap.size) (hh3 : hi3 ≤ w.heap.size) (hn1 : n1 ≤ 1048576) (hn2 : n2 ≤ 1048576) (hn3 : n3 ≤ 1048577) :
    Calls Try.prog 23 #[.int .i64 way, .slice B1 n1 c1, .slice B2 n2 c2, .slice A n3 c3] w (RetOwn w 3 1 (movedL way bs as_ ks).length ((movedL way bs as_ ks).map (Value.int .i64))) := by
  have HL := Lib.hid hS3.len
  obtain ⟨i0, hi0, hz0, hz1, hz2⟩ := info_parts infoInt
  by_cases hv1 : poolV bs = true
  · by_cases hv2 : poolV as_ = true
    · by_cases hf : fitK way ks = true
      · have hff := fit_facts hf
        rw [HL.out] at hff
        obtain ⟨h60, hway, hkey⟩ := hff
        have HM : RowKit.Hid (movedL way bs as_ ks = ks.filter (movedF way bs as_)) := Lib.hid (by unfold movedL movedOk; rw [hv1, hv2, hf]; rfl)
        rw [HM.out]
        have HK := Lib.hid hkey
        clear hkey
        go_enter Try.func23, Try.ntmps23
        go_wp2_with fail
        refine (iPoolValid_any _ _ _ bs _ hS1 hh1 hn1).mono ?_
        rw [hv1]
        rintro e w1 ⟨rfl, hb1⟩
        go_wp2_with fail
        refine (iPoolValid_any _ _ _ as_ _ (hS2.below hb1 hh2) (Nat.le_trans hh2 hb1.size) hn2).mono ?_
        rw [hv2]
        rintro e w2 ⟨rfl, hb2⟩
        have hbb := hb1.trans (hb2.mono hb1.size)
        go_wp2_with fail
        refine (keysFit_any _ _ _ _ ks _ (hS3.below hbb hh3) (by omega)).mono ?_
        rw [hf]
        rintro e w3 ⟨rfl, rfl⟩
        go_upto_region 3 with fail
        go_wp2
        clear hb1 hb2
        go_loopw [9, 28] (fun o i wr => ∃ (k : Nat), k ≤ n3 ∧ i = .int .i64 k ∧ wr.ownsRow w2.heap.size 3 1 o ((ks.take k).filter (movedF way bs as_)).length (((ks.take k).filter (movedF way bs as_)).map (Value.int .i64)) ∧ Below w2.heap.size w2 wr) (fun _ i _ => n3 - (intOf i).toNat)
        case atStart => exact ⟨0, Nat.zero_le _, rfl, World.ownsRow_nil _ _ _ _, Below.refl _ _⟩
        case round =>
          obtain ⟨k, hk, rfl, hown, hb⟩ := hrel
          have hz := hb.size
          have hd := hbb.trans (hb.mono hbb.size)
          by_cases hlt : k < n3
          · obtain ⟨b, off, rfl, _, _, c0⟩ := (hS3.below hd hh3).num hlt
            have hlk : k < ks.length := by rw [HL.out]; exact hlt
            have hfl := filt_len (movedF way bs as_) ks k
            obtain ⟨x, hx⟩ : ∃ x, ks[k]?.getD 0 = x := ⟨_, rfl⟩
            rw [hx] at c0
            have HX := Lib.hid hx
            clear hx
            obtain ⟨r1, hr1⟩ : ∃ r, hostBy way bs x = r := ⟨_, rfl⟩
            obtain ⟨r2, hr2⟩ : ∃ r, hostBy way as_ x = r := ⟨_, rfl⟩
            have HR1 := Lib.hid hr1
            have HR2 := Lib.hid hr2
            have HF : RowKit.Hid (movedF way bs as_ x = (r1 != r2)) := Lib.hid (by unfold movedF; rw [hr1, hr2])
            clear hr1 hr2
            by_cases hne : r1 = r2
            · have hb0 : (r1 != r2) = false := by simpa using hne
              have HE := Lib.hid (filt_no (f := movedF way bs as_) hlk HX.out (by rw [HF.out]; exact hb0))
              clear hne
              go_wp2_with fail
              refine (iHostBy_any _ _ _ _ _ bs _ (hS1.below hd hh1) (Nat.le_trans hh1 hd.size) hn1).mono ?_
              rw [HR1.out]
              rintro e w4 ⟨rfl, hb4⟩
              have hd4 := hd.trans (hb4.mono hd.size)
              go_wp2_with fail
              refine (iHostBy_any _ _ _ _ _ as_ _ (hS2.below hd4 hh2) (Nat.le_trans hh2 hd4.size) hn2).mono ?_
              rw [HR2.out]
              rintro e w5 ⟨rfl, hb5⟩
              go_wp2
              go_roundw
              case rel => exact ⟨k + 1, by omega, by go_num, by rw [HE.out]; exact own_below (own_below hown hb4) hb5, (hb.trans (hb4.mono hz)).trans (hb5.mono (Nat.le_trans hz hb4.size))⟩
              case measure => simp [intOf]; omega
            · have hb0 : (r1 != r2) = true := by simpa using hne
              have HE := Lib.hid (filt_yes (f := movedF way bs as_) hlk HX.out (by rw [HF.out]; exact hb0))
              clear hne
              go_wp2_with fail
              refine (iHostBy_any _ _ _ _ _ bs _ (hS1.below hd hh1) (Nat.le_trans hh1 hd.size) hn1).mono ?_
              rw [HR1.out]
              rintro e w4 ⟨rfl, hb4⟩
              have hd4 := hd.trans (hb4.mono hd.size)
              go_wp2_with fail
              refine (iHostBy_any _ _ _ _ _ as_ _ (hS2.below hd4 hh2) (Nat.le_trans hh2 hd4.size) hn2).mono ?_
              rw [HR2.out]
              rintro e w5 ⟨rfl, hb5⟩
              have hown5 := own_below (own_below hown hb4) hb5
              have hbx := (hb.trans (hb4.mono hz)).trans (hb5.mono (Nat.le_trans hz hb4.size))
              go_wp2_with (at_builtin; (refine wpList_app1 w5 w2 #[.int .i64 x] rfl _ _ 40 3 rfl i0 _ 1 8 Try.underlying40 hi0 hz0 hz1 hz2 rfl (by decide) _ _ _ (by rfl) hown5 hbx w5.heap.size 1 1 rfl rfl rfl (by intro u hu; simp at hu; subst hu; rfl) (by unfold maxLen; omega) (by omega) ?_; intro v' w6 hown6 hb6))
              go_roundw
              case rel => exact ⟨k + 1, by omega, by go_num, by rw [HE.out, List.map_append, List.length_append]; exact hown6, hb6⟩
              case measure => simp [intOf]; omega
          · obtain rfl : n3 = k := by omega
            have hE : ks.take n3 = ks := by rw [← HL.out, List.take_length]
            rw [hE] at hown
            clear hE
            go_wp2
            go_ret
            exact RetOwn.older hown hb hbb
      · have hf' := Bool.eq_false_iff.2 hf
        have HM : RowKit.Hid (movedL way bs as_ ks = []) := Lib.hid (by unfold movedL movedOk; rw [hf']; simp)
        rw [HM.out]
        clear hf
        go_enter Try.func23, Try.ntmps23
        go_wp2_with fail
        refine (iPoolValid_any _ _ _ bs _ hS1 hh1 hn1).mono ?_
        rw [hv1]
        rintro e w1 ⟨rfl, hb1⟩
        go_wp2_with fail
        refine (iPoolValid_any _ _ _ as_ _ (hS2.below hb1 hh2) (Nat.le_trans hh2 hb1.size) hn2).mono ?_
        rw [hv2]
        rintro e w2 ⟨rfl, hb2⟩
        have hbb := hb1.trans (hb2.mono hb1.size)
        go_wp2_with fail
        refine (keysFit_any _ _ _ _ ks _ (hS3.below hbb hh3) (by omega)).mono ?_
        rw [hf']
        rintro e w3 ⟨rfl, rfl⟩
        go_wp2
        go_ret
        exact RetOwn.mk (World.ownsRow_nil _ _ _ _) hbb
    · have hv2' := Bool.eq_false_iff.2 hv2
      have HM : RowKit.Hid (movedL way bs as_ ks = []) := Lib.hid (by unfold movedL movedOk; rw [hv2']; simp)
      rw [HM.out]
      clear hv2
      go_enter Try.func23, Try.ntmps23
      go_wp2_with fail
      refine (iPoolValid_any _ _ _ bs _ hS1 hh1 hn1).mono ?_
      rw [hv1]
      rintro e w1 ⟨rfl, hb1⟩
      go_wp2_with fail
      refine (iPoolValid_any _ _ _ as_ _ (hS2.below hb1 hh2) (Nat.le_trans hh2 hb1.size) hn2).mono ?_
      rw [hv2']
      rintro e w2 ⟨rfl, hb2⟩
      have hbb := hb1.trans (hb2.mono hb1.size)
      go_wp2
      go_ret
      exact RetOwn.mk (World.ownsRow_nil _ _ _ _) hbb
  · have hv1' := Bool.eq_false_iff.2 hv1
    have HM : RowKit.Hid (movedL way bs as_ ks = []) := Lib.hid (by unfold movedL movedOk; rw [hv1']; simp)
    rw [HM.out]
    clear hv1
    go_enter Try.func23, Try.ntmps23
    go_wp2_with (go_at_call 19; refine (iPoolValid_any _ _ _ bs _ hS1 hh1 hn1).mono ?_; rw [hv1']; rintro e w1 ⟨rfl, hb1⟩)
    go_ret
    exact RetOwn.mk (World.ownsRow_nil _ _ _ _) hb1

set_option maxRecDepth 100000 in
set_option maxHeartbeats 3200000 in
theorem sMoved_any (way : Int) (B1 : Option Addr) (n1 c1 : Nat) (bs : List H3) (B2 : Option Addr) (n2 c2 : Nat) (as_ : List H3) (A : Option Addr) (n3 c3 : Nat) (ks : List Int) (w : World) {lo1 hi1 lo2 hi2 lo3 hi3 : Nat}
    (hS1 : Sl w lo1 hi1 3 B1 n1 (hostsV bs)) (hS2 : Sl w lo2 hi2 3 B2 n2 (hostsV as_)) (hS3 : Sl w lo3 hi3 1 A n3 (ks.map (Value.int .i64))) (hh1 : hi1 ≤ w.heap.size) (hh2 : hi2 ≤ w.heap.size) (hh3 : hi3 ≤ w.heap.size) (hn1 : n1 ≤ 1048576) (hn2 : n2 ≤ 1048576) (hn3 : n3 ≤ 1048577) :
    Calls Try.prog 21 #[.int .i64 way, .slice B1 n1 c1, .slice B2 n2 c2, .slice A n3 c3] w (RetOwn w 3 1 (movedL way bs as_ ks).length ((movedL way bs as_ ks).map (Value.int .i64))) := by
  have HL := Lib.hid hS3.len
  obtain ⟨i0, hi0, hz0, hz1, hz2⟩ := info_parts infoInt
  have hlit := World.ownsRow_lit (base := w.heap.size) (e := 3) (size := 1) w #[] 0 (Nat.le_refl _) (by unfold maxLen; omega) (by simp)
  have hb0 := (Below.refl w.heap.size w).alloc (Nat.le_refl _) (.cells #[] 3)
  have hp1 : Calls Try.prog 35 #[.slice B1 n1 c1] (w.alloc (.cells #[] 3)) fun e w' => e = .returned (.bool (poolV bs)) ∧ Below (w.alloc (.cells #[] 3)).heap.size (w.alloc (.cells #[] 3)) w' := sPoolValid_any _ _ _ bs _ (hS1.alloc hh1 _) (Nat.le_trans hh1 (by simp)) hn1
  have hp2 : ∀ w1, Below w.heap.size w w1 → Calls Try.prog 35 #[.slice B2 n2 c2] w1 fun e w' => e = .returned (.bool (poolV as_)) ∧ Below w1.heap.size w1 w' := fun w1 hb => sPoolValid_any _ _ _ as_ _ (hS2.below hb hh2) (Nat.le_trans hh2 hb.size) hn2
  by_cases hpre : poolV bs = true ∧ poolV as_ = true ∧ n3 ≤ 60 ∧ inB way 1 4 = true
  · obtain ⟨hv1, hv2, h60, hway⟩ := hpre
    rw [hv1] at hp1
    rw [hv2] at hp2
    have h60' : ¬ (60 : Int) < (n3 : Int) := by omega
    go_enter Try.func21, Try.ntmps21
    go_wp2_with fail
    refine hp1.mono ?_
    rintro e w1 ⟨rfl, hb1⟩
    have hd1 := hb0.trans (hb1.mono (by simp))
    have hl1 := own_below hlit hb1
    go_wp2_with fail
    refine (hp2 _ hd1).mono ?_
    rintro e w2 ⟨rfl, hb2⟩
    have hd2 := hd1.trans (hb2.mono hd1.size)
    have hl2 := own_below hl1 hb2
    go_wp2_with fail
    refine (l1In_any _ _ _ _).mono ?_
    rw [hway]
    rintro e w3 ⟨rfl, rfl⟩
    go_upto_region 4 with fail
    clear hp1 hp2 hlit hb0 hb1 hb2 hl1 hd1
    go_wp2
    go_loopw [9, 10] (fun o i wr => ∃ (k : Nat), k ≤ n3 ∧ i = .int .i64 k ∧ (∀ j, j < k → keyV (ks[j]?.getD 0) = true) ∧ wr.ownsRow w.heap.size 3 1 o ((ks.take k).filter (movedF way bs as_)).length (((ks.take k).filter (movedF way bs as_)).map (Value.int .i64)) ∧ Below w.heap.size w wr) (fun _ i _ => n3 - (intOf i).toNat)
    case atStart => exact ⟨0, Nat.zero_le _, rfl, fun j hj => absurd hj (by omega), hl2, hd2⟩
    case round =>
      clear hl2 hd2
      obtain ⟨k, hk, rfl, hkey, hown, hb⟩ := hrel
      have HK := Lib.hid hkey
      clear hkey
      have hz := hb.size
      by_cases hlt : k < n3
      · obtain ⟨b, off, rfl, _, _, c0⟩ := (hS3.below hb hh3).num hlt
        have hlk : k < ks.length := by rw [HL.out]; exact hlt
        have hfl := filt_len (movedF way bs as_) ks k
        obtain ⟨x, hx⟩ : ∃ x, ks[k]?.getD 0 = x := ⟨_, rfl⟩
        rw [hx] at c0
        have HX := Lib.hid hx
        clear hx
        by_cases hkx : keyV x = true
        · have hin : inB x 0 1000002 = true := by rw [keyV_in]; exact hkx
          have HKX : RowKit.Hid (∀ j, j < k + 1 → keyV (ks[j]?.getD 0) = true) := Lib.hid (fun j hj => by
            rcases Nat.lt_or_ge j k with h | h
            · exact HK.out j h
            · obtain rfl : j = k := by omega
              rw [HX.out]; exact hkx)
          obtain ⟨r1, hr1⟩ : ∃ r, hostBy way bs x = r := ⟨_, rfl⟩
          obtain ⟨r2, hr2⟩ : ∃ r, hostBy way as_ x = r := ⟨_, rfl⟩
          have HR1 := Lib.hid hr1
          have HR2 := Lib.hid hr2
          have HF : RowKit.Hid (movedF way bs as_ x = (r1 != r2)) := Lib.hid (by unfold movedF; rw [hr1, hr2])
          clear hr1 hr2
          go_upto_region 9 with (go_at_call 36; refine (l1In_any _ _ _ _).mono ?_; rw [hin]; rintro e w3 ⟨rfl, rfl⟩)
          have hSB1 : Sl wr.drew lo1 wr.drew.heap.size 3 B1 n1 (hostsV bs) := ((hS1.below hb hh1).more (Nat.le_refl _) (Nat.le_trans hh1 hz)).drew
          have hSB2 : Sl wr.drew lo2 wr.drew.heap.size 3 B2 n2 (hostsV as_) := ((hS2.below hb hh2).more (Nat.le_refl _) (Nat.le_trans hh2 hz)).drew
          have hki : (0 : Int) ≤ (k : Int) := by omega
          have hki2 : (k : Int) < (n3 : Int) := by omega
          obtain ⟨L, hL⟩ : ∃ L : List (Nat × VT), L = [(0, tLit (.int .i64 (way))), (1, tLit (.slice (B1) (n1) (c1))), (2, tLit (.slice (B2) (n2) (c2))), (3, tLit (.slice (some ⟨b, off, none⟩) (n3) (c3))), (10, tLit (.int .i64 ((k : Int)))), (44, tLit (.int .i64 (way))), (45, tLit (.slice (B1) (n1) (c1))), (46, tLit (.slice (some ⟨b, off, none⟩) (n3) (c3))), (47, tLit (.int .i64 ((k : Int)))), (48, tLit (.pointer (some ⟨b, off + k, none⟩))), (49, tLit (.int .i64 (x))), (50, tLit (.int .i64 (r1))), (51, tLit (.int .i64 (way))), (52, tLit (.slice (B2) (n2) (c2))), (53, tLit (.slice (some ⟨b, off, none⟩) (n3) (c3))), (54, tLit (.int .i64 ((k : Int)))), (55, tLit (.pointer (some ⟨b, off + k, none⟩))), (56, tLit (.int .i64 (x))), (57, tLit (.int .i64 (r2))), (58, tLit (.bool (r1 != r2)))] := ⟨_, rfl⟩
          have V0 : L.lookup 0 = some (tLit (.int .i64 (way))) := by rw [hL]; rfl
          have V1 : L.lookup 1 = some (tLit (.slice (B1) (n1) (c1))) := by rw [hL]; rfl
          have V2 : L.lookup 2 = some (tLit (.slice (B2) (n2) (c2))) := by rw [hL]; rfl
          have V3 : L.lookup 3 = some (tLit (.slice (some ⟨b, off, none⟩) (n3) (c3))) := by rw [hL]; rfl
          have V10 : L.lookup 10 = some (tLit (.int .i64 ((k : Int)))) := by rw [hL]; rfl
          have V44 : L.lookup 44 = some (tLit (.int .i64 (way))) := by rw [hL]; rfl
          have V45 : L.lookup 45 = some (tLit (.slice (B1) (n1) (c1))) := by rw [hL]; rfl
          have V46 : L.lookup 46 = some (tLit (.slice (some ⟨b, off, none⟩) (n3) (c3))) := by rw [hL]; rfl
          have V47 : L.lookup 47 = some (tLit (.int .i64 ((k : Int)))) := by rw [hL]; rfl
          have V48 : L.lookup 48 = some (tLit (.pointer (some ⟨b, off + k, none⟩))) := by rw [hL]; rfl
          have V49 : L.lookup 49 = some (tLit (.int .i64 (x))) := by rw [hL]; rfl
          have V50 : L.lookup 50 = some (tLit (.int .i64 (r1))) := by rw [hL]; rfl
          have V51 : L.lookup 51 = some (tLit (.int .i64 (way))) := by rw [hL]; rfl
          have V52 : L.lookup 52 = some (tLit (.slice (B2) (n2) (c2))) := by rw [hL]; rfl
          have V53 : L.lookup 53 = some (tLit (.slice (some ⟨b, off, none⟩) (n3) (c3))) := by rw [hL]; rfl
          have V54 : L.lookup 54 = some (tLit (.int .i64 ((k : Int)))) := by rw [hL]; rfl
          have V55 : L.lookup 55 = some (tLit (.pointer (some ⟨b, off + k, none⟩))) := by rw [hL]; rfl
          have V56 : L.lookup 56 = some (tLit (.int .i64 (x))) := by rw [hL]; rfl
          have V57 : L.lookup 57 = some (tLit (.int .i64 (r2))) := by rw [hL]; rfl
          have V58 : L.lookup 58 = some (tLit (.bool (r1 != r2))) := by rw [hL]; rfl
          have HK : KeepL L := by rw [hL]; exact ⟨keep_lit _, keep_lit _, keep_lit _, keep_lit _, keep_lit _, keep_lit _, keep_lit _, keep_lit _, keep_lit _, keep_lit _, keep_lit _, keep_lit _, keep_lit _, keep_lit _, keep_lit _, keep_lit _, keep_lit _, keep_lit _, keep_lit _, keep_lit _, trivial⟩
          refine wp_region_mix0 (by kernel_rfl) L 15 rfl [some 44, some 45, some 46, some 47, some 48, some 49, some 50, some 51, some 52, some 53, some 54, some 55, some 56, some 57, some 58] (by kernel_rfl) (by kernel_rfl) (by kernel_rfl) 5 (by rw [hL]; intro x hx; simp only [List.take_succ_cons, List.take_zero, List.mem_cons, List.not_mem_nil, or_false] at hx; rcases hx with rfl | rfl | rfl | rfl | rfl <;> rfl) (by rw [hL]; rfl) ?_ ?_
          · clear hL
            exact ⟨m_move HK gokm_none (om_tmp V0) V44,
              m_move HK gokm_none (om_tmp V1) V45,
              m_move HK gokm_none (om_tmp V3) V46,
              m_move HK gokm_none (om_tmp V10) V47,
              m_index HK gokm_none (s := 1) (by kernel_rfl) (by omega) (by omega) (om_tmp V46) (om_tmp V47) (by simp) V48,
              m_load1 HK gokm_none (by kernel_rfl) (om_tmp V48) c0 V49,
              m_call HK gokm_none Try.func12 (by kernel_rfl) (by kernel_rfl) V50 (fun o b w hm hG ho => by
                have e1 : b.eval (.tmp 44) = .int .i64 (way) := (om_tmp V44) o b w (hm _ (by simp)) ho
                have e2 : b.eval (.tmp 45) = .slice (B1) (n1) (c1) := (om_tmp V45) o b w (hm _ (by simp)) ho
                have e3 : b.eval (.tmp 49) = .int .i64 (x) := (om_tmp V49) o b w (hm _ (by simp)) ho
                rw [show (#[.tmp 44, .tmp 45, .tmp 49] : Array Operand).map b.eval = #[.int .i64 way, .slice (B1) n1 c1, .int .i64 x] from by simp [e1, e2, e3]]
                exact (sHostBy_any way _ _ _ x bs w (hSB1.below (GX.below hG) (Nat.le_refl _)) hG.size (by omega)).mono fun e w' h => ⟨_, h.1, New.of_below h.2, by rw [HR1.out]; rfl⟩),
              m_move HK gokm_none (om_tmp V0) V51,
              m_move HK gokm_none (om_tmp V2) V52,
              m_move HK gokm_none (om_tmp V3) V53,
              m_move HK gokm_none (om_tmp V10) V54,
              m_index HK gokm_none (s := 1) (by kernel_rfl) (by omega) (by omega) (om_tmp V53) (om_tmp V54) (by simp) V55,
              m_load1 HK gokm_none (by kernel_rfl) (om_tmp V55) c0 V56,
              m_call HK gokm_none Try.func12 (by kernel_rfl) (by kernel_rfl) V57 (fun o b w hm hG ho => by
                have e1 : b.eval (.tmp 51) = .int .i64 (way) := (om_tmp V51) o b w (hm _ (by simp)) ho
                have e2 : b.eval (.tmp 52) = .slice (B2) (n2) (c2) := (om_tmp V52) o b w (hm _ (by simp)) ho
                have e3 : b.eval (.tmp 56) = .int .i64 (x) := (om_tmp V56) o b w (hm _ (by simp)) ho
                rw [show (#[.tmp 51, .tmp 52, .tmp 56] : Array Operand).map b.eval = #[.int .i64 way, .slice (B2) n2 c2, .int .i64 x] from by simp [e1, e2, e3]]
                exact (sHostBy_any way _ _ _ x as_ w (hSB2.below (GX.below hG) (Nat.le_refl _)) hG.size (by omega)).mono fun e w' h => ⟨_, h.1, New.of_below h.2, by rw [HR2.out]; rfl⟩),
              m_neq HK gokm_none (om_tmp V50) (om_tmp V57) rfl V58,
              trivial⟩
          intro vs w5 hw5 hk5
          have k44 : vs 44 = .int .i64 (way) := hk5 0 44 _ (by omega) rfl V44
          have k45 : vs 45 = .slice (B1) (n1) (c1) := hk5 1 45 _ (by omega) rfl V45
          have k46 : vs 46 = .slice (some ⟨b, off, none⟩) (n3) (c3) := hk5 2 46 _ (by omega) rfl V46
          have k47 : vs 47 = .int .i64 ((k : Int)) := hk5 3 47 _ (by omega) rfl V47
          have k48 : vs 48 = .pointer (some ⟨b, off + k, none⟩) := hk5 4 48 _ (by omega) rfl V48
          have k49 : vs 49 = .int .i64 (x) := hk5 5 49 _ (by omega) rfl V49
          have k50 : vs 50 = .int .i64 (r1) := hk5 6 50 _ (by omega) rfl V50
          have k51 : vs 51 = .int .i64 (way) := hk5 7 51 _ (by omega) rfl V51
          have k52 : vs 52 = .slice (B2) (n2) (c2) := hk5 8 52 _ (by omega) rfl V52
          have k53 : vs 53 = .slice (some ⟨b, off, none⟩) (n3) (c3) := hk5 9 53 _ (by omega) rfl V53
          have k54 : vs 54 = .int .i64 ((k : Int)) := hk5 10 54 _ (by omega) rfl V54
          have k55 : vs 55 = .pointer (some ⟨b, off + k, none⟩) := hk5 11 55 _ (by omega) rfl V55
          have k56 : vs 56 = .int .i64 (x) := hk5 12 56 _ (by omega) rfl V56
          have k57 : vs 57 = .int .i64 (r2) := hk5 13 57 _ (by omega) rfl V57
          have k58 : vs 58 = .bool (r1 != r2) := hk5 14 58 _ (by omega) rfl V58
          clear hk5 HK hL V0 V1 V2 V3 V10 V44 V45 V46 V47 V48 V49 V50 V51 V52 V53 V54 V55 V56 V57 V58
          simp only [putL, Act.put, List.setIfInBounds_toArray, List.set_cons_zero, List.set_cons_succ, k44, k45, k46, k47, k48, k49, k50, k51, k52, k53, k54, k55, k56, k57, k58]
          clear k44 k45 k46 k47 k48 k49 k50 k51 k52 k53 k54 k55 k56 k57 k58
          have hb5 : Below w.heap.size w w5 := New.below hw5 hb hz
          have hown5 := New.own hw5 hown
          have d0 : w5.cell? ⟨b, off + k, none⟩ = some (.int .i64 x) := New.cell_ hw5 c0
          by_cases hne : r1 = r2
          · have hbn : (r1 != r2) = false := by simpa using hne
            have HE := Lib.hid (filt_no (f := movedF way bs as_) hlk HX.out (by rw [HF.out]; exact hbn))
            clear hne c0
            go_wp2
            go_roundw
            case rel => exact ⟨k + 1, by omega, by go_num, HKX.out, by rw [HE.out]; exact hown5, hb5⟩
            case measure => simp [intOf]; omega
          · have hbn : (r1 != r2) = true := by simpa using hne
            have HE := Lib.hid (filt_yes (f := movedF way bs as_) hlk HX.out (by rw [HF.out]; exact hbn))
            clear hne c0
            go_wp2_with (at_builtin; (refine wpList_app1 w5 w #[.int .i64 x] rfl _ _ 40 3 rfl i0 _ 1 8 Try.underlying40 hi0 hz0 hz1 hz2 rfl (by decide) _ _ _ (by rfl) hown5 hb5 w5.heap.size 1 1 rfl rfl rfl (by intro u hu; simp at hu; subst hu; rfl) (by unfold maxLen; omega) (by omega) ?_; intro v' w6 hown6 hb6))
            go_roundw
            case rel => exact ⟨k + 1, by omega, by go_num, HKX.out, by rw [HE.out, List.map_append, List.length_append]; exact hown6, hb6⟩
            case measure => simp [intOf]; omega
        · have hin : inB x 0 1000002 = false := by rw [keyV_in]; exact Bool.eq_false_iff.2 hkx
          have HM : RowKit.Hid (movedL way bs as_ ks = []) := Lib.hid (by
            have hf : fitK way ks = false := by
              cases h : fitK way ks with
              | false => rfl
              | true => exact absurd (by rw [← HX.out]; exact (fit_facts h).2.2 k hlk) hkx
            unfold movedL movedOk
            rw [hf]
            simp)
          clear hkx
          go_wp2_with (go_at_call 36; refine (l1In_any _ _ _ _).mono ?_; rw [hin]; rintro e w3 ⟨rfl, rfl⟩)
          go_ret
          rw [HM.out]
          exact RetOwn.mk (World.ownsRow_lit wr #[] 0 hz (by unfold maxLen; omega) (by simp)) (hb.alloc hz _)
      · obtain rfl : n3 = k := by omega
        have hE : ks.take n3 = ks := by rw [← HL.out, List.take_length]
        rw [hE] at hown
        clear hE
        have HM : RowKit.Hid (movedL way bs as_ ks = ks.filter (movedF way bs as_)) := Lib.hid (by
          have hf : fitK way ks = true := by
            unfold fitK
            rw [hway, HL.out]
            simp only [Bool.and_true, Bool.and_eq_true, decide_eq_true_eq]
            refine ⟨?_, by omega⟩
            rw [List.all_eq_true]
            intro y hy
            obtain ⟨j, hjl, rfl⟩ := List.mem_iff_getElem.1 hy
            have := HK.out j (by rw [← HL.out]; exact hjl)
            rw [List.getElem?_eq_getElem hjl] at this
            exact this
          unfold movedL movedOk
          rw [hv1, hv2, hf]
          rfl)
        go_wp2
        go_ret
        rw [HM.out]
        exact RetOwn.mk hown hb
  · have HM : RowKit.Hid (movedL way bs as_ ks = []) := Lib.hid (by
      unfold movedL
      rw [if_neg]
      intro h
      unfold movedOk at h
      simp only [Bool.and_eq_true] at h
      have hff := fit_facts h.2
      rw [HL.out] at hff
      exact hpre ⟨h.1.1, h.1.2, hff.1, hff.2.1⟩)
    rw [HM.out]
    by_cases hv1 : poolV bs = true
    · rw [hv1] at hp1
      by_cases hv2 : poolV as_ = true
      · rw [hv2] at hp2
        by_cases h60 : n3 ≤ 60
        · have h60' : ¬ (60 : Int) < (n3 : Int) := by omega
          have hway : inB way 1 4 = false := by
            cases h : inB way 1 4 with
            | false => rfl
            | true => exact absurd ⟨hv1, hv2, h60, h⟩ hpre
          clear hpre
          go_enter Try.func21, Try.ntmps21
          go_wp2_with fail
          refine hp1.mono ?_
          rintro e w1 ⟨rfl, hb1⟩
          have hd1 := hb0.trans (hb1.mono (by simp))
          have hl1 := own_below hlit hb1
          go_wp2_with fail
          refine (hp2 _ hd1).mono ?_
          rintro e w2 ⟨rfl, hb2⟩
          have hd2 := hd1.trans (hb2.mono hd1.size)
          have hl2 := own_below hl1 hb2
          go_wp2_with (go_at_call 36; refine (l1In_any _ _ _ _).mono ?_; rw [hway]; rintro e w3 ⟨rfl, rfl⟩)
          all_goals
            go_ret
            exact RetOwn.mk hl2 hd2
        · have h60' : (60 : Int) < (n3 : Int) := by omega
          clear hpre
          go_enter Try.func21, Try.ntmps21
          go_wp2_with fail
          refine hp1.mono ?_
          rintro e w1 ⟨rfl, hb1⟩
          have hd1 := hb0.trans (hb1.mono (by simp))
          have hl1 := own_below hlit hb1
          go_wp2_with fail
          refine (hp2 _ hd1).mono ?_
          rintro e w2 ⟨rfl, hb2⟩
          have hd2 := hd1.trans (hb2.mono hd1.size)
          have hl2 := own_below hl1 hb2
          go_wp2
          go_ret
          exact RetOwn.mk hl2 hd2
      · rw [Bool.eq_false_iff.2 hv2] at hp2
        clear hpre hv2
        go_enter Try.func21, Try.ntmps21
        go_wp2_with fail
        refine hp1.mono ?_
        rintro e w1 ⟨rfl, hb1⟩
        have hd1 := hb0.trans (hb1.mono (by simp))
        have hl1 := own_below hlit hb1
        go_wp2_with fail
        refine (hp2 _ hd1).mono ?_
        rintro e w2 ⟨rfl, hb2⟩
        have hd2 := hd1.trans (hb2.mono hd1.size)
        have hl2 := own_below hl1 hb2
        go_wp2
        go_ret
        exact RetOwn.mk hl2 hd2
    · rw [Bool.eq_false_iff.2 hv1] at hp1
      clear hpre hv1
      go_enter Try.func21, Try.ntmps21
      go_wp2_with (go_at_call 35; refine hp1.mono ?_; rintro e w1 ⟨rfl, hb1⟩; have hd1 := hb0.trans (hb1.mono (by simp)); have hl1 := own_below hlit hb1)
      go_ret
      exact RetOwn.mk hl1 hd1
end Go.Proofs.Ytfobcggcilbgbaa
