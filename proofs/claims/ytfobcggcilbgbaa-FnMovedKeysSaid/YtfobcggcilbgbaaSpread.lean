/-
  SpreadOf of both packages.
-/
import Derived.Test.YtfobcggcilbgbaaMoved
namespace Go.Proofs.Ytfobcggcilbgbaa
open Go.RowKit
set_option linter.unusedVariables false

/-- How many keys choose each host. -/
def spreadR (way : Int) (hs : List H3) (ks : List Int) : List Int := hs.map fun h => ((cntL (ks.map (hostBy way hs)) h.1 : Nat) : Int)
def spreadL (way : Int) (hs : List H3) (ks : List Int) : List Int := if poolV hs = true ∧ fitK way ks = true then spreadR way hs ks else []
theorem spreadR_len (way : Int) (hs : List H3) (ks : List Int) : (spreadR way hs ks).length = hs.length := by simp [spreadR]
theorem spreadR_at (way : Int) (hs : List H3) (ks : List Int) {j : Nat} (hj : j < hs.length) : (spreadR way hs ks)[j]? = some ((cntL (ks.map (hostBy way hs)) (hAt hs j).1 : Nat) : Int) := by
  unfold spreadR
  rw [List.getElem?_map, List.getElem?_eq_getElem hj, hAt_eq hj]
  rfl
theorem spreadR_zero (way : Int) (hs : List H3) : spreadR way hs [] = List.replicate hs.length 0 := by
  apply List.ext_getElem?
  intro j
  by_cases hj : j < hs.length
  · rw [spreadR_at way hs [] hj]
    simp [cntL, hj]
  · rw [List.getElem?_eq_none (by rw [spreadR_len]; omega), List.getElem?_eq_none (by simp; omega)]
theorem pool_asc {hs : List H3} (h : poolV hs = true) : hs.Pairwise fun a b => a.1 < b.1 := by
  unfold poolV at h
  simp only [Bool.and_eq_true] at h
  exact (poolFrom_lt hs _ h.1).1
theorem spreadR_none {way : Int} {hs : List H3} {ks : List Int} {x : Int} (h : ∀ j, j < hs.length → (hAt hs j).1 ≠ hostBy way hs x) : spreadR way hs (ks ++ [x]) = spreadR way hs ks := by
  apply List.ext_getElem?
  intro j
  by_cases hj : j < hs.length
  · rw [spreadR_at way hs _ hj, spreadR_at way hs _ hj, List.map_append, List.map_cons, List.map_nil, cntL_snoc, if_neg (fun e => h j hj e.symm), Nat.add_zero]
  · rw [List.getElem?_eq_none (by rw [spreadR_len]; omega), List.getElem?_eq_none (by rw [spreadR_len]; omega)]
theorem spreadR_set {way : Int} {hs : List H3} {ks : List Int} {x : Int} {i : Nat} (hv : poolV hs = true) (hi : i < hs.length) (h : (hAt hs i).1 = hostBy way hs x) : spreadR way hs (ks ++ [x]) = (spreadR way hs ks).set i ((cntL (ks.map (hostBy way hs)) (hAt hs i).1 : Nat) + 1 : Int) := by
  apply List.ext_getElem?
  intro j
  rw [List.getElem?_set]
  by_cases hj : j < hs.length
  · rw [spreadR_at way hs _ hj, List.map_append, List.map_cons, List.map_nil, cntL_snoc]
    by_cases e : i = j
    · subst e
      have hl : i < (spreadR way hs ks).length := by rw [spreadR_len]; exact hj
      rw [if_pos h.symm, if_pos rfl, if_pos hl]
      rfl
    · rw [if_neg e, if_neg (fun e' => up_ne (pool_asc hv) hi hj e (by rw [h, e'])), Nat.add_zero, spreadR_at way hs _ hj]
  · rw [List.getElem?_eq_none (by rw [spreadR_len]; omega), if_neg (by omega), List.getElem?_eq_none (by rw [spreadR_len]; omega)]

set_option maxRecDepth 100000 in
set_option maxHeartbeats 3200000 in
theorem iSpread_any (way : Int) (B1 : Option Addr) (n1 c1 : Nat) (hs : List H3) (A : Option Addr) (n3 c3 : Nat) (ks : List Int) (w : World) {lo1 hi1 lo3 hi3 : Nat}
    (hS1 : Sl w lo1 hi1 3 B1 n1 (hostsV hs)) (hS3 : Sl w lo3 hi3 1 A n3 (ks.map (Value.int .i64))) (hh1 : hi1 ≤ w.heap.size) (hh3 : hi3 ≤ w.heap.size) (hn1 : n1 ≤ 1048576) (hn3 : n3 ≤ 1048577) :
    Calls Try.prog 32 #[.int .i64 way, .slice B1 n1 c1, .slice A n3 c3] w (RetOwn w 3 1 (spreadL way hs ks).length ((spreadL way hs ks).map (Value.int .i64))) := by
  have HL := Lib.hid hS3.len
  have HL1 := Lib.hid hS1.hlen
  by_cases hv1 : poolV hs = true
  · by_cases hf : fitK way ks = true
    · have hff := fit_facts hf
      rw [HL.out] at hff
      obtain ⟨h60, hway, hkey⟩ := hff
      have hn6 : n1 ≤ 6 := by have := pool_len hv1; rw [HL1.out] at this; exact this
      have HM : RowKit.Hid (spreadL way hs ks = spreadR way hs ks) := Lib.hid (by unfold spreadL; rw [if_pos ⟨hv1, hf⟩])
      have HRL : RowKit.Hid ((spreadR way hs ks).length = n1) := Lib.hid (by rw [spreadR_len, HL1.out])
      have HZ : RowKit.Hid ((spreadR way hs (ks.take 0)).map (Value.int .i64) = List.replicate n1 (.int .i64 0)) := Lib.hid (by rw [List.take_zero, spreadR_zero, HL1.out]; simp)
      rw [HM.out, HRL.out]
      have hmk := run_make_row' (P := Try.prog) 40 3 (.int .i64 0) 8 Try.underlying40 infoInt rfl .i64 .i64 n1 (by omega) (by omega)
      have HMK := Lib.hid hmk
      clear hmk hkey
      go_enter Try.func32, Try.ntmps32
      go_upto_region 3 with (first | (go_at_call 19; refine (iPoolValid_any _ _ _ hs _ hS1 hh1 hn1).mono ?_; rw [hv1]; rintro e w1 ⟨rfl, hb1⟩) | (go_at_call 60; refine (keysFit_any _ _ _ _ ks _ (hS3.below hb1 hh3) (by omega)).mono ?_; rw [hf]; rintro e w3 ⟨rfl, rfl⟩))
      have hmk := HMK.out
      have hown0 := own_made w1 (.int .i64 0) 3 n1 (by unfold maxLen; omega)
      have hb0 := (Below.refl w1.heap.size w1).alloc (Nat.le_refl _) (.cells (madeCells #[.int .i64 0] n1) 3)
      go_wp2
      clear hmk
      generalize w1.alloc (.cells (madeCells #[.int .i64 0] n1) 3) = w2 at hown0 hb0 ⊢
      obtain ⟨g, hg⟩ : ∃ g : Nat, w1.heap.size = g := ⟨_, rfl⟩
      rw [hg] at hown0 ⊢
      have HG := Lib.hid hg
      clear hg
      go_loopw [25] (fun i wr => ∃ (k : Nat), k ≤ n3 ∧ i = .int .i64 k ∧ wr.ownsRow g 3 1 (.slice (some ⟨g, 0, none⟩) n1 n1) n1 ((spreadR way hs (ks.take k)).map (Value.int .i64)) ∧ Below w1.heap.size w1 wr) (fun i _ => n3 - (intOf i).toNat)
      case atStart => exact ⟨0, Nat.zero_le _, rfl, by rw [HZ.out]; exact hown0, hb0⟩
      case round =>
        clear hown0 hb0
        obtain ⟨k, hk, rfl, hown, hb⟩ := hrel
        have hz := hb.size
        have hd := hb1.trans (hb.mono hb1.size)
        by_cases hlt : k < n3
        · obtain ⟨b, off, rfl, _, _, c0⟩ := (hS3.below hd hh3).num hlt
          have HT := Lib.hid (take_succ_getD ks k (by rw [HL.out]; exact hlt))
          obtain ⟨x, hx⟩ : ∃ x, ks[k]?.getD 0 = x := ⟨_, rfl⟩
          rw [hx] at c0
          have HX := Lib.hid hx
          clear hx
          obtain ⟨r, hr⟩ : ∃ r, hostBy way hs x = r := ⟨_, rfl⟩
          have HR := Lib.hid hr
          rcases atH_cases hs r with ⟨h1, h2⟩ | ⟨i, hi, h1, h2, h3⟩
          · have HE : RowKit.Hid (spreadR way hs (ks.take (k + 1)) = spreadR way hs (ks.take k)) := Lib.hid (by rw [HT.out, HX.out]; exact spreadR_none (by rw [hr]; exact h2))
            have H1 := Lib.hid h1
            clear h1 h2 hr
            go_wp2_with (first | (go_at_call 14; refine (iHostBy_any _ _ _ _ _ hs _ (hS1.below hd hh1) (Nat.le_trans hh1 hd.size) hn1).mono ?_; rw [HR.out]; rintro e w4 ⟨rfl, hb4⟩; have hd4 := hd.trans (hb4.mono hd.size)) | (go_at_call 58; refine (hostAt_any _ _ _ hs _ _ (hS1.below hd4 hh1) (Nat.le_trans hh1 hd4.size) hn1).mono ?_; rw [H1.out]; rintro e w5 ⟨rfl, hb5⟩))
            go_roundw
            case rel => exact ⟨k + 1, by omega, by go_num, by rw [HE.out]; exact own_below (own_below hown hb4) hb5, (hb.trans (hb4.mono hz)).trans (hb5.mono (Nat.le_trans hz hb4.size))⟩
            case measure => simp [intOf]; omega
          · obtain ⟨q, hq⟩ : ∃ q : Nat, cntL ((ks.take k).map (hostBy way hs)) (hAt hs i).1 = q := ⟨_, rfl⟩
            have HE : RowKit.Hid (spreadR way hs (ks.take (k + 1)) = (spreadR way hs (ks.take k)).set i ((q : Int) + 1)) := Lib.hid (by rw [HT.out, HX.out, spreadR_set hv1 hi (by rw [hr]; exact h2), hq])
            have hq60 : q ≤ 60 := by rw [← hq]; have := cntL_le ((ks.take k).map (hostBy way hs)) (hAt hs i).1; have := List.length_take_le k ks; rw [List.length_map] at *; omega
            have hxi : (((spreadR way hs (ks.take k)).map (Value.int .i64)))[i]? = some (.int .i64 (q : Int)) := by rw [List.getElem?_map, spreadR_at way hs _ hi, hq]; rfl
            have HXI := Lib.hid hxi
            have hin : i < n1 := by rw [← HL1.out]; exact hi
            have H1 := Lib.hid h1
            have hii : (0 : Int) ≤ (i : Int) := by omega
            have hii2 : (i : Int) < (n1 : Int) := by omega
            clear h1 h2 h3 hr hq hxi hi
            go_wp2_with (first | (go_at_call 14; refine (iHostBy_any _ _ _ _ _ hs _ (hS1.below hd hh1) (Nat.le_trans hh1 hd.size) hn1).mono ?_; rw [HR.out]; rintro e w4 ⟨rfl, hb4⟩; have hd4 := hd.trans (hb4.mono hd.size)) | (go_at_call 58; refine (hostAt_any _ _ _ hs _ _ (hS1.below hd4 hh1) (Nat.le_trans hh1 hd4.size) hn1).mono ?_; rw [H1.out]; rintro e w5 ⟨rfl, hb5⟩; have hown5 := own_below (own_below hown hb4) hb5; have hbx := (hb.trans (hb4.mono hz)).trans (hb5.mono (Nat.le_trans hz hb4.size)); have d0 := (hown5.cellAt i (by omega)).trans HXI.out; have hfz := hown5.frozenAt))
            have hst := (hown5.stored i (.int .i64 ((q : Int) + 1))).1
            rw [← List.map_set, ← HE.out] at hst
            have hbs := hbx.setCell (p := ⟨g, i, none⟩) (by rw [HG.out]; exact Nat.le_refl _) (.int .i64 ((q : Int) + 1))
            go_roundw
            case rel => exact ⟨k + 1, by omega, by go_num, hst, hbs⟩
            case measure => simp [intOf]; omega
        · obtain rfl : n3 = k := by omega
          have hE : ks.take n3 = ks := by rw [← HL.out, List.take_length]
          rw [hE] at hown
          clear hE
          go_wp2
          go_ret
          rw [← HG.out] at hown
          exact RetOwn.older (by rw [← HG.out]; exact hown) hb hb1
    · have hf' := Bool.eq_false_iff.2 hf
      have HM : RowKit.Hid (spreadL way hs ks = []) := Lib.hid (by unfold spreadL; rw [if_neg (fun h => hf h.2)])
      rw [HM.out]
      clear hf
      go_enter Try.func32, Try.ntmps32
      go_wp2_with (first | (go_at_call 19; refine (iPoolValid_any _ _ _ hs _ hS1 hh1 hn1).mono ?_; rw [hv1]; rintro e w1 ⟨rfl, hb1⟩) | (go_at_call 60; refine (keysFit_any _ _ _ _ ks _ (hS3.below hb1 hh3) (by omega)).mono ?_; rw [hf']; rintro e w3 ⟨rfl, rfl⟩))
      go_ret
      exact RetOwn.mk (World.ownsRow_nil _ _ _ _) hb1
  · have hv1' := Bool.eq_false_iff.2 hv1
    have HM : RowKit.Hid (spreadL way hs ks = []) := Lib.hid (by unfold spreadL; rw [if_neg (fun h => hv1 h.1)])
    rw [HM.out]
    clear hv1
    go_enter Try.func32, Try.ntmps32
    go_wp2_with (go_at_call 19; refine (iPoolValid_any _ _ _ hs _ hS1 hh1 hn1).mono ?_; rw [hv1']; rintro e w1 ⟨rfl, hb1⟩)
    go_ret
    exact RetOwn.mk (World.ownsRow_nil _ _ _ _) hb1

theorem spreadR_take (way : Int) (hs : List H3) (ks : List Int) {k : Nat} (hk : k < hs.length) : (spreadR way hs ks).take (k + 1) = (spreadR way hs ks).take k ++ [((cntL (ks.map (hostBy way hs)) (hAt hs k).1 : Nat) : Int)] := by
  have hl : k < (spreadR way hs ks).length := by rw [spreadR_len]; exact hk
  rw [List.take_succ_eq_append_getElem hl]
  have := spreadR_at way hs ks hk
  rw [List.getElem?_eq_getElem hl] at this
  injection this with this
  rw [this]

set_option maxRecDepth 100000 in
set_option maxHeartbeats 3200000 in
theorem sSpread_any (way : Int) (B1 : Option Addr) (n1 c1 : Nat) (hs : List H3) (A : Option Addr) (n3 c3 : Nat) (ks : List Int) (w : World) {lo1 hi1 lo3 hi3 : Nat}
    (hS1 : Sl w lo1 hi1 3 B1 n1 (hostsV hs)) (hS3 : Sl w lo3 hi3 1 A n3 (ks.map (Value.int .i64))) (hh1 : hi1 ≤ w.heap.size) (hh3 : hi3 ≤ w.heap.size) (hn1 : n1 ≤ 1048576) (hn3 : n3 ≤ 1048577) :
    Calls Try.prog 31 #[.int .i64 way, .slice B1 n1 c1, .slice A n3 c3] w (RetOwn w 3 1 (spreadL way hs ks).length ((spreadL way hs ks).map (Value.int .i64))) := by
  have HL := Lib.hid hS3.len
  have HL1 := Lib.hid hS1.hlen
  obtain ⟨i0, hi0, hz0, hz1, hz2⟩ := info_parts infoInt
  obtain ⟨wl, hwl⟩ : ∃ wl, w.alloc (.cells #[] 3) = wl := ⟨_, rfl⟩
  have hlit0 : wl.ownsRow w.heap.size 3 1 (.slice (some ⟨w.heap.size, 0, none⟩) 0 0) 0 [] := by rw [← hwl]; exact World.ownsRow_lit (base := w.heap.size) (e := 3) (size := 1) w #[] 0 (Nat.le_refl _) (by unfold maxLen; omega) (by simp)
  have hbl : Below w.heap.size w wl := by rw [← hwl]; exact (Below.refl w.heap.size w).alloc (Nat.le_refl _) _
  have hlit1 : (wl.alloc (.cells #[] 3)).ownsRow wl.heap.size 3 1 (.slice (some ⟨w.heap.size + 1, 0, none⟩) 0 0) 0 [] := by
    have := World.ownsRow_lit (base := wl.heap.size) (e := 3) (size := 1) wl #[] 0 (Nat.le_refl _) (by unfold maxLen; omega) (by simp)
    rw [show wl.heap.size = w.heap.size + 1 from by rw [← hwl]; simp] at this ⊢
    exact this
  have hb0 := (Below.refl wl.heap.size wl).alloc (Nat.le_refl _) (.cells #[] 3)
  obtain ⟨wh, hwh⟩ : ∃ wh, wl.alloc (.cells #[] 3) = wh := ⟨_, rfl⟩
  rw [hwh] at hlit1 hb0
  have hbh : Below w.heap.size w wh := hbl.trans (hb0.mono hbl.size)
  have hww : (w.alloc (.cells #[] 3)).alloc (.cells #[] 3) = wh := by rw [hwl, hwh]
  have hp1 : Calls Try.prog 35 #[.slice B1 n1 c1] ((w.alloc (.cells #[] 3)).alloc (.cells #[] 3)) fun e w' => e = .returned (.bool (poolV hs)) ∧ Below wh.heap.size wh w' := by
    rw [hww]
    exact sPoolValid_any _ _ _ hs _ (hS1.below hbh hh1) (Nat.le_trans hh1 hbh.size) hn1
  have hwlz : w.heap.size < wl.heap.size := by rw [← hwl]; simp
  clear hwl hwh hww
  by_cases hpre : poolV hs = true ∧ n3 ≤ 60 ∧ inB way 1 4 = true
  · obtain ⟨hv1, h60, hway⟩ := hpre
    have hn6 : n1 ≤ 6 := by have := pool_len hv1; rw [HL1.out] at this; exact this
    rw [hv1] at hp1
    have h60' : ¬ (60 : Int) < (n3 : Int) := by omega
    go_enter Try.func31, Try.ntmps31
    go_upto_region 5 with (first | (go_at_call 35; refine hp1.mono ?_; rintro e w1 ⟨rfl, hb1⟩; have hl1 := own_below hlit1 hb1; have hd1 := hb0.trans (hb1.mono hb0.size)) | (go_at_call 36; refine (l1In_any _ _ _ _).mono ?_; rw [hway]; rintro e w3 ⟨rfl, rfl⟩))
    clear hp1 hlit1 hb0 hb1 hbh
    go_wp2
    go_loopw [8, 9] (fun o i wr => ∃ (k : Nat), k ≤ n3 ∧ i = .int .i64 k ∧ (∀ j, j < k → keyV (ks[j]?.getD 0) = true) ∧ wr.ownsRow wl.heap.size 3 1 o k (((ks.take k).map (hostBy way hs)).map (Value.int .i64)) ∧ Below wl.heap.size wl wr) (fun _ i _ => n3 - (intOf i).toNat)
    case atStart => exact ⟨0, Nat.zero_le _, rfl, fun j hj => absurd hj (by omega), hl1, hd1⟩
    case round =>
      clear hl1 hd1
      obtain ⟨k, hk, rfl, hkey, hown, hb⟩ := hrel
      have HK := Lib.hid hkey
      clear hkey
      have hz := hb.size
      have hd := hbl.trans (hb.mono hbl.size)
      by_cases hlt : k < n3
      · obtain ⟨b, off, rfl, _, _, c0⟩ := (hS3.below hd hh3).num hlt
        have hlk : k < ks.length := by rw [HL.out]; exact hlt
        have HT := Lib.hid (take_succ_getD ks k hlk)
        obtain ⟨x, hx⟩ : ∃ x, ks[k]?.getD 0 = x := ⟨_, rfl⟩
        rw [hx] at c0
        have HX := Lib.hid hx
        clear hx
        by_cases hkx : keyV x = true
        · have hin : inB x 0 1000002 = true := by rw [keyV_in]; exact hkx
          have HKX : RowKit.Hid (∀ j, j < k + 1 → keyV (ks[j]?.getD 0) = true) := Lib.hid (fun j hj => by
            rcases Nat.lt_or_ge j k with h | h
            · exact HK.out j h
            · obtain rfl : j = k := by omega
              rw [HX.out]; exact hkx)
          obtain ⟨r1, hr1⟩ : ∃ r, hostBy way hs x = r := ⟨_, rfl⟩
          have HE : RowKit.Hid ((ks.take (k + 1)).map (hostBy way hs) = (ks.take k).map (hostBy way hs) ++ [r1]) := Lib.hid (by rw [HT.out, HX.out, List.map_append, ← hr1]; rfl)
          have HR1 := Lib.hid hr1
          clear hr1
          go_wp2_with (first | (go_at_call 36; refine (l1In_any _ _ _ _).mono ?_; rw [hin]; rintro e w3 ⟨rfl, rfl⟩) | (go_at_call 12; refine (sHostBy_any _ _ _ _ _ hs _ (hS1.below hd hh1) (Nat.le_trans hh1 hd.size) hn1).mono ?_; rw [HR1.out]; rintro e w4 ⟨rfl, hb4⟩; have hown4 := own_below hown hb4; have hbx := hb.trans (hb4.mono hz)) | (at_builtin; (refine wpList_app1 w4 wl #[.int .i64 r1] rfl _ _ 40 3 rfl i0 _ 1 8 Try.underlying40 hi0 hz0 hz1 hz2 rfl (by decide) _ k _ (by rfl) hown4 hbx w4.heap.size 1 1 rfl rfl rfl (by intro u hu; simp at hu; subst hu; rfl) (by unfold maxLen; omega) (by omega) ?_; intro v' w6 hown6 hb6)))
          go_roundw
          case rel => exact ⟨k + 1, by omega, by go_num, HKX.out, by rw [HE.out, List.map_append]; exact hown6, hb6⟩
          case measure => simp [intOf]; omega
        · have hin : inB x 0 1000002 = false := by rw [keyV_in]; exact Bool.eq_false_iff.2 hkx
          have HM : RowKit.Hid (spreadL way hs ks = []) := Lib.hid (by
            unfold spreadL
            rw [if_neg]
            exact fun h => hkx (by rw [← HX.out]; exact (fit_facts h.2).2.2 k hlk))
          have hlr := own_below hlit0 hb
          clear hkx
          go_wp2_with (go_at_call 36; refine (l1In_any _ _ _ _).mono ?_; rw [hin]; rintro e w3 ⟨rfl, rfl⟩)
          go_ret
          rw [HM.out]
          exact RetOwn.mk hlr hd
      · obtain rfl : n3 = k := by omega
        have hE : ks.take n3 = ks := by rw [← HL.out, List.take_length]
        rw [hE] at hown
        clear hE
        have HM : RowKit.Hid (spreadL way hs ks = spreadR way hs ks) := Lib.hid (by
          have hf : fitK way ks = true := by
            unfold fitK
            rw [hway, HL.out]
            simp only [Bool.and_true, Bool.and_eq_true, decide_eq_true_eq]
            refine ⟨?_, by omega⟩
            rw [List.all_eq_true]
            intro y hy
            obtain ⟨j, hjl, rfl⟩ := List.mem_iff_getElem.1 hy
            have := HK.out j (by rw [← HL.out]; exact hjl)
            rw [List.getElem?_eq_getElem hjl] at this
            exact this
          unfold spreadL
          rw [if_pos ⟨hv1, hf⟩])
        have hlr := own_below hlit0 hb
        obtain ⟨A5, c5, rfl, _, _⟩ := own_is_slice hown
        have hSH := Sl.of_own hown
        have HRL : RowKit.Hid ((spreadR way hs ks).length = n1) := Lib.hid (by rw [spreadR_len, HL1.out])
        have hS1r := hS1.below hd hh1
        clear hown hb hlit0
        obtain ⟨wA, rfl⟩ : ∃ wA : World, wA = wr := ⟨_, rfl⟩
        go_wp2
        go_loopw [7, 10] (fun o i wr => ∃ (k : Nat) (v : Value), k ≤ n1 ∧ i = .int .i64 k ∧ o = v ∧ wr.ownsRow w.heap.size 3 1 v k (((spreadR way hs ks).take k).map (Value.int .i64)) ∧ (∀ g, v.ownBlock = some g → g = w.heap.size ∨ wA.heap.size ≤ g) ∧ wA.grownBy wr (some w.heap.size)) (fun _ i _ => n1 - (intOf i).toNat)
        case atStart => exact ⟨0, _, Nat.zero_le _, rfl, rfl, hlr, fun g h => by left; simp [Value.ownBlock] at h; exact h.symm, World.grownBy.refl _ _⟩
        case round =>
          clear hlr
          obtain ⟨k, v, hk, rfl, rfl, hown, hvo, hg⟩ := hrel
          have hzg := hg.size
          have hzA := hd.size
          by_cases hlt : k < n1
          · obtain ⟨b, off, rfl, _, _, c0, _, _⟩ := (hS1r.grown hg (by omega) (fun g h => by injection h with h; omega)).host hlt
            have hSHr := hSH.grown hg (Nat.le_refl _) (fun g h => by injection h with h; right; omega)
            have HT := Lib.hid (spreadR_take way hs ks (k := k) (by rw [HL1.out]; exact hlt))
            obtain ⟨⟨h0, h1, h2⟩, hh⟩ : ∃ p, hAt hs k = p := ⟨_, rfl⟩
            rw [hh] at c0 HT
            simp only at c0 HT
            clear hh
            obtain ⟨q, hq⟩ : ∃ q : Nat, cntL (ks.map (hostBy way hs)) h0 = q := ⟨_, rfl⟩
            rw [hq] at HT
            have HQ := Lib.hid hq
            clear hq
            go_wp2_with (first | (go_at_call 64; refine (sCountOf_any _ _ _ h0 (ks.map (hostBy way hs)) _ hSHr (by omega)).mono ?_; rw [HQ.out]; rintro e w4 ⟨rfl, rfl⟩) | (at_builtin; refine wpList_append_sl _ rfl _ _ 40 rfl w.heap.size 3 i0 _ 1 8 Try.underlying40 hi0 hz0 hz1 hz2 rfl (by decide) _ k _ (by rfl) (hown.alloc (.cells #[.int .i64 (q : Int)] 3)) _ _ (some ⟨wr.heap.size, 0, none⟩) 1 1 [.int .i64 (q : Int)] rfl (Sl.newAt #[.int .i64 (q : Int)] 3 1 1 rfl rfl) (by intro u hu; simp at hu; subst hu; rfl) (by unfold maxLen; omega) (by omega) (by simp; omega) ?_; intro v' w5 own5 g5 at5))
            have hg5 := grown_step (grown_step hg (World.grownBy_alloc wr (.cells #[.int .i64 (q : Int)] 3) none) (fun g h => by cases h)) g5 hvo
            have hvo5 : ∀ g, v'.ownBlock = some g → g = w.heap.size ∨ wA.heap.size ≤ g := fun g h => by
              rcases at5 with h' | h'
              · exact hvo g (h' ▸ h)
              · rw [h', World.size_alloc] at h; injection h with h; right; omega
            go_roundw
            case rel => exact ⟨k + 1, v', by omega, by go_num, rfl, by rw [HT.out, List.map_append]; exact own5, hvo5, hg5⟩
            case measure => simp [intOf]; omega
          · obtain rfl : n1 = k := by omega
            have hE : (spreadR way hs ks).take n1 = spreadR way hs ks := by rw [← HRL.out, List.take_length]
            rw [hE] at hown
            clear hE
            have hbf := hd.grown hg hd.size (fun g h => by injection h with h; omega)
            go_wp2
            go_ret
            rw [HM.out, HRL.out]
            exact RetOwn.mk hown hbf
  · have HM : RowKit.Hid (spreadL way hs ks = []) := Lib.hid (by
      unfold spreadL
      rw [if_neg]
      intro h
      have hff := fit_facts h.2
      rw [HL.out] at hff
      exact hpre ⟨h.1, hff.1, hff.2.1⟩)
    rw [HM.out]
    by_cases hv1 : poolV hs = true
    · rw [hv1] at hp1
      by_cases h60 : n3 ≤ 60
      · have h60' : ¬ (60 : Int) < (n3 : Int) := by omega
        have hway : inB way 1 4 = false := by
          cases h : inB way 1 4 with
          | false => rfl
          | true => exact absurd ⟨hv1, h60, h⟩ hpre
        clear hpre
        go_enter Try.func31, Try.ntmps31
        go_wp2_with (first | (go_at_call 35; refine hp1.mono ?_; rintro e w1 ⟨rfl, hb1⟩; have hd1 := hb0.trans (hb1.mono hb0.size)) | (go_at_call 36; refine (l1In_any _ _ _ _).mono ?_; rw [hway]; rintro e w3 ⟨rfl, rfl⟩))
        go_ret
        exact RetOwn.mk (own_below hlit0 hd1) (hbl.trans (hd1.mono hbl.size))
      · have h60' : (60 : Int) < (n3 : Int) := by omega
        clear hpre
        go_enter Try.func31, Try.ntmps31
        go_wp2_with (go_at_call 35; refine hp1.mono ?_; rintro e w1 ⟨rfl, hb1⟩; have hd1 := hb0.trans (hb1.mono hb0.size))
        go_ret
        exact RetOwn.mk (own_below hlit0 hd1) (hbl.trans (hd1.mono hbl.size))
    · rw [Bool.eq_false_iff.2 hv1] at hp1
      clear hpre hv1
      go_enter Try.func31, Try.ntmps31
      go_wp2_with (go_at_call 35; refine hp1.mono ?_; rintro e w1 ⟨rfl, hb1⟩; have hd1 := hb0.trans (hb1.mono hb0.size))
      go_ret
      exact RetOwn.mk (own_below hlit0 hd1) (hbl.trans (hd1.mono hbl.size))
end Go.Proofs.Ytfobcggcilbgbaa
