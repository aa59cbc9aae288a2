/-
  find, FindFlow, ChooseHost of the program, where the flow has an entry whose host is not down.
-/
import Derived.Test.YtgdcfhifiincaaaDrnL
import Derived.Test.YtgdcfhifiincaaaEvValid0
import Derived.Test.YtgdcfhifiincaaaMixB
import Derived.Test.YtgdcfhifiincaaaHostAt0
import Derived.Test.YtgdcfhifiincaaaTabI
import Derived.Deep.CutBlock
namespace Go.Proofs.Ytgdcfhifiincaaa
open Go.RowKit
set_option linter.unusedVariables false

set_option maxHeartbeats 800000 in
theorem closE_any (x1 x2 x3 x4 x5 xt xl f1 f2 f3 f4 f5 : Int) (g : Nat) (w : World) (hc : Blk w g 54 #[.int .i64 f1, .int .i64 f2, .int .i64 f3, .int .i64 f4, .int .i64 f5]) :
    Calls Try.prog 76 #[.agg #[.int .i64 x1, .int .i64 x2, .int .i64 x3, .int .i64 x4, .int .i64 x5, .int .i64 xt, .int .i64 xl], .pointer (some ⟨g, 0, none⟩)] w fun e w' => e = .returned (.bool (sameF ⟨x1, x2, x3, x4, x5, xt, xl⟩ ⟨f1, f2, f3, f4, f5, 0, 0⟩)) ∧ Below w.heap.size w w' := by
  have hg := hc.lt
  have d0 : w.cell? ⟨g, 0, none⟩ = some (.int .i64 f1) := hc.cell 0
  have d1 : w.cell? ⟨g, 1, none⟩ = some (.int .i64 f2) := hc.cell 1
  have d2 : w.cell? ⟨g, 2, none⟩ = some (.int .i64 f3) := hc.cell 2
  have d3 : w.cell? ⟨g, 3, none⟩ = some (.int .i64 f4) := hc.cell 3
  have d4 : w.cell? ⟨g, 4, none⟩ = some (.int .i64 f5) := hc.cell 4
  have b0 := (Below.refl w.heap.size w).alloc (Nat.le_refl _) (.cells #[.int .i64 x1, .int .i64 x2, .int .i64 x3, .int .i64 x4, .int .i64 x5, .int .i64 xt, .int .i64 xl] 56)
  by_cases hs : sameF ⟨x1, x2, x3, x4, x5, xt, xl⟩ ⟨f1, f2, f3, f4, f5, 0, 0⟩ = true
  · have HS := Lib.hid hs
    obtain ⟨e1, e2, e3, e4, e5⟩ := sameF_iff.1 hs
    simp only at e1 e2 e3 e4 e5
    subst e1 e2 e3 e4 e5
    clear hs
    go_enter Try.func76, Try.ntmps76
    go_wp2
    go_ret
    exact ⟨ret_bool HS.out.symm, b0⟩
  · have HS := Lib.hid (Bool.eq_false_iff.2 hs)
    have hs' : ¬ (x1 = f1 ∧ x2 = f2 ∧ x3 = f3 ∧ x4 = f4 ∧ x5 = f5) := fun h => hs (sameF_iff.2 h)
    clear hs
    have hcs : (x1 == f1) = false ∨ (x1 = f1 ∧ ((x2 == f2) = false ∨ (x2 = f2 ∧ ((x3 == f3) = false ∨ (x3 = f3 ∧ ((x4 == f4) = false ∨ (x4 = f4 ∧ (x5 == f5) = false))))))) := by simp; omega
    clear hs'
    rcases hcs with h | ⟨rfl, h | ⟨rfl, h | ⟨rfl, h | ⟨rfl, h⟩⟩⟩⟩
    all_goals
      go_enter Try.func76, Try.ntmps76
      go_wp2
      go_ret
      exact ⟨ret_bool HS.out.symm, b0⟩
set_option maxRecDepth 100000 in
set_option maxHeartbeats 800000 in
theorem indexE_any (A : Option Addr) (n c : Nat) (es : List En7) (f1 f2 f3 f4 f5 : Int) (g : Nat) (w : World) {lo hi : Nat} (hS : Sl w lo hi 7 A n (ensV es)) (hhi : hi ≤ w.heap.size) (hn : n ≤ 1048577) (hc : Blk w g 54 #[.int .i64 f1, .int .i64 f2, .int .i64 f3, .int .i64 f4, .int .i64 f5]) :
    Calls Try.prog 75 #[.slice A n c, .func (.func 76) #[] #[.pointer (some ⟨g, 0, none⟩)]] w fun e w' => e = .returned (.int .i64 (plF es ⟨f1, f2, f3, f4, f5, 0, 0⟩)) ∧ Below w.heap.size w w' := by
  have HL := Lib.hid hS.nlen
  have hg : g < w.heap.size := hc.lt
  go_enter Try.func75, Try.ntmps75
  go_wp2
  go_loopw [8] (fun i wr => ∃ k : Nat, k ≤ n ∧ i = .int .i64 k ∧ (∀ j, j < k → sameF (enAt es j) ⟨f1, f2, f3, f4, f5, 0, 0⟩ = false) ∧ Below w.heap.size w wr) (fun i _ => n - (intOf i).toNat)
  case atStart => exact ⟨0, Nat.zero_le _, rfl, fun j hj => absurd hj (by omega), Below.refl _ _⟩
  case round =>
    obtain ⟨k, hk, rfl, hj, hb⟩ := hrel
    have hz := hb.size
    by_cases hlt : k < n
    · obtain ⟨b, off, rfl, _, _, c0, c1, c2, c3, c4, c5, c6⟩ := (hS.below hb hhi).en hlt
      have hlk : k < es.length := by rw [HL.out]; exact hlt
      have hcr := hc.below hb hg
      have HF := Lib.hid (fun (h : sameF (enAt es k) ⟨f1, f2, f3, f4, f5, 0, 0⟩ = true) => plF_found hlk hj h)
      have HN : RowKit.Hid (sameF (enAt es k) ⟨f1, f2, f3, f4, f5, 0, 0⟩ = false → ∀ j, j < k + 1 → sameF (enAt es j) ⟨f1, f2, f3, f4, f5, 0, 0⟩ = false) := Lib.hid fun h j hj' => by
        rcases Nat.lt_or_ge j k with h1 | h1
        · exact hj j h1
        · obtain rfl : j = k := by omega
          exact h
      obtain ⟨⟨x1, x2, x3, x4, x5, xt, xl⟩, hh⟩ : ∃ p, enAt es k = p := ⟨_, rfl⟩
      rw [hh] at c0 c1 c2 c3 c4 c5 c6 HF HN
      simp only at c0 c1 c2 c3 c4 c5 c6
      have hki : (0 : Int) ≤ (k : Int) := by omega
      have hki2 : (k : Int) < (n : Int) := by omega
      clear hh hj
      by_cases he : sameF ⟨x1, x2, x3, x4, x5, xt, xl⟩ ⟨f1, f2, f3, f4, f5, 0, 0⟩ = true
      · have HE := Lib.hid (HF.out he)
        have HB := Lib.hid he
        clear he HF HN
        go_wp2_with fail
        refine (closE_any _ _ _ _ _ _ _ _ _ _ _ _ g _ hcr).mono ?_
        rw [HB.out]
        rintro e w1 ⟨rfl, hb1⟩
        go_wp2
        go_ret
        exact ⟨ret_int HE.out.symm, hb.trans (hb1.mono hz)⟩
      · have HE := Lib.hid (HN.out (Bool.eq_false_iff.2 he))
        have HB := Lib.hid (Bool.eq_false_iff.2 he)
        clear he HF HN
        go_wp2_with fail
        refine (closE_any _ _ _ _ _ _ _ _ _ _ _ _ g _ hcr).mono ?_
        rw [HB.out]
        rintro e w1 ⟨rfl, hb1⟩
        go_wp2
        go_roundw
        case rel => exact ⟨k + 1, by omega, by go_num, HE.out, hb.trans (hb1.mono hz)⟩
        case measure => simp [intOf]; omega
    · obtain rfl : n = k := by omega
      have HE := Lib.hid (plF_none (es := es) (e := ⟨f1, f2, f3, f4, f5, 0, 0⟩) (by rw [HL.out]; exact hj))
      go_wp2
      go_ret
      exact ⟨ret_int HE.out.symm, hb⟩
theorem findT_any (sz st : Int) (A : Option Addr) (n c : Nat) (es : List En7) (f1 f2 f3 f4 f5 : Int) (w : World) {lo hi : Nat} (hS : Sl w lo hi 7 A n (ensV es)) (hhi : hi ≤ w.heap.size) (hn : n ≤ 1048577) :
    Calls Try.prog 67 #[.agg #[.int .i64 sz, .int .i64 st, .slice A n c], .agg #[.int .i64 f1, .int .i64 f2, .int .i64 f3, .int .i64 f4, .int .i64 f5]] w fun e w' => e = .returned (.int .i64 (plF es ⟨f1, f2, f3, f4, f5, 0, 0⟩)) ∧ Below w.heap.size w w' := by
  have b0 := ((Below.refl w.heap.size w).alloc (Nat.le_refl _) (.cells #[.int .i64 sz, .int .i64 st, .slice A n c] 34)).alloc (by simp) (.cells #[.int .i64 f1, .int .i64 f2, .int .i64 f3, .int .i64 f4, .int .i64 f5] 54)
  have kF := Blk.new (w.alloc (.cells #[.int .i64 sz, .int .i64 st, .slice A n c] 34)) 54 #[.int .i64 f1, .int .i64 f2, .int .i64 f3, .int .i64 f4, .int .i64 f5]
  have s0 := (hS.alloc hhi (.cells #[.int .i64 sz, .int .i64 st, .slice A n c] 34)).alloc (by simp; omega) (.cells #[.int .i64 f1, .int .i64 f2, .int .i64 f3, .int .i64 f4, .int .i64 f5] 54)
  have hcon := indexE_any A n c es f1 f2 f3 f4 f5 _ _ s0 (by simp; omega) hn kF
  simp only [World.size_alloc] at hcon
  go_enter Try.func67, Try.ntmps67
  go_wp2_with fail
  refine hcon.mono ?_
  rintro e w1 ⟨rfl, hb1⟩
  go_wp2
  go_ret
  exact ⟨rfl, b0.trans (hb1.mono (by omega))⟩
set_option maxRecDepth 100000 in
set_option maxHeartbeats 1600000 in
theorem iFind_yes (sz st : Int) (A : Option Addr) (n c : Nat) (es : List En7) (f1 f2 f3 f4 f5 t : Int) (w : World) {lo hi k : Nat} (hS : Sl w lo hi 7 A n (ensV es)) (hhi : hi ≤ w.heap.size) (hn : n ≤ 1048577) (hv : tabV sz st es = true) (hk : k < n) (hp : plF es ⟨f1, f2, f3, f4, f5, 0, 0⟩ = (k : Int)) (ht : (enAt es k).t = t) :
    Calls Try.prog 51 #[.agg #[.int .i64 sz, .int .i64 st, .slice A n c], .agg #[.int .i64 f1, .int .i64 f2, .int .i64 f3, .int .i64 f4, .int .i64 f5]] w fun e w' => e = .returned (.int .i64 t) ∧ Below w.heap.size w w' := by
  have b0 := ((Below.refl w.heap.size w).alloc (Nat.le_refl _) (.cells #[.int .i64 sz, .int .i64 st, .slice A n c] 34)).alloc (by simp) (.cells #[.int .i64 f1, .int .i64 f2, .int .i64 f3, .int .i64 f4, .int .i64 f5] 54)
  have kT := (Blk.new w 34 #[.int .i64 sz, .int .i64 st, .slice A n c]).alloc (.cells #[.int .i64 f1, .int .i64 f2, .int .i64 f3, .int .i64 f4, .int .i64 f5] 54)
  have kF := Blk.new (w.alloc (.cells #[.int .i64 sz, .int .i64 st, .slice A n c] 34)) 54 #[.int .i64 f1, .int .i64 f2, .int .i64 f3, .int .i64 f4, .int .i64 f5]
  have s0 := (hS.alloc hhi (.cells #[.int .i64 sz, .int .i64 st, .slice A n c] 34)).alloc (by simp; omega) (.cells #[.int .i64 f1, .int .i64 f2, .int .i64 f3, .int .i64 f4, .int .i64 f5] 54)
  simp only [World.size_alloc] at kF
  have hcon := iTab_any sz st A n c es _ s0 (by simp; omega) hn
  rw [hv] at hcon
  have hFD0 : ∀ wx, Below w.heap.size w wx → Calls Try.prog 67 #[.agg #[.int .i64 sz, .int .i64 st, .slice A n c], .agg #[.int .i64 f1, .int .i64 f2, .int .i64 f3, .int .i64 f4, .int .i64 f5]] wx fun e w' => e = .returned (.int .i64 (k : Int)) ∧ Below wx.heap.size wx w' := fun wx hb => by
    have := findT_any sz st A n c es f1 f2 f3 f4 f5 wx (hS.below hb hhi) (Nat.le_trans hhi hb.size) hn
    rwa [hp] at this
  clear hp hv
  obtain ⟨wA, hwA⟩ : ∃ wA, wA = (w.alloc (.cells #[.int .i64 sz, .int .i64 st, .slice A n c] 34)).alloc (.cells #[.int .i64 f1, .int .i64 f2, .int .i64 f3, .int .i64 f4, .int .i64 f5] 54) := ⟨_, rfl⟩
  rw [← hwA] at b0 kT kF s0 hcon
  obtain ⟨t0, t1, t2⟩ : wA.cell? ⟨w.heap.size, 0, none⟩ = some (.int .i64 sz) ∧ wA.cell? ⟨w.heap.size, 1, none⟩ = some (.int .i64 st) ∧ wA.cell? ⟨w.heap.size, 2, none⟩ = some (.slice A n c) := ⟨kT.cell 0, kT.cell 1, kT.cell 2⟩
  rw [hwA] at t0 t1 t2
  go_enter Try.func51, Try.ntmps51
  go_wp2_with fail
  rw [← hwA] at t0 t1 t2 ⊢
  refine hcon.mono ?_
  rintro e w1 ⟨rfl, b1⟩
  have d1 := b0.trans (b1.mono b0.size)
  have kT1 := kT.below b1 kT.lt
  have kF1 := kF.below b1 kF.lt
  clear t0 t1 t2 hcon hwA
  obtain ⟨t0, t1, t2⟩ : w1.cell? ⟨w.heap.size, 0, none⟩ = some (.int .i64 sz) ∧ w1.cell? ⟨w.heap.size, 1, none⟩ = some (.int .i64 st) ∧ w1.cell? ⟨w.heap.size, 2, none⟩ = some (.slice A n c) := ⟨kT1.cell 0, kT1.cell 1, kT1.cell 2⟩
  obtain ⟨u0, u1, u2, u3, u4⟩ : w1.cell? ⟨w.heap.size + 1, 0, none⟩ = some (.int .i64 f1) ∧ w1.cell? ⟨w.heap.size + 1, 1, none⟩ = some (.int .i64 f2) ∧ w1.cell? ⟨w.heap.size + 1, 2, none⟩ = some (.int .i64 f3) ∧ w1.cell? ⟨w.heap.size + 1, 3, none⟩ = some (.int .i64 f4) ∧ w1.cell? ⟨w.heap.size + 1, 4, none⟩ = some (.int .i64 f5) := ⟨kF1.cell 0, kF1.cell 1, kF1.cell 2, kF1.cell 3, kF1.cell 4⟩
  go_wp2_with fail
  refine (hFD0 _ d1).mono ?_
  rintro e w2 ⟨rfl, b2⟩
  have d2 := d1.trans (b2.mono d1.size)
  have kT2 := kT1.below b2 kT1.lt
  have kF2 := kF1.below b2 kF1.lt
  have hz2 := d2.size
  have hk0 : decide ((k : Int) < 0) = false := decide_eq_false (by omega)
  obtain ⟨b, off, rfl, _, _, _, _, _, _, _, ct, _⟩ := (hS.below d2 hhi).en hk
  rw [ht] at ct
  clear t0 t1 t2 u0 u1 u2 u3 u4 kT kF kT1 kF1 s0
  obtain ⟨t0, t1, t2, _⟩ : w2.cell? ⟨w.heap.size, 0, none⟩ = some (.int .i64 sz) ∧ w2.cell? ⟨w.heap.size, 0 + 1, none⟩ = some (.int .i64 st) ∧ w2.cell? ⟨w.heap.size, 0 + 2, none⟩ = some (.slice (some ⟨b, off, none⟩) n c) ∧ True := ⟨kT2.cell 0, kT2.cell 1, kT2.cell 2, trivial⟩
  have t2b := t2
  obtain ⟨u0, u1, u2, u3, u4⟩ : w2.cell? ⟨w.heap.size + 1, 0, none⟩ = some (.int .i64 f1) ∧ w2.cell? ⟨w.heap.size + 1, 0 + 1, none⟩ = some (.int .i64 f2) ∧ w2.cell? ⟨w.heap.size + 1, 0 + 2, none⟩ = some (.int .i64 f3) ∧ w2.cell? ⟨w.heap.size + 1, 0 + 3, none⟩ = some (.int .i64 f4) ∧ w2.cell? ⟨w.heap.size + 1, 0 + 4, none⟩ = some (.int .i64 f5) := ⟨kF2.cell 0, kF2.cell 1, kF2.cell 2, kF2.cell 3, kF2.cell 4⟩
  have hFD : ∀ wx, GrF (fun _ => False) w2.drew wx → Calls Try.prog 67 #[.agg #[.int .i64 sz, .int .i64 st, .slice (some ⟨b, off, none⟩) n c], .agg #[.int .i64 f1, .int .i64 f2, .int .i64 f3, .int .i64 f4, .int .i64 f5]] wx fun e w' => e = .returned (.int .i64 (k : Int)) ∧ Below wx.heap.size wx w' := fun wx hG => hFD0 wx (New.below (w := w2.drew) hG d2.drew (by show w.heap.size ≤ w2.heap.size; omega))
  have hki2 : (k : Int) < (n : Int) := by omega
  go_upto_region 3 with fail
  obtain ⟨L, hL⟩ : ∃ L : List (Nat × VT), L = [(2, tLit (.pointer (some ⟨w.heap.size, 0, none⟩))), (3, tLit (.pointer (some ⟨w.heap.size + 1, 0, none⟩))), (14, tLit (.pointer (some ⟨w.heap.size, 0 + 2, none⟩))), (15, tLit (.slice (some ⟨b, off, none⟩) (n) (c))), (16, tLit (.agg #[.int .i64 sz, .int .i64 st, .slice (some ⟨b, off, none⟩) n c])), (17, tLit (.agg #[.int .i64 f1, .int .i64 f2, .int .i64 f3, .int .i64 f4, .int .i64 f5])), (18, tLit (.int .i64 ((k : Int)))), (19, tLit (.pointer (some ⟨b, off + k * 7, none⟩))), (20, tLit (.pointer (some ⟨b, off + k * 7 + 5, none⟩))), (21, tLit (.int .i64 (t))), (4, tLit (.int .i64 (t)))] := ⟨_, rfl⟩
  have V2 : L.lookup 2 = some (tLit (.pointer (some ⟨w.heap.size, 0, none⟩))) := by rw [hL]; rfl
  have V3 : L.lookup 3 = some (tLit (.pointer (some ⟨w.heap.size + 1, 0, none⟩))) := by rw [hL]; rfl
  have V14 : L.lookup 14 = some (tLit (.pointer (some ⟨w.heap.size, 0 + 2, none⟩))) := by rw [hL]; rfl
  have V15 : L.lookup 15 = some (tLit (.slice (some ⟨b, off, none⟩) (n) (c))) := by rw [hL]; rfl
  have V16 : L.lookup 16 = some (tLit (.agg #[.int .i64 sz, .int .i64 st, .slice (some ⟨b, off, none⟩) n c])) := by rw [hL]; rfl
  have V17 : L.lookup 17 = some (tLit (.agg #[.int .i64 f1, .int .i64 f2, .int .i64 f3, .int .i64 f4, .int .i64 f5])) := by rw [hL]; rfl
  have V18 : L.lookup 18 = some (tLit (.int .i64 ((k : Int)))) := by rw [hL]; rfl
  have V19 : L.lookup 19 = some (tLit (.pointer (some ⟨b, off + k * 7, none⟩))) := by rw [hL]; rfl
  have V20 : L.lookup 20 = some (tLit (.pointer (some ⟨b, off + k * 7 + 5, none⟩))) := by rw [hL]; rfl
  have V21 : L.lookup 21 = some (tLit (.int .i64 (t))) := by rw [hL]; rfl
  have V4 : L.lookup 4 = some (tLit (.int .i64 (t))) := by rw [hL]; rfl
  have HK : KeepL L := by rw [hL]; exact ⟨keep_lit _, keep_lit _, keep_lit _, keep_lit _, keep_lit _, keep_lit _, keep_lit _, keep_lit _, keep_lit _, keep_lit _, keep_lit _, trivial⟩
  refine wp_region_mix0 (by kernel_rfl) L 9 rfl [some 14, some 15, some 16, some 17, some 18, some 19, some 20, some 21, some 4] (by kernel_rfl) (by kernel_rfl) (by kernel_rfl) 2 (by rw [hL]; intro x hx; simp only [List.take_succ_cons, List.take_zero, List.mem_cons, List.not_mem_nil, or_false] at hx; rcases hx with rfl | rfl <;> rfl) (by rw [hL]; rfl) ?_ ?_
  · clear hL
    exact ⟨m_field HK gokm_none (f := 2) (s := 1) (by kernel_rfl) (by omega) (om_tmp V2) rfl V14,
      m_load1 HK gokm_none (by kernel_rfl) (om_tmp V14) t2b V15,
      m_loadn HK gokm_none (by kernel_rfl) (by kernel_rfl) (om_tmp V2) (by intro j v hj; rcases j with _ | _ | _ | j <;> simp at hj <;> subst hj <;> assumption) V16,
      m_loadn HK gokm_none (by kernel_rfl) (by kernel_rfl) (om_tmp V3) (by intro j v hj; rcases j with _ | _ | _ | _ | _ | j <;> simp at hj <;> subst hj <;> assumption) V17,
      m_call HK gokm_none Try.func67 (by kernel_rfl) (by kernel_rfl) V18 (fun o b' wx hm hG ho => by
        have e1 : b'.eval (.tmp 16) = .agg #[.int .i64 sz, .int .i64 st, .slice (some ⟨b, off, none⟩) n c] := (om_tmp V16) o b' wx (hm _ (by simp)) ho
        have e2 : b'.eval (.tmp 17) = .agg #[.int .i64 f1, .int .i64 f2, .int .i64 f3, .int .i64 f4, .int .i64 f5] := (om_tmp V17) o b' wx (hm _ (by simp)) ho
        rw [show (#[.tmp 16, .tmp 17] : Array Operand).map b'.eval = #[.agg #[.int .i64 sz, .int .i64 st, .slice (some ⟨b, off, none⟩) n c], .agg #[.int .i64 f1, .int .i64 f2, .int .i64 f3, .int .i64 f4, .int .i64 f5]] from by simp [e1, e2]]
        exact (hFD wx hG).mono fun e w' h => ⟨_, h.1, New.of_below h.2, rfl⟩),
      m_index HK gokm_none (s := 7) (by kernel_rfl) (by omega) (by omega) (om_tmp V15) (om_tmp V18) (by simp) V19,
      m_field HK gokm_none (f := 5) (s := 1) (by kernel_rfl) (by omega) (om_tmp V19) rfl V20,
      m_load1 HK gokm_none (by kernel_rfl) (om_tmp V20) ct V21,
      m_assign HK gokm_none (om_tmp V21) V4,
      trivial⟩
  intro vs w5 hw5 hk5
  have k14 : vs 14 = .pointer (some ⟨w.heap.size, 0 + 2, none⟩) := hk5 0 14 _ (by omega) rfl V14
  have k15 : vs 15 = .slice (some ⟨b, off, none⟩) (n) (c) := hk5 1 15 _ (by omega) rfl V15
  have k16 : vs 16 = .agg #[.int .i64 sz, .int .i64 st, .slice (some ⟨b, off, none⟩) n c] := hk5 2 16 _ (by omega) rfl V16
  have k17 : vs 17 = .agg #[.int .i64 f1, .int .i64 f2, .int .i64 f3, .int .i64 f4, .int .i64 f5] := hk5 3 17 _ (by omega) rfl V17
  have k18 : vs 18 = .int .i64 ((k : Int)) := hk5 4 18 _ (by omega) rfl V18
  have k19 : vs 19 = .pointer (some ⟨b, off + k * 7, none⟩) := hk5 5 19 _ (by omega) rfl V19
  have k20 : vs 20 = .pointer (some ⟨b, off + k * 7 + 5, none⟩) := hk5 6 20 _ (by omega) rfl V20
  have k21 : vs 21 = .int .i64 (t) := hk5 7 21 _ (by omega) rfl V21
  have k4 : vs 4 = .int .i64 (t) := hk5 8 4 _ (by omega) rfl V4
  clear hk5 HK hL V2 V3 V14 V15 V16 V17 V18 V19 V20 V21 V4
  simp only [putL, Act.put, List.setIfInBounds_toArray, List.set_cons_zero, List.set_cons_succ, k14, k15, k16, k17, k18, k19, k20, k21, k4]
  clear k14 k15 k16 k17 k18 k19 k20 k21 k4
  have d5 := New.below hw5 d2 (by omega)
  go_wp2
  go_ret
  exact ⟨rfl, d5⟩
set_option maxRecDepth 100000 in
set_option maxHeartbeats 1600000 in
theorem iChoose_yes (A1 : Option Addr) (n1 c1 : Nat) (hs : List H3) (sz st : Int) (A : Option Addr) (n c : Nat) (es : List En7) (f1 f2 f3 f4 f5 t : Int) (w : World) {lo1 hi1 lo hi k : Nat} (hP : Sl w lo1 hi1 3 A1 n1 (hostsV hs)) (hhi1 : hi1 ≤ w.heap.size) (hn1 : n1 ≤ 1048576) (hS : Sl w lo hi 7 A n (ensV es)) (hhi : hi ≤ w.heap.size) (hn : n ≤ 1048577) (hpv : poolV hs = true) (hv : tabV sz st es = true) (hf : flowV f1 f2 f3 f4 f5 = true) (hk : k < n) (hp : plF es ⟨f1, f2, f3, f4, f5, 0, 0⟩ = (k : Int)) (ht : (enAt es k).t = t) (ht0 : 0 ≤ t) (hst : stH hs t ≠ 0) :
    Calls Try.prog 32 #[.slice A1 n1 c1, .agg #[.int .i64 sz, .int .i64 st, .slice A n c], .agg #[.int .i64 f1, .int .i64 f2, .int .i64 f3, .int .i64 f4, .int .i64 f5]] w fun e w' => e = .returned (.int .i64 t) ∧ Below w.heap.size w w' := by
  have b0 := ((Below.refl w.heap.size w).alloc (Nat.le_refl _) (.cells #[.int .i64 sz, .int .i64 st, .slice A n c] 34)).alloc (by simp) (.cells #[.int .i64 f1, .int .i64 f2, .int .i64 f3, .int .i64 f4, .int .i64 f5] 54)
  have kT := (Blk.new w 34 #[.int .i64 sz, .int .i64 st, .slice A n c]).alloc (.cells #[.int .i64 f1, .int .i64 f2, .int .i64 f3, .int .i64 f4, .int .i64 f5] 54)
  have kF := Blk.new (w.alloc (.cells #[.int .i64 sz, .int .i64 st, .slice A n c] 34)) 54 #[.int .i64 f1, .int .i64 f2, .int .i64 f3, .int .i64 f4, .int .i64 f5]
  have p0 := (hP.alloc hhi1 (.cells #[.int .i64 sz, .int .i64 st, .slice A n c] 34)).alloc (by simp; omega) (.cells #[.int .i64 f1, .int .i64 f2, .int .i64 f3, .int .i64 f4, .int .i64 f5] 54)
  simp only [World.size_alloc] at kF
  have hcon := iPoolValid_any A1 n1 c1 hs _ p0 (by simp; omega) hn1
  rw [hpv] at hcon
  have hTV : ∀ wx, Below w.heap.size w wx → Calls Try.prog 25 #[.agg #[.int .i64 sz, .int .i64 st, .slice A n c]] wx fun e w' => e = .returned (.bool true) ∧ Below wx.heap.size wx w' := fun wx hb => by
    have := iTab_any sz st A n c es wx (hS.below hb hhi) (Nat.le_trans hhi hb.size) hn
    rwa [hv] at this
  have hFF : ∀ wx, Below w.heap.size w wx → Calls Try.prog 51 #[.agg #[.int .i64 sz, .int .i64 st, .slice A n c], .agg #[.int .i64 f1, .int .i64 f2, .int .i64 f3, .int .i64 f4, .int .i64 f5]] wx fun e w' => e = .returned (.int .i64 t) ∧ Below wx.heap.size wx w' := fun wx hb => iFind_yes sz st A n c es f1 f2 f3 f4 f5 t wx (hS.below hb hhi) (Nat.le_trans hhi hb.size) hn hv hk hp ht
  have hHS : ∀ wx, Below w.heap.size w wx → Calls Try.prog 22 #[.slice A1 n1 c1, .int .i64 t] wx fun e w' => e = .returned (.int .i64 (stH hs t)) ∧ Below wx.heap.size wx w' := fun wx hb => iHostState_any A1 n1 c1 hs t wx (hP.below hb hhi1) (Nat.le_trans hhi1 hb.size) hn1
  obtain ⟨s, hs0⟩ : ∃ s, stH hs t = s := ⟨_, rfl⟩
  rw [hs0] at hHS hst
  have hsn : (s != 0) = true := by simpa using hst
  have htb : decide (0 ≤ t) = true := decide_eq_true ht0
  clear hs0 hp ht hpv hv hst
  obtain ⟨wA, hwA⟩ : ∃ wA, wA = (w.alloc (.cells #[.int .i64 sz, .int .i64 st, .slice A n c] 34)).alloc (.cells #[.int .i64 f1, .int .i64 f2, .int .i64 f3, .int .i64 f4, .int .i64 f5] 54) := ⟨_, rfl⟩
  rw [← hwA] at b0 kT kF p0 hcon
  go_enter Try.func32, Try.ntmps32
  go_wp2_with fail
  rw [← hwA]
  refine hcon.mono ?_
  rintro e w1 ⟨rfl, b1⟩
  have d1 := b0.trans (b1.mono b0.size)
  have kT1 := kT.below b1 kT.lt
  have kF1 := kF.below b1 kF.lt
  clear hcon hwA kT kF p0
  obtain ⟨t0, t1, t2⟩ : w1.cell? ⟨w.heap.size, 0, none⟩ = some (.int .i64 sz) ∧ w1.cell? ⟨w.heap.size, 1, none⟩ = some (.int .i64 st) ∧ w1.cell? ⟨w.heap.size, 2, none⟩ = some (.slice A n c) := ⟨kT1.cell 0, kT1.cell 1, kT1.cell 2⟩
  go_wp2_with fail
  refine (hTV _ d1).mono ?_
  rintro e w2 ⟨rfl, b2⟩
  have d2 := d1.trans (b2.mono d1.size)
  have kT2 := kT1.below b2 kT1.lt
  have kF2 := kF1.below b2 kF1.lt
  clear t0 t1 t2 kT1 kF1
  obtain ⟨u0, u1, u2, u3, u4⟩ : w2.cell? ⟨w.heap.size + 1, 0, none⟩ = some (.int .i64 f1) ∧ w2.cell? ⟨w.heap.size + 1, 1, none⟩ = some (.int .i64 f2) ∧ w2.cell? ⟨w.heap.size + 1, 2, none⟩ = some (.int .i64 f3) ∧ w2.cell? ⟨w.heap.size + 1, 3, none⟩ = some (.int .i64 f4) ∧ w2.cell? ⟨w.heap.size + 1, 4, none⟩ = some (.int .i64 f5) := ⟨kF2.cell 0, kF2.cell 1, kF2.cell 2, kF2.cell 3, kF2.cell 4⟩
  go_wp2_with fail
  refine (iFlow_is _ _ _ _ _ _).mono ?_
  rw [hf]
  rintro e w3 ⟨rfl, hw3⟩
  have d3 : Below w.heap.size w w3 := by rw [hw3]; exact d2.alloc d2.size _
  have kT3 : Blk w3 w.heap.size 34 #[.int .i64 sz, .int .i64 st, .slice A n c] := by rw [hw3]; exact kT2.alloc _
  have kF3 : Blk w3 (w.heap.size + 1) 54 #[.int .i64 f1, .int .i64 f2, .int .i64 f3, .int .i64 f4, .int .i64 f5] := by rw [hw3]; exact kF2.alloc _
  clear hw3 u0 u1 u2 u3 u4 kT2 kF2
  obtain ⟨t0, t1, t2⟩ : w3.cell? ⟨w.heap.size, 0, none⟩ = some (.int .i64 sz) ∧ w3.cell? ⟨w.heap.size, 1, none⟩ = some (.int .i64 st) ∧ w3.cell? ⟨w.heap.size, 2, none⟩ = some (.slice A n c) := ⟨kT3.cell 0, kT3.cell 1, kT3.cell 2⟩
  obtain ⟨u0, u1, u2, u3, u4⟩ : w3.cell? ⟨w.heap.size + 1, 0, none⟩ = some (.int .i64 f1) ∧ w3.cell? ⟨w.heap.size + 1, 1, none⟩ = some (.int .i64 f2) ∧ w3.cell? ⟨w.heap.size + 1, 2, none⟩ = some (.int .i64 f3) ∧ w3.cell? ⟨w.heap.size + 1, 3, none⟩ = some (.int .i64 f4) ∧ w3.cell? ⟨w.heap.size + 1, 4, none⟩ = some (.int .i64 f5) := ⟨kF3.cell 0, kF3.cell 1, kF3.cell 2, kF3.cell 3, kF3.cell 4⟩
  go_wp2_with fail
  refine (hFF _ d3).mono ?_
  rintro e w4 ⟨rfl, b4⟩
  have d4 := d3.trans (b4.mono d3.size)
  clear t0 t1 t2 u0 u1 u2 u3 u4
  go_wp2_with fail
  refine (hHS _ d4).mono ?_
  rintro e w5 ⟨rfl, b5⟩
  have d5 := d4.trans (b5.mono d4.size)
  go_wp2_with fail
  go_ret
  exact ⟨rfl, d5⟩
end Go.Proofs.Ytgdcfhifiincaaa
