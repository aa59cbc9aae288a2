/-
  l20Table: a table of flows drawn by a reader.
-/
import Derived.Test.YtgdcfhifiincaaaTWide
import Derived.Deep.CutBlock
namespace Go.Proofs.Ytgdcfhifiincaaa
open Go.RowKit
set_option linter.unusedVariables false

theorem dw_set3 {W w : World} {g P q : Nat} (h : Dw W g P w) (hq : W.heap.size ≤ q) (x0 x1 x2 : Value) : Dw W g P (set3 w q x0 x1 x2) := ((h.setCell (p := ⟨q, 0, none⟩) hq x0).setCell (p := ⟨q, 1, none⟩) hq x1).setCell (p := ⟨q, 2, none⟩) hq x2
theorem blk_sl {w : World} {b size n : Nat} {e : TypeId} {cs : Array Value} (h : Blk w b e cs) (hn : cs.size = n * size) : Sl w b (b + 1) size (some ⟨b, 0, none⟩) n cs.toList := by
  refine ⟨by simpa using hn, fun _ => ⟨b, 0, rfl, Nat.le_refl _, by omega, fun j u hu => ?_⟩⟩
  rw [h.cell]
  simpa using hu
theorem infoSE : (Try.prog.info? 32).map (fun i => (i.zero, i.size, i.bytes)) = some (some (.slice none 0 0), 1, 24) := by kernel_rfl
theorem enC_ones (e : En7) : ∀ u ∈ (enC e).toArray.toList, u.oneCell' = true := by
  intro u hu
  simp [enC] at hu
  rcases hu with rfl | rfl | rfl | rfl | rfl | rfl | rfl <;> rfl
theorem ensV_one (es : List En7) (e : En7) : ensV es ++ (enC e).toArray.toList = ensV (es ++ [e]) := by
  show ensV es ++ _ = recV enC (es ++ [_])
  rw [recV_append]
  rfl
/-- A draw hands back a table. -/
def DrewTab (W : World) (g P : Nat) (e : Ending) (w' : World) : Prop :=
  ∃ (sz st : Int) (A : Option Addr) (n c : Nat) (es : List En7), e = .returned (.agg #[.int .i64 sz, .int .i64 st, .slice A n c]) ∧ n ≤ 8 ∧ n ≤ c ∧ c ≤ maxLen ∧ w'.ownsRow W.heap.size 56 7 (.slice A n c) n (ensV es) ∧ Dw W g P w'

set_option maxRecDepth 100000 in
set_option maxHeartbeats 6400000 in
theorem tab_any (g P : Nat) (A : Option Addr) (n c : Nat) (hs : List H3) (q : Int) (w : World) {lo hi : Nat} (h : Rd w g P) (hP : P ≤ 5000000) (hS : Sl w lo hi 3 A n (hostsV hs)) (hhi : hi ≤ w.heap.size) (hg : g < lo) (hn : n ≤ 1000) (hq0 : 0 ≤ q) (hq1 : q ≤ 1000) :
    Calls Try.prog 44 #[.pointer (some ⟨g, 0, none⟩), .slice A n c, .int .i64 q] w (DrewTab w g (P + 1000000)) := by
  have D := Dw.start h
  have hlt := D.lt
  obtain ⟨i0, hi0, hz0, hz1, hz2⟩ := info_parts infoEnt
  obtain ⟨it0, hit, hizt, hits, _⟩ := info_parts infoTab
  obtain ⟨is0, tis, tzs, tss, _⟩ := info_parts infoSE
  have tzc : (Value.agg #[.int .i64 0, .int .i64 0, .int .i64 0, .int .i64 0, .int .i64 0, .int .i64 0, .int .i64 0]).cells.size = 7 := by kernel_rfl
  go_enter Try.func44, Try.ntmps44
  go_wp2_with fail
  have D0 := D.alloc (.cells #[.int .i64 0, .int .i64 0, .slice none 0 0] 34)
  have K60 := Blk.new w 34 #[.int .i64 0, .int .i64 0, .slice none 0 0]
  refine (pick_any _ _ _ _ D0.rd (by omega) (by omega) (by omega)).mono ?_
  rintro e w1 ⟨a, a0, a1, rfl, hr1, hg1⟩
  have D1 := D0.picked hr1 hg1
  have K61 := K60.picked hg1 hlt
  clear D0 K60 hr1 hg1
  go_wp2_with fail
  refine (pick_any _ _ _ _ D1.rd (by omega) (by omega) (by omega)).mono ?_
  rintro e w2 ⟨b, b0, b1, rfl, hr2, hg2⟩
  have D2 := (D1.picked hr2 hg2).alloc (.cells #[.int .i64 10, .int .i64 50, .int .i64 (1 + b)] 3)
  have K62 := (K61.picked hg2 hlt).alloc (.cells #[.int .i64 10, .int .i64 50, .int .i64 (1 + b)] 3)
  have R2 := Blk.new w2 3 #[.int .i64 10, .int .i64 50, .int .i64 (1 + b)]
  have hgw2 : g < w2.heap.size := by have := (D1.picked hr2 hg2).size_; omega
  clear D1 K61 hr2 hg2
  go_wp2_with fail
  refine (pick_any _ _ _ _ D2.rd (by omega) (by omega) (by omega)).mono ?_
  rintro e w3 ⟨z, z0, z1, rfl, hr3, hg3⟩
  have D3 := D2.picked hr3 hg3
  have K63 := K62.picked hg3 hlt
  have R3 := R2.picked hg3 hgw2
  obtain ⟨st0, hst0⟩ : ∃ z' : Int, w3.cell? ⟨w2.heap.size, z.toNat, none⟩ = some (.int .i64 z') := by
    obtain ⟨i0, i1, i2, _⟩ := R3.three_
    have hc : z = 0 ∨ z = 1 ∨ z = 2 := by omega
    rcases hc with rfl | rfl | rfl
    · exact ⟨_, i0⟩
    · exact ⟨_, i1⟩
    · exact ⟨_, i2⟩
  replace z1 : z < 3 := by omega
  have hs3 := D3.size_
  have own3 := (World.ownsRow_lit (base := w.heap.size) (e := 56) (size := 7) w3 #[] 0 hs3 (by unfold maxLen; omega) (by simp)).alloc (.cells #[.int .i64 (1 + a), .int .i64 st0, .slice (some ⟨w3.heap.size, 0, none⟩) 0 0] 34)
  have D4 := (D3.alloc (.cells #[] 56)).alloc (.cells #[.int .i64 (1 + a), .int .i64 st0, .slice (some ⟨w3.heap.size, 0, none⟩) 0 0] 34)
  have K64 := (K63.alloc (.cells #[] 56)).alloc (.cells #[.int .i64 (1 + a), .int .i64 st0, .slice (some ⟨w3.heap.size, 0, none⟩) 0 0] 34)
  have K74 := Blk.new (w3.alloc (.cells #[] 56)) 34 #[.int .i64 (1 + a), .int .i64 st0, .slice (some ⟨w3.heap.size, 0, none⟩) 0 0]
  simp only [World.size_alloc] at K74
  clear D2 K62 R2 K63 R3 hr3 hg3
  go_wp2_with fail
  refine (pick_any _ _ _ _ D4.rd (by omega) (by omega) (by omega)).mono ?_
  rintro e w4 ⟨k0, hk0, hk1, rfl, hr4, hg4⟩
  have D5 := D4.picked hr4 hg4
  have K65 := K64.picked hg4 hlt
  have hgw3 : g < w3.heap.size + 1 := by omega
  have K75 := K74.picked hg4 hgw3
  have own5 := own_picked own3 hg4 hlt
  clear D3 D4 K64 K74 own3 hr4 hg4 hst0
  go_wp2_with fail
  go_loopw [8, 9] (fun nw i wr => ∃ (k p m1 : Nat) (now sz st : Int) (A1 : Option Addr) (c1 : Nat) (es : List En7), i = .int .i64 k ∧ k ≤ 7 ∧ m1 + k ≤ 7 ∧ p + 70000 * k ≤ P + 600000 ∧ nw = .int .i64 now ∧ 0 ≤ now ∧ now + 10 * k ≤ 100 ∧ m1 ≤ c1 ∧ c1 ≤ maxLen ∧ Blk wr (w3.heap.size + 1) 34 #[.int .i64 sz, .int .i64 st, .slice A1 m1 c1] ∧ wr.ownsRow w.heap.size 56 7 (.slice A1 m1 c1) m1 (ensV es) ∧ Blk wr w.heap.size 34 #[.int .i64 0, .int .i64 0, .slice none 0 0] ∧ Dw w g p wr) (fun _ i _ => (intOf i).toNat)
  case atStart => exact ⟨k0.toNat, _, 0, 0, _, _, _, 0, [], by rw [Int.toNat_of_nonneg hk0], by omega, by omega, by omega, rfl, by omega, by omega, Nat.le_refl _, by unfold maxLen; omega, K75, own5, K65, D5⟩
  case round =>
    clear D5 K65 K75 own5
    obtain ⟨k, p, m1, now, sz, st, A1, c1, es, rfl, hk, hm1, hp, rfl, n0, n1, hmc, hcM, K7, own, K6, D6⟩ := hrel
    have hr7g : ¬ (w3.heap.size + 1 = g) := by omega
    have hwr3 : w.heap.size ≠ w3.heap.size + 1 := by omega
    have hr3w : w3.heap.size + 1 ≠ w.heap.size := by omega
    by_cases hlt' : 0 < k
    · have hk1' : (0 : Int) < (k : Int) := by omega
      go_upto_region 6 with fail
      have hrd : Rd wr.drew g (p + 100 * (40 * 0)) := D6.rd
      have hSr := hS.keep (w' := wr) fun b o h1 h2 => World.cell?_of_block (a := ⟨b, o, none⟩) (D6.gr.block b (Nat.lt_of_lt_of_le h2 hhi) (fun e => by cases e; omega))
      have hhir : hi ≤ wr.heap.size := Nat.le_trans hhi D6.size_
      have hFr : ∀ b, lo ≤ b → b < hi → ¬ (b = g) := fun b h1 h2 => by omega
      have hSE := Sl.of_own own
      have hFE : ∀ b, w.heap.size ≤ b → b < wr.heap.size → ¬ (b = g) := fun b h1 h2 => by omega
      refine wp_region_typed (by kernel_rfl) (tsOf [(0, .pointer (some ⟨g, 0, none⟩)), (1, .slice A n c), (7, .pointer (some ⟨w3.heap.size + 1, 0, none⟩)), (8, .int .i64 now)] [(32, tLit (.agg #[.int .i64 sz, .int .i64 st, .slice A1 m1 c1])), (33, tLit (.pointer (some ⟨g, 0, none⟩))), (34, tF5), (35, tLit (.pointer (some ⟨g, 0, none⟩))), (36, tLit (.slice A n c)), (37, tZ), (38, tZ), (39, tZ), (40, tLit (.int .i64 now)), (41, tTabT wr.heap.size (m1 + 1)), (31, tTabT wr.heap.size (m1 + 1)), (42, tTab wr.heap.size (m1 + 1)), (43, tBool), (10, tTabB wr.heap.size (m1 + 1)), (11, tBool)]) (fun _ _ => True) (Gw 40 wr g p (· = g) (fun _ => True)) 16 16 rfl [some 32, some 33, some 34, some 35, some 36, some 37, some 38, some 39, some 40, some 41, some 31, some 42, some 43, some 10, none, some 11] (by kernel_rfl) (by kernel_rfl) rfl (fun _ _ _ h hg => Gw.more _ _ _ h hg) ⟨hrd, (GrF.refl _ _).drew, rfl, trivial⟩ (ts_old (by intro x hx; simp only [List.mem_cons, List.not_mem_nil, or_false] at hx; rcases hx with rfl | rfl | rfl | rfl <;> rfl) (by kernel_rfl)) ?_ ?_
      · obtain ⟨TS, hTS⟩ : ∃ TS, TS = tsOf [(0, .pointer (some ⟨g, 0, none⟩)), (1, .slice A n c), (7, .pointer (some ⟨w3.heap.size + 1, 0, none⟩)), (8, .int .i64 now)] [(32, tLit (.agg #[.int .i64 sz, .int .i64 st, .slice A1 m1 c1])), (33, tLit (.pointer (some ⟨g, 0, none⟩))), (34, tF5), (35, tLit (.pointer (some ⟨g, 0, none⟩))), (36, tLit (.slice A n c)), (37, tZ), (38, tZ), (39, tZ), (40, tLit (.int .i64 now)), (41, tTabT wr.heap.size (m1 + 1)), (31, tTabT wr.heap.size (m1 + 1)), (42, tTab wr.heap.size (m1 + 1)), (43, tBool), (10, tTabB wr.heap.size (m1 + 1)), (11, tBool)] := ⟨_, rfl⟩
        rw [← hTS]
        have hst : ∀ s, Stab wr.heap.size (TS s) := fun s => by rw [hTS]; exact stab_ts (by exact ⟨stab_lit _, stab_lit _, stab_f5, stab_lit _, stab_lit _, stab_z, stab_z, stab_z, stab_lit _, stab_tabt, stab_tabt, stab_tab, stab_bool, stab_tabb, stab_bool, trivial⟩) s
        have hfm : ∀ s, Firm wr.heap.size (m1 + 1) (TS s) := fun s => by rw [hTS]; exact firm_ts (by exact ⟨firm_lit, firm_lit, firm_f5, firm_lit, firm_lit, firm_z, firm_z, firm_z, firm_lit, firm_tabt, firm_tabt, firm_tab, firm_bool, firm_tabb, firm_bool, trivial⟩) s
        have T0 : TS 0 = tLit (.pointer (some ⟨g, 0, none⟩)) := by rw [hTS]; rfl
        have T1 : TS 1 = tLit (.slice A n c) := by rw [hTS]; rfl
        have T7 : TS 7 = tLit (.pointer (some ⟨w3.heap.size + 1, 0, none⟩)) := by rw [hTS]; rfl
        have T8 : TS 8 = tLit (.int .i64 now) := by rw [hTS]; rfl
        have T32 : TS 32 = tLit (.agg #[.int .i64 sz, .int .i64 st, .slice A1 m1 c1]) := by rw [hTS]; rfl
        have T33 : TS 33 = tLit (.pointer (some ⟨g, 0, none⟩)) := by rw [hTS]; rfl
        have T34 : TS 34 = tF5 := by rw [hTS]; rfl
        have T35 : TS 35 = tLit (.pointer (some ⟨g, 0, none⟩)) := by rw [hTS]; rfl
        have T36 : TS 36 = tLit (.slice A n c) := by rw [hTS]; rfl
        have T37 : TS 37 = tZ := by rw [hTS]; rfl
        have T38 : TS 38 = tZ := by rw [hTS]; rfl
        have T39 : TS 39 = tZ := by rw [hTS]; rfl
        have T40 : TS 40 = tLit (.int .i64 now) := by rw [hTS]; rfl
        have T41 : TS 41 = tTabT wr.heap.size (m1 + 1) := by rw [hTS]; rfl
        have T31 : TS 31 = tTabT wr.heap.size (m1 + 1) := by rw [hTS]; rfl
        have T42 : TS 42 = tTab wr.heap.size (m1 + 1) := by rw [hTS]; rfl
        have T43 : TS 43 = tBool := by rw [hTS]; rfl
        have T10 : TS 10 = tTabB wr.heap.size (m1 + 1) := by rw [hTS]; rfl
        have T11 : TS 11 = tBool := by rw [hTS]; rfl
        have C : Ctx Try.prog g (p) wr.heap.size (40 * 16) (· = g) (fun _ => True) TS (fun _ _ => True) := ⟨hrd.lt, rfl, by omega, hst, fun _ _ _ _ h => h, fun _ _ _ h => h⟩
        have hXi : ∀ w : World, True := fun _ => trivial
        have hPP : p + 100 * (40 * 16) ≤ 50000000 := by omega
        clear hst hTS
        exact ⟨step_wide (by omega) (t_loadold C hXi Try.underlying34 rfl (by kernel_rfl) K7 hr7g (ot_tmp T7) T32),
          step_wide (by omega) (t_move C hXi (ot_tmp T0) T33),
          t_flow C hPP hXi (by omega) (by omega) (ot_tmp T33) T34,
          step_wide (by omega) (t_move C hXi (ot_tmp T0) T35),
          step_wide (by omega) (t_move C hXi (ot_tmp T1) T36),
          t_num C hPP hXi hSr hhir hFr hg hn (ot_tmp T35) (ot_tmp T36) T37,
          step_wide (by omega) (t_min C hXi (ot_tmp T37) T38),
          step_wide (by omega) (t_max C hXi (ot_tmp T38) T39),
          step_wide (by omega) (t_move C hXi (ot_tmp T8) T40),
          t_touch C hPP hXi hSE (Nat.le_refl _) hFE (by omega) hmc hcM (Nat.le_refl _) (Nat.le_refl _) (ot_tmp T32) (ot_tmp T34) (ot_tmp T39) (ot_tmp T40) T41,
          step_wide (by omega) (t_move C hXi (ot_tmp T41) T31),
          step_wide (by omega) (t_ext0 C hXi (ot_tmp T31) T42),
          step_wide (by omega) (t_ext1 C hXi (ot_tmp T31) T43),
          step_wide (by omega) (t_newtab C hXi hit hizt (Nat.le_refl _) T10),
          step_wide (by omega) (t_storetab C hXi (fun _ _ _ h => h) hfm (Nat.le_refl _) (ot_tmp T10) (ot_tmp T42)),
          step_wide (by omega) (t_assign C hXi (ot_tmp T43) T11),
          trivial⟩
      · intro vs w5 hG hty _ _
        have hG' : Gd wr g p (· = g) (fun _ => True) (40 * 16) w5 := hG
        obtain ⟨r, cq, e10, hrB, hrK, htab⟩ := (show tTabB wr.heap.size (m1 + 1) (vs 10) w5 from hty 13 10 (by omega) (by omega) rfl)
        obtain ⟨bb, e11⟩ := (show tBool (vs 11) w5 from hty 15 11 (by omega) (by omega) rfl)
        have D7 : Dw w g (p + 64000) w5 := (D6.picked hG'.rdc hG'.gr.to_grown).more (by omega)
        have K77 : Blk w5 (w3.heap.size + 1) 34 #[.int .i64 sz, .int .i64 st, .slice A1 m1 c1] := (hG'.gr.block _ K7.lt hr7g).trans K7
        have K67 : Blk w5 w.heap.size 34 #[.int .i64 0, .int .i64 0, .slice none 0 0] := (hG'.gr.block _ K6.lt (by omega)).trans K6
        have own7 := own_grf hG'.gr own (fun k hk => by have := (own.lt k hk).1; omega)
        have hs6 := D6.size_
        have hr7 : ¬ r = w3.heap.size + 1 := by have := K7.lt; omega
        clear hty hG hG' hrd hSr hhir hFr hSE hFE
        simp only [putL, e10, e11]
        cases bb
        · go_wp2_with fail
          refine (pick_any _ _ _ _ D7.rd (by omega) (by omega) (by omega)).mono ?_
          rintro e w6 ⟨y, y0, y1, rfl, hr6, hg6⟩
          have D8 := D7.picked hr6 hg6
          have K78 := K77.picked hg6 hgw3
          have K68 := K67.picked hg6 hlt
          have own8 := own_picked own7 hg6 hlt
          clear D7 K77 K67 own7 hr6 hg6
          go_wp2_with fail
          go_roundw
          case rel => exact ⟨k - 1, _, m1, now + y, sz, st, A1, c1, es, by (congr 1; omega), by omega, by omega, by omega, rfl, by omega, by omega, hmc, hcM, K78, own8, K68, D8.more (show p + 64000 + 1 ≤ p + 65000 by omega)⟩
          case measure => simp [intOf]; omega
        · obtain ⟨sz', st', A', m', c', es', rfl, hm', hmc', hcM', own'⟩ := htab
          obtain ⟨t0, t1, t2, _⟩ := hrK.three_
          obtain ⟨d0, d1, d2, df⟩ := K77.three_
          go_wp2_with fail
          have K78 := K77.set3 (.int .i64 sz') (.int .i64 st') (.slice A' m' c')
          have K68 := K67.far3 hwr3 (.int .i64 sz') (.int .i64 st') (.slice A' m' c')
          have own8 := own_set3 (own_base own' hs6) (own_neN own' K77 (by decide)) (.int .i64 sz') (.int .i64 st') (.slice A' m' c')
          have D8 := dw_set3 D7 (show w.heap.size ≤ w3.heap.size + 1 by omega) (.int .i64 sz') (.int .i64 st') (.slice A' m' c')
          obtain ⟨w8, hw8⟩ : ∃ w8, w8 = set3 w5 (w3.heap.size + 1) (.int .i64 sz') (.int .i64 st') (.slice A' m' c') := ⟨_, rfl⟩
          unfold set3 at hw8 K78 K68 own8 D8
          rw [← hw8] at K78 K68 own8 D8 ⊢
          clear hw8 d0 d1 d2 df t0 t1 t2 K77 K67 own7 own' D7
          refine (pick_any _ _ _ _ D8.rd (by omega) (by omega) (by omega)).mono ?_
          rintro e w6 ⟨y, y0, y1, rfl, hr6, hg6⟩
          have D9 := D8.picked hr6 hg6
          have K79 := K78.picked hg6 hgw3
          have K69 := K68.picked hg6 hlt
          have own9 := own_picked own8 hg6 hlt
          clear D8 K78 K68 own8 hr6 hg6
          go_wp2_with fail
          go_roundw
          case rel => exact ⟨k - 1, _, m', now + y, sz', st', A', c', es', by (congr 1; omega), by omega, by omega, by omega, rfl, by omega, by omega, hmc', hcM', K79, own9, K69, D9.more (show p + 64000 + 1 ≤ p + 65000 by omega)⟩
          case measure => simp [intOf]; omega
    · obtain rfl : k = 0 := by omega
      clear hlt'
      go_wp2_with fail
      refine (odd_any _ _ _ _ D6.rd (by omega) (by omega) (by omega)).mono ?_
      rintro e w5 ⟨bb, rfl, hr5, hg5⟩
      have D7 := D6.picked hr5 hg5
      have K77 := K7.picked hg5 hgw3
      have K67 := K6.picked hg5 hlt
      have own7 := own_picked own hg5 hlt
      clear D6 K7 K6 own hr5 hg5
      rcases bb
      · skip
        obtain ⟨c0, c1', c2', cf⟩ := K77.three_
        obtain ⟨d0, d1, d2, df⟩ := K67.three_
        go_wp2
        have QA := hmc
        have QB := hcM
        have KE := K67.set3 (.int .i64 sz) (.int .i64 st) (.slice A1 m1 c1)
        have OE := own_set3 own7 (own_neN own7 K67 (by decide)) (.int .i64 sz) (.int .i64 st) (.slice A1 m1 c1)
        have DE := dw_set3 D7 (Nat.le_refl _) (.int .i64 sz) (.int .i64 st) (.slice A1 m1 c1)
        obtain ⟨wE, hwE⟩ : ∃ wE, wE = set3 w5 w.heap.size (.int .i64 sz) (.int .i64 st) (.slice A1 m1 c1) := ⟨_, rfl⟩
        unfold set3 at hwE KE OE DE
        rw [← hwE] at KE OE DE ⊢
        obtain ⟨x0, x1, x2, _⟩ := KE.three_
        refine bodyPost_ret (v := .agg #[.int .i64 sz, .int .i64 st, .slice A1 m1 c1]) ?_ rfl ⟨_, _, _, _, _, _, rfl, by omega, QA, QB, OE, DE.more (by omega)⟩
        simp [results, Try.results44, go_sem, x0, x1, x2]
      · go_wp2_with fail
        refine (pick_any _ _ _ _ D7.rd (by omega) (by omega) (by omega)).mono ?_
        rintro e w6 ⟨v, v0, v1, rfl, hr6, hg6⟩
        have D8 := D7.picked hr6 hg6
        have K7 := K77.picked hg6 hgw3
        have K6 := K67.picked hg6 hlt
        have own := own_picked own7 hg6 hlt
        clear D7 K77 K67 own7 hr6 hg6
        have hcase : v = 0 ∨ v = 1 ∨ v = 2 ∨ v = 3 := by omega
        clear v0 v1
        rcases hcase with rfl | rfl | rfl | rfl
        · skip
          go_wp2_with fail
          have D9 := D8.alloc (.cells #[.int .i64 0, .int .i64 13] 3)
          have K79 := K7.alloc (.cells #[.int .i64 0, .int .i64 13] 3)
          have K69 := K6.alloc (.cells #[.int .i64 0, .int .i64 13] 3)
          have own9 := own.alloc (.cells #[.int .i64 0, .int .i64 13] 3)
          have R8 := Blk.new w6 3 #[.int .i64 0, .int .i64 13]
          have hs6 := D8.size_
          refine (pick_any _ _ _ _ D9.rd (by omega) (by omega) (by omega)).mono ?_
          rintro e w7 ⟨z, a7, b7, rfl, hr7, hg7⟩
          have DA := D9.picked hr7 hg7
          have K7A := K79.picked hg7 hgw3
          have K6A := K69.picked hg7 hlt
          have ownA := own_picked own9 hg7 hlt
          have R9 := R8.picked hg7 (by omega)
          obtain ⟨i0, i1, _⟩ := R9.two
          obtain ⟨z', hz'⟩ : ∃ z' : Int, w7.cell? ⟨w6.heap.size, z.toNat, none⟩ = some (.int .i64 z') := by
            have hc : z = 0 ∨ z = 1 := by omega
            rcases hc with rfl | rfl
            · exact ⟨_, i0⟩
            · exact ⟨_, i1⟩
          replace b7 : z < 2 := by omega
          clear D8 K7 K6 own D9 K79 K69 own9 R8 R9 hr7 hg7 i0 i1
          obtain ⟨c0, c1', c2', cf⟩ := K7A.three_
          obtain ⟨d0, d1, d2, df⟩ := K6A.three_
          go_wp2
          have QA := hmc
          have QB := hcM
          have KB := K6A.far (p := ⟨w3.heap.size + 1, 0, none⟩) hwr3 (.int .i64 z')
          have DB := DA.setCell (p := ⟨w3.heap.size + 1, 0, none⟩) (show w.heap.size ≤ w3.heap.size + 1 by omega) (.int .i64 z')
          have OB := own_set1 (i := 0) (u := .int .i64 z') ownA (own_neN ownA K7A (by decide))
          have KE := KB.set3 (.int .i64 z') (.int .i64 st) (.slice A1 m1 c1)
          have OE := own_set3 OB (own_neN OB KB (by decide)) (.int .i64 z') (.int .i64 st) (.slice A1 m1 c1)
          have DE := dw_set3 DB (Nat.le_refl _) (.int .i64 z') (.int .i64 st) (.slice A1 m1 c1)
          obtain ⟨wE, hwE⟩ : ∃ wE, wE = set3 (w7.setCell ⟨w3.heap.size + 1, 0, none⟩ (.int .i64 z')) w.heap.size (.int .i64 z') (.int .i64 st) (.slice A1 m1 c1) := ⟨_, rfl⟩
          unfold set3 at hwE KE OE DE
          rw [← hwE] at KE OE DE ⊢
          obtain ⟨x0, x1, x2, _⟩ := KE.three_
          refine bodyPost_ret (v := .agg #[.int .i64 z', .int .i64 st, .slice A1 m1 c1]) ?_ rfl ⟨_, _, _, _, _, _, rfl, by omega, QA, QB, OE, DE.more (by omega)⟩
          simp [results, Try.results44, go_sem, x0, x1, x2]
        · skip
          obtain ⟨c0, c1', c2', cf⟩ := K7.three_
          obtain ⟨d0, d1, d2, df⟩ := K6.three_
          go_wp2
          have QA := hmc
          have QB := hcM
          have KB := K6.far (p := ⟨w3.heap.size + 1, 1, none⟩) hwr3 (.int .i64 0)
          have DB := D8.setCell (p := ⟨w3.heap.size + 1, 1, none⟩) (show w.heap.size ≤ w3.heap.size + 1 by omega) (.int .i64 0)
          have OB := own_set1 (i := 1) (u := .int .i64 0) own (own_neN own K7 (by decide))
          have KE := KB.set3 (.int .i64 sz) (.int .i64 0) (.slice A1 m1 c1)
          have OE := own_set3 OB (own_neN OB KB (by decide)) (.int .i64 sz) (.int .i64 0) (.slice A1 m1 c1)
          have DE := dw_set3 DB (Nat.le_refl _) (.int .i64 sz) (.int .i64 0) (.slice A1 m1 c1)
          obtain ⟨wE, hwE⟩ : ∃ wE, wE = set3 (w6.setCell ⟨w3.heap.size + 1, 1, none⟩ (.int .i64 0)) w.heap.size (.int .i64 sz) (.int .i64 0) (.slice A1 m1 c1) := ⟨_, rfl⟩
          unfold set3 at hwE KE OE DE
          rw [← hwE] at KE OE DE ⊢
          obtain ⟨x0, x1, x2, _⟩ := KE.three_
          refine bodyPost_ret (v := .agg #[.int .i64 sz, .int .i64 0, .slice A1 m1 c1]) ?_ rfl ⟨_, _, _, _, _, _, rfl, by omega, QA, QB, OE, DE.more (by omega)⟩
          simp [results, Try.results44, go_sem, x0, x1, x2]
        · skip
          go_upto_region 18 with fail
          obtain ⟨p6, hp6⟩ : ∃ p6 : Nat, p6 = p + 3000 := ⟨_, rfl⟩
          have D8' : Dw w g p6 w6 := D8.more (by omega)
          have hrd : Rd w6.drew g (p6 + 100 * (40 * 0)) := D8'.rd
          refine wp_region_typed (by kernel_rfl) (tsOf [(0, .pointer (some ⟨g, 0, none⟩)), (7, .pointer (some ⟨w3.heap.size + 1, 0, none⟩)), (8, .int .i64 now)] [(77, tLit (.pointer (some ⟨w3.heap.size + 1, 2, none⟩))), (78, tLit (.slice A1 m1 c1)), (79, tLit (.pointer (some ⟨g, 0, none⟩))), (80, tF5), (81, tLit (.int .i64 now)), (82, tE7), (83, tE7row w6.heap.size)]) (fun _ _ => True) (Gw 40 w6 g p6 (· = g) (fun _ => True)) 7 10 rfl [some 77, some 78, some 79, some 80, some 81, some 82, some 83] (by kernel_rfl) (by kernel_rfl) rfl (fun _ _ _ h hg => Gw.more _ _ _ h hg) ⟨hrd, (GrF.refl _ _).drew, rfl, trivial⟩ (ts_old (by intro x hx; simp only [List.mem_cons, List.not_mem_nil, or_false] at hx; rcases hx with rfl | rfl | rfl <;> rfl) (by kernel_rfl)) ?_ ?_
          · obtain ⟨TS, hTS⟩ : ∃ TS, TS = tsOf [(0, .pointer (some ⟨g, 0, none⟩)), (7, .pointer (some ⟨w3.heap.size + 1, 0, none⟩)), (8, .int .i64 now)] [(77, tLit (.pointer (some ⟨w3.heap.size + 1, 2, none⟩))), (78, tLit (.slice A1 m1 c1)), (79, tLit (.pointer (some ⟨g, 0, none⟩))), (80, tF5), (81, tLit (.int .i64 now)), (82, tE7), (83, tE7row w6.heap.size)] := ⟨_, rfl⟩
            rw [← hTS]
            have hst : ∀ s, Stab w6.heap.size (TS s) := fun s => by rw [hTS]; exact stab_ts (by exact ⟨stab_lit _, stab_lit _, stab_lit _, stab_f5, stab_lit _, stab_e7, stab_e7row, trivial⟩) s
            have T0 : TS 0 = tLit (.pointer (some ⟨g, 0, none⟩)) := by rw [hTS]; rfl
            have T7 : TS 7 = tLit (.pointer (some ⟨w3.heap.size + 1, 0, none⟩)) := by rw [hTS]; rfl
            have T8 : TS 8 = tLit (.int .i64 now) := by rw [hTS]; rfl
            have T77 : TS 77 = tLit (.pointer (some ⟨w3.heap.size + 1, 2, none⟩)) := by rw [hTS]; rfl
            have T78 : TS 78 = tLit (.slice A1 m1 c1) := by rw [hTS]; rfl
            have T79 : TS 79 = tLit (.pointer (some ⟨g, 0, none⟩)) := by rw [hTS]; rfl
            have T80 : TS 80 = tF5 := by rw [hTS]; rfl
            have T81 : TS 81 = tLit (.int .i64 now) := by rw [hTS]; rfl
            have T82 : TS 82 = tE7 := by rw [hTS]; rfl
            have T83 : TS 83 = tE7row w6.heap.size := by rw [hTS]; rfl
            have C : Ctx Try.prog g (p6) w6.heap.size (40 * 10) (· = g) (fun _ => True) TS (fun _ _ => True) := ⟨hrd.lt, rfl, by omega, hst, fun _ _ _ _ h => h, fun _ _ _ h => h⟩
            have hXi : ∀ w : World, True := fun _ => trivial
            have hPP : p6 + 100 * (40 * 10) ≤ 50000000 := by omega
            clear hst hTS
            exact ⟨step_wide (by omega) (t_fieldold C hXi Try.underlying34 rfl tis tss (ot_tmp T7) rfl (by omega) T77),
              step_wide (by omega) (t_loadnum C hXi Try.underlying32 rfl K7 hr7g rfl (fun _ => rfl) (ot_tmp T77) T78),
              step_wide (by omega) (t_move C hXi (ot_tmp T0) T79),
              t_flow C hPP hXi (by omega) (by omega) (ot_tmp T79) T80,
              step_wide (by omega) (t_move C hXi (ot_tmp T8) T81),
              step_wide (by omega) (t_ent2 C hXi (ot_tmp T80) (ot_tmp T81) T82),
              step_wide (by omega) (t_entrow C hXi hi0 hz1 hz0 (ot_tmp T82) (Nat.le_refl _) T83),
              trivial⟩
          · intro vs w7 hG hty _ _
            have hG' : Gd w6 g p6 (· = g) (fun _ => True) (40 * 10) w7 := hG
            have eA : vs 77 = .pointer (some ⟨w3.heap.size + 1, 2, none⟩) := hty 0 77 (by omega) (by omega) rfl
            have eL : vs 78 = .slice A1 m1 c1 := hty 1 78 (by omega) (by omega) rfl
            obtain ⟨r, en, eR, hrB, hrK⟩ := (show tE7row w6.heap.size (vs 83) w7 from hty 6 83 (by omega) (by omega) rfl)
            have D9 : Dw w g (p6 + 40000) w7 := (D8'.picked hG'.rdc hG'.gr.to_grown).more (by omega)
            have K79 : Blk w7 (w3.heap.size + 1) 34 #[.int .i64 sz, .int .i64 st, .slice A1 m1 c1] := (hG'.gr.block _ K7.lt hr7g).trans K7
            have K69 : Blk w7 w.heap.size 34 #[.int .i64 0, .int .i64 0, .slice none 0 0] := (hG'.gr.block _ K6.lt (by omega)).trans K6
            have own9 := own_grf hG'.gr own (fun k hk => by have := (own.lt k hk).1; omega)
            have hs6 := D8'.size_
            have hz9 := D9.size_
            clear hty hG hG' hrd D8 D8' K7 K6 own
            simp only [putL, Act.put, List.setIfInBounds_toArray, List.set_cons_zero, List.set_cons_succ, eA, eL, eR]
            refine (show wpList _ _ _ [_, _, _] _ _ from ?_)
            go_wp2_with (at_builtin; (refine wpList_append_sl _ rfl _ _ 32 rfl w.heap.size 56 i0 _ 7 56 Try.underlying32 hi0 hz0 hz1 hz2 tzc (by decide) (.slice A1 m1 c1) m1 _ (by rfl) own9 _ _ (some ⟨r, 0, none⟩) 1 1 (enC en).toArray.toList (by rfl) (blk_sl hrK rfl) (enC_ones en) (by unfold maxLen; omega) (by omega) hz9 ?_; intro v8 w8 own8 g8 at8; obtain ⟨A2, c2, rfl, QA, QB⟩ := own_is_slice own8; have KC := K79.grown g8 (fun e => own_neN own9 K79 (by decide) e.symm); have KD := K69.grown g8 (fun e => own_neN own9 K69 (by decide) e.symm); have DC := D9.append own9 g8; obtain ⟨c0, c1', c2', cf⟩ := KC.three_; obtain ⟨d0, d1, d2, df⟩ := KD.three_))
            rw [ensV_one] at own8
            have KB := KD.far (p := ⟨w3.heap.size + 1, 2, none⟩) hwr3 (.slice A2 (m1 + 1) c2)
            have DB := DC.setCell (p := ⟨w3.heap.size + 1, 2, none⟩) (show w.heap.size ≤ w3.heap.size + 1 by omega) (.slice A2 (m1 + 1) c2)
            have OB := own_set1 (i := 2) (u := .slice A2 (m1 + 1) c2) own8 (own_neN own8 KC (by decide))
            have KE := KB.set3 (.int .i64 sz) (.int .i64 st) (.slice A2 (m1 + 1) c2)
            have OE := own_set3 OB (own_neN OB KB (by decide)) (.int .i64 sz) (.int .i64 st) (.slice A2 (m1 + 1) c2)
            have DE := dw_set3 DB (Nat.le_refl _) (.int .i64 sz) (.int .i64 st) (.slice A2 (m1 + 1) c2)
            obtain ⟨wE, hwE⟩ : ∃ wE, wE = set3 (w8.setCell ⟨w3.heap.size + 1, 2, none⟩ (.slice A2 (m1 + 1) c2)) w.heap.size (.int .i64 sz) (.int .i64 st) (.slice A2 (m1 + 1) c2) := ⟨_, rfl⟩
            unfold set3 at hwE KE OE DE
            rw [← hwE] at KE OE DE ⊢
            obtain ⟨x0, x1, x2, _⟩ := KE.three_
            refine bodyPost_ret (v := .agg #[.int .i64 sz, .int .i64 st, .slice A2 (m1 + 1) c2]) ?_ rfl ⟨_, _, _, _, _, _, rfl, by omega, QA, QB, OE, DE.more (by omega)⟩
            simp [results, Try.results44, go_sem, x0, x1, x2]
        · skip
          go_upto_region 12 with fail
          obtain ⟨p6, hp6⟩ : ∃ p6 : Nat, p6 = p + 3000 := ⟨_, rfl⟩
          have D8' : Dw w g p6 w6 := D8.more (by omega)
          have hrd : Rd w6.drew g (p6 + 100 * (40 * 0)) := D8'.rd
          refine wp_region_typed (by kernel_rfl) (tsOf [(0, .pointer (some ⟨g, 0, none⟩)), (7, .pointer (some ⟨w3.heap.size + 1, 0, none⟩)), (8, .int .i64 now)] [(55, tLit (.pointer (some ⟨w3.heap.size + 1, 2, none⟩))), (56, tLit (.slice A1 m1 c1)), (57, tLit (.pointer (some ⟨g, 0, none⟩))), (58, tF5), (59, tLit (.int .i64 now)), (60, tE7), (61, tE7row w6.heap.size)]) (fun _ _ => True) (Gw 40 w6 g p6 (· = g) (fun _ => True)) 7 10 rfl [some 55, some 56, some 57, some 58, some 59, some 60, some 61] (by kernel_rfl) (by kernel_rfl) rfl (fun _ _ _ h hg => Gw.more _ _ _ h hg) ⟨hrd, (GrF.refl _ _).drew, rfl, trivial⟩ (ts_old (by intro x hx; simp only [List.mem_cons, List.not_mem_nil, or_false] at hx; rcases hx with rfl | rfl | rfl <;> rfl) (by kernel_rfl)) ?_ ?_
          · obtain ⟨TS, hTS⟩ : ∃ TS, TS = tsOf [(0, .pointer (some ⟨g, 0, none⟩)), (7, .pointer (some ⟨w3.heap.size + 1, 0, none⟩)), (8, .int .i64 now)] [(55, tLit (.pointer (some ⟨w3.heap.size + 1, 2, none⟩))), (56, tLit (.slice A1 m1 c1)), (57, tLit (.pointer (some ⟨g, 0, none⟩))), (58, tF5), (59, tLit (.int .i64 now)), (60, tE7), (61, tE7row w6.heap.size)] := ⟨_, rfl⟩
            rw [← hTS]
            have hst : ∀ s, Stab w6.heap.size (TS s) := fun s => by rw [hTS]; exact stab_ts (by exact ⟨stab_lit _, stab_lit _, stab_lit _, stab_f5, stab_lit _, stab_e7, stab_e7row, trivial⟩) s
            have T0 : TS 0 = tLit (.pointer (some ⟨g, 0, none⟩)) := by rw [hTS]; rfl
            have T7 : TS 7 = tLit (.pointer (some ⟨w3.heap.size + 1, 0, none⟩)) := by rw [hTS]; rfl
            have T8 : TS 8 = tLit (.int .i64 now) := by rw [hTS]; rfl
            have T55 : TS 55 = tLit (.pointer (some ⟨w3.heap.size + 1, 2, none⟩)) := by rw [hTS]; rfl
            have T56 : TS 56 = tLit (.slice A1 m1 c1) := by rw [hTS]; rfl
            have T57 : TS 57 = tLit (.pointer (some ⟨g, 0, none⟩)) := by rw [hTS]; rfl
            have T58 : TS 58 = tF5 := by rw [hTS]; rfl
            have T59 : TS 59 = tLit (.int .i64 now) := by rw [hTS]; rfl
            have T60 : TS 60 = tE7 := by rw [hTS]; rfl
            have T61 : TS 61 = tE7row w6.heap.size := by rw [hTS]; rfl
            have C : Ctx Try.prog g (p6) w6.heap.size (40 * 10) (· = g) (fun _ => True) TS (fun _ _ => True) := ⟨hrd.lt, rfl, by omega, hst, fun _ _ _ _ h => h, fun _ _ _ h => h⟩
            have hXi : ∀ w : World, True := fun _ => trivial
            have hPP : p6 + 100 * (40 * 10) ≤ 50000000 := by omega
            clear hst hTS
            exact ⟨step_wide (by omega) (t_fieldold C hXi Try.underlying34 rfl tis tss (ot_tmp T7) rfl (by omega) T55),
              step_wide (by omega) (t_loadnum C hXi Try.underlying32 rfl K7 hr7g rfl (fun _ => rfl) (ot_tmp T55) T56),
              step_wide (by omega) (t_move C hXi (ot_tmp T0) T57),
              t_flow C hPP hXi (by omega) (by omega) (ot_tmp T57) T58,
              step_wide (by omega) (t_move C hXi (ot_tmp T8) T59),
              step_wide (by omega) (t_ent C hXi (ot_tmp T58) (ot_tmp T59) T60),
              step_wide (by omega) (t_entrow C hXi hi0 hz1 hz0 (ot_tmp T60) (Nat.le_refl _) T61),
              trivial⟩
          · intro vs w7 hG hty _ _
            have hG' : Gd w6 g p6 (· = g) (fun _ => True) (40 * 10) w7 := hG
            have eA : vs 55 = .pointer (some ⟨w3.heap.size + 1, 2, none⟩) := hty 0 55 (by omega) (by omega) rfl
            have eL : vs 56 = .slice A1 m1 c1 := hty 1 56 (by omega) (by omega) rfl
            obtain ⟨r, en, eR, hrB, hrK⟩ := (show tE7row w6.heap.size (vs 61) w7 from hty 6 61 (by omega) (by omega) rfl)
            have D9 : Dw w g (p6 + 40000) w7 := (D8'.picked hG'.rdc hG'.gr.to_grown).more (by omega)
            have K79 : Blk w7 (w3.heap.size + 1) 34 #[.int .i64 sz, .int .i64 st, .slice A1 m1 c1] := (hG'.gr.block _ K7.lt hr7g).trans K7
            have K69 : Blk w7 w.heap.size 34 #[.int .i64 0, .int .i64 0, .slice none 0 0] := (hG'.gr.block _ K6.lt (by omega)).trans K6
            have own9 := own_grf hG'.gr own (fun k hk => by have := (own.lt k hk).1; omega)
            have hs6 := D8'.size_
            have hz9 := D9.size_
            clear hty hG hG' hrd D8 D8' K7 K6 own
            simp only [putL, Act.put, List.setIfInBounds_toArray, List.set_cons_zero, List.set_cons_succ, eA, eL, eR]
            refine (show wpList _ _ _ [_, _, _] _ _ from ?_)
            go_wp2_with (at_builtin; (refine wpList_append_sl _ rfl _ _ 32 rfl w.heap.size 56 i0 _ 7 56 Try.underlying32 hi0 hz0 hz1 hz2 tzc (by decide) (.slice A1 m1 c1) m1 _ (by rfl) own9 _ _ (some ⟨r, 0, none⟩) 1 1 (enC en).toArray.toList (by rfl) (blk_sl hrK rfl) (enC_ones en) (by unfold maxLen; omega) (by omega) hz9 ?_; intro v8 w8 own8 g8 at8; obtain ⟨A2, c2, rfl, QA, QB⟩ := own_is_slice own8; have KC := K79.grown g8 (fun e => own_neN own9 K79 (by decide) e.symm); have KD := K69.grown g8 (fun e => own_neN own9 K69 (by decide) e.symm); have DC := D9.append own9 g8; obtain ⟨c0, c1', c2', cf⟩ := KC.three_; obtain ⟨d0, d1, d2, df⟩ := KD.three_))
            rw [ensV_one] at own8
            have KB := KD.far (p := ⟨w3.heap.size + 1, 2, none⟩) hwr3 (.slice A2 (m1 + 1) c2)
            have DB := DC.setCell (p := ⟨w3.heap.size + 1, 2, none⟩) (show w.heap.size ≤ w3.heap.size + 1 by omega) (.slice A2 (m1 + 1) c2)
            have OB := own_set1 (i := 2) (u := .slice A2 (m1 + 1) c2) own8 (own_neN own8 KC (by decide))
            have KE := KB.set3 (.int .i64 sz) (.int .i64 st) (.slice A2 (m1 + 1) c2)
            have OE := own_set3 OB (own_neN OB KB (by decide)) (.int .i64 sz) (.int .i64 st) (.slice A2 (m1 + 1) c2)
            have DE := dw_set3 DB (Nat.le_refl _) (.int .i64 sz) (.int .i64 st) (.slice A2 (m1 + 1) c2)
            obtain ⟨wE, hwE⟩ : ∃ wE, wE = set3 (w8.setCell ⟨w3.heap.size + 1, 2, none⟩ (.slice A2 (m1 + 1) c2)) w.heap.size (.int .i64 sz) (.int .i64 st) (.slice A2 (m1 + 1) c2) := ⟨_, rfl⟩
            unfold set3 at hwE KE OE DE
            rw [← hwE] at KE OE DE ⊢
            obtain ⟨x0, x1, x2, _⟩ := KE.three_
            refine bodyPost_ret (v := .agg #[.int .i64 sz, .int .i64 st, .slice A2 (m1 + 1) c2]) ?_ rfl ⟨_, _, _, _, _, _, rfl, by omega, QA, QB, OE, DE.more (by omega)⟩
            simp [results, Try.results44, go_sem, x0, x1, x2]
end Go.Proofs.Ytgdcfhifiincaaa
