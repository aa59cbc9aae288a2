/-
  DrawMovedKeys: a way, two pools and keys; SetState of the reference, l20Number.
-/
import Derived.Test.YtfobcggcilbgbaaDrawKey
import Derived.Test.YtfobcggcilbgbaaPool
import Derived.Test.YtfobcggcilbgbaaApp1
import Derived.Deep.CutBlock
namespace Go.Proofs.Ytfobcggcilbgbaa
open Go.RowKit
set_option linter.unusedVariables false

def SetDrew (w : World) (n : Nat) (e : Ending) (w' : World) : Prop := ∃ (A : Option Addr) (m c : Nat) (hs : List H3) (ok : Bool), e = .returned (.tuple #[.slice A m c, .bool ok]) ∧ m ≤ n ∧ m ≤ c ∧ c ≤ maxLen ∧ w'.ownsRow w.heap.size 39 3 (.slice A m c) m (hostsV hs) ∧ Below w.heap.size w w'

set_option maxRecDepth 100000 in
set_option maxHeartbeats 1600000 in
theorem sSetState_any (A : Option Addr) (n c : Nat) (hs : List H3) (x st : Int) (w : World) {lo hi : Nat} (hS : Sl w lo hi 3 A n (hostsV hs)) (hhi : hi ≤ w.heap.size) (hn : n ≤ 1048576) :
    Calls Try.prog 61 #[.slice A n c, .int .i64 x, .int .i64 st] w (SetDrew w n) := by
  obtain ⟨i0, hi0, hz0, hz1, hz2⟩ := info_parts infoHost
  have hlit := World.ownsRow_lit (base := w.heap.size) (e := 39) (size := 3) w #[] 0 (Nat.le_refl _) (by unfold maxLen; omega) (by simp)
  have hb0 := (Below.refl w.heap.size w).alloc (Nat.le_refl _) (.cells #[] 39)
  go_enter Try.func61, Try.ntmps61
  go_wp2
  go_loopw [8, 9, 10] (fun o f i wr => ∃ (k : Nat) (fb : Bool) (hs' : List H3), k ≤ n ∧ i = .int .i64 k ∧ f = .bool fb ∧ wr.ownsRow w.heap.size 39 3 o k (hostsV hs') ∧ Below w.heap.size w wr) (fun _ _ i _ => n - (intOf i).toNat)
  case atStart => exact ⟨0, false, [], Nat.zero_le _, rfl, rfl, by simpa [hostsV] using hlit, hb0⟩
  case round =>
    clear hlit hb0
    obtain ⟨k, fb, hs', hk, rfl, rfl, hown, hb⟩ := hrel
    have hz := hb.size
    by_cases hlt : k < n
    · have hki2 : (k : Int) < (n : Int) := by omega
      go_wp2_with fail
      refine (sPoolValid_any _ _ _ hs _ (hS.below hb hhi) (by omega) hn).mono ?_
      rintro e w1 ⟨rfl, hb1⟩
      have hd := hb.trans (hb1.mono hz)
      have hown1 := own_below hown hb1
      have hz1' := hd.size
      cases hv : poolV hs
      · skip
        cases fb
        · skip
          go_wp2
          refine bodyPost_ret (v := .tuple #[.slice (some ⟨w1.heap.size, 0, none⟩) 0 0, .bool false]) ?_ rfl ⟨_, 0, 0, [], false, rfl, by omega, by omega, by unfold maxLen; omega, by simpa [hostsV] using World.ownsRow_lit w1 #[] 0 (hd).size (by unfold maxLen; omega) (by simp), (hd).alloc (hd).size _⟩
          simp [results, Try.results61, go_sem]
        · go_wp2_with fail
          refine (l1In_any _ _ _ _).mono ?_
          rintro e w' ⟨rfl, rfl⟩
          cases hin : inB st 0 2
          · skip
            go_wp2
            refine bodyPost_ret (v := .tuple #[.slice (some ⟨w1.heap.size, 0, none⟩) 0 0, .bool false]) ?_ rfl ⟨_, 0, 0, [], false, rfl, by omega, by omega, by unfold maxLen; omega, by simpa [hostsV] using World.ownsRow_lit w1 #[] 0 (hd).size (by unfold maxLen; omega) (by simp), (hd).alloc (hd).size _⟩
            simp [results, Try.results61, go_sem]
          · obtain ⟨A1, a1, rfl, e1, e2⟩ := own_is_slice hown1
            go_wp2
            refine bodyPost_ret (v := .tuple #[.slice A1 k a1, .bool true]) ?_ rfl ⟨A1, k, a1, hs', true, rfl, hk, e1, e2, hown1, hd⟩
            simp [results, Try.results61, go_sem]
      · obtain ⟨b, off, rfl, _, _, c0, c1, c2⟩ := (hS.below hd hhi).host hlt
        obtain ⟨⟨h0, h1, h2⟩, hh⟩ : ∃ p, hAt hs k = p := ⟨_, rfl⟩
        rw [hh] at c0 c1 c2
        clear hh
        have hki : (0 : Int) ≤ (k : Int) := by omega
        by_cases hx : h0 = x
        · subst hx
          go_upto_region 10 with fail
          go_wp2_with (at_builtin; (refine wpList_app1 (w1.alloc _) w #[.int .i64 h0, .int .i64 h1, .int .i64 st] rfl _ _ 25 39 rfl i0 _ 3 24 Try.underlying25 hi0 hz0 hz1 hz2 rfl (by decide) _ _ _ (by rfl) (hown1.alloc _) (hd.alloc hz1' _) (w1.heap.size + 1) 1 1 (by simp) rfl rfl (by intro u hu; simp at hu; rcases hu with rfl | rfl | rfl <;> rfl) (by unfold maxLen; omega) (by omega) ?_; intro v' w2 hown2 hb2))
          go_roundw
          case rel => exact ⟨k + 1, true, hs' ++ [(h0, h1, st)], by omega, by go_num, rfl, by rw [hostsV_append]; exact hown2, hb2⟩
          case measure => simp [intOf]; omega
        · have hxb : (h0 == x) = false := by simpa using hx
          go_upto_region 10 with fail
          go_wp2_with (at_builtin; (refine wpList_app1 (w1.alloc _) w #[.int .i64 h0, .int .i64 h1, .int .i64 h2] rfl _ _ 25 39 rfl i0 _ 3 24 Try.underlying25 hi0 hz0 hz1 hz2 rfl (by decide) _ _ _ (by rfl) (hown1.alloc _) (hd.alloc hz1' _) (w1.heap.size + 1) 1 1 (by simp) rfl rfl (by intro u hu; simp at hu; rcases hu with rfl | rfl | rfl <;> rfl) (by unfold maxLen; omega) (by omega) ?_; intro v' w2 hown2 hb2))
          go_roundw
          case rel => exact ⟨k + 1, fb, hs' ++ [(h0, h1, h2)], by omega, by go_num, rfl, by rw [hostsV_append]; exact hown2, hb2⟩
          case measure => simp [intOf]; omega
    · obtain rfl : n = k := by omega
      cases fb
      · skip
        go_wp2
        refine bodyPost_ret (v := .tuple #[.slice (some ⟨wr.heap.size, 0, none⟩) 0 0, .bool false]) ?_ rfl ⟨_, 0, 0, [], false, rfl, by omega, by omega, by unfold maxLen; omega, by simpa [hostsV] using World.ownsRow_lit wr #[] 0 (hb).size (by unfold maxLen; omega) (by simp), (hb).alloc (hb).size _⟩
        simp [results, Try.results61, go_sem]
      · go_wp2_with fail
        refine (l1In_any _ _ _ _).mono ?_
        rintro e w' ⟨rfl, rfl⟩
        cases hin : inB st 0 2
        · skip
          go_wp2
          refine bodyPost_ret (v := .tuple #[.slice (some ⟨wr.heap.size, 0, none⟩) 0 0, .bool false]) ?_ rfl ⟨_, 0, 0, [], false, rfl, by omega, by omega, by unfold maxLen; omega, by simpa [hostsV] using World.ownsRow_lit wr #[] 0 (hb).size (by unfold maxLen; omega) (by simp), (hb).alloc (hb).size _⟩
          simp [results, Try.results61, go_sem]
        · obtain ⟨A1, a1, rfl, e1, e2⟩ := own_is_slice hown
          go_wp2
          refine bodyPost_ret (v := .tuple #[.slice A1 n a1, .bool true]) ?_ rfl ⟨A1, n, a1, hs', true, rfl, hk, e1, e2, hown, hb⟩
          simp [results, Try.results61, go_sem]

/-- A number drawn, and the reader alone changed. -/
def DrewNum (w : World) (g P : Nat) (e : Ending) (w' : World) : Prop := ∃ v : Int, e = .returned (.int .i64 v) ∧ RdC w w' g P ∧ w.grownBy w' (some g)
set_option maxHeartbeats 800000 in
theorem number_any (g P : Nat) (A : Option Addr) (n c : Nat) (hs : List H3) (w : World) {lo hi : Nat} (h : Rd w g P) (hP : P ≤ 50000000) (hS : Sl w lo hi 3 A n (hostsV hs)) (hhi : hi ≤ w.heap.size) (hg : g < lo) (hn : n ≤ 1000) :
    Calls Try.prog 62 #[.pointer (some ⟨g, 0, none⟩), .slice A n c] w (DrewNum w g (P + 10)) := by
  have D := Dw.start h
  have last : ∀ w1, Dw w g (P + 1) w1 → Calls Try.prog 55 #[.pointer (some ⟨g, 0, none⟩), .int .i64 32] w1 (Picked w1 g (P + 2) 0 31) := fun w1 D1 => pick_any _ _ _ _ D1.rd (by omega) (by omega) (by omega)
  by_cases hn0 : n = 0
  · subst hn0
    go_enter Try.func62, Try.ntmps62
    go_wp2_with fail
    refine (last _ (D.more (by omega))).mono ?_
    rintro e w2 ⟨y, y0, y1, rfl, hr2, hg2⟩
    go_wp2
    go_ret
    exact ⟨_, rfl, ⟨hr2.1.more (by omega), hr2.2⟩, hg2⟩
  · have hn1 : 0 < n := by omega
    go_enter Try.func62, Try.ntmps62
    go_wp2_with fail
    refine (pick_any _ _ _ _ h (by omega) (by omega) (by omega)).mono ?_
    rintro e w1 ⟨y, y0, y1, rfl, hr1, hg1⟩
    have D1 := D.picked hr1 hg1
    have s1 := hS.grown hg1 hhi (fun q hq => by cases hq; right; omega)
    have z1 := hg1.size
    by_cases hy : 0 < y
    · go_wp2_with fail
      refine (pick_any _ _ _ _ D1.rd (by omega) (by omega) (by omega)).mono ?_
      rintro e w2 ⟨z, z0, z1', rfl, hr2, hg2⟩
      have D2 := D1.picked hr2 hg2
      have s2 := s1.grown hg2 (by omega) (fun q hq => by cases hq; right; omega)
      obtain ⟨k, rfl⟩ : ∃ k : Nat, z = (k : Int) := ⟨z.toNat, by omega⟩
      obtain ⟨b, off, rfl, _, _, c0, c1, c2⟩ := s2.host (k := k) (by omega)
      obtain ⟨u, hu⟩ : ∃ u, (hAt hs k).1 = u := ⟨_, rfl⟩
      rw [hu] at c0
      have hki2 : (k : Int) < (n : Int) := by omega
      clear hu c1 c2
      go_wp2
      go_ret
      exact ⟨_, rfl, ⟨D2.rd.more (by omega), D2.c0⟩, D2.gr⟩
    · go_wp2_with fail
      refine (last _ D1).mono ?_
      rintro e w2 ⟨z, z0, z1', rfl, hr2, hg2⟩
      have D2 := D1.picked hr2 hg2
      go_wp2
      go_ret
      exact ⟨_, rfl, ⟨D2.rd.more (by omega), D2.c0⟩, D2.gr⟩

def DrawnMovedKeys (W : World) (e : Ending) (w' : World) : Prop :=
  ∃ (way : Int) (A : Option Addr) (n c : Nat) (hs : List H3) (A1 : Option Addr) (n1 c1 : Nat) (hs1 : List H3) (A2 : Option Addr) (n2 c2 : Nat) (ks : List Int), e = .returned (.tuple #[.int .i64 way, .slice A n c, .slice A1 n1 c1, .slice A2 n2 c2]) ∧ 0 ≤ way ∧ way ≤ 5 ∧ n ≤ 8 ∧ n1 ≤ 8 ∧ n2 ≤ 7 ∧ n2 ≤ c2 ∧ c2 ≤ maxLen ∧ Sl w' 0 w'.heap.size 3 A n (hostsV hs) ∧ Sl w' 0 w'.heap.size 3 A1 n1 (hostsV hs1) ∧ Sl w' 0 w'.heap.size 1 A2 n2 (ks.map (Value.int .i64)) ∧ Below W.heap.size W w'

set_option maxRecDepth 10000 in
set_option maxHeartbeats 1600000 in
theorem drawMovedKeys_any (A : Option Addr) (n c : Nat) (zs : List Int) (w : World) (hs : Sl w 0 w.heap.size 1 A n (zs.map (Value.int .u8))) (hnc : n ≤ c) (hc : c ≤ 9223372036854775807) (hz : AllByte zs) :
    Calls Try.prog 28 #[.slice A n c] w (DrawnMovedKeys w) := by
  obtain ⟨ii64, tii, tzi64, tsi64, _⟩ := info_parts infoI
  go_enter Try.func28, Try.ntmps28
  go_wp2_with fail
  refine (open_any _ _ _ zs _ hs hnc hc hz).mono ?_
  rintro e w1 ⟨g, hg, rfl, hr, b1⟩
  go_wp2_with fail
  refine (pool_any _ _ _ _ hr (by omega) (by omega) (by omega)).mono ?_
  rintro e w2 ⟨A1, m1, c1, ps, rfl, h1, h2, h3, own1, D⟩
  have hlt := D.lt
  have b2 := D.out b1 (by omega)
  have sP := Sl.of_own own1
  have hrd := D.rd
  have hw12 := D.size_
  clear own1 D hr
  go_wp2_with fail
  refine (number_any g _ A1 m1 c1 ps _ hrd (by omega) sP (Nat.le_refl _) (by omega) (by omega)).mono ?_
  rintro e w3 ⟨x, rfl, hr3, hg3⟩
  have sP3 := sP.grown hg3 (Nat.le_refl _) (fun q hq => by cases hq; right; omega)
  have b3 := b2.grown hg3 b2.size (fun q hq => by cases hq; exact hg)
  have z3 := hg3.size
  go_wp2_with fail
  refine (pick_any _ _ _ _ hr3.1 (by omega) (by omega) (by omega)).mono ?_
  rintro e w4 ⟨st, _, _, rfl, hr4, hg4⟩
  have sP4 := sP3.grown hg4 z3 (fun q hq => by cases hq; right; omega)
  have b4 := b3.grown hg4 b3.size (fun q hq => by cases hq; exact hg)
  have z4 := hg4.size
  clear sP sP3 b2 b3 hr3 hg3 hg4
  go_wp2_with fail
  refine (sSetState_any _ _ _ ps _ _ _ sP4 (by omega) (by omega)).mono ?_
  rintro e w5 ⟨A2, m2, c2, qs, ok, rfl, k1, k2, k3, own5, b45⟩
  have sP5 := sP4.below b45 (by omega)
  have sQ5 := Sl.of_own own5
  have b5 := b4.trans (b45.mono b4.size)
  have z5 := b45.size
  have hrd5 := hr4.1.below b45 (by omega)
  clear sP4 b4 hr4 own5 hrd
  replace k1 : m2 ≤ 8 := by omega
  cases ok
  · go_wp2_with fail
    refine (pool_any _ _ _ _ hrd5 (by omega) (by omega) (by omega)).mono ?_
    clear sQ5 k1 k2 k3 qs
    rintro e w6 ⟨A2, m2, c2, qs, rfl, k1, k2, k3, own6, D⟩
    have b6 := D.out b5 (by omega)
    have sQ6 := Sl.of_own own6
    have z6 := D.size_
    have sP6 := (sP5.grown D.gr (by omega) (fun q hq => by cases hq; right; omega)).more (Nat.le_refl _) (show _ ≤ w6.heap.size by omega)
    obtain ⟨P, hP⟩ : ∃ q, 0 + 20000 + 10 + 1 + 20000 = q := ⟨_, rfl⟩
    have hPb : P ≤ 50000 := by omega
    have hrd : Rd w6.drew g (P + 100 * 0) := by rw [← hP]; exact D.rd
    clear D own6 hP sP5
    go_wp2_with fail
    refine wp_region_typed (by kernel_rfl) (tsOf [(6, .pointer (some ⟨g, 0, none⟩)), (7, .slice A1 m1 c1), (8, .slice A2 m2 c2)] [(28, tRow w6.heap.size 6 (tInt .i64 0 5)), (29, tLit (.pointer (some ⟨g, 0, none⟩))), (30, tInt .i64 0 5), (31, tAt w6.heap.size (tInt .i64 0 5)), (32, tInt .i64 0 5), (33, tLit (.slice A1 m1 c1)), (34, tLit (.slice A2 m2 c2)), (35, tLit (.pointer (some ⟨g, 0, none⟩))), (36, tList w6.heap.size 3 .i64 (-1) 1000003 7), (2, tInt .i64 0 5), (3, tLit (.slice A1 m1 c1)), (4, tLit (.slice A2 m2 c2)), (5, tList w6.heap.size 3 .i64 (-1) 1000003 7)]) (fun _ _ => True) (Gd w6 g (P) (· = g) (fun _ => True)) 13 13 rfl [some 28, some 29, some 30, some 31, some 32, some 33, some 34, some 35, some 36, some 2, some 3, some 4, some 5] (by kernel_rfl) (by kernel_rfl) rfl (fun _ _ _ h hg => Gd.more _ _ _ h hg) ⟨hrd, (GrF.refl _ _).drew, rfl, trivial⟩ (ts_old (by intro x hx; simp only [List.mem_cons, List.not_mem_nil, or_false] at hx; rcases hx with rfl | rfl | rfl <;> rfl) (by kernel_rfl)) ?_ ?_
    · obtain ⟨TS, hTS⟩ : ∃ TS, TS = tsOf [(6, .pointer (some ⟨g, 0, none⟩)), (7, .slice A1 m1 c1), (8, .slice A2 m2 c2)] [(28, tRow w6.heap.size 6 (tInt .i64 0 5)), (29, tLit (.pointer (some ⟨g, 0, none⟩))), (30, tInt .i64 0 5), (31, tAt w6.heap.size (tInt .i64 0 5)), (32, tInt .i64 0 5), (33, tLit (.slice A1 m1 c1)), (34, tLit (.slice A2 m2 c2)), (35, tLit (.pointer (some ⟨g, 0, none⟩))), (36, tList w6.heap.size 3 .i64 (-1) 1000003 7), (2, tInt .i64 0 5), (3, tLit (.slice A1 m1 c1)), (4, tLit (.slice A2 m2 c2)), (5, tList w6.heap.size 3 .i64 (-1) 1000003 7)] := ⟨_, rfl⟩
      rw [← hTS]
      have hst : ∀ s, Stab w6.heap.size (TS s) := fun s => by rw [hTS]; exact stab_ts (by exact ⟨stab_row (stab_int _ _ _), stab_lit _, stab_int _ _ _, stab_at (stab_int _ _ _), stab_int _ _ _, stab_lit _, stab_lit _, stab_lit _, stab_list, stab_int _ _ _, stab_lit _, stab_lit _, stab_list, trivial⟩) s
      have T6 : TS 6 = tLit (.pointer (some ⟨g, 0, none⟩)) := by rw [hTS]; rfl
      have T7 : TS 7 = tLit (.slice A1 m1 c1) := by rw [hTS]; rfl
      have T8 : TS 8 = tLit (.slice A2 m2 c2) := by rw [hTS]; rfl
      have T28 : TS 28 = tRow w6.heap.size 6 (tInt .i64 0 5) := by rw [hTS]; rfl
      have T29 : TS 29 = tLit (.pointer (some ⟨g, 0, none⟩)) := by rw [hTS]; rfl
      have T30 : TS 30 = tInt .i64 0 5 := by rw [hTS]; rfl
      have T31 : TS 31 = tAt w6.heap.size (tInt .i64 0 5) := by rw [hTS]; rfl
      have T32 : TS 32 = tInt .i64 0 5 := by rw [hTS]; rfl
      have T33 : TS 33 = tLit (.slice A1 m1 c1) := by rw [hTS]; rfl
      have T34 : TS 34 = tLit (.slice A2 m2 c2) := by rw [hTS]; rfl
      have T35 : TS 35 = tLit (.pointer (some ⟨g, 0, none⟩)) := by rw [hTS]; rfl
      have T36 : TS 36 = tList w6.heap.size 3 .i64 (-1) 1000003 7 := by rw [hTS]; rfl
      have T2 : TS 2 = tInt .i64 0 5 := by rw [hTS]; rfl
      have T3 : TS 3 = tLit (.slice A1 m1 c1) := by rw [hTS]; rfl
      have T4 : TS 4 = tLit (.slice A2 m2 c2) := by rw [hTS]; rfl
      have T5 : TS 5 = tList w6.heap.size 3 .i64 (-1) 1000003 7 := by rw [hTS]; rfl
      have C : Ctx Try.prog g (P) w6.heap.size 13 (· = g) (fun _ => True) TS (fun _ _ => True) := ⟨hrd.lt, rfl, by omega, hst, fun _ _ _ _ h => h, fun _ _ _ h => h⟩
      have hXi : ∀ w : World, True := fun _ => trivial
      clear hst hTS
      exact ⟨t_row C hXi [.const (.int .i64 1), .const (.int .i64 2), .const (.int .i64 3), .const (.int .i64 4), .const (.int .i64 0), .const (.int .i64 5)] Try.underlying40 tii tsi64 tzi64 rfl rfl (by omega) (by omega) int_one (stab_int _ _ _) ⟨(ot_const (by omega) (by omega)), (ot_const (by omega) (by omega)), (ot_const (by omega) (by omega)), (ot_const (by omega) (by omega)), (ot_const (by omega) (by omega)), (ot_const (by omega) (by omega)), trivial⟩ (Nat.le_refl _) T28,
      t_move C hXi (ot_tmp T6) T29,
      t_pick C hXi (ot_tmp T29) (ot_const (lo := 6) (hi := 6) (by omega) (by omega)) (by omega) (by omega) (by omega) T30,
      t_index C hXi Try.underlying40 tii tsi64 (ot_tmp T28) (ot_tmp T30) (by omega) (by omega) T31,
      t_load C hXi Try.underlying3 rfl (ot_tmp T31) T32,
      t_move C hXi (ot_tmp T7) T33,
      t_move C hXi (ot_tmp T8) T34,
      t_move C hXi (ot_tmp T6) T35,
      t_keys C hXi (ot_tmp T35) (ot_const (lo := 60) (hi := 60) (by omega) (by omega)) (by omega) (by omega) (Nat.le_refl _) T36,
      t_assign C hXi (ot_tmp T32) T2,
      t_assign C hXi (ot_tmp T33) T3,
      t_assign C hXi (ot_tmp T34) T4,
      t_assign C hXi (ot_tmp T36) T5,
      trivial⟩
    · intro vs w' hG hty _ _
      obtain ⟨way, y0, y1, e2⟩ := (show tInt .i64 0 5 (vs 2) w' from hty 9 2 (by omega) (by omega) rfl)
      have e3 : vs 3 = .slice A1 m1 c1 := hty 10 3 (by omega) (by omega) rfl
      have e4 : vs 4 = .slice A2 m2 c2 := hty 11 4 (by omega) (by omega) rfl
      obtain ⟨A3, m3, c3, ks, e5, g1, g2, g3, _, own3⟩ := (show tList w6.heap.size 3 .i64 (-1) 1000003 7 (vs 5) w' from hty 12 5 (by omega) (by omega) rfl)
      clear hty
      have hgr := hG.gr.to_grown
      have sP' := sP6.grown hgr (Nat.le_refl _) (fun q hq => by cases hq; right; omega)
      have sQ' := sQ6.grown hgr (Nat.le_refl _) (fun q hq => by cases hq; right; omega)
      have hz2 := hgr.size
      refine wpList_nil ?_
      simp only [putL, e2, e3, e4, e5]
      go_wp2
      refine bodyPost_ret (v := .tuple #[.int .i64 way, .slice A1 m1 c1, .slice A2 m2 c2, .slice A3 m3 c3]) ?_ rfl ⟨way, A1, m1, c1, ps, A2, m2, c2, qs, A3, m3, c3, ks, rfl, y0, y1, h1, k1, g1, g2, g3, sP'.more (Nat.zero_le _) hz2, sQ'.more (Nat.zero_le _) hz2, (Sl.of_own own3).more (Nat.zero_le _) (Nat.le_refl _), b6.grown hgr b6.size (fun q hq => by cases hq; exact hg)⟩
      simp [results, Try.results28, go_sem]

  · have sP6 := sP5.more (Nat.le_refl _) (show _ ≤ w5.heap.size by omega)
    have sQ6 := sQ5
    have b6 := b5
    obtain ⟨P, hP⟩ : ∃ q, 0 + 20000 + 10 + 1 = q := ⟨_, rfl⟩
    have hPb : P ≤ 50000 := by omega
    have hrd : Rd w5.drew g (P + 100 * 0) := by rw [← hP]; exact hrd5
    clear hP sP5 sQ5 b5
    go_wp2_with fail
    refine wp_region_typed (by kernel_rfl) (tsOf [(6, .pointer (some ⟨g, 0, none⟩)), (7, .slice A1 m1 c1), (8, .slice A2 m2 c2)] [(28, tRow w5.heap.size 6 (tInt .i64 0 5)), (29, tLit (.pointer (some ⟨g, 0, none⟩))), (30, tInt .i64 0 5), (31, tAt w5.heap.size (tInt .i64 0 5)), (32, tInt .i64 0 5), (33, tLit (.slice A1 m1 c1)), (34, tLit (.slice A2 m2 c2)), (35, tLit (.pointer (some ⟨g, 0, none⟩))), (36, tList w5.heap.size 3 .i64 (-1) 1000003 7), (2, tInt .i64 0 5), (3, tLit (.slice A1 m1 c1)), (4, tLit (.slice A2 m2 c2)), (5, tList w5.heap.size 3 .i64 (-1) 1000003 7)]) (fun _ _ => True) (Gd w5 g (P) (· = g) (fun _ => True)) 13 13 rfl [some 28, some 29, some 30, some 31, some 32, some 33, some 34, some 35, some 36, some 2, some 3, some 4, some 5] (by kernel_rfl) (by kernel_rfl) rfl (fun _ _ _ h hg => Gd.more _ _ _ h hg) ⟨hrd, (GrF.refl _ _).drew, rfl, trivial⟩ (ts_old (by intro x hx; simp only [List.mem_cons, List.not_mem_nil, or_false] at hx; rcases hx with rfl | rfl | rfl <;> rfl) (by kernel_rfl)) ?_ ?_
    · obtain ⟨TS, hTS⟩ : ∃ TS, TS = tsOf [(6, .pointer (some ⟨g, 0, none⟩)), (7, .slice A1 m1 c1), (8, .slice A2 m2 c2)] [(28, tRow w5.heap.size 6 (tInt .i64 0 5)), (29, tLit (.pointer (some ⟨g, 0, none⟩))), (30, tInt .i64 0 5), (31, tAt w5.heap.size (tInt .i64 0 5)), (32, tInt .i64 0 5), (33, tLit (.slice A1 m1 c1)), (34, tLit (.slice A2 m2 c2)), (35, tLit (.pointer (some ⟨g, 0, none⟩))), (36, tList w5.heap.size 3 .i64 (-1) 1000003 7), (2, tInt .i64 0 5), (3, tLit (.slice A1 m1 c1)), (4, tLit (.slice A2 m2 c2)), (5, tList w5.heap.size 3 .i64 (-1) 1000003 7)] := ⟨_, rfl⟩
      rw [← hTS]
      have hst : ∀ s, Stab w5.heap.size (TS s) := fun s => by rw [hTS]; exact stab_ts (by exact ⟨stab_row (stab_int _ _ _), stab_lit _, stab_int _ _ _, stab_at (stab_int _ _ _), stab_int _ _ _, stab_lit _, stab_lit _, stab_lit _, stab_list, stab_int _ _ _, stab_lit _, stab_lit _, stab_list, trivial⟩) s
      have T6 : TS 6 = tLit (.pointer (some ⟨g, 0, none⟩)) := by rw [hTS]; rfl
      have T7 : TS 7 = tLit (.slice A1 m1 c1) := by rw [hTS]; rfl
      have T8 : TS 8 = tLit (.slice A2 m2 c2) := by rw [hTS]; rfl
      have T28 : TS 28 = tRow w5.heap.size 6 (tInt .i64 0 5) := by rw [hTS]; rfl
      have T29 : TS 29 = tLit (.pointer (some ⟨g, 0, none⟩)) := by rw [hTS]; rfl
      have T30 : TS 30 = tInt .i64 0 5 := by rw [hTS]; rfl
      have T31 : TS 31 = tAt w5.heap.size (tInt .i64 0 5) := by rw [hTS]; rfl
      have T32 : TS 32 = tInt .i64 0 5 := by rw [hTS]; rfl
      have T33 : TS 33 = tLit (.slice A1 m1 c1) := by rw [hTS]; rfl
      have T34 : TS 34 = tLit (.slice A2 m2 c2) := by rw [hTS]; rfl
      have T35 : TS 35 = tLit (.pointer (some ⟨g, 0, none⟩)) := by rw [hTS]; rfl
      have T36 : TS 36 = tList w5.heap.size 3 .i64 (-1) 1000003 7 := by rw [hTS]; rfl
      have T2 : TS 2 = tInt .i64 0 5 := by rw [hTS]; rfl
      have T3 : TS 3 = tLit (.slice A1 m1 c1) := by rw [hTS]; rfl
      have T4 : TS 4 = tLit (.slice A2 m2 c2) := by rw [hTS]; rfl
      have T5 : TS 5 = tList w5.heap.size 3 .i64 (-1) 1000003 7 := by rw [hTS]; rfl
      have C : Ctx Try.prog g (P) w5.heap.size 13 (· = g) (fun _ => True) TS (fun _ _ => True) := ⟨hrd.lt, rfl, by omega, hst, fun _ _ _ _ h => h, fun _ _ _ h => h⟩
      have hXi : ∀ w : World, True := fun _ => trivial
      clear hst hTS
      exact ⟨t_row C hXi [.const (.int .i64 1), .const (.int .i64 2), .const (.int .i64 3), .const (.int .i64 4), .const (.int .i64 0), .const (.int .i64 5)] Try.underlying40 tii tsi64 tzi64 rfl rfl (by omega) (by omega) int_one (stab_int _ _ _) ⟨(ot_const (by omega) (by omega)), (ot_const (by omega) (by omega)), (ot_const (by omega) (by omega)), (ot_const (by omega) (by omega)), (ot_const (by omega) (by omega)), (ot_const (by omega) (by omega)), trivial⟩ (Nat.le_refl _) T28,
      t_move C hXi (ot_tmp T6) T29,
      t_pick C hXi (ot_tmp T29) (ot_const (lo := 6) (hi := 6) (by omega) (by omega)) (by omega) (by omega) (by omega) T30,
      t_index C hXi Try.underlying40 tii tsi64 (ot_tmp T28) (ot_tmp T30) (by omega) (by omega) T31,
      t_load C hXi Try.underlying3 rfl (ot_tmp T31) T32,
      t_move C hXi (ot_tmp T7) T33,
      t_move C hXi (ot_tmp T8) T34,
      t_move C hXi (ot_tmp T6) T35,
      t_keys C hXi (ot_tmp T35) (ot_const (lo := 60) (hi := 60) (by omega) (by omega)) (by omega) (by omega) (Nat.le_refl _) T36,
      t_assign C hXi (ot_tmp T32) T2,
      t_assign C hXi (ot_tmp T33) T3,
      t_assign C hXi (ot_tmp T34) T4,
      t_assign C hXi (ot_tmp T36) T5,
      trivial⟩
    · intro vs w' hG hty _ _
      obtain ⟨way, y0, y1, e2⟩ := (show tInt .i64 0 5 (vs 2) w' from hty 9 2 (by omega) (by omega) rfl)
      have e3 : vs 3 = .slice A1 m1 c1 := hty 10 3 (by omega) (by omega) rfl
      have e4 : vs 4 = .slice A2 m2 c2 := hty 11 4 (by omega) (by omega) rfl
      obtain ⟨A3, m3, c3, ks, e5, g1, g2, g3, _, own3⟩ := (show tList w5.heap.size 3 .i64 (-1) 1000003 7 (vs 5) w' from hty 12 5 (by omega) (by omega) rfl)
      clear hty
      have hgr := hG.gr.to_grown
      have sP' := sP6.grown hgr (Nat.le_refl _) (fun q hq => by cases hq; right; omega)
      have sQ' := sQ6.grown hgr (Nat.le_refl _) (fun q hq => by cases hq; right; omega)
      have hz2 := hgr.size
      refine wpList_nil ?_
      simp only [putL, e2, e3, e4, e5]
      go_wp2
      refine bodyPost_ret (v := .tuple #[.int .i64 way, .slice A1 m1 c1, .slice A2 m2 c2, .slice A3 m3 c3]) ?_ rfl ⟨way, A1, m1, c1, ps, A2, m2, c2, qs, A3, m3, c3, ks, rfl, y0, y1, h1, k1, g1, g2, g3, sP'.more (Nat.zero_le _) hz2, sQ'.more (Nat.zero_le _) hz2, (Sl.of_own own3).more (Nat.zero_le _) (Nat.le_refl _), b6.grown hgr b6.size (fun q hq => by cases hq; exact hg)⟩
      simp [results, Try.results28, go_sem]

end Go.Proofs.Ytfobcggcilbgbaa
