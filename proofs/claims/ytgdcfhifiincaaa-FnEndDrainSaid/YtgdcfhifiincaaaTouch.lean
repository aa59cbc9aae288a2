/-
  l9Copy, l9Last, TouchFlow of the reference: what they hand back reads as a table.
-/
import Derived.Test.YtgdcfhifiincaaaPlace
import Derived.Test.YtgdcfhifiincaaaTabS
import Derived.Test.YtgdcfhifiincaaaMixF
import Derived.Test.YtgdcfhifiincaaaEnt1
import Derived.Deep.CutBlock
import Derived.Deep.CutRange
import Derived.Deep.RegionHeldLaw
namespace Go.Proofs.Ytgdcfhifiincaaa
open Go.RowKit
set_option linter.unusedVariables false

theorem Blk.three_ {w : World} {g : Nat} {t : TypeId} {a b c : Value} (h : Blk w g t #[a, b, c]) : w.cell? ⟨g, 0, none⟩ = some a ∧ w.cell? ⟨g, 1, none⟩ = some b ∧ w.cell? ⟨g, 2, none⟩ = some c ∧ (∀ i, w.frozen? ⟨g, i, none⟩ = false) :=
  ⟨(h.cell 0).trans rfl, (h.cell 1).trans rfl, (h.cell 2).trans rfl, h.frozen⟩
def set3 (w : World) (q : Nat) (x0 x1 x2 : Value) : World := ((w.setCell ⟨q, 0, none⟩ x0).setCell ⟨q, 1, none⟩ x1).setCell ⟨q, 2, none⟩ x2
theorem Blk.set3 {w : World} {g : Nat} {t : TypeId} {a b c : Value} (h : Blk w g t #[a, b, c]) (x0 x1 x2 : Value) : Blk (set3 w g x0 x1 x2) g t #[x0, x1, x2] := ((h.set_ 0 x0).set_ 1 x1).set_ 2 x2
theorem Blk.far3 {w : World} {g q : Nat} {t : TypeId} {cs : Array Value} (h : Blk w g t cs) (hq : g ≠ q) (x0 x1 x2 : Value) : Blk (Go.Proofs.Ytgdcfhifiincaaa.set3 w q x0 x1 x2) g t cs := ((h.far (p := ⟨q, 0, none⟩) hq x0).far (p := ⟨q, 1, none⟩) hq x1).far (p := ⟨q, 2, none⟩) hq x2
theorem own_set1 {w : World} {base q i : Nat} {e : TypeId} {size n : Nat} {v u : Value} {xs : List Value} (h : w.ownsRow base e size v n xs) (hne : v.ownBlock ≠ some q) : (w.setCell ⟨q, i, none⟩ u).ownsRow base e size v n xs :=
  h.kept (only_setCell (World.grownBy.refl w (some q)) (p := ⟨q, i, none⟩) (.inl rfl) u) (by
    cases hv : v.ownBlock with
    | none => exact .inl rfl
    | some k => exact .inr fun e => hne (by rw [hv, ← e]))
theorem own_set3 {w : World} {base q : Nat} {e : TypeId} {size n : Nat} {v : Value} {xs : List Value} (h : w.ownsRow base e size v n xs) (hne : v.ownBlock ≠ some q) (x0 x1 x2 : Value) : (set3 w q x0 x1 x2).ownsRow base e size v n xs := own_set1 (own_set1 (own_set1 h hne) hne) hne
theorem below_set3 {B : Nat} {w w' : World} {q : Nat} (h : Below B w w') (hq : B ≤ q) (x0 x1 x2 : Value) : Below B w (set3 w' q x0 x1 x2) := ((h.setCell (p := ⟨q, 0, none⟩) hq x0).setCell (p := ⟨q, 1, none⟩) hq x1).setCell (p := ⟨q, 2, none⟩) hq x2
theorem ens_ones (es : List En7) : ∀ u ∈ ensV es, u.oneCell' = true := by
  induction es with
  | nil => intro u h; simp [ensV, recV] at h
  | cons x r ih =>
    intro u h
    rw [show ensV (x :: r) = enC x ++ ensV r from rfl, List.mem_append] at h
    rcases h with h | h
    · simp [enC] at h
      rcases h with rfl | rfl | rfl | rfl | rfl | rfl | rfl <;> rfl
    · exact ih u h
theorem infoTab : (Try.prog.info? 34).map (fun i => (i.zero, i.size, i.bytes)) = some (some (.agg #[.int .i64 0, .int .i64 0, .slice none 0 0]), 3, 40) := by kernel_rfl
/-- A table whose entries are a row of one's own. -/
def tTabO (B : Nat) (sz st : Int) (n : Nat) (xs : List Value) : VT := fun u w => ∃ A c, u = .agg #[.int .i64 sz, .int .i64 st, .slice A n c] ∧ n ≤ c ∧ c ≤ maxLen ∧ w.ownsRow B 56 7 (.slice A n c) n xs
theorem keep_tabo {B : Nat} {sz st : Int} {n : Nat} {xs : List Value} : Keep (tTabO B sz st n xs) := by
  rintro v w w' hg ⟨A, c, rfl, h1, h2, h⟩
  exact ⟨A, c, rfl, h1, h2, New.own hg h⟩
/-- What l9Copy hands back. -/
def CopyTab (w : World) (sz st : Int) (n : Nat) (xs : List Value) (e : Ending) (w' : World) : Prop := ∃ A c, e = .returned (.agg #[.int .i64 sz, .int .i64 st, .slice A n c]) ∧ n ≤ c ∧ c ≤ maxLen ∧ w'.ownsRow w.heap.size 56 7 (.slice A n c) n xs ∧ Below w.heap.size w w'
set_option maxHeartbeats 1600000 in
theorem sCopy_any (sz st : Int) (A : Option Addr) (n c : Nat) (es : List En7) (w : World) {lo hi : Nat} (hS : Sl w lo hi 7 A n (ensV es)) (hhi : hi ≤ w.heap.size) (hn : n ≤ 1048577) (hnc : n ≤ c) :
    Calls Try.prog 74 #[.agg #[.int .i64 sz, .int .i64 st, .slice A n c]] w (CopyTab w sz st n (ensV es)) := by
  obtain ⟨i0, hi0, hz0, hz1, hz2⟩ := info_parts infoEnt
  have tzc : (Value.agg #[.int .i64 0, .int .i64 0, .int .i64 0, .int .i64 0, .int .i64 0, .int .i64 0, .int .i64 0]).cells.size = 7 := by kernel_rfl
  have b0 := ((Below.refl w.heap.size w).alloc (Nat.le_refl _) (.cells #[.int .i64 sz, .int .i64 st, .slice A n c] 34)).alloc (by simp) (.cells #[.int .i64 0, .int .i64 0, .slice none 0 0] 34)
  have k1 := (Blk.new w 34 #[.int .i64 sz, .int .i64 st, .slice A n c]).alloc (.cells #[.int .i64 0, .int .i64 0, .slice none 0 0] 34)
  have k2 := Blk.new (w.alloc (.cells #[.int .i64 sz, .int .i64 st, .slice A n c] 34)) 34 #[.int .i64 0, .int .i64 0, .slice none 0 0]
  have s0 := (hS.alloc hhi (.cells #[.int .i64 sz, .int .i64 st, .slice A n c] 34)).alloc (by simp; omega) (.cells #[.int .i64 0, .int .i64 0, .slice none 0 0] 34)
  simp only [World.size_alloc] at k2
  go_enter Try.func74, Try.ntmps74
  go_upto_region 1 with fail
  obtain ⟨w0, hw0⟩ : ∃ w0, w0 = (w.alloc (.cells #[.int .i64 sz, .int .i64 st, .slice A n c] 34)).alloc (.cells #[.int .i64 0, .int .i64 0, .slice none 0 0] 34) := ⟨_, rfl⟩
  have hsz : w0.heap.size = w.heap.size + 1 + 1 := by rw [hw0]; simp
  rw [← hw0] at b0 k1 k2 s0 ⊢
  clear hw0
  have s0d := s0.drew
  have hzd : hi ≤ w0.drew.heap.size := by show hi ≤ w0.heap.size; omega
  obtain ⟨c0, c1, c2, _⟩ := k1.drew.three_
  obtain ⟨L, hL⟩ : ∃ L : List (Nat × VT), L = [(1, tLit (.pointer (some ⟨w.heap.size, 0, none⟩))), (3, tLit (.pointer (some ⟨w.heap.size, 0, none⟩))), (4, tLit (.int .i64 (sz))), (5, tLit (.pointer (some ⟨w.heap.size, 0 + 1, none⟩))), (6, tLit (.int .i64 (st))), (7, tFull w0.drew.heap.size 56 7), (8, tLit (.pointer (some ⟨w.heap.size, 0 + 2, none⟩))), (9, tLit (.slice (A) (n) (c))), (10, tOwn w0.drew.heap.size 56 7 (0 + n) ([] ++ ensV es)), (11, tTabO w0.drew.heap.size sz st (0 + n) ([] ++ ensV es))] := ⟨_, rfl⟩
  have V1 : L.lookup 1 = some (tLit (.pointer (some ⟨w.heap.size, 0, none⟩))) := by rw [hL]; rfl
  have V3 : L.lookup 3 = some (tLit (.pointer (some ⟨w.heap.size, 0, none⟩))) := by rw [hL]; rfl
  have V4 : L.lookup 4 = some (tLit (.int .i64 (sz))) := by rw [hL]; rfl
  have V5 : L.lookup 5 = some (tLit (.pointer (some ⟨w.heap.size, 0 + 1, none⟩))) := by rw [hL]; rfl
  have V6 : L.lookup 6 = some (tLit (.int .i64 (st))) := by rw [hL]; rfl
  have V7 : L.lookup 7 = some (tFull w0.drew.heap.size 56 7) := by rw [hL]; rfl
  have V8 : L.lookup 8 = some (tLit (.pointer (some ⟨w.heap.size, 0 + 2, none⟩))) := by rw [hL]; rfl
  have V9 : L.lookup 9 = some (tLit (.slice (A) (n) (c))) := by rw [hL]; rfl
  have V10 : L.lookup 10 = some (tOwn w0.drew.heap.size 56 7 (0 + n) ([] ++ ensV es)) := by rw [hL]; rfl
  have V11 : L.lookup 11 = some (tTabO w0.drew.heap.size sz st (0 + n) ([] ++ ensV es)) := by rw [hL]; rfl
  have HK : KeepL L := by rw [hL]; exact ⟨keep_lit _, keep_lit _, keep_lit _, keep_lit _, keep_lit _, keep_full, keep_lit _, keep_lit _, keep_own, keep_tabo, trivial⟩
  refine wp_region_mix (by kernel_rfl) L 9 10 rfl [some 3, some 4, some 5, some 6, some 7, some 8, some 9, some 10, some 11] (by kernel_rfl) (by kernel_rfl) (by kernel_rfl) 1 (by rw [hL]; intro x hx; simp only [List.take_succ_cons, List.take_zero, List.mem_cons, List.not_mem_nil, or_false] at hx; rcases hx with rfl <;> rfl) (by rw [hL]; rfl) ?_ ?_
  · clear hL
    exact ⟨m_field HK gokm_none (f := 0) (s := 1) (by kernel_rfl) (by omega) (om_tmp V1) rfl V3,
      m_load1 HK gokm_none (by kernel_rfl) (om_tmp V3) c0 V4,
      m_field HK gokm_none (f := 1) (s := 1) (by kernel_rfl) (by omega) (om_tmp V1) rfl V5,
      m_load1 HK gokm_none (by kernel_rfl) (om_tmp V5) c1 V6,
      m_row0 HK gokm_none Try.underlying32 hi0 hz0 hz1 (Nat.le_refl _) V7,
      m_field HK gokm_none (f := 2) (s := 1) (by kernel_rfl) (by omega) (om_tmp V1) rfl V8,
      m_load1 HK gokm_none (by kernel_rfl) (om_tmp V8) c2 V9,
      m_appendl (n := 0) (xs := []) HK gokm_none Try.underlying32 hi0 hz0 hz1 hz2 tzc (by decide) (om_tmp V7) (om_tmp V9) s0d hzd (ens_ones es) (by unfold maxLen; omega) (by omega) (Nat.le_refl _) V10,
      m_build HK gokm_none V11 (fun o b w hm ho => by
        have e4 : b.eval (.tmp 4) = .int .i64 sz := (om_tmp V4) o b w (hm (0, .tmp 4) (by simp)) ho
        have e6 : b.eval (.tmp 6) = .int .i64 st := (om_tmp V6) o b w (hm (1, .tmp 6) (by simp)) ho
        obtain ⟨A1, c1, e0, q1, q2, own⟩ := (om_tmp V10) o b w (hm (2, .tmp 10) (by simp)) ho
        exact ⟨#[.int .i64 sz, .int .i64 st, .slice A1 (0 + n) c1], by simp only [List.map_cons, List.map_nil, e4, e6, e0]; kernel_rfl, A1, c1, rfl, q1, q2, own⟩),
      trivial⟩
  intro vs w5 hw5 hk5
  have k3 : vs 3 = .pointer (some ⟨w.heap.size, 0, none⟩) := hk5 0 3 _ (by omega) rfl V3
  have k4 : vs 4 = .int .i64 (sz) := hk5 1 4 _ (by omega) rfl V4
  have k5 : vs 5 = .pointer (some ⟨w.heap.size, 0 + 1, none⟩) := hk5 2 5 _ (by omega) rfl V5
  have k6 : vs 6 = .int .i64 (st) := hk5 3 6 _ (by omega) rfl V6
  have k7 := hk5 4 7 _ (by omega) rfl V7
  have k8 : vs 8 = .pointer (some ⟨w.heap.size, 0 + 2, none⟩) := hk5 5 8 _ (by omega) rfl V8
  have k9 : vs 9 = .slice (A) (n) (c) := hk5 6 9 _ (by omega) rfl V9
  have k10 := hk5 7 10 _ (by omega) rfl V10
  have k11 := hk5 8 11 _ (by omega) rfl V11
  clear hk5 HK hL V1 V3 V4 V5 V6 V7 V8 V9 V10 V11
  obtain ⟨A1, c1', e11, q1, q2, own5⟩ := k11
  rw [Nat.zero_add, List.nil_append] at own5
  have K2 := New.blk hw5 k2
  have b5 := New.below hw5 b0 (by omega)
  have hne := own_neN own5 K2 (by decide)
  simp only [putL, Act.put, List.setIfInBounds_toArray, List.set_cons_zero, List.set_cons_succ, k3, k4, k5, k6, k8, k9]
  clear k1 k2 s0 b0 s0d hzd c0 c1 c2 k3 k4 k5 k6 k8 k9
  simp only [Nat.zero_add] at e11 hne own5
  rw [e11]
  obtain ⟨d0, d1, d2, df⟩ := K2.three_
  go_wp2
  have K6 := K2.set3 (.int .i64 sz) (.int .i64 st) (.slice A1 n c1')
  have own6 := own_set3 own5 hne (.int .i64 sz) (.int .i64 st) (.slice A1 n c1')
  have b6 := below_set3 b5 (show w.heap.size ≤ w.heap.size + 1 by omega) (.int .i64 sz) (.int .i64 st) (.slice A1 n c1')
  obtain ⟨w6, hw6⟩ : ∃ w6, w6 = set3 w5 (w.heap.size + 1) (.int .i64 sz) (.int .i64 st) (.slice A1 n c1') := ⟨_, rfl⟩
  unfold set3 at hw6 K6 own6 b6
  rw [← hw6] at K6 own6 b6 ⊢
  obtain ⟨x0, x1, x2, _⟩ := K6.three_
  have own7 := own_base own6 (show w.heap.size ≤ w0.drew.heap.size by show w.heap.size ≤ w0.heap.size; omega)
  refine bodyPost_ret (v := .agg #[.int .i64 sz, .int .i64 st, .slice A1 n c1']) ?_ rfl ⟨A1, c1', rfl, by omega, q2, own7, b6⟩
  simp [results, Try.results74, go_sem, x0, x1, x2]

theorem sLast_any (sz st : Int) (A : Option Addr) (n c : Nat) (es : List En7) (w : World) {lo hi : Nat} (hS : Sl w lo hi 7 A n (ensV es)) (hhi : hi ≤ w.heap.size) (hn : n ≤ 1048577) :
    Calls Try.prog 73 #[.agg #[.int .i64 sz, .int .i64 st, .slice A n c]] w fun e w' => (∃ z : Int, e = .returned (.int .i64 z)) ∧ Below w.heap.size w w' := by
  have b0 := (Below.refl w.heap.size w).alloc (Nat.le_refl _) (.cells #[.int .i64 sz, .int .i64 st, .slice A n c] 34)
  have s0 := hS.alloc hhi (.cells #[.int .i64 sz, .int .i64 st, .slice A n c] 34)
  by_cases h0 : n = 0
  · subst h0
    go_enter Try.func73, Try.ntmps73
    go_wp2
    go_ret
    exact ⟨⟨_, rfl⟩, b0⟩
  · obtain ⟨k, rfl⟩ : ∃ k, n = k + 1 := ⟨n - 1, by omega⟩
    obtain ⟨b, off, rfl, _, _, _, _, _, _, _, _, c6⟩ := s0.en (k := k) (by omega)
    generalize (enAt es k).l = z at c6
    have hne : (((k + 1 : Nat) : Int) == 0) = false := by simp; omega
    have hk1 : ((k + 1 : Nat) : Int) - 1 = (k : Int) := by omega
    have hk2 : (k : Int) < ((k + 1 : Nat) : Int) := by omega
    have hk3 : (0 : Int) ≤ (k : Int) := by omega
    go_enter Try.func73, Try.ntmps73
    go_wp2
    go_ret
    exact ⟨⟨_, rfl⟩, b0⟩
end Go.Proofs.Ytgdcfhifiincaaa
