/-
  DrainedHosts of the program.
-/
import Derived.Test.YtgdcfhifiincaaaFlOn
import Derived.Test.YtgdcfhifiincaaaPool
import Derived.Test.YtgdcfhifiincaaaApp1
import Derived.Deep.CutBlock
namespace Go.Proofs.Ytgdcfhifiincaaa
open Go.RowKit
set_option linter.unusedVariables false

/-- A host that drains and has no flow. -/
def drF (es : List En7) (h : H3) : Bool := h.2.2 == 2 && flowsOn es h.1 == 0
def drN (es : List En7) (hs : List H3) : List Int := (hs.filter (drF es)).map (·.1)
def drL (hs : List H3) (sz st : Int) (es : List En7) : List Int := if poolV hs = true ∧ tabV sz st es = true then drN es hs else []
theorem drN_snoc {hs : List H3} {k : Nat} (es : List En7) (hk : k < hs.length) : drN es (hs.take (k + 1)) = drN es (hs.take k) ++ if drF es (hAt hs k) = true then [(hAt hs k).1] else [] := by
  rw [List.take_succ_eq_append_getElem hk, ← hAt_eq hk]
  unfold drN
  rw [List.filter_append, List.map_append]
  congr 1
  by_cases h : drF es (hAt hs k) = true <;> simp [h]
theorem drN_le (es : List En7) (hs : List H3) (k : Nat) : (drN es (hs.take k)).length ≤ k := by
  unfold drN
  rw [List.length_map]
  exact Nat.le_trans (List.length_filter_le _ _) (List.length_take_le _ _)

set_option maxRecDepth 100000 in
set_option maxHeartbeats 1600000 in
theorem iDrained_any (A : Option Addr) (n c : Nat) (hs : List H3) (sz st : Int) (A2 : Option Addr) (n2 c2 : Nat) (es : List En7) (w : World) {lo hi lo2 hi2 : Nat} (hS : Sl w lo hi 3 A n (hostsV hs)) (hhi : hi ≤ w.heap.size) (hn : n ≤ 1048576) (hE : Sl w lo2 hi2 7 A2 n2 (ensV es)) (hhi2 : hi2 ≤ w.heap.size) (hn2 : n2 ≤ 1048576) (hnc : n2 ≤ c2) (hmx : c2 ≤ maxLen) :
    Calls Try.prog 12 #[.slice A n c, .agg #[.int .i64 sz, .int .i64 st, .slice A2 n2 c2]] w (RetOwn w 3 1 (drL hs sz st es).length ((drL hs sz st es).map (Value.int .i64))) := by
  have HL := Lib.hid hS.hlen
  obtain ⟨i0, hi0, hz0, hz1, hz2⟩ := info_parts infoI
  have hb0 := (Below.refl w.heap.size w).alloc (Nat.le_refl _) (.cells #[.int .i64 sz, .int .i64 st, .slice A2 n2 c2] 34)
  have hbk0 := Blk.new w 34 #[.int .i64 sz, .int .i64 st, .slice A2 n2 c2]
  have hpv := iPoolValid_any A n c hs _ (hS.alloc hhi (.cells #[.int .i64 sz, .int .i64 st, .slice A2 n2 c2] 34)) (Nat.le_trans hhi (by simp)) hn
  have htv : ∀ w1, Below w.heap.size w w1 → Calls Try.prog 25 #[.agg #[.int .i64 sz, .int .i64 st, .slice A2 n2 c2]] w1 fun e w' => e = .returned (.bool (tabV sz st es)) ∧ Below w1.heap.size w1 w' := fun w1 hb => iTab_any sz st A2 n2 c2 es w1 (hE.below hb hhi2) (Nat.le_trans hhi2 hb.size) (by omega)
  by_cases hv : poolV hs = true
  · by_cases ht : tabV sz st es = true
    · have HV : RowKit.Hid (drL hs sz st es = drN es hs) := Lib.hid (by unfold drL; rw [if_pos ⟨hv, ht⟩])
      have hfo : ∀ (x : Int) w1, Below w.heap.size w w1 → Calls Try.prog 23 #[.agg #[.int .i64 sz, .int .i64 st, .slice A2 n2 c2], .int .i64 x] w1 fun e w' => e = .returned (.int .i64 (flowsOn es x : Nat)) ∧ Below w1.heap.size w1 w' := fun x w1 hb => by
        have := iFlOn_any sz st A2 n2 c2 es x w1 (hE.below hb hhi2) (Nat.le_trans hhi2 hb.size) (by omega) hnc hmx
        unfold flOn at this
        rwa [if_pos ht] at this
      rw [HV.out]
      rw [hv] at hpv
      rw [ht] at htv
      go_enter Try.func12, Try.ntmps12
      go_wp2_with fail
      refine hpv.mono ?_
      rintro e w1 ⟨rfl, hb1⟩
      have hsA : w.heap.size < (w.alloc (.cells #[.int .i64 sz, .int .i64 st, .slice A2 n2 c2] 34)).heap.size := by simp
      clear hpv
      generalize w.alloc (.cells #[.int .i64 sz, .int .i64 st, .slice A2 n2 c2] 34) = wA at hb0 hbk0 hb1 hsA
      have hbk1 := hbk0.below hb1 hsA
      have d0 : w1.cell? ⟨w.heap.size, 0, none⟩ = some (.int .i64 sz) := hbk1.cell 0
      have d1 : w1.cell? ⟨w.heap.size, 1, none⟩ = some (.int .i64 st) := hbk1.cell 1
      have d2 : w1.cell? ⟨w.heap.size, 2, none⟩ = some (.slice A2 n2 c2) := hbk1.cell 2
      go_wp2_with fail
      refine (htv _ (hb0.trans (hb1.mono hb0.size))).mono ?_
      rintro e w2 ⟨rfl, hb2⟩
      have hd2 := hb1.trans (hb2.mono hb1.size)
      clear htv hb1 hb2 hbk1 d0 d1 d2
      go_wp2
      go_loopw [5, 18] (fun o i wr => ∃ (k : Nat) (v : Value), k ≤ n ∧ i = .int .i64 k ∧ o = v ∧ wr.ownsRow wA.heap.size 3 1 v (drN es (hs.take k)).length ((drN es (hs.take k)).map (Value.int .i64)) ∧ Below wA.heap.size wA wr) (fun _ i _ => n - (intOf i).toNat)
      case atStart => exact ⟨0, _, Nat.zero_le _, rfl, rfl, World.ownsRow_nil _ _ _ _, hd2⟩
      case round =>
        clear hd2
        obtain ⟨k, v, hk, rfl, rfl, hown, hb⟩ := hrel
        have hz := hb.size
        have hbw := hb0.trans (hb.mono hb0.size)
        have hbk := hbk0.below hb hsA
        by_cases hlt : k < n
        · obtain ⟨b, off, rfl, _, _, c0, c1, c2'⟩ := (hS.below hbw hhi).host hlt
          have hlk : k < hs.length := by rw [HL.out]; exact hlt
          have hle := drN_le es hs k
          have HS := Lib.hid (drN_snoc es hlk)
          obtain ⟨⟨h0, h1, h2⟩, hh⟩ : ∃ p, hAt hs k = p := ⟨_, rfl⟩
          rw [hh] at c0 c1 c2' HS
          clear hh
          have hki : (0 : Int) ≤ (k : Int) := by omega
          have hki2 : (k : Int) < (n : Int) := by omega
          by_cases hs2 : h2 = 2
          · subst hs2
            have hbA := hb.alloc hz (.cells #[.int .i64 h0, .int .i64 h1, .int .i64 2] 50)
            have hbB := hbw.alloc hbw.size (.cells #[.int .i64 h0, .int .i64 h1, .int .i64 2] 50)
            have hownA := hown.alloc (.cells #[.int .i64 h0, .int .i64 h1, .int .i64 2] 50)
            have e0 := (Blk.new wr 50 #[.int .i64 h0, .int .i64 h1, .int .i64 2])
            have d0 : wr.cell? ⟨w.heap.size, 0, none⟩ = some (.int .i64 sz) := hbk.cell 0
            have d1 : wr.cell? ⟨w.heap.size, 1, none⟩ = some (.int .i64 st) := hbk.cell 1
            have d2 : wr.cell? ⟨w.heap.size, 2, none⟩ = some (.slice A2 n2 c2) := hbk.cell 2
            have hwm : w.heap.size < wr.heap.size := hbk.lt
            obtain ⟨q, hq⟩ : ∃ q, flowsOn es h0 = q := ⟨_, rfl⟩
            have HQ := Lib.hid hq
            clear hq
            go_wp2_with fail
            refine (hfo h0 _ hbB).mono ?_
            rw [HQ.out]
            rintro e w5 ⟨rfl, hb5⟩
            have hd5 := hbA.trans (hb5.mono hbA.size)
            have hown5 := own_below hownA hb5
            have e5 := e0.below hb5 e0.lt
            have f0 : w5.cell? ⟨wr.heap.size, 0, none⟩ = some (.int .i64 h0) := e5.cell 0
            clear hbA hbB hownA e0 e5 hb5 hown hb hbw hbk d0 d1 d2
            by_cases hq0 : q = 0
            · subst hq0
              have HE : RowKit.Hid (drN es (hs.take (k + 1)) = drN es (hs.take k) ++ [h0]) := Lib.hid (by rw [HS.out, if_pos (by unfold drF; rw [HQ.out]; rfl)])
              go_wp2_with (at_builtin; (refine wpList_app1 w5 wA #[.int .i64 h0] rfl _ _ 28 3 rfl i0 _ 1 8 Try.underlying28 hi0 hz0 hz1 hz2 rfl (by decide) _ _ _ (by rfl) hown5 hd5 w5.heap.size 1 1 rfl rfl rfl (by intro u hu; simp at hu; subst hu; rfl) (by unfold maxLen; omega) (by omega) ?_; intro v' w6 hown6 hb6))
              go_roundw
              case rel => exact ⟨k + 1, v', by omega, by go_num, rfl, by rw [HE.out, List.map_append, List.length_append]; exact hown6, hb6⟩
              case measure => simp [intOf]; omega
            · have HE : RowKit.Hid (drN es (hs.take (k + 1)) = drN es (hs.take k)) := Lib.hid (by rw [HS.out, if_neg (by unfold drF; rw [HQ.out]; simp; exact hq0)]; simp)
              have hqb : ((q : Int) == 0) = false := by simp; omega
              go_wp2
              go_roundw
              case rel => exact ⟨k + 1, _, by omega, by go_num, rfl, by rw [HE.out]; exact hown5, hd5⟩
              case measure => simp [intOf]; omega
          · have HE : RowKit.Hid (drN es (hs.take (k + 1)) = drN es (hs.take k)) := Lib.hid (by rw [HS.out, if_neg (by unfold drF; simp; intro h; exact absurd h hs2)]; simp)
            have hsb : (h2 == 2) = false := by simpa using hs2
            go_wp2
            go_roundw
            case rel => exact ⟨k + 1, _, by omega, by go_num, rfl, by rw [HE.out]; exact hown.alloc _, hb.alloc hz _⟩
            case measure => simp [intOf]; omega
        · obtain rfl : n = k := by omega
          have HE : RowKit.Hid (hs.take n = hs) := Lib.hid (by rw [← HL.out, List.take_length])
          rw [HE.out] at hown
          go_wp2
          go_ret
          exact RetOwn.older hown hb hb0
    · have HV : RowKit.Hid (drL hs sz st es = []) := Lib.hid (by unfold drL; rw [if_neg (fun h => ht h.2)])
      rw [HV.out]
      rw [hv] at hpv
      rw [Bool.eq_false_iff.2 ht] at htv
      go_enter Try.func12, Try.ntmps12
      go_wp2_with fail
      refine hpv.mono ?_
      rintro e w1 ⟨rfl, hb1⟩
      have hbk1 := hbk0.below hb1 (by simp)
      have hd1 := hb0.trans (hb1.mono (by simp))
      have d0 : w1.cell? ⟨w.heap.size, 0, none⟩ = some (.int .i64 sz) := hbk1.cell 0
      have d1 : w1.cell? ⟨w.heap.size, 1, none⟩ = some (.int .i64 st) := hbk1.cell 1
      have d2 : w1.cell? ⟨w.heap.size, 2, none⟩ = some (.slice A2 n2 c2) := hbk1.cell 2
      go_wp2_with fail
      refine (htv _ hd1).mono ?_
      rintro e w2 ⟨rfl, hb2⟩
      go_wp2
      go_ret
      exact RetOwn.mk (World.ownsRow_nil _ _ _ _) (hd1.trans (hb2.mono hd1.size))
  · have HV : RowKit.Hid (drL hs sz st es = []) := Lib.hid (by unfold drL; rw [if_neg (fun h => hv h.1)])
    rw [HV.out]
    rw [Bool.eq_false_iff.2 hv] at hpv
    go_enter Try.func12, Try.ntmps12
    go_wp2_with fail
    refine hpv.mono ?_
    rintro e w1 ⟨rfl, hb1⟩
    go_wp2
    go_ret
    exact RetOwn.mk (World.ownsRow_nil _ _ _ _) (hb0.trans (hb1.mono (by simp)))
end Go.Proofs.Ytgdcfhifiincaaa
