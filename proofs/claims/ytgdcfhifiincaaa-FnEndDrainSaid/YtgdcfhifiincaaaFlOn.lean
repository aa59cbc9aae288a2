/-
  FlowsOn of both packages.
-/
import Derived.Test.YtgdcfhifiincaaaTabI
import Derived.Test.YtgdcfhifiincaaaTabS
namespace Go.Proofs.Ytgdcfhifiincaaa
open Go.RowKit
set_option linter.unusedVariables false

/-- How many entries go to a host; -1 where the table is no table. -/
def flOn (sz st : Int) (es : List En7) (x : Int) : Int := if tabV sz st es = true then (flowsOn es x : Nat) else -1
theorem flowsOn_snoc {es : List En7} {k : Nat} (hk : k < es.length) (x : Int) : flowsOn (es.take (k + 1)) x = flowsOn (es.take k) x + if (enAt es k).t = x then 1 else 0 := by
  rw [List.take_succ_eq_append_getElem hk, ← enAt_eq hk]
  unfold flowsOn
  rw [List.countP_append]
  by_cases h : (enAt es k).t = x <;> simp [h]
theorem flowsOn_le (es : List En7) (k : Nat) (x : Int) : flowsOn (es.take k) x ≤ k := Nat.le_trans List.countP_le_length (List.length_take_le _ _)

set_option maxRecDepth 100000 in
set_option maxHeartbeats 1600000 in
theorem iFlOn_any (sz st : Int) (A : Option Addr) (n c : Nat) (es : List En7) (x : Int) (w : World) {lo hi : Nat} (hS : Sl w lo hi 7 A n (ensV es)) (hhi : hi ≤ w.heap.size) (hn : n ≤ 1048577) (hnc : n ≤ c) (hmx : c ≤ maxLen) :
    Calls Try.prog 23 #[.agg #[.int .i64 sz, .int .i64 st, .slice A n c], .int .i64 x] w fun e w' => e = .returned (.int .i64 (flOn sz st es x)) ∧ Below w.heap.size w w' := by
  have HL := Lib.hid hS.nlen
  have hb0 := (Below.refl w.heap.size w).alloc (Nat.le_refl _) (.cells #[.int .i64 sz, .int .i64 st, .slice A n c] 34)
  have hbk0 := Blk.new w 34 #[.int .i64 sz, .int .i64 st, .slice A n c]
  have hcon := iTab_any sz st A n c es _ (hS.alloc hhi (.cells #[.int .i64 sz, .int .i64 st, .slice A n c] 34)) (Nat.le_trans hhi (by simp)) hn
  by_cases hv : tabV sz st es = true
  · have HV : RowKit.Hid (flOn sz st es x = (flowsOn es x : Nat)) := Lib.hid (by unfold flOn; rw [if_pos hv])
    rw [hv] at hcon
    go_enter Try.func23, Try.ntmps23
    go_wp2_with fail
    refine hcon.mono ?_
    rintro e w1 ⟨rfl, hb1⟩
    have hbk1 := hbk0.below hb1 (by simp)
    have hd1 := hb0.trans (hb1.mono (by simp))
    have d2 : w1.cell? ⟨w.heap.size, 2, none⟩ = some (.slice A n c) := hbk1.cell 2
    have hz1 := hd1.size
    clear hcon hbk0 hb0 hb1
    go_wp2
    go_loopw [5, 14] (fun s i wr => ∃ k : Nat, k ≤ n ∧ i = .int .i64 k ∧ s = .int .i64 (flowsOn (es.take k) x : Nat) ∧ Blk wr w.heap.size 34 #[.int .i64 sz, .int .i64 st, .slice A n c] ∧ Below w.heap.size w wr) (fun _ i _ => n - (intOf i).toNat)
    case atStart => exact ⟨0, Nat.zero_le _, rfl, rfl, hbk1, hd1⟩
    case round =>
      clear d2 hbk1 hd1
      obtain ⟨k, hk, rfl, rfl, hbk, hb⟩ := hrel
      have hz := hb.size
      have d2 : wr.cell? ⟨w.heap.size, 2, none⟩ = some (.slice A n c) := hbk.cell 2
      by_cases hlt : k < n
      · obtain ⟨b, off, rfl, _, _, c0, c1, c2, c3, c4, c5, c6⟩ := (hS.below hb hhi).en hlt
        have hlk : k < es.length := by rw [HL.out]; exact hlt
        have HC := Lib.hid (flowsOn_snoc hlk x)
        have hle := flowsOn_le es k x
        obtain ⟨q, hq⟩ : ∃ q, flowsOn (es.take k) x = q := ⟨_, rfl⟩
        rw [hq] at HC hle ⊢
        obtain ⟨⟨x1, x2, x3, x4, x5, xt, xl⟩, hh⟩ : ∃ p, enAt es k = p := ⟨_, rfl⟩
        rw [hh] at c0 c1 c2 c3 c4 c5 c6 HC
        simp only at c0 c1 c2 c3 c4 c5 c6
        have hki : (0 : Int) ≤ (k : Int) := by omega
        have hki2 : (k : Int) < (n : Int) := by omega
        clear hh hq
        by_cases ht : xt = x
        · have HE : RowKit.Hid (flowsOn (es.take (k + 1)) x = q + 1) := Lib.hid (by rw [HC.out, if_pos ht])
          subst ht
          go_wp2
          go_roundw
          case rel => exact ⟨k + 1, by omega, by go_num, by rw [HE.out]; push_cast; rfl, hbk.alloc _, hb.alloc hz _⟩
          case measure => simp [intOf]; omega
        · have HE : RowKit.Hid (flowsOn (es.take (k + 1)) x = q) := Lib.hid (by rw [HC.out, if_neg ht]; rfl)
          have htb : (xt == x) = false := by simpa using ht
          go_wp2
          go_roundw
          case rel => exact ⟨k + 1, by omega, by go_num, by rw [HE.out], hbk.alloc _, hb.alloc hz _⟩
          case measure => simp [intOf]; omega
      · obtain rfl : n = k := by omega
        have HE : RowKit.Hid (flowsOn (es.take n) x = flowsOn es x) := Lib.hid (by rw [← HL.out, List.take_length])
        go_wp2
        go_ret
        exact ⟨ret_int (by rw [HV.out, HE.out]), hb⟩
  · have HV : RowKit.Hid (flOn sz st es x = -1) := Lib.hid (by unfold flOn; rw [if_neg hv])
    rw [Bool.eq_false_iff.2 hv] at hcon
    go_enter Try.func23, Try.ntmps23
    go_wp2_with fail
    refine hcon.mono ?_
    rintro e w1 ⟨rfl, hb1⟩
    go_wp2
    go_ret
    exact ⟨ret_int HV.out.symm, hb0.trans (hb1.mono (by simp))⟩

set_option maxRecDepth 100000 in
set_option maxHeartbeats 1600000 in
theorem sFlOn_any (sz st : Int) (A : Option Addr) (n c : Nat) (es : List En7) (x : Int) (w : World) {lo hi : Nat} (hS : Sl w lo hi 7 A n (ensV es)) (hhi : hi ≤ w.heap.size) (hn : n ≤ 1048577) (hnc : n ≤ c) (hmx : c ≤ maxLen) :
    Calls Try.prog 36 #[.agg #[.int .i64 sz, .int .i64 st, .slice A n c], .int .i64 x] w fun e w' => e = .returned (.int .i64 (flOn sz st es x)) ∧ Below w.heap.size w w' := by
  have HL := Lib.hid hS.nlen
  have hb0 := (Below.refl w.heap.size w).alloc (Nat.le_refl _) (.cells #[.int .i64 sz, .int .i64 st, .slice A n c] 34)
  have hbk0 := Blk.new w 34 #[.int .i64 sz, .int .i64 st, .slice A n c]
  have hcon := sTab_any sz st A n c es _ (hS.alloc hhi (.cells #[.int .i64 sz, .int .i64 st, .slice A n c] 34)) (Nat.le_trans hhi (by simp)) hn hnc hmx
  by_cases hv : tabV sz st es = true
  · have HV : RowKit.Hid (flOn sz st es x = (flowsOn es x : Nat)) := Lib.hid (by unfold flOn; rw [if_pos hv])
    rw [hv] at hcon
    go_enter Try.func36, Try.ntmps36
    go_wp2_with fail
    refine hcon.mono ?_
    rintro e w1 ⟨rfl, hb1⟩
    have hbk1 := hbk0.below hb1 (by simp)
    have hd1 := hb0.trans (hb1.mono (by simp))
    have d2 : w1.cell? ⟨w.heap.size, 2, none⟩ = some (.slice A n c) := hbk1.cell 2
    have hz1 := hd1.size
    clear hcon hbk0 hb0 hb1
    go_wp2
    go_loopw [5, 6] (fun s i wr => ∃ k : Nat, k ≤ n ∧ i = .int .i64 k ∧ s = .int .i64 (flowsOn (es.take k) x : Nat) ∧ Blk wr w.heap.size 34 #[.int .i64 sz, .int .i64 st, .slice A n c] ∧ Below w.heap.size w wr) (fun _ i _ => n - (intOf i).toNat)
    case atStart => exact ⟨0, Nat.zero_le _, rfl, rfl, hbk1, hd1⟩
    case round =>
      clear d2 hbk1 hd1
      obtain ⟨k, hk, rfl, rfl, hbk, hb⟩ := hrel
      have hz := hb.size
      have d2 : wr.cell? ⟨w.heap.size, 2, none⟩ = some (.slice A n c) := hbk.cell 2
      by_cases hlt : k < n
      · obtain ⟨b, off, rfl, _, _, c0, c1, c2, c3, c4, c5, c6⟩ := (hS.below hb hhi).en hlt
        have hlk : k < es.length := by rw [HL.out]; exact hlt
        have HC := Lib.hid (flowsOn_snoc hlk x)
        have hle := flowsOn_le es k x
        obtain ⟨q, hq⟩ : ∃ q, flowsOn (es.take k) x = q := ⟨_, rfl⟩
        rw [hq] at HC hle ⊢
        obtain ⟨⟨x1, x2, x3, x4, x5, xt, xl⟩, hh⟩ : ∃ p, enAt es k = p := ⟨_, rfl⟩
        rw [hh] at c0 c1 c2 c3 c4 c5 c6 HC
        simp only at c0 c1 c2 c3 c4 c5 c6
        have hki : (0 : Int) ≤ (k : Int) := by omega
        have hki2 : (k : Int) < (n : Int) := by omega
        clear hh hq
        by_cases ht : xt = x
        · have HE : RowKit.Hid (flowsOn (es.take (k + 1)) x = q + 1) := Lib.hid (by rw [HC.out, if_pos ht])
          subst ht
          go_wp2
          go_roundw
          case rel => exact ⟨k + 1, by omega, by go_num, by rw [HE.out]; push_cast; rfl, hbk, hb⟩
          case measure => simp [intOf]; omega
        · have HE : RowKit.Hid (flowsOn (es.take (k + 1)) x = q) := Lib.hid (by rw [HC.out, if_neg ht]; rfl)
          have htb : (xt == x) = false := by simpa using ht
          go_wp2
          go_roundw
          case rel => exact ⟨k + 1, by omega, by go_num, by rw [HE.out], hbk, hb⟩
          case measure => simp [intOf]; omega
      · obtain rfl : n = k := by omega
        have HE : RowKit.Hid (flowsOn (es.take n) x = flowsOn es x) := Lib.hid (by rw [← HL.out, List.take_length])
        go_wp2
        go_ret
        exact ⟨ret_int (by rw [HV.out, HE.out]), hb⟩
  · have HV : RowKit.Hid (flOn sz st es x = -1) := Lib.hid (by unfold flOn; rw [if_neg hv])
    rw [Bool.eq_false_iff.2 hv] at hcon
    go_enter Try.func36, Try.ntmps36
    go_wp2_with fail
    refine hcon.mono ?_
    rintro e w1 ⟨rfl, hb1⟩
    go_wp2
    go_ret
    exact ⟨ret_int HV.out.symm, hb0.trans (hb1.mono (by simp))⟩
end Go.Proofs.Ytgdcfhifiincaaa
