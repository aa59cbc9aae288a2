/-
  hostAt, HostState of impl: their contracts (cut out of HostAt).
-/
import Derived.Test.YtgdcfhifiincaaaPool
import Derived.Deep.CutBlock
namespace Go.Proofs.Ytgdcfhifiincaaa
open Go.RowKit
set_option linter.unusedVariables false

/-- The place of the host with a number, or -1. -/
def atH (hs : List H3) (x : Int) : Int := match hs.findIdx? (fun h => h.1 == x) with
  | some i => (i : Int)
  | none => -1
theorem atH_found {hs : List H3} {x : Int} {k : Nat} (hk : k < hs.length) (hj : ∀ j, j < k → (hAt hs j).1 ≠ x) (h : (hAt hs k).1 = x) : atH hs x = k := by
  have : hs.findIdx? (fun h => h.1 == x) = some k := by
    rw [List.findIdx?_eq_some_iff_getElem]
    refine ⟨hk, by rw [hAt_eq hk] at h; simpa using h, fun j hjk => ?_⟩
    have := hj j hjk
    rw [hAt_eq (by omega)] at this
    simpa using this
  unfold atH
  rw [this]
theorem atH_none {hs : List H3} {x : Int} (hj : ∀ j, j < hs.length → (hAt hs j).1 ≠ x) : atH hs x = -1 := by
  have : hs.findIdx? (fun h => h.1 == x) = none := by
    rw [List.findIdx?_eq_none_iff]
    intro y hy
    obtain ⟨j, hjl, rfl⟩ := List.mem_iff_getElem.1 hy
    have := hj j hjl
    rw [hAt_eq hjl] at this
    simpa using this
  unfold atH
  rw [this]
theorem atH_cases (hs : List H3) (x : Int) : (atH hs x = -1 ∧ ∀ j, j < hs.length → (hAt hs j).1 ≠ x) ∨ ∃ k, k < hs.length ∧ atH hs x = (k : Nat) ∧ (hAt hs k).1 = x ∧ ∀ j, j < k → (hAt hs j).1 ≠ x := by
  unfold atH
  cases h : hs.findIdx? (fun h => h.1 == x) with
  | none =>
    left
    refine ⟨rfl, fun j hj => ?_⟩
    rw [List.findIdx?_eq_none_iff] at h
    have := h _ (List.getElem_mem hj)
    rw [hAt_eq hj]
    simpa using this
  | some k =>
    right
    rw [List.findIdx?_eq_some_iff_getElem] at h
    obtain ⟨hk, h1, h2⟩ := h
    refine ⟨k, hk, rfl, by rw [hAt_eq hk]; simpa using h1, fun j hj => ?_⟩
    have := h2 j hj
    rw [hAt_eq (by omega)]
    simpa using this
theorem closH_any (a b c x : Int) (g : Nat) (w : World) (hc : w.cell? ⟨g, 0, none⟩ = some (.int .i64 x)) :
    Calls Try.prog 65 #[.agg #[.int .i64 a, .int .i64 b, .int .i64 c], .pointer (some ⟨g, 0, none⟩)] w fun e w' => e = .returned (.bool (a == x)) ∧ Below w.heap.size w w' := by
  have hg : g < w.heap.size := World.block_lt_of_cell? w _ hc
  go_enter Try.func65, Try.ntmps65
  go_wp2
  all_goals
    go_ret
    exact ⟨rfl, (Below.refl _ _).alloc (Nat.le_refl _) _⟩
set_option maxRecDepth 100000 in
set_option maxHeartbeats 800000 in
theorem indexH_any (A : Option Addr) (n c : Nat) (hs : List H3) (x : Int) (g : Nat) (w : World) {lo hi : Nat} (hS : Sl w lo hi 3 A n (hostsV hs)) (hhi : hi ≤ w.heap.size) (hn : n ≤ 1048576) (hc : w.cell? ⟨g, 0, none⟩ = some (.int .i64 x)) :
    Calls Try.prog 64 #[.slice A n c, .func (.func 65) #[] #[.pointer (some ⟨g, 0, none⟩)]] w fun e w' => e = .returned (.int .i64 (atH hs x)) ∧ Below w.heap.size w w' := by
  have HL := Lib.hid hS.hlen
  have hg : g < w.heap.size := World.block_lt_of_cell? w _ hc
  go_enter Try.func64, Try.ntmps64
  go_wp2
  go_loopw [8] (fun i wr => ∃ k : Nat, k ≤ n ∧ i = .int .i64 k ∧ (∀ j, j < k → (hAt hs j).1 ≠ x) ∧ Below w.heap.size w wr) (fun i _ => n - (intOf i).toNat)
  case atStart => exact ⟨0, Nat.zero_le _, rfl, fun j hj => absurd hj (by omega), Below.refl _ _⟩
  case round =>
    obtain ⟨k, hk, rfl, hj, hb⟩ := hrel
    have hz := hb.size
    have HJ := Lib.hid hj
    clear hj
    by_cases hlt : k < n
    · obtain ⟨b, off, rfl, _, _, c0, c1, c2⟩ := (hS.below hb hhi).host hlt
      have hlk : k < hs.length := by rw [HL.out]; exact hlt
      have hcr : wr.cell? ⟨g, 0, none⟩ = some (.int .i64 x) := (hb.cell (p := ⟨g, 0, none⟩) hg).trans hc
      obtain ⟨⟨h0, h1, h2⟩, hh⟩ : ∃ p, hAt hs k = p := ⟨_, rfl⟩
      rw [hh] at c0 c1 c2
      simp only at c0 c1 c2
      have HH := Lib.hid hh
      clear hh
      have hki : (0 : Int) ≤ (k : Int) := by omega
      have hki2 : (k : Int) < (n : Int) := by omega
      by_cases he : h0 = x
      · have hbb : (h0 == x) = true := by simpa using he
        have HE : RowKit.Hid (atH hs x = k) := Lib.hid (atH_found hlk HJ.out (by rw [HH.out]; exact he))
        clear he
        go_wp2_with (go_at_call 65; refine (closH_any _ _ _ x g _ hcr).mono ?_; rw [hbb]; rintro e w1 ⟨rfl, hb1⟩)
        go_ret
        exact ⟨ret_int HE.out.symm, hb.trans (hb1.mono hz)⟩
      · have hbb : (h0 == x) = false := by simpa using he
        have HN : RowKit.Hid (h0 ≠ x) := Lib.hid he
        clear he
        go_wp2_with (go_at_call 65; refine (closH_any _ _ _ x g _ hcr).mono ?_; rw [hbb]; rintro e w1 ⟨rfl, hb1⟩)
        go_roundw
        case rel => exact ⟨k + 1, by omega, by go_num, fun j hj => by
          rcases Nat.lt_or_ge j k with h | h
          · exact HJ.out j h
          · obtain rfl : j = k := by omega
            rw [HH.out]; exact HN.out, hb.trans (hb1.mono hz)⟩
        case measure => simp [intOf]; omega
    · obtain rfl : n = k := by omega
      have HE : RowKit.Hid (atH hs x = -1) := Lib.hid (atH_none (by rw [HL.out]; exact HJ.out))
      go_wp2
      go_ret
      exact ⟨ret_int HE.out.symm, hb⟩
theorem hostAt_any (A : Option Addr) (n c : Nat) (hs : List H3) (x : Int) (w : World) {lo hi : Nat} (hS : Sl w lo hi 3 A n (hostsV hs)) (hhi : hi ≤ w.heap.size) (hn : n ≤ 1048576) :
    Calls Try.prog 45 #[.slice A n c, .int .i64 x] w fun e w' => e = .returned (.int .i64 (atH hs x)) ∧ Below w.heap.size w w' := by
  have hb0 := (Below.refl w.heap.size w).alloc (Nat.le_refl _) (.cells #[.int .i64 x] 3)
  have hc0 := (Blk.new w 3 #[.int .i64 x]).cell 0
  have hS0 := hS.alloc hhi (.cells #[.int .i64 x] 3)
  have hcon := indexH_any A n c hs x w.heap.size (w.alloc (.cells #[.int .i64 x] 3)) hS0 (Nat.le_trans hhi (by simp)) hn hc0
  go_enter Try.func45, Try.ntmps45
  go_wp2_with (go_at_call 64; refine hcon.mono ?_; rintro e w1 ⟨rfl, hb1⟩)
  go_ret
  exact ⟨rfl, hb0.trans (hb1.mono (by simp))⟩
/-- The state of a host. -/
def stH (hs : List H3) (x : Int) : Int := if poolV hs = true ∧ 0 ≤ atH hs x then (hAt hs (atH hs x).toNat).2.2 else 0
set_option maxHeartbeats 800000 in
theorem iHostState_any (A : Option Addr) (n c : Nat) (hs : List H3) (x : Int) (w : World) {lo hi : Nat} (hS : Sl w lo hi 3 A n (hostsV hs)) (hhi : hi ≤ w.heap.size) (hn : n ≤ 1048576) :
    Calls Try.prog 22 #[.slice A n c, .int .i64 x] w fun e w' => e = .returned (.int .i64 (stH hs x)) ∧ Below w.heap.size w w' := by
  have HL := Lib.hid hS.hlen
  by_cases hv : poolV hs = true
  · rcases atH_cases hs x with ⟨h1, _⟩ | ⟨k, hk, h1, h2, _⟩
    · have HE : RowKit.Hid (stH hs x = 0) := Lib.hid (by unfold stH; rw [h1, if_neg (by omega)])
      have H1 := Lib.hid h1
      clear h1
      go_enter Try.func22, Try.ntmps22
      go_wp2_with (first | (go_at_call 45; refine (hostAt_any _ _ _ hs _ _ hS hhi hn).mono ?_; rw [H1.out]; rintro e w1 ⟨rfl, hb1⟩) | (go_at_call 24; refine (iPoolValid_any _ _ _ hs _ (hS.below hb1 hhi) (Nat.le_trans hhi hb1.size) hn).mono ?_; rw [hv]; rintro e w2 ⟨rfl, hb2⟩))
      go_ret
      exact ⟨ret_int HE.out.symm, hb1.trans (hb2.mono hb1.size)⟩
    · have HE : RowKit.Hid (stH hs x = (hAt hs k).2.2) := Lib.hid (by unfold stH; rw [h1, if_pos ⟨hv, by omega⟩, Int.toNat_natCast])
      have H1 := Lib.hid h1
      have hkn : k < n := by rw [← HL.out]; exact hk
      have hki : (0 : Int) ≤ (k : Int) := by omega
      have hki2 : (k : Int) < (n : Int) := by omega
      obtain ⟨z, hz⟩ : ∃ z, (hAt hs k).2.2 = z := ⟨_, rfl⟩
      rw [hz] at HE
      have HZ := Lib.hid hz
      clear h1 h2 hk hz
      go_enter Try.func22, Try.ntmps22
      go_wp2_with (first | (go_at_call 45; refine (hostAt_any _ _ _ hs _ _ hS hhi hn).mono ?_; rw [H1.out]; rintro e w1 ⟨rfl, hb1⟩) | (go_at_call 24; refine (iPoolValid_any _ _ _ hs _ (hS.below hb1 hhi) (Nat.le_trans hhi hb1.size) hn).mono ?_; rw [hv]; rintro e w2 ⟨rfl, hb2⟩; have hbb := hb1.trans (hb2.mono hb1.size); obtain ⟨b, off, rfl, _, _, _, _, c2⟩ := (hS.below hbb hhi).host hkn; rw [HZ.out] at c2))
      go_ret
      exact ⟨ret_int HE.out.symm, hbb⟩
  · have hv' := Bool.eq_false_iff.2 hv
    have HE : RowKit.Hid (stH hs x = 0) := Lib.hid (by unfold stH; rw [if_neg (fun h => hv h.1)])
    clear hv
    go_enter Try.func22, Try.ntmps22
    go_wp2_with (first | (go_at_call 45; refine (hostAt_any _ _ _ hs _ _ hS hhi hn).mono ?_; rintro e w1 ⟨rfl, hb1⟩) | (go_at_call 24; refine (iPoolValid_any _ _ _ hs _ (hS.below hb1 hhi) (Nat.le_trans hhi hb1.size) hn).mono ?_; rw [hv']; rintro e w2 ⟨rfl, hb2⟩))
    go_ret
    exact ⟨ret_int HE.out.symm, hb1.trans (hb2.mono hb1.size)⟩
/-! ### CountOf, keysFit -/
end Go.Proofs.Ytgdcfhifiincaaa
